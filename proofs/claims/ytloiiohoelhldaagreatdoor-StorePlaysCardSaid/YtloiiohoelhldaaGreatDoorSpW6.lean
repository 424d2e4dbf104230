import Derived.Test.YtloiiohoelhldaaGreatDoorSpV
import Derived.Test.YtloiiohoelhldaaGreatDoorSpW5
import Derived.Test.YtloiiohoelhldaaGreatDoorChecked
import Derived.KernelRfl
import Derived.Test.YtloiiohoelhldaaGreatDoorZg
set_option maxRecDepth 100000
set_option maxHeartbeats 8000000
namespace Go.Proofs.YtloiiohoelhldaaGreatDoor
open Go.S
set_option linter.unusedVariables false
set_option linter.unusedSimpArgs false
theorem qoH{a0 a1 A81 kJ kI kC kE kM kL w r F}(h:qlE a0 a1 A81 kJ=some r)(hc0:Cls w F (taZ kI kC kE kM A81 kL kJ) w):qz Tryz.prog 110 [VP kI a0,.int .i64 a1] F w fun u m=>u=VP kE r∧m=(taZ kI kC kE kM A81 kL kJ):=by
 rw[qlE]at h
 refine body (n:=31) Tryz.func110 O O O hc0<|bi1 h fun th1 kR h=>bC (D:=Cls w F<|taf kI a0 kC th1 kM kE A81 kL kJ) (aoI 0 O kR)<|sr<|L.r 1 O<|ln<|ar (fun gs D=>gs=[]∧D=tby w F kI kC kE kM A81 a0 kL kJ th1∧qih=some r) ?_ ?_
 ·refine sr<|L.r 1 O<|yNF O kR qcI<|bi1 h fun _ en2 h=>?_
  obtain⟨_,en2⟩:=qd en2
  obtain⟨_,en3,h⟩:=qq h
  obtain⟨_,en3⟩:=qd en3
  refine yL (al (q:=0) (si:=6) (ps:=26) (j:=0) (X:=[(tc kM a0)]) qmT O O O O (by simp[zl,qc,en2,en3]) O)<|yL (aF (g:=(PR kE)) (l:=th1.deals_) Tryz.underlying79 O<|aG 1 O)<|L.r 1 O<|cjp<|au (fun m gs D=>∃gx1,gs=[(1,.int .i64 a1),(10,(tc kM a0)),(11,tcA th1),(12,.int .i64 gx1)]∧D=tby w F kI kC kE kM A81 a0 kL kJ th1∧va th1 kJ a1 m gx1=some r) ⟨0,O,O,h⟩ ⟨O,O,O,O,trivial⟩ (sI [4,5,0,2,3,1]) ?_
  rintro m _ _ ⟨gx1,rfl,rfl,h⟩
  rcases m with _|m
  ·rw[va]at h;cases h
  rw[va]at h
  generalize hg1:va th1 kJ a1 m=go1 at h
  rw[qcc]at h
  refine sr<|ltL h (fun c4 h=>?_) fun c4 h=>?_
  ·refine cje<|mL (fun _=>el (tc kM a0)<|tbG gx1) h (ap (g:=(PR kE)) (l:=th1.deals_) Tryz.underlying79 qgG O O<|aG 5 O) fun x5 ex5 h=>(yL (aB (u:=VP kE x5) kq O (aG 5 O)<|ql ex5)<|L.r 1 O<|ae<|ab<|sr<|L.r 1 O<|bi1 h fun th6 xT h=>aj (D:=Cls w F (tW kE x5 th6 kL::tam kL x5 th6::mpo st (td kL x5) th6.texts_::tbR kE kL kJ x5::taK kI kC kE kM A81 a0::tch kI a0 kC th1 kM kE)) (aoI 1 O xT)<|yNP O xT qk2 0 ag3 O O<|L.r 1 O<|eqL h (fun c7 h=>?_) fun c7 h=>?_)
   ·refine L.r 2 O<|tkL<|yN O xT<|tkL<|yF qbn O<|tkL<|ibL h (am (i:=0) ag4 O O O) (fun c8 h=>?_) fun c8 h=>?_
    ·exact tkL<|yL (bf O)<|L.r 1 O<|cja<|cjj<|mA h fun x9 ex9 h=>(L.r 1 O<|ae<|az (D:=Cls w F<|tbv kE kL kJ kI kC kM A81 a0 th1) (asI [0,1,2,3,4,5,6,7,8] xT O)<|bi ⟨x9,O,O,by rw[hg1];exact h⟩<|sI [1,0,2,3,4,5])
    cases h
    exact tkL<|yL (bf O)<|L.r 1 O<|cjb<|L.r 2 O<|cjc<|cjk<|az (D:=Cls w F<|tbv kE kL kJ kI kC kM A81 a0 th1) (asI [0,1,2,3,4,5,6,7,8] xT O)<|az (D:=Cls w F<|taZ kI kC kE kM A81 kL kJ) (asI [2,5,3,4,1,0] kR O)<|rT d0
   exact L.r 7 O<|cja<|cjj<|mA h fun x10 ex10 h=>(L.r 1 O<|ae<|az (D:=Cls w F<|tbv kE kL kJ kI kC kM A81 a0 th1) (asI [0,1,2,3,4,5,6,7,8] xT O)<|bi ⟨x10,O,O,by rw[hg1];exact h⟩<|sI [1,0,2,3,4,5])
  exact cjm<|cjd<|bB ⟨O,O,h⟩ trivial hI
 rintro _ _ ⟨rfl,rfl,h⟩
 rw[qih]at h
 cases h
 exact sr<|L.r 1 O<|cjc<|az (D:=Cls w F<|taZ kI kC kE kM A81 kL kJ) (asI [2,5,3,4,0,1] kR O)<|rT d0
theorem W68{a0 a1 a2 a3 A81 kJ kI kC kE kM kL w r F}(h:M68 a0 a1 a2 a3 A81 kJ=some r)(hc0:Cls w F (taZ kI kC kE kM A81 kL kJ) w):qz Tryz.prog 68 [VP kI a0,.int .i64 a1,.int .i64 a2,.bool a3] F w fun u m=>u=.tuple #[VP kE r.1,.int .i64 r.2]∧m=(taZ kI kC kE kM A81 kL kJ):=by
 rw[M68]at h
 refine body (n:=48) Tryz.func68 O O O hc0<|bi1 h fun th1 kR h=>bC (D:=Cls w F<|taf kI a0 kC th1 kM kE A81 kL kJ) (aoI 0 O kR)<|sr<|L.r 2 O<|nsr<|L.r 2 O<|aj (D:=Cls w F<|taZ kI kC kE kM A81 kL kJ) (asI [0,1,2,3,4,5] kR O)<|bi1 h fun x2 e3 h=>dP (taZ kI kC kE kM A81 kL kJ) [] O (fun w' hw=>qoH e3 hw.lend) ?_
 rintro _ _ ⟨rfl,rfl⟩
 refine aj (D:=Cls w F<|taZ kI kC kE kM A81 kL kJ) hI<|bi1 h fun th4 xN h=>aj (D:=Cls w F<|taf kI a0 kC th4 kM kE A81 kL kJ) (aoI 0 O xN)<|L.r 1 O<|cjm<|W.block<|sr<|L.r 1 O<|yNF O xN qcJ<|bi1 h fun _ en5 h=>?_
 obtain⟨_,en5⟩:=qd en5
 refine ibL h (al (q:=0) (si:=3) (ps:=4) (j:=0) (X:=[.bool th4.down_]) ag4 O O O O (by simp[zl,qc,en5]) O) (fun c6 h=>?_) fun c6 h=>?_
 ·cases h
  exact L.r 1 O<|cjb<|L.r 2 O<|cjc<|ak<|aM<|az (D:=Cls w F<|taZ kI kC kE kM A81 kL kJ) (asI [0,1,2,3,4,5] xN O)<|rT2 d0
 refine L.r 1 O<|cjn<|bd 6 (fun gs D=>∃gb1,gs=[(2,.int .i64 a2),(3,.bool a3),(10,VP kE x2),(25,.bool gb1)]∧D=tby w F kI kC kE kM A81 a0 kL kJ th4∧qd3 a2 a3 x2 gb1=some r) ?_ ?_
 ·refine L.r 1 O<|ltL h (fun c13 h=>?_) fun c13 h=>?_
  ·exact L.r 4 O<|ae<|ay ⟨true,O,O,h⟩<|sI [4,5,0,2,3,1]
  refine L.r 2 O<|tkL<|gtL h (fun c14 h=>?_) fun c14 h=>?_
  ·exact L.r 1 O<|ae<|ay ⟨true,O,O,h⟩<|sI [4,5,0,2,3,1]
  exact L.r 1 O<|ae<|ay ⟨false,O,O,h⟩<|sI [4,5,0,2,3,1]
 rintro _ _ ⟨gb1,rfl,rfl,h⟩
 rw[qd3]at h
 rcases gb1 with _|_
 ·replace h:=qU h
  refine bd 8 (fun gs D=>∃gb2,gs=[(3,.bool a3),(10,VP kE x2),(33,.bool gb2)]∧D=tby w F kI kC kE kM A81 a0 kL kJ th4∧qd2 a3 x2 gb2=some r) ?_ ?_
  ·refine L.r 2 O<|tkL<|ltL h (fun c11 h=>?_) fun c11 h=>?_
   ·exact L.r 5 O<|ae<|ay ⟨true,O,O,h⟩ hI
   refine L.r 3 O<|tkL<|gtL h (fun c12 h=>?_) fun c12 h=>?_
   ·exact L.r 1 O<|ae<|ay ⟨true,O,O,h⟩ hI
   exact L.r 1 O<|ae<|ay ⟨false,O,O,h⟩ hI
  rintro _ _ ⟨gb2,rfl,rfl,h⟩
  rw[qd2]at h
  rcases gb2 with _|_
  ·replace h:=qU h
   refine L.r 1 O<|cjn<|bd 5 (fun gs D=>∃gb3,gs=[(3,.bool a3),(10,VP kE x2),(39,.bool gb3)]∧D=tby w F kI kC kE kM A81 a0 kL kJ th4∧qd1 a3 x2 gb3=some r) ?_ ?_
   ·refine ibL h (bv O) (fun c9 h=>?_) fun c9 h=>?_
    ·refine L.r 2 O<|tkL<|iL h (cW Tryz.underlying143 O O) (fun c10 h=>?_) fun c10 h=>?_
     ·exact L.r 1 O<|ae<|ay ⟨true,O,O,h⟩ hI
     exact L.r 1 O<|ae<|ay ⟨false,O,O,h⟩ hI
    exact L.r 4 O<|ae<|ay ⟨false,O,O,h⟩ hI
   rintro _ _ ⟨gb3,rfl,rfl,h⟩
   rw[qd1]at h
   rcases gb3 with _|_
   ·replace h:=qU h
    refine L.r 1 O<|cjn<|bd 6 (fun gs D=>∃gb4,gs=[(10,VP kE x2),(46,.bool gb4)]∧D=tby w F kI kC kE kM A81 a0 kL kJ th4∧qd0 x2 gb4=some r) ?_ ?_
    ·refine ibL h (bv O) (fun c7 h=>?_) fun c7 h=>?_
     ·exact yL (bf O)<|L.r 4 O<|ae<|ay ⟨false,O,O,h⟩ hI
     refine yL (bf O)<|L.r 2 O<|tkL<|iL h (cD Tryz.underlying143 O O) (fun c8 h=>?_) fun c8 h=>?_
     ·exact L.r 1 O<|ae<|ay ⟨true,O,O,h⟩ hI
     exact L.r 1 O<|ae<|ay ⟨false,O,O,h⟩ hI
    rintro _ _ ⟨gb4,rfl,rfl,h⟩
    rw[qd0]at h
    rcases gb4 with _|_
    ·replace h:=qU h
     cases h
     exact L.r 1 O<|cja<|aq<|ab<|sr<|L.r 3 O<|cjc<|az (D:=Cls w F<|taZ kI kC kE kM A81 kL kJ) (asI [2,5,3,4,0,1] xN O)<|rT2 d0
    replace h:=qT h
    cases h
    exact L.r 1 O<|cjb<|L.r 2 O<|cjc<|ak<|aM<|az (D:=Cls w F<|taZ kI kC kE kM A81 kL kJ) (asI [2,5,3,4,0,1] xN O)<|rT2 d0
   replace h:=qT h
   cases h
   exact L.r 1 O<|cjb<|L.r 2 O<|cjc<|ak<|aM<|az (D:=Cls w F<|taZ kI kC kE kM A81 kL kJ) (asI [2,5,3,4,0,1] xN O)<|rT2 d0
  replace h:=qT h
  cases h
  exact L.r 1 O<|cjb<|L.r 2 O<|cjc<|ak<|aM<|az (D:=Cls w F<|taZ kI kC kE kM A81 kL kJ) (asI [2,5,3,4,0,1] xN O)<|rT2 d0
 replace h:=qT h
 cases h
 exact L.r 9 O<|cjb<|L.r 2 O<|cjc<|ak<|aM<|az (D:=Cls w F<|taZ kI kC kE kM A81 kL kJ) (asI [2,5,3,4,0,1] xN O)<|rT2 d0
theorem W30{a0 a1 A81 kJ kI kC kE kM kL w r F}(h:M30 a0 a1 A81 kJ=some r)(hc0:Cls w F [jS kI kC kE kM A81 [],zP kE kL kJ []] w):qz Tryz.prog 30 [VP kI a0,.int .i64 a1] F w fun u m=>∃G149 Q81 Q149,Gr kE kJ.length G149 r.2.1.length∧u=.int .i64 r.2.2∧m=[jS kI kC G149 Q81 r.1 [],zP G149 Q149 r.2.1 []]:=by
 rw[M30]at h
 obtain⟨g149,hg149⟩:∃g,g=kE:=⟨_,rfl⟩
 have xP:Gr g149 kJ.length kE kJ.length:=hg149▸Gr.refl _ _
 refine body (n:=33) Tryz.func30 O O O hc0<|bi1 h fun th1 kR h=>bC (D:=Cls w F [.obj (kI a0.toNat) (List.flatten [(zr (fzr (PR kC)) (fun _=>[]) th1.logs_).flatten,[.int .i64 th1.half_],[.int .i64 th1.gen_],[.bool th1.down_],[.int .i64 th1.now_],(zr (fzr SR) (fun _=>[]) th1.first_).flatten,[(gv (kM a0.toNat) 0)]]) 81,.sl (gv (kM a0.toNat) 0) 143 1 (th1.deals_.map (PR kE)),.ss (zs sd0 (fun _=>[]) th1.logs_),.ss (zs sd0 (fun _=>[]) th1.first_),jS kI kC kE kM A81 (a0.toNat::[]),zP kE kL kJ []]) (aoI 0 O kR)<|sr<|L.r 1 O<|nsr<|L.r 2 O<|aj (D:=Cls w F [jS kI kC kE kM A81 [],zP kE kL kJ []]) (asI [0,1,2,3,4,5] kR O)<|bi2 h fun x2 x3 e4 h=>aV (A:=[jS kI kC kE kM A81 [],zP kE kL kJ []]) (M:=[]) O qeF O (fun w' hw=>W68 e4 hw.lend) ?_
 rintro _ _ ⟨rfl,rfl⟩
 refine aj (D:=Cls w F [jS kI kC kE kM A81 [],zP kE kL kJ []]) hI<|bi1 h fun th5 jY h=>aj (D:=Cls w F [.obj (kI a0.toNat) (List.flatten [(zr (fzr (PR kC)) (fun _=>[]) th5.logs_).flatten,[.int .i64 th5.half_],[.int .i64 th5.gen_],[.bool th5.down_],[.int .i64 th5.now_],(zr (fzr SR) (fun _=>[]) th5.first_).flatten,[(gv (kM a0.toNat) 0)]]) 81,.sl (gv (kM a0.toNat) 0) 143 1 (th5.deals_.map (PR kE)),.ss (zs sd0 (fun _=>[]) th5.logs_),.ss (zs sd0 (fun _=>[]) th5.first_),jS kI kC kE kM A81 (a0.toNat::[]),zP kE kL kJ []]) (aoI 0 O jY)<|L.r 5 O<|cjf<|L.r 1 O<|eqL h (fun c6 h=>?_) fun c6 h=>?_
 ·refine cjg<|av (k:=18) (stC [[13,14,17],[14,17],[17]] [Cls w F [.obj (kI a0.toNat) (List.flatten [(zr (fzr (PR kC)) (fun _=>[]) th5.logs_).flatten,[.int .i64 th5.half_],[.int .i64 th5.gen_],[.bool th5.down_],[.int .i64 th5.now_],(zr (fzr SR) (fun _=>[]) th5.first_).flatten,[(gv (kM a0.toNat) 0)]]) 81,.sl (gv (kM a0.toNat) 0) 143 1 (th5.deals_.map (PR kE)),.ss (zs sd0 (fun _=>[]) th5.logs_),.ss (zs sd0 (fun _=>[]) th5.first_),jS kI kC kE kM A81 (a0.toNat::[]),zP kE kL kJ []],Cls w F [.obj (kI a0.toNat) (List.flatten [(zr (fzr (PR kC)) (fun _=>[]) th5.logs_).flatten,[.int .i64 th5.half_],[.int .i64 th5.gen_],[.bool th5.down_],[.int .i64 th5.now_],(zr (fzr SR) (fun _=>[]) th5.first_).flatten,[(gv (kM a0.toNat) 0)]]) 81,.sl (gv (kM a0.toNat) 0) 143 1 (th5.deals_.map (PR kE)),.ss (zs sd0 (fun _=>[]) th5.logs_),.ss (zs sd0 (fun _=>[]) th5.first_),jS kI kC kE kM A81 (a0.toNat::[])],Cls w F [.obj (kI a0.toNat) (List.flatten [(zr (fzr (PR kC)) (fun _=>[]) th5.logs_).flatten,[.int .i64 th5.half_],[.int .i64 th5.gen_],[.bool th5.down_],[.int .i64 th5.now_],(zr (fzr SR) (fun _=>[]) th5.first_).flatten,[(gv (kM a0.toNat) 0)]]) 81,.ss (zs sd0 (fun _=>[]) th5.logs_),.ss (zs sd0 (fun _=>[]) th5.first_),jS kI kC kE kM A81 (a0.toNat::[])]]<|Cls w F [.ss (zs sd0 (fun _=>[]) th5.logs_),.ss (zs sd0 (fun _=>[]) th5.first_),jS kI kC kE kM A81 (a0.toNat::[])]) O mixed (fun _ hw=>hw.drew) sn<|aA [] (ax (ax (ax zF<|sI [1,2,3])<|sI [2,3,4])<|sI [2,3,4]) fun hz82=>(vR [0,1] O<|vN 2 [] O hz82 O jY<|vQ 3 [] hz82 O (aa qcI O)<|aA [17] (ax (ax (be hI)<|sI [0,2,3,4])<|sI [0,2,3,4]) fun hz83=>bi1 h fun _ en84 h=>?_)
  obtain⟨_,en84⟩:=qd en84
  obtain⟨_,en85,h⟩:=qq h
  obtain⟨_,en85⟩:=qd en85
  refine vQ 4 [17] hz83 O (al (q:=0) (si:=6) (ps:=26) (j:=0) (X:=[(gv (kM a0.toNat) 0)]) qmT O O O O (by simp[zl,qc,en84,en85]) O)<|vR [5,6] O<|vN 7 [] O hz82 O jY<|vQ 8 [] hz82 O (aa ka O)<|vQ 9 [17] hz83 O (al (q:=0) (si:=4) (ps:=5) (j:=0) (X:=[.int .i64 th5.now_]) ag3 O O O O (by simp[zl,qc,en84]) O)<|vE 10 O<|cU O fun b86=>ltV (stC [[13,14,17],[14,17],[17]] [Cls w F [.mp b86 (zw st []),.obj (kI a0.toNat) (List.flatten [(zr (fzr (PR kC)) (fun _=>[]) th5.logs_).flatten,[.int .i64 th5.half_],[.int .i64 th5.gen_],[.bool th5.down_],[.int .i64 th5.now_],(zr (fzr SR) (fun _=>[]) th5.first_).flatten,[(gv (kM a0.toNat) 0)]]) 81,.sl (gv (kM a0.toNat) 0) 143 1 (th5.deals_.map (PR kE)),.ss (zs sd0 (fun _=>[]) th5.logs_),.ss (zs sd0 (fun _=>[]) th5.first_),jS kI kC kE kM A81 (a0.toNat::[]),zP kE kL kJ []],Cls w F [.obj (kI a0.toNat) (List.flatten [(zr (fzr (PR kC)) (fun _=>[]) th5.logs_).flatten,[.int .i64 th5.half_],[.int .i64 th5.gen_],[.bool th5.down_],[.int .i64 th5.now_],(zr (fzr SR) (fun _=>[]) th5.first_).flatten,[(gv (kM a0.toNat) 0)]]) 81,.sl (gv (kM a0.toNat) 0) 143 1 (th5.deals_.map (PR kE)),.ss (zs sd0 (fun _=>[]) th5.logs_),.ss (zs sd0 (fun _=>[]) th5.first_),jS kI kC kE kM A81 (a0.toNat::[])],Cls w F [.obj (kI a0.toNat) (List.flatten [(zr (fzr (PR kC)) (fun _=>[]) th5.logs_).flatten,[.int .i64 th5.half_],[.int .i64 th5.gen_],[.bool th5.down_],[.int .i64 th5.now_],(zr (fzr SR) (fun _=>[]) th5.first_).flatten,[(gv (kM a0.toNat) 0)]]) 81,.ss (zs sd0 (fun _=>[]) th5.logs_),.ss (zs sd0 (fun _=>[]) th5.first_),jS kI kC kE kM A81 (a0.toNat::[])]]<|Cls w F [.ss (zs sd0 (fun _=>[]) th5.logs_),.ss (zs sd0 (fun _=>[]) th5.first_),jS kI kC kE kM A81 (a0.toNat::[])]) 10 (Sc.stay (sI [1,2,3,4,5,6])<|sT<|sT sD) sn<|aA [] (ax (ax (ax zF<|sI [1,2,3])<|sI [2,3,4])<|sI [3,4,5]) fun hz87=>(vQ 11 [] hz87 O (bl (cells:=#[.int .i64 a1,.int .i64 th5.now_,.int .i64 0,.bool false,.slice none 0 0,.map (some b86)]) O (by kernel_rfl))<|vE 12 O<|bV O O fun b88=>ltV (stC [[13,14,17],[14,17],[17]] [Cls w F [.obj b88 [.int .i64 a1,.int .i64 th5.now_,.int .i64 0,.bool false,.slice none 0 0,.map (some b86)] 149,.mp b86 (zw st []),.obj (kI a0.toNat) (List.flatten [(zr (fzr (PR kC)) (fun _=>[]) th5.logs_).flatten,[.int .i64 th5.half_],[.int .i64 th5.gen_],[.bool th5.down_],[.int .i64 th5.now_],(zr (fzr SR) (fun _=>[]) th5.first_).flatten,[(gv (kM a0.toNat) 0)]]) 81,.sl (gv (kM a0.toNat) 0) 143 1 (th5.deals_.map (PR kE)),.ss (zs sd0 (fun _=>[]) th5.logs_),.ss (zs sd0 (fun _=>[]) th5.first_),jS kI kC kE kM A81 (a0.toNat::[]),zP kE kL kJ []],Cls w F [.obj (kI a0.toNat) (List.flatten [(zr (fzr (PR kC)) (fun _=>[]) th5.logs_).flatten,[.int .i64 th5.half_],[.int .i64 th5.gen_],[.bool th5.down_],[.int .i64 th5.now_],(zr (fzr SR) (fun _=>[]) th5.first_).flatten,[(gv (kM a0.toNat) 0)]]) 81,.sl (gv (kM a0.toNat) 0) 143 1 (th5.deals_.map (PR kE)),.ss (zs sd0 (fun _=>[]) th5.logs_),.ss (zs sd0 (fun _=>[]) th5.first_),jS kI kC kE kM A81 (a0.toNat::[])],Cls w F [.obj (kI a0.toNat) (List.flatten [(zr (fzr (PR kC)) (fun _=>[]) th5.logs_).flatten,[.int .i64 th5.half_],[.int .i64 th5.gen_],[.bool th5.down_],[.int .i64 th5.now_],(zr (fzr SR) (fun _=>[]) th5.first_).flatten,[(gv (kM a0.toNat) 0)]]) 81,.ss (zs sd0 (fun _=>[]) th5.logs_),.ss (zs sd0 (fun _=>[]) th5.first_),jS kI kC kE kM A81 (a0.toNat::[])]]<|Cls w F [.ss (zs sd0 (fun _=>[]) th5.logs_),.ss (zs sd0 (fun _=>[]) th5.first_),jS kI kC kE kM A81 (a0.toNat::[])]) 12 (Sc.stay (sI [1,2,3,4,5,6,7])<|sT<|sT sD) sn<|vE 13 O<|L.nilSl 151 3<|bi1 h fun _ ck89 h=>have ck89:=qw ck89;?_)
  obtain⟨ck89_0,ck89_1⟩:=ck89
  refine L.arNew (rowg:=fun g=>TDeal.rowA) (subg:=fun g=>TDeal.subA) (e:=149) (g:=kE) (gh:=kL) (l:=kJ) (hs:=[]) (b:=b88) (u1:=(⟨a1,th5.now_,0,false,[],(some [])⟩:TDeal)) (vs':=[(.slice none 0 0),.map (some b86)]) (m':=[.obj (kI a0.toNat) (List.flatten [(zr (fzr (PR kC)) (fun _=>[]) th5.logs_).flatten,[.int .i64 th5.half_],[.int .i64 th5.gen_],[.bool th5.down_],[.int .i64 th5.now_],(zr (fzr SR) (fun _=>[]) th5.first_).flatten,[(gv (kM a0.toNat) 0)]]) 81,.sl (gv (kM a0.toNat) 0) 143 1 (th5.deals_.map (PR kE)),.ss (zs sd0 (fun _=>[]) th5.logs_),.ss (zs sd0 (fun _=>[]) th5.first_),jS kI kC kE kM A81 (a0.toNat::[])]) [1,0,2,8,3,4,5,6,7] h (by decide) O (fun _ h=>nomatch h) (fun _ _ _ _ _=>⟨O,O⟩) fun kE q90 x91 l92 h hg93 hv94 hi95=>?_
  rw[hv94]
  replace xP:=xP.trans hg93
  rw[qf0 hg93 ck89_0]
  rw[qf5 hg93 ck89_1]
  refine aj (D:=Cls w F [zP kE q90 l92 [],.obj (kI a0.toNat) (List.flatten [(zr (fzr (PR kC)) (fun _=>[]) th5.logs_).flatten,[.int .i64 th5.half_],[.int .i64 th5.gen_],[.bool th5.down_],[.int .i64 th5.now_],(zr (fzr SR) (fun _=>[]) th5.first_).flatten,[(gv (kM a0.toNat) 0)]]) 81,.sl (gv (kM a0.toNat) 0) 143 1 (th5.deals_.map (PR kE)),.ss (zs sd0 (fun _=>[]) th5.logs_),.ss (zs sd0 (fun _=>[]) th5.first_),jS kI kC kE kM A81 (a0.toNat::[])]) hI<|aI O Tryz.underlying79 qhy O (qL _ _) fun b96=>ltV (stC [[14,17],[17]] [Cls w F [.sl (sv b96 1) 143 1 (([x91]).map (PR kE)),.obj (kI a0.toNat) (List.flatten [(zr (fzr (PR kC)) (fun _=>[]) th5.logs_).flatten,[.int .i64 th5.half_],[.int .i64 th5.gen_],[.bool th5.down_],[.int .i64 th5.now_],(zr (fzr SR) (fun _=>[]) th5.first_).flatten,[(gv (kM a0.toNat) 0)]]) 81,.sl (gv (kM a0.toNat) 0) 143 1 (th5.deals_.map (PR kE)),.ss (zs sd0 (fun _=>[]) th5.logs_),.ss (zs sd0 (fun _=>[]) th5.first_),jS kI kC kE kM A81 (a0.toNat::[])],Cls w F [.sl (sv b96 1) 143 1 (([x91]).map (PR kE)),.obj (kI a0.toNat) (List.flatten [(zr (fzr (PR kC)) (fun _=>[]) th5.logs_).flatten,[.int .i64 th5.half_],[.int .i64 th5.gen_],[.bool th5.down_],[.int .i64 th5.now_],(zr (fzr SR) (fun _=>[]) th5.first_).flatten,[(gv (kM a0.toNat) 0)]]) 81,.ss (zs sd0 (fun _=>[]) th5.logs_),.ss (zs sd0 (fun _=>[]) th5.first_),jS kI kC kE kM A81 (a0.toNat::[])]]<|Cls w F [.sl (sv b96 1) 143 1 (([x91]).map (PR kE)),.ss (zs sd0 (fun _=>[]) th5.logs_),.ss (zs sd0 (fun _=>[]) th5.first_),jS kI kC kE kM A81 (a0.toNat::[])]) 13 (aw O<|Sc.stay (sI [1,2,3,4,5])<|Sc.stay (sI [1,2,3,4])<|aD<|sI [1,2,3]) (sN<|sI [0,2,3,4,5,6])<|vE 14 O<|bc (i:=3) (g:=(PR kE)) (l:=th5.deals_) (more:=[x91]) h O Tryz.underlying79 qhy O O O (aG 0 O) (jt _) O fun v97 l98 el98 h=>ltV (stC [[17]] [Cls w F [.sl v97 143 1 (l98.map (PR kE)),.sl (sv b96 1) 143 1 (([x91]).map (PR kE)),.obj (kI a0.toNat) (List.flatten [(zr (fzr (PR kC)) (fun _=>[]) th5.logs_).flatten,[.int .i64 th5.half_],[.int .i64 th5.gen_],[.bool th5.down_],[.int .i64 th5.now_],(zr (fzr SR) (fun _=>[]) th5.first_).flatten,[(gv (kM a0.toNat) 0)]]) 81,.ss (zs sd0 (fun _=>[]) th5.logs_),.ss (zs sd0 (fun _=>[]) th5.first_),jS kI kC kE kM A81 (a0.toNat::[])]]<|Cls w F [.sl v97 143 1 (l98.map (PR kE)),.sl (sv b96 1) 143 1 (([x91]).map (PR kE)),.ss (zs sd0 (fun _=>[]) th5.logs_),.ss (zs sd0 (fun _=>[]) th5.first_),jS kI kC kE kM A81 (a0.toNat::[])]) 14 (aw O<|Sc.stay (sI [1,2,3,4,5])<|aD<|sI [1,2,3,4]) (sN<|sI [0,1,3,4,5,6])<|aA [] (ax zF<|sI [0,1,3,4,5]) fun hz99=>(vN 15 [] O hz99 O jY<|vQ 16 [] hz99 O (aa qcI O)<|vE 17 O<|bP (q:=3) (si:=6) (ps:=26) (j:=0) (X:=[(gv (kM a0.toNat) 0)]) qof O O O (fun _ hw=>(As.at_ (hw.get (i:=0) O)).one) O O (by simp[zl,qc,en84,en85]) O<|ltV (stC [] []<|Cls w F [.sl v97 143 1 (l98.map (PR kE)),.sl (sv b96 1) 143 1 (([x91]).map (PR kE)),.ss (zs sd0 (fun _=>[]) th5.logs_),.ss (zs sd0 (fun _=>[]) th5.first_),jS kI kC kE kM A81 (a0.toNat::[])]) 17 (aw O sD) (aP<|sI [0,1,4,5,6])<|vD<|ab<|sr<|L.r 2 O<|cjc<|bi1 h fun l101 el101 h=>bL (row:=TStore81.rowA kC kE) (sub:=TStore81.subA kC kE) (e:=81) (g:=kI) (gh:=kM) (vs':=[v97]) (m':=[.sl (sv b96 1) 143 1 (([x91]).map (PR kE)),zP kE q90 l92 []]) [3,0,4,5,6,1,2] el101 O fun q100=>az (D:=Cls w F [jS kI kC kE q100 l101 [],.sl (sv b96 1) 143 1 (([x91]).map (PR kE)),zP kE q90 l92 []]) hI<|rT fun w1 hw=>?_)
  cases h
  exact⟨_,_,O,⟨_,_,_,(hg149▸xP),O,O⟩,hw.s [0,2]⟩
 cases h
 exact cji<|L.r 2 O<|cjc<|az (D:=Cls w F [jS kI kC kE kM A81 [],zP kE kL kJ []]) (asI [0,1,2,3,4,5] jY O)<|rT fun w1 hw=>⟨_,_,O,⟨_,_,_,(hg149▸xP),O,O⟩,hw⟩
theorem W37{a0 a1 a2 A81 kJ kI kC kE kM kL w r F}(h:M37 a0 a1 a2 A81 kJ=some r)(hc0:Cls w F (taZ kI kC kE kM A81 kL kJ) w):qz Tryz.prog 37 (VP kI a0::tcH a1 a2) F w fun u m=>u=st r∧m=(taZ kI kC kE kM A81 kL kJ):=by
 rw[M37]at h
 refine body (n:=61) Tryz.func37 O O O hc0<|bi1 h fun th1 kR h=>bC (D:=Cls w F<|taf kI a0 kC th1 kM kE A81 kL kJ) (aoI 0 O kR)<|sr<|L.r 1 O<|nsr<|L.r 2 O<|yNF O kR qjX<|mL (fun _=>tcG kI a0 a1) h (aR (l:=th1.first_) Tryz.underlying46 sz9 O O) fun x2 ex2 h=>bi1 h fun _ en3 h=>?_
 obtain⟨_,en3⟩:=qd en3
 refine yL (bF (si:=5) (ps:=6) (q:=0) (row:=(fzr SR)) (vs:=(fun _=>[])) (j:=0) (pv:=st x2) ag9 O O O O (by simp[zl,qc,en3]) (fun _ _=>O) (qm ex2) O)<|L.r 2 O<|ln<|ar (fun gs D=>∃gs1,gs=[(7,st gs1)]∧D=tby w F kI kC kE kM A81 a0 kL kJ th1∧qjy gs1=some r) ?_ ?_
 ·refine sr<|L.r 1 O<|yNF O kR qcI<|bi1 h fun _ en4 h=>?_
  obtain⟨_,en4⟩:=qd en4
  refine yL (al (q:=0) (si:=6) (ps:=26) (j:=0) (X:=[(tc kM a0)]) qmT O O O O (by simp[zl,qc,en3,en4]) O)<|yL (aF (g:=(PR kE)) (l:=th1.deals_) Tryz.underlying79 O<|aG 1 O)<|L.r 1 O<|cjp<|au (fun m gs D=>∃gs2 gx3 gx4,gs=[(1,.int .i64 a1),(2,.int .i64 a2),(7,st gs2),(8,.int .i64 gx3),(22,(tc kM a0)),(23,tcA th1),(24,.int .i64 gx4)]∧D=tby w F kI kC kE kM A81 a0 kL kJ th1∧qat th1 kJ a1 a2 m gs2 gx3 gx4=some r) ⟨x2,0,0,O,O,h⟩ ⟨O,O,O,O,O,O,O,trivial⟩ (sI [4,5,0,2,3,1]) ?_
  rintro m _ _ ⟨gs2,gx3,gx4,rfl,rfl,h⟩
  rcases m with _|m
  ·rw[qat]at h;cases h
  rw[qat]at h
  generalize hg1:qat th1 kJ a1 a2 m=go1 at h
  rw[qfl]at h
  refine sr<|ltL h (fun c5 h=>?_) fun c5 h=>?_
  ·refine cje<|mL (fun _=>el (tc kM a0)<|tbG gx4) h (ap (g:=(PR kE)) (l:=th1.deals_) Tryz.underlying79 qgG O O<|aG 5 O) fun x6 ex6 h=>(yL (aB (u:=VP kE x6) kq O (aG 5 O)<|ql ex6)<|L.r 1 O<|ae<|ab<|ar (fun gs D=>∃gs5 gb6,gs=[(1,.int .i64 a1),(2,.int .i64 a2),(7,st gs2),(8,.int .i64 gx3),(10,VP kE x6),(11,st gs5),(12,.bool gb6),(22,(tc kM a0)),(23,tcA th1),(24,.int .i64 gx4)]∧D=tby w F kI kC kE kM A81 a0 kL kJ th1∧qh0 kJ x6 gx3 a2 gx4 go1 gs2 gs5 gb6=some r) ?_ ?_)
   ·refine ah<|L.r 1 O<|bi1 h fun xW eth14 h=>aj (D:=Cls w F (tW kE x6 xW kL::tam kL x6 xW::mpo st (td kL x6) xW.texts_::tbR kE kL kJ x6::taK kI kC kE kM A81 a0::tch kI a0 kC th1 kM kE)) (aoI 1 O eth14)<|yNP O eth14 ja 0 qcY O O<|L.r 1 O<|yL (b0 (i:=2) (g:=st) (o:=xW.texts_) (z0:=[]) Tryz.underlying146 Tryz.underlying3 (by kernel_rfl) O O O)<|L.r 2 O<|ibL h (Y.extract O O) (fun c15 h=>?_) fun c15 h=>?_
    ·exact L.r 2 O<|ae<|az (D:=Cls w F<|tbv kE kL kJ kI kC kM A81 a0 th1) (asI [0,1,2,3,4,5,6,7,8] eth14 O)<|ay ⟨(ju (moL xW.texts_) a1 []),true,O,O,h⟩<|sI [1,0,2,3,4,5]
    exact L.r 2 O<|ae<|az (D:=Cls w F<|tbv kE kL kJ kI kC kM A81 a0 th1) (asI [0,1,2,3,4,5,6,7,8] eth14 O)<|ay ⟨(ju (moL xW.texts_) a1 []),false,O,O,h⟩<|sI [1,0,2,3,4,5]
   rintro _ _ ⟨gs5,gb6,rfl,rfl,h⟩
   rw[qh0]at h
   rcases gb6 with _|_
   ·replace h:=qU h
    exact sr<|L.r 17 O<|cja<|cjj<|mA h fun x7 ex7 h=>(L.r 1 O<|ae<|bi ⟨gs2,gx3,x7,O,O,by rw[hg1];exact h⟩ hI)
   replace h:=qT h
   refine sr<|L.r 3 O<|tkL<|bi1 h fun th8 yR h=>aj (D:=Cls w F (tW kE x6 th8 kL::tam kL x6 th8::mpo st (td kL x6) th8.texts_::tbR kE kL kJ x6::taK kI kC kE kM A81 a0::tch kI a0 kC th1 kM kE)) (aoI 1 O yR)<|yN O yR<|tkL<|yF zy O<|tkL<|yP 0 ag3 O O O<|L.r 1 O<|tkL<|gtL h (fun c9 h=>?_) fun c9 h=>?_
   ·refine L.r 3 O<|tkL<|yN O yR<|tkL<|yF zy O<|tkL<|yP 0 ag3 O O O<|L.r 1 O<|tkL<|iL h (cy O O) (fun c10 h=>?_) fun c10 h=>?_
    ·exact L.r 1 O<|cjg<|aZ mixed (by kernel_rfl) (fun _ hw=>hw.drew) fun hC=>(U.r 2 O<|fQ O (aQ O yR)<|fQ O (aa zy O)<|fQ O (am (i:=0) ag3 O O O)<|U.r 2 O<|bo<|cjj<|mA h fun x11 ex11 h=>(L.r 1 O<|ae<|az (D:=Cls w F<|tbv kE kL kJ kI kC kM A81 a0 th1) (asI [0,1,2,3,4,5,6,7,8] yR O)<|bi ⟨gs5,th8.at_,x11,O,O,by rw[hg1];exact h⟩<|sI [1,0,2,3,4,5]))
    exact L.r 1 O<|cja<|cjj<|mA h fun x12 ex12 h=>(L.r 1 O<|ae<|az (D:=Cls w F<|tbv kE kL kJ kI kC kM A81 a0 th1) (asI [0,1,2,3,4,5,6,7,8] yR O)<|bi ⟨gs2,gx3,x12,O,O,by rw[hg1];exact h⟩<|sI [1,0,2,3,4,5])
   exact L.r 9 O<|cja<|cjj<|mA h fun x13 ex13 h=>(L.r 1 O<|ae<|az (D:=Cls w F<|tbv kE kL kJ kI kC kM A81 a0 th1) (asI [0,1,2,3,4,5,6,7,8] yR O)<|bi ⟨gs2,gx3,x13,O,O,by rw[hg1];exact h⟩<|sI [1,0,2,3,4,5])
  exact cjm<|cjd<|ay ⟨gs2,O,O,h⟩ hI
 rintro _ _ ⟨gs1,rfl,rfl,h⟩
 rw[qjy]at h
 cases h
 exact sr<|L.r 2 O<|cjc<|az (D:=Cls w F<|taZ kI kC kE kM A81 kL kJ) (asI [2,5,3,4,0,1] kR O)<|rT d0
theorem W31{a0 a1 a2 A81 kJ kI kC kE kM kL w r F}(h:M31 a0 a1 a2 A81 kJ=some r)(hc0:Cls w F (taZ kI kC kE kM A81 kL kJ) w):qz Tryz.prog 31 (VP kI a0::tcH a1 a2) F w fun u m=>∃Q149,u=.tuple #[st r.2.1,.int .i64 r.2.2]∧m=[taw kI kC kE kM A81,zP kE Q149 r.1 []]:=by
 rw[M31]at h
 refine body (n:=51) Tryz.func31 O O O hc0<|bi1 h fun th1 kR h=>bC (D:=Cls w F<|taf kI a0 kC th1 kM kE A81 kL kJ) (aoI 0 O kR)<|sr<|L.r 2 O<|nsr<|L.r 3 O<|aj (D:=Cls w F<|taZ kI kC kE kM A81 kL kJ) (asI [0,1,2,3,4,5] kR O)<|bi2 h fun x2 x3 e4 h=>aV (A:=(taZ kI kC kE kM A81 kL kJ)) (M:=[]) O qeF O (fun w' hw=>W68 e4 hw.lend) ?_
 rintro _ _ ⟨rfl,rfl⟩
 refine aj (D:=Cls w F<|taZ kI kC kE kM A81 kL kJ) hI<|bi1 h fun th5 jY h=>aj (D:=Cls w F<|taf kI a0 kC th5 kM kE A81 kL kJ) (aoI 0 O jY)<|L.r 5 O<|cjf<|L.r 1 O<|neL h (fun c6 h=>?_) fun c6 h=>?_
 ·cases h
  exact cjb<|L.r 3 O<|cjh<|az (D:=Cls w F<|taZ kI kC kE kM A81 kL kJ) (asI [0,1,2,3,4,5] jY O)<|rT2 fun w1 hw=>⟨_,_,O,⟨_,O,O⟩,hw⟩
 refine cjl<|sr<|L.r 1 O<|bi1 h fun th7 jZ h=>aj (D:=Cls w F (tW kE x2 th7 kL::tam kL x2 th7::mpo st (td kL x2) th7.texts_::tbR kE kL kJ x2::taF kI a0 kC th5 kM kE A81)) (aoI 5 O jZ)<|yNP O jZ ja 0 qcY O O<|L.r 1 O<|yL (b0 (i:=2) (g:=st) (o:=th7.texts_) (z0:=[]) Tryz.underlying146 Tryz.underlying3 (by kernel_rfl) O O O)<|L.r 2 O<|ibL h (Y.extract O O) (fun c8 h=>?_) fun c8 h=>?_
 ·cases h
  exact L.r 2 O<|nsr<|L.r 1 O<|cjb<|L.r 3 O<|cjh<|az (D:=Cls w F (tA kE kL kJ::taF kI a0 kC th5 kM kE A81)) (asI [0,1,2,3,4,5,6,7,8] jZ O)<|az (D:=Cls w F<|taZ kI kC kE kM A81 kL kJ) (asI [1,2,3,4,5,0] jY O)<|rT2 fun w1 hw=>⟨_,_,O,⟨_,O,O⟩,hw⟩
 refine L.r 2 O<|nsr<|L.r 1 O<|cji<|L.r 2 O<|yNP O jZ qdR 0 qmz O O<|L.r 1 O<|yL (bl (cells:=#[.int .i64 0,.int .i64 1,.int .i64 a2]) O (by kernel_rfl))<|cm O Tryz.underlying147 qmm O O O fun b9=>bc (i:=2) (g:=TOp.row) (l:=th7.Ops) (more:=[(⟨0,1,a2⟩:TOp)]) h O Tryz.underlying147 qmm O O O (aG 0 O) (qgW _) O fun v10 l11 el11 h=>yNF O jZ qdR<|bq (i:=2) qng O O (fun _ hw=>(As.at_ (hw.get (i:=0) O)).one) O nb<|nsr<|L.r 3 O<|yNP O jZ qbo 2 ag3 O O<|bi1 h fun l12 el12 h=>ez (row:=TDeal.rowA) (sub:=TDeal.subA) (e:=149) (g:=kE) (gh:=kL) (vs':=[v10,(td kL x2)]) (m':=(tbA b9 a2::taF kI a0 kC th5 kM kE A81)) [2,0,3,4,1,5,6,7,8,9] el12 O fun q13=>aj (D:=Cls w F (tA kE q13 l12::tbA b9 a2::taF kI a0 kC th5 kM kE A81)) hI<|aj (D:=Cls w F [taw kI kC kE kM A81,tA kE q13 l12,tbA b9 a2]) (asI [2,3,4,5,6,0,1] jY O)<|bi1 h fun s14 e15 h=>dP (taZ kI kC kE kM A81 q13 l12) [tbA b9 a2] O (fun w' hw=>W37 e15 hw.lend) ?_
 rintro _ _ ⟨rfl,rfl⟩
 refine aj (D:=Cls w F [taw kI kC kE kM A81,tA kE q13 l12,tbA b9 a2]) hI<|bi1 h fun yH eth16 h=>aj (D:=Cls w F [ta kI a0 kC yH kM,taI kM a0 yH kE,.ss (zs sd0 (fun _=>[]) yH.logs_),th yH,taK kI kC kE kM A81 a0,tA kE q13 l12,tbA b9 a2]) (aoI 0 O eth16)<|L.r 2 O<|cjc<|az (D:=Cls w F [taw kI kC kE kM A81,tA kE q13 l12,tbA b9 a2]) (asI [0,1,2,3,4,5,6] eth16 O)<|rT2 fun w1 hw=>?_
 cases h
 exact⟨_,_,O,⟨_,O,O⟩,hw.s [0,1]⟩
theorem W32{a0 a1 a2 a3 A81 kJ kI kC kE kM kL w r F}(h:M32 a0 a1 a2 a3 A81 kJ=some r)(hc0:Cls w F (taZ kI kC kE kM A81 kL kJ) w):qz Tryz.prog 32 (VP kI a0::.int .i64 a1::tcQ a2 a3) F w fun u m=>∃Q149,u=.int .i64 r.2∧m=[taw kI kC kE kM A81,zP kE Q149 r.1 []]:=by
 rw[M32]at h
 refine body (n:=30) Tryz.func32 O O O hc0<|bi1 h fun th1 kR h=>bC (D:=Cls w F<|taf kI a0 kC th1 kM kE A81 kL kJ) (aoI 0 O kR)<|sr<|L.r 1 O<|nsr<|L.r 3 O<|aj (D:=Cls w F<|taZ kI kC kE kM A81 kL kJ) (asI [0,1,2,3,4,5] kR O)<|bi2 h fun x2 x3 e4 h=>aV (A:=(taZ kI kC kE kM A81 kL kJ)) (M:=[]) O qeF O (fun w' hw=>W68 e4 hw.lend) ?_
 rintro _ _ ⟨rfl,rfl⟩
 refine aj (D:=Cls w F<|taZ kI kC kE kM A81 kL kJ) hI<|bi1 h fun th5 jY h=>aj (D:=Cls w F<|taf kI a0 kC th5 kM kE A81 kL kJ) (aoI 0 O jY)<|L.r 5 O<|cjf<|L.r 1 O<|neL h (fun c6 h=>?_) fun c6 h=>?_
 ·cases h
  exact cjb<|L.r 2 O<|cjh<|az (D:=Cls w F<|taZ kI kC kE kM A81 kL kJ) (asI [0,1,2,3,4,5] jY O)<|rT fun w1 hw=>⟨_,_,O,⟨_,O,O⟩,hw⟩
 refine cjl<|sr<|L.r 1 O<|yL (aK Tryz.underlying9 O)<|gtL h (fun c7 h=>?_) fun c7 h=>?_
 ·cases h
  exact cjb<|L.r 1 O<|cjh<|az (D:=Cls w F<|taZ kI kC kE kM A81 kL kJ) (asI [0,1,2,3,4,5] jY O)<|rT fun w1 hw=>⟨_,_,O,⟨_,O,O⟩,hw⟩
 refine cji<|L.r 1 O<|bi1 h fun th8 yR h=>aj (D:=Cls w F (tW kE x2 th8 kL::tam kL x2 th8::mpo st (td kL x2) th8.texts_::tbR kE kL kJ x2::taF kI a0 kC th5 kM kE A81)) (aoI 5 O yR)<|yNP O yR ja 0 qcY O O<|L.r 2 O<|bi1 h fun l9 el9 h=>L.mpoOut (i:=2) (g:=st) el9 O fun b10 hv11=>aj (D:=Cls w F (tW kE x2 th8 kL::tam kL x2 th8::.mp b10 (zw st l9)::tbR kE kL kJ x2::taF kI a0 kC th5 kM kE A81)) hI<|dn (i:=2) (g:=st) (lm:=l9) (v0:=a3) Tryz.underlying146 Tryz.underlying3 (congrArg some hv11) O O O<|aj (D:=Cls w F (tW kE x2 th8 kL::tam kL x2 th8::.mp b10 (zw st (wM l9 a2 a3))::tbR kE kL kJ x2::taF kI a0 kC th5 kM kE A81)) hI<|nsr<|L.r 1 O<|cjc<|az (D:=Cls w F (tW kE x2 th8 kL::tam kL x2 th8::mpo st (td kL x2) (some (wM l9 a2 a3))::tbR kE kL kJ x2::taF kI a0 kC th5 kM kE A81)) (fun _ hw=>hw.mpoBack (i:=2) O hv11 O)<|bi1 h fun l12 el12 h=>bL (row:=TDeal.rowA) (sub:=TDeal.subA) (e:=149) (g:=kE) (gh:=kL) (vs':=(taS kL x2)) (m':=(taF kI a0 kC th5 kM kE A81)) [0,1,2,3,4,5,6,7,8] el12 O fun q13=>az (D:=Cls w F (tA kE q13 l12::taF kI a0 kC th5 kM kE A81)) hI<|az (D:=Cls w F<|taZ kI kC kE kM A81 q13 l12) (asI [1,2,3,4,5,0] jY O)<|rT fun w1 hw=>?_
 cases h
 exact⟨_,_,O,⟨_,O,O⟩,hw⟩
theorem qnH{a0 a1 a2 a3 kJ kE kL w r F}(h:qkh a0 a1 a2 a3 kJ=some r)(hc0:Cls w F [tA kE kL kJ] w):qz Tryz.prog 112 (VP kE a0::VP kE a1::tcH a2 a3) F w fun u m=>u=.bool r∧m=[tA kE kL kJ]:=by
 rw[qkh]at h
 refine body (n:=29) Tryz.func112 O O O hc0<|sr<|bV O O fun b1=>?_
 rw[show(VP kE a1).cells.toList=[VP kE a1] from by rw[qL]]
 refine L.r 1 O<|cjf<|L.r 1 O<|yP 0 kq O O O<|bi1 h fun th2 jU h=>aj (D:=Cls w F [tW kE a1 th2 kL,tam kL a1 th2,mpo st (td kL a1) th2.texts_,tbR kE kL kJ a1,tcM b1 kE a1]) (aoI 1 O jU)<|yNP O jU qbo 0 ag3 O O<|iL h (cy O O) (fun c3 h=>?_) fun c3 h=>?_
 ·cases h
  exact L.r 8 O<|cjb<|L.r 1 O<|cjh<|az (D:=Cls w F [tA kE kL kJ,tcM b1 kE a1]) (asI [0,1,2,3,4] jU O)<|rT<|d0s [0]
 refine L.r 3 O<|tkL<|aj (D:=Cls w F [tA kE kL kJ,tcM b1 kE a1]) (asI [0,1,2,3,4] jU O)<|bi1 h fun th4 xN h=>aj (D:=Cls w F [tW kE a0 th4 kL,tam kL a0 th4,mpo st (td kL a0) th4.texts_,tbR kE kL kJ a0,tcM b1 kE a1]) (aoI 0 O xN)<|yN O xN<|tkL<|yF qbo O<|tkL<|yP 0 ag3 O O O<|tkL<|iL h (cy O O) (fun c5 h=>?_) fun c5 h=>?_
 ·cases h
  exact L.r 1 O<|cjb<|L.r 1 O<|cjh<|az (D:=Cls w F [tA kE kL kJ,tcM b1 kE a1]) (asI [0,1,2,3,4] xN O)<|rT<|d0s [0]
 refine L.r 1 O<|cji<|L.r 1 O<|yNP O xN qdR 0 qmz O O<|yL (cL O)<|bQ (fun v D=>∃gb1,v=.bool gb1∧D=Cls w F [tA kE kL kJ]∧qfD gb1=some r) O (by kernel_rfl) O Tryz.func134 O O O ?_ ?_
 ·refine sr<|L.r 1 O<|nsr<|L.r 2 O<|bQ (fun v D=>∃gx2,v=.int .i64 gx2∧D=Cls w F [tA kE kL kJ]∧qdu gx2=some r) O (by kernel_rfl) O Tryz.func156 O O O ?_ ?_
  ·refine sr<|L.r 1 O<|ln<|ar (fun gs D=>gs=[]∧D=Cls w F [tA kE kL kJ]∧qig=some r) ?_ ?_
   ·refine sr<|L.r 1 O<|yL (aF (g:=TOp.row) (l:=th4.Ops) Tryz.underlying147 O<|aG 1 O)<|L.r 1 O<|cjp<|au (fun m gs D=>∃gx3,gs=[(0,(tc kL a0)),(1,.func (.func 135) #[] #[pt b1 0]),(7,.int .i64 (th4.Ops.length:Int)),(8,.int .i64 gx3)]∧D=Cls w F [tbR kE kL kJ a0,tW kE a0 th4 kL,mpo st (td kL a0) th4.texts_,tcM b1 kE a1,tam kL a0 th4]∧vW th4 kJ a1 a0 m gx3=some r) ⟨0,O,O,h⟩ ⟨O,O,O,O,trivial⟩ (sI [3,0,2,4,1]) ?_
    rintro m _ _ ⟨gx3,rfl,rfl,h⟩
    rcases m with _|m
    ·rw[vW]at h;cases h
    rw[vW]at h
    generalize hg1:vW th4 kJ a1 a0 m=go1 at h
    rw[qcb]at h
    refine sr<|ltL h (fun c6 h=>?_) fun c6 h=>?_
    ·refine cje<|L.r 2 O<|cjm<|ah<|L.r 3 O<|mL (fun _=>el (tc kL a0) (gx3.toNat*3)) h (ap (g:=TOp.row) (l:=th4.Ops) Tryz.underlying147 qlQ O O<|aG 4 O) fun x7 ex7 h=>(yL (bR (r:=[.int .i64 x7.Tx,.int .i64 x7.Kind,.int .i64 x7.Item]) qnB qlQ O (aG 4 O) (ql ex7) O)<|bu (fun v D=>∃gb4,v=.bool gb4∧D=Cls w F [tbR kE kL kJ a0,tW kE a0 th4 kL,mpo st (td kL a0) th4.texts_,tcM b1 kE a1,tam kL a0 th4]∧qfC gx3 go1 gb4=some r) O (by kernel_rfl) O O Tryz.func135 O O O ?_ ?_)
     ·exact sr<|bV O O fun b9=>L.r 1 O<|cjm<|bi1 h fun zS eth10 h=>bi1 h fun _ c11 h=>bC (D:=Cls w F [tW kE a1 zS kL,tam kL a1 zS,mpo st (td kL a1) zS.texts_,zP kE kL kJ (tbI a1 a0),.obj b9 [.int .i64 x7.Tx,.int .i64 x7.Kind,.int .i64 x7.Item] 151,tW kE a0 th4 kL,mpo st (td kL a0) th4.texts_,tcM b1 kE a1,tam kL a0 th4]) (fun _ hw=>hw.arOpen (p:=1) O eth10<|qdw (qw c11) eth10 xN List.not_mem_nil)<|aZ mixed (by kernel_rfl) (fun _ hw=>hw.drew) fun hC=>(fQ O (am (i:=7) kq O O O)<|fQ O (aQ O eth10)<|fQ O (aa ja O)<|fQ O (am (i:=0) qcY O O O)<|fQ O (aa qk1 O)<|fQ O (am (i:=4) ag3 O O O)<|fQ O (b0 (i:=2) (g:=st) (o:=zS.texts_) (z0:=[]) Tryz.underlying146 Tryz.underlying3 (by kernel_rfl) O O O)<|U.r 5 O<|bo<|ab<|sr<|L.r 2 O<|cjc<|az (D:=Cls w F [tbR kE kL kJ a0,.obj b9 [.int .i64 x7.Tx,.int .i64 x7.Kind,.int .i64 x7.Item] 151,tW kE a0 th4 kL,mpo st (td kL a0) th4.texts_,tcM b1 kE a1,tam kL a0 th4]) (fun _ hw=>hw.arShut (hs':=(tbI a1 a0)) [0,1,2,3,4,5,6,7,8] eth10 (by decide) O (fun _=>List.mem_cons)<|qdw (qw c11) eth10 xN List.not_mem_nil)<|bb O O fun w1 hw=>⟨_,_,O,⟨(vp (moL zS.texts_) x7.Item),O,O,h⟩,hw.s [0,2,3,4,5]⟩)
     rintro _ _ ⟨gb4,rfl,rfl,h⟩
     rw[qfC]at h
     rcases gb4 with _|_
     ·replace h:=qU h
      exact cja<|cjj<|mA h fun x8 ex8 h=>(L.r 1 O<|ae<|bi ⟨x8,O,O,by rw[hg1];exact h⟩ hI)
     replace h:=qT h
     exact cjb<|L.r 2 O<|cjc<|cjk<|az (D:=Cls w F [tA kE kL kJ,tcM b1 kE a1]) (asI [1,4,2,0,3] xN O)<|bb O O fun w1 hw=>⟨_,_,O,⟨gx3,O,O,h⟩,hw.s [0]⟩
    exact cjm<|cjd<|az (D:=Cls w F [tA kE kL kJ,tcM b1 kE a1]) (asI [1,4,2,0,3] xN O)<|bB ⟨O,O,h⟩ trivial<|sI [0]
   rintro _ _ ⟨rfl,rfl,h⟩
   rw[qig]at h
   exact sr<|L.r 1 O<|cjc<|bb O O fun w1 hw=>⟨_,_,O,⟨(-1),O,O,h⟩,hw⟩
  rintro _ _ ⟨gx2,rfl,rfl,h⟩
  rw[qdu]at h
  exact yL (bU O O)<|L.r 1 O<|cjc<|bb O O fun w1 hw=>⟨_,_,O,⟨decide (0≤gx2),O,O,h⟩,hw⟩
 rintro _ _ ⟨gb1,rfl,rfl,h⟩
 rw[qfD]at h
 cases h
 exact L.r 1 O<|cjc<|rT d0
theorem W69{a0 a1 A81 kJ kI kC kE kM kL w r F}(h:M69 a0 a1 A81 kJ=some r)(hc0:Cls w F (taZ kI kC kE kM A81 kL kJ) w):qz Tryz.prog 69 [VP kI a0,VP kE a1] F w fun u m=>u=.bool r∧m=(taZ kI kC kE kM A81 kL kJ):=by
 rw[M69]at h
 refine body (n:=115) Tryz.func69 O O O hc0<|bi1 h fun th1 kR h=>bC (D:=Cls w F<|taf kI a0 kC th1 kM kE A81 kL kJ) (aoI 0 O kR)<|sr<|bV O O fun b2=>?_
 rw[show(VP kI a0).cells.toList=[VP kI a0] from by rw[qL]]
 refine bV O O fun b3=>?_
 rw[show(VP kE a1).cells.toList=[VP kE a1] from by rw[qL]]
 refine L.r 1 O<|nsr<|yP 0 kq O O O<|aI O Tryz.underlying79 qhy O (qL _ _) fun b4=>L.r 1 O<|nsr<|yL (cL O)<|L.r 1 O<|ln<|ar (fun gs D=>∃gv1 gl2,gs=[(5,gv1),(6,tbq b3 b2)]∧D=Cls w F (tbt kI kC kE kM A81 a0 kL kJ b3 a1 b2 th1 gv1 gl2)∧qjo kJ a1 th1 gl2=some r) ?_ ?_
 ·refine sr<|yP 2 qlc O O O<|yNF O kR qcI<|bi1 h fun _ en65 h=>?_
  obtain⟨_,en65⟩:=qd en65
  obtain⟨_,en66,h⟩:=qq h
  obtain⟨_,en66⟩:=qd en66
  refine yL (al (q:=3) (si:=6) (ps:=26) (j:=0) (X:=[(tc kM a0)]) qmT O O O O (by simp[zl,qc,en65,en66]) O)<|yL (aF (g:=(PR kE)) (l:=th1.deals_) Tryz.underlying79 O<|aG 4 O)<|L.r 1 O<|cjp<|au (fun m gs D=>∃xU jE xF,gs=[(3,pt b3 0),(5,xU),(6,tbq b3 b2),(24,(tc kM a0)),(25,tcA th1),(26,taB xF)]∧D=Cls w F (tbt kI kC kE kM A81 a0 kL kJ b3 a1 b2 th1 xU jE)∧qap th1 kJ a1 m jE xF=some r) ⟨(sv b4 1),[a1],0,O,O,h⟩ ⟨O,O,O,O,O,O,trivial⟩ (sI [7,8,1,2,3,5,6,0,4]) ?_
  rintro m _ _ ⟨xU,jE,xF,rfl,rfl,h⟩
  rcases m with _|m
  ·rw[qap]at h;cases h
  rw[qap]at h
  generalize hg3:qap th1 kJ a1 m=go3 at h
  rw[qeV]at h
  refine sr<|ltL h (fun c67 h=>?_) fun c67 h=>?_
  ·refine cjm<|aX O<|aN<|ab<|ar (fun gs D=>∃gv21 zR,gs=[(3,pt b3 0),(5,gv21),(6,tbq b3 b2),(24,(tc kM a0)),(25,tcA th1),(26,taB xF)]∧D=Cls w F (tbt kI kC kE kM A81 a0 kL kJ b3 a1 b2 th1 gv21 zR)∧wH xF go3 zR=some r) ?_ ?_
   ·refine W.block<|sr<|mL (fun _=>el (tc kM a0)<|tbG xF) h (ap (g:=(PR kE)) (l:=th1.deals_) Tryz.underlying79 qgG O O<|aG 8 O) fun x69 ex69 h=>(yL (aB (u:=VP kE x69) kq O (aG 8 O)<|ql ex69)<|L.r 1 O<|cjf<|L.r 1 O<|bi1 h fun jG eth70 h=>aj (D:=Cls w F (taN kE x69 jG kL::tcl kL x69 jG::mpo st (td kL x69) jG.texts_::tbR kE kL kJ x69::taK kI kC kE kM A81 a0::tR b3 kE a1 b2 kI a0 kC th1 kM xU jE)) (aoI 1 O eth70)<|yNP O eth70 zy 0 ag3 O O<|eqL h (fun c71 h=>?_) fun c71 h=>?_)
    ·exact cjg<|cr<|bH<|bJ<|az (D:=Cls w F<|tbw kE kL kJ kI kC kM A81 a0 b3 a1 b2 th1 xU jE) (asI [0,1,2,3,4,5,6,7,8,9,10,11] eth70 O)<|ay ⟨xU,jE,O,O,h⟩<|sI [1,0,2,3,4,5,6,7,8]
    refine cji<|L.r 2 O<|aI O Tryz.underlying79 qhy O (qL _ _) fun b72=>bc (i:=11) (g:=(PR kE)) (l:=jE) (more:=[x69]) h O Tryz.underlying79 qhy O O O (aG 0 O) (jt _) O fun v73 l74 el74 h=>L.r 1 O<|nsr<|L.r 1 O<|yNP O eth70 ja 2 qcY O O<|bi1 h fun l75 el75 h=>L.mpoOut (i:=4) (g:=st) el75 O fun b76 hv77=>aj (D:=Cls w F (.sl v73 143 1 (l74.map (PR kE))::.sl (sv b72 1) 143 1 (([x69]).map (PR kE))::tW kE x69 jG kL::tam kL x69 jG::.mp b76 (zw st l75)::tbR kE kL kJ x69::taK kI kC kE kM A81 a0::.obj b3 [VP kE a1] 143::.obj b2 [VP kI a0] 32::tch kI a0 kC th1 kM kE)) hI<|ek (i:=4) (g:=st) (lm:=l75) O Tryz.underlying146 (congrArg some hv77) O fun b78=>cjp<|au (fun m gs D=>∃yQ,gs=[(3,pt b3 0),(5,v73),(6,tbq b3 b2),(8,VP kE x69),(24,(tc kM a0)),(25,tcA th1),(26,taB xF),(43,pt b78 0)]∧D=Cls w F (tbR kE kL kJ x69::jS kI kC kE kM A81 (tf a0)::.mi b76 b78 (zw st l75) (zw st yQ) none::taH kE x69 jG kL b3 a1 b2 kI a0 kC th1 kM v73 l74)∧qc2 xF go3 l74 kJ a1 x69 jG m yQ=some r) ⟨l75,O,O,h⟩ ⟨O,O,O,O,O,O,O,O,trivial⟩ (sI [5,6,0,3,7,8,9,10,11,1,12,4]) ?_
    rintro m _ _ ⟨yQ,rfl,rfl,h⟩
    rcases m with _|m
    ·rw[qc2]at h;cases h
    rw[qc2]at h
    generalize hg4:qc2 xF go3 l74 kJ a1 x69 jG m=go4 at h
    rw[qhK]at h
    refine sr<|fa (i:=2) (g:=st) (lm:=l75) (left:=yQ) h O O O (fun h=>?_) fun x79 x80 l81 h=>?_
    ·exact L.r 1 O<|cjm<|cjd<|aq<|az (D:=Cls w F (tbR kE kL kJ x69::jS kI kC kE kM A81 (tf a0)::mpo st (td kL x69) jG.texts_::taH kE x69 jG kL b3 a1 b2 kI a0 kC th1 kM v73 l74)) (fun _ hw=>hw.mpoBack (i:=2) O hv77 el75)<|az (D:=Cls w F<|tbw kE kL kJ kI kC kM A81 a0 b3 a1 b2 th1 v73 l74) (asI [3,11,2,0,1,4,5,6,7,8,9,10] eth70 O)<|ay ⟨v73,l74,O,O,h⟩<|sI [1,0,2,3,4,5,6,7,8]
    refine L.r 1 O<|cjm<|aX O<|aN<|ab<|W.block<|sr<|yL (d9 (i:=2) (g:=st) (lm:=l75) (k0:=x79) (v0:=x80) O O)<|L.r 2 O<|ln<|sr<|yP 4 kq O O O<|bi1 h fun zJ eth82 h=>bi1 h fun _ c83 h=>aj (D:=Cls w F (tW kE a1 zJ kL::tam kL a1 zJ::mpo st (td kL a1) zJ.texts_::zP kE kL kJ (tbI a1 x69)::jS kI kC kE kM A81 (tf a0)::.mi b76 b78 (zw st l75) (zw st l81) (some (x79,st x80))::taH kE x69 jG kL b3 a1 b2 kI a0 kC th1 kM v73 l74)) (fun _ hw=>hw.arOpen (p:=0) O eth82<|qdw (qw c83) eth82 eth70 List.not_mem_nil)<|yNP O eth82 ja 0 qcY O O<|L.r 1 O<|yL (b0 (i:=2) (g:=st) (o:=zJ.texts_) (z0:=[]) Tryz.underlying146 Tryz.underlying3 (by kernel_rfl) O O O)<|L.r 2 O<|ibL h (Y.extract O O) (fun c84 h=>?_) fun c84 h=>?_
    ·refine L.r 2 O<|cjm<|aZ mixed (by kernel_rfl) (fun _ hw=>hw.drew) fun hC=>(U.r 3 O<|U.take O<|fQ O (aQ O eth70)<|U.take O<|fQ O (aa zy O)<|U.take O<|fQ O (am (i:=6) ag3 O O O)<|U.take O<|fQ O (am (i:=7) kq O O O)<|U.take O<|fQ O (aQ O eth82)<|U.take O<|fQ O (aa qbo O)<|U.take O<|fQ O (am (i:=0) ag3 O O O)<|U.take O<|da h O (dx O O) (fun c85 h=>?_) fun c85 h=>?_)
     ·cases h
      exact U.r 1 O<|bo<|ab<|aX O<|sr<|L.r 1 O<|cjc<|ak<|cH<|ak<|cjo<|az (D:=Cls w F (tbR kE kL kJ x69::jS kI kC kE kM A81 (tf a0)::.mi b76 b78 (zw st l75) (zw st l81) (some (x79,st x80))::taH kE x69 jG kL b3 a1 b2 kI a0 kC th1 kM v73 l74)) (fun _ hw=>hw.arShut (hs':=(tbI a1 x69)) [0,1,2,3,4,5,6,7,8,9,10,11,12,13,14] eth82 (by decide) O (fun _=>List.mem_cons)<|qdw (qw c83) eth82 eth70 List.not_mem_nil)<|az (D:=Cls w F (tbR kE kL kJ x69::jS kI kC kE kM A81 (tf a0)::mpo st (td kL x69) jG.texts_::taH kE x69 jG kL b3 a1 b2 kI a0 kC th1 kM v73 l74)) (fun _ hw=>(hw.miMp (i:=2) O).mpoBack (i:=2) O hv77 el75)<|az (D:=Cls w F<|tbw kE kL kJ kI kC kM A81 a0 b3 a1 b2 th1 v73 l74) (asI [3,11,2,0,1,4,5,6,7,8,9,10] eth70 O)<|az (D:=Cls w F [taw kI kC kE kM A81,tA kE kL kJ,tcM b3 kE a1,.obj b2 [VP kI a0] 32,.sl v73 143 1 (l74.map (PR kE))]) (asI [4,8,5,6,1,0,2,3,7] kR O)<|rT<|d0s [0,1]
     exact U.r 1 O<|bo<|ab<|a6 O<|aN<|aq<|az (D:=Cls w F (tbR kE kL kJ x69::jS kI kC kE kM A81 (tf a0)::.mi b76 b78 (zw st l75) (zw st l81) (some (x79,st x80))::taH kE x69 jG kL b3 a1 b2 kI a0 kC th1 kM v73 l74)) (fun _ hw=>hw.arShut (hs':=(tbI a1 x69)) [0,1,2,3,4,5,6,7,8,9,10,11,12,13,14] eth82 (by decide) O (fun _=>List.mem_cons)<|qdw (qw c83) eth82 eth70 List.not_mem_nil)<|bi ⟨l81,O,O,by rw[hg4];exact h⟩ fun _ hw=>(hw.miNone (i:=2) O)
    exact L.r 2 O<|cjm<|aZ mixed (by kernel_rfl) (fun _ hw=>hw.drew) fun hC=>(U.r 12 O<|bo<|ab<|a6 O<|aN<|aq<|az (D:=Cls w F (tbR kE kL kJ x69::jS kI kC kE kM A81 (tf a0)::.mi b76 b78 (zw st l75) (zw st l81) (some (x79,st x80))::taH kE x69 jG kL b3 a1 b2 kI a0 kC th1 kM v73 l74)) (fun _ hw=>hw.arShut (hs':=(tbI a1 x69)) [0,1,2,3,4,5,6,7,8,9,10,11,12,13,14] eth82 (by decide) O (fun _=>List.mem_cons)<|qdw (qw c83) eth82 eth70 List.not_mem_nil)<|bi ⟨l81,O,O,by rw[hg4];exact h⟩ fun _ hw=>(hw.miNone (i:=2) O))
   rintro _ _ ⟨gv21,zR,rfl,rfl,h⟩
   rw[wH]at h
   exact ah<|mA h fun x68 ex68 h=>(L.r 1 O<|ae<|bi ⟨gv21,zR,x68,O,O,by rw[hg3];exact h⟩ hI)
  exact cjm<|cjd<|ay ⟨xU,jE,O,O,h⟩ hI
 rintro _ _ ⟨gv1,gl2,rfl,rfl,h⟩
 rw[qjo]at h
 refine ar (fun gs D=>gs=[]∧D=tby w F kI kC kE kM A81 a0 kL kJ th1∧qlf=some r) ?_ ?_
 ·refine sr<|L.r 1 O<|yL (aF (g:=(PR kE)) (l:=gl2) Tryz.underlying79 O<|aG 7 O)<|L.r 1 O<|cjp<|au (fun m gs D=>∃gx3,gs=[(5,gv1),(6,tbq b3 b2),(70,gv1),(71,.int .i64 (gl2.length:Int)),(72,.int .i64 gx3)]∧D=Cls w F (tbt kI kC kE kM A81 a0 kL kJ b3 a1 b2 th1 gv1 gl2)∧qar gl2 kJ a1 th1 m gx3=some r) ⟨0,O,O,h⟩ ⟨O,O,O,O,O,trivial⟩ hI ?_
  rintro m _ _ ⟨gx3,rfl,rfl,h⟩
  rcases m with _|m
  ·rw[qar]at h;cases h
  rw[qar]at h
  generalize hg1:qar gl2 kJ a1 th1 m=go1 at h
  rw[qeW]at h
  refine sr<|ltL h (fun c5 h=>?_) fun c5 h=>?_
  ·refine cjm<|aX O<|aN<|ab<|ar (fun gs D=>gs=[(5,gv1),(6,tbq b3 b2),(70,gv1),(71,.int .i64 (gl2.length:Int)),(72,.int .i64 gx3)]∧D=Cls w F (tbt kI kC kE kM A81 a0 kL kJ b3 a1 b2 th1 gv1 gl2)∧qhO gx3 go1=some r) ?_ ?_
   ·refine W.block<|sr<|mL (fun _=>el gv1<|tbG gx3) h (ap (g:=(PR kE)) (l:=gl2) Tryz.underlying79 qgG O O<|aG 7 O) fun x7 ex7 h=>(yL (aB (u:=VP kE x7) kq O (aG 7 O)<|ql ex7)<|L.r 1 O<|nsr<|L.r 2 O<|ln<|ar (fun gs D=>∃gb4 gb5,gs=[(5,gv1),(6,tbq b3 b2),(14,.bool gb4),(15,.bool gb5),(70,gv1),(71,.int .i64 (gl2.length:Int)),(72,.int .i64 gx3)]∧D=Cls w F (tbt kI kC kE kM A81 a0 kL kJ b3 a1 b2 th1 gv1 gl2)∧qhN gx3 go1 gb4 gb5=some r) ?_ ?_)
    ·refine sr<|L.r 1 O<|yL (aF (g:=(PR kE)) (l:=gl2) Tryz.underlying79 O<|aG 7 O)<|L.r 1 O<|cjp<|au (fun m gs D=>∃gb6 gb7 gx8,gs=[(5,gv1),(6,tbq b3 b2),(13,VP kE x7),(14,.bool gb6),(15,.bool gb7),(70,gv1),(71,.int .i64 (gl2.length:Int)),(72,.int .i64 gx3),(76,gv1),(77,.int .i64 (gl2.length:Int)),(78,.int .i64 gx8)]∧D=Cls w F (tbt kI kC kE kM A81 a0 kL kJ b3 a1 b2 th1 gv1 gl2)∧qaq gl2 kJ x7 a1 th1 gx3 go1 m gb6 gb7 gx8=some r) ⟨false,false,0,O,O,h⟩ ⟨O,O,O,O,O,O,O,O,O,O,O,trivial⟩ hI ?_
     rintro m _ _ ⟨gb6,gb7,gx8,rfl,rfl,h⟩
     rcases m with _|m
     ·rw[qaq]at h;cases h
     rw[qaq]at h
     generalize hg2:qaq gl2 kJ x7 a1 th1 gx3 go1 m=go2 at h
     rw[qaP]at h
     refine sr<|ltL h (fun c10 h=>?_) fun c10 h=>?_
     ·refine cje<|mL (fun _=>el gv1<|tbG gx8) h (ap (g:=(PR kE)) (l:=gl2) Tryz.underlying79 qgG O O<|aG 7 O) fun x11 ex11 h=>(yL (aB (u:=VP kE x11) kq O (aG 7 O)<|ql ex11)<|L.r 1 O<|ae<|ab<|sr<|L.r 2 O<|bi1 h fun th12 eth12 h=>bi1 h fun zG eth13 h=>iL h (eM (p:=1) Tryz.underlying143 qdF O O O eth12 eth13) (fun c14 h=>?_) fun c14 h=>?_)
      ·refine cjg<|ah<|bd 12 (fun gs D=>∃gb9,gs=[(5,gv1),(6,tbq b3 b2),(13,VP kE x7),(15,.bool gb7),(17,VP kE x11),(70,gv1),(71,.int .i64 (gl2.length:Int)),(72,.int .i64 gx3),(76,gv1),(77,.int .i64 (gl2.length:Int)),(78,.int .i64 gx8),(96,.bool gb9)]∧D=Cls w F (tbt kI kC kE kM A81 a0 kL kJ b3 a1 b2 th1 gv1 gl2)∧qga gb7 gx8 go2 kJ x7 a1 th1 x11 gb9=some r) ?_ ?_
       ·refine ibL h (bv O) (fun c49 h=>?_) fun c49 h=>?_
        ·exact L.r 11 O<|ae<|ay ⟨true,O,O,h⟩ hI
        refine L.r 5 O<|tkL<|bu (fun v D=>∃yI,v=taB yI∧D=Cls w F (tbt kI kC kE kM A81 a0 kL kJ b3 a1 b2 th1 gv1 gl2)∧qc4 kJ x7 a1 th1 x11 gb7 gx8 go2 yI=some r) O qfX O O Tryz.func111 O O O ?_ ?_
        ·refine sr<|L.r 1 O<|cjf<|L.r 1 O<|yP 2 kq O O O<|bi1 h fun th58 eth58 h=>bi1 h fun th59 eth59 h=>iL h (cf (p:=1) Tryz.underlying143 qdF O O O eth58 eth59) (fun c60 h=>?_) fun c60 h=>?_
         ·refine cjb<|yP 3 qlc O O O<|yNF O kR ka<|bi1 h fun _ en61 h=>?_
          obtain⟨_,en61⟩:=qd en61
          exact yL (al (q:=4) (si:=4) (ps:=5) (j:=0) (X:=[.int .i64 th1.now_]) ag3 O O O O (by simp[zl,qc,en61]) O)<|mA h fun x62 ex62 h=>(L.r 1 O<|cjh<|bb O O fun w1 hw=>⟨_,_,O,⟨x62,O,O,h⟩,hw⟩)
         exact cji<|L.r 1 O<|bi1 h fun th63 eth63 h=>aj (D:=Cls w F (taN kE x11 th63 kL::tcl kL x11 th63::mpo st (td kL x11) th63.texts_::tbR kE kL kJ x11::taK kI kC kE kM A81 a0::tR b3 kE a1 b2 kI a0 kC th1 kM gv1 gl2)) (aoI 1 O eth63)<|yNP O eth63 zy 0 ag3 O O<|L.r 1 O<|cjc<|az (D:=Cls w F<|tbw kE kL kJ kI kC kM A81 a0 b3 a1 b2 th1 gv1 gl2) (asI [0,1,2,3,4,5,6,7,8,9,10,11] eth63 O)<|bb O O fun w1 hw=>⟨_,_,O,⟨th63.at_,O,O,h⟩,hw.s [1,0,2,3,4,5,6,7,8]⟩
        rintro _ _ ⟨yI,rfl,rfl,h⟩
        rw[qc4]at h
        refine L.r 2 O<|tkL<|bu (fun v D=>∃gx17,v=taB gx17∧D=Cls w F (tbt kI kC kE kM A81 a0 kL kJ b3 a1 b2 th1 gv1 gl2)∧qc3 x11 x7 yI kJ gb7 gx8 go2 a1 th1 gx17=some r) O qfX O O Tryz.func111 O O O ?_ ?_
        ·refine sr<|L.r 1 O<|cjf<|L.r 1 O<|yP 2 kq O O O<|bi1 h fun th52 eth52 h=>bi1 h fun th53 eth53 h=>iL h (cf (p:=1) Tryz.underlying143 qdF O O O eth52 eth53) (fun c54 h=>?_) fun c54 h=>?_
         ·refine cjb<|yP 3 qlc O O O<|yNF O kR ka<|bi1 h fun _ en55 h=>?_
          obtain⟨_,en55⟩:=qd en55
          exact yL (al (q:=4) (si:=4) (ps:=5) (j:=0) (X:=[.int .i64 th1.now_]) ag3 O O O O (by simp[zl,qc,en55]) O)<|mA h fun x56 ex56 h=>(L.r 1 O<|cjh<|bb O O fun w1 hw=>⟨_,_,O,⟨x56,O,O,h⟩,hw⟩)
         exact cji<|L.r 1 O<|bi1 h fun th57 eth57 h=>aj (D:=Cls w F (taN kE x7 th57 kL::tcl kL x7 th57::mpo st (td kL x7) th57.texts_::tbR kE kL kJ x7::taK kI kC kE kM A81 a0::tR b3 kE a1 b2 kI a0 kC th1 kM gv1 gl2)) (aoI 1 O eth57)<|yNP O eth57 zy 0 ag3 O O<|L.r 1 O<|cjc<|az (D:=Cls w F<|tbw kE kL kJ kI kC kM A81 a0 b3 a1 b2 th1 gv1 gl2) (asI [0,1,2,3,4,5,6,7,8,9,10,11] eth57 O)<|bb O O fun w1 hw=>⟨_,_,O,⟨th57.at_,O,O,h⟩,hw.s [1,0,2,3,4,5,6,7,8]⟩
        rintro _ _ ⟨gx17,rfl,rfl,h⟩
        rw[qc3]at h
        refine tkL<|aj (D:=Cls w F<|tbw kE kL kJ kI kC kM A81 a0 b3 a1 b2 th1 gv1 gl2) (sI [1,0,2,3,4,5,6,7,8])<|bi1 h fun b50 e51 h=>dP [tA kE kL kJ] (taK kI kC kE kM A81 a0::tR b3 kE a1 b2 kI a0 kC th1 kM gv1 gl2) O (fun w' hw=>qnH e51 hw.lend) ?_
        rintro _ _ ⟨rfl,rfl⟩
        refine aj (D:=Cls w F<|tbw kE kL kJ kI kC kM A81 a0 b3 a1 b2 th1 gv1 gl2) hI ?_
        rcases b50 with _|_
        ·replace h:=qU h
         exact L.r 1 O<|ae<|ay ⟨false,O,O,h⟩<|sI [1,0,2,3,4,5,6,7,8]
        replace h:=qT h
        exact L.r 1 O<|ae<|ay ⟨true,O,O,h⟩<|sI [1,0,2,3,4,5,6,7,8]
       rintro _ _ ⟨gb9,rfl,rfl,h⟩
       rw[qga]at h
       rcases gb9 with _|_
       ·replace h:=qU h
        refine bd 12 (fun gs D=>∃gb10,gs=[(5,gv1),(6,tbq b3 b2),(13,VP kE x7),(70,gv1),(71,.int .i64 (gl2.length:Int)),(72,.int .i64 gx3),(76,gv1),(77,.int .i64 (gl2.length:Int)),(78,.int .i64 gx8),(96,.bool false),(108,.bool gb10)]∧D=Cls w F (tbt kI kC kE kM A81 a0 kL kJ b3 a1 b2 th1 gv1 gl2)∧qf9 gx8 go2 gb10=some r) ?_ ?_
        ·refine ibL h (bv O) (fun c17 h=>?_) fun c17 h=>?_
         ·exact L.r 11 O<|ae<|ay ⟨true,O,O,h⟩ hI
         refine L.r 5 O<|tkL<|bu (fun v D=>∃jN,v=taB jN∧D=Cls w F (tbt kI kC kE kM A81 a0 kL kJ b3 a1 b2 th1 gv1 gl2)∧qhM kJ x11 a1 th1 x7 gx8 go2 jN=some r) O qfX O O Tryz.func111 O O O ?_ ?_
         ·refine sr<|L.r 1 O<|cjf<|L.r 1 O<|yP 2 kq O O O<|bi1 h fun th26 eth26 h=>bi1 h fun yU eth27 h=>iL h (cf (p:=1) Tryz.underlying143 qdF O O O eth26 eth27) (fun c28 h=>?_) fun c28 h=>?_
          ·refine cjb<|yP 3 qlc O O O<|yNF O kR ka<|bi1 h fun _ en29 h=>?_
           obtain⟨_,en29⟩:=qd en29
           exact yL (al (q:=4) (si:=4) (ps:=5) (j:=0) (X:=[.int .i64 th1.now_]) ag3 O O O O (by simp[zl,qc,en29]) O)<|mA h fun x30 ex30 h=>(L.r 1 O<|cjh<|bb O O fun w1 hw=>⟨_,_,O,⟨x30,O,O,h⟩,hw⟩)
          exact cji<|L.r 1 O<|bi1 h fun zK eth31 h=>aj (D:=Cls w F (taN kE x7 zK kL::tcl kL x7 zK::mpo st (td kL x7) zK.texts_::tbR kE kL kJ x7::taK kI kC kE kM A81 a0::tR b3 kE a1 b2 kI a0 kC th1 kM gv1 gl2)) (aoI 1 O eth31)<|yNP O eth31 zy 0 ag3 O O<|L.r 1 O<|cjc<|az (D:=Cls w F<|tbw kE kL kJ kI kC kM A81 a0 b3 a1 b2 th1 gv1 gl2) (asI [0,1,2,3,4,5,6,7,8,9,10,11] eth31 O)<|bb O O fun w1 hw=>⟨_,_,O,⟨zK.at_,O,O,h⟩,hw.s [1,0,2,3,4,5,6,7,8]⟩
         rintro _ _ ⟨jN,rfl,rfl,h⟩
         rw[qhM]at h
         refine L.r 2 O<|tkL<|bu (fun v D=>∃jK,v=taB jK∧D=Cls w F (tbt kI kC kE kM A81 a0 kL kJ b3 a1 b2 th1 gv1 gl2)∧qhL x7 x11 jN kJ gx8 go2 jK=some r) O qfX O O Tryz.func111 O O O ?_ ?_
         ·refine sr<|L.r 1 O<|cjf<|L.r 1 O<|yP 2 kq O O O<|bi1 h fun th20 eth20 h=>bi1 h fun th21 eth21 h=>iL h (cf (p:=1) Tryz.underlying143 qdF O O O eth20 eth21) (fun c22 h=>?_) fun c22 h=>?_
          ·refine cjb<|yP 3 qlc O O O<|yNF O kR ka<|bi1 h fun _ en23 h=>?_
           obtain⟨_,en23⟩:=qd en23
           exact yL (al (q:=4) (si:=4) (ps:=5) (j:=0) (X:=[.int .i64 th1.now_]) ag3 O O O O (by simp[zl,qc,en23]) O)<|mA h fun x24 ex24 h=>(L.r 1 O<|cjh<|bb O O fun w1 hw=>⟨_,_,O,⟨x24,O,O,h⟩,hw⟩)
          exact cji<|L.r 1 O<|bi1 h fun th25 eth25 h=>aj (D:=Cls w F (taN kE x11 th25 kL::tcl kL x11 th25::mpo st (td kL x11) th25.texts_::tbR kE kL kJ x11::taK kI kC kE kM A81 a0::tR b3 kE a1 b2 kI a0 kC th1 kM gv1 gl2)) (aoI 1 O eth25)<|yNP O eth25 zy 0 ag3 O O<|L.r 1 O<|cjc<|az (D:=Cls w F<|tbw kE kL kJ kI kC kM A81 a0 b3 a1 b2 th1 gv1 gl2) (asI [0,1,2,3,4,5,6,7,8,9,10,11] eth25 O)<|bb O O fun w1 hw=>⟨_,_,O,⟨th25.at_,O,O,h⟩,hw.s [1,0,2,3,4,5,6,7,8]⟩
         rintro _ _ ⟨jK,rfl,rfl,h⟩
         rw[qhL]at h
         refine tkL<|aj (D:=Cls w F<|tbw kE kL kJ kI kC kM A81 a0 b3 a1 b2 th1 gv1 gl2) (sI [1,0,2,3,4,5,6,7,8])<|bi1 h fun b18 e19 h=>dP [tA kE kL kJ] (taK kI kC kE kM A81 a0::tR b3 kE a1 b2 kI a0 kC th1 kM gv1 gl2) O (fun w' hw=>qnH e19 hw.lend) ?_
         rintro _ _ ⟨rfl,rfl⟩
         refine aj (D:=Cls w F<|tbw kE kL kJ kI kC kM A81 a0 b3 a1 b2 th1 gv1 gl2) hI ?_
         rcases b18 with _|_
         ·replace h:=qU h
          exact L.r 1 O<|ae<|ay ⟨false,O,O,h⟩<|sI [1,0,2,3,4,5,6,7,8]
         replace h:=qT h
         exact L.r 1 O<|ae<|ay ⟨true,O,O,h⟩<|sI [1,0,2,3,4,5,6,7,8]
        rintro _ _ ⟨gb10,rfl,rfl,h⟩
        rw[qf9]at h
        rcases gb10 with _|_
        ·replace h:=qU h
         exact L.r 2 O<|ae<|cjj<|mA h fun x15 ex15 h=>(L.r 1 O<|ae<|bi ⟨false,false,x15,O,O,by rw[hg2];exact h⟩ hI)
        replace h:=qT h
        exact L.r 2 O<|ae<|cjj<|mA h fun x16 ex16 h=>(L.r 1 O<|ae<|bi ⟨false,true,x16,O,O,by rw[hg2];exact h⟩ hI)
       replace h:=qT h
       refine bd 12 (fun gs D=>∃yD,gs=[(5,gv1),(6,tbq b3 b2),(13,VP kE x7),(70,gv1),(71,.int .i64 (gl2.length:Int)),(72,.int .i64 gx3),(76,gv1),(77,.int .i64 (gl2.length:Int)),(78,.int .i64 gx8),(96,.bool true),(108,.bool yD)]∧D=Cls w F (tbt kI kC kE kM A81 a0 kL kJ b3 a1 b2 th1 gv1 gl2)∧qf8 gx8 go2 yD=some r) ?_ ?_
       ·refine ibL h (bv O) (fun c34 h=>?_) fun c34 h=>?_
        ·exact L.r 11 O<|ae<|ay ⟨true,O,O,h⟩ hI
        refine L.r 5 O<|tkL<|bu (fun v D=>∃zA,v=taB zA∧D=Cls w F (tbt kI kC kE kM A81 a0 kL kJ b3 a1 b2 th1 gv1 gl2)∧qc6 kJ x11 a1 th1 x7 gx8 go2 zA=some r) O qfX O O Tryz.func111 O O O ?_ ?_
        ·refine sr<|L.r 1 O<|cjf<|L.r 1 O<|yP 2 kq O O O<|bi1 h fun th43 eth43 h=>bi1 h fun th44 eth44 h=>iL h (cf (p:=1) Tryz.underlying143 qdF O O O eth43 eth44) (fun c45 h=>?_) fun c45 h=>?_
         ·refine cjb<|yP 3 qlc O O O<|yNF O kR ka<|bi1 h fun _ en46 h=>?_
          obtain⟨_,en46⟩:=qd en46
          exact yL (al (q:=4) (si:=4) (ps:=5) (j:=0) (X:=[.int .i64 th1.now_]) ag3 O O O O (by simp[zl,qc,en46]) O)<|mA h fun x47 ex47 h=>(L.r 1 O<|cjh<|bb O O fun w1 hw=>⟨_,_,O,⟨x47,O,O,h⟩,hw⟩)
         exact cji<|L.r 1 O<|bi1 h fun th48 eth48 h=>aj (D:=Cls w F (taN kE x7 th48 kL::tcl kL x7 th48::mpo st (td kL x7) th48.texts_::tbR kE kL kJ x7::taK kI kC kE kM A81 a0::tR b3 kE a1 b2 kI a0 kC th1 kM gv1 gl2)) (aoI 1 O eth48)<|yNP O eth48 zy 0 ag3 O O<|L.r 1 O<|cjc<|az (D:=Cls w F<|tbw kE kL kJ kI kC kM A81 a0 b3 a1 b2 th1 gv1 gl2) (asI [0,1,2,3,4,5,6,7,8,9,10,11] eth48 O)<|bb O O fun w1 hw=>⟨_,_,O,⟨th48.at_,O,O,h⟩,hw.s [1,0,2,3,4,5,6,7,8]⟩
        rintro _ _ ⟨zA,rfl,rfl,h⟩
        rw[qc6]at h
        refine L.r 2 O<|tkL<|bu (fun v D=>∃gx15,v=taB gx15∧D=Cls w F (tbt kI kC kE kM A81 a0 kL kJ b3 a1 b2 th1 gv1 gl2)∧qc5 x7 x11 zA kJ gx8 go2 gx15=some r) O qfX O O Tryz.func111 O O O ?_ ?_
        ·refine sr<|L.r 1 O<|cjf<|L.r 1 O<|yP 2 kq O O O<|bi1 h fun xS eth37 h=>bi1 h fun jO eth38 h=>iL h (cf (p:=1) Tryz.underlying143 qdF O O O eth37 eth38) (fun c39 h=>?_) fun c39 h=>?_
         ·refine cjb<|yP 3 qlc O O O<|yNF O kR ka<|bi1 h fun _ en40 h=>?_
          obtain⟨_,en40⟩:=qd en40
          exact yL (al (q:=4) (si:=4) (ps:=5) (j:=0) (X:=[.int .i64 th1.now_]) ag3 O O O O (by simp[zl,qc,en40]) O)<|mA h fun x41 ex41 h=>(L.r 1 O<|cjh<|bb O O fun w1 hw=>⟨_,_,O,⟨x41,O,O,h⟩,hw⟩)
         exact cji<|L.r 1 O<|bi1 h fun th42 eth42 h=>aj (D:=Cls w F (taN kE x11 th42 kL::tcl kL x11 th42::mpo st (td kL x11) th42.texts_::tbR kE kL kJ x11::taK kI kC kE kM A81 a0::tR b3 kE a1 b2 kI a0 kC th1 kM gv1 gl2)) (aoI 1 O eth42)<|yNP O eth42 zy 0 ag3 O O<|L.r 1 O<|cjc<|az (D:=Cls w F<|tbw kE kL kJ kI kC kM A81 a0 b3 a1 b2 th1 gv1 gl2) (asI [0,1,2,3,4,5,6,7,8,9,10,11] eth42 O)<|bb O O fun w1 hw=>⟨_,_,O,⟨th42.at_,O,O,h⟩,hw.s [1,0,2,3,4,5,6,7,8]⟩
        rintro _ _ ⟨gx15,rfl,rfl,h⟩
        rw[qc5]at h
        refine tkL<|aj (D:=Cls w F<|tbw kE kL kJ kI kC kM A81 a0 b3 a1 b2 th1 gv1 gl2) (sI [1,0,2,3,4,5,6,7,8])<|bi1 h fun b35 e36 h=>dP [tA kE kL kJ] (taK kI kC kE kM A81 a0::tR b3 kE a1 b2 kI a0 kC th1 kM gv1 gl2) O (fun w' hw=>qnH e36 hw.lend) ?_
        rintro _ _ ⟨rfl,rfl⟩
        refine aj (D:=Cls w F<|tbw kE kL kJ kI kC kM A81 a0 b3 a1 b2 th1 gv1 gl2) hI ?_
        rcases b35 with _|_
        ·replace h:=qU h
         exact L.r 1 O<|ae<|ay ⟨false,O,O,h⟩<|sI [1,0,2,3,4,5,6,7,8]
        replace h:=qT h
        exact L.r 1 O<|ae<|ay ⟨true,O,O,h⟩<|sI [1,0,2,3,4,5,6,7,8]
       rintro _ _ ⟨yD,rfl,rfl,h⟩
       rw[qf8]at h
       rcases yD with _|_
       ·replace h:=qU h
        exact L.r 2 O<|ae<|cjj<|mA h fun x32 ex32 h=>(L.r 1 O<|ae<|bi ⟨true,false,x32,O,O,by rw[hg2];exact h⟩ hI)
       replace h:=qT h
       exact L.r 2 O<|ae<|cjj<|mA h fun x33 ex33 h=>(L.r 1 O<|ae<|bi ⟨true,true,x33,O,O,by rw[hg2];exact h⟩ hI)
      exact cja<|cjj<|mA h fun x64 ex64 h=>(L.r 1 O<|ae<|bi ⟨gb6,gb7,x64,O,O,by rw[hg2];exact h⟩ hI)
     exact cjm<|cjd<|ay ⟨gb6,gb7,O,O,h⟩ hI
    rintro _ _ ⟨gb4,gb5,rfl,rfl,h⟩
    rw[qhN]at h
    refine sr<|ibL h (bv O) (fun c8 h=>?_) fun c8 h=>?_
    ·refine L.r 1 O<|tkL<|ibL h (bv O) (fun c9 h=>?_) fun c9 h=>?_
     ·cases h
      exact L.r 1 O<|cjb<|L.r 1 O<|cjc<|cjo<|az (D:=Cls w F [taw kI kC kE kM A81,tA kE kL kJ,tcM b3 kE a1,.obj b2 [VP kI a0] 32,.sl gv1 143 1 (gl2.map (PR kE))]) (asI [4,8,5,6,0,1,2,3,7] kR O)<|rT<|d0s [0,1]
     exact L.r 1 O<|cja<|aq<|ay ⟨O,O,h⟩ hI
    exact L.r 3 O<|cja<|aq<|ay ⟨O,O,h⟩ hI
   rintro _ _ ⟨rfl,rfl,h⟩
   rw[qhO]at h
   exact ah<|mA h fun x6 ex6 h=>(L.r 1 O<|ae<|bi ⟨x6,O,O,by rw[hg1];exact h⟩ hI)
  exact cjm<|cjd<|bB ⟨O,O,h⟩ trivial<|sI [0,1,4,5,6,8]
 rintro _ _ ⟨rfl,rfl,h⟩
 rw[qlf]at h
 cases h
 exact sr<|L.r 1 O<|cjc<|az (D:=Cls w F<|taZ kI kC kE kM A81 kL kJ) (asI [2,5,3,4,0,1] kR O)<|rT d0
theorem qn0{a0 w r}(h:qlD a0=some r):Does Tryz.prog 113 [st a0] w fun u m=>u=st r∧m=[]:=by
 rw[qlD]at h
 refine body (n:=9) Tryz.func113 O O O (Cls.refl w)<|sr<|L.r 1 O<|nsr<|L.r 1 O<|yL (aK Tryz.underlying9 O)<|yL (a7 Tryz.underlying3 Tryz.underlying156 O)<|bi1 h fun s1 e2 h=>yL (yf qhw O fun w' hw=>qnF e2)<|L.r 1 O<|mL (fun s3=>st s3) h (bg O O) fun s3 es3 h=>(L.r 1 O<|cjc<|rT fun w1 hw=>?_)
 cases h
 exact⟨_,_,O,⟨O,O⟩,hw⟩
theorem W70{a0 a1 w r}(h:M70 a0 a1=some r):Does Tryz.prog 70 (tcQ a0 a1) w fun u m=>u=st r∧m=[]:=by
 rw[M70]at h
 refine body (n:=10) Tryz.func70 O O O (Cls.refl w)<|sr<|L.r 1 O<|nsr<|L.r 1 O<|bi1 h fun s1 e2 h=>yL (yf qgx O fun w' hw=>W74 e2)<|L.r 1 O<|bi1 h fun s3 e4 h=>yL (ye O fun w' hw=>qn0 e4)<|mL (fun s5=>st s5) h (bg O O) fun s5 es5 h=>(L.r 1 O<|cjc<|rT fun w1 hw=>?_)
 cases h
 exact⟨_,_,O,⟨O,O⟩,hw⟩
theorem qnG{a0 a1 a2 w r}(h:qlh a0 a1 a2=some r):Does Tryz.prog 114 (.int .i64 a0::tcQ a1 a2) w fun u m=>∃v0,u=v0∧m=[tl v0 r]:=by
 rw[qlh]at h
 refine body (n:=50) Tryz.func114 O O O (Cls.refl w)<|sr<|L.r 1 O<|nsr<|L.r 1 O<|bi1 h fun s1 e2 h=>yL (ye O fun w' hw=>qn0 e2)<|bi2 h fun s3 x4 e5 h=>yL (ye O fun w' hw=>qnC e5)<|L.r 5 O<|nsr<|L.r 1 O<|ln<|ar (fun gs D=>∃gv1 gl2,gs=[(9,gv1)]∧D=Cls w [] [tl gv1 gl2]∧qif gl2=some r) ?_ ?_
 ·refine W.block<|W.nilSl 9 1<|au (fun m gs D=>∃gs3 gv4 gl5,gs=[(0,.int .i64 a0),(1,.int .i64 a1),(7,st gs3),(9,gv4)]∧D=Cls w [] [tl gv4 gl5]∧kl a0 a1 m gs3 gl5=some r) ⟨s3,tO,[],O,O,h⟩ ⟨O,O,O,O,trivial⟩ hI ?_
  rintro m _ _ ⟨gs3,gv4,gl5,rfl,rfl,h⟩
  rcases m with _|m
  ·rw[kl]at h;cases h
  rw[kl]at h
  generalize hg1:kl a0 a1 m=go1 at h
  rw[qeb]at h
  refine aE<|sr<|L.r 1 O<|iL h (bN O O) (fun c6 h=>?_) fun c6 h=>?_
  ·refine cjg<|aN<|ab<|W.block<|sr<|L.r 2 O<|bi1 h fun s7 e8 h=>yL (ye O fun w' hw=>W92 e8)<|L.r 1 O<|ln<|ar (fun gs D=>∃gs6,gs=[(0,.int .i64 a0),(1,.int .i64 a1),(7,st gs3),(9,gv4),(10,st gs6)]∧D=Cls w [] [tl gv4 gl5]∧qai gs3 gl5 go1 gs6=some r) ?_ ?_
   ·refine sr<|L.r 1 O<|yL (aF (g:=SR) (l:=gl5) Tryz.underlying48 O<|aG 0 O)<|eqL h (fun c41 h=>?_) fun c41 h=>?_
    ·exact cjg<|ah<|L.r 2 O<|bi1 h fun s42 e43 h=>yL (ye O fun w' hw=>W92 e43)<|L.r 1 O<|ae<|ay ⟨s42,O,O,h⟩ hI
    exact cja<|ay ⟨s7,O,O,h⟩ hI
   rintro _ _ ⟨gs6,rfl,rfl,h⟩
   rw[qai]at h
   refine sr<|L.r 1 O<|yL (aK Tryz.underlying9 O)<|mI h (bj O O) fun x9 ex9 h=>(L.r 1 O<|cjf<|L.r 2 O<|yL (aK Tryz.underlying9 O)<|gtL h (fun c10 h=>?_) fun c10 h=>?_)
   ·exact cjg<|ah<|L.r 1 O<|yL (aK Tryz.underlying9 O)<|L.r 1 O<|ln<|av (k:=13) (stC [[7]] [Cls w [] [tl gv4 gl5]]<|Cls w [] []) O mixed (fun _ hw=>hw.drew) sn<|aA [] (ax zF<|sI []) fun hz18=>(vR [0,1,2,3] O<|vM 4 [] (fun s19=>st s19) hz18 O h (bn Tryz.underlying9 O O) fun s19 es19 h=>(vR [8,9] O<|vM 10 [] (fun s20=>st s20) hz18 O h (aU Tryz.underlying9 O O) fun s20 es20 h=>(vM 5 [] (fun s21=>st s21) hz18 O h (bg O O) fun s21 es21 h=>(vE 6 O<|aI O Tryz.underlying48 eL9 O O fun b22=>ltV (stC [[7]] [Cls w [] [tu b22 s21,tl gv4 gl5]]<|Cls w [] [tu b22 s21]) 6 (Sc.stay (sI [1])<|aD<|sI []) sn<|vE 7 O<|bc (i:=1) (g:=SR) (l:=gl5) (more:=[s21]) h O Tryz.underlying48 eL9 O O O (aG 0 O) (qi _) O fun v23 l24 el24 h=>ltV (stC [] []<|Cls w [] [tl v23 l24,tu b22 s21]) 7 (aw O<|aD<|sI [1]) sA<|vR [11,12] O<|vD<|aq<|bi ⟨s20,v23,l24,O,O,by rw[hg1];exact h⟩<|sI [0]))))
   exact cja<|ab<|av (k:=13) (stC [[7]] [Cls w [] [tl gv4 gl5]]<|Cls w [] []) O mixed (fun _ hw=>hw.drew) sn<|aA [] (ax zF<|sI []) fun hz33=>(vR [0,1,2,3] O<|vM 4 [] (fun s34=>st s34) hz33 O h (bn Tryz.underlying9 O O) fun s34 es34 h=>(vR [8,9] O<|vM 10 [] (fun s35=>st s35) hz33 O h (aU Tryz.underlying9 O O) fun s35 es35 h=>(vM 5 [] (fun s36=>st s36) hz33 O h (bg O O) fun s36 es36 h=>(vE 6 O<|aI O Tryz.underlying48 eL9 O O fun b37=>ltV (stC [[7]] [Cls w [] [tu b37 s36,tl gv4 gl5]]<|Cls w [] [tu b37 s36]) 6 (Sc.stay (sI [1])<|aD<|sI []) sn<|vE 7 O<|bc (i:=1) (g:=SR) (l:=gl5) (more:=[s36]) h O Tryz.underlying48 eL9 O O O (aG 0 O) (qi _) O fun v38 l39 el39 h=>ltV (stC [] []<|Cls w [] [tl v38 l39,tu b37 s36]) 7 (aw O<|aD<|sI [1]) sA<|vR [11,12] O<|vD<|aq<|bi ⟨s35,v38,l39,O,O,by rw[hg1];exact h⟩<|sI [0]))))
  exact ln<|cjd<|ay ⟨gv4,gl5,O,O,h⟩ hI
 rintro _ _ ⟨gv1,gl2,rfl,rfl,h⟩
 rw[qif]at h
 cases h
 exact sr<|L.r 2 O<|cjc<|rT fun w1 hw=>⟨_,_,O,⟨_,O,O⟩,hw⟩
theorem W71{a0 a1 A51 kT kF kC kP kW w r F}(h:M71 a0 a1 A51 kT=some r)(hc0:Cls w F (tbi kF kP A51 kC kW kT) w):qz Tryz.prog 71 [VP kC a0,st a1] F w fun u m=>∃Q51 Q122,u=.int .i64 r.2.2∧m=[yS kF Q51 r.1 [],xL kF kC Q122 r.2.1 []]:=by
 rw[M71]at h
 refine body (n:=86) Tryz.func71 O O O hc0<|sr<|L.r 1 O<|cjf<|L.r 1 O<|bi1 h fun th1 kR h=>aj (D:=tbD w F kC a0 kF th1 kW kT kP A51) (aoI 1 O kR)<|yNF O kR qbr<|ibL h (am (i:=0) ag4 O O O) (fun c2 h=>?_) fun c2 h=>?_
 ·cases h
  exact cjb<|L.r 1 O<|cjh<|az (D:=tce w F kF kC kW kT kP A51) (asI [0,1,2] kR O)<|rT fun w1 hw=>⟨_,_,O,⟨_,_,O,O⟩,hw.s [1,0]⟩
 refine cjl<|sr<|L.r 1 O<|yL (aK Tryz.underlying9 O)<|gtL h (fun c3 h=>?_) fun c3 h=>?_
 ·cases h
  exact cjb<|L.r 1 O<|cjh<|az (D:=tce w F kF kC kW kT kP A51) (asI [0,1,2] kR O)<|rT fun w1 hw=>⟨_,_,O,⟨_,_,O,O⟩,hw.s [1,0]⟩
 refine cjl<|av (k:=11) (stC [] []<|tbD w F kC a0 kF th1 kW kT kP A51) O mixed (fun _ hw=>hw.drew) sA<|aA [] zF fun hz4=>(vR [0] O<|vN 1 [] O hz4 O kR<|vQ 2 [] hz4 O (aa jb O)<|vQ 3 [] hz4 O (am (i:=0) ag3 O O O)<|vR [4] O<|vN 5 [] O hz4 O kR<|vQ 6 [] hz4 O (aa vk O)<|vQ 7 [] hz4 O (am (i:=0) ag3 O O O)<|vR [8] O<|vE 9 O<|bi1 h fun l5 e7 h=>bZ O (by kernel_rfl) O (fun w' hw=>qnG e7) ?_)
 rintro v6 _ ⟨_,rfl,rfl⟩
 refine ltV (stC [] []<|Cls w F [tl v6 l5,tn kC a0 kF th1,tcR kF kC kW kT a0,tF kF kP A51]) 9 (aD<|sI [1,2,3]) sA<|vR [10] O<|vD<|ab<|aE<|aE<|aZ mixed (by kernel_rfl) (fun _ hw=>hw.drew) fun hC=>(U.r 1 O<|fQ O (aF (g:=SR) (l:=l5) Tryz.underlying48 O<|aG 0 O)<|U.r 1 O<|fQ O (aQ O kR)<|fQ O (aa qk4 O)<|fQ O (am (i:=1) ag3 O O O)<|U.r 1 O<|fQ O (aQ O kR)<|fQ O (aa kd O)<|fQ O (am (i:=1) ag3 O O O)<|fR (V:=fun x9=>.int .i64 x9) h O (bj O O) fun x9 ex9 h=>(da h O (dx O O) (fun c10 h=>?_) fun c10 h=>?_))
 ·cases h
  exact bo<|ab<|aX O<|sr<|L.r 1 O<|cjh<|az (D:=Cls w F [tB kF kC kW kT,tl v6 l5,tF kF kP A51]) (asI [1,2,0,3] kR O)<|rT fun w1 hw=>⟨_,_,O,⟨_,_,O,O⟩,hw.s [2,0]⟩
 refine bo<|ab<|a6 O<|aN<|ab<|ar (fun gs D=>∃gl1 gq2,gs=[(0,VP kC a0),(5,v6)]∧D=Cls w F [tB kF kC kW kT,tF kF gq2 gl1,tl v6 l5]∧qjl kT a0 l5 gl1=some r) ?_ ?_
 ·refine sr<|L.r 1 O<|yL (aF (g:=SR) (l:=l5) Tryz.underlying48 O<|aG 0 O)<|L.r 1 O<|cjp<|bC (D:=Cls w F [tB kF kC kW kT,tl v6 l5,tF kF kP A51]) (asI [1,2,0,3] kR O)<|au (fun m gs D=>∃gx3 gl4 gq5,gs=[(0,VP kC a0),(5,v6),(38,v6),(39,.int .i64 (l5.length:Int)),(40,.int .i64 gx3)]∧D=Cls w F [tB kF kC kW kT,tF kF gq5 gl4,tl v6 l5]∧qbz l5 kT a0 m gx3 gl4=some r) ⟨0,A51,kP,O,O,h⟩ ⟨O,O,O,O,O,trivial⟩ (sI [0,2,1]) ?_
  rintro m _ _ ⟨gx3,gl4,gq5,rfl,rfl,h⟩
  rcases m with _|m
  ·rw[qbz]at h;cases h
  rw[qbz]at h
  generalize hg1:qbz l5 kT a0 m=go1 at h
  rw[qeU]at h
  refine sr<|ltL h (fun c22 h=>?_) fun c22 h=>?_
  ·refine cje<|L.r 1 O<|mL (fun _=>el v6<|tbG gx3) h (ap (g:=SR) (l:=l5) Tryz.underlying48 sz9 O O<|aG 2 O) fun x23 ex23 h=>(yL (aB (u:=st x23) ag9 O (aG 2 O)<|ql ex23)<|L.r 2 O<|cjm<|bi1 h fun th24 eth24 h=>bC (D:=Cls w F<|tck kC a0 kF th24 kW kT gq5 gl4 v6 l5) (aoI 0 O eth24)<|av (k:=18) (stC [[16]] [Cls w F (tck kC a0 kF th24 kW kT gq5 gl4 v6 l5)]<|Cls w F [tl v6 l5]) O mixed (fun _ hw=>hw.drew) sn<|aA [] (ax zF<|sI [3]) fun hz48=>(vR [0] O<|vN 1 [] O hz48 O eth24<|vQ 2 [] hz48 O (aa wo O)<|aA [16] (be hI) fun hz49=>(vQ 3 [16] hz49 O (am (i:=0) qlx O O O)<|vR [4] O<|vN 5 [] O hz48 O eth24<|vQ 6 [] hz48 O (aa qdU O)<|vQ 7 [16] hz49 O (am (i:=0) ag3 O O O)<|vR [8] O<|vN 9 [] O hz48 O eth24<|vQ 10 [] hz48 O (aa kd O)<|vQ 11 [16] hz49 O (am (i:=0) ag3 O O O)<|vM 12 [] (fun x50=>.int .i64 x50) hz48 O h (bh O O) fun x50 ex50 h=>(vR [13] O<|vM 14 [] (fun x51=>.int .i64 x51) hz48 O h (bh O O) fun x51 ex51 h=>(vR [15] O<|vE 16 O<|aj (D:=Cls w F [tB kF kC kW kT,tF kF gq5 gl4,tl v6 l5]) (asI [0,1,2,3] eth24 O)<|aj (D:=Cls w F [tF kF gq5 gl4,tB kF kC kW kT,tl v6 l5]) (sI [1,0,2])<|bi2 h fun l52 x53 e54 h=>dP [tF kF gq5 gl4] [tB kF kC kW kT,tl v6 l5] O (fun w' hw=>W94 e54 hw.lend) ?_)))))
   rintro _ _ ⟨q55,rfl,rfl⟩
   refine aj (D:=Cls w F [tF kF q55 l52,tB kF kC kW kT,tl v6 l5]) hI<|ltV (stC [] []<|Cls w F [tl v6 l5]) 16 (aw O sD) (aP<|sI [2])<|vR [17] O<|vD<|ab<|sr<|L.r 1 O<|neL h (fun c57 h=>?_) fun c57 h=>?_
   ·refine cjb<|L.r 2 O<|aj (D:=Cls w F [tB kF kC kW kT,tF kF q55 l52,tl v6 l5]) (sI [1,0,2])<|bi2 h fun l58 x59 e60 h=>aV (A:=[tB kF kC kW kT]) (M:=[tF kF q55 l52,tl v6 l5]) O qgw O (fun w' hw=>W96 e60 hw.lend) ?_
    rintro _ _ ⟨q61,rfl,rfl⟩
    cases h
    exact aj (D:=Cls w F [tB kF kC q61 l58,tF kF q55 l52,tl v6 l5]) hI<|L.r 1 O<|cjc<|cjk<|rT fun w1 hw=>⟨_,_,O,⟨_,_,O,O⟩,hw.s [1,0]⟩
   exact cja<|cjj<|mA h fun x62 ex62 h=>(L.r 1 O<|ae<|bi ⟨x62,l52,q55,O,O,by rw[hg1];exact h⟩<|sI [1,0,2])
  exact cjm<|cjd<|ay ⟨gl4,gq5,O,O,h⟩ hI
 rintro _ _ ⟨gl1,gq2,rfl,rfl,h⟩
 rw[qjl]at h
 refine aE<|bi1 h fun oA eth11 h=>bC (D:=Cls w F<|tck kC a0 kF oA kW kT gq2 gl1 v6 l5) (aoI 0 O eth11)<|av (k:=20) (stC [[16]] [Cls w F (tck kC a0 kF oA kW kT gq2 gl1 v6 l5)]<|Cls w F [tcR kF kC kW kT a0,tF kF gq2 gl1,tl v6 l5]) O mixed (fun _ hw=>hw.drew) sn<|aA [] (ax zF<|sI [1,2,3]) fun hz15=>(vR [0,1,2] O<|vN 3 [] O hz15 O eth11<|vQ 4 [] hz15 O (aa kd O)<|aA [16] (be hI) fun hz16=>(vQ 5 [16] hz16 O (am (i:=0) ag3 O O O)<|vR [6] O<|vQ 7 [] hz15 O (aF (g:=SR) (l:=l5) Tryz.underlying48 O<|aG 2 O)<|vM 8 [] (fun x17=>.int .i64 x17) hz15 O h (bh O O) fun x17 ex17 h=>(vR [9] O<|vN 10 [] O hz15 O eth11<|vQ 11 [] hz15 O (aa vk O)<|vQ 12 [16] hz16 O (am (i:=0) ag3 O O O)<|vM 13 [] (fun x18=>.int .i64 x18) hz15 O h (bh O O) fun x18 ex18 h=>(vN 14 [] O hz15 O eth11<|vQ 15 [] hz15 O (aa kd O)<|vE 16 O<|svL 0 (tH x17) sz3 O O O<|ltV (stC [] []<|Cls w F [tcR kF kC kW kT a0,tF kF gq2 gl1,tl v6 l5]) 16 (aw O sD) (aP<|sI [1,2,3])<|aA [] zF fun hz19=>(vN 17 [] O hz19 O eth11<|vQ 18 [] hz19 O (aa vk O)<|vE 19 O<|svL 0 (tH x18) sz3 O O O<|ae<|xV (stC [] []<|Cls w F [tcR kF kC kW kT a0,tF kF gq2 gl1,tl v6 l5]) 19 sD (aP<|sI [1,2,3])<|vD<|ab<|sr<|L.r 1 O<|cjc<|bi1 h fun l20 el20 h=>bL (row:=TLog122.rowA kF) (sub:=TLog122.subA kF) (e:=122) (g:=kC) (gh:=kW) (vs':=[]) (m':=[tF kF gq2 gl1,tl v6 l5]) [0,1,2,3] el20 O fun q21=>az (D:=Cls w F [tB kF kC q21 l20,tF kF gq2 gl1,tl v6 l5]) hI<|rT fun w1 hw=>?_)))))
 cases h
 exact⟨_,_,O,⟨_,_,O,O⟩,hw.s [1,0]⟩
theorem W72{a0 A51 kT kF kC kP kW w r F}(h:M72 a0 A51 kT=some r)(hc0:Cls w F (tbi kF kP A51 kC kW kT) w):qz Tryz.prog 72 [VP kC a0] F w fun u m=>∃Q51 Q122,u=.int .i64 r.2.2∧m=[yS kF Q51 r.1 [],xL kF kC Q122 r.2.1 []]:=by
 rw[M72]at h
 refine body (n:=14) Tryz.func72 O O O hc0<|sr<|L.r 1 O<|cjf<|L.r 1 O<|bi1 h fun th1 kR h=>aj (D:=tbD w F kC a0 kF th1 kW kT kP A51) (aoI 1 O kR)<|yNF O kR qbr<|ibL h (am (i:=0) ag4 O O O) (fun c2 h=>?_) fun c2 h=>?_
 ·cases h
  exact cjb<|L.r 1 O<|cjh<|az (D:=tce w F kF kC kW kT kP A51) (asI [0,1,2] kR O)<|rT fun w1 hw=>⟨_,_,O,⟨_,_,O,O⟩,hw.s [1,0]⟩
 refine cji<|L.r 2 O<|yNP O kR wo 0 qlx O O<|aj (D:=tce w F kF kC kW kT kP A51) (asI [0,1,2] kR O)<|aj (D:=Cls w F<|tbi kF kP A51 kC kW kT) (sI [1,0])<|bi2 h fun l3 x4 e5 h=>dP [tF kF kP A51] [tB kF kC kW kT] O (fun w' hw=>W95 e5 hw.lend) ?_
 rintro _ _ ⟨q6,rfl,rfl⟩
 refine aj (D:=Cls w F<|tbi kF q6 l3 kC kW kT) hI<|aj (D:=tce w F kF kC kW kT q6 l3) (sI [1,0])<|bi2 h fun l7 x8 e9 h=>aV (A:=[tB kF kC kW kT]) (M:=[tF kF q6 l3]) O qgw O (fun w' hw=>W96 e9 hw.lend) ?_
 rintro _ _ ⟨q10,rfl,rfl⟩
 cases h
 exact aj (D:=tce w F kF kC q10 l7 q6 l3) hI<|L.r 1 O<|cjc<|rT fun w1 hw=>⟨_,_,O,⟨_,_,O,O⟩,hw.s [1,0]⟩
end Go.Proofs.YtloiiohoelhldaaGreatDoor
