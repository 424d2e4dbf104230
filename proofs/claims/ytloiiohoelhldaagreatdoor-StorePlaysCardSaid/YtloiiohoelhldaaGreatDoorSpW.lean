import Derived.Test.YtloiiohoelhldaaGreatDoorSpV
import Derived.Test.YtloiiohoelhldaaGreatDoorSpW7
import Derived.Test.YtloiiohoelhldaaGreatDoorChecked
import Derived.KernelRfl
import Derived.Test.YtloiiohoelhldaaGreatDoorZg
set_option maxRecDepth 100000
set_option maxHeartbeats 8000000
namespace Go.Proofs.YtloiiohoelhldaaGreatDoor
open Go.S
set_option linter.unusedVariables false
set_option linter.unusedSimpArgs false
theorem W3{a0 a1 u1 q1 w r}(h:M3 a0 a1=some r)(hA1:At w u1 6 (zr TStoreDeed.rowv q1 a1))(hD1:∀d∈zs TStoreDeed.sds q1 a1,At w d.v d.k d.rows):Does Tryz.prog 3 [.int .i64 a0,u1] w fun u m=>u=.bool r∧m=[]:=by
 rw[M3]at h
 obtain⟨kF,_⟩:∃g:Nat→Nat,True:=⟨fun _=>0,trivial⟩
 obtain⟨kD,_⟩:∃g:Nat→Nat,True:=⟨fun _=>0,trivial⟩
 obtain⟨kG,_⟩:∃g:Nat→Nat,True:=⟨fun _=>0,trivial⟩
 obtain⟨kI,_⟩:∃g:Nat→Nat,True:=⟨fun _=>0,trivial⟩
 obtain⟨kB,_⟩:∃g:Nat→Nat,True:=⟨fun _=>0,trivial⟩
 obtain⟨kC,_⟩:∃g:Nat→Nat,True:=⟨fun _=>0,trivial⟩
 obtain⟨kA,_⟩:∃g:Nat→Nat,True:=⟨fun _=>0,trivial⟩
 obtain⟨kE,_⟩:∃g:Nat→Nat,True:=⟨fun _=>0,trivial⟩
 refine body (n:=167) Tryz.func3 O O O (Cls.refl w)<|bC (D:=Cls w [] (tbX kF::jX kD (fun _=>[]) ([]:List TDisk) []::tah kG kB kA kI kC kE kD kF)) (fun _ hw=>((((((((hw.ar0 (TDeal.rowA) (TDeal.subA) 149 kE (fun _=>[])).ar0 (Ttx.rowA) (Ttx.subA) 130 kA (fun _=>[])).ar0 (TLog122.rowA kF) (TLog122.subA kF) 122 kC (fun _=>[])).ar0 (TLog.rowA kD) (TLog.subA kD) 108 kB (fun _=>[])).ar0 (TStore81.rowA kC kE) (TStore81.subA kC kE) 81 kI (fun _=>[])).ar0 (TStore.rowA kB kA) (TStore.subA kB kA) 67 kG (fun _=>[])).ar0 (TDisk.rowA) (TDisk.subA) 57 kD (fun _=>[])).ar0 (TDisk51.rowA) (TDisk51.subA) 51 kF (fun _=>[])))<|sr<|L.r 1 O<|nsr<|L.r 1 O<|bi1 h fun _ ck1 h=>have ck1:=qw ck1;aj (D:=Cls w [] (jX kD (fun _=>[]) ([]:List TDisk) []::tbX kF::tah kG kB kA kI kC kE kD kF)) (sI [1,0,2,3,4,5,6,7])<|bi3 h fun l2 x3 x4 e5 h=>dP [jX kD (fun _=>[]) ([]:List TDisk) []] [yS kF (fun _=>[]) ([]:List TDisk51) [],kZ kG kB kA (fun _=>[]) ([]:List TStore) [],jS kI kC kE (fun _=>[]) ([]:List TStore81) [],jV kD kB (fun _=>[]) ([]:List TLog) [],xL kF kC (fun _=>[]) ([]:List TLog122) [],yV kA (fun _=>[]) ([]:List Ttx) [],zP kE (fun _=>[]) ([]:List TDeal) []] O (fun w' hw=>W4 e5 hw.lend) ?_
 rintro _ _ ⟨kD,q6,hg7,rfl,rfl⟩
 rw[qf4 hg7 ck1]
 refine aj (D:=Cls w [] (tx kD q6 l2::tbX kF::tah kG kB kA kI kC kE kD kF)) hI<|L.r 5 O<|cjm<|ar (fun gs D=>∃gb1,gs=[(0,.int .i64 a0),(1,u1),(5,VP kD x3),(6,.int .i64 x4),(27,.bool gb1)]∧D=Cls w [] (tx kD q6 l2::tbX kF::tah kG kB kA kI kC kE kD kF)∧qkc x4 a0 x3 l2 a1 gb1=some r) ?_ ?_
 ·refine ah<|L.r 1 O<|neL h (fun c278 h=>?_) fun c278 h=>?_
  ·exact L.r 4 O<|ae<|ay ⟨true,O,O,h⟩ hI
  refine L.r 2 O<|tkL<|iL h (cD Tryz.underlying23 O O) (fun c279 h=>?_) fun c279 h=>?_
  ·exact L.r 1 O<|ae<|ay ⟨true,O,O,h⟩ hI
  exact L.r 1 O<|ae<|ay ⟨false,O,O,h⟩ hI
 rintro _ _ ⟨gb1,rfl,rfl,h⟩
 rw[qkc]at h
 rcases gb1 with _|_
 ·replace h:=qU h
  refine a6 O<|aN<|ab<|sr<|L.r 1 O<|bi1 h fun _ ck8 h=>have ck8:=qw ck8;aj (D:=Cls w [] (tbX kF::tx kD q6 l2::tah kG kB kA kI kC kE kD kF)) (sI [1,0,2,3,4,5,6,7])<|bi2 h fun l9 x10 e11 h=>dP [yS kF (fun _=>[]) ([]:List TDisk51) []] [jX kD q6 l2 [],kZ kG kB kA (fun _=>[]) ([]:List TStore) [],jS kI kC kE (fun _=>[]) ([]:List TStore81) [],jV kD kB (fun _=>[]) ([]:List TLog) [],xL kF kC (fun _=>[]) ([]:List TLog122) [],yV kA (fun _=>[]) ([]:List Ttx) [],zP kE (fun _=>[]) ([]:List TDeal) []] O (fun w' hw=>W5 e11 hw.lend) ?_
  rintro _ _ ⟨kF,q12,hg13,rfl,rfl⟩
  rw[qf3 hg13 ck8]
  refine aj (D:=Cls w [] (tF kF q12 l9::tx kD q6 l2::tah kG kB kA kI kC kE kD kF)) hI<|L.r 1 O<|nsr<|L.r 1 O<|aj (D:=Cls w [] (tx kD q6 l2::kZ kG kB kA (fun _=>[]) ([]:List TStore) []::jV kD kB (fun _=>[]) ([]:List TLog) []::tF kF q12 l9::tcw kI kC kE::tcq kF kC::tbb kA kE)) (sI [1,2,4,0,3,5,6,7])<|bi5 h fun l14 l15 l16 x17 x18 e19 h=>dP [tx kD q6 l2,kZ kG kB kA (fun _=>[]) ([]:List TStore) [],jV kD kB (fun _=>[]) ([]:List TLog) []] (tF kF q12 l9::tcw kI kC kE::tcq kF kC::tbb kA kE) O (fun w' hw=>W6 e19 hw.lend) ?_
  rintro _ _ ⟨kG,kB,q20,q21,q22,hg23,hg24,rfl,rfl⟩
  refine aj (D:=Cls w [] (tx kD q20 l14::tar kG kB kA q21 l15::ty kD kB q22 l16::tF kF q12 l9::tcw kI kC kE::tcq kF kC::tbb kA kE)) hI<|L.r 5 O<|nsr<|L.r 1 O<|aj (D:=Cls w [] (tF kF q12 l9::tcw kI kC kE::tcq kF kC::tx kD q20 l14::tar kG kB kA q21 l15::ty kD kB q22 l16::tbb kA kE)) (sI [3,4,5,0,1,2,6,7])<|bi5 h fun l25 l26 l27 x28 x29 e30 h=>dP [tF kF q12 l9,tcw kI kC kE,tcq kF kC] (tx kD q20 l14::tar kG kB kA q21 l15::ty kD kB q22 l16::tbb kA kE) O (fun w' hw=>W7 e30 hw.lend) ?_
  rintro _ _ ⟨kI,kC,q31,q32,q33,hg34,hg35,rfl,rfl⟩
  refine aj (D:=Cls w [] (tF kF q31 l25::taw kI kC kE q32 l26::tB kF kC q33 l27::tx kD q20 l14::tar kG kB kA q21 l15::ty kD kB q22 l16::tbb kA kE)) hI<|L.r 5 O<|cjm<|ar (fun gs D=>∃gb2,gs=[(1,u1),(5,VP kD x3),(6,.int .i64 x18),(7,VP kF x10),(8,VP kG x17),(9,VP kI x28),(10,.int .i64 x29),(51,.bool gb2)]∧D=Cls w [] (tF kF q31 l25::taw kI kC kE q32 l26::tB kF kC q33 l27::tx kD q20 l14::tar kG kB kA q21 l15::ty kD kB q22 l16::tbb kA kE)∧qlz x18 x29 x17 a1 x3 x10 x28 l25 l26 l27 l14 l15 l16 gb2=some r) ?_ ?_
  ·refine ah<|L.r 1 O<|neL h (fun c275 h=>?_) fun c275 h=>?_
   ·exact ae<|ay ⟨true,O,O,h⟩ hI
   exact ae<|ay ⟨false,O,O,h⟩ hI
  rintro _ _ ⟨gb2,rfl,rfl,h⟩
  rw[qlz]at h
  rcases gb2 with _|_
  ·replace h:=qU h
   refine a6 O<|aN<|ab<|aE<|sr<|L.r 1 O<|neL h (fun c36 h=>?_) fun c36 h=>?_
   ·cases h
    exact L.r 4 O<|cjb<|L.r 1 O<|cjh<|rT<|d0s []
   refine L.r 2 O<|tkL<|iL h (cD Tryz.underlying29 O O) (fun c37 h=>?_) fun c37 h=>?_
   ·cases h
    exact L.r 1 O<|cjb<|L.r 1 O<|cjh<|rT<|d0s []
   refine L.r 1 O<|cja<|ab<|ar (fun gs D=>∃gl3 gq4 kI gl6 gq7 kC gl9 oB jR gq12 kG zL xA kB jA yW kA zU gq21 kE yQ gq24,gs=[(5,VP kD x3),(7,VP kF x10)]∧D=Cls w [] (tF kF gq4 gl3::taw kI kC kE gq7 gl6::tB kF kC oB gl9::tx kD gq12 jR::tcC kG kB kA xA zL kD yW jA gq21 zU kE gq24 yQ)∧qm1 x3 x10 gl3 gl6 gl9 jR zL jA zU yQ=some r) ?_ ?_
   ·refine sr<|L.r 1 O<|yL (eO (row:=TStoreDeed.rowv) (vs:=q1) (l:=a1) Tryz.underlying22 O fun w' hw=>hA1.cls0 hw)<|L.r 1 O<|cjp<|au (fun m gs D=>∃xG xH jC jQ xI kI jD yM kC jL zH yC gq38 kG yJ xJ kB yK xK kA yA zN kE jW yX,gs=[(5,VP kD x3),(7,VP kF x10),(8,VP kG xG),(9,VP kI xH),(65,u1),(66,.int .i64 (a1.length:Int)),(67,taB jC)]∧D=Cls w [] (tF kF xI jQ::taw kI kC kE yM jD::tB kF kC zH jL::tx kD gq38 yC::tcC kG kB kA xJ yJ kD xK yK zN yA kE yX jW)∧qgA a1 x3 x10 m xG xH jC jQ jD jL yC yJ yK yA jW=some r) ⟨x17,x28,0,l25,q31,kI,l26,q32,kC,l27,q33,l14,q20,kG,l15,q21,kB,l16,q22,kA,([]:List Ttx),(fun _=>[]),kE,([]:List TDeal),(fun _=>[]),O,O,h⟩ ⟨O,O,O,O,O,O,O,trivial⟩ hI ?_
    rintro m _ _ ⟨xG,xH,jC,jQ,xI,kI,jD,yM,kC,jL,zH,yC,gq38,kG,yJ,xJ,kB,yK,xK,kA,yA,zN,kE,jW,yX,rfl,rfl,h⟩
    rcases m with _|m
    ·rw[qgA]at h;cases h
    rw[qgA]at h
    generalize hg2:qgA a1 x3 x10 m=go2 at h
    rw[qjv]at h
    refine sr<|ltL h (fun c50 h=>?_) fun c50 h=>?_
    ·refine cje<|mL (fun _=>el u1 (jC.toNat*6)) h (dJ (row:=TStoreDeed.rowv) (vs:=q1) (l:=a1) Tryz.underlying22 qnf O O fun w' hw=>hA1.cls0 hw) fun x51 ex51 h=>(yL (bR (r:=[.int .i64 x51.Wish.Kind,.int .i64 x51.Wish.Tx,.int .i64 x51.Wish.Item,st x51.Wish.Text,.int .i64 x51.Fuse,tc q1 jC]) qoy qnf O (fun w' hw=>hA1.cls0 hw) (qlJ (vs:=q1) ex51) O)<|L.alloc O qoc fun b52=>eg (i:=0) qnf O O O O (fun w hw=>(qW O<|qW O<|qW O<|qW O<|qW O (qW ((zAt (sds:=TStoreDeed.sds) (vs:=q1) (j:=0) (c:=1) hD1 (fun _ _=>O) ex51 O).cls0 hw).one zg))) O nb<|ln<|ar (fun gs D=>∃gx51 gx52 gl53 gq54 kI gl56 gq57 kC gl59 gq60 gl61 gq62 kG gl64 gq65 kB gl67 gq68 kA gl70 gq71 kE gl73 gq74,gs=[(5,VP kD x3),(7,VP kF x10),(8,VP kG gx51),(9,VP kI gx52),(65,u1),(66,.int .i64 (a1.length:Int)),(67,taB jC)]∧D=Cls w [] (tF kF gq54 gl53::taw kI kC kE gq57 gl56::tB kF kC gq60 gl59::tx kD gq62 gl61::tcC kG kB kA gq65 gl64 kD gq68 gl67 gq71 gl70 kE gq74 gl73)∧qkb jC go2 gx51 gx52 gl53 gl56 gl59 gl61 gl64 gl67 gl70 gl73=some r) ?_ ?_)
     ·refine sr<|yF qhr O<|yF qhs O<|yP 0 ag3 O O O<|cjp<|ar (fun gs D=>∃gb75,gs=[(5,VP kD x3),(7,VP kF x10),(8,VP kG xG),(9,VP kI xH),(12,pt b52 0),(65,u1),(66,.int .i64 (a1.length:Int)),(67,taB jC),(73,.int .i64 x51.Wish.Kind),(74,.bool gb75)]∧D=Cls w [] [tF kF xI jQ,taw kI kC kE yM jD,tB kF kC zH jL,tx kD gq38 yC,tar kG kB kA xJ yJ,ty kD kB xK yK,tC kA zN yA,tA kE yX jW,tY b52 x51 q1 jC]∧qgj xG x51 yC yJ yK yA xH jQ jD jL jW jC go2 x3 x10 gb75=some r) ?_ ?_
      ·refine sr<|eqL h (fun c268 h=>?_) fun c268 h=>?_
       ·exact L.r 1 O<|cjg<|aN<|ay ⟨true,O,O,h⟩<|sI [1,2,3,4,5,6,7,8,0]
       refine L.r 1 O<|cjn<|eqL h (fun c269 h=>?_) fun c269 h=>?_
       ·exact L.r 1 O<|cjg<|aN<|ay ⟨true,O,O,h⟩<|sI [1,2,3,4,5,6,7,8,0]
       refine L.r 1 O<|cjn<|eqL h (fun c270 h=>?_) fun c270 h=>?_
       ·exact L.r 1 O<|cjg<|aN<|ay ⟨true,O,O,h⟩<|sI [1,2,3,4,5,6,7,8,0]
       refine L.r 1 O<|cjn<|eqL h (fun c271 h=>?_) fun c271 h=>?_
       ·exact L.r 1 O<|cjg<|aN<|ay ⟨true,O,O,h⟩<|sI [1,2,3,4,5,6,7,8,0]
       refine L.r 1 O<|cjn<|eqL h (fun c272 h=>?_) fun c272 h=>?_
       ·exact L.r 1 O<|cjg<|aN<|ay ⟨true,O,O,h⟩<|sI [1,2,3,4,5,6,7,8,0]
       refine L.r 1 O<|ln<|a6 O<|ah<|eqL h (fun c273 h=>?_) fun c273 h=>?_
       ·exact L.r 1 O<|ae<|ay ⟨true,O,O,h⟩<|sI [1,2,3,4,5,6,7,8,0]
       exact L.r 1 O<|ae<|ay ⟨false,O,O,h⟩<|sI [1,2,3,4,5,6,7,8,0]
      rintro _ _ ⟨gb75,rfl,rfl,h⟩
      rw[qgj]at h
      rcases gb75 with _|_
      ·replace h:=qU h
       refine a6 O<|sr<|eqL h (fun c63 h=>?_) fun c63 h=>?_
       ·refine L.r 1 O<|cjb<|L.r 1 O<|yF qj1 O<|yP 8 ag3 O O O<|aj (D:=Cls w [] [tx kD gq38 yC,tF kF xI jQ,taw kI kC kE yM jD,tB kF kC zH jL,tar kG kB kA xJ yJ,ty kD kB xK yK,tC kA zN yA,tA kE yX jW,tY b52 x51 q1 jC]) (sI [3,0,1,2,4,5,6,7,8])<|bi1 h fun l64 e65 h=>dP [tx kD gq38 yC] [tF kF xI jQ,taw kI kC kE yM jD,tB kF kC zH jL,tar kG kB kA xJ yJ,ty kD kB xK yK,tC kA zN yA,tA kE yX jW,tY b52 x51 q1 jC] O (fun w' hw=>W10 e65 hw.lend) ?_
        rintro _ _ ⟨q66,rfl,rfl⟩
        refine aj (D:=Cls w [] [tx kD q66 l64,tF kF xI jQ,taw kI kC kE yM jD,tB kF kC zH jL,tar kG kB kA xJ yJ,ty kD kB xK yK,tC kA zN yA,tA kE yX jW,tY b52 x51 q1 jC]) hI<|nr<|L.r 1 O<|yF qj1 O<|yP 8 ag3 O O O<|aj (D:=Cls w [] [tF kF xI jQ,tx kD q66 l64,taw kI kC kE yM jD,tB kF kC zH jL,tar kG kB kA xJ yJ,ty kD kB xK yK,tC kA zN yA,tA kE yX jW,tY b52 x51 q1 jC]) (sI [1,0,2,3,4,5,6,7,8])<|bi1 h fun l67 e68 h=>dP [tF kF xI jQ] [tx kD q66 l64,taw kI kC kE yM jD,tB kF kC zH jL,tar kG kB kA xJ yJ,ty kD kB xK yK,tC kA zN yA,tA kE yX jW,tY b52 x51 q1 jC] O (fun w' hw=>W11 e68 hw.lend) ?_
        rintro _ _ ⟨q69,rfl,rfl⟩
        exact aj (D:=Cls w [] [tF kF q69 l67,tx kD q66 l64,taw kI kC kE yM jD,tB kF kC zH jL,tar kG kB kA xJ yJ,ty kD kB xK yK,tC kA zN yA,tA kE yX jW,tY b52 x51 q1 jC]) hI<|ae<|aq<|ay ⟨xG,xH,l67,q69,kI,jD,yM,kC,jL,zH,l64,q66,kG,yJ,xJ,kB,yK,xK,kA,yA,zN,kE,jW,yX,O,O,h⟩<|sI [0,2,3,1,4,5,6,7]
       refine L.r 1 O<|cjn<|eqL h (fun c70 h=>?_) fun c70 h=>?_
       ·refine L.r 1 O<|cjb<|L.r 1 O<|yF qj0 O<|yP 8 qnX O O O<|aj (D:=Cls w [] [tx kD gq38 yC,tF kF xI jQ,taw kI kC kE yM jD,tB kF kC zH jL,tar kG kB kA xJ yJ,ty kD kB xK yK,tC kA zN yA,tA kE yX jW,tY b52 x51 q1 jC]) (sI [3,0,1,2,4,5,6,7,8])<|bi1 h fun l71 e72 h=>dP [tx kD gq38 yC] [tF kF xI jQ,taw kI kC kE yM jD,tB kF kC zH jL,tar kG kB kA xJ yJ,ty kD kB xK yK,tC kA zN yA,tA kE yX jW,tY b52 x51 q1 jC] O (fun w' hw=>W12 e72 (At.lendS (zAt (sds:=TStoreDeed.sds) (vs:=q1) (j:=0) (c:=1) hD1 (fun _ _=>O) ex51 O) hw) hw.lend) ?_
        rintro _ _ ⟨q73,rfl,rfl⟩
        refine aj (D:=Cls w [] [tx kD q73 l71,tF kF xI jQ,taw kI kC kE yM jD,tB kF kC zH jL,tar kG kB kA xJ yJ,ty kD kB xK yK,tC kA zN yA,tA kE yX jW,tY b52 x51 q1 jC]) hI<|nsr<|L.r 1 O<|yF qj0 O<|yP 8 qnX O O O<|aj (D:=Cls w [] [tF kF xI jQ,tx kD q73 l71,taw kI kC kE yM jD,tB kF kC zH jL,tar kG kB kA xJ yJ,ty kD kB xK yK,tC kA zN yA,tA kE yX jW,tY b52 x51 q1 jC]) (sI [1,0,2,3,4,5,6,7,8])<|bi1 h fun l74 e75 h=>dP [tF kF xI jQ] [tx kD q73 l71,taw kI kC kE yM jD,tB kF kC zH jL,tar kG kB kA xJ yJ,ty kD kB xK yK,tC kA zN yA,tA kE yX jW,tY b52 x51 q1 jC] O (fun w' hw=>W13 e75 (At.lendS (zAt (sds:=TStoreDeed.sds) (vs:=q1) (j:=0) (c:=1) hD1 (fun _ _=>O) ex51 O) hw) hw.lend) ?_
        rintro _ _ ⟨q76,rfl,rfl⟩
        refine aj (D:=Cls w [] [tF kF q76 l74,tx kD q73 l71,taw kI kC kE yM jD,tB kF kC zH jL,tar kG kB kA xJ yJ,ty kD kB xK yK,tC kA zN yA,tA kE yX jW,tY b52 x51 q1 jC]) hI<|nsr<|L.r 1 O<|aj (D:=Cls w [] [tx kD q73 l71,tar kG kB kA xJ yJ,ty kD kB xK yK,tF kF q76 l74,taw kI kC kE yM jD,tB kF kC zH jL,tC kA zN yA,tA kE yX jW,tY b52 x51 q1 jC]) (sI [1,4,5,0,2,3,6,7,8])<|bi5 h fun l77 l78 l79 x80 x81 e82 h=>dP [tx kD q73 l71,tar kG kB kA xJ yJ,ty kD kB xK yK] [tF kF q76 l74,taw kI kC kE yM jD,tB kF kC zH jL,tC kA zN yA,tA kE yX jW,tY b52 x51 q1 jC] O (fun w' hw=>W6 e82 hw.lend) ?_
        rintro _ _ ⟨kG,kB,q83,q84,q85,hg86,hg87,rfl,rfl⟩
        refine aj (D:=Cls w [] [tx kD q83 l77,tar kG kB kA q84 l78,ty kD kB q85 l79,tF kF q76 l74,taw kI kC kE yM jD,tB kF kC zH jL,tC kA zN yA,tA kE yX jW,tY b52 x51 q1 jC]) hI<|L.r 5 O<|cjf<|L.r 1 O<|aj (D:=Cls w [] [tF kF q76 l74,taw kI kC kE yM jD,tB kF kC zH jL,tx kD q83 l77,tar kG kB kA q84 l78,ty kD kB q85 l79,tC kA zN yA,tA kE yX jW,tY b52 x51 q1 jC]) (sI [3,4,5,0,1,2,6,7,8])<|bi5 h fun l88 l89 l90 x91 x92 e93 h=>dP [tF kF q76 l74,taw kI kC kE yM jD,tB kF kC zH jL] [tx kD q83 l77,tar kG kB kA q84 l78,ty kD kB q85 l79,tC kA zN yA,tA kE yX jW,tY b52 x51 q1 jC] O (fun w' hw=>W7 e93 hw.lend) ?_
        rintro _ _ ⟨kI,kC,q94,q95,q96,hg97,hg98,rfl,rfl⟩
        refine aj (D:=Cls w [] [tF kF q94 l88,taw kI kC kE q95 l89,tB kF kC q96 l90,tx kD q83 l77,tar kG kB kA q84 l78,ty kD kB q85 l79,tC kA zN yA,tA kE yX jW,tY b52 x51 q1 jC]) hI<|L.r 5 O<|nsr<|L.r 1 O<|neL h (fun c99 h=>?_) fun c99 h=>?_
        ·refine cjb<|L.r 2 O<|eqL h (fun c100 h=>?_) fun c100 h=>?_
         ·cases h
          exact L.r 2 O<|tkL<|yL (cD Tryz.underlying29 O O)<|L.r 2 O<|cjh<|ak<|bW<|cjk<|rT<|d0s []
         cases h
         exact L.r 5 O<|cjh<|ak<|bW<|cjk<|rT<|d0s []
        refine cji<|L.r 1 O<|neL h (fun c101 h=>?_) fun c101 h=>?_
        ·cases h
         exact L.r 4 O<|cjb<|L.r 1 O<|cjc<|ak<|bW<|cjk<|rT<|d0s []
        refine L.r 2 O<|tkL<|iL h (cD Tryz.underlying29 O O) (fun c102 h=>?_) fun c102 h=>?_
        ·cases h
         exact L.r 1 O<|cjb<|L.r 1 O<|cjc<|ak<|bW<|cjk<|rT<|d0s []
        exact L.r 1 O<|cja<|aq<|ay ⟨x80,x91,l88,q94,kI,l89,q95,kC,l90,q96,l77,q83,kG,l78,q84,kB,l79,q85,kA,yA,zN,kE,jW,yX,O,O,h⟩<|sI [0,1,2,3,4,5,6,7]
       exact L.r 1 O<|cja<|aq<|ay ⟨xG,xH,jQ,xI,kI,jD,yM,kC,jL,zH,yC,gq38,kG,yJ,xJ,kB,yK,xK,kA,yA,zN,kE,jW,yX,O,O,h⟩<|sI [0,1,2,3,4,5,6,7]
      replace h:=qT h
      refine aX O<|aE<|av (k:=9) (stC [[3,7],[7]] [Cls w [] [tF kF xI jQ,taw kI kC kE yM jD,tB kF kC zH jL,tx kD gq38 yC,tar kG kB kA xJ yJ,ty kD kB xK yK,tC kA zN yA,tA kE yX jW,tY b52 x51 q1 jC],Cls w [] [tF kF xI jQ,taw kI kC kE yM jD,tB kF kC zH jL,tA kE yX jW,tY b52 x51 q1 jC]]<|Cls w [] [tY b52 x51 q1 jC]) O mixed (fun _ hw=>hw.drew) sn<|aA [] (ax (ax zF<|sI [4])<|sI [8]) fun hz243=>(vR [0] O<|vQ 1 [] hz243 O (aa qhr O)<|vQ 2 [] hz243 O (cv (i:=0) (vs:=[.int .i64 x51.Wish.Kind,.int .i64 x51.Wish.Tx,.int .i64 x51.Wish.Item,st x51.Wish.Text]) qnY qnO O O O (by intro j u hu;match j,hu with|0,hu=>exact hu|1,hu=>exact hu|2,hu=>exact hu|3,hu=>exact hu))<|vR [4] O<|vQ 5 [] hz243 O (aa qhr O)<|vQ 6 [] hz243 O (cv (i:=0) (vs:=[.int .i64 x51.Wish.Kind,.int .i64 x51.Wish.Tx,.int .i64 x51.Wish.Item,st x51.Wish.Text]) qnY qnO O O O (by intro j u hu;match j,hu with|0,hu=>exact hu|1,hu=>exact hu|2,hu=>exact hu|3,hu=>exact hu))<|vE 3 O<|aj (D:=Cls w [] [tx kD gq38 yC,tar kG kB kA xJ yJ,ty kD kB xK yK,tC kA zN yA,tF kF xI jQ,taw kI kC kE yM jD,tB kF kC zH jL,tA kE yX jW,tY b52 x51 q1 jC]) (sI [3,4,5,6,0,1,2,7,8])<|bi5 h fun l244 l245 l246 l247 x248 e249 h=>dP [tx kD gq38 yC,tar kG kB kA xJ yJ,ty kD kB xK yK,tC kA zN yA] [tF kF xI jQ,taw kI kC kE yM jD,tB kF kC zH jL,tA kE yX jW,tY b52 x51 q1 jC] O (fun w' hw=>W8 e249 hw.lend) ?_)
      rintro _ _ ⟨kA,q250,q251,q252,q253,hg254,rfl,rfl⟩
      refine aj (D:=Cls w [] [tx kD q250 l244,tar kG kB kA q251 l245,ty kD kB q252 l246,tC kA q253 l247,tF kF xI jQ,taw kI kC kE yM jD,tB kF kC zH jL,tA kE yX jW,tY b52 x51 q1 jC]) hI<|ltV (stC [[7]] [Cls w [] [tF kF xI jQ,taw kI kC kE yM jD,tB kF kC zH jL,tA kE yX jW,tY b52 x51 q1 jC]]<|Cls w [] [tY b52 x51 q1 jC]) 3 (aw O<|sT sD) (sN<|sI [4,5,6,7,8])<|vE 7 O<|aj (D:=Cls w [] [tF kF xI jQ,taw kI kC kE yM jD,tB kF kC zH jL,tA kE yX jW,tx kD q250 l244,tar kG kB kA q251 l245,ty kD kB q252 l246,tC kA q253 l247,tY b52 x51 q1 jC]) (sI [4,5,6,7,0,1,2,3,8])<|bi5 h fun l255 l256 l257 l258 x259 e260 h=>dP [tF kF xI jQ,taw kI kC kE yM jD,tB kF kC zH jL,tA kE yX jW] [tx kD q250 l244,tar kG kB kA q251 l245,ty kD kB q252 l246,tC kA q253 l247,tY b52 x51 q1 jC] O (fun w' hw=>W9 e260 hw.lend) ?_
      rintro _ _ ⟨kE,q261,q262,q263,q264,hg265,rfl,rfl⟩
      refine aj (D:=Cls w [] [tF kF q261 l255,taw kI kC kE q262 l256,tB kF kC q263 l257,tA kE q264 l258,tx kD q250 l244,tar kG kB kA q251 l245,ty kD kB q252 l246,tC kA q253 l247,tY b52 x51 q1 jC]) hI<|ltV (stC [] []<|Cls w [] [tY b52 x51 q1 jC]) 7 (aw O sD) (aP<|sI [8])<|aA [] zF fun hz266=>(fm (i:=8) h (cI [] (by kernel_rfl) O hz266) O O O (eC (row:=TTold.row) (a:=x248) (b:=x259) qou vH (qnP _) (qnP _) (qnq _ _) O O) (fun c267 h=>?_) fun c267 h=>?_)
      ·cases h
       exact vD<|ab<|aX O<|sr<|L.r 1 O<|cjc<|ak<|bW<|cjk<|rT<|d0s []
      exact vD<|ab<|a6 O<|aN<|aq<|ay ⟨xG,xH,l255,q261,kI,l256,q262,kC,l257,q263,l244,q250,kG,l245,q251,kB,l246,q252,kA,l247,q253,kE,l258,q264,O,O,h⟩<|sI [0,1,2,4,5,6,7,3]
     rintro _ _ ⟨gx51,gx52,gl53,gq54,kI,gl56,gq57,kC,gl59,gq60,gl61,gq62,kG,gl64,gq65,kB,gl67,gq68,kA,gl70,gq71,kE,gl73,gq74,rfl,rfl,h⟩
     rw[qkb]at h
     refine sr<|L.r 1 O<|aj (D:=Cls w [] [tar kG kB kA gq65 gl64,tF kF gq54 gl53,taw kI kC kE gq57 gl56,tB kF kC gq60 gl59,tx kD gq62 gl61,ty kD kB gq68 gl67,tC kA gq71 gl70,tA kE gq74 gl73]) (sI [4,0,1,2,3,5,6,7])<|bi1 h fun x53 e54 h=>dP [tar kG kB kA gq65 gl64] [tF kF gq54 gl53,taw kI kC kE gq57 gl56,tB kF kC gq60 gl59,tx kD gq62 gl61,ty kD kB gq68 gl67,tC kA gq71 gl70,tA kE gq74 gl73] O (fun w' hw=>W14 e54 hw.lend) ?_
     rintro _ _ ⟨rfl,rfl⟩
     refine aj (D:=Cls w [] [tar kG kB kA gq65 gl64,tF kF gq54 gl53,taw kI kC kE gq57 gl56,tB kF kC gq60 gl59,tx kD gq62 gl61,ty kD kB gq68 gl67,tC kA gq71 gl70,tA kE gq74 gl73]) hI<|L.r 1 O<|aj (D:=Cls w [] (taw kI kC kE gq57 gl56::tA kE gq74 gl73::tar kG kB kA gq65 gl64::tF kF gq54 gl53::tB kF kC gq60 gl59::tbW kD gq62 gl61 kB gq68 gl67 kA gq71 gl70)) (sI [2,7,0,1,3,4,5,6])<|bi2 h fun l55 x56 e57 h=>dP (taZ kI kC kE gq57 gl56 gq74 gl73) (tar kG kB kA gq65 gl64::tF kF gq54 gl53::tB kF kC gq60 gl59::tbW kD gq62 gl61 kB gq68 gl67 kA gq71 gl70) O (fun w' hw=>W15 e57 hw.lend) ?_
     rintro _ _ ⟨q58,rfl,rfl⟩
     refine aj (D:=Cls w [] (taw kI kC kE q58 l55::tA kE gq74 gl73::tar kG kB kA gq65 gl64::tF kF gq54 gl53::tB kF kC gq60 gl59::tbW kD gq62 gl61 kB gq68 gl67 kA gq71 gl70)) hI<|bi1 h fun _ en59 h=>?_
     obtain⟨_,en59⟩:=qd en59
     obtain⟨_,en60,h⟩:=qq h
     obtain⟨_,en60⟩:=qd en60
     refine iL h (eL (row:=SR) qnu wG Tryz.underlying46 qnp qns qni ql9 en59 en60 O O) (fun c61 h=>?_) fun c61 h=>?_
     ·cases h
      exact cjb<|L.r 1 O<|cjc<|cjk<|rT<|d0s []
     exact cja<|cjj<|mA h fun x62 ex62 h=>(L.r 1 O<|ae<|bi ⟨gx51,gx52,x62,gl53,gq54,kI,l55,q58,kC,gl59,gq60,gl61,gq62,kG,gl64,gq65,kB,gl67,gq68,kA,gl70,gq71,kE,gl73,gq74,O,O,by rw[hg2];exact h⟩<|sI [3,0,4,5,2,6,7,1])
    exact cjm<|cjd<|ay ⟨jQ,xI,kI,jD,yM,kC,jL,zH,yC,gq38,kG,yJ,xJ,kB,yK,xK,kA,yA,zN,kE,jW,yX,O,O,h⟩ hI
   rintro _ _ ⟨gl3,gq4,kI,gl6,gq7,kC,gl9,oB,jR,gq12,kG,zL,xA,kB,jA,yW,kA,zU,gq21,kE,yQ,gq24,rfl,rfl,h⟩
   rw[qm1]at h
   refine sr<|L.r 1 O<|aj (D:=Cls w [] (tx kD gq12 jR::tF kF gq4 gl3::taw kI kC kE gq7 gl6::tB kF kC oB gl9::tcC kG kB kA xA zL kD yW jA gq21 zU kE gq24 yQ)) (sI [3,0,1,2,4,5,6,7])<|bi1 h fun l38 e39 h=>dP [tx kD gq12 jR] (tF kF gq4 gl3::taw kI kC kE gq7 gl6::tB kF kC oB gl9::tcC kG kB kA xA zL kD yW jA gq21 zU kE gq24 yQ) O (fun w' hw=>W10 e39 hw.lend) ?_
   rintro _ _ ⟨q40,rfl,rfl⟩
   refine aj (D:=Cls w [] (tx kD q40 l38::tF kF gq4 gl3::taw kI kC kE gq7 gl6::tB kF kC oB gl9::tcC kG kB kA xA zL kD yW jA gq21 zU kE gq24 yQ)) hI<|ln<|ar (fun gs D=>gs=[]∧D=Cls w [] (tx kD q40 l38::tF kF gq4 gl3::taw kI kC kE gq7 gl6::tB kF kC oB gl9::tcC kG kB kA xA zL kD yW jA gq21 zU kE gq24 yQ)∧qnL=some r) ?_ ?_
   ·refine sr<|L.r 1 O<|bi1 h fun jT eth41 h=>aj (D:=Cls w [] (.obj (kF x10.toNat) [(tc gq4 x10),(td gq4 x10),(ts gq4 x10),(tz gq4 x10),.int .i64 jT.left_] 51::.sl (tc gq4 x10) 9 1 (jT.Seen.map SR)::.sl (td gq4 x10) 9 1 (jT.Safe.map SR)::.sl (ts gq4 x10) 3 1 (jT.late_.map I)::.sl (tz gq4 x10) 9 1 (jT.texts_.map SR)::yS kF gq4 gl3 (tf x10)::tx kD q40 l38::taw kI kC kE gq7 gl6::tB kF kC oB gl9::tcC kG kB kA xA zL kD yW jA gq21 zU kE gq24 yQ)) (aoI 1 O eth41)<|yNP O eth41 ji 0 wv O O<|yL (aF (g:=SR) (l:=jT.Seen) Tryz.underlying48 O<|aG 1 O)<|L.r 1 O<|cjp<|au (fun m gs D=>∃zZ,gs=[(5,VP kD x3),(146,(tc gq4 x10)),(147,.int .i64 (jT.Seen.length:Int)),(148,taB zZ)]∧D=Cls w [] [yS kF gq4 gl3 (tf x10),tx kD q40 l38,taw kI kC kE gq7 gl6,tB kF kC oB gl9,tar kG kB kA xA zL,ty kD kB yW jA,tC kA gq21 zU,tA kE gq24 yQ,.obj (kF x10.toNat) [(tc gq4 x10),(td gq4 x10),(ts gq4 x10),(tz gq4 x10),.int .i64 jT.left_] 51,.sl (tc gq4 x10) 9 1 (jT.Seen.map SR),.sl (td gq4 x10) 9 1 (jT.Safe.map SR),.sl (ts gq4 x10) 3 1 (jT.late_.map I),.sl (tz gq4 x10) 9 1 (jT.texts_.map SR)]∧qjx jT x3 l38 m zZ=some r) ⟨0,O,O,h⟩ ⟨O,O,O,O,trivial⟩ (sI [5,6,7,8,9,10,11,12,0,1,2,3,4]) ?_
    rintro m _ _ ⟨zZ,rfl,rfl,h⟩
    rcases m with _|m
    ·rw[qjx]at h;cases h
    rw[qjx]at h
    generalize hg1:qjx jT x3 l38 m=go1 at h
    rw[qjw]at h
    refine sr<|ltL h (fun c42 h=>?_) fun c42 h=>?_
    ·refine cje<|L.r 1 O<|mL (fun _=>el (tc gq4 x10)<|tbG zZ) h (ap (g:=SR) (l:=jT.Seen) Tryz.underlying48 sz9 O O<|aG 9 O) fun x43 ex43 h=>(yL (aB (u:=st x43) ag9 O (aG 9 O)<|ql ex43)<|L.r 2 O<|nsr<|L.r 2 O<|aj (D:=Cls w [] [tx kD q40 l38,yS kF gq4 gl3 (tf x10),taw kI kC kE gq7 gl6,tB kF kC oB gl9,tar kG kB kA xA zL,ty kD kB yW jA,tC kA gq21 zU,tA kE gq24 yQ,.obj (kF x10.toNat) [(tc gq4 x10),(td gq4 x10),(ts gq4 x10),(tz gq4 x10),.int .i64 jT.left_] 51,.sl (tc gq4 x10) 9 1 (jT.Seen.map SR),.sl (td gq4 x10) 9 1 (jT.Safe.map SR),.sl (ts gq4 x10) 3 1 (jT.late_.map I),.sl (tz gq4 x10) 9 1 (jT.texts_.map SR)]) (sI [1,0,2,3,4,5,6,7,8,9,10,11,12])<|bi2 h fun s44 x45 e46 h=>aV (A:=[tx kD q40 l38]) (M:=[yS kF gq4 gl3 (tf x10),taw kI kC kE gq7 gl6,tB kF kC oB gl9,tar kG kB kA xA zL,ty kD kB yW jA,tC kA gq21 zU,tA kE gq24 yQ,.obj (kF x10.toNat) [(tc gq4 x10),(td gq4 x10),(ts gq4 x10),(tz gq4 x10),.int .i64 jT.left_] 51,.sl (tc gq4 x10) 9 1 (jT.Seen.map SR),.sl (td gq4 x10) 9 1 (jT.Safe.map SR),.sl (ts gq4 x10) 3 1 (jT.late_.map I),.sl (tz gq4 x10) 9 1 (jT.texts_.map SR)]) O qj3 O (fun w' hw=>W16 e46 hw.lend) ?_)
     rintro _ _ ⟨rfl,rfl⟩
     refine aj (D:=Cls w [] [tx kD q40 l38,yS kF gq4 gl3 (tf x10),taw kI kC kE gq7 gl6,tB kF kC oB gl9,tar kG kB kA xA zL,ty kD kB yW jA,tC kA gq21 zU,tA kE gq24 yQ,.obj (kF x10.toNat) [(tc gq4 x10),(td gq4 x10),(ts gq4 x10),(tz gq4 x10),.int .i64 jT.left_] 51,.sl (tc gq4 x10) 9 1 (jT.Seen.map SR),.sl (td gq4 x10) 9 1 (jT.Safe.map SR),.sl (ts gq4 x10) 3 1 (jT.late_.map I),.sl (tz gq4 x10) 9 1 (jT.texts_.map SR)]) hI<|L.r 5 O<|nsr<|L.r 1 O<|neL h (fun c47 h=>?_) fun c47 h=>?_
     ·cases h
      exact L.r 5 O<|cjb<|L.r 1 O<|cjc<|cjk<|az (D:=Cls w [] (tF kF gq4 gl3::tx kD q40 l38::taw kI kC kE gq7 gl6::tB kF kC oB gl9::tcC kG kB kA xA zL kD yW jA gq21 zU kE gq24 yQ)) (asI [8,9,10,11,12,1,0,2,3,4,5,6,7] eth41 O)<|rT<|d0s []
     refine L.r 3 O<|tkL<|iL h (bN O O) (fun c48 h=>?_) fun c48 h=>?_
     ·cases h
      exact L.r 1 O<|cjb<|L.r 1 O<|cjc<|cjk<|az (D:=Cls w [] (tF kF gq4 gl3::tx kD q40 l38::taw kI kC kE gq7 gl6::tB kF kC oB gl9::tcC kG kB kA xA zL kD yW jA gq21 zU kE gq24 yQ)) (asI [8,9,10,11,12,1,0,2,3,4,5,6,7] eth41 O)<|rT<|d0s []
     exact L.r 1 O<|cja<|cjj<|mA h fun x49 ex49 h=>(L.r 1 O<|ae<|bi ⟨x49,O,O,by rw[hg1];exact h⟩<|sI [1,0,2,3,4,5,6,7,8,9,10,11,12])
    exact cjm<|cjd<|az (D:=Cls w [] (tF kF gq4 gl3::tx kD q40 l38::taw kI kC kE gq7 gl6::tB kF kC oB gl9::tcC kG kB kA xA zL kD yW jA gq21 zU kE gq24 yQ)) (asI [8,9,10,11,12,0,1,2,3,4,5,6,7] eth41 O)<|bB ⟨O,O,h⟩ trivial<|sI [1,0,2,3,4,5,6,7]
   rintro _ _ ⟨rfl,rfl,h⟩
   rw[qnL]at h
   cases h
   exact sr<|L.r 1 O<|cjc<|rT<|d0s []
  replace h:=qT h
  refine aX O<|sr<|L.r 2 O<|eqL h (fun c274 h=>?_) fun c274 h=>?_
  ·cases h
   exact L.r 2 O<|tkL<|yL (cD Tryz.underlying29 O O)<|L.r 2 O<|cjh<|rT<|d0s []
  cases h
  exact L.r 5 O<|cjh<|rT<|d0s []
 replace h:=qT h
 refine aX O<|sr<|bd 10 (fun gs D=>∃gb76,gs=[(37,.bool gb76)]∧D=Cls w [] (tx kD q6 l2::tbX kF::tah kG kB kA kI kC kE kD kF)∧qly gb76=some r) ?_ ?_
 ·refine L.r 1 O<|eqL h (fun c276 h=>?_) fun c276 h=>?_
  ·refine L.r 2 O<|tkL<|ltL h (fun c277 h=>?_) fun c277 h=>?_
   ·exact L.r 5 O<|ae<|ay ⟨true,O,O,h⟩ hI
   exact L.r 2 O<|tkL<|yL (dx O O)<|L.r 2 O<|ae<|ay ⟨decide (256<a0),O,O,h⟩ hI
  exact L.r 8 O<|ae<|ay ⟨false,O,O,h⟩ hI
 rintro _ _ ⟨gb76,rfl,rfl,h⟩
 rw[qly]at h
 cases h
 exact L.r 1 O<|cjh<|rT<|d0s []
end Go.Proofs.YtloiiohoelhldaaGreatDoor
