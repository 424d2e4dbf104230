import Derived.Test.YtloiiohoelhldaaGreatDoorSpV
import Derived.Test.YtloiiohoelhldaaGreatDoorSpW1
import Derived.Test.YtloiiohoelhldaaGreatDoorChecked
import Derived.KernelRfl
import Derived.Test.YtloiiohoelhldaaGreatDoorZg
set_option maxRecDepth 100000
set_option maxHeartbeats 8000000
namespace Go.Proofs.YtloiiohoelhldaaGreatDoor
open Go.S
set_option linter.unusedVariables false
set_option linter.unusedSimpArgs false
theorem W21{a0 u0 w r}(h:M21 a0=some r)(hA0:At w u0 1 (a0.map SR)):Does Tryz.prog 21 [u0] w fun u m=>u=.tuple #[.agg (List.flatten [[.int .i64 r.1.gen_],[.bool r.1.whole_],(zr (fzr SR) (fun _=>[]) r.1.values_).flatten]).toArray,.bool r.2]∧m=[]:=by
 rw[M21]at h
 refine body (n:=109) Tryz.func21 O O O (Cls.refl w)<|sr<|L.alloc O qjG fun b1=>bM (S:=te) O<|bD (sds:=sd0) (vs:=(fun _=>[])) (xs:=tap) (qV vj _)<|L.r 1 O<|nsr<|yL (bl (cells:=#[.int .i64 0,.bool true,st [],st [],st [],st [],st [],st [],st [],st [],st [],st [],st [],st [],st [],st [],st [],st [],st [],st [],st [],st []]) O (by kernel_rfl))<|L.alloc O qjG fun b2=>bM (S:=te) O<|bD (sds:=sd0) (vs:=(fun _=>[])) (xs:=tap) (qV vj _)<|bi1 h fun _ en3 h=>?_
 obtain⟨_,en3⟩:=qd en3
 refine ba (q:=1) (ps:=0) [] te [[.int .i64 0],[.bool true],(zr (fzr SR) (fun _=>[]) tap).flatten] [] zu O O (qA (qW O zg)<|qA (qW O zg)<|qA (qaN<|qi _) je) O fl0 (by simp[zl,qc,en3]) (by simp[zl,qc,en3])<|aj (D:=Cls w [] [.ss (zs sd0 (fun _=>[]) (List.replicate 20 ([]:(List UInt8)))),.obj b2 (List.flatten [[.int .i64 0],[.bool true],(zr (fzr SR) (fun _=>[]) (List.replicate 20 ([]:(List UInt8)))).flatten]) 69,.ss (zs sd0 (fun _=>[]) (List.replicate 20 ([]:(List UInt8)))),.obj b1 (List.flatten [[.int .i64 0],[.bool false],(zr (fzr SR) (fun _=>[]) (List.replicate 20 ([]:(List UInt8)))).flatten]) 69]) (fun _ hw=>by simp only[qX,tG,tI,tP,tQ,tR,tS,tZ,taF,taH,taL,taM,taO,taP,taV,taX,tad,taf,tai,tas,tav,taz,tb,tbC,tbT,tbd,tbj,tbk,tbo,tbt,tbu,tbv,tbw,tby,tcB,tcJ,tca,tch,tcm,tcn,tcu,th,tv]at hw ⊢;exact hw)<|ln<|ar (fun gs D=>∃gx1 gb2 gl3,gs=[(2,pt b1 0),(4,pt b2 0)]∧D=tai w b2 gx1 gb2 gl3 b1∧qjB gx1 gb2 gl3=some r) ?_ ?_
 ·refine sr<|L.r 1 O<|yL (aF (g:=SR) (l:=a0) Tryz.underlying48 O fun w' hw=>hA0.cls0 hw)<|L.r 1 O<|cjp<|au (fun m gs D=>∃gx4 gx5 gb6 gl7,gs=((2,pt b1 0)::(4,pt b2 0)::tbl u0 a0 gx4)∧D=tai w b2 gx5 gb6 gl7 b1∧kj a0 m gx4 gx5 gb6 gl7=some r) ⟨0,0,true,tap,O,O,h⟩ ⟨O,O,O,O,O,trivial⟩ (sI [1,0,3,2]) ?_
  rintro m _ _ ⟨gx4,gx5,gb6,gl7,rfl,rfl,h⟩
  rcases m with _|m
  ·rw[kj]at h;cases h
  rw[kj]at h
  generalize hg1:kj a0 m=go1 at h
  rw[qfs]at h
  refine sr<|ltL h (fun c5 h=>?_) fun c5 h=>?_
  ·refine cjm<|aX O<|aN<|ab<|ar (fun gs D=>∃gx8 gb9 kO,gs=((2,pt b1 0)::(4,pt b2 0)::tbl u0 a0 gx4)∧D=tai w b2 gx8 gb9 kO b1∧qah gx4 go1 gx8 gb9 kO=some r) ?_ ?_
   ·refine W.block<|sr<|L.r 1 O<|mL (fun _=>el u0<|tbG gx4) h (ap (g:=SR) (l:=a0) Tryz.underlying48 sz9 O O fun w' hw=>hA0.cls0 hw) fun x7 ex7 h=>(yL (aB (u:=st x7) ag9 O (fun w' hw=>hA0.cls0 hw)<|ql ex7)<|L.r 2 O<|cjf<|L.r 1 O<|iL h (bO O O) (fun c8 h=>?_) fun c8 h=>?_)
    ·refine cjb<|bi1 h fun _ en9 h=>?_
     obtain⟨_,en9⟩:=qd en9
     cases h
     exact yL (bx (q:=0) (ps:=0) [] (tr gx5 gb6 gl7) [] w8 zu O O fl0 (by simp[zl,qc,en9]))<|ba (q:=2) (ps:=0) [] te (tr gx5 gb6 gl7) [] zu O O (qA (qW O zg)<|qA (qW O zg)<|qA (qaN<|qi _) je) O fl0 (by simp[zl,qc,en3]) (by simp[zl,qc,en9])<|aj (D:=Cls w [] [.obj b2 (List.flatten [[.int .i64 gx5],[.bool gb6],(zr (fzr SR) (fun _=>[]) gl7).flatten]) 69,.ss (zs sd0 (fun _=>[]) gl7),.obj b1 (List.flatten [[.int .i64 gx5],[.bool gb6],(zr (fzr SR) (fun _=>[]) gl7).flatten]) 69,.ss (zs sd0 (fun _=>[]) gl7)]) (fun _ hw=>by simp only[qX,tG,tI,tP,tQ,tR,tS,tZ,taF,taH,taL,taM,taO,taP,taV,taX,tad,taf,tai,tas,tav,taz,tb,tbC,tbT,tbd,tbj,tbk,tbo,tbt,tbu,tbv,tbw,tby,tcB,tcJ,tca,tch,tcm,tcn,tcu,th,tv]at hw ⊢;exact hw)<|L.r 1 O<|cjh<|cjo<|bm O (aH (i:=2) (c:=tcE gx5 gb6 gl7) w8 zu O O (by simp[zl,qc,en9])) (aL O)<|d0s []
    refine cjl<|aZ mixed (by kernel_rfl) (fun _ hw=>hw.drew) fun hC=>(U.r 1 O<|fR (V:=fun s10=>st s10) h O (bn Tryz.underlying9 O O) fun s10 es10 h=>(U.r 1 O<|fR (V:=fun s11=>st s11) h O (aU Tryz.underlying9 O O) fun s11 es11 h=>(U.r 2 O<|bo<|ab<|W.block<|ar (fun gs D=>∃jF,gs=[(2,pt b1 0),(4,pt b2 0),(7,st s10),(8,st s11),(17,u0),(18,.int .i64 (a0.length:Int)),(19,.int .i64 gx4),(32,.bool jF)]∧D=tai w b2 gx5 gb6 gl7 b1∧qaw s11 gl7 gx5 gb6 gx4 go1 s10 jF=some r) ?_ ?_)))
    ·refine ah<|bd 6 (fun gs D=>∃gb26,gs=[(2,pt b1 0),(4,pt b2 0),(7,st s10),(8,st s11),(17,u0),(18,.int .i64 (a0.length:Int)),(19,.int .i64 gx4),(38,.bool gb26)]∧D=tai w b2 gx5 gb6 gl7 b1∧wJ s11 gl7 gx5 gb6 gx4 go1 s10 gb26=some r) ?_ ?_
     ·refine L.r 1 O<|iL h (bO O O) (fun c74 h=>?_) fun c74 h=>?_
      ·refine L.r 2 O<|tkL<|eqL h (fun c75 h=>?_) fun c75 h=>?_
       ·exact L.r 1 O<|ae<|ay ⟨true,O,O,h⟩ hI
       exact L.r 1 O<|ae<|ay ⟨false,O,O,h⟩ hI
      exact L.r 4 O<|ae<|ay ⟨false,O,O,h⟩ hI
     rintro _ _ ⟨gb26,rfl,rfl,h⟩
     rw[wJ]at h
     rcases gb26 with _|_
     ·replace h:=qU h
      exact L.r 1 O<|ae<|ay ⟨false,O,O,h⟩ hI
     replace h:=qT h
     exact L.r 1 O<|ae<|ay ⟨true,O,O,h⟩ hI
    rintro _ _ ⟨jF,rfl,rfl,h⟩
    rw[qaw]at h
    rcases jF with _|_
    ·replace h:=qU h
     refine a6 O<|sr<|bd 7 (fun gs D=>∃jP,gs=[(2,pt b1 0),(4,pt b2 0),(7,st s10),(8,st s11),(17,u0),(18,.int .i64 (a0.length:Int)),(19,.int .i64 gx4),(68,.bool jP)]∧D=tai w b2 gx5 gb6 gl7 b1∧qgq s11 gx4 go1 gx5 gl7 s10 gb6 jP=some r) ?_ ?_
     ·refine L.r 1 O<|iL h (bO O O) (fun c63 h=>?_) fun c63 h=>?_
      ·refine L.r 1 O<|tkL<|yF kc O<|tkL<|ibL h (al (q:=0) (si:=1) (ps:=1) (j:=0) (X:=[.bool gb6]) ag4 O O O O O O) (fun c64 h=>?_) fun c64 h=>?_
       ·exact tkL<|yL (bf O)<|L.r 1 O<|ae<|ay ⟨false,O,O,h⟩ hI
       exact tkL<|yL (bf O)<|L.r 1 O<|ae<|ay ⟨true,O,O,h⟩ hI
      exact L.r 5 O<|ae<|ay ⟨false,O,O,h⟩ hI
     rintro _ _ ⟨jP,rfl,rfl,h⟩
     rw[qgq]at h
     rcases jP with _|_
     ·replace h:=qU h
      refine L.r 5 O<|cjn<|bd 7 (fun gs D=>∃yD,gs=[(2,pt b1 0),(4,pt b2 0),(7,st s10),(8,st s11),(17,u0),(18,.int .i64 (a0.length:Int)),(19,.int .i64 gx4),(81,.bool yD)]∧D=tai w b2 gx5 gb6 gl7 b1∧qgp gx5 gb6 gx4 go1 s11 gl7 s10 yD=some r) ?_ ?_
      ·refine L.r 1 O<|iL h (bO O O) (fun c35 h=>?_) fun c35 h=>?_
       ·refine L.r 1 O<|tkL<|yF kc O<|tkL<|ibL h (al (q:=0) (si:=1) (ps:=1) (j:=0) (X:=[.bool gb6]) ag4 O O O O O O) (fun c36 h=>?_) fun c36 h=>?_
        ·exact tkL<|yL (bf O)<|L.r 1 O<|ae<|ay ⟨false,O,O,h⟩ hI
        exact tkL<|yL (bf O)<|L.r 1 O<|ae<|ay ⟨true,O,O,h⟩ hI
       exact L.r 5 O<|ae<|ay ⟨false,O,O,h⟩ hI
      rintro _ _ ⟨yD,rfl,rfl,h⟩
      rw[qgp]at h
      rcases yD with _|_
      ·replace h:=qU h
       refine bd 7 (fun gs D=>∃yG,gs=[(2,pt b1 0),(4,pt b2 0),(8,st s11),(17,u0),(18,.int .i64 (a0.length:Int)),(19,.int .i64 gx4),(82,.bool false),(88,.bool yG)]∧D=tai w b2 gx5 gb6 gl7 b1∧qgo gx5 gb6 gx4 go1 s11 gl7 yG=some r) ?_ ?_
       ·refine L.r 2 O<|tkL<|iL h (bO O O) (fun c23 h=>?_) fun c23 h=>?_
        ·refine L.r 1 O<|tkL<|yF kc O<|tkL<|ibL h (al (q:=0) (si:=1) (ps:=1) (j:=0) (X:=[.bool gb6]) ag4 O O O O O O) (fun c24 h=>?_) fun c24 h=>?_
         ·exact L.r 1 O<|ae<|ay ⟨true,O,O,h⟩ hI
         exact L.r 1 O<|ae<|ay ⟨false,O,O,h⟩ hI
        exact L.r 4 O<|ae<|ay ⟨false,O,O,h⟩ hI
       rintro _ _ ⟨yG,rfl,rfl,h⟩
       rw[qgo]at h
       rcases yG with _|_
       ·replace h:=qU h
        refine L.r 2 O<|cjn<|bi1 h fun _ en12 h=>?_
        obtain⟨_,en12⟩:=qd en12
        cases h
        exact yL (bx (q:=0) (ps:=0) [] (tr gx5 gb6 gl7) [] w8 zu O O fl0 (by simp[zl,qc,en12]))<|ba (q:=2) (ps:=0) [] te (tr gx5 gb6 gl7) [] zu O O (qA (qW O zg)<|qA (qW O zg)<|qA (qaN<|qi _) je) O fl0 (by simp[zl,qc,en3]) (by simp[zl,qc,en12])<|aj (D:=Cls w [] [.obj b2 (List.flatten [[.int .i64 gx5],[.bool gb6],(zr (fzr SR) (fun _=>[]) gl7).flatten]) 69,.ss (zs sd0 (fun _=>[]) gl7),.obj b1 (List.flatten [[.int .i64 gx5],[.bool gb6],(zr (fzr SR) (fun _=>[]) gl7).flatten]) 69,.ss (zs sd0 (fun _=>[]) gl7)]) (fun _ hw=>by simp only[qX,tG,tI,tP,tQ,tR,tS,tZ,taF,taH,taL,taM,taO,taP,taV,taX,tad,taf,tai,tas,tav,taz,tb,tbC,tbT,tbd,tbj,tbk,tbo,tbt,tbu,tbv,tbw,tby,tcB,tcJ,tca,tch,tcm,tcn,tcu,th,tv]at hw ⊢;exact hw)<|L.r 1 O<|cjc<|ak<|cjo<|bm O (aH (i:=2) (c:=tcE gx5 gb6 gl7) w8 zu O O (by simp[zl,qc,en12])) (aL O)<|d0s []
       replace h:=qT h
       refine L.r 2 O<|cjg<|W.block<|au (fun m gs D=>∃gs15 xY,gs=((2,pt b1 0)::(4,pt b2 0)::(8,st gs15)::tbl u0 a0 gx4)∧D=tai w b2 gx5 gb6 xY b1∧jf gx5 gb6 gx4 go1 m gs15 xY=some r) ⟨s11,gl7,O,O,h⟩ ⟨O,O,O,O,O,O,trivial⟩ hI ?_
       rintro m _ _ ⟨gs15,xY,rfl,rfl,h⟩
       rcases m with _|m
       ·rw[jf]at h;cases h
       rw[jf]at h
       generalize hg2:jf gx5 gb6 gx4 go1 m=go2 at h
       rw[qh9]at h
       refine aE<|sr<|L.r 1 O<|iL h (bN O O) (fun c13 h=>?_) fun c13 h=>?_
       ·refine cjg<|aN<|ab<|W.block<|sr<|L.r 1 O<|bi4 h fun x14 s15 s16 b17 e18 h=>yL (yf qeG O fun w' hw=>W48 e18)<|L.r 4 O<|ibL h (Y.extract O O) (fun c19 h=>?_) fun c19 h=>?_
        ·exact L.r 4 O<|cjf<|L.r 1 O<|yL (bf O)<|cja<|ab<|ah<|L.r 3 O<|yF qaH O<|mL (fun _=>pt b2 (2+x14.toNat*1)) h (aR (l:=xY) Tryz.underlying46 sz9 O O) fun x20 ex20 h=>(bG (si:=2) (ps:=2) (row:=(fzr SR)) (sds:=sd0) (vs:=(fun _=>[])) (q:=0) (s:=1) (c:=0) (u1:=s15) (vals:=[st s15]) (j:=0) h sz9 O O O O O (qW O zg) O O O O (fun _ _=>O) (qm ex20) O O (fun _ _=>O) O fun l21 el21 h=>L.r 1 O<|ae<|aq<|bi ⟨s16,l21,O,O,by rw[hg2];exact h⟩ hI)
        refine L.r 4 O<|cjf<|L.r 1 O<|yL (bf O)<|cjb<|bi1 h fun _ en22 h=>?_
        obtain⟨_,en22⟩:=qd en22
        cases h
        exact yL (bx (q:=0) (ps:=0) [] (tr gx5 gb6 xY) [] w8 zu O O fl0 (by simp[zl,qc,en22]))<|ba (q:=2) (ps:=0) [] te (tr gx5 gb6 xY) [] zu O O (qA (qW O zg)<|qA (qW O zg)<|qA (qaN<|qi _) je) O fl0 (by simp[zl,qc,en3]) (by simp[zl,qc,en22])<|aj (D:=Cls w [] [.obj b2 (List.flatten [[.int .i64 gx5],[.bool gb6],(zr (fzr SR) (fun _=>[]) xY).flatten]) 69,.ss (zs sd0 (fun _=>[]) xY),.obj b1 (List.flatten [[.int .i64 gx5],[.bool gb6],(zr (fzr SR) (fun _=>[]) xY).flatten]) 69,.ss (zs sd0 (fun _=>[]) xY)]) (fun _ hw=>by simp only[qX,tG,tI,tP,tQ,tR,tS,tZ,taF,taH,taL,taM,taO,taP,taV,taX,tad,taf,tai,tas,tav,taz,tb,tbC,tbT,tbd,tbj,tbk,tbo,tbt,tbu,tbv,tbw,tby,tcB,tcJ,tca,tch,tcm,tcn,tcu,th,tv]at hw ⊢;exact hw)<|L.r 1 O<|cjh<|ak<|cH<|ak<|ak<|cjo<|bm O (aH (i:=2) (c:=tcE gx5 gb6 xY) w8 zu O O (by simp[zl,qc,en22])) (aL O)<|d0s []
       exact ln<|cjd<|aq<|aq<|ay ⟨gx5,gb6,xY,O,O,h⟩ hI
      replace h:=qT h
      refine L.r 9 O<|cjg<|W.block<|au (fun m gs D=>∃zQ zC,gs=((2,pt b1 0)::(4,pt b2 0)::(8,st zQ)::tbl u0 a0 gx4)∧D=tai w b2 gx5 gb6 zC b1∧qbW gx5 gb6 gx4 go1 m zQ zC=some r) ⟨s11,gl7,O,O,h⟩ ⟨O,O,O,O,O,O,trivial⟩ hI ?_
      rintro m _ _ ⟨zQ,zC,rfl,rfl,h⟩
      rcases m with _|m
      ·rw[qbW]at h;cases h
      rw[qbW]at h
      generalize hg3:qbW gx5 gb6 gx4 go1 m=go3 at h
      rw[qkf]at h
      refine aE<|sr<|L.r 1 O<|iL h (bN O O) (fun c25 h=>?_) fun c25 h=>?_
      ·refine cjg<|aN<|ab<|W.block<|sr<|L.r 1 O<|bi4 h fun x26 s27 s28 b29 e30 h=>yL (yf qeG O fun w' hw=>W48 e30)<|L.r 4 O<|ibL h (Y.extract O O) (fun c31 h=>?_) fun c31 h=>?_
       ·exact L.r 4 O<|cjf<|L.r 1 O<|yL (bf O)<|cja<|ab<|ah<|L.r 3 O<|yF qaH O<|mL (fun _=>pt b2 (2+x26.toNat*1)) h (aR (l:=zC) Tryz.underlying46 sz9 O O) fun x32 ex32 h=>(bG (si:=2) (ps:=2) (row:=(fzr SR)) (sds:=sd0) (vs:=(fun _=>[])) (q:=0) (s:=1) (c:=0) (u1:=s27) (vals:=[st s27]) (j:=0) h sz9 O O O O O (qW O zg) O O O O (fun _ _=>O) (qm ex32) O O (fun _ _=>O) O fun l33 el33 h=>L.r 1 O<|ae<|aq<|bi ⟨s28,l33,O,O,by rw[hg3];exact h⟩ hI)
       refine L.r 4 O<|cjf<|L.r 1 O<|yL (bf O)<|cjb<|bi1 h fun _ en34 h=>?_
       obtain⟨_,en34⟩:=qd en34
       cases h
       exact yL (bx (q:=0) (ps:=0) [] (tr gx5 gb6 zC) [] w8 zu O O fl0 (by simp[zl,qc,en34]))<|ba (q:=2) (ps:=0) [] te (tr gx5 gb6 zC) [] zu O O (qA (qW O zg)<|qA (qW O zg)<|qA (qaN<|qi _) je) O fl0 (by simp[zl,qc,en3]) (by simp[zl,qc,en34])<|aj (D:=Cls w [] [.obj b2 (List.flatten [[.int .i64 gx5],[.bool gb6],(zr (fzr SR) (fun _=>[]) zC).flatten]) 69,.ss (zs sd0 (fun _=>[]) zC),.obj b1 (List.flatten [[.int .i64 gx5],[.bool gb6],(zr (fzr SR) (fun _=>[]) zC).flatten]) 69,.ss (zs sd0 (fun _=>[]) zC)]) (fun _ hw=>by simp only[qX,tG,tI,tP,tQ,tR,tS,tZ,taF,taH,taL,taM,taO,taP,taV,taX,tad,taf,tai,tas,tav,taz,tb,tbC,tbT,tbd,tbj,tbk,tbo,tbt,tbu,tbv,tbw,tby,tcB,tcJ,tca,tch,tcm,tcn,tcu,th,tv]at hw ⊢;exact hw)<|L.r 1 O<|cjh<|ak<|cH<|ak<|ak<|cjo<|bm O (aH (i:=2) (c:=tcE gx5 gb6 zC) w8 zu O O (by simp[zl,qc,en34])) (aL O)<|d0s []
      exact ln<|cjd<|aq<|aq<|ay ⟨gx5,gb6,zC,O,O,h⟩ hI
     replace h:=qT h
     refine L.r 2 O<|tkL<|iL h (bO O O) (fun c37 h=>?_) fun c37 h=>?_
     ·exact L.r 2 O<|cjg<|ah<|yF kc O<|aW (q:=0) (si:=1) (ps:=1) (j:=0) (X:=[.bool gb6]) (vals:=[.bool true]) sz4 O O O O O (by simp[Value.oneCell',Value.cells,st,pt,el]) O O O O<|ae<|aq<|aq<|ay ⟨gx5,true,gl7,O,O,h⟩ hI
     refine L.r 2 O<|cjn<|bd 7 (fun gs D=>∃xX,gs=[(2,pt b1 0),(4,pt b2 0),(7,st s10),(8,st s11),(17,u0),(18,.int .i64 (a0.length:Int)),(19,.int .i64 gx4),(81,.bool xX)]∧D=tai w b2 gx5 gb6 gl7 b1∧qgn gx5 gb6 gx4 go1 s11 gl7 s10 xX=some r) ?_ ?_
     ·refine L.r 1 O<|iL h (bO O O) (fun c61 h=>?_) fun c61 h=>?_
      ·refine L.r 1 O<|tkL<|yF kc O<|tkL<|ibL h (al (q:=0) (si:=1) (ps:=1) (j:=0) (X:=[.bool gb6]) ag4 O O O O O O) (fun c62 h=>?_) fun c62 h=>?_
       ·exact tkL<|yL (bf O)<|L.r 1 O<|ae<|ay ⟨false,O,O,h⟩ hI
       exact tkL<|yL (bf O)<|L.r 1 O<|ae<|ay ⟨true,O,O,h⟩ hI
      exact L.r 5 O<|ae<|ay ⟨false,O,O,h⟩ hI
     rintro _ _ ⟨xX,rfl,rfl,h⟩
     rw[qgn]at h
     rcases xX with _|_
     ·replace h:=qU h
      refine bd 7 (fun gs D=>∃xZ,gs=[(2,pt b1 0),(4,pt b2 0),(8,st s11),(17,u0),(18,.int .i64 (a0.length:Int)),(19,.int .i64 gx4),(82,.bool false),(88,.bool xZ)]∧D=tai w b2 gx5 gb6 gl7 b1∧qgm gx5 gb6 gx4 go1 s11 gl7 xZ=some r) ?_ ?_
      ·refine L.r 2 O<|tkL<|iL h (bO O O) (fun c49 h=>?_) fun c49 h=>?_
       ·refine L.r 1 O<|tkL<|yF kc O<|tkL<|ibL h (al (q:=0) (si:=1) (ps:=1) (j:=0) (X:=[.bool gb6]) ag4 O O O O O O) (fun c50 h=>?_) fun c50 h=>?_
        ·exact L.r 1 O<|ae<|ay ⟨true,O,O,h⟩ hI
        exact L.r 1 O<|ae<|ay ⟨false,O,O,h⟩ hI
       exact L.r 4 O<|ae<|ay ⟨false,O,O,h⟩ hI
      rintro _ _ ⟨xZ,rfl,rfl,h⟩
      rw[qgm]at h
      rcases xZ with _|_
      ·replace h:=qU h
       refine L.r 2 O<|cjn<|bi1 h fun _ en38 h=>?_
       obtain⟨_,en38⟩:=qd en38
       cases h
       exact yL (bx (q:=0) (ps:=0) [] (tr gx5 gb6 gl7) [] w8 zu O O fl0 (by simp[zl,qc,en38]))<|ba (q:=2) (ps:=0) [] te (tr gx5 gb6 gl7) [] zu O O (qA (qW O zg)<|qA (qW O zg)<|qA (qaN<|qi _) je) O fl0 (by simp[zl,qc,en3]) (by simp[zl,qc,en38])<|aj (D:=Cls w [] [.obj b2 (List.flatten [[.int .i64 gx5],[.bool gb6],(zr (fzr SR) (fun _=>[]) gl7).flatten]) 69,.ss (zs sd0 (fun _=>[]) gl7),.obj b1 (List.flatten [[.int .i64 gx5],[.bool gb6],(zr (fzr SR) (fun _=>[]) gl7).flatten]) 69,.ss (zs sd0 (fun _=>[]) gl7)]) (fun _ hw=>by simp only[qX,tG,tI,tP,tQ,tR,tS,tZ,taF,taH,taL,taM,taO,taP,taV,taX,tad,taf,tai,tas,tav,taz,tb,tbC,tbT,tbd,tbj,tbk,tbo,tbt,tbu,tbv,tbw,tby,tcB,tcJ,tca,tch,tcm,tcn,tcu,th,tv]at hw ⊢;exact hw)<|L.r 1 O<|cjc<|ak<|cjo<|bm O (aH (i:=2) (c:=tcE gx5 gb6 gl7) w8 zu O O (by simp[zl,qc,en38])) (aL O)<|d0s []
      replace h:=qT h
      refine L.r 2 O<|cjg<|W.block<|au (fun m gs D=>∃gs21 zR,gs=((2,pt b1 0)::(4,pt b2 0)::(8,st gs21)::tbl u0 a0 gx4)∧D=tai w b2 gx5 gb6 zR b1∧qbV gx5 gb6 gx4 go1 m gs21 zR=some r) ⟨s11,gl7,O,O,h⟩ ⟨O,O,O,O,O,O,trivial⟩ hI ?_
      rintro m _ _ ⟨gs21,zR,rfl,rfl,h⟩
      rcases m with _|m
      ·rw[qbV]at h;cases h
      rw[qbV]at h
      generalize hg4:qbV gx5 gb6 gx4 go1 m=go4 at h
      rw[qke]at h
      refine aE<|sr<|L.r 1 O<|iL h (bN O O) (fun c39 h=>?_) fun c39 h=>?_
      ·refine cjg<|aN<|ab<|W.block<|sr<|L.r 1 O<|bi4 h fun x40 s41 s42 b43 e44 h=>yL (yf qeG O fun w' hw=>W48 e44)<|L.r 4 O<|ibL h (Y.extract O O) (fun c45 h=>?_) fun c45 h=>?_
       ·exact L.r 4 O<|cjf<|L.r 1 O<|yL (bf O)<|cja<|ab<|ah<|L.r 3 O<|yF qaH O<|mL (fun _=>pt b2 (2+x40.toNat*1)) h (aR (l:=zR) Tryz.underlying46 sz9 O O) fun x46 ex46 h=>(bG (si:=2) (ps:=2) (row:=(fzr SR)) (sds:=sd0) (vs:=(fun _=>[])) (q:=0) (s:=1) (c:=0) (u1:=s41) (vals:=[st s41]) (j:=0) h sz9 O O O O O (qW O zg) O O O O (fun _ _=>O) (qm ex46) O O (fun _ _=>O) O fun l47 el47 h=>L.r 1 O<|ae<|aq<|bi ⟨s42,l47,O,O,by rw[hg4];exact h⟩ hI)
       refine L.r 4 O<|cjf<|L.r 1 O<|yL (bf O)<|cjb<|bi1 h fun _ qeG h=>?_
       obtain⟨_,qeG⟩:=qd qeG
       cases h
       exact yL (bx (q:=0) (ps:=0) [] (tr gx5 gb6 zR) [] w8 zu O O fl0 (by simp[zl,qc,qeG]))<|ba (q:=2) (ps:=0) [] te (tr gx5 gb6 zR) [] zu O O (qA (qW O zg)<|qA (qW O zg)<|qA (qaN<|qi _) je) O fl0 (by simp[zl,qc,en3]) (by simp[zl,qc,qeG])<|aj (D:=Cls w [] [.obj b2 (List.flatten [[.int .i64 gx5],[.bool gb6],(zr (fzr SR) (fun _=>[]) zR).flatten]) 69,.ss (zs sd0 (fun _=>[]) zR),.obj b1 (List.flatten [[.int .i64 gx5],[.bool gb6],(zr (fzr SR) (fun _=>[]) zR).flatten]) 69,.ss (zs sd0 (fun _=>[]) zR)]) (fun _ hw=>by simp only[qX,tG,tI,tP,tQ,tR,tS,tZ,taF,taH,taL,taM,taO,taP,taV,taX,tad,taf,tai,tas,tav,taz,tb,tbC,tbT,tbd,tbj,tbk,tbo,tbt,tbu,tbv,tbw,tby,tcB,tcJ,tca,tch,tcm,tcn,tcu,th,tv]at hw ⊢;exact hw)<|L.r 1 O<|cjh<|ak<|cH<|ak<|ak<|cjo<|bm O (aH (i:=2) (c:=tcE gx5 gb6 zR) w8 zu O O (by simp[zl,qc,qeG])) (aL O)<|d0s []
      exact ln<|cjd<|aq<|aq<|ay ⟨gx5,gb6,zR,O,O,h⟩ hI
     replace h:=qT h
     refine L.r 9 O<|cjg<|W.block<|au (fun m gs D=>∃gs23 yT,gs=((2,pt b1 0)::(4,pt b2 0)::(8,st gs23)::tbl u0 a0 gx4)∧D=tai w b2 gx5 gb6 yT b1∧qbU gx5 gb6 gx4 go1 m gs23 yT=some r) ⟨s11,gl7,O,O,h⟩ ⟨O,O,O,O,O,O,trivial⟩ hI ?_
     rintro m _ _ ⟨gs23,yT,rfl,rfl,h⟩
     rcases m with _|m
     ·rw[qbU]at h;cases h
     rw[qbU]at h
     generalize hg5:qbU gx5 gb6 gx4 go1 m=go5 at h
     rw[qkd]at h
     refine aE<|sr<|L.r 1 O<|iL h (bN O O) (fun c51 h=>?_) fun c51 h=>?_
     ·refine cjg<|aN<|ab<|W.block<|sr<|L.r 1 O<|bi4 h fun x52 s53 s54 b55 e56 h=>yL (yf qeG O fun w' hw=>W48 e56)<|L.r 4 O<|ibL h (Y.extract O O) (fun c57 h=>?_) fun c57 h=>?_
      ·exact L.r 4 O<|cjf<|L.r 1 O<|yL (bf O)<|cja<|ab<|ah<|L.r 3 O<|yF qaH O<|mL (fun _=>pt b2 (2+x52.toNat*1)) h (aR (l:=yT) Tryz.underlying46 sz9 O O) fun x58 ex58 h=>(bG (si:=2) (ps:=2) (row:=(fzr SR)) (sds:=sd0) (vs:=(fun _=>[])) (q:=0) (s:=1) (c:=0) (u1:=s53) (vals:=[st s53]) (j:=0) h sz9 O O O O O (qW O zg) O O O O (fun _ _=>O) (qm ex58) O O (fun _ _=>O) O fun l59 el59 h=>L.r 1 O<|ae<|aq<|bi ⟨s54,l59,O,O,by rw[hg5];exact h⟩ hI)
      refine L.r 4 O<|cjf<|L.r 1 O<|yL (bf O)<|cjb<|bi1 h fun _ en60 h=>?_
      obtain⟨_,en60⟩:=qd en60
      cases h
      exact yL (bx (q:=0) (ps:=0) [] (tr gx5 gb6 yT) [] w8 zu O O fl0 (by simp[zl,qc,en60]))<|ba (q:=2) (ps:=0) [] te (tr gx5 gb6 yT) [] zu O O (qA (qW O zg)<|qA (qW O zg)<|qA (qaN<|qi _) je) O fl0 (by simp[zl,qc,en3]) (by simp[zl,qc,en60])<|aj (D:=Cls w [] [.obj b2 (List.flatten [[.int .i64 gx5],[.bool gb6],(zr (fzr SR) (fun _=>[]) yT).flatten]) 69,.ss (zs sd0 (fun _=>[]) yT),.obj b1 (List.flatten [[.int .i64 gx5],[.bool gb6],(zr (fzr SR) (fun _=>[]) yT).flatten]) 69,.ss (zs sd0 (fun _=>[]) yT)]) (fun _ hw=>by simp only[qX,tG,tI,tP,tQ,tR,tS,tZ,taF,taH,taL,taM,taO,taP,taV,taX,tad,taf,tai,tas,tav,taz,tb,tbC,tbT,tbd,tbj,tbk,tbo,tbt,tbu,tbv,tbw,tby,tcB,tcJ,tca,tch,tcm,tcn,tcu,th,tv]at hw ⊢;exact hw)<|L.r 1 O<|cjh<|ak<|cH<|ak<|ak<|cjo<|bm O (aH (i:=2) (c:=tcE gx5 gb6 yT) w8 zu O O (by simp[zl,qc,en60])) (aL O)<|d0s []
     exact ln<|cjd<|aq<|aq<|ay ⟨gx5,gb6,yT,O,O,h⟩ hI
    replace h:=qT h
    refine aX O<|sr<|L.r 1 O<|bi3 h fun x65 x66 x67 e68 h=>yL (yf qmk O fun w' hw=>W47 e68)<|L.r 7 O<|cjf<|bd 6 (fun gs D=>∃gb25,gs=[(2,pt b1 0),(4,pt b2 0),(8,st s11),(9,.int .i64 x65),(10,.int .i64 x66),(17,u0),(18,.int .i64 (a0.length:Int)),(19,.int .i64 gx4),(50,.bool gb25)]∧D=tai w b2 gx5 gb6 gl7 b1∧qbX gl7 gx5 gb6 x66 s11 gx4 go1 x65 gb25=some r) ?_ ?_
    ·refine L.r 1 O<|neL h (fun c72 h=>?_) fun c72 h=>?_
     ·exact L.r 4 O<|ae<|ay ⟨true,O,O,h⟩ hI
     refine L.r 2 O<|tkL<|ltL h (fun c73 h=>?_) fun c73 h=>?_
     ·exact L.r 1 O<|ae<|ay ⟨true,O,O,h⟩ hI
     exact L.r 1 O<|ae<|ay ⟨false,O,O,h⟩ hI
    rintro _ _ ⟨gb25,rfl,rfl,h⟩
    rw[qbX]at h
    rcases gb25 with _|_
    ·replace h:=qU h
     refine L.r 3 O<|tkL<|yL (aK Tryz.underlying9 O)<|tkL<|neL h (fun c69 h=>?_) fun c69 h=>?_
     ·refine L.r 1 O<|cjb<|bi1 h fun _ en70 h=>?_
      obtain⟨_,en70⟩:=qd en70
      cases h
      exact yL (bx (q:=0) (ps:=0) [] (tr gx5 gb6 gl7) [] w8 zu O O fl0 (by simp[zl,qc,en70]))<|ba (q:=2) (ps:=0) [] te (tr gx5 gb6 gl7) [] zu O O (qA (qW O zg)<|qA (qW O zg)<|qA (qaN<|qi _) je) O fl0 (by simp[zl,qc,en3]) (by simp[zl,qc,en70])<|aj (D:=Cls w [] [.obj b2 (List.flatten [[.int .i64 gx5],[.bool gb6],(zr (fzr SR) (fun _=>[]) gl7).flatten]) 69,.ss (zs sd0 (fun _=>[]) gl7),.obj b1 (List.flatten [[.int .i64 gx5],[.bool gb6],(zr (fzr SR) (fun _=>[]) gl7).flatten]) 69,.ss (zs sd0 (fun _=>[]) gl7)]) (fun _ hw=>by simp only[qX,tG,tI,tP,tQ,tR,tS,tZ,taF,taH,taL,taM,taO,taP,taV,taX,tad,taf,tai,tas,tav,taz,tb,tbC,tbT,tbd,tbj,tbk,tbo,tbt,tbu,tbv,tbw,tby,tcB,tcJ,tca,tch,tcm,tcn,tcu,th,tv]at hw ⊢;exact hw)<|L.r 1 O<|cjh<|ak<|cjo<|bm O (aH (i:=2) (c:=tcE gx5 gb6 gl7) w8 zu O O (by simp[zl,qc,en70])) (aL O)<|d0s []
     exact L.r 1 O<|cja<|ab<|ah<|L.r 1 O<|yF qcL O<|aW (q:=0) (si:=0) (ps:=0) (j:=0) (X:=(tH gx5)) (vals:=(tH x65)) sz3 O O O O O (by simp[Value.oneCell',Value.cells,st,pt,el]) O O sl0 O<|yF kc O<|aW (q:=0) (si:=1) (ps:=1) (j:=0) (X:=[.bool gb6]) (vals:=[.bool false]) sz4 O O O O O (by simp[Value.oneCell',Value.cells,st,pt,el]) O O O O<|ae<|aq<|aq<|ay ⟨x65,false,gl7,O,O,h⟩ hI
    replace h:=qT h
    refine L.r 6 O<|cjb<|bi1 h fun _ en71 h=>?_
    obtain⟨_,en71⟩:=qd en71
    cases h
    exact yL (bx (q:=0) (ps:=0) [] (tr gx5 gb6 gl7) [] w8 zu O O fl0 (by simp[zl,qc,en71]))<|ba (q:=2) (ps:=0) [] te (tr gx5 gb6 gl7) [] zu O O (qA (qW O zg)<|qA (qW O zg)<|qA (qaN<|qi _) je) O fl0 (by simp[zl,qc,en3]) (by simp[zl,qc,en71])<|aj (D:=Cls w [] [.obj b2 (List.flatten [[.int .i64 gx5],[.bool gb6],(zr (fzr SR) (fun _=>[]) gl7).flatten]) 69,.ss (zs sd0 (fun _=>[]) gl7),.obj b1 (List.flatten [[.int .i64 gx5],[.bool gb6],(zr (fzr SR) (fun _=>[]) gl7).flatten]) 69,.ss (zs sd0 (fun _=>[]) gl7)]) (fun _ hw=>by simp only[qX,tG,tI,tP,tQ,tR,tS,tZ,taF,taH,taL,taM,taO,taP,taV,taX,tad,taf,tai,tas,tav,taz,tb,tbC,tbT,tbd,tbj,tbk,tbo,tbt,tbu,tbv,tbw,tby,tcB,tcJ,tca,tch,tcm,tcn,tcu,th,tv]at hw ⊢;exact hw)<|L.r 1 O<|cjh<|ak<|cjo<|bm O (aH (i:=2) (c:=tcE gx5 gb6 gl7) w8 zu O O (by simp[zl,qc,en71])) (aL O)<|d0s []
   rintro _ _ ⟨gx8,gb9,kO,rfl,rfl,h⟩
   rw[qah]at h
   exact ah<|mA h fun x6 ex6 h=>(L.r 1 O<|ae<|bi ⟨x6,gx8,gb9,kO,O,O,by rw[hg1];exact h⟩ hI)
  exact cjm<|cjd<|ay ⟨gx5,gb6,gl7,O,O,h⟩ hI
 rintro _ _ ⟨gx1,gb2,gl3,rfl,rfl,h⟩
 rw[qjB]at h
 refine sr<|bi1 h fun _ en4 h=>?_
 obtain⟨_,en4⟩:=qd en4
 cases h
 exact yL (bx (q:=0) (ps:=0) [] (tr gx1 gb2 gl3) [] w8 zu O O fl0 (by simp[zl,qc,en4]))<|ba (q:=2) (ps:=0) [] te (tr gx1 gb2 gl3) [] zu O O (qA (qW O zg)<|qA (qW O zg)<|qA (qaN<|qi _) je) O fl0 (by simp[zl,qc,en3]) (by simp[zl,qc,en4])<|aj (D:=Cls w [] [.obj b2 (List.flatten [[.int .i64 gx1],[.bool gb2],(zr (fzr SR) (fun _=>[]) gl3).flatten]) 69,.ss (zs sd0 (fun _=>[]) gl3),.obj b1 (List.flatten [[.int .i64 gx1],[.bool gb2],(zr (fzr SR) (fun _=>[]) gl3).flatten]) 69,.ss (zs sd0 (fun _=>[]) gl3)]) (fun _ hw=>by simp only[qX,tG,tI,tP,tQ,tR,tS,tZ,taF,taH,taL,taM,taO,taP,taV,taX,tad,taf,tai,tas,tav,taz,tb,tbC,tbT,tbd,tbj,tbk,tbo,tbt,tbu,tbv,tbw,tby,tcB,tcJ,tca,tch,tcm,tcn,tcu,th,tv]at hw ⊢;exact hw)<|L.r 1 O<|cjc<|bm O (aH (i:=2) (c:=tcE gx1 gb2 gl3) w8 zu O O (by simp[zl,qc,en4])) (aL O)<|d0s []
theorem W6{a0 A57 A67 kQ kD kG kB kA kS kH kU w r F}(h:M6 a0 A57 A67 kQ=some r)(hc0:Cls w F [tx kD kS A57,tar kG kB kA kH A67,ty kD kB kU kQ] w):qz Tryz.prog 6 [VP kD a0] F w fun u m=>∃G67 G108 Q57 Q67 Q108,Gr kG A67.length G67 r.2.1.length∧Gr kB kQ.length G108 r.2.2.1.length∧u=.tuple #[VP G67 r.2.2.2.1,.int .i64 r.2.2.2.2]∧m=[jX kD Q57 r.1 [],kZ G67 G108 kA Q67 r.2.1 [],jV kD G108 Q108 r.2.2.1 []]:=by
 rw[M6]at h
 obtain⟨g67,hg67⟩:∃g,g=kG:=⟨_,rfl⟩
 have zY:Gr g67 A67.length kG A67.length:=hg67▸Gr.refl _ _
 obtain⟨g108,hg108⟩:∃g,g=kB:=⟨_,rfl⟩
 have yY:Gr g108 kQ.length kB kQ.length:=hg108▸Gr.refl _ _
 refine body (n:=105) Tryz.func6 O O O hc0<|sr<|L.r 2 O<|nsr<|L.r 1 O<|bi1 h fun x1 e2 h=>dP [tx kD kS A57] [tar kG kB kA kH A67,ty kD kB kU kQ] O (fun w' hw=>W19 e2 hw.lend) ?_
 rintro _ _ ⟨rfl,rfl⟩
 refine aj (D:=Cls w F [tx kD kS A57,tar kG kB kA kH A67,ty kD kB kU kQ]) hI<|mI h (cu O O) fun x3 ex3 h=>(L.r 1 O<|nsr<|yL (bl (cells:=#[.pointer none,.pointer none,.int .i64 0,.int .i64 0,.bool false,.int .i64 0,tO,tO,tO,tO,tO,tO,tO,tO,tO,tO,tO,tO,tO,tO,tO,tO,tO,tO,tO,tO,tO,tO]) O (by kernel_rfl))<|bV O O fun b4=>bM (S:=((zr (tcg kB) (fun _=>[]) tbS).flatten::tJ)) O<|bD (sds:=sd0) (vs:=(fun _=>[])) (xs:=tbS) (qV vj _)<|bD (sds:=ti) (vs:=(fun _=>[vz])) (xs:=tM) (qV (qnt O O vj) _)<|L.r 1 O<|nsr<|L.alloc O qob fun b5=>bM (S:=tbN) O<|bD (sds:=sd0) (vs:=(fun _=>[])) (xs:=tap) (qV vj _)<|bD (sds:=sd0) (vs:=(fun _=>[])) (xs:=tap) (qV vj _)<|cjf<|L.r 1 O<|cjp<|ec 2<|aE<|ah<|yL (dE O O)<|cje<|L.r 2 O<|ae<|ab<|sr<|L.r 3 O<|mI h (df O O) fun x6 ex6 h=>(L.r 1 O<|bi1 h fun _ ck7 h=>have ck7:=qw ck7;?_))
 obtain⟨ck7_0,ck7_1⟩:=ck7
 refine aj (D:=Cls w F (tx kD kS A57::ty kD kB kU kQ::taX b5 b4 kB kG kA kH A67)) (sI [6,8,0,1,2,3,4,5,7])<|bi5 h fun l8 l9 x10 l11 x13 e14 h=>dP [jX kD kS A57 [],jV kD kB kU kQ []] [.ss (zs sd0 (fun _=>[]) (List.replicate 20 ([]:(List UInt8)))),.ss (zs sd0 (fun _=>[]) (List.replicate 20 ([]:(List UInt8)))),.obj b5 (List.flatten [[.int .i64 0],[.bool false],(zr (fzr SR) (fun _=>[]) (List.replicate 20 ([]:(List UInt8)))).flatten,[.int .i64 0],[.bool false],(zr (fzr SR) (fun _=>[]) (List.replicate 20 ([]:(List UInt8)))).flatten]) 70,.ss (zs (zv 76 2 TVersion.row) (fun _=>[vz]) (List.replicate 20 ([]:(List TVersion)))),.ss (zs sd0 (fun _=>[]) (List.replicate 2 ((-1):Int))),.obj b4 (List.flatten [(zr (fzr (PR kB)) (fun _=>[]) (List.replicate 2 ((-1):Int))).flatten,[.int .i64 0],[.int .i64 0],[.bool false],[.int .i64 0],(zr qn (fun _=>[vz]) (List.replicate 20 ([]:(List TVersion)))).flatten,[.slice none 0 0],[.slice none 0 0]]) 67,kZ kG kB kA kH A67 []] O (fun w' hw=>W20 e14 hw.lend) ?_
 rintro _ _ ⟨kB,q15,q16,v12,hg17,rfl,rfl⟩
 replace yY:=yY.trans hg17
 rw[qaM hg17 ck7_0]
 rw[qcg hg17 _ _ (qaO ck7_1)]
 refine aj (D:=Cls w F (tx kD q15 l8::ty kD kB q16 l9::tl v12 l11::taX b5 b4 kB kG kA kH A67)) hI<|L.r 7 O<|cjf<|L.r 1 O<|neL h (fun c18 h=>?_) fun c18 h=>?_
 ·cases h
  exact cjb<|L.r 3 O<|cjh<|ak<|aM<|aM<|ak<|aM<|rT2 fun w1 hw=>⟨_,_,O,⟨_,_,_,_,_,(hg67▸zY),(hg108▸yY),O,O⟩,hw.s [0,9,1]⟩
 refine cji<|L.r 1 O<|bi2 h fun x19 b20 e21 h=>yL (ye O fun w' hw=>W21 e21 (As.at_ (hw.get (i:=2) O)))<|L.r 2 O<|ibL h (Y.extract O O) (fun c22 h=>?_) fun c22 h=>?_
 ·refine L.alloc O qjG fun b23=>bM (S:=te) O<|bD (sds:=sd0) (vs:=(fun _=>[])) (xs:=tap) (qV vj _)<|bi1 h fun _ en24 h=>?_
  obtain⟨_,en24⟩:=qd en24
  obtain⟨_,en25,h⟩:=qq h
  obtain⟨_,en25⟩:=qd en25
  refine ba (q:=1) (ps:=0) [] te (tm x19) [] zu O O (qA (qW O zg)<|qA (qW O zg)<|qA (qaN<|qi _) je) O fl0 (by simp[zl,qc,en24]) (by simp[zl,qc,en25])<|aj (D:=Cls w F [.ss (zs sd0 (fun _=>[]) x19.values_),.obj b23 (List.flatten [[.int .i64 x19.gen_],[.bool x19.whole_],(zr (fzr SR) (fun _=>[]) x19.values_).flatten]) 69,jX kD q15 l8 [],jV kD kB q16 l9 [],.sl v12 9 1 (l11.map SR),.ss (zs sd0 (fun _=>[]) (List.replicate 20 ([]:(List UInt8)))),.ss (zs sd0 (fun _=>[]) (List.replicate 20 ([]:(List UInt8)))),.obj b5 (List.flatten [[.int .i64 0],[.bool false],(zr (fzr SR) (fun _=>[]) (List.replicate 20 ([]:(List UInt8)))).flatten,[.int .i64 0],[.bool false],(zr (fzr SR) (fun _=>[]) (List.replicate 20 ([]:(List UInt8)))).flatten]) 70,.ss (zs (zv 76 2 TVersion.row) (fun _=>[vz]) (List.replicate 20 ([]:(List TVersion)))),.ss (zs sd0 (fun _=>[]) (List.replicate 2 ((-1):Int))),.obj b4 (List.flatten [(zr (fzr (PR kB)) (fun _=>[]) (List.replicate 2 ((-1):Int))).flatten,[.int .i64 0],[.int .i64 0],[.bool false],[.int .i64 0],(zr qn (fun _=>[vz]) (List.replicate 20 ([]:(List TVersion)))).flatten,[.slice none 0 0],[.slice none 0 0]]) 67,kZ kG kB kA kH A67 []]) (fun _ hw=>by simp only[qX,tG,tI,tP,tQ,tR,tS,tZ,taF,taH,taL,taM,taO,taP,taV,taX,tad,taf,tai,tas,tav,taz,tb,tbC,tbT,tbd,tbj,tbk,tbo,tbt,tbu,tbv,tbw,tby,tcB,tcJ,tca,tch,tcm,tcn,tcu,th,tv]at hw ⊢;exact hw)<|L.r 1 O<|cjf<|L.r 1 O<|yL (bf O)<|cja<|ab<|av (k:=11) (stC [[8,10],[10]] [Cls w F (tG x19::taA b23 x19::tx kD q15 l8::ty kD kB q16 l9::tl v12 l11::taX b5 b4 kB kG kA kH A67),Cls w F [tG x19,taA b23 x19,tx kD q15 l8,ty kD kB q16 l9,tl v12 l11,tv,tv,.obj b5 (List.flatten tbN) 70,taC,tar kG kB kA kH A67]]<|Cls w F [tG x19,taA b23 x19,tx kD q15 l8,ty kD kB q16 l9,tl v12 l11,tv,taC,tar kG kB kA kH A67]) O mixed (fun _ hw=>hw.drew) sn<|aA [] (ax (ax zF<|sI [0,1,2,3,4,5,8,9])<|sI [0,1,2,3,4,5,8,11]) fun hz43=>(vR [0,1,2,3] O<|vQ 4 [] hz43 O (bx (q:=1) (ps:=0) [] (tm x19) [] w8 zu O O fl0 (by simp[zl,qc,en25]))<|vR [5] O<|vQ 6 [] hz43 O (aa qeD O)<|aA [8,10] (be hI) fun hz45=>(vM 7 [8,10] (fun _=>pt b4 (0+(0:Int).toNat*1)) hz45 O h (aR (l:=tbS) Tryz.underlying62 qlo O O) fun x46 ex46 h=>(vE 8 O<|bG (si:=0) (ps:=0) (row:=(tcg kB)) (sds:=sd0) (vs:=(fun _=>[])) (q:=10) (s:=9) (c:=0) (u1:=x10) (vals:=[VP kB x10]) (j:=0) h qlo O O O (by rw[qL]) O (qW (qcZ _ _) zg) O O sl0 O (fun _ _=>O) (qm ex46) O O (fun _ _=>O) O fun l47 el47 h=>ltV (stC [[10]] [Cls w F [tG x19,taA b23 x19,tx kD q15 l8,ty kD kB q16 l9,tl v12 l11,tv,tv,.obj b5 (List.flatten tbN) 70,taC,tar kG kB kA kH A67]]<|Cls w F [tG x19,taA b23 x19,tx kD q15 l8,ty kD kB q16 l9,tl v12 l11,tv,taC,tar kG kB kA kH A67]) 8 (aw O<|sT sD) (sN<|sI [0,1,2,3,4,5,6,7,8,11])<|aA [10] (be hI) fun hz49=>(vQ 9 [10] hz49 O (bI Tryz.underlying70 zu O O (by decide) (by decide))<|vE 10 O<|ba (q:=7) (ps:=0) [] te (tm x19) te zu O O (qA (qW O zg)<|qA (qW O zg)<|qA (qaN<|qi _) je) O fl0 (by simp[zl,qc,en24]) (by simp[zl,qc,en25])<|aj (D:=Cls w F [.ss (zs sd0 (fun _=>[]) x19.values_),.obj b23 (List.flatten [[.int .i64 x19.gen_],[.bool x19.whole_],(zr (fzr SR) (fun _=>[]) x19.values_).flatten]) 69,jX kD q15 l8 [],jV kD kB q16 l9 [],.sl v12 9 1 (l11.map SR),.ss (zs sd0 (fun _=>[]) (List.replicate 20 ([]:(List UInt8)))),.ss (zs sd0 (fun _=>[]) x19.values_),.obj b5 (List.flatten [[.int .i64 x19.gen_],[.bool x19.whole_],(zr (fzr SR) (fun _=>[]) x19.values_).flatten,[.int .i64 0],[.bool false],(zr (fzr SR) (fun _=>[]) (List.replicate 20 ([]:(List UInt8)))).flatten]) 70,.ss (zs (zv 76 2 TVersion.row) (fun _=>[vz]) (List.replicate 20 ([]:(List TVersion)))),.ss (zs sd0 (fun _=>[]) l47),.obj b4 (List.flatten [(zr (fzr (PR kB)) (fun _=>[]) l47).flatten,[.int .i64 0],[.int .i64 0],[.bool false],[.int .i64 0],(zr qn (fun _=>[vz]) (List.replicate 20 ([]:(List TVersion)))).flatten,[.slice none 0 0],[.slice none 0 0]]) 67,kZ kG kB kA kH A67 []]) (fun _ hw=>by simp only[qX,tG,tI,tP,tQ,tR,tS,tZ,taF,taH,taL,taM,taO,taP,taV,taX,tad,taf,tai,tas,tav,taz,tb,tbC,tbT,tbd,tbj,tbk,tbo,tbt,tbu,tbv,tbw,tby,tcB,tcJ,tca,tch,tcm,tcn,tcu,th,tv]at hw ⊢;exact hw)<|ltV (stC [] []<|Cls w F [tG x19,taA b23 x19,tx kD q15 l8,ty kD kB q16 l9,tl v12 l11,tv,taC,tar kG kB kA kH A67]) 10 (aw O sD) (aP<|sI [0,1,2,3,4,5,8,11])<|vD<|cjj<|yL (bh O O _ (by decide:i64 (0+1)=some 1))<|L.r 1 O<|ae<|dv<|sr<|yL (dE O O)<|cje<|L.r 2 O<|nsr<|L.r 3 O<|mI h (df O O) fun x50 ex50 h=>(L.r 1 O<|bi1 h fun _ ck51 h=>have ck51:=qw ck51;?_)))))
  obtain⟨ck51_0,ck51_1⟩:=ck51
  refine aj (D:=Cls w F (tx kD q15 l8::ty kD kB q16 l9::tca x19 b23 v12 l11 b5 l47 b4 kB kG kA kH A67)) (sI [2,3,0,1,4,5,6,7,8,9,10,11])<|bi5 h fun l52 l53 x54 l55 x57 e58 h=>dP [jX kD q15 l8 [],jV kD kB q16 l9 []] [.ss (zs sd0 (fun _=>[]) x19.values_),.obj b23 (List.flatten [[.int .i64 x19.gen_],[.bool x19.whole_],(zr (fzr SR) (fun _=>[]) x19.values_).flatten]) 69,.sl v12 9 1 (l11.map SR),.ss (zs sd0 (fun _=>[]) (List.replicate 20 ([]:(List UInt8)))),.ss (zs sd0 (fun _=>[]) x19.values_),.obj b5 (List.flatten [[.int .i64 x19.gen_],[.bool x19.whole_],(zr (fzr SR) (fun _=>[]) x19.values_).flatten,[.int .i64 0],[.bool false],(zr (fzr SR) (fun _=>[]) (List.replicate 20 ([]:(List UInt8)))).flatten]) 70,.ss (zs (zv 76 2 TVersion.row) (fun _=>[vz]) (List.replicate 20 ([]:(List TVersion)))),.ss (zs sd0 (fun _=>[]) l47),.obj b4 (List.flatten [(zr (fzr (PR kB)) (fun _=>[]) l47).flatten,[.int .i64 0],[.int .i64 0],[.bool false],[.int .i64 0],(zr qn (fun _=>[vz]) (List.replicate 20 ([]:(List TVersion)))).flatten,[.slice none 0 0],[.slice none 0 0]]) 67,kZ kG kB kA kH A67 []] O (fun w' hw=>W20 e58 hw.lend) ?_
  rintro _ _ ⟨kB,q59,q60,v56,hg61,rfl,rfl⟩
  replace yY:=yY.trans hg61
  rw[qaM hg61 ck51_0]
  rw[qcg hg61 _ _ (qaO ck51_1)]
  refine aj (D:=Cls w F (tx kD q59 l52::ty kD kB q60 l53::tl v56 l55::tca x19 b23 v12 l11 b5 l47 b4 kB kG kA kH A67)) hI<|L.r 7 O<|cjf<|L.r 1 O<|neL h (fun c62 h=>?_) fun c62 h=>?_
  ·cases h
   exact cjb<|L.r 3 O<|cjh<|ak<|aM<|aM<|ak<|aM<|rT2 fun w1 hw=>⟨_,_,O,⟨_,_,_,_,_,(hg67▸zY),(hg108▸yY),O,O⟩,hw.s [0,12,1]⟩
  refine cji<|L.r 1 O<|bi2 h fun x63 b64 e65 h=>yL (ye O fun w' hw=>W21 e65 (As.at_ (hw.get (i:=2) O)))<|L.r 2 O<|ibL h (Y.extract O O) (fun c66 h=>?_) fun c66 h=>?_
  ·refine L.alloc O qjG fun b67=>bM (S:=te) O<|bD (sds:=sd0) (vs:=(fun _=>[])) (xs:=tap) (qV vj _)<|bi1 h fun _ qeF h=>?_
   obtain⟨_,qeF⟩:=qd qeF
   refine ba (q:=1) (ps:=0) [] te (tm x63) [] zu O O (qA (qW O zg)<|qA (qW O zg)<|qA (qaN<|qi _) je) O fl0 (by simp[zl,qc,en24]) (by simp[zl,qc,qeF])<|aj (D:=Cls w F [.ss (zs sd0 (fun _=>[]) x63.values_),.obj b67 (List.flatten [[.int .i64 x63.gen_],[.bool x63.whole_],(zr (fzr SR) (fun _=>[]) x63.values_).flatten]) 69,jX kD q59 l52 [],jV kD kB q60 l53 [],.sl v56 9 1 (l55.map SR),.ss (zs sd0 (fun _=>[]) x19.values_),.obj b23 (List.flatten [[.int .i64 x19.gen_],[.bool x19.whole_],(zr (fzr SR) (fun _=>[]) x19.values_).flatten]) 69,.sl v12 9 1 (l11.map SR),.ss (zs sd0 (fun _=>[]) (List.replicate 20 ([]:(List UInt8)))),.ss (zs sd0 (fun _=>[]) x19.values_),.obj b5 (List.flatten [[.int .i64 x19.gen_],[.bool x19.whole_],(zr (fzr SR) (fun _=>[]) x19.values_).flatten,[.int .i64 0],[.bool false],(zr (fzr SR) (fun _=>[]) (List.replicate 20 ([]:(List UInt8)))).flatten]) 70,.ss (zs (zv 76 2 TVersion.row) (fun _=>[vz]) (List.replicate 20 ([]:(List TVersion)))),.ss (zs sd0 (fun _=>[]) l47),.obj b4 (List.flatten [(zr (fzr (PR kB)) (fun _=>[]) l47).flatten,[.int .i64 0],[.int .i64 0],[.bool false],[.int .i64 0],(zr qn (fun _=>[vz]) (List.replicate 20 ([]:(List TVersion)))).flatten,[.slice none 0 0],[.slice none 0 0]]) 67,kZ kG kB kA kH A67 []]) (fun _ hw=>by simp only[qX,tG,tI,tP,tQ,tR,tS,tZ,taF,taH,taL,taM,taO,taP,taV,taX,tad,taf,tai,tas,tav,taz,tb,tbC,tbT,tbd,tbj,tbk,tbo,tbt,tbu,tbv,tbw,tby,tcB,tcJ,tca,tch,tcm,tcn,tcu,th,tv]at hw ⊢;exact hw)<|L.r 1 O<|cjf<|L.r 1 O<|yL (bf O)<|cja<|ab<|av (k:=11) (stC [[8,10],[10]] [Cls w F (tG x63::taA b67 x63::tx kD q59 l52::ty kD kB q60 l53::tl v56 l55::tca x19 b23 v12 l11 b5 l47 b4 kB kG kA kH A67),Cls w F [tG x63,taA b67 x63,tx kD q59 l52,ty kD kB q60 l53,tl v56 l55,tG x19,taA b23 x19,tl v12 l11,tv,tG x19,tbc b5 x19,taC,tar kG kB kA kH A67]]<|Cls w F [tG x63,taA b67 x63,tx kD q59 l52,ty kD kB q60 l53,tl v56 l55,tG x19,taA b23 x19,tl v12 l11,tG x19,taC,tar kG kB kA kH A67]) O mixed (fun _ hw=>hw.drew) sn<|aA [] (ax (ax zF<|sI [0,1,2,3,4,5,6,7,9,11,12])<|sI [0,1,2,3,4,5,6,7,9,11,14]) fun hz86=>(vR [0,1,2,3] O<|vQ 4 [] hz86 O (bx (q:=1) (ps:=0) [] (tm x63) [] w8 zu O O fl0 (by simp[zl,qc,qeF]))<|vR [5] O<|vQ 6 [] hz86 O (aa qeD O)<|aA [8,10] (be hI) fun hz88=>(vM 7 [8,10] (fun _=>pt b4 (0+(1:Int).toNat*1)) hz88 O h (aR (l:=l47) Tryz.underlying62 qlo O O) fun x89 ex89 h=>(vE 8 O<|bG (si:=0) (ps:=0) (row:=(tcg kB)) (sds:=sd0) (vs:=(fun _=>[])) (q:=13) (s:=12) (c:=0) (u1:=x54) (vals:=[VP kB x54]) (j:=0) h qlo O O O (by rw[qL]) O (qW (qcZ _ _) zg) O O sl0 O (fun _ _=>O) (qm ex89) O O (fun _ _=>O) O fun l90 el90 h=>ltV (stC [[10]] [Cls w F [tG x63,taA b67 x63,tx kD q59 l52,ty kD kB q60 l53,tl v56 l55,tG x19,taA b23 x19,tl v12 l11,tv,tG x19,tbc b5 x19,taC,tar kG kB kA kH A67]]<|Cls w F [tG x63,taA b67 x63,tx kD q59 l52,ty kD kB q60 l53,tl v56 l55,tG x19,taA b23 x19,tl v12 l11,tG x19,taC,tar kG kB kA kH A67]) 8 (aw O<|sT sD) (sN<|sI [0,1,2,3,4,5,6,7,8,9,10,11,14])<|aA [10] (be hI) fun hz92=>(vQ 9 [10] hz92 O (bI Tryz.underlying70 zu O O (by decide) (by decide))<|vE 10 O<|ba (q:=10) (ps:=22) (tm x19) te (tm x63) [] zu O O (qA (qW O zg)<|qA (qW O zg)<|qA (qaN<|qi _) je) O (by simp[zl,qc,en25]) (by simp[zl,qc,en24]) (by simp[zl,qc,qeF])<|aj (D:=Cls w F [.ss (zs sd0 (fun _=>[]) x63.values_),.obj b67 (List.flatten [[.int .i64 x63.gen_],[.bool x63.whole_],(zr (fzr SR) (fun _=>[]) x63.values_).flatten]) 69,jX kD q59 l52 [],jV kD kB q60 l53 [],.sl v56 9 1 (l55.map SR),.ss (zs sd0 (fun _=>[]) x19.values_),.obj b23 (List.flatten [[.int .i64 x19.gen_],[.bool x19.whole_],(zr (fzr SR) (fun _=>[]) x19.values_).flatten]) 69,.sl v12 9 1 (l11.map SR),.ss (zs sd0 (fun _=>[]) x63.values_),.ss (zs sd0 (fun _=>[]) x19.values_),.obj b5 (List.flatten [[.int .i64 x19.gen_],[.bool x19.whole_],(zr (fzr SR) (fun _=>[]) x19.values_).flatten,[.int .i64 x63.gen_],[.bool x63.whole_],(zr (fzr SR) (fun _=>[]) x63.values_).flatten]) 70,.ss (zs (zv 76 2 TVersion.row) (fun _=>[vz]) (List.replicate 20 ([]:(List TVersion)))),.ss (zs sd0 (fun _=>[]) l90),.obj b4 (List.flatten [(zr (fzr (PR kB)) (fun _=>[]) l90).flatten,[.int .i64 0],[.int .i64 0],[.bool false],[.int .i64 0],(zr qn (fun _=>[vz]) (List.replicate 20 ([]:(List TVersion)))).flatten,[.slice none 0 0],[.slice none 0 0]]) 67,kZ kG kB kA kH A67 []]) (fun _ hw=>by simp only[qX,tG,tI,tP,tQ,tR,tS,tZ,taF,taH,taL,taM,taO,taP,taV,taX,tad,taf,tai,tas,tav,taz,tb,tbC,tbT,tbd,tbj,tbk,tbo,tbt,tbu,tbv,tbw,tby,tcB,tcJ,tca,tch,tcm,tcn,tcu,th,tv]at hw ⊢;exact hw)<|ltV (stC [] []<|Cls w F [tG x63,taA b67 x63,tx kD q59 l52,ty kD kB q60 l53,tl v56 l55,tG x19,taA b23 x19,tl v12 l11,tG x19,taC,tar kG kB kA kH A67]) 10 (aw O sD) (aP<|sI [0,1,2,3,4,5,6,7,9,11,14])<|vD<|cjj<|yL (bh O O _ (by decide:i64 (1+1)=some 2))<|L.r 1 O<|ae<|dv<|sr<|yL (dE O O)<|cjm<|a6 O<|cr<|bH<|bH<|bJ<|ab<|aE<|ar (fun gs D=>∃gb1,gs=[(5,pt b4 0),(6,pt b5 0),(71,.bool gb1)]∧D=Cls w F [tx kD q59 l52,ty kD kB q60 l53,tar kG kB kA kH A67,tbf b5 x19 x63,tG x19,tG x63,.obj b4 (List.flatten ((zr (tcg kB) (fun _=>[]) l90).flatten::tJ)) 67,.ss (tbj l90),taC]∧qf7 l90 x63 A67 l52 l53 x19 gb1=some r) ?_ ?_))))
   ·refine ah<|yL (bI Tryz.underlying70 zu O O (by decide) (by decide))<|yF kc O<|ibL h (al (q:=10) (si:=4) (ps:=23) (j:=0) (X:=[.bool x63.whole_]) ag4 O O O O (by simp[zl,qc,en25]) O) (fun c133 h=>?_) fun c133 h=>?_
    ·refine L.r 1 O<|tkL<|yL (bI Tryz.underlying70 zu O O (by decide) (by decide))<|tkL<|yF qcL O<|tkL<|yL (al (q:=10) (si:=3) (ps:=22) (j:=0) (X:=[.int .i64 x63.gen_]) ag3 O O O O (by simp[zl,qc,en25]) O)<|tkL<|yL (bI Tryz.underlying70 zu O O (by decide) (by decide))<|tkL<|yF qcL O<|tkL<|yL (al (q:=10) (si:=0) (ps:=0) (j:=0) (X:=[.int .i64 x19.gen_]) ag3 O O O O sl0 O)<|tkL<|gtL h (fun c134 h=>?_) fun c134 h=>?_
     ·exact L.r 7 O<|ae<|ay ⟨true,O,O,h⟩<|sI [2,3,14,10,9,8,13,12,11]
     refine L.r 1 O<|tkL<|yL (bI Tryz.underlying70 zu O O (by decide) (by decide))<|tkL<|yF kc O<|tkL<|ibL h (al (q:=10) (si:=1) (ps:=1) (j:=0) (X:=[.bool x19.whole_]) ag4 O O O O O O) (fun c135 h=>?_) fun c135 h=>?_
     ·exact tkL<|yL (bf O)<|L.r 2 O<|ae<|ay ⟨false,O,O,h⟩<|sI [2,3,14,10,9,8,13,12,11]
     exact tkL<|yL (bf O)<|L.r 2 O<|ae<|ay ⟨true,O,O,h⟩<|sI [2,3,14,10,9,8,13,12,11]
    exact L.r 15 O<|ae<|ay ⟨false,O,O,h⟩<|sI [2,3,14,10,9,8,13,12,11]
   rintro _ _ ⟨gb1,rfl,rfl,h⟩
   rw[qf7]at h
   rcases gb1 with _|_
   ·replace h:=qU h
    refine a6 O<|aN<|ab<|sr<|L.r 2 O<|yF yx O<|bi1 h fun _ en93 h=>?_
    obtain⟨_,en93⟩:=qd en93
    refine yL (al (q:=6) (si:=1) (ps:=2) (j:=0) (X:=[.int .i64 0]) ag3 O O O O (by simp[zl,qc,en93]) O)<|yL (bI Tryz.underlying70 zu O O (by decide) (by decide))<|yL (bx (q:=3) (ps:=0) [] (tm x19) (tm x63) w8 zu O O fl0 (by simp[zl,qc,en25]))<|L.alloc O qjG fun b94=>bM (S:=te) O<|bD (sds:=sd0) (vs:=(fun _=>[])) (xs:=tap) (qV vj _)<|ba (q:=1) (ps:=0) [] te (tm x19) [] zu O O (qA (qW O zg)<|qA (qW O zg)<|qA (qaN<|qi _) je) O fl0 (by simp[zl,qc,en24]) (by simp[zl,qc,en25])<|aj (D:=Cls w F [.ss (zs sd0 (fun _=>[]) x19.values_),.obj b94 (List.flatten [[.int .i64 x19.gen_],[.bool x19.whole_],(zr (fzr SR) (fun _=>[]) x19.values_).flatten]) 69,jX kD q59 l52 [],jV kD kB q60 l53 [],kZ kG kB kA kH A67 [],.obj b5 (List.flatten [[.int .i64 x19.gen_],[.bool x19.whole_],(zr (fzr SR) (fun _=>[]) x19.values_).flatten,[.int .i64 x63.gen_],[.bool x63.whole_],(zr (fzr SR) (fun _=>[]) x63.values_).flatten]) 70,.ss (zs sd0 (fun _=>[]) x19.values_),.ss (zs sd0 (fun _=>[]) x63.values_),.obj b4 (List.flatten [(zr (fzr (PR kB)) (fun _=>[]) l90).flatten,[.int .i64 0],[.int .i64 0],[.bool false],[.int .i64 0],(zr qn (fun _=>[vz]) (List.replicate 20 ([]:(List TVersion)))).flatten,[.slice none 0 0],[.slice none 0 0]]) 67,.ss (zs sd0 (fun _=>[]) l90),.ss (zs (zv 76 2 TVersion.row) (fun _=>[vz]) (List.replicate 20 ([]:(List TVersion))))]) (fun _ hw=>by simp only[qX,tG,tI,tP,tQ,tR,tS,tZ,taF,taH,taL,taM,taO,taP,taV,taX,tad,taf,tai,tas,tav,taz,tb,tbC,tbT,tbd,tbj,tbk,tbo,tbt,tbu,tbv,tbw,tby,tcB,tcJ,tca,tch,tcm,tcn,tcu,th,tv]at hw ⊢;exact hw)<|cjf<|yF kc O<|ibL h (al (q:=1) (si:=1) (ps:=1) (j:=0) (X:=[.bool x19.whole_]) ag4 O O O O O O) (fun c95 h=>?_) fun c95 h=>?_
    ·refine yL (bf O)<|cji<|L.r 1 O<|yF qcL O<|yL (al (q:=1) (si:=0) (ps:=0) (j:=0) (X:=[.int .i64 x19.gen_]) ag3 O O O O sl0 O)<|L.r 1 O<|yF qcN O<|aW (q:=8) (si:=2) (ps:=3) (j:=0) (X:=[.int .i64 0]) (vals:=[.int .i64 x19.gen_]) sz3 O O O O O (by simp[Value.oneCell',Value.cells,st,pt,el]) O O (by simp[zl,qc,en93]) O<|ln<|ar (fun gs D=>∃gx2 kG gl4 gq5,∃gu6:Unit,gs=[(5,VP kG gx2)]∧D=Cls w F [tx kD q59 l52,ty kD kB q60 l53,tar kG kB kA gq5 gl4]∧Gr g67 A67.length kG gl4.length∧qmY l52 l53 gx2 gl4=some r) ?_ ?_
     ·refine sr<|yF qaH O<|yL (dh (q:=1) (si:=2) (ps:=2) (rw':=SR) (vs:=(fun _=>[])) (lb:=x19.values_) wG xu O O O O<|zrN (nn:=20) (k:=1) (fun _ _=>O) en25)<|L.r 1 O<|cjp<|W.nilSl 127 1<|W.nilSl 127 1<|bC (D:=Cls w F [.sl (.slice none 0 0) 127 1 ([].map (PR kA)),.sl (.slice none 0 0) 127 1 ([].map (PR kA)),.ss (zs sd0 (fun _=>[]) x19.values_),.obj b94 (List.flatten [[.int .i64 x19.gen_],[.bool x19.whole_],(zr (fzr SR) (fun _=>[]) x19.values_).flatten]) 69,jX kD q59 l52 [],jV kD kB q60 l53 [],kZ kG kB kA kH A67 [],.obj b5 (List.flatten [[.int .i64 x19.gen_],[.bool x19.whole_],(zr (fzr SR) (fun _=>[]) x19.values_).flatten,[.int .i64 x63.gen_],[.bool x63.whole_],(zr (fzr SR) (fun _=>[]) x63.values_).flatten]) 70,.ss (zs sd0 (fun _=>[]) x19.values_),.ss (zs sd0 (fun _=>[]) x63.values_),.obj b4 (List.flatten [(zr (fzr (PR kB)) (fun _=>[]) l90).flatten,[.int .i64 0],[.int .i64 x19.gen_],[.bool false],[.int .i64 0],(zr qn (qN ([(.slice none 0 0),(.slice none 0 0)]++ghl (fun _=>[vz]) (List.replicate 20 ([]:(List TVersion))).length) 2) (List.replicate 20 ([]:(List TVersion)))).flatten,[(.slice none 0 0)],[(.slice none 0 0)]]) 67,.ss (zs sd0 (fun _=>[]) l90),.ss (zs (zv 76 2 TVersion.row) (qN ([(.slice none 0 0),(.slice none 0 0)]++ghl (fun _=>[vz]) (List.replicate 20 ([]:(List TVersion))).length) 2) (List.replicate 20 ([]:(List TVersion))))]) (fun _ hw=>by rw[xr [(tO),(tO)] _ 2 _ O,xq [(tO),(tO)] _ 2 _ O];exact hw)<|W.arNew (rowg:=fun g=>TStore.rowA kB kA) (subg:=fun g=>TStore.subA kB kA) (e:=67) (g:=kG) (gh:=kH) (l:=A67) (hs:=[]) (b:=b4) (u1:=(⟨l90,0,x19.gen_,false,0,tM,[],[]⟩:TStore)) (vs':=([(tO),(tO)]++ghl (fun _=>[vz]) tM.length)) (m':=[tG x19,taA b94 x19,tx kD q59 l52,ty kD kB q60 l53,tbf b5 x19 x63,tG x19,tG x63]) [10,1,0,11,12,6,2,3,4,5,7,8,9] h (by decide) O (fun _ h=>nomatch h) (fun _ _ _ _ _=>⟨O,O⟩) fun kG q96 x97 l98 h hg99 hv100 hi101=>?_
      rw[hv100]
      replace zY:=zY.trans hg99
      refine bC (D:=Cls w F [tar kG kB kA q96 l98,tG x19,taA b94 x19,tx kD q59 l52,ty kD kB q60 l53,tbf b5 x19 x63,tG x19,tG x63]) hI<|au (fun m gs D=>∃gx7 gl8 gq9,∃gu10:Unit,gs=[(5,VP kG x97),(90,.agg (x19.values_.map SR).flatten.toArray),(91,.int .i64 gx7)]∧D=tcv w F kG kB kA gq9 gl8 kD q59 l52 q60 l53∧Gr g67 A67.length kG gl8.length∧qgz x19 x97 l52 l53 m gx7 gl8=some r) ⟨0,l98,q96,(),O,O,zY,h⟩ ⟨O,O,O,trivial⟩ (sI [0,3,4]) ?_
      rintro m _ _ ⟨gx7,gl8,gq9,gu10,rfl,rfl,zY,h⟩
      rcases m with _|m
      ·rw[qgz]at h;cases h
      rw[qgz]at h
      generalize hg1:qgz x19 x97 l52 l53 m=go1 at h
      rw[qjn]at h
      refine sr<|ltL h (fun c102 h=>?_) fun c102 h=>?_
      ·refine cje<|L.r 1 O<|bi1 h fun x103 ex103 h=>yL (cB (l:=x19.values_) (row:=SR) (p:=st x103) Tryz.underlying46 ag9 sz9 O O (fun _=>O) ex103 O)<|L.r 2 O<|nr<|L.r 3 O<|yL (bl (cells:=#[.int .i64 0,st x103]) O (by kernel_rfl))<|cm O Tryz.underlying63 qj4 O O O fun b104=>bi1 h fun xQ eth105 h=>aj (D:=Cls w F<|tbu kG x97 kB xQ gq9 kA gl8 b104 x103 kD q59 l52 q60 l53) (aoI 1 O eth105)<|yNF O eth105 wC<|mL (fun _=>tcG kG x97 gx7) h (aR (l:=xQ.items_) Tryz.underlying64 qgs O O) fun x106 ex106 h=>bi1 h fun _ en107 h=>?_
       obtain⟨_,en107⟩:=qd en107
       exact cF (si:=5) (ps:=6) (row:=qn) (sds:=ti) (vs:=(tk gq9 x97)) (q:=0) (p:=6) (s:=4) (c:=1) (jj:=0) (u1:=[(⟨0,x103⟩:TVersion)]) (v1:=[(sv b104 1)]) (j:=0) h qgs O O O O O (by simp[zl,qc,en107]) O O (.inl O) (fun _ _=>O) (fun _ _=>O) (qm ex106) O O O O fun l108 q109 el108 h=>ae<|cjj<|mL (fun x110=>taB x110) h (bh O O) fun x110 ex110 h=>(L.r 1 O<|ae<|az (D:=Cls w F [.obj (kG x97.toNat) (List.flatten [(zr (fzr (PR kB)) (fun _=>[]) xQ.logs_).flatten,[.int .i64 xQ.half_],[.int .i64 xQ.gen_],[.bool xQ.down_],[.int .i64 xQ.now_],(zr qn (qN ([(gv (gq9 x97.toNat) 0),(gv (gq9 x97.toNat) 1)]++ghl q109 l108.length) 2) l108).flatten,[(gv (gq9 x97.toNat) 0)],[(gv (gq9 x97.toNat) 1)]]) 67,.sl (gv (gq9 x97.toNat) 0) 127 1 (xQ.active_.map (PR kA)),.sl (gv (gq9 x97.toNat) 1) 127 1 (xQ.over_.map (PR kA)),.ss (zs sd0 (fun _=>[]) xQ.logs_),.ss (zs (zv 76 2 TVersion.row) (qN ([(gv (gq9 x97.toNat) 0),(gv (gq9 x97.toNat) 1)]++ghl q109 l108.length) 2) l108),kZ kG kB kA gq9 gl8 (x97.toNat::[]),jX kD q59 l52 [],jV kD kB q60 l53 []]) (fun _ hw=>by rw[xr (taS gq9 x97) _ 2 _ O,xq (taS gq9 x97) _ 2 _ O];exact hw)<|bi1 h fun l112 el112 h=>bL (row:=TStore.rowA kB kA) (sub:=TStore.subA kB kA) (e:=67) (g:=kG) (gh:=gq9) (vs':=((taS gq9 x97)++ghl q109 l108.length)) (m':=(taT kD q59 l52 kB q60 l53)) [0,1,2,3,4,5,6,7] el112 O fun q111=>have zY:=zY.upd el112;az (D:=tcv w F kG kB kA q111 l112 kD q59 l52 q60 l53) hI<|bi ⟨x110,l112,q111,(),O,O,zY,by rw[hg1];exact h⟩ hI)
      exact cjm<|cjd<|ay ⟨x97,kG,gl8,gq9,(),O,O,zY,h⟩<|sI [1,2,0]
     rintro _ _ ⟨gx2,kG,gl4,gq5,gu6,rfl,rfl,zY,h⟩
     rw[qmY]at h
     cases h
     exact sr<|L.r 3 O<|cjc<|rT2 fun w1 hw=>⟨_,_,O,⟨_,_,_,_,_,(hg67▸zY),(hg108▸yY),O,O⟩,hw.s [0,2,1]⟩
    cases h
    exact yL (bf O)<|cjb<|L.r 2 O<|cjh<|rT2 fun w1 hw=>⟨_,_,O,⟨_,_,_,_,_,(hg67▸zY),(hg108▸yY),O,O⟩,hw.s [2,4,3]⟩
   replace h:=qT h
   refine aX O<|ah<|L.r 2 O<|yF yx O<|bi1 h fun _ en113 h=>?_
   obtain⟨_,en113⟩:=qd en113
   refine aW (q:=6) (si:=1) (ps:=2) (j:=0) (X:=[.int .i64 0]) (vals:=[.int .i64 1]) sz3 O O O O O (by simp[Value.oneCell',Value.cells,st,pt,el]) O O (by simp[zl,qc,en113]) O<|nsr<|L.r 2 O<|yF yx O<|yL (al (q:=6) (si:=1) (ps:=2) (j:=0) (X:=[.int .i64 1]) ag3 O O O O (by simp[zl,qc,en113]) O)<|yL (bI Tryz.underlying70 zu O O (by decide) (by decide))<|yL (bx (q:=3) (ps:=22) (tm x19) (tm x63) [] w8 zu O O (by simp[zl,qc,en25]) (by simp[zl,qc,qeF]))<|L.alloc O qjG fun b114=>bM (S:=te) O<|bD (sds:=sd0) (vs:=(fun _=>[])) (xs:=tap) (qV vj _)<|ba (q:=1) (ps:=0) [] te (tm x63) [] zu O O (qA (qW O zg)<|qA (qW O zg)<|qA (qaN<|qi _) je) O fl0 (by simp[zl,qc,en24]) (by simp[zl,qc,qeF])<|aj (D:=Cls w F [.ss (zs sd0 (fun _=>[]) x63.values_),.obj b114 (List.flatten [[.int .i64 x63.gen_],[.bool x63.whole_],(zr (fzr SR) (fun _=>[]) x63.values_).flatten]) 69,jX kD q59 l52 [],jV kD kB q60 l53 [],kZ kG kB kA kH A67 [],.obj b5 (List.flatten [[.int .i64 x19.gen_],[.bool x19.whole_],(zr (fzr SR) (fun _=>[]) x19.values_).flatten,[.int .i64 x63.gen_],[.bool x63.whole_],(zr (fzr SR) (fun _=>[]) x63.values_).flatten]) 70,.ss (zs sd0 (fun _=>[]) x19.values_),.ss (zs sd0 (fun _=>[]) x63.values_),.obj b4 (List.flatten [(zr (fzr (PR kB)) (fun _=>[]) l90).flatten,[.int .i64 1],[.int .i64 0],[.bool false],[.int .i64 0],(zr qn (fun _=>[vz]) (List.replicate 20 ([]:(List TVersion)))).flatten,[.slice none 0 0],[.slice none 0 0]]) 67,.ss (zs sd0 (fun _=>[]) l90),.ss (zs (zv 76 2 TVersion.row) (fun _=>[vz]) (List.replicate 20 ([]:(List TVersion))))]) (fun _ hw=>by simp only[qX,tG,tI,tP,tQ,tR,tS,tZ,taF,taH,taL,taM,taO,taP,taV,taX,tad,taf,tai,tas,tav,taz,tb,tbC,tbT,tbd,tbj,tbk,tbo,tbt,tbu,tbv,tbw,tby,tcB,tcJ,tca,tch,tcm,tcn,tcu,th,tv]at hw ⊢;exact hw)<|cjf<|yF kc O<|ibL h (al (q:=1) (si:=1) (ps:=1) (j:=0) (X:=[.bool x63.whole_]) ag4 O O O O O O) (fun c115 h=>?_) fun c115 h=>?_
   ·refine yL (bf O)<|cji<|L.r 1 O<|yF qcL O<|yL (al (q:=1) (si:=0) (ps:=0) (j:=0) (X:=[.int .i64 x63.gen_]) ag3 O O O O sl0 O)<|L.r 1 O<|yF qcN O<|aW (q:=8) (si:=2) (ps:=3) (j:=0) (X:=[.int .i64 0]) (vals:=[.int .i64 x63.gen_]) sz3 O O O O O (by simp[Value.oneCell',Value.cells,st,pt,el]) O O (by simp[zl,qc,en113]) O<|ln<|ar (fun gs D=>∃jN kG zD gq14,∃gu15:Unit,gs=[(5,VP kG jN)]∧D=Cls w F [tx kD q59 l52,ty kD kB q60 l53,tar kG kB kA gq14 zD]∧Gr g67 A67.length kG zD.length∧qnK l52 l53 jN zD=some r) ?_ ?_
    ·refine sr<|yF qaH O<|yL (dh (q:=1) (si:=2) (ps:=2) (rw':=SR) (vs:=(fun _=>[])) (lb:=x63.values_) wG xu O O O O<|zrN (nn:=20) (k:=1) (fun _ _=>O) qeF)<|L.r 1 O<|cjp<|W.nilSl 127 1<|W.nilSl 127 1<|bC (D:=Cls w F [.sl (.slice none 0 0) 127 1 ([].map (PR kA)),.sl (.slice none 0 0) 127 1 ([].map (PR kA)),.ss (zs sd0 (fun _=>[]) x63.values_),.obj b114 (List.flatten [[.int .i64 x63.gen_],[.bool x63.whole_],(zr (fzr SR) (fun _=>[]) x63.values_).flatten]) 69,jX kD q59 l52 [],jV kD kB q60 l53 [],kZ kG kB kA kH A67 [],.obj b5 (List.flatten [[.int .i64 x19.gen_],[.bool x19.whole_],(zr (fzr SR) (fun _=>[]) x19.values_).flatten,[.int .i64 x63.gen_],[.bool x63.whole_],(zr (fzr SR) (fun _=>[]) x63.values_).flatten]) 70,.ss (zs sd0 (fun _=>[]) x19.values_),.ss (zs sd0 (fun _=>[]) x63.values_),.obj b4 (List.flatten [(zr (fzr (PR kB)) (fun _=>[]) l90).flatten,[.int .i64 1],[.int .i64 x63.gen_],[.bool false],[.int .i64 0],(zr qn (qN ([(.slice none 0 0),(.slice none 0 0)]++ghl (fun _=>[vz]) (List.replicate 20 ([]:(List TVersion))).length) 2) (List.replicate 20 ([]:(List TVersion)))).flatten,[(.slice none 0 0)],[(.slice none 0 0)]]) 67,.ss (zs sd0 (fun _=>[]) l90),.ss (zs (zv 76 2 TVersion.row) (qN ([(.slice none 0 0),(.slice none 0 0)]++ghl (fun _=>[vz]) (List.replicate 20 ([]:(List TVersion))).length) 2) (List.replicate 20 ([]:(List TVersion))))]) (fun _ hw=>by rw[xr [(tO),(tO)] _ 2 _ O,xq [(tO),(tO)] _ 2 _ O];exact hw)<|W.arNew (rowg:=fun g=>TStore.rowA kB kA) (subg:=fun g=>TStore.subA kB kA) (e:=67) (g:=kG) (gh:=kH) (l:=A67) (hs:=[]) (b:=b4) (u1:=(⟨l90,1,x63.gen_,false,0,tM,[],[]⟩:TStore)) (vs':=([(tO),(tO)]++ghl (fun _=>[vz]) tM.length)) (m':=[tG x63,taA b114 x63,tx kD q59 l52,ty kD kB q60 l53,tbf b5 x19 x63,tG x19,tG x63]) [10,1,0,11,12,6,2,3,4,5,7,8,9] h (by decide) O (fun _ h=>nomatch h) (fun _ _ _ _ _=>⟨O,O⟩) fun kG q116 x117 l118 h hg119 hv120 hi121=>?_
     rw[hv120]
     replace zY:=zY.trans hg119
     refine bC (D:=Cls w F [tar kG kB kA q116 l118,tG x63,taA b114 x63,tx kD q59 l52,ty kD kB q60 l53,tbf b5 x19 x63,tG x19,tG x63]) hI<|au (fun m gs D=>∃yI jA yW,∃gu19:Unit,gs=[(5,VP kG x117),(90,.agg (x63.values_.map SR).flatten.toArray),(91,taB yI)]∧D=tcv w F kG kB kA yW jA kD q59 l52 q60 l53∧Gr g67 A67.length kG jA.length∧qjm x63 x117 l52 l53 m yI jA=some r) ⟨0,l118,q116,(),O,O,zY,h⟩ ⟨O,O,O,trivial⟩ (sI [0,3,4]) ?_
     rintro m _ _ ⟨yI,jA,yW,gu19,rfl,rfl,zY,h⟩
     rcases m with _|m
     ·rw[qjm]at h;cases h
     rw[qjm]at h
     generalize hg2:qjm x63 x117 l52 l53 m=go2 at h
     rw[qmB]at h
     refine sr<|ltL h (fun c122 h=>?_) fun c122 h=>?_
     ·refine cje<|L.r 1 O<|bi1 h fun x123 ex123 h=>yL (cB (l:=x63.values_) (row:=SR) (p:=st x123) Tryz.underlying46 ag9 sz9 O O (fun _=>O) ex123 O)<|L.r 2 O<|nr<|L.r 3 O<|yL (bl (cells:=#[.int .i64 0,st x123]) O (by kernel_rfl))<|cm O Tryz.underlying63 qj4 O O O fun b124=>bi1 h fun xD eth125 h=>aj (D:=Cls w F<|tbu kG x117 kB xD yW kA jA b124 x123 kD q59 l52 q60 l53) (aoI 1 O eth125)<|yNF O eth125 wC<|mL (fun _=>tcG kG x117 yI) h (aR (l:=xD.items_) Tryz.underlying64 qgs O O) fun x126 ex126 h=>bi1 h fun _ en127 h=>?_
      obtain⟨_,en127⟩:=qd en127
      exact cF (si:=5) (ps:=6) (row:=qn) (sds:=ti) (vs:=(tk yW x117)) (q:=0) (p:=6) (s:=4) (c:=1) (jj:=0) (u1:=[(⟨0,x123⟩:TVersion)]) (v1:=[(sv b124 1)]) (j:=0) h qgs O O O O O (by simp[zl,qc,en127]) O O (.inl O) (fun _ _=>O) (fun _ _=>O) (qm ex126) O O O O fun l128 q129 el128 h=>ae<|cjj<|mL (fun x130=>taB x130) h (bh O O) fun x130 ex130 h=>(L.r 1 O<|ae<|az (D:=Cls w F [.obj (kG x117.toNat) (List.flatten [(zr (fzr (PR kB)) (fun _=>[]) xD.logs_).flatten,[.int .i64 xD.half_],[.int .i64 xD.gen_],[.bool xD.down_],[.int .i64 xD.now_],(zr qn (qN ([(gv (yW x117.toNat) 0),(gv (yW x117.toNat) 1)]++ghl q129 l128.length) 2) l128).flatten,[(gv (yW x117.toNat) 0)],[(gv (yW x117.toNat) 1)]]) 67,.sl (gv (yW x117.toNat) 0) 127 1 (xD.active_.map (PR kA)),.sl (gv (yW x117.toNat) 1) 127 1 (xD.over_.map (PR kA)),.ss (zs sd0 (fun _=>[]) xD.logs_),.ss (zs (zv 76 2 TVersion.row) (qN ([(gv (yW x117.toNat) 0),(gv (yW x117.toNat) 1)]++ghl q129 l128.length) 2) l128),kZ kG kB kA yW jA (x117.toNat::[]),jX kD q59 l52 [],jV kD kB q60 l53 []]) (fun _ hw=>by rw[xr (taS yW x117) _ 2 _ O,xq (taS yW x117) _ 2 _ O];exact hw)<|bi1 h fun l132 el132 h=>bL (row:=TStore.rowA kB kA) (sub:=TStore.subA kB kA) (e:=67) (g:=kG) (gh:=yW) (vs':=((taS yW x117)++ghl q129 l128.length)) (m':=(taT kD q59 l52 kB q60 l53)) [0,1,2,3,4,5,6,7] el132 O fun q131=>have zY:=zY.upd el132;az (D:=tcv w F kG kB kA q131 l132 kD q59 l52 q60 l53) hI<|bi ⟨x130,l132,q131,(),O,O,zY,by rw[hg2];exact h⟩ hI)
     exact cjm<|cjd<|ay ⟨x117,kG,jA,yW,(),O,O,zY,h⟩<|sI [1,2,0]
    rintro _ _ ⟨jN,kG,zD,gq14,gu15,rfl,rfl,zY,h⟩
    rw[qnK]at h
    cases h
    exact sr<|L.r 3 O<|cjc<|rT2 fun w1 hw=>⟨_,_,O,⟨_,_,_,_,_,(hg67▸zY),(hg108▸yY),O,O⟩,hw.s [0,2,1]⟩
   cases h
   exact yL (bf O)<|cjb<|L.r 2 O<|cjh<|rT2 fun w1 hw=>⟨_,_,O,⟨_,_,_,_,_,(hg67▸zY),(hg108▸yY),O,O⟩,hw.s [2,4,3]⟩
  refine L.alloc O qjG fun b136=>bM (S:=te) O<|bD (sds:=sd0) (vs:=(fun _=>[])) (xs:=tap) (qV vj _)<|bi1 h fun _ en137 h=>?_
  obtain⟨_,en137⟩:=qd en137
  cases h
  exact ba (q:=1) (ps:=0) [] te (tm x63) [] zu O O (qA (qW O zg)<|qA (qW O zg)<|qA (qaN<|qi _) je) O fl0 (by simp[zl,qc,en24]) (by simp[zl,qc,en137])<|aj (D:=Cls w F [.ss (zs sd0 (fun _=>[]) x63.values_),.obj b136 (List.flatten [[.int .i64 x63.gen_],[.bool x63.whole_],(zr (fzr SR) (fun _=>[]) x63.values_).flatten]) 69,jX kD q59 l52 [],jV kD kB q60 l53 [],.sl v56 9 1 (l55.map SR),.ss (zs sd0 (fun _=>[]) x19.values_),.obj b23 (List.flatten [[.int .i64 x19.gen_],[.bool x19.whole_],(zr (fzr SR) (fun _=>[]) x19.values_).flatten]) 69,.sl v12 9 1 (l11.map SR),.ss (zs sd0 (fun _=>[]) (List.replicate 20 ([]:(List UInt8)))),.ss (zs sd0 (fun _=>[]) x19.values_),.obj b5 (List.flatten [[.int .i64 x19.gen_],[.bool x19.whole_],(zr (fzr SR) (fun _=>[]) x19.values_).flatten,[.int .i64 0],[.bool false],(zr (fzr SR) (fun _=>[]) (List.replicate 20 ([]:(List UInt8)))).flatten]) 70,.ss (zs (zv 76 2 TVersion.row) (fun _=>[vz]) (List.replicate 20 ([]:(List TVersion)))),.ss (zs sd0 (fun _=>[]) l47),.obj b4 (List.flatten [(zr (fzr (PR kB)) (fun _=>[]) l47).flatten,[.int .i64 0],[.int .i64 0],[.bool false],[.int .i64 0],(zr qn (fun _=>[vz]) (List.replicate 20 ([]:(List TVersion)))).flatten,[.slice none 0 0],[.slice none 0 0]]) 67,kZ kG kB kA kH A67 []]) (fun _ hw=>by simp only[qX,tG,tI,tP,tQ,tR,tS,tZ,taF,taH,taL,taM,taO,taP,taV,taX,tad,taf,tai,tas,tav,taz,tb,tbC,tbT,tbd,tbj,tbk,tbo,tbt,tbu,tbv,tbw,tby,tcB,tcJ,tca,tch,tcm,tcn,tcu,th,tv]at hw ⊢;exact hw)<|L.r 1 O<|cjf<|L.r 1 O<|yL (bf O)<|cjg<|aE<|ah<|L.r 2 O<|cjh<|ak<|aM<|aM<|ak<|aM<|rT2 fun w1 hw=>⟨_,_,O,⟨_,_,_,_,_,(hg67▸zY),(hg108▸yY),O,O⟩,hw.s [2,14,3]⟩
 refine L.alloc O qjG fun b138=>bM (S:=te) O<|bD (sds:=sd0) (vs:=(fun _=>[])) (xs:=tap) (qV vj _)<|bi1 h fun _ en139 h=>?_
 obtain⟨_,en139⟩:=qd en139
 obtain⟨_,en140,h⟩:=qq h
 obtain⟨_,en140⟩:=qd en140
 cases h
 exact ba (q:=1) (ps:=0) [] te (tm x19) [] zu O O (qA (qW O zg)<|qA (qW O zg)<|qA (qaN<|qi _) je) O fl0 (by simp[zl,qc,en139]) (by simp[zl,qc,en140])<|aj (D:=Cls w F [.ss (zs sd0 (fun _=>[]) x19.values_),.obj b138 (List.flatten [[.int .i64 x19.gen_],[.bool x19.whole_],(zr (fzr SR) (fun _=>[]) x19.values_).flatten]) 69,jX kD q15 l8 [],jV kD kB q16 l9 [],.sl v12 9 1 (l11.map SR),.ss (zs sd0 (fun _=>[]) (List.replicate 20 ([]:(List UInt8)))),.ss (zs sd0 (fun _=>[]) (List.replicate 20 ([]:(List UInt8)))),.obj b5 (List.flatten [[.int .i64 0],[.bool false],(zr (fzr SR) (fun _=>[]) (List.replicate 20 ([]:(List UInt8)))).flatten,[.int .i64 0],[.bool false],(zr (fzr SR) (fun _=>[]) (List.replicate 20 ([]:(List UInt8)))).flatten]) 70,.ss (zs (zv 76 2 TVersion.row) (fun _=>[vz]) (List.replicate 20 ([]:(List TVersion)))),.ss (zs sd0 (fun _=>[]) (List.replicate 2 ((-1):Int))),.obj b4 (List.flatten [(zr (fzr (PR kB)) (fun _=>[]) (List.replicate 2 ((-1):Int))).flatten,[.int .i64 0],[.int .i64 0],[.bool false],[.int .i64 0],(zr qn (fun _=>[vz]) (List.replicate 20 ([]:(List TVersion)))).flatten,[.slice none 0 0],[.slice none 0 0]]) 67,kZ kG kB kA kH A67 []]) (fun _ hw=>by simp only[qX,tG,tI,tP,tQ,tR,tS,tZ,taF,taH,taL,taM,taO,taP,taV,taX,tad,taf,tai,tas,tav,taz,tb,tbC,tbT,tbd,tbj,tbk,tbo,tbt,tbu,tbv,tbw,tby,tcB,tcJ,tca,tch,tcm,tcn,tcu,th,tv]at hw ⊢;exact hw)<|L.r 1 O<|cjf<|L.r 1 O<|yL (bf O)<|cjg<|aE<|ah<|L.r 2 O<|cjh<|ak<|aM<|aM<|ak<|aM<|rT2 fun w1 hw=>⟨_,_,O,⟨_,_,_,_,_,(hg67▸zY),(hg108▸yY),O,O⟩,hw.s [2,11,3]⟩
theorem W49{a0 A51 kF kP w r F}(h:M49 a0 A51=some r)(hc0:Cls w F [tF kF kP A51] w):qz Tryz.prog 49 [VP kF a0] F w fun u m=>u=.bool r∧m=[tF kF kP A51]:=by
 rw[M49]at h
 refine body (n:=8) Tryz.func49 O O O hc0<|sr<|L.r 1 O<|nsr<|L.r 1 O<|bi1 h fun th1 kR h=>aj (D:=Cls w F<|taE kF a0 kP th1 A51) (aoI 0 O kR)<|yNP O kR jh 0 ag3 O O<|yL (dy O O)<|L.r 1 O<|cjc<|az (D:=Cls w F [tF kF kP A51]) (asI [0,1,2,3,4,5] kR O)<|rT fun w1 hw=>?_
 cases h
 exact⟨_,_,O,⟨O,O⟩,hw⟩
theorem W91{a0 w r}(h:M91 a0=some r):Does Tryz.prog 91 [st a0] w fun u m=>u=.tuple #[.int .u64 r.1,.int .i64 r.2.1,.int .i64 r.2.2]∧m=[]:=by
 rw[M91]at h
 refine body (n:=50) Tryz.func91 O O O (Cls.refl w)<|sr<|L.r 3 O<|ln<|ar (fun gs D=>gs=[]∧D=Cls w [] []∧qjj=some r) ?_ ?_
 ·refine sr<|L.r 1 O<|yL (aK Tryz.underlying9 O)<|L.r 1 O<|cjp<|au (fun m gs D=>∃gx1,gs=((0,st a0)::tcp a0 gx1)∧D=Cls w [] []∧wR a0 m gx1=some r) ⟨0,O,O,h⟩ ⟨O,O,O,trivial⟩ hI ?_
  rintro m _ _ ⟨gx1,rfl,rfl,h⟩
  rcases m with _|m
  ·rw[wR]at h;cases h
  rw[wR]at h
  generalize hg1:wR a0 m=go1 at h
  rw[qeS]at h
  refine sr<|ltL h (fun c1 h=>?_) fun c1 h=>?_
  ·refine cjm<|aX O<|aN<|ab<|ar (fun gs D=>gs=((0,st a0)::tcp a0 gx1)∧D=Cls w [] []∧qji gx1 go1=some r) ?_ ?_
   ·refine W.block<|sr<|L.r 2 O<|ln<|ar (fun gs D=>gs=((0,st a0)::(5,.int .i64 gx1)::tcp a0 gx1)∧D=Cls w [] []∧qc0 a0 gx1 go1=some r) ?_ ?_
    ·refine sr<|L.r 1 O<|eqL h (fun c13 h=>?_) fun c13 h=>?_
     ·refine L.r 3 O<|tkL<|mL (fun x14=>.int .u8 x14) h (bk Tryz.underlying9 O O) fun x14 ex14 h=>(tkL<|gtL h (fun c15 h=>?_) fun c15 h=>?_)
      ·cases h
       exact L.r 1 O<|cjb<|L.r 3 O<|cjc<|bW<|cjo<|rT3 d0
      exact L.r 1 O<|cja<|ay ⟨O,O,h⟩ hI
     exact L.r 6 O<|cja<|ay ⟨O,O,h⟩ hI
    rintro _ _ ⟨rfl,rfl,h⟩
    rw[qc0]at h
    refine aE<|sr<|L.r 2 O<|mL (fun x3=>.int .u8 x3) h (bk Tryz.underlying9 O O) fun x3 ex3 h=>(iL h (bU O O) (fun c4 h=>?_) fun c4 h=>?_)
    ·exact cjg<|cr<|bH<|bJ<|ay ⟨O,O,h⟩ hI
    refine cja<|ab<|ar (fun gs D=>gs=[(0,st a0),(5,.int .i64 gx1)]∧D=Cls w [] []∧qf6 a0 gx1=some r) ?_ ?_
    ·refine sr<|L.r 2 O<|mL (fun x10=>.int .u8 x10) h (bk Tryz.underlying9 O O) fun x10 ex10 h=>(eqL h (fun c11 h=>?_) fun c11 h=>?_)
     ·refine L.r 2 O<|tkL<|gtL h (fun c12 h=>?_) fun c12 h=>?_
      ·cases h
       exact L.r 1 O<|cjb<|L.r 3 O<|cjc<|bW<|cjo<|rT3 d0
      exact L.r 1 O<|cja<|ay ⟨O,O,h⟩ hI
     exact L.r 4 O<|cja<|ay ⟨O,O,h⟩ hI
    rintro _ _ ⟨rfl,rfl,h⟩
    rw[qf6]at h
    refine sr<|L.r 1 O<|ln<|ar (fun gs D=>∃gx2,gs=[(5,.int .i64 gx1),(6,.int .u64 gx2)]∧D=Cls w [] []∧qjh gx1 gx2=some r) ?_ ?_
    ·refine sr<|L.r 2 O<|cjp<|au (fun m gs D=>∃gx3 gx4,gs=[(0,st a0),(5,.int .i64 gx1),(6,.int .u64 gx3),(7,.int .i64 gx4)]∧D=Cls w [] []∧qby a0 gx1 m gx3 gx4=some r) ⟨0,gx1,O,O,h⟩ ⟨O,O,O,O,trivial⟩ hI ?_
     rintro m _ _ ⟨gx3,gx4,rfl,rfl,h⟩
     rcases m with _|m
     ·rw[qby]at h;cases h
     rw[qby]at h
     generalize hg2:qby a0 gx1 m=go2 at h
     rw[qeR]at h
     refine aE<|sr<|L.r 1 O<|iL h (bU O O) (fun c6 h=>?_) fun c6 h=>?_
     ·exact cjg<|aN<|ab<|aE<|W.block<|ah<|L.r 1 O<|yL (cR O O)<|L.r 2 O<|mL (fun x7=>.int .u8 x7) h (bk Tryz.underlying9 O O) fun x7 ex7 h=>(mL (fun x8=>.int .u8 x8) h (cn O O) fun x8 ex8 h=>(yL (a7 Tryz.underlying5 Tryz.underlying156 O)<|yL (bX O O)<|L.r 1 O<|ae<|cjj<|L.r 1 O<|mI h (bj O O) fun x9 ex9 h=>(L.r 1 O<|ae<|bi ⟨IntKind.wrap .u64 ((IntKind.wrap .u64 (gx3*128))+(IntKind.wrap .u64 x8)),x9,O,O,by rw[hg2];exact h⟩ hI)))
     exact ln<|cjd<|ay ⟨gx3,O,O,h⟩ hI
    rintro _ _ ⟨gx2,rfl,rfl,h⟩
    rw[qjh]at h
    refine sr<|L.r 2 O<|mA h fun x5 ex5 h=>(L.r 3 O<|cjc<|cjo<|rT3 fun w1 hw=>?_)
    cases h
    exact⟨_,_,O,⟨O,O⟩,hw⟩
   rintro _ _ ⟨rfl,rfl,h⟩
   rw[qji]at h
   exact ah<|mA h fun x2 ex2 h=>(L.r 1 O<|ae<|bi ⟨x2,O,O,by rw[hg1];exact h⟩ hI)
  exact cjm<|cjd<|bB ⟨O,O,h⟩ trivial hI
 rintro _ _ ⟨rfl,rfl,h⟩
 rw[qjj]at h
 cases h
 exact sr<|L.r 3 O<|cjc<|rT3 d0
theorem W53{a0 w r}(h:M53 a0=some r):Does Tryz.prog 53 [st a0] w fun u m=>u=.tuple #[.int .i64 r.1,.int .i64 r.2.1,.int .i64 r.2.2]∧m=[]:=by
 rw[M53]at h
 refine body (n:=30) Tryz.func53 O O O (Cls.refl w)<|sr<|L.r 3 O<|nsr<|L.r 1 O<|bi3 h fun x1 x2 x3 e4 h=>yL (ye O fun w' hw=>W91 e4)<|L.r 7 O<|cjf<|L.r 1 O<|neL h (fun c5 h=>?_) fun c5 h=>?_
 ·cases h
  exact cjb<|L.r 4 O<|cjh<|rT3 d0
 refine cjl<|sr<|L.r 1 O<|mL (fun x6=>.int .u64 x6) h (cn O O) fun x6 ex6 h=>(eqL h (fun c7 h=>?_) fun c7 h=>?_)
 ·refine cjb<|L.r 1 O<|mL (fun x8=>.int .u64 x8) h (cu O O) fun x8 ex8 h=>(yL (a7 Tryz.underlying156 Tryz.underlying3 O)<|yL (fg O)<|mI h (bj O O) fun x9 ex9 h=>(L.r 4 O<|cjh<|rT3 fun w1 hw=>?_))
  cases h
  exact⟨_,_,O,⟨O,O⟩,hw⟩
 refine cji<|L.r 1 O<|mL (fun x10=>.int .u64 x10) h (cu O O) fun x10 ex10 h=>(yL (a7 Tryz.underlying156 Tryz.underlying3 O)<|L.r 4 O<|cjc<|rT3 fun w1 hw=>?_)
 cases h
 exact⟨_,_,O,⟨O,O⟩,hw⟩
theorem qnE  : ∀(n:Nat) (a0:Int) (w:World) (r:(List UInt8)) (h:qdt n a0=some r),Does Tryz.prog 115 [.int .u64 a0] w fun u m=>u=st r∧m=[]:=by
 intro n
 induction n with
 | zero=>intro a0 w r h;rw[qdt]at h;cases h
 | succ n ih =>
 intro a0 w r h
 rw[qdt]at h
 generalize qdt n=rec at h ih
 rw[qlg]at h
 refine body (n:=19) Tryz.func115 O O O (Cls.refl w)<|sr<|L.r 1 O<|cjf<|L.r 1 O<|ltL h (fun c1 h=>?_) fun c1 h=>?_
 ·cases h
  exact cjb<|L.r 1 O<|yL (a7 Tryz.underlying156 Tryz.underlying5 O)<|aI O Tryz.underlying99 eL5 O O fun b2=>yL (bt (l:=[tcD a0]) Tryz.underlying99 Tryz.underlying5 Tryz.underlying9 O<|aG 0 O)<|L.r 1 O<|cjh<|rT<|d0s []
 refine cja<|ab<|ar (fun gs D=>∃gs1,gs=[(2,st gs1)]∧D=Cls w [] []∧qfB gs1=some r) ?_ ?_
 ·refine av (k:=11) (stC [] []<|Cls w [] []) O mixed (fun _ hw=>hw.drew) sA<|aA [] zF fun hz3=>(vR [0] O<|vM 1 [] (fun x4=>.int .u64 x4) hz3 O h (cn O O) fun x4 ex4 h=>(vQ 2 [] hz3 O (bX O O)<|vQ 3 [] hz3 O (a7 Tryz.underlying156 Tryz.underlying5 O)<|vR [6] O<|vM 7 [] (fun x5=>.int .u64 x5) hz3 O h (cu O O) fun x5 ex5 h=>(cE (i1:=4) (i2:=8) (by kernel_rfl) O O ?_ ?_)))
  ·exact aI O Tryz.underlying99 eL5 O O fun b6=>ltV (tcc w b6 x4) 4 (aD<|sI []) sA<|aA [] zF fun hz7=>(vQ 5 [] hz7 O (bt (l:=[IntKind.wrap .u8 (IntKind.wrap .u64 (x4+128))]) Tryz.underlying99 Tryz.underlying5 Tryz.underlying9 O<|aG 0 O)<|vE 8 O<|bi1 h fun s8 e9 h=>yL (dK qhw O fun w' hw=>(ih x5 w' _ e9).mono (fun _ _ h=>h.1))<|ltV (tcc w b6 x4) 8 sD sA<|aA [] zF fun hz10=>(vM 9 [] (fun s11=>st s11) hz10 O h (bg O O) fun s11 es11 h=>(vR [10] O<|vD<|ay ⟨s11,O,O,h⟩<|sI [])))
  obtain⟨s12,e13,h⟩:=qq h
  exact yL (dK qhw O fun w' hw=>(ih x5 w' _ e13).mono (fun _ _ h=>h.1))<|ltV (stC [] []<|Cls w [] []) 8 sD sA<|vE 4 O<|aI O Tryz.underlying99 eL5 O O fun b14=>ltV (tcc w b14 x4) 4 (aD<|sI []) sA<|aA [] zF fun hz15=>(vQ 5 [] hz15 O (bt (l:=[IntKind.wrap .u8 (IntKind.wrap .u64 (x4+128))]) Tryz.underlying99 Tryz.underlying5 Tryz.underlying9 O<|aG 0 O)<|vM 9 [] (fun s16=>st s16) hz15 O h (bg O O) fun s16 es16 h=>(vR [10] O<|vD<|ay ⟨s16,O,O,h⟩<|sI []))
 rintro _ _ ⟨gs1,rfl,rfl,h⟩
 rw[qfB]at h
 cases h
 exact bK<|rT d0
theorem qnF{a0 w r}(h:qmE a0=some r):Does Tryz.prog 115 [.int .u64 a0] w fun u m=>u=st r∧m=[]:=qnE big a0 w r h
theorem W74{a0 w r}(h:M74 a0=some r):Does Tryz.prog 74 (tH a0) w fun u m=>u=st r∧m=[]:=by
 rw[M74]at h
 refine body (n:=16) Tryz.func74 O O O (Cls.refl w)<|sr<|L.r 1 O<|cjf<|L.r 1 O<|ltL h (fun c1 h=>?_) fun c1 h=>?_
 ·refine cjb<|L.r 1 O<|mA h fun x2 ex2 h=>(yL (fg O)<|yL (a7 Tryz.underlying3 Tryz.underlying156 O)<|yL (cR O O)<|yL (bX O O)<|bi1 h fun s3 e4 h=>yL (yf qhw O fun w' hw=>qnF e4)<|L.r 1 O<|cjh<|rT fun w1 hw=>?_)
  cases h
  exact⟨_,_,O,⟨O,O⟩,hw⟩
 refine cji<|L.r 1 O<|yL (a7 Tryz.underlying3 Tryz.underlying156 O)<|yL (cR O O)<|bi1 h fun s5 e6 h=>yL (yf qhw O fun w' hw=>qnF e6)<|L.r 1 O<|cjc<|rT fun w1 hw=>?_
 cases h
 exact⟨_,_,O,⟨O,O⟩,hw⟩
theorem qoB{a0 w r}(h:qlA a0=some r):Does Tryz.prog 141 [st a0] w fun u m=>u=.int .u32 r∧m=[]:=by
 rw[qlA]at h
 refine body (n:=40) Tryz.func141 O O O (Cls.refl w)<|sr<|L.r 1 O<|nsr<|L.r 1 O<|yL (aK Tryz.underlying9 O)<|yL (a7 Tryz.underlying3 Tryz.underlying156 O)<|L.r 2 O<|ln<|ar (fun gs D=>∃gx1 gx2,gs=[(3,.int .u64 gx1),(4,.int .u64 gx2)]∧D=Cls w [] []∧qaU gx1 gx2=some r) ?_ ?_
 ·refine sr<|L.r 1 O<|yL (aK Tryz.underlying9 O)<|L.r 1 O<|cjp<|au (fun m gs D=>∃gx3 gx4 gx5,gs=[(0,st a0),(3,.int .u64 gx3),(4,.int .u64 gx4),(10,.int .i64 (a0.length:Int)),(11,.int .i64 gx5)]∧D=Cls w [] []∧vO a0 m gx3 gx4 gx5=some r) ⟨1,IntKind.wrap .u64 (a0.length:Int),0,O,O,h⟩ ⟨O,O,O,O,O,trivial⟩ hI ?_
  rintro m _ _ ⟨gx3,gx4,gx5,rfl,rfl,h⟩
  rcases m with _|m
  ·rw[vO]at h;cases h
  rw[vO]at h
  generalize hg1:vO a0 m=go1 at h
  rw[qb3]at h
  refine sr<|ltL h (fun c3 h=>?_) fun c3 h=>?_
  ·exact cje<|L.r 2 O<|cjm<|ah<|L.r 3 O<|mL (fun x4=>.int .u8 x4) h (bk Tryz.underlying9 O O) fun x4 ex4 h=>(yL (a7 Tryz.underlying5 Tryz.underlying156 O)<|yL (bX O O)<|L.r 1 O<|nr<|L.r 3 O<|mL (fun x5=>.int .u8 x5) h (bk Tryz.underlying9 O O) fun x5 ex5 h=>(yL (a7 Tryz.underlying5 Tryz.underlying156 O)<|L.r 1 O<|yL (aK Tryz.underlying9 O)<|L.r 1 O<|mI h (bj O O) fun x6 ex6 h=>(yL (a7 Tryz.underlying3 Tryz.underlying156 O)<|yL (cR O O)<|yL (bX O O)<|L.r 1 O<|ae<|cjj<|mA h fun x7 ex7 h=>(L.r 1 O<|ae<|bi ⟨IntKind.wrap .u64 (gx3+(IntKind.wrap .u64 x4)),IntKind.wrap .u64 (gx4+(IntKind.wrap .u64 ((IntKind.wrap .u64 x5)*(IntKind.wrap .u64 x6)))),x7,O,O,by rw[hg1];exact h⟩ hI))))
  exact cjm<|cjd<|ay ⟨gx3,gx4,O,O,h⟩ hI
 rintro _ _ ⟨gx1,gx2,rfl,rfl,h⟩
 rw[qaU]at h
 refine sr<|L.r 1 O<|mL (fun x1=>.int .u64 x1) h (cn O O) fun x1 ex1 h=>(yL (cR O O)<|L.r 1 O<|mL (fun x2=>.int .u64 x2) h (cn O O) fun x2 ex2 h=>(yL (bX O O)<|yL (a7 Tryz.underlying156 Tryz.underlying153 O)<|L.r 1 O<|cjc<|rT fun w1 hw=>?_))
 cases h
 exact⟨_,_,O,⟨O,O⟩,hw⟩
theorem qnC{a0 w r}(h:qkg a0=some r):Does Tryz.prog 127 [st a0] w fun u m=>u=.tuple #[st r.1,.int .i64 r.2]∧m=[]:=by
 rw[qkg]at h
 refine body (n:=28) Tryz.func127 O O O (Cls.refl w)<|sr<|L.r 2 O<|cjf<|L.r 1 O<|yL (aK Tryz.underlying9 O)<|gtL h (fun c1 h=>?_) fun c1 h=>?_
 ·cases h
  exact cjb<|L.r 2 O<|cjh<|rT2 d0
 refine cji<|L.r 1 O<|bi1 h fun x2 e3 h=>yL (ye O fun w' hw=>qoB e3)<|L.r 1 O<|nsr<|L.r 2 O<|mL (fun x4=>.int .u32 x4) h (cu O O) fun x4 ex4 h=>(yL (a7 Tryz.underlying153 Tryz.underlying5 O)<|L.r 1 O<|mL (fun x5=>.int .u32 x5) h (cu O O) fun x5 ex5 h=>(mL (fun x6=>.int .u32 x6) h (cn O O) fun x6 ex6 h=>(yL (a7 Tryz.underlying153 Tryz.underlying5 O)<|L.r 1 O<|mL (fun x7=>.int .u32 x7) h (cu O O) fun x7 ex7 h=>(mL (fun x8=>.int .u32 x8) h (cn O O) fun x8 ex8 h=>(yL (a7 Tryz.underlying153 Tryz.underlying5 O)<|L.r 1 O<|mL (fun x9=>.int .u32 x9) h (cn O O) fun x9 ex9 h=>(yL (a7 Tryz.underlying153 Tryz.underlying5 O)<|fq (xs:=[.tmp 13,.tmp 17,.tmp 21,.tmp 24]) O Tryz.underlying99 eL5 O O O O (by simp[Value.cells,st]) fun b10=>yL (bt (l:=[tcD x4,tcD x6,tcD x8,tcD x9]) Tryz.underlying99 Tryz.underlying5 Tryz.underlying9 O<|aG 0 O)<|mL (fun s11=>st s11) h (bg O O) fun s11 es11 h=>(L.r 2 O<|cjc<|rT2 fun w1 hw=>?_)))))))
 cases h
 exact⟨_,_,O,⟨O,O⟩,hw.s []⟩
theorem W90{a0 w r}(h:M90 a0=some r):Does Tryz.prog 90 (tH a0) w fun u m=>u=st r∧m=[]:=by
 rw[M90]at h
 refine body (n:=18) Tryz.func90 O O O (Cls.refl w)<|sr<|L.r 1 O<|nsr<|L.r 1 O<|bi1 h fun s1 e2 h=>yL (yf qgx O fun w' hw=>W74 e2)<|bi2 h fun s3 x4 e5 h=>yL (ye O fun w' hw=>qnC e5)<|L.r 5 O<|nsr<|L.r 1 O<|mL (fun s6=>st s6) h (bg O O) fun s6 es6 h=>(L.r 1 O<|yL (aK Tryz.underlying9 O)<|mI h (bj O O) fun x7 ex7 h=>bi1 h fun s8 e9 h=>yL (yf qml O fun w' hw=>W18 e9)<|mL (fun s10=>st s10) h (bg O O) fun s10 es10 h=>(L.r 1 O<|cjc<|rT fun w1 hw=>?_))
 cases h
 exact⟨_,_,O,⟨O,O⟩,hw⟩
theorem W50{a0 w r}(h:M50 a0=some r):Does Tryz.prog 50 [st a0] w fun u m=>u=.int .i64 r∧m=[]:=by
 rw[M50]at h
 refine body (n:=33) Tryz.func50 O O O (Cls.refl w)<|sr<|L.r 1 O<|cjf<|L.r 1 O<|bi1 h fun s1 e2 h=>yL (yf qml O fun w' hw=>W18 e2)<|iL h (bO O O) (fun c3 h=>?_) fun c3 h=>?_
 ·cases h
  exact cjb<|L.r 1 O<|cjh<|rT d0
 refine cji<|L.r 1 O<|mL (fun s4=>st s4) h (aU Tryz.underlying9 O O) fun s4 es4 h=>bi3 h fun x5 x6 x7 e8 h=>yL (yf qiY O fun w' hw=>W53 e8)<|L.r 7 O<|cjf<|bd 6 (fun gs D=>∃gb1,gs=[(0,st a0),(3,.int .i64 x5),(21,.bool gb1)]∧D=Cls w [] []∧qc9 x5 a0 gb1=some r) ?_ ?_
 ·refine L.r 1 O<|eqL h (fun c13 h=>?_) fun c13 h=>?_
  ·refine L.r 2 O<|tkL<|iL h (bU O O) (fun c14 h=>?_) fun c14 h=>?_
   ·exact L.r 1 O<|ae<|ay ⟨true,O,O,h⟩ hI
   exact L.r 1 O<|ae<|ay ⟨false,O,O,h⟩ hI
  exact L.r 4 O<|ae<|ay ⟨false,O,O,h⟩ hI
 rintro _ _ ⟨gb1,rfl,rfl,h⟩
 rw[qc9]at h
 rcases gb1 with _|_
 ·replace h:=qU h
  cases h
  exact L.r 10 O<|cji<|L.r 1 O<|cjc<|rT d0
 replace h:=qT h
 refine L.r 2 O<|tkL<|iL h (cy O O) (fun c9 h=>?_) fun c9 h=>?_
 ·refine L.r 3 O<|tkL<|bi1 h fun s10 e11 h=>yL (ye O fun w' hw=>W90 e11)<|L.r 1 O<|tkL<|iL h (bO O O) (fun c12 h=>?_) fun c12 h=>?_
  ·cases h
   exact L.r 1 O<|cjb<|L.r 2 O<|cjh<|rT d0
  cases h
  exact L.r 1 O<|cji<|L.r 1 O<|cjc<|rT d0
 cases h
 exact L.r 7 O<|cji<|L.r 1 O<|cjc<|rT d0
theorem W92{a0 a1 a2 w r}(h:M92 a0 a1 a2=some r):Does Tryz.prog 92 (.int .u8 a0::tcH a1 a2) w fun u m=>u=st r∧m=[]:=by
 rw[M92]at h
 refine body (n:=16) Tryz.func92 O O O (Cls.refl w)<|sr<|L.r 1 O<|ln<|ar (fun gs D=>∃gs1,gs=[(6,st gs1)]∧D=Cls w [] []∧qle gs1=some r) ?_ ?_
 ·refine av (k:=10) (stC [] []<|Cls w [] []) O mixed (fun _ hw=>hw.drew) sA<|vR [0,3,6] O<|cE (i1:=1) (i2:=4) (by kernel_rfl) O O ?_ ?_
  ·exact aI O Tryz.underlying99 eL5 O O fun b2=>ltV (tbJ w b2 a0) 1 (aD<|sI []) sA<|aA [] zF fun hz3=>(vQ 2 [] hz3 O (bt (l:=[a0]) Tryz.underlying99 Tryz.underlying5 Tryz.underlying9 O<|aG 0 O)<|vE 4 O<|bi1 h fun s4 e5 h=>yL (yf qgx O fun w' hw=>W74 e5)<|ltV (tbJ w b2 a0) 4 sD sA<|bi1 h fun y6 e7 h=>aA [] zF fun hz8=>(vM 5 [] (fun s9=>st s9) hz8 O h (bg O O) fun s9 es9 h=>(vE 7 O<|yL (yf qgx O fun w' hw=>W74 e7)<|ltV (tbJ w b2 a0) 7 sD sA<|aA [] zF fun hz10=>(vM 8 [] (fun s11=>st s11) hz10 O h (bg O O) fun s11 es11 h=>(vR [9] O<|vD<|ay ⟨s11,O,O,h⟩<|sI [])))))
  obtain⟨s12,e13,h⟩:=qq h
  refine yL (yf qgx O fun w' hw=>W74 e13)<|ltV (stC [] []<|Cls w [] []) 4 sD sA<|cE (i1:=1) (i2:=7) (by kernel_rfl) O O ?_ ?_
  ·exact aI O Tryz.underlying99 eL5 O O fun b14=>ltV (tbJ w b14 a0) 1 (aD<|sI []) sA<|aA [] zF fun hz15=>(vQ 2 [] hz15 O (bt (l:=[a0]) Tryz.underlying99 Tryz.underlying5 Tryz.underlying9 O<|aG 0 O)<|bi1 h fun y16 e17 h=>vM 5 [] (fun s18=>st s18) hz15 O h (bg O O) fun s18 es18 h=>(vE 7 O<|yL (yf qgx O fun w' hw=>W74 e17)<|ltV (tbJ w b14 a0) 7 sD sA<|aA [] zF fun hz19=>(vM 8 [] (fun s20=>st s20) hz19 O h (bg O O) fun s20 es20 h=>(vR [9] O<|vD<|ay ⟨s20,O,O,h⟩<|sI []))))
  obtain⟨s21,e22,h⟩:=qq h
  exact yL (yf qgx O fun w' hw=>W74 e22)<|ltV (stC [] []<|Cls w [] []) 7 sD sA<|vE 1 O<|aI O Tryz.underlying99 eL5 O O fun b23=>ltV (tbJ w b23 a0) 1 (aD<|sI []) sA<|aA [] zF fun hz24=>(vQ 2 [] hz24 O (bt (l:=[a0]) Tryz.underlying99 Tryz.underlying5 Tryz.underlying9 O<|aG 0 O)<|vM 5 [] (fun s25=>st s25) hz24 O h (bg O O) fun s25 es25 h=>(vM 8 [] (fun s26=>st s26) hz24 O h (bg O O) fun s26 es26 h=>(vR [9] O<|vD<|ay ⟨s26,O,O,h⟩<|sI [])))
 rintro _ _ ⟨gs1,rfl,rfl,h⟩
 rw[qle]at h
 cases h
 exact bK<|rT d0
theorem W93{a0 w r}(h:M93 a0=some r):Does Tryz.prog 93 [st a0] w fun u m=>u=.tuple #[st r.1,.int .i64 r.2]∧m=[]:=by
 rw[M93]at h
 refine body (n:=31) Tryz.func93 O O O (Cls.refl w)<|sr<|L.r 2 O<|cjm<|W.block<|sr<|L.r 1 O<|yL (aK Tryz.underlying9 O)<|ltL h (fun c1 h=>?_) fun c1 h=>?_
 ·cases h
  exact L.r 1 O<|cjb<|L.r 2 O<|cjc<|ak<|aM<|rT2 d0
 refine L.r 1 O<|cjn<|L.r 1 O<|yL (aK Tryz.underlying9 O)<|gtL h (fun c2 h=>?_) fun c2 h=>?_
 ·cases h
  exact L.r 1 O<|cjb<|L.r 2 O<|cjc<|ak<|aM<|rT2 d0
 refine L.r 1 O<|cja<|aq<|ab<|aE<|sr<|L.r 2 O<|yL (aK Tryz.underlying9 O)<|mI h (bj O O) fun x3 ex3 h=>(mL (fun s4=>st s4) h (bn Tryz.underlying9 O O) fun s4 es4 h=>bi2 h fun s5 x6 e7 h=>yL (ye O fun w' hw=>qnC e7)<|L.r 5 O<|nsr<|L.r 2 O<|iL h (bN O O) (fun c8 h=>?_) fun c8 h=>?_)
 ·cases h
  exact cjb<|L.r 2 O<|cjh<|rT2 d0
 refine cji<|L.r 2 O<|yL (aK Tryz.underlying9 O)<|mI h (bj O O) fun x9 ex9 h=>(mL (fun s10=>st s10) h (bn Tryz.underlying9 O O) fun s10 es10 h=>(L.r 2 O<|cjc<|rT2 fun w1 hw=>?_))
 cases h
 exact⟨_,_,O,⟨O,O⟩,hw⟩
theorem W51{a0 a1 u0 w r}(h:M51 a0 a1=some r)(hA0:At w u0 1 (a0.map SR)):Does Tryz.prog 51 [u0,.int .i64 a1] w fun u m=>u=.tuple #[.int .i64 r.1,st r.2.1,.int .i64 r.2.2]∧m=[]:=by
 rw[M51]at h
 refine body (n:=133) Tryz.func51 O O O (Cls.refl w)<|sr<|L.r 3 O<|cjf<|L.r 1 O<|yL (aF (g:=SR) (l:=a0) Tryz.underlying48 O fun w' hw=>hA0.cls0 hw)<|eqL h (fun c1 h=>?_) fun c1 h=>?_
 ·cases h
  exact L.r 7 O<|cjb<|L.r 3 O<|cjh<|rT3 d0
 refine L.r 2 O<|tkL<|mL (fun _=>el u0 tcN) h (ap (g:=SR) (l:=a0) Tryz.underlying48 sz9 O O fun w' hw=>hA0.cls0 hw) fun x2 ex2 h=>(tkL<|yL (aB (u:=st x2) ag9 O (fun w' hw=>hA0.cls0 hw)<|ql ex2)<|tkL<|mL (fun x3=>.int .u8 x3) h (bk Tryz.underlying9 O O) fun x3 ex3 h=>(tkL<|neL h (fun c4 h=>?_) fun c4 h=>?_))
 ·cases h
  exact L.r 1 O<|cjb<|L.r 3 O<|cjh<|rT3 d0
 refine L.r 1 O<|cji<|L.r 1 O<|mL (fun _=>el u0 tcN) h (ap (g:=SR) (l:=a0) Tryz.underlying48 sz9 O O fun w' hw=>hA0.cls0 hw) fun x5 ex5 h=>(yL (aB (u:=st x5) ag9 O (fun w' hw=>hA0.cls0 hw)<|ql ex5)<|mL (fun s6=>st s6) h (aU Tryz.underlying9 O O) fun s6 es6 h=>bi3 h fun x7 x8 x9 e10 h=>yL (yf qiY O fun w' hw=>W53 e10)<|L.r 7 O<|nsr<|L.r 1 O<|mL (fun _=>el u0 tcN) h (ap (g:=SR) (l:=a0) Tryz.underlying48 sz9 O O fun w' hw=>hA0.cls0 hw) fun x11 ex11 h=>(yL (aB (u:=st x11) ag9 O (fun w' hw=>hA0.cls0 hw)<|ql ex11)<|L.r 1 O<|mA h fun x12 ex12 h=>(mL (fun s13=>st s13) h (aU Tryz.underlying9 O O) fun s13 es13 h=>bi3 h fun x14 x15 x16 e17 h=>yL (yf qiY O fun w' hw=>W53 e17)<|L.r 7 O<|cjf<|bd 6 (fun gs D=>∃gb1,gs=[(0,u0),(1,.int .i64 a1),(4,.int .i64 x7),(7,.int .i64 x8),(9,.int .i64 x14),(10,.int .i64 x15),(52,.bool gb1)]∧D=Cls w [] []∧qc8 x14 a1 a0 x8 x15 x7 gb1=some r) ?_ ?_)))
 ·refine L.r 1 O<|neL h (fun c50 h=>?_) fun c50 h=>?_
  ·exact L.r 4 O<|ae<|ay ⟨true,O,O,h⟩ hI
  refine L.r 2 O<|tkL<|neL h (fun c51 h=>?_) fun c51 h=>?_
  ·exact L.r 1 O<|ae<|ay ⟨true,O,O,h⟩ hI
  exact L.r 1 O<|ae<|ay ⟨false,O,O,h⟩ hI
 rintro _ _ ⟨gb1,rfl,rfl,h⟩
 rw[qc8]at h
 rcases gb1 with _|_
 ·replace h:=qU h
  refine L.r 3 O<|tkL<|neL h (fun c18 h=>?_) fun c18 h=>?_
  ·cases h
   exact L.r 1 O<|cjb<|L.r 3 O<|cjh<|rT3 d0
  refine L.r 1 O<|cji<|L.r 1 O<|mL (fun _=>el u0 tcN) h (ap (g:=SR) (l:=a0) Tryz.underlying48 sz9 O O fun w' hw=>hA0.cls0 hw) fun x19 ex19 h=>(yL (aB (u:=st x19) ag9 O (fun w' hw=>hA0.cls0 hw)<|ql ex19)<|L.r 1 O<|mA h fun x20 ex20 h=>(L.r 1 O<|mA h fun x21 ex21 h=>(mL (fun s22=>st s22) h (aU Tryz.underlying9 O O) fun s22 es22 h=>(L.r 1 O<|nsr<|L.r 1 O<|bi3 h fun x23 x24 x25 e26 h=>yL (ye O fun w' hw=>W91 e26)<|L.r 7 O<|cjf<|L.r 1 O<|neL h (fun c27 h=>?_) fun c27 h=>?_))))
  ·cases h
   exact L.r 4 O<|cjb<|L.r 3 O<|cjh<|rT3 d0
  refine L.r 2 O<|tkL<|gtL h (fun c28 h=>?_) fun c28 h=>?_
  ·cases h
   exact L.r 1 O<|cjb<|L.r 3 O<|cjh<|rT3 d0
  refine L.r 1 O<|cji<|L.r 1 O<|ln<|ar (fun gs D=>∃gx2 gs3,gs=[(4,.int .i64 x7),(6,.int .i64 gx2),(12,st gs3),(13,.int .u64 x23),(14,.int .i64 x24)]∧D=Cls w [] []∧qhY x24 x23 x7 gx2 gs3=some r) ?_ ?_
  ·refine W.block<|au (fun m gs D=>∃gx4 gs5,gs=[(0,u0),(1,.int .i64 a1),(4,.int .i64 x7),(6,.int .i64 gx4),(12,st gs5),(13,.int .u64 x23),(14,.int .i64 x24)]∧D=Cls w [] []∧qbN x24 x23 x7 a1 a0 m gx4 gs5=some r) ⟨1,s22,O,O,h⟩ ⟨O,O,O,O,O,O,O,trivial⟩ hI ?_
   rintro m _ _ ⟨gx4,gs5,rfl,rfl,h⟩
   rcases m with _|m
   ·rw[qbN]at h;cases h
   rw[qbN]at h
   generalize hg1:qbN x24 x23 x7 a1 a0 m=go1 at h
   rw[qfj]at h
   refine aE<|sr<|L.r 1 O<|yL (aK Tryz.underlying9 O)<|L.r 2 O<|yL (a7 Tryz.underlying156 Tryz.underlying3 O)<|mA h fun x37 ex37 h=>(mA h fun x38 ex38 h=>(ltL h (fun c39 h=>?_) fun c39 h=>?_))
   ·refine cjg<|aN<|ab<|W.block<|sr<|L.r 2 O<|bi1 h fun s40 e41 h=>yL (ye O fun w' hw=>W92 e41)<|L.r 1 O<|cjf<|L.r 2 O<|yL (aF (g:=SR) (l:=a0) Tryz.underlying48 O fun w' hw=>hA0.cls0 hw)<|eqL h (fun c42 h=>?_) fun c42 h=>?_
    ·cases h
     exact L.r 11 O<|cjb<|L.r 3 O<|cjh<|ak<|cH<|ak<|bW<|rT3 d0
    refine L.r 3 O<|tkL<|mL (fun _=>el u0<|tbG gx4) h (ap (g:=SR) (l:=a0) Tryz.underlying48 sz9 O O fun w' hw=>hA0.cls0 hw) fun x43 ex43 h=>(tkL<|yL (aB (u:=st x43) ag9 O (fun w' hw=>hA0.cls0 hw)<|ql ex43)<|L.r 1 O<|tkL<|yL (aK Tryz.underlying9 O)<|tkL<|mL (fun s44=>st s44) h (bn Tryz.underlying9 O O) fun s44 es44 h=>(L.r 1 O<|tkL<|iL h (bN O O) (fun c45 h=>?_) fun c45 h=>?_))
    ·cases h
     exact L.r 1 O<|cjb<|L.r 3 O<|cjh<|ak<|cH<|ak<|bW<|rT3 d0
    exact L.r 1 O<|cji<|L.r 3 O<|mL (fun _=>el u0<|tbG gx4) h (ap (g:=SR) (l:=a0) Tryz.underlying48 sz9 O O fun w' hw=>hA0.cls0 hw) fun x46 ex46 h=>(yL (aB (u:=st x46) ag9 O (fun w' hw=>hA0.cls0 hw)<|ql ex46)<|L.r 1 O<|yL (aK Tryz.underlying9 O)<|mL (fun s47=>st s47) h (aU Tryz.underlying9 O O) fun s47 es47 h=>mL (fun s48=>st s48) h (bg O O) fun s48 es48 h=>(L.r 1 O<|nr<|L.r 1 O<|mA h fun x49 ex49 h=>(L.r 1 O<|ae<|aq<|bi ⟨x49,s48,O,O,by rw[hg1];exact h⟩ hI)))
   exact ln<|cjd<|ay ⟨gx4,gs5,O,O,h⟩ hI
  rintro _ _ ⟨gx2,gs3,rfl,rfl,h⟩
  rw[qhY]at h
  refine sr<|L.r 3 O<|yL (a7 Tryz.underlying156 Tryz.underlying3 O)<|mA h fun x29 ex29 h=>(mA h fun x30 ex30 h=>(mL (fun s31=>st s31) h (bn Tryz.underlying9 O O) fun s31 es31 h=>bi2 h fun s32 x33 e34 h=>yL (ye O fun w' hw=>W93 e34)<|L.r 5 O<|cjf<|L.r 1 O<|neL h (fun c35 h=>?_) fun c35 h=>?_))
  ·cases h
   exact cjb<|L.r 3 O<|cjh<|rT3 d0
  refine cjl<|aZ mixed (by kernel_rfl) (fun _ hw=>hw.drew) fun hC=>(U.r 3 O<|fR (V:=fun s36=>st s36) h O (aU Tryz.underlying9 O O) fun s36 es36 h=>(U.r 4 O<|bo<|ab<|bK<|rT3 fun w1 hw=>?_))
  cases h
  exact⟨_,_,O,⟨O,O⟩,hw⟩
 replace h:=qT h
 cases h
 exact L.r 5 O<|cjb<|L.r 3 O<|cjh<|rT3 d0
end Go.Proofs.YtloiiohoelhldaaGreatDoor
