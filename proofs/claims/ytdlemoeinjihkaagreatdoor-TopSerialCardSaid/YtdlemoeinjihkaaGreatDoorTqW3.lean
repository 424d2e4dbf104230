import Derived.Test.YtdlemoeinjihkaaGreatDoorTqW2
import Derived.Test.YtdlemoeinjihkaaGreatDoorChecked
import Derived.KernelRfl
import Derived.Test.YtdlemoeinjihkaaGreatDoorZf
namespace Go.Proofs.YtdlemoeinjihkaaGreatDoor
open Go.S
set_option linter.unusedVariables false
set_option linter.unusedSimpArgs false
set_option maxRecDepth 100000 in
set_option maxHeartbeats 8000000 in
theorem W22 (a0:Int) (a1:Int) (A69:(List TStore)) (A73:(List Ttx)) (gP69:Nat→Nat) (gP73:Nat→Nat) (gP152:Nat→Nat) (qP69:Nat→List Value) (qP73:Nat→List Value) (w:World) (r:((List Int)×(List Int)×Bool)) (h:M22 a0 a1 A69 A73=some r) (F:List Nat) (hc0:Cls w F (z8 gP69 gP73 gP152 qP69 A69 qP73 A73) w):zu Tryz.prog 22 [VP gP69 a0,VP gP73 a1] F w fun u m=>∃ v0 v1,u=.tuple #[v0,v1,.bool r.2.2]∧m=[tQH gP69 gP73 gP152 qP69 A69,tQC gP73 qP73 A73,.sl v0 70 1 (r.1.map (PR gP73)),.sl v1 70 1 (r.2.1.map (PR gP73))]:=by
 rw [M22] at h
 refine body (n:=105) Tryz.func22 rfl rfl rfl hc0 ?_
 obtain ⟨th1,eth1,h⟩:=qc h
 refine W.to (D:=Cls w F (tQS gP69 a0 gP152 th1 qP69 gP73 A69 qP73 A73)) (fun _ hw=>hw.aO 0 rfl eth1) (sr (L.r 3 rfl (nsr (L.r 2 rfl (ln (W.seqJ (fun gs D=>∃ gv1 gl2 gv3 gl4 gb5 gb6,gs=[(4,gv1),(5,gv3),(7,.bool gb5),(8,.bool gb6)]∧D=Cls w F [tQu gP69 gP73 gP152 qP69 A69 a0,tQC gP73 qP73 A73,tQa gP69 a0 gP152 th1 qP69,tQj th1,tQe qP69 a0 th1,tQn gv1 gl2 gP73,tQn gv3 gl4 gP73,ka qP69 a0 th1 gP73,jh qP69 a0 th1 gP73]∧qjl gl2 gl4 gb5 gb6=some r) ?_ ?_))))))
 ·refine sr (L.r 1 rfl (L.y rfl (Y.apNil rfl eth1) (L.y rfl (Y.fieldP qa6 rfl) ?_)))
  obtain ⟨_,en3,h⟩:=qc h
  obtain ⟨_,en3⟩:=qd en3
  obtain ⟨_,en4,h⟩:=qc h
  obtain ⟨_,en4⟩:=qd en4
  refine L.y rfl (Y.loadG (q:=0) (si:=7) (ps:=27) (j:=0) (X:=[(tQh qP69 a0)]) qj0 rfl rfl rfl rfl (by simp [zl,en3,en4]) rfl) (L.y rfl (Y.lenM (g:=(PR gP73)) (l:=th1.over_) Tryz.underlying67 rfl (fun w hw=>As.at_ (hw.get (i:=2) rfl))) (L.r 1 rfl (ln (W.block (W.nilSl 70 1 (W.nilSl 70 1 (W.loopJ (fun m gs D=>∃ gv7 gl8 gv9 gl10 gb11 gb12 gx13,gs=[(1,VP gP73 a1),(4,gv7),(5,gv9),(7,.bool gb11),(8,.bool gb12),(16,(tQh qP69 a0)),(17,qii th1),(18,qI gx13)]∧D=Cls w F [tQu gP69 gP73 gP152 qP69 A69 a0,tQC gP73 qP73 A73,tQa gP69 a0 gP152 th1 qP69,tQj th1,tQe qP69 a0 th1,tQn gv7 gl8 gP73,tQn gv9 gl10 gP73,jh qP69 a0 th1 gP73,ka qP69 a0 th1 gP73]∧jk th1 A73 a1 m gl8 gl10 gb11 gb12 gx13=some r) ⟨tQm,[],tQm,[],false,false,0,rfl,rfl,h⟩ ⟨rfl,rfl,rfl,rfl,rfl,rfl,rfl,rfl,trivial⟩ (sI [7,8,2,5,6,1,0,4,3]) ?_)))))))
  rintro m _ _ ⟨gv7,gl8,gv9,gl10,gb11,gb12,gx13,rfl,rfl,h⟩
  rcases m with _ | m
  ·rw [jk] at h;cases h
  rw [jk] at h
  generalize hg1:jk th1 A73 a1 m=go1 at h
  rw [qdT] at h
  refine sr (L.ite h rfl (Y.lss rfl rfl) (fun c5 h=>?_) (fun c5 h=>?_))
  ·refine ln (W.seq (W.condT rfl (W.skip (E.thenN (W.seq (W.block (sr (L.m (V:=fun _=>el (tQh qP69 a0) (zG gx13)) h rfl (Y.indexM (g:=(PR gP73)) (l:=th1.over_) Tryz.underlying67 qau rfl rfl (fun w hw=>As.at_ (hw.get (i:=7) rfl))) (fun x6 ex6 h=>(L.y rfl (Y.loadE1 (u:=VP gP73 x6) qfm rfl (fun w hw=>As.at_ (hw.get (i:=7) rfl)) (qf ex6)) (L.r 1 rfl (L.nil ?_))))))))))))
   refine E.thenN (W.seq (W.seq ?_))
   obtain ⟨th7,eth7,h⟩:=qc h
   refine W.to (D:=Cls w F (tQb gP73 x6 th7 qP73::xW qP73 x6 th7::xX qP73 x6 th7::tQz th7::tQL gP73 qP73 A73 x6::tQP gP69 gP73 gP152 qP69 A69 a0 th1 gv7 gl8 gv9 gl10)) (fun _ hw=>hw.aO 1 rfl eth7) ?_
   obtain ⟨th8,eth8,h⟩:=qc h
   obtain ⟨_,c9,h⟩:=qc h
   refine W.to (D:=Cls w F (tQb gP73 a1 th8 qP73::xW qP73 a1 th8::xX qP73 a1 th8::tQz th8::zE gP73 qP73 A73 (qhT a1 x6)::tQb gP73 x6 th7 qP73::xW qP73 x6 th7::xX qP73 x6 th7::tQz th7::tQP gP69 gP73 gP152 qP69 A69 a0 th1 gv7 gl8 gv9 gl10)) (fun _ hw=>hw.arOpen (p:=4) rfl eth8 (qhV (qz c9) eth8 eth7 List.not_mem_nil)) (W.quietC mixed (by kernel_rfl) (fun _ hw=>hw.drew) (fun hC=>(U.r 1 rfl (U.y rfl (Y.apNil rfl eth7) (U.y rfl (Y.fieldP qc1 rfl) (U.y rfl (Y.loadG (q:=5) (si:=2) (ps:=2) (j:=0) (X:=[.int .i64 th7.at_]) ag3 rfl rfl rfl rfl rfl rfl) (U.r 1 rfl (U.y rfl (Y.apNil rfl eth8) (U.y rfl (Y.fieldP qc2 rfl) (U.y rfl (Y.loadG (q:=0) (si:=1) (ps:=1) (j:=0) (X:=[.int .i64 th8.from_]) ag3 rfl rfl rfl rfl rfl rfl) (U.ite h rfl (Y.leq rfl rfl) (fun c10 h=>?_) (fun c10 h=>?_))))))))))))
   ·exact U.nil (E.thenN (W.condT rfl (W.exit (E.thenX (E.blockX (E.thenN (W.region (L.m (V:=fun x11=>.int .i64 x11) h rfl (Y.addM rfl rfl) (fun x11 ex11 h=>(L.r 1 rfl (L.nil (E.to (D:=Cls w F (tQL gP73 qP73 A73 x6::tQb gP73 x6 th7 qP73::xW qP73 x6 th7::xX qP73 x6 th7::tQz th7::tQP gP69 gP73 gP152 qP69 A69 a0 th1 gv7 gl8 gv9 gl10)) (fun _ hw=>hw.arShut (hs':=(qhT a1 x6)) [0,1,2,3,4,5,6,7,8,9,10,11,12,13,14,15,16] eth8 (by decide) rfl (fun _=>List.mem_cons) (qhV (qz c9) eth8 eth7 List.not_mem_nil)) (E.to (D:=Cls w F (tQC gP73 qP73 A73::tQP gP69 gP73 gP152 qP69 A69 a0 th1 gv7 gl8 gv9 gl10)) (fun _ hw=>hw.aS [1,2,3,4,0,5,6,7,8,9,10,11,12] eth7 rfl) (E.aJ ⟨gv7,gl8,gv9,gl10,gb11,gb12,x11,rfl,rfl,by rw [hg1];exact h⟩ (sI [1,0,2,3,4,5,6,7,8])))))))))))))))
   refine U.nil (E.thenN (W.condF rfl (W.skip (E.thenN (W.seqJ (fun gs D=>∃ gb14 gb15,gs=(qnW gP73 a1 gv7 gv9 gb11 gb12 x6 gb14 gb15 qP69 a0 th1 gx13)∧D=Cls w F (tQC gP73 qP73 A73::tQP gP69 gP73 gP152 qP69 A69 a0 th1 gv7 gl8 gv9 gl10)∧qbm A73 a1 x6 gl8 gl10 gb12 gb11 gx13 go1 gb14 gb15=some r) ?_ ?_)))))
   ·refine W.quietC mixed (by kernel_rfl) (fun _ hw=>hw.drew) (fun hC=>(U.r 1 rfl (U.y rfl (Y.apNil rfl eth8) (U.y rfl (Y.fieldP wU rfl) (U.y rfl (Y.loadG (q:=0) (si:=3) (ps:=3) (j:=0) (X:=[(tQi qP73 a1)]) jy rfl rfl rfl rfl rfl rfl) (U.r 1 rfl (U.y rfl (Y.apNil rfl eth7) (U.y rfl (Y.fieldP xw rfl) (U.y rfl (Y.loadG (q:=5) (si:=4) (ps:=4) (j:=0) (X:=[(tQh qP73 x6)]) jy rfl rfl rfl rfl rfl rfl) ?_)))))))))
    obtain ⟨b41,e42,h⟩:=qc h
    refine U.y rfl (Y.does qnw rfl (fun w' hw=>(W43 th8.reads_ th7.writes_ (tQi qP73 a1) (tQh qP73 x6) w' _ e42 (As.at_ (hw.get (i:=1) rfl)) (As.at_ (hw.get (i:=7) rfl))).mono (fun _ _ h=>h.1))) ?_
    rcases b41 with _ | _
    ·replace h:=zn h
     refine U.r 1 rfl (U.y rfl (Y.apNil rfl eth7) (U.y rfl (Y.fieldP wU rfl) (U.y rfl (Y.loadG (q:=5) (si:=3) (ps:=3) (j:=0) (X:=[(tQi qP73 x6)]) jy rfl rfl rfl rfl rfl rfl) (U.r 1 rfl (U.y rfl (Y.apNil rfl eth8) (U.y rfl (Y.fieldP xw rfl) (U.y rfl (Y.loadG (q:=0) (si:=4) (ps:=4) (j:=0) (X:=[(tQh qP73 a1)]) jy rfl rfl rfl rfl rfl rfl) ?_)))))))
     obtain ⟨b43,e44,h⟩:=qc h
     refine U.y rfl (Y.does qnw rfl (fun w' hw=>(W43 th7.reads_ th8.writes_ (tQi qP73 x6) (tQh qP73 a1) w' _ e44 (As.at_ (hw.get (i:=6) rfl)) (As.at_ (hw.get (i:=2) rfl))).mono (fun _ _ h=>h.1))) ?_
     rcases b43 with _ | _
     ·replace h:=zn h
      exact U.r 2 rfl (U.nil (E.to (D:=Cls w F (tQL gP73 qP73 A73 x6::tQb gP73 x6 th7 qP73::xW qP73 x6 th7::xX qP73 x6 th7::tQz th7::tQP gP69 gP73 gP152 qP69 A69 a0 th1 gv7 gl8 gv9 gl10)) (fun _ hw=>hw.arShut (hs':=(qhT a1 x6)) [0,1,2,3,4,5,6,7,8,9,10,11,12,13,14,15,16] eth8 (by decide) rfl (fun _=>List.mem_cons) (qhV (qz c9) eth8 eth7 List.not_mem_nil)) (E.to (D:=Cls w F (tQC gP73 qP73 A73::tQP gP69 gP73 gP152 qP69 A69 a0 th1 gv7 gl8 gv9 gl10)) (fun _ hw=>hw.aS [1,2,3,4,0,5,6,7,8,9,10,11,12] eth7 rfl) (E.jJ ⟨false,false,rfl,rfl,h⟩ hI))))
     replace h:=zm h
     exact U.r 2 rfl (U.nil (E.to (D:=Cls w F (tQL gP73 qP73 A73 x6::tQb gP73 x6 th7 qP73::xW qP73 x6 th7::xX qP73 x6 th7::tQz th7::tQP gP69 gP73 gP152 qP69 A69 a0 th1 gv7 gl8 gv9 gl10)) (fun _ hw=>hw.arShut (hs':=(qhT a1 x6)) [0,1,2,3,4,5,6,7,8,9,10,11,12,13,14,15,16] eth8 (by decide) rfl (fun _=>List.mem_cons) (qhV (qz c9) eth8 eth7 List.not_mem_nil)) (E.to (D:=Cls w F (tQC gP73 qP73 A73::tQP gP69 gP73 gP152 qP69 A69 a0 th1 gv7 gl8 gv9 gl10)) (fun _ hw=>hw.aS [1,2,3,4,0,5,6,7,8,9,10,11,12] eth7 rfl) (E.jJ ⟨false,true,rfl,rfl,h⟩ hI))))
    replace h:=zm h
    refine U.r 1 rfl (U.y rfl (Y.apNil rfl eth7) (U.y rfl (Y.fieldP wU rfl) (U.y rfl (Y.loadG (q:=5) (si:=3) (ps:=3) (j:=0) (X:=[(tQi qP73 x6)]) jy rfl rfl rfl rfl rfl rfl) (U.r 1 rfl (U.y rfl (Y.apNil rfl eth8) (U.y rfl (Y.fieldP xw rfl) (U.y rfl (Y.loadG (q:=0) (si:=4) (ps:=4) (j:=0) (X:=[(tQh qP73 a1)]) jy rfl rfl rfl rfl rfl rfl) ?_)))))))
    obtain ⟨b45,e46,h⟩:=qc h
    refine U.y rfl (Y.does qnw rfl (fun w' hw=>(W43 th7.reads_ th8.writes_ (tQi qP73 x6) (tQh qP73 a1) w' _ e46 (As.at_ (hw.get (i:=6) rfl)) (As.at_ (hw.get (i:=2) rfl))).mono (fun _ _ h=>h.1))) ?_
    rcases b45 with _ | _
    ·replace h:=zn h
     exact U.r 2 rfl (U.nil (E.to (D:=Cls w F (tQL gP73 qP73 A73 x6::tQb gP73 x6 th7 qP73::xW qP73 x6 th7::xX qP73 x6 th7::tQz th7::tQP gP69 gP73 gP152 qP69 A69 a0 th1 gv7 gl8 gv9 gl10)) (fun _ hw=>hw.arShut (hs':=(qhT a1 x6)) [0,1,2,3,4,5,6,7,8,9,10,11,12,13,14,15,16] eth8 (by decide) rfl (fun _=>List.mem_cons) (qhV (qz c9) eth8 eth7 List.not_mem_nil)) (E.to (D:=Cls w F (tQC gP73 qP73 A73::tQP gP69 gP73 gP152 qP69 A69 a0 th1 gv7 gl8 gv9 gl10)) (fun _ hw=>hw.aS [1,2,3,4,0,5,6,7,8,9,10,11,12] eth7 rfl) (E.jJ ⟨true,false,rfl,rfl,h⟩ hI))))
    replace h:=zm h
    exact U.r 2 rfl (U.nil (E.to (D:=Cls w F (tQL gP73 qP73 A73 x6::tQb gP73 x6 th7 qP73::xW qP73 x6 th7::xX qP73 x6 th7::tQz th7::tQP gP69 gP73 gP152 qP69 A69 a0 th1 gv7 gl8 gv9 gl10)) (fun _ hw=>hw.arShut (hs':=(qhT a1 x6)) [0,1,2,3,4,5,6,7,8,9,10,11,12,13,14,15,16] eth8 (by decide) rfl (fun _=>List.mem_cons) (qhV (qz c9) eth8 eth7 List.not_mem_nil)) (E.to (D:=Cls w F (tQC gP73 qP73 A73::tQP gP69 gP73 gP152 qP69 A69 a0 th1 gv7 gl8 gv9 gl10)) (fun _ hw=>hw.aS [1,2,3,4,0,5,6,7,8,9,10,11,12] eth7 rfl) (E.jJ ⟨true,true,rfl,rfl,h⟩ hI))))
   rintro _ _ ⟨gb14,gb15,rfl,rfl,h⟩
   rw [qbm] at h
   refine W.seqJ (fun gs D=>gs=(qnW gP73 a1 gv7 gv9 gb11 gb12 x6 gb14 gb15 qP69 a0 th1 gx13)∧D=Cls w F (tQC gP73 qP73 A73::tQP gP69 gP73 gP152 qP69 A69 a0 th1 gv7 gl8 gv9 gl10)∧qhC gb14 gl8 x6 gb15 gl10 gb12 gb11 gx13 go1=some r) ?_ ?_
   ·refine W.seq ?_
    obtain ⟨th30,eth30,h⟩:=qc h
    refine W.to (D:=Cls w F (tQb gP73 a1 th30 qP73::xW qP73 a1 th30::xX qP73 a1 th30::tQz th30::tQL gP73 qP73 A73 a1::tQP gP69 gP73 gP152 qP69 A69 a0 th1 gv7 gl8 gv9 gl10)) (fun _ hw=>hw.aO 0 rfl eth30) ?_
    obtain ⟨th31,eth31,h⟩:=qc h
    refine W.to (D:=Cls w F (tQb gP73 x6 th31 qP73::xW qP73 x6 th31::xX qP73 x6 th31::tQz th31::zE gP73 qP73 A73 (qhT x6 a1)::tQb gP73 a1 th30 qP73::xW qP73 a1 th30::xX qP73 a1 th30::tQz th30::tQP gP69 gP73 gP152 qP69 A69 a0 th1 gv7 gl8 gv9 gl10)) (fun _ hw=>hw.arOpen (p:=4) rfl eth31 (qhV (qz c9).symm eth31 eth30 List.not_mem_nil)) (W.quietC mixed (by kernel_rfl) (fun _ hw=>hw.drew) (fun hC=>(U.cutJ hC 21 (fun gs=>∃ gb23,gs=[(1,VP gP73 a1),(4,gv7),(5,gv9),(7,.bool gb11),(8,.bool gb12),(10,VP gP73 x6),(11,.bool gb14),(12,.bool gb15),(16,(tQh qP69 a0)),(17,qii th1),(18,qI gx13),(69,.bool gb23)]∧wb gb15 th31 gb14 gl8 x6 gl10 gb12 gb11 gx13 go1 gb23=some r) ?_ ?_)))
    ·refine U.r 1 rfl (U.y rfl (Y.apNil rfl eth30) (U.y rfl (Y.fieldP xw rfl) (U.y rfl (Y.loadG (q:=5) (si:=4) (ps:=4) (j:=0) (X:=[(tQh qP73 a1)]) jy rfl rfl rfl rfl rfl rfl) (U.r 1 rfl (U.y rfl (Y.apNil rfl eth31) (U.y rfl (Y.fieldP xw rfl) (U.y rfl (Y.loadG (q:=0) (si:=4) (ps:=4) (j:=0) (X:=[(tQh qP73 x6)]) jy rfl rfl rfl rfl rfl rfl) ?_)))))))
     obtain ⟨b35,e36,h⟩:=qc h
     refine U.y rfl (Y.does qnw rfl (fun w' hw=>(W43 th30.writes_ th31.writes_ (tQh qP73 a1) (tQh qP73 x6) w' _ e36 (As.at_ (hw.get (i:=7) rfl)) (As.at_ (hw.get (i:=2) rfl))).mono (fun _ _ h=>h.1))) ?_
     rcases b35 with _ | _
     ·replace h:=zn h
      refine U.r 1 rfl (U.take rfl (U.iteB h rfl (Y.move rfl) (fun c37 h=>?_) (fun c37 h=>?_)))
      ·refine U.r 2 rfl (U.take rfl (U.y rfl (Y.apNil rfl eth31) (U.take rfl (U.y rfl (Y.fieldP qgy rfl) (U.take rfl ?_)))))
       obtain ⟨_,en38,h⟩:=qc h
       obtain ⟨_,en38⟩:=qd en38
       refine U.iteB h rfl (Y.loadG (q:=0) (si:=7) (ps:=26) (j:=0) (X:=[.bool th31.out_]) ag4 rfl rfl rfl rfl (by simp [zl,en38]) rfl) (fun c39 h=>?_) (fun c39 h=>?_)
       ·exact U.r 5 rfl (U.nil (E.joinU ⟨true,rfl,h⟩ ⟨rfl,rfl,rfl,rfl,rfl,rfl,rfl,rfl,rfl,rfl,rfl,rfl,trivial⟩))
       refine U.r 1 rfl (U.take rfl (U.iteB h rfl (Y.move rfl) (fun c40 h=>?_) (fun c40 h=>?_)))
       ·exact U.r 3 rfl (U.nil (E.joinU ⟨true,rfl,h⟩ ⟨rfl,rfl,rfl,rfl,rfl,rfl,rfl,rfl,rfl,rfl,rfl,rfl,trivial⟩))
       exact U.r 3 rfl (U.nil (E.joinU ⟨false,rfl,h⟩ ⟨rfl,rfl,rfl,rfl,rfl,rfl,rfl,rfl,rfl,rfl,rfl,rfl,trivial⟩))
      exact U.r 10 rfl (U.nil (E.joinU ⟨false,rfl,h⟩ ⟨rfl,rfl,rfl,rfl,rfl,rfl,rfl,rfl,rfl,rfl,rfl,rfl,trivial⟩))
     replace h:=zm h
     exact U.r 12 rfl (U.nil (E.joinU ⟨true,rfl,h⟩ ⟨rfl,rfl,rfl,rfl,rfl,rfl,rfl,rfl,rfl,rfl,rfl,rfl,trivial⟩))
    rintro _ ⟨gb23,rfl,h⟩
    rw [wb] at h
    rcases gb23 with _ | _
    ·replace h:=zn h
     refine U.cutJ hC 8 (fun gs=>∃ gb24,gs=[(1,VP gP73 a1),(4,gv7),(5,gv9),(7,.bool gb11),(8,.bool gb12),(10,VP gP73 x6),(11,.bool gb14),(12,.bool gb15),(16,(tQh qP69 a0)),(17,qii th1),(18,qI gx13),(70,.bool false),(77,.bool gb24)]∧kN gb14 gl8 x6 gb15 gl10 gb12 gb11 gx13 go1 gb24=some r) ?_ ?_
     ·refine U.r 1 rfl (U.take rfl (U.iteB h rfl (Y.move rfl) (fun c32 h=>?_) (fun c32 h=>?_)))
      ·refine U.r 2 rfl (U.take rfl (U.y rfl (Y.apNil rfl eth31) (U.take rfl (U.y rfl (Y.fieldP qgz rfl) (U.take rfl ?_)))))
       obtain ⟨_,en33,h⟩:=qc h
       obtain ⟨_,en33⟩:=qd en33
       refine U.iteB h rfl (Y.loadG (q:=0) (si:=6) (ps:=25) (j:=0) (X:=[.bool th31.in_]) ag4 rfl rfl rfl rfl (by simp [zl,en33]) rfl) (fun c34 h=>?_) (fun c34 h=>?_)
       ·exact U.r 1 rfl (U.nil (E.joinU ⟨true,rfl,h⟩ ⟨rfl,rfl,rfl,rfl,rfl,rfl,rfl,rfl,rfl,rfl,rfl,rfl,rfl,trivial⟩))
       exact U.r 1 rfl (U.nil (E.joinU ⟨false,rfl,h⟩ ⟨rfl,rfl,rfl,rfl,rfl,rfl,rfl,rfl,rfl,rfl,rfl,rfl,rfl,trivial⟩))
      exact U.r 6 rfl (U.nil (E.joinU ⟨false,rfl,h⟩ ⟨rfl,rfl,rfl,rfl,rfl,rfl,rfl,rfl,rfl,rfl,rfl,rfl,rfl,trivial⟩))
     rintro _ ⟨gb24,rfl,h⟩
     rw [kN] at h
     rcases gb24 with _ | _
     ·replace h:=zn h
      exact U.r 1 rfl (U.nil (E.thenN (W.condF rfl (W.skip (E.to (D:=Cls w F (tQL gP73 qP73 A73 a1::tQb gP73 a1 th30 qP73::xW qP73 a1 th30::xX qP73 a1 th30::tQz th30::tQP gP69 gP73 gP152 qP69 A69 a0 th1 gv7 gl8 gv9 gl10)) (fun _ hw=>hw.arShut (hs':=(qhT x6 a1)) [0,1,2,3,4,5,6,7,8,9,10,11,12,13,14,15,16] eth31 (by decide) rfl (fun _=>List.mem_cons) (qhV (qz c9).symm eth31 eth30 List.not_mem_nil)) (E.to (D:=Cls w F (tQC gP73 qP73 A73::tQP gP69 gP73 gP152 qP69 A69 a0 th1 gv7 gl8 gv9 gl10)) (fun _ hw=>hw.aS [1,2,3,4,0,5,6,7,8,9,10,11,12] eth30 rfl) (E.jJ ⟨rfl,rfl,h⟩ hI)))))))
     replace h:=zm h
     refine U.r 1 rfl (U.nil (E.thenN (W.condT rfl (sr (L.r 3 rfl (ln (W.ret (E.KSR (E.blockR (E.thenR (E.KLR ?_)))))))))))
     refine E.blockR (E.KSR (E.to (D:=Cls w F (tQL gP73 qP73 A73 a1::tQb gP73 a1 th30 qP73::xW qP73 a1 th30::xX qP73 a1 th30::tQz th30::tQP gP69 gP73 gP152 qP69 A69 a0 th1 gv7 gl8 gv9 gl10)) (fun _ hw=>hw.arShut (hs':=(qhT x6 a1)) [0,1,2,3,4,5,6,7,8,9,10,11,12,13,14,15,16] eth31 (by decide) rfl (fun _=>List.mem_cons) (qhV (qz c9).symm eth31 eth30 List.not_mem_nil)) (E.to (D:=Cls w F (tQC gP73 qP73 A73::tQP gP69 gP73 gP152 qP69 A69 a0 th1 gv7 gl8 gv9 gl10)) (fun _ hw=>hw.aS [1,2,3,4,0,5,6,7,8,9,10,11,12] eth30 rfl) (E.to (D:=Cls w F [tQH gP69 gP73 gP152 qP69 A69,tQC gP73 qP73 A73,tQn gv7 gl8 gP73,tQn gv9 gl10 gP73]) (fun _ hw=>hw.aS [2,8,7,3,4,1,0,5,6] eth1 rfl) (E.ret3 rfl rfl rfl rfl (fun w1 hw=>?_))))))
     cases h
     exact ⟨_,_,rfl,⟨_,_,rfl,rfl⟩,((hw.nilSl 70 1).nilSl 70 1).sel [2,3,1,0] (by decide) rfl⟩
    replace h:=zm h
    refine U.r 9 rfl (U.nil (E.thenN (W.condT rfl (sr (L.r 3 rfl (ln (W.ret (E.KSR (E.blockR (E.thenR (E.KLR ?_)))))))))))
    refine E.blockR (E.KSR (E.to (D:=Cls w F (tQL gP73 qP73 A73 a1::tQb gP73 a1 th30 qP73::xW qP73 a1 th30::xX qP73 a1 th30::tQz th30::tQP gP69 gP73 gP152 qP69 A69 a0 th1 gv7 gl8 gv9 gl10)) (fun _ hw=>hw.arShut (hs':=(qhT x6 a1)) [0,1,2,3,4,5,6,7,8,9,10,11,12,13,14,15,16] eth31 (by decide) rfl (fun _=>List.mem_cons) (qhV (qz c9).symm eth31 eth30 List.not_mem_nil)) (E.to (D:=Cls w F (tQC gP73 qP73 A73::tQP gP69 gP73 gP152 qP69 A69 a0 th1 gv7 gl8 gv9 gl10)) (fun _ hw=>hw.aS [1,2,3,4,0,5,6,7,8,9,10,11,12] eth30 rfl) (E.to (D:=Cls w F [tQH gP69 gP73 gP152 qP69 A69,tQC gP73 qP73 A73,tQn gv7 gl8 gP73,tQn gv9 gl10 gP73]) (fun _ hw=>hw.aS [2,8,7,3,4,1,0,5,6] eth1 rfl) (E.ret3 rfl rfl rfl rfl (fun w1 hw=>?_))))))
    cases h
    exact ⟨_,_,rfl,⟨_,_,rfl,rfl⟩,((hw.nilSl 70 1).nilSl 70 1).sel [2,3,1,0] (by decide) rfl⟩
   rintro _ _ ⟨rfl,rfl,h⟩
   rw [qhC] at h
   refine W.seqJ (fun gs D=>∃ gv16 gl17,gs=(qnW gP73 a1 gv16 gv9 gb11 gb12 x6 gb14 gb15 qP69 a0 th1 gx13)∧D=Cls w F (tQC gP73 qP73 A73::tQP gP69 gP73 gP152 qP69 A69 a0 th1 gv16 gl17 gv9 gl10)∧qhB gb15 gl10 x6 gb12 gb11 gx13 go1 gb14 gl17=some r) ?_ ?_
   ·refine sr (L.iteB h rfl (Y.move rfl) (fun c26 h=>?_) (fun c26 h=>?_))
    ·refine ln (W.condT rfl (W.region (L.r 2 rfl (L.litOne rfl Tryz.underlying67 qhW rfl (zL _ _) ?_))))
     intro b27
     refine L.appM (i:=6) (g:=(PR gP73)) (l:=gl8) (more:=[x6]) h rfl Tryz.underlying67 qhW rfl rfl rfl (fun w hw=>As.at_ (hw.get (i:=0) rfl)) (kj _) rfl ?_
     intro v28 l29 el29 h
     exact L.r 1 rfl (L.nil (E.jJ ⟨v28,l29,rfl,rfl,h⟩ (sI [2,3,4,5,6,0,7,8,9])))
    exact ln (W.condF rfl (W.skip (E.jJ ⟨gv7,gl8,rfl,rfl,h⟩ hI)))
   rintro _ _ ⟨gv16,gl17,rfl,rfl,h⟩
   rw [qhB] at h
   refine W.seqJ (fun gs D=>∃ gv18 gl19,gs=[(1,VP gP73 a1),(4,gv16),(5,gv18),(7,.bool gb11),(8,.bool gb12),(11,.bool gb14),(12,.bool gb15),(16,(tQh qP69 a0)),(17,qii th1),(18,qI gx13)]∧D=Cls w F (tQC gP73 qP73 A73::tQP gP69 gP73 gP152 qP69 A69 a0 th1 gv16 gl17 gv18 gl19)∧qe1 gb12 gb11 gx13 go1 gl17 gb15 gb14 gl19=some r) ?_ ?_
   ·refine sr (L.iteB h rfl (Y.move rfl) (fun c22 h=>?_) (fun c22 h=>?_))
    ·refine ln (W.condT rfl (W.region (L.r 2 rfl (L.litOne rfl Tryz.underlying67 qhW rfl (zL _ _) ?_))))
     intro b23
     refine L.appM (i:=7) (g:=(PR gP73)) (l:=gl10) (more:=[x6]) h rfl Tryz.underlying67 qhW rfl rfl rfl (fun w hw=>As.at_ (hw.get (i:=0) rfl)) (kj _) rfl ?_
     intro v24 l25 el25 h
     exact L.r 1 rfl (L.nil (E.jJ ⟨v24,l25,rfl,rfl,h⟩ (sI [2,3,4,5,6,7,0,8,9])))
    exact ln (W.condF rfl (W.skip (E.jJ ⟨gv9,gl10,rfl,rfl,h⟩ hI)))
   rintro _ _ ⟨gv18,gl19,rfl,rfl,h⟩
   rw [qe1] at h
   refine W.region (L.cutJ 4 (fun gs D=>∃ gb20,gs=[(1,VP gP73 a1),(4,gv16),(5,gv18),(7,.bool gb11),(12,.bool gb15),(16,(tQh qP69 a0)),(17,qii th1),(18,qI gx13),(92,.bool gb20)]∧D=Cls w F (tQC gP73 qP73 A73::tQP gP69 gP73 gP152 qP69 A69 a0 th1 gv16 gl17 gv18 gl19)∧qe0 gb11 gx13 go1 gl17 gl19 gb15 gb20=some r) ?_ ?_)
   ·refine L.iteB h rfl (Y.move rfl) (fun c20 h=>?_) (fun c20 h=>?_)
    ·exact L.r 3 rfl (L.nil (E.jJ ⟨true,rfl,rfl,h⟩ hI))
    refine L.r 1 rfl (L.take rfl (L.iteB h rfl (Y.move rfl) (fun c21 h=>?_) (fun c21 h=>?_)))
    ·exact L.r 1 rfl (L.nil (E.jJ ⟨true,rfl,rfl,h⟩ hI))
    exact L.r 1 rfl (L.nil (E.jJ ⟨false,rfl,rfl,h⟩ hI))
   rintro _ _ ⟨gb20,rfl,rfl,h⟩
   rw [qe0] at h
   rcases gb20 with _ | _
   ·replace h:=zn h
    refine L.cutJ 4 (fun gs D=>∃ gb21,gs=[(1,VP gP73 a1),(4,gv16),(5,gv18),(16,(tQh qP69 a0)),(17,qii th1),(18,qI gx13),(92,.bool false),(96,.bool gb21)]∧D=Cls w F (tQC gP73 qP73 A73::tQP gP69 gP73 gP152 qP69 A69 a0 th1 gv16 gl17 gv18 gl19)∧qeZ gx13 go1 gl17 gl19 gb21=some r) ?_ ?_
    ·refine L.iteB h rfl (Y.move rfl) (fun c14 h=>?_) (fun c14 h=>?_)
     ·exact L.r 3 rfl (L.nil (E.jJ ⟨true,rfl,rfl,h⟩ hI))
     refine L.r 1 rfl (L.take rfl (L.iteB h rfl (Y.move rfl) (fun c15 h=>?_) (fun c15 h=>?_)))
     ·exact L.r 1 rfl (L.nil (E.jJ ⟨true,rfl,rfl,h⟩ hI))
     exact L.r 1 rfl (L.nil (E.jJ ⟨false,rfl,rfl,h⟩ hI))
    rintro _ _ ⟨gb21,rfl,rfl,h⟩
    rw [qeZ] at h
    rcases gb21 with _ | _
    ·replace h:=zn h
     exact L.r 2 rfl (L.nil (E.blockN (E.thenN (W.region (L.m (V:=fun x12=>.int .i64 x12) h rfl (Y.addM rfl rfl) (fun x12 ex12 h=>(L.r 1 rfl (L.nil (E.aJ ⟨gv16,gl17,gv18,gl19,false,false,x12,rfl,rfl,by rw [hg1];exact h⟩ (sI [1,0,2,3,4,5,6,7,8]))))))))))
    replace h:=zm h
    exact L.r 2 rfl (L.nil (E.blockN (E.thenN (W.region (L.m (V:=fun x13=>.int .i64 x13) h rfl (Y.addM rfl rfl) (fun x13 ex13 h=>(L.r 1 rfl (L.nil (E.aJ ⟨gv16,gl17,gv18,gl19,true,false,x13,rfl,rfl,by rw [hg1];exact h⟩ (sI [1,0,2,3,4,5,6,7,8]))))))))))
   replace h:=zm h
   refine L.cutJ 4 (fun gs D=>∃ gb22,gs=[(1,VP gP73 a1),(4,gv16),(5,gv18),(16,(tQh qP69 a0)),(17,qii th1),(18,qI gx13),(92,.bool true),(96,.bool gb22)]∧D=Cls w F (tQC gP73 qP73 A73::tQP gP69 gP73 gP152 qP69 A69 a0 th1 gv16 gl17 gv18 gl19)∧qeY gx13 go1 gl17 gl19 gb22=some r) ?_ ?_
   ·refine L.iteB h rfl (Y.move rfl) (fun c18 h=>?_) (fun c18 h=>?_)
    ·exact L.r 3 rfl (L.nil (E.jJ ⟨true,rfl,rfl,h⟩ hI))
    refine L.r 1 rfl (L.take rfl (L.iteB h rfl (Y.move rfl) (fun c19 h=>?_) (fun c19 h=>?_)))
    ·exact L.r 1 rfl (L.nil (E.jJ ⟨true,rfl,rfl,h⟩ hI))
    exact L.r 1 rfl (L.nil (E.jJ ⟨false,rfl,rfl,h⟩ hI))
   rintro _ _ ⟨gb22,rfl,rfl,h⟩
   rw [qeY] at h
   rcases gb22 with _ | _
   ·replace h:=zn h
    exact L.r 2 rfl (L.nil (E.blockN (E.thenN (W.region (L.m (V:=fun x16=>.int .i64 x16) h rfl (Y.addM rfl rfl) (fun x16 ex16 h=>(L.r 1 rfl (L.nil (E.aJ ⟨gv16,gl17,gv18,gl19,false,true,x16,rfl,rfl,by rw [hg1];exact h⟩ (sI [1,0,2,3,4,5,6,7,8]))))))))))
   replace h:=zm h
   exact L.r 2 rfl (L.nil (E.blockN (E.thenN (W.region (L.m (V:=fun x17=>.int .i64 x17) h rfl (Y.addM rfl rfl) (fun x17 ex17 h=>(L.r 1 rfl (L.nil (E.aJ ⟨gv16,gl17,gv18,gl19,true,true,x17,rfl,rfl,by rw [hg1];exact h⟩ (sI [1,0,2,3,4,5,6,7,8]))))))))))
  exact ln (W.seq (W.condF rfl (W.exit (E.thenX (E.KLX (E.blockX (E.jJ ⟨gv7,gl8,gv9,gl10,gb11,gb12,rfl,rfl,h⟩ (sI [0,1,2,3,4,5,6,8,7]))))))))
 rintro _ _ ⟨gv1,gl2,gv3,gl4,gb5,gb6,rfl,rfl,h⟩
 rw [qjl] at h
 refine sr (L.r 2 rfl (L.iteB h rfl (Y.move rfl) (fun c2 h=>?_) (fun c2 h=>?_)))
 ·refine L.r 3 rfl (L.y rfl (Y.not rfl) (L.r 3 rfl (ln (W.ret (E.to (D:=Cls w F [tQH gP69 gP73 gP152 qP69 A69,tQC gP73 qP73 A73,tQn gv1 gl2 gP73,tQn gv3 gl4 gP73]) (fun _ hw=>hw.aS [2,7,8,3,4,0,1,5,6] eth1 rfl) (E.ret3 rfl rfl rfl rfl (fun w1 hw=>?_)))))))
  cases h
  exact ⟨_,_,rfl,⟨_,_,rfl,rfl⟩,hw⟩
 refine L.r 3 rfl (L.y rfl (Y.not rfl) (L.r 3 rfl (ln (W.ret (E.to (D:=Cls w F [tQH gP69 gP73 gP152 qP69 A69,tQC gP73 qP73 A73,tQn gv1 gl2 gP73,tQn gv3 gl4 gP73]) (fun _ hw=>hw.aS [2,7,8,3,4,0,1,5,6] eth1 rfl) (E.ret3 rfl rfl rfl rfl (fun w1 hw=>?_)))))))
 cases h
 exact ⟨_,_,rfl,⟨_,_,rfl,rfl⟩,hw⟩
set_option maxRecDepth 100000 in
set_option maxHeartbeats 8000000 in
theorem W85 (a0:(List TVersion)) (u0:Value) (w:World) (r:(List TVersion)) (h:M85 a0=some r) (hA0:At w u0 2 (qfg a0)):Does Tryz.prog 85 [u0] w fun u m=>∃ v0,u=v0∧m=[.sl v0 84 2 (qfg r)]:=by
 rw [M85] at h
 rcases hA0.shape with ⟨rfl,hn⟩ | ⟨ad,cap,rfl,hl,hm⟩
 ·obtain rfl:a0=[]:=by simpa using hn
  replace h:some ([]:List TVersion)=some r:=by simpa [app] using h
  refine body (n:=8) Tryz.func85 rfl rfl rfl (Cls.refl w) (sr (L.r 1 rfl (ln (W.seq (sr (L.r 1 rfl (L.y rfl (Y.eqlNil Tryz.underlying65 rfl rfl) (ln (W.condT rfl ?_)))))))))
  refine sr (L.r 1 rfl (ln (W.ret (E.thenR (E.ret1 rfl rfl (fun w1 hw=>?_))))))
  cases h
  exact ⟨_,_,rfl,⟨_,rfl,rfl⟩,(hw.nilSl 84 2)⟩
 refine body (n:=8) Tryz.func85 rfl rfl rfl (Cls.refl w) (sr (L.r 1 rfl (ln (W.seq (sr (L.r 1 rfl (L.y rfl (Y.eqlNil Tryz.underlying65 rfl rfl) (ln (W.condF rfl ?_)))))))))
 refine W.skip (E.thenN (sr (L.lit0 rfl Tryz.underlying65 qjV ?_)))
 intro b1
 refine L.r 1 rfl (L.appM (i:=0) (g:=TVersion.row) (l:=[]) (more:=a0) h rfl Tryz.underlying65 qjV rfl rfl rfl (fun w' hw=>hA0.cls0 hw) (z1 _) rfl ?_)
 intro v2 l3 el3 h
 refine L.r 1 rfl (ln (W.ret (E.ret1 rfl rfl (fun w1 hw=>?_))))
 cases h
 exact ⟨_,_,rfl,⟨_,rfl,rfl⟩,hw⟩
set_option maxRecDepth 100000 in
set_option maxHeartbeats 8000000 in
theorem qpP (a0:(List TVersion)) (a1:(List Int)) (a2:Int) (u0:Value) (u1:Value) (w:World) (r:Int) (h:qnf a0 a1 a2=some r) (hA0:At w u0 2 (qfg a0)) (hA1:At w u1 1 (a1.map I)):Does Tryz.prog 122 [u0,u1,.int .i64 a2] w fun u m=>u=.int .i64 r∧m=[]:=by
 rw [qnf] at h
 refine body (n:=55) Tryz.func122 rfl rfl rfl (Cls.refl w) (sr (L.r 1 rfl (ln (W.seq (sr (L.r 1 rfl (L.y rfl (Y.lenM (g:=TVersion.row) (l:=a0) Tryz.underlying65 rfl (fun w' hw=>hA0.cls0 hw)) (L.ite h rfl (Y.gtr rfl rfl) (fun c1 h=>?_) (fun c1 h=>?_)))))))))
 ·refine L.r 5 rfl (ln (W.condT rfl (sr (L.r 1 rfl (ln (W.ret (E.thenR (E.ret1 rfl rfl (fun w1 hw=>?_)))))))))
  cases h
  exact ⟨_,_,rfl,⟨rfl,rfl⟩,hw⟩
 refine L.r 2 rfl (L.take rfl (L.y rfl (Y.lenM (g:=I) (l:=a1) Tryz.underlying52 rfl (fun w' hw=>hA1.cls0 hw)) (L.take rfl (L.ite h rfl (Y.gtr rfl rfl) (fun c2 h=>?_) (fun c2 h=>?_)))))
 ·refine L.r 1 rfl (ln (W.condT rfl (sr (L.r 1 rfl (ln (W.ret (E.thenR (E.ret1 rfl rfl (fun w1 hw=>?_)))))))))
  cases h
  exact ⟨_,_,rfl,⟨rfl,rfl⟩,hw⟩
 refine L.r 1 rfl (ln (W.condF rfl (W.skip (E.thenN (W.seq (sr (L.r 1 rfl (L.ite h rfl (Y.lss rfl rfl) (fun c3 h=>?_) (fun c3 h=>?_)))))))))
 ·refine ln (W.condT rfl (sr (L.r 1 rfl (ln (W.ret (E.thenR (E.ret1 rfl rfl (fun w1 hw=>?_))))))))
  cases h
  exact ⟨_,_,rfl,⟨rfl,rfl⟩,hw⟩
 refine ln (W.condF rfl (W.skip (E.thenN (sr (L.r 1 rfl (ln (W.seqJ (fun gs D=>gs=[(1,u1),(2,.int .i64 a2)]∧D=Cls w [] []∧qeb a1 a2=some r) ?_ ?_)))))))
 ·refine sr (L.r 1 rfl (L.y rfl (Y.lenM (g:=TVersion.row) (l:=a0) Tryz.underlying65 rfl (fun w' hw=>hA0.cls0 hw)) (L.r 1 rfl (ln (W.block (W.loopJ (fun m gs D=>∃ gx2 gx3,gs=[(1,u1),(2,.int .i64 a2),(7,.int .i64 gx2),(22,u0),(23,.int .i64 (a0.length:Int)),(24,.int .i64 gx3)]∧D=Cls w [] []∧jO a0 a2 a1 m gx2 gx3=some r) ⟨0,0,rfl,rfl,h⟩ ⟨rfl,rfl,rfl,rfl,rfl,rfl,trivial⟩ hI ?_))))))
  rintro m _ _ ⟨gx2,gx3,rfl,rfl,h⟩
  rcases m with _ | m
  ·rw [jO] at h;cases h
  rw [jO] at h
  generalize hg2:jO a0 a2 a1 m=go2 at h
  rw [qal] at h
  refine sr (L.ite h rfl (Y.lss rfl rfl) (fun c9 h=>?_) (fun c9 h=>?_))
  ·refine ln (W.seq (W.condT rfl (W.skip (E.thenN (W.seq (W.block (sr (L.m (V:=fun _=>wJ u0 gx3) h rfl (Y.indexM (g:=TVersion.row) (l:=a0) Tryz.underlying65 wL rfl rfl (fun w' hw=>hA0.cls0 hw)) (fun x10 ex10 h=>(L.y rfl (Y.loadEN (r:=(qjD x10)) ql2 wL rfl (fun w' hw=>hA0.cls0 hw) (qf ex10) rfl) (L.alloc rfl qnJ ?_)))))))))))
   intro b11
   refine L.sv (i:=0) (vs:=(qjD x10)) wL rfl rfl rfl rfl rfl nb (ln (W.seq (sr (L.y rfl (Y.fieldP xN rfl) (L.y rfl (Y.loadP (i:=0) ag3 rfl rfl rfl) (L.r 1 rfl (L.ite h rfl (Y.leq rfl rfl) (fun c12 h=>?_) (fun c12 h=>?_))))))))
   ·refine L.r 6 rfl (ln (W.condT rfl (sr (L.r 1 rfl (ln (W.ret (E.thenR (E.blockR (E.thenR (E.KLR ?_))))))))))
    refine E.blockR (E.KSR (E.ret1 rfl rfl (fun w1 hw=>?_)))
    cases h
    exact ⟨_,_,rfl,⟨rfl,rfl⟩,hw.s []⟩
   refine L.r 1 rfl (L.take rfl (L.y rfl (Y.fieldP xN rfl) (L.take rfl (L.y rfl (Y.loadP (i:=0) ag3 rfl rfl rfl) (L.r 1 rfl (L.take rfl (L.ite h rfl (Y.gtr rfl rfl) (fun c13 h=>?_) (fun c13 h=>?_))))))))
   ·refine L.r 1 rfl (ln (W.condT rfl (sr (L.r 1 rfl (ln (W.ret (E.thenR (E.blockR (E.thenR (E.KLR ?_))))))))))
    refine E.blockR (E.KSR (E.ret1 rfl rfl (fun w1 hw=>?_)))
    cases h
    exact ⟨_,_,rfl,⟨rfl,rfl⟩,hw.s []⟩
   refine L.r 1 rfl (ln (W.condF rfl (W.skip (E.thenN (W.region (L.y rfl (Y.fieldP xN rfl) (L.y rfl (Y.loadP (i:=0) ag3 rfl rfl rfl) (L.r 1 rfl (L.nil (E.blockN (E.thenN (W.region ?_))))))))))))
   exact L.m (V:=fun x14=>.int .i64 x14) h rfl (Y.addM rfl rfl) (fun x14 ex14 h=>(L.r 1 rfl (L.nil (E.aJ ⟨x10.At,x14,rfl,rfl,by rw [hg2];exact h⟩ (sI [])))))
  exact ln (W.seq (W.condF rfl (W.exit (E.thenX (E.KLX (E.blockX (E.jJ ⟨rfl,rfl,h⟩ hI)))))))
 rintro _ _ ⟨rfl,rfl,h⟩
 rw [qeb] at h
 refine W.seqJ (fun gs D=>gs=[]∧D=Cls w [] []∧qea=some r) ?_ ?_
 ·refine sr (L.r 1 rfl (L.y rfl (Y.lenM (g:=I) (l:=a1) Tryz.underlying52 rfl (fun w' hw=>hA1.cls0 hw)) (L.r 1 rfl (ln (W.block (W.loopJ (fun m gs D=>∃ gx1,gs=[(2,.int .i64 a2),(41,u1),(42,.int .i64 (a1.length:Int)),(43,.int .i64 gx1)]∧D=Cls w [] []∧jP a1 a2 m gx1=some r) ⟨0,rfl,rfl,h⟩ ⟨rfl,rfl,rfl,rfl,trivial⟩ hI ?_))))))
  rintro m _ _ ⟨gx1,rfl,rfl,h⟩
  rcases m with _ | m
  ·rw [jP] at h;cases h
  rw [jP] at h
  generalize hg1:jP a1 a2 m=go1 at h
  rw [qam] at h
  refine sr (L.ite h rfl (Y.lss rfl rfl) (fun c4 h=>?_) (fun c4 h=>?_))
  ·refine ln (W.seq (W.condT rfl (W.skip (E.thenN (W.seq (W.block (sr (L.m (V:=fun _=>el u1 (zG gx1)) h rfl (Y.indexM (g:=I) (l:=a1) Tryz.underlying52 sz3 rfl rfl (fun w' hw=>hA1.cls0 hw)) (fun x5 ex5 h=>(L.y rfl (Y.loadE1 (u:=.int .i64 x5) ag3 rfl (fun w' hw=>hA1.cls0 hw) (qf ex5)) (L.r 1 rfl (L.nil ?_))))))))))))
   refine E.thenN (sr (L.r 1 rfl (L.ite h rfl (Y.lss rfl rfl) (fun c6 h=>?_) (fun c6 h=>?_))))
   ·refine L.r 5 rfl (ln (W.condT rfl (sr (L.r 1 rfl (ln (W.ret (E.blockR (E.thenR (E.KLR (E.blockR ?_))))))))))
    refine E.KSR (E.ret1 rfl rfl (fun w1 hw=>?_))
    cases h
    exact ⟨_,_,rfl,⟨rfl,rfl⟩,hw⟩
   refine L.r 3 rfl (L.take rfl (L.ite h rfl (Y.gtr rfl rfl) (fun c7 h=>?_) (fun c7 h=>?_)))
   ·refine L.r 1 rfl (ln (W.condT rfl (sr (L.r 1 rfl (ln (W.ret (E.blockR (E.thenR (E.KLR (E.blockR ?_))))))))))
    refine E.KSR (E.ret1 rfl rfl (fun w1 hw=>?_))
    cases h
    exact ⟨_,_,rfl,⟨rfl,rfl⟩,hw⟩
   exact L.r 1 rfl (ln (W.condF rfl (W.skip (E.blockN (E.thenN (W.region (L.m (V:=fun x8=>.int .i64 x8) h rfl (Y.addM rfl rfl) (fun x8 ex8 h=>(L.r 1 rfl (L.nil (E.aJ ⟨x8,rfl,rfl,by rw [hg1];exact h⟩ hI)))))))))))
  exact ln (W.seq (W.condF rfl (W.exit (E.thenX (E.KLX (E.blockX (E.joinJ ⟨rfl,rfl,h⟩ trivial hI)))))))
 rintro _ _ ⟨rfl,rfl,h⟩
 rw [qea] at h
 refine sr (L.r 1 rfl (ln (W.ret (E.ret1 rfl rfl (fun w1 hw=>?_)))))
 cases h
 exact ⟨_,_,rfl,⟨rfl,rfl⟩,hw⟩
set_option maxRecDepth 100000 in
set_option maxHeartbeats 8000000 in
theorem W48 (a0:(List Int)) (u0:Value) (w:World) (r:(List Int)) (h:M48 a0=some r) (hA0:At w u0 1 (a0.map I)):Does Tryz.prog 48 [u0] w fun u m=>∃ v0,u=v0∧m=[tQI v0 r]:=by
 rw [M48] at h
 rcases hA0.shape with ⟨rfl,hn⟩ | ⟨ad,cap,rfl,hl,hm⟩
 ·obtain rfl:a0=[]:=by simpa using hn
  replace h:some ([]:List Int)=some r:=by simpa [app] using h
  refine body (n:=8) Tryz.func48 rfl rfl rfl (Cls.refl w) (sr (L.r 1 rfl (ln (W.seq (sr (L.r 1 rfl (L.y rfl (Y.eqlNil Tryz.underlying52 rfl rfl) (ln (W.condT rfl ?_)))))))))
  refine sr (L.r 1 rfl (ln (W.ret (E.thenR (E.ret1 rfl rfl (fun w1 hw=>?_))))))
  cases h
  exact ⟨_,_,rfl,⟨_,rfl,rfl⟩,(hw.nilSl 3 1)⟩
 refine body (n:=8) Tryz.func48 rfl rfl rfl (Cls.refl w) (sr (L.r 1 rfl (ln (W.seq (sr (L.r 1 rfl (L.y rfl (Y.eqlNil Tryz.underlying52 rfl rfl) (ln (W.condF rfl ?_)))))))))
 refine W.skip (E.thenN (sr (L.lit0 rfl Tryz.underlying52 eL3 ?_)))
 intro b1
 refine L.r 1 rfl (L.appM (i:=0) (g:=I) (l:=[]) (more:=a0) h rfl Tryz.underlying52 eL3 rfl rfl rfl (fun w' hw=>hA0.cls0 hw) (qR _) rfl ?_)
 intro v2 l3 el3 h
 refine L.r 1 rfl (ln (W.ret (E.ret1 rfl rfl (fun w1 hw=>?_))))
 cases h
 exact ⟨_,_,rfl,⟨_,rfl,rfl⟩,hw⟩
set_option maxRecDepth 100000 in
set_option maxHeartbeats 8000000 in
theorem qp7 (a0:TVersion) (a1:Int) (w:World) (r:Int) (h:qpc a0 a1=some r):Does Tryz.prog 161 [.agg #[.int .i64 a0.At,st a0.Text],.int .i64 a1] w fun u m=>u=.int .i64 r∧m=[]:=by
 rw [qpc] at h
 refine body (n:=9) Tryz.func161 rfl rfl rfl (Cls.refl w) (sr (L.box rfl rfl ?_))
 intro b1
 refine L.r 1 rfl (ln (W.seq (sr (L.y rfl (Y.fieldP xN rfl) (L.y rfl (Y.loadP (i:=0) ag3 rfl rfl rfl) (L.r 1 rfl (L.ite h rfl (Y.leq rfl rfl) (fun c2 h=>?_) (fun c2 h=>?_))))))))
 ·refine ln (W.condT rfl (sr (L.r 1 rfl (ln (W.ret (E.thenR (E.ret1 rfl rfl (fun w1 hw=>?_))))))))
  cases h
  exact ⟨_,_,rfl,⟨rfl,rfl⟩,hw.s []⟩
 refine ln (W.condF rfl (W.skip (E.thenN (sr (L.r 1 rfl (ln (W.ret (E.ret1 rfl rfl (fun w1 hw=>?_)))))))))
 cases h
 exact ⟨_,_,rfl,⟨rfl,rfl⟩,hw.s []⟩
set_option maxRecDepth 100000 in
set_option maxHeartbeats 8000000 in
theorem qpO (a0:(List TVersion)) (a1:Int) (u0:Value) (w:World) (r:Int) (h:qnF a0 a1=some r) (hA0:At w u0 2 (qfg a0)):Does Tryz.prog 123 [u0,.int .i64 a1] w fun u m=>u=.int .i64 r∧m=[]:=by
 rw [qnF] at h
 refine body (n:=15) Tryz.func123 rfl rfl rfl (Cls.refl w) (sr (L.r 1 rfl (nsr (L.r 2 rfl (L.callJ (fun v D=>∃ gx1 gb2,v=.tuple #[.int .i64 gx1,.bool gb2]∧D=Cls w [] []∧yj gx1 gb2=some r) rfl (by kernel_rfl) rfl Tryz.func160 rfl rfl rfl ?_ ?_)))))
 ·refine sr (L.r 2 rfl (nsr (L.r 1 rfl (L.y rfl (Y.lenM (g:=TVersion.row) (l:=a0) Tryz.underlying65 rfl (fun w' hw=>hA0.cls0 hw)) (L.r 1 rfl (nsr ?_))))))
  refine L.r 3 rfl (ln (W.seqJ (fun gs D=>∃ gx3,gs=[(0,u0),(1,.int .i64 a1),(2,.func (.func 161) #[] #[]),(8,.int .i64 (a0.length:Int)),(9,.int .i64 gx3)]∧D=Cls w [] []∧qd9 a0 a1 gx3=some r) ?_ ?_))
  ·refine W.block (W.loopJ (fun m gs D=>∃ gx5 gx6,gs=[(0,u0),(1,.int .i64 a1),(2,.func (.func 161) #[] #[]),(8,.int .i64 (a0.length:Int)),(9,.int .i64 gx5),(10,.int .i64 gx6)]∧D=Cls w [] []∧jN a0 a1 m gx5 gx6=some r) ⟨0,(a0.length:Int),rfl,rfl,h⟩ ⟨rfl,rfl,rfl,rfl,rfl,rfl,trivial⟩ hI ?_)
   rintro m _ _ ⟨gx5,gx6,rfl,rfl,h⟩
   rcases m with _ | m
   ·rw [jN] at h;cases h
   rw [jN] at h
   generalize hg1:jN a0 a1 m=go1 at h
   rw [qak] at h
   refine W.seq (sr (L.r 2 rfl (L.ite h rfl (Y.lss rfl rfl) (fun c6 h=>?_) (fun c6 h=>?_))))
   ·refine ln (W.condT rfl (W.skip (E.thenN (W.block (sr (L.r 2 rfl (L.m (V:=fun x7=>.int .i64 x7) h rfl (Y.addM rfl rfl) (fun x7 ex7 h=>(L.y rfl (Y.conv Tryz.underlying3 Tryz.underlying141 rfl) (L.m (V:=fun x8=>.int .u64 x8) h rfl (Y.shrM rfl rfl) (fun x8 ex8 h=>(L.y rfl (Y.conv Tryz.underlying141 Tryz.underlying3 rfl) (L.r 1 rfl ?_)))))))))))))
    refine nsr (L.r 3 rfl (L.m (V:=fun _=>el u0 ((IntKind.wrap .i64 x8).toNat*2)) h rfl (Y.indexM (g:=TVersion.row) (l:=a0) Tryz.underlying65 wL rfl rfl (fun w' hw=>hA0.cls0 hw)) (fun x9 ex9 h=>(L.y rfl (Y.loadEN (r:=(qjD x9)) ql2 wL rfl (fun w' hw=>hA0.cls0 hw) (qf ex9) rfl) (L.r 1 rfl (L.callVJ (fun v D=>∃ gx7,v=.int .i64 gx7∧D=Cls w [] []∧qbq x8 go1 gx6 gx5 gx7=some r) rfl (by kernel_rfl) rfl rfl Tryz.func161 rfl rfl rfl ?_ ?_))))))
    ·refine sr (L.box rfl rfl ?_)
     intro b12
     refine L.r 1 rfl (ln (W.seq (sr (L.y rfl (Y.fieldP xN rfl) (L.y rfl (Y.loadP (i:=0) ag3 rfl rfl rfl) (L.r 1 rfl (L.ite h rfl (Y.leq rfl rfl) (fun c13 h=>?_) (fun c13 h=>?_))))))))
     ·exact ln (W.condT rfl (sr (L.r 1 rfl (ln (W.ret (E.thenR (E.ret1 rfl rfl (fun w1 hw=>(⟨_,_,rfl,⟨(-1),rfl,rfl,h⟩,hw.s []⟩)))))))))
     exact ln (W.condF rfl (W.skip (E.thenN (sr (L.r 1 rfl (ln (W.ret (E.ret1 rfl rfl (fun w1 hw=>(⟨_,_,rfl,⟨1,rfl,rfl,h⟩,hw.s []⟩))))))))))
    rintro _ _ ⟨gx7,rfl,rfl,h⟩
    rw [qbq] at h
    refine L.ite h rfl (Y.lss rfl rfl) (fun c10 h=>?_) (fun c10 h=>?_)
    ·exact ln (W.condT rfl (W.region (L.r 1 rfl (L.m (V:=fun x11=>.int .i64 x11) h rfl (Y.addM rfl rfl) (fun x11 ex11 h=>(L.r 1 rfl (L.nil (E.blockN (E.aJ ⟨x11,gx6,rfl,rfl,by rw [hg1];exact h⟩ hI)))))))))
    exact ln (W.condF rfl (W.region (L.r 2 rfl (L.nil (E.blockN (E.aJ ⟨gx5,IntKind.wrap .i64 x8,rfl,rfl,by rw [hg1];exact h⟩ hI))))))
   exact ln (W.condF rfl (W.exit (E.thenX (E.KLX (E.blockX (E.jJ ⟨gx5,rfl,rfl,h⟩ hI))))))
  rintro _ _ ⟨gx3,rfl,rfl,h⟩
  rw [qd9] at h
  refine sr (L.r 3 rfl (L.ite h rfl (Y.lss rfl rfl) (fun c2 h=>?_) (fun c2 h=>?_)))
  ·refine L.r 4 rfl (L.take rfl (L.m (V:=fun _=>wJ u0 gx3) h rfl (Y.indexM (g:=TVersion.row) (l:=a0) Tryz.underlying65 wL rfl rfl (fun w' hw=>hA0.cls0 hw)) (fun x3 ex3 h=>(L.take rfl (L.y rfl (Y.loadEN (r:=(qjD x3)) ql2 wL rfl (fun w' hw=>hA0.cls0 hw) (qf ex3) rfl) (L.r 1 rfl (L.take rfl (L.callVJ (fun v D=>∃ gx4,v=.int .i64 gx4∧D=Cls w [] []∧yi gx3 gx4=some r) rfl (by kernel_rfl) rfl rfl Tryz.func161 rfl rfl rfl ?_ ?_))))))))
   ·refine sr (L.box rfl rfl ?_)
    intro b4
    refine L.r 1 rfl (ln (W.seq (sr (L.y rfl (Y.fieldP xN rfl) (L.y rfl (Y.loadP (i:=0) ag3 rfl rfl rfl) (L.r 1 rfl (L.ite h rfl (Y.leq rfl rfl) (fun c5 h=>?_) (fun c5 h=>?_))))))))
    ·exact ln (W.condT rfl (sr (L.r 1 rfl (ln (W.ret (E.thenR (E.ret1 rfl rfl (fun w1 hw=>(⟨_,_,rfl,⟨(-1),rfl,rfl,h⟩,hw.s []⟩)))))))))
    exact ln (W.condF rfl (W.skip (E.thenN (sr (L.r 1 rfl (ln (W.ret (E.ret1 rfl rfl (fun w1 hw=>(⟨_,_,rfl,⟨1,rfl,rfl,h⟩,hw.s []⟩))))))))))
   rintro _ _ ⟨gx4,rfl,rfl,h⟩
   rw [yi] at h
   exact L.take rfl (L.y rfl (Y.eql rfl rfl) (L.r 3 rfl (ln (W.ret (E.ret2 rfl rfl rfl (fun w1 hw=>(⟨_,_,rfl,⟨gx3,decide (gx4=0),rfl,rfl,h⟩,hw⟩)))))))
  exact L.r 12 rfl (ln (W.ret (E.ret2 rfl rfl rfl (fun w1 hw=>(⟨_,_,rfl,⟨gx3,false,rfl,rfl,h⟩,hw⟩)))))
 rintro _ _ ⟨gx1,gb2,rfl,rfl,h⟩
 rw [yj] at h
 refine L.r 5 rfl (nsr (L.r 1 rfl (L.m (V:=fun x1=>.int .i64 x1) h rfl (Y.subM rfl rfl) (fun x1 ex1 h=>(L.r 1 rfl (ln (W.ret (E.ret1 rfl rfl (fun w1 hw=>?_)))))))))
 cases h
 exact ⟨_,_,rfl,⟨rfl,rfl⟩,hw⟩
set_option maxRecDepth 100000 in
set_option maxHeartbeats 8000000 in
theorem W86 (a0:(List TVersion)) (a1:(List Int)) (a2:Int) (u0:Value) (u1:Value) (w:World) (r:((List TVersion)×Int)) (h:M86 a0 a1 a2=some r) (hA0:At w u0 2 (qfg a0)) (hA1:At w u1 1 (a1.map I)):Does Tryz.prog 86 [u0,u1,.int .i64 a2] w fun u m=>∃ v0,u=.tuple #[v0,.int .i64 r.2]∧m=[.sl v0 84 2 (r.1.map TVersion.row)]:=by
 rw [M86] at h
 refine body (n:=57) Tryz.func86 rfl rfl rfl (Cls.refl w) (sr (L.r 2 rfl (ln (W.seq (sr (L.r 3 rfl ?_))))))
 obtain ⟨x1,e2,h⟩:=qc h
 refine L.y rfl (Y.does (by kernel_rfl) rfl (fun w' hw=>(qpP a0 a1 a2 u0 u1 w' _ e2 (hA0.cls0 hw) (hA1.cls0 hw)).mono (fun _ _ h=>h.1))) (L.r 1 rfl (nsr (L.r 1 rfl (L.ite h rfl (Y.neq rfl rfl) (fun c3 h=>?_) (fun c3 h=>?_)))))
 ·refine ln (W.condT rfl (sr (L.r 3 rfl (ln (W.ret (E.thenR (E.ret2 rfl rfl rfl (fun w1 hw=>?_))))))))
  cases h
  exact ⟨_,_,rfl,⟨_,rfl,rfl⟩,(hw.nilSl 84 2)⟩
 refine ln (W.condF rfl (W.skip (E.thenN (sr (L.makeMap rfl ?_)))))
 intro b4
 refine L.r 1 rfl (ln (W.seqJ (fun gs D=>∃ gl1,gs=[(0,u0),(9,tQJ b4)]∧D=Cls w [] [.mp b4 (km (VI .i64) gl1)]∧qg9 a0 gl1=some r) ?_ ?_))
 ·refine sr (L.r 1 rfl ?_)
  obtain ⟨l14,e16,h⟩:=qc h
  refine L.does rfl (by kernel_rfl) rfl (fun w' hw=>W48 a1 u1 w' _ e16 (hA1.cls0 hw)) ?_
  rintro v15 _ ⟨_,rfl,rfl⟩
  refine L.r 1 rfl (L.litOne rfl Tryz.underlying52 eL3 rfl rfl ?_)
  intro b17
  refine L.appM (i:=1) (g:=I) (l:=l14) (more:=[a2]) h rfl Tryz.underlying52 eL3 rfl rfl rfl (fun w hw=>As.at_ (hw.get (i:=0) rfl)) (qR _) rfl ?_
  intro v18 l19 el19 h
  refine L.y rfl (Y.lenM (g:=I) (l:=l19) Tryz.underlying52 rfl (fun w hw=>As.at_ (hw.get (i:=0) rfl))) (L.r 1 rfl (ln (W.block (W.loopJ (fun m gs D=>∃ gx7 gl8,gs=[(0,u0),(9,tQJ b4),(27,v18),(28,.int .i64 (l19.length:Int)),(29,.int .i64 gx7)]∧D=Cls w [] [.mp b4 (km (VI .i64) gl8),tQI v18 l19]∧yR l19 a0 m gx7 gl8=some r) ⟨0,[],rfl,rfl,h⟩ ⟨rfl,rfl,rfl,rfl,rfl,trivial⟩ (sI [2,0]) ?_))))
  rintro m _ _ ⟨gx7,gl8,rfl,rfl,h⟩
  rcases m with _ | m
  ·rw [yR] at h;cases h
  rw [yR] at h
  generalize hg2:yR l19 a0 m=go2 at h
  rw [qdg] at h
  refine sr (L.ite h rfl (Y.lss rfl rfl) (fun c20 h=>?_) (fun c20 h=>?_))
  ·refine ln (W.seq (W.condT rfl (W.skip (E.thenN (W.seq (W.block (sr (L.m (V:=fun _=>el v18 (zG gx7)) h rfl (Y.indexM (g:=I) (l:=l19) Tryz.underlying52 sz3 rfl rfl (fun w hw=>As.at_ (hw.get (i:=1) rfl))) (fun x21 ex21 h=>(L.y rfl (Y.loadE1 (u:=.int .i64 x21) ag3 rfl (fun w hw=>As.at_ (hw.get (i:=1) rfl)) (qf ex21)) (L.r 1 rfl (L.nil ?_))))))))))))
   refine E.thenN (W.region (L.r 3 rfl ?_))
   obtain ⟨x22,e23,h⟩:=qc h
   refine L.y rfl (Y.does (by kernel_rfl) rfl (fun w' hw=>(qpO a0 x21 u0 w' _ e23 (hA0.cls0 hw)).mono (fun _ _ h=>h.1))) (L.y rfl (Y.lookupM (i:=0) (g:=(VI .i64)) (lm:=gl8) (z0:=0) Tryz.underlying220 Tryz.underlying3 (by kernel_rfl) rfl rfl rfl rfl) (L.m (V:=fun x24=>.int .i64 x24) h rfl (Y.addM rfl rfl) (fun x24 ex24 h=>(L.mapSet (i:=0) (g:=(VI .i64)) (lm:=gl8) (v0:=x24) Tryz.underlying220 Tryz.underlying3 rfl rfl rfl rfl ?_))))
   obtain ⟨l25,el25,h⟩:=qc h
   obtain rfl:=Option.some.inj el25
   exact L.nil (E.blockN (E.thenN (W.region (L.m (V:=fun x26=>.int .i64 x26) h rfl (Y.addM rfl rfl) (fun x26 ex26 h=>(L.r 1 rfl (L.nil (E.aJ ⟨x26,qaS gl8 x22 x24,rfl,rfl,by rw [hg2];exact h⟩ hI))))))))
  exact ln (W.seq (W.condF rfl (W.exit (E.thenX (E.KLX (E.blockX (E.jJ ⟨gl8,rfl,rfl,h⟩ (sI [0]))))))))
 rintro _ _ ⟨gl1,rfl,rfl,h⟩
 rw [qg9] at h
 refine sr (L.r 1 rfl (ln (W.seqJ (fun gs D=>∃ gv2 gl3,gs=[(12,gv2)]∧D=Cls w [] [.sl gv2 84 2 (qfg gl3)]∧qi4 gl3=some r) ?_ ?_)))
 ·refine sr (L.r 1 rfl (L.y rfl (Y.lenM (g:=TVersion.row) (l:=a0) Tryz.underlying65 rfl (fun w' hw=>hA0.cls0 hw)) (L.r 1 rfl (ln (W.block (W.nilSl 84 2 (W.loopJ (fun m gs D=>∃ gv4 gl5 gx6,gs=[(9,tQJ b4),(12,gv4),(40,u0),(41,.int .i64 (a0.length:Int)),(42,.int .i64 gx6)]∧D=Cls w [] [.mp b4 (km (VI .i64) gl1),.sl gv4 84 2 (qfg gl5)]∧yS a0 gl1 m gl5 gx6=some r) ⟨tQm,[],0,rfl,rfl,h⟩ ⟨rfl,rfl,rfl,rfl,rfl,trivial⟩ (sI [1,0]) ?_)))))))
  rintro m _ _ ⟨gv4,gl5,gx6,rfl,rfl,h⟩
  rcases m with _ | m
  ·rw [yS] at h;cases h
  rw [yS] at h
  generalize hg1:yS a0 gl1 m=go1 at h
  rw [qdh] at h
  refine sr (L.ite h rfl (Y.lss rfl rfl) (fun c5 h=>?_) (fun c5 h=>?_))
  ·refine ln (W.seq (W.condT rfl (W.skip (E.thenN (W.seq (W.block (sr (L.r 1 rfl (L.m (V:=fun _=>wJ u0 gx6) h rfl (Y.indexM (g:=TVersion.row) (l:=a0) Tryz.underlying65 wL rfl rfl (fun w' hw=>hA0.cls0 hw)) (fun x6 ex6 h=>(L.y rfl (Y.loadEN (r:=(qjD x6)) ql2 wL rfl (fun w' hw=>hA0.cls0 hw) (qf ex6) rfl) (L.alloc rfl qnJ ?_))))))))))))
   intro b7
   refine L.r 1 rfl (L.sv (i:=0) (vs:=(qjD x6)) wL rfl rfl rfl rfl rfl nb (nsr (L.r 2 rfl (L.y rfl (Y.lookupM (i:=1) (g:=(VI .i64)) (lm:=gl1) (z0:=0) Tryz.underlying220 Tryz.underlying3 (by kernel_rfl) rfl rfl rfl rfl) (L.ite h rfl (Y.gtr rfl rfl) (fun c8 h=>?_) (fun c8 h=>?_))))))
   ·refine ln (W.condT rfl (W.region (L.r 1 rfl (L.y rfl (Y.loadPW (i:=0) ql2 wL rfl rfl rfl) (L.litAgg rfl Tryz.underlying65 qjV rfl rfl rfl ?_)))))
    intro b9
    refine L.appM (i:=3) (g:=TVersion.row) (l:=gl5) (more:=[x6]) h rfl Tryz.underlying65 qjV rfl rfl rfl (fun w hw=>As.at_ (hw.get (i:=0) rfl)) (z1 _) rfl ?_
    intro v10 l11 el11 h
    exact L.r 1 rfl (L.nil (E.blockN (E.thenN (W.region (L.m (V:=fun x12=>.int .i64 x12) h rfl (Y.addM rfl rfl) (fun x12 ex12 h=>(L.r 1 rfl (L.nil (E.aJ ⟨v10,l11,x12,rfl,rfl,by rw [hg1];exact h⟩ (sI [3,0]))))))))))
   exact ln (W.condF rfl (W.skip (E.blockN (E.thenN (W.region (L.m (V:=fun x13=>.int .i64 x13) h rfl (Y.addM rfl rfl) (fun x13 ex13 h=>(L.r 1 rfl (L.nil (E.aJ ⟨gv4,gl5,x13,rfl,rfl,by rw [hg1];exact h⟩ (sI [1,2])))))))))))
  exact ln (W.seq (W.condF rfl (W.exit (E.thenX (E.KLX (E.blockX (E.jJ ⟨gv4,gl5,rfl,rfl,h⟩ (sI [1]))))))))
 rintro _ _ ⟨gv2,gl3,rfl,rfl,h⟩
 rw [qi4] at h
 refine sr (L.r 3 rfl (ln (W.ret (E.ret2 rfl rfl rfl (fun w1 hw=>?_)))))
 cases h
 exact ⟨_,_,rfl,⟨_,rfl,rfl⟩,hw⟩
set_option maxRecDepth 100000 in
set_option maxHeartbeats 8000000 in
theorem W23 (a0:Int) (a1:Int) (A69:(List TStore)) (A73:(List Ttx)) (gP69:Nat→Nat) (gP73:Nat→Nat) (gP152:Nat→Nat) (qP69:Nat→List Value) (qP73:Nat→List Value) (w:World) (r:(List TStore)) (h:M23 a0 a1 A69 A73=some r) (F:List Nat) (hc0:Cls w F (z8 gP69 gP73 gP152 qP69 A69 qP73 A73) w):zu Tryz.prog 23 [VP gP69 a0,VP gP73 a1] F w fun u m=>∃ Q69,u=.tuple #[]∧m=[zg gP69 gP73 gP152 Q69 r [],tQC gP73 qP73 A73]:=by
 rw [M23] at h
 refine body (n:=79) Tryz.func23 rfl rfl rfl hc0 ?_
 obtain ⟨th1,eth1,h⟩:=qc h
 refine W.to (D:=Cls w F (tQS gP69 a0 gP152 th1 qP69 gP73 A69 qP73 A73)) (fun _ hw=>hw.aO 0 rfl eth1) (sr (L.box rfl rfl ?_))
 intro b2
 rw [show (VP gP73 a1).cells.toList=[VP gP73 a1] from by rw [zL]]
 refine nsr (L.r 2 rfl (L.y rfl (Y.apNil rfl eth1) (L.y rfl (Y.fieldP vM rfl) ?_)))
 obtain ⟨_,en3,h⟩:=qc h
 obtain ⟨_,en3⟩:=qd en3
 obtain ⟨_,en4,h⟩:=qc h
 obtain ⟨_,en4⟩:=qd en4
 refine L.y rfl (Y.loadG (q:=1) (si:=6) (ps:=26) (j:=0) (X:=[(tQi qP69 a0)]) qj0 rfl rfl rfl rfl (by simp [zl,en3,en4]) rfl) (L.y rfl (Y.func rfl) (L.callJ (fun v D=>∃ gv1 gl2,v=gv1∧D=Cls w F [tQu gP69 gP73 gP152 qP69 A69 a0,tQC gP73 qP73 A73,tQa gP69 a0 gP152 th1 qP69,tQj th1,tQe qP69 a0 th1,tQn gv1 gl2 gP73,jh qP69 a0 th1 gP73]∧qcm A73 th1 A69 a0 gl2=some r) rfl (by kernel_rfl) rfl Tryz.func44 rfl rfl rfl ?_ ?_))
 ·refine sr (L.r 1 rfl (nsr (L.r 2 rfl (L.callJ (fun v D=>∃ gx54,v=qI gx54∧D=Cls w F (tQu gP69 gP73 gP152 qP69 A69 a0::tQC gP73 qP73 A73::.obj b2 [VP gP73 a1] 70::tQZ gP69 a0 gP152 th1 qP69 gP73)∧yc A73 th1 A69 a0 a1 gx54=some r) rfl (by kernel_rfl) rfl Tryz.func39 rfl rfl rfl ?_ ?_))))
  ·refine sr (L.r 1 rfl (ln (W.seqJ (fun gs D=>gs=[]∧D=Cls w F (tQu gP69 gP73 gP152 qP69 A69 a0::tQC gP73 qP73 A73::.obj b2 [VP gP73 a1] 70::tQZ gP69 a0 gP152 th1 qP69 gP73)∧qdM A73 th1 A69 a0 a1=some r) ?_ ?_)))
   ·refine sr (L.r 1 rfl (L.y rfl (Y.lenM (g:=(PR gP73)) (l:=th1.active_) Tryz.underlying67 rfl (fun w hw=>As.at_ (hw.get (i:=2) rfl))) (L.r 1 rfl (ln (W.block (W.loopJ (fun m gs D=>∃ gx60,gs=[(0,(tQi qP69 a0)),(1,.func (.func 45) #[] #[pt b2 0]),(7,.int .i64 (th1.active_.length:Int)),(8,qI gx60)]∧D=Cls w F (tQu gP69 gP73 gP152 qP69 A69 a0::tQC gP73 qP73 A73::.obj b2 [VP gP73 a1] 70::tQZ gP69 a0 gP152 th1 qP69 gP73)∧jM th1 A73 a1 A69 a0 m gx60=some r) ⟨0,rfl,rfl,h⟩ ⟨rfl,rfl,rfl,rfl,trivial⟩ (sI [6,7,0,1,4,5,2,3]) ?_))))))
    rintro m _ _ ⟨gx60,rfl,rfl,h⟩
    rcases m with _ | m
    ·rw [jM] at h;cases h
    rw [jM] at h
    generalize hg10:jM th1 A73 a1 A69 a0 m=go10 at h
    rw [qad] at h
    refine sr (L.ite h rfl (Y.lss rfl rfl) (fun c121 h=>?_) (fun c121 h=>?_))
    ·refine ln (W.seq (W.condT rfl (W.skip (E.thenN (W.seq (W.block (sr (L.r 2 rfl (ln (W.seq ?_))))))))))
     refine W.region (L.r 3 rfl (L.m (V:=fun _=>el (tQi qP69 a0) (zG gx60)) h rfl (Y.indexM (g:=(PR gP73)) (l:=th1.active_) Tryz.underlying67 qau rfl rfl (fun w hw=>As.at_ (hw.get (i:=6) rfl))) (fun x122 ex122 h=>(L.y rfl (Y.loadE1 (u:=VP gP73 x122) qfm rfl (fun w hw=>As.at_ (hw.get (i:=6) rfl)) (qf ex122)) (L.callVJ (fun v D=>v=.bool (decide (x122=a1))∧D=Cls w F (tQu gP69 gP73 gP152 qP69 A69 a0::tQC gP73 qP73 A73::.obj b2 [VP gP73 a1] 70::tQZ gP69 a0 gP152 th1 qP69 gP73)∧qdL x122 a1 A73 th1 A69 a0 gx60 go10=some r) rfl (by kernel_rfl) rfl rfl Tryz.func45 rfl rfl rfl ?_ ?_)))))
     ·refine sr (L.r 1 rfl (nsr (L.r 1 rfl (L.y rfl (Y.loadP (i:=2) qfm rfl rfl rfl) ?_))))
      obtain ⟨th124,eth124,h⟩:=qc h
      obtain ⟨th125,eth125,h⟩:=qc h
      exact L.y rfl (Y.eqlAA (p:=1) Tryz.underlying70 qoT  rfl rfl rfl eth124 eth125) (L.r 1 rfl (ln (W.ret (E.ret1 rfl rfl (fun w1 hw=>(⟨_,_,rfl,⟨rfl,rfl,h⟩,hw⟩))))))
     rintro _ _ ⟨rfl,rfl,h⟩
     rw [qdL] at h
     refine ln (W.caseB (q:=16) h rfl (fun h=>?_) (fun h=>?_))
     ·exact W.condT rfl (sr (L.r 2 rfl (ln (W.ret (E.blockR (E.thenR (E.KLR (E.blockR (E.KSR (E.ret1 rfl rfl (fun w1 hw=>(⟨_,_,rfl,⟨gx60,rfl,rfl,h⟩,hw⟩))))))))))))
     exact W.condF rfl (W.skip (E.blockN (E.thenN (W.region (L.m (V:=fun x123=>qI x123) h rfl (Y.addM rfl rfl) (fun x123 ex123 h=>(L.r 1 rfl (L.nil (E.aJ ⟨x123,rfl,rfl,by rw [hg10];exact h⟩ hI)))))))))
    exact ln (W.seq (W.condF rfl (W.exit (E.thenX (E.KLX (E.blockX (E.joinJ ⟨rfl,rfl,h⟩ trivial hI)))))))
   rintro _ _ ⟨rfl,rfl,h⟩
   rw [qdM] at h
   exact sr (L.r 1 rfl (ln (W.ret (E.ret1 rfl rfl (fun w1 hw=>(⟨_,_,rfl,⟨(-1),rfl,rfl,h⟩,hw⟩))))))
  rintro _ _ ⟨gx54,rfl,rfl,h⟩
  rw [yc] at h
  refine L.r 1 rfl (ln (W.seq (sr (L.r 1 rfl (L.ite h rfl (Y.eql rfl rfl) (fun c105 h=>?_) (fun c105 h=>?_))))))
  ·exact ln (W.condT rfl (sr (L.r 2 rfl (ln (W.ret (E.thenR (E.ret1 rfl rfl (fun w1 hw=>(⟨_,_,rfl,⟨(tQi qP69 a0),th1.active_,rfl,rfl,h⟩,hw.s [0,1,3,4,5,6,7]⟩)))))))))
  refine ln (W.condF rfl (W.skip (E.thenN (W.seqJ (fun gs D=>∃ gl55 gx56,gs=[(0,(tQi qP69 a0)),(5,qI gx56)]∧D=Cls w F (tQu gP69 gP73 gP152 qP69 A69 a0::tQC gP73 qP73 A73::wd gP69 a0 gP152 th1 qP69 gl55 gP73)∧qdO A73 th1 A69 a0 gl55 gx56=some r) ?_ ?_))))
  ·refine sr (L.r 1 rfl (L.m (V:=fun x110=>qI x110) h rfl (Y.addM rfl rfl) (fun x110 ex110 h=>(L.r 1 rfl (ln (W.block (W.loopJ (fun m gs D=>∃ gl57 gx58 gx59,gs=[(0,(tQi qP69 a0)),(1,.func (.func 45) #[] #[pt b2 0]),(5,qI gx58),(6,qI gx59)]∧D=Cls w F (tQu gP69 gP73 gP152 qP69 A69 a0::tQC gP73 qP73 A73::.obj b2 [VP gP73 a1] 70::wd gP69 a0 gP152 th1 qP69 gl57 gP73)∧y6 A73 a1 th1 A69 a0 m gl57 gx58 gx59=some r) ⟨th1.active_,gx54,x110,rfl,rfl,h⟩ ⟨rfl,rfl,rfl,rfl,trivial⟩ hI ?_)))))))
   rintro m _ _ ⟨gl57,gx58,gx59,rfl,rfl,h⟩
   rcases m with _ | m
   ·rw [y6] at h;cases h
   rw [y6] at h
   generalize hg9:y6 A73 a1 th1 A69 a0 m=go9 at h
   rw [qdC] at h
   refine W.seq (sr (L.r 2 rfl (L.y rfl (Y.lenM (g:=(PR gP73)) (l:=gl57) Tryz.underlying67 rfl (fun w hw=>As.at_ (hw.get (i:=6) rfl))) (L.ite h rfl (Y.lss rfl rfl) (fun c111 h=>?_) (fun c111 h=>?_)))))
   ·refine ln (W.condT rfl (W.skip (E.thenN (W.seq (W.block (sr (L.r 2 rfl (L.m (V:=fun _=>el (tQi qP69 a0) (zG gx59)) h rfl (Y.indexM (g:=(PR gP73)) (l:=gl57) Tryz.underlying67 qau rfl rfl (fun w hw=>As.at_ (hw.get (i:=6) rfl))) (fun x112 ex112 h=>(L.y rfl (Y.loadE1 (u:=VP gP73 x112) qfm rfl (fun w hw=>As.at_ (hw.get (i:=6) rfl)) (qf ex112)) (L.r 1 rfl (L.nil ?_))))))))))))
    refine E.thenN (sr (L.r 2 rfl (L.callVJ (fun v D=>v=.bool (decide (x112=a1))∧D=Cls w F (tQu gP69 gP73 gP152 qP69 A69 a0::tQC gP73 qP73 A73::.obj b2 [VP gP73 a1] 70::wd gP69 a0 gP152 th1 qP69 gl57 gP73)∧qdN x112 a1 gl57 gx58 gx59 go9=some r) rfl (by kernel_rfl) rfl rfl Tryz.func45 rfl rfl rfl ?_ ?_)))
    ·refine sr (L.r 1 rfl (nsr (L.r 1 rfl (L.y rfl (Y.loadP (i:=2) qfm rfl rfl rfl) ?_))))
     obtain ⟨th119,eth119,h⟩:=qc h
     obtain ⟨th120,eth120,h⟩:=qc h
     exact L.y rfl (Y.eqlAA (p:=1) Tryz.underlying70 qoT  rfl rfl rfl eth119 eth120) (L.r 1 rfl (ln (W.ret (E.ret1 rfl rfl (fun w1 hw=>(⟨_,_,rfl,⟨rfl,rfl,h⟩,hw⟩))))))
    rintro _ _ ⟨rfl,rfl,h⟩
    rw [qdN] at h
    refine L.iteB h rfl (Y.not rfl) (fun c113 h=>?_) (fun c113 h=>?_)
    ·refine ln (W.condT rfl (sr (L.r 3 rfl (L.m (V:=fun _=>el (tQi qP69 a0) (zG gx58)) h rfl (Y.indexM (g:=(PR gP73)) (l:=gl57) Tryz.underlying67 qau rfl rfl (fun w hw=>As.at_ (hw.get (i:=6) rfl))) (fun x114 ex114 h=>(L.storeSlM (q:=6) (row:=(PR gP73)) (vs:=[VP gP73 x112]) (j:=0) (u1:=x112) h qau rfl rfl rfl (by rw [zL]) rfl (qT (qdd _ _) za) rfl ex114 rfl rfl ?_))))))
     intro l115 el115 h
     exact nr (L.r 1 rfl (L.m (V:=fun x116=>qI x116) h rfl (Y.addM rfl rfl) (fun x116 ex116 h=>(L.r 1 rfl (L.nil (E.blockN (E.thenN (W.region (L.r 1 rfl (L.m (V:=fun x117=>qI x117) h rfl (Y.addM rfl rfl) (fun x117 ex117 h=>(L.r 1 rfl (L.nil (E.aJ ⟨l115,x116,x117,rfl,rfl,by rw [hg9];exact h⟩ hI))))))))))))))
    exact ln (W.condF rfl (W.skip (E.blockN (E.thenN (W.region (L.r 1 rfl (L.m (V:=fun x118=>qI x118) h rfl (Y.addM rfl rfl) (fun x118 ex118 h=>(L.r 1 rfl (L.nil (E.aJ ⟨gl57,gx58,x118,rfl,rfl,by rw [hg9];exact h⟩ hI)))))))))))
   exact ln (W.condF rfl (W.exit (E.thenX (E.KLX (E.blockX (E.jJ ⟨gl57,gx58,rfl,rfl,h⟩ (sI [0,1,3,4,5,6,7])))))))
  rintro _ _ ⟨gl55,gx56,rfl,rfl,h⟩
  rw [qdO] at h
  refine sr (L.r 2 rfl (L.m (V:=fun _=>zq (tQi qP69 a0) gx56.toNat 1) h rfl (Y.dropM (g:=(PR gP73)) Tryz.underlying67 qau rfl rfl (fun w hw=>As.at_ (hw.get (i:=5) rfl))) (fun l106 el106 h=>(L.clearM (i:=5) (g:=(PR gP73)) (z0:=(-1)) (a:=gx56) h Tryz.underlying67 qhW qoL (fun u hu=>((kj _):Plain ([(-1)].map (PR gP73))) _ (List.mem_cons_self ..) u hu) rfl rfl ?_))))
  intro l107 el107 h
  refine nsr (L.r 2 rfl ?_)
  obtain ⟨l108,el108,h⟩:=qc h
  exact L.cutM (i:=5) (g:=(PR gP73)) el108 rfl Tryz.underlying67 qau rfl rfl rfl (fun v109=>(L.r 1 rfl (ln (W.ret (E.ret1 rfl rfl (fun w1 hw=>(⟨_,_,rfl,⟨v109,l108,rfl,rfl,h⟩,hw⟩)))))))
 rintro gv1 _ ⟨_,gl2,rfl,rfl,h⟩
 rw [qcm] at h
 refine L.y rfl (Y.apNil rfl eth1) (L.y rfl (Y.fieldP vM rfl) (L.storeGV (q:=2) (si:=6) (ps:=26) (j:=0) (X:=[(tQi qP69 a0)]) qno rfl rfl rfl (fun _ hw=>(As.at_ (hw.get (i:=5) rfl)).one) rfl rfl (by simp [zl,en3,en4]) rfl (nsr (L.r 1 rfl (L.y rfl (Y.apNil rfl eth1) (L.y rfl (Y.fieldP vN rfl) (L.y rfl (Y.loadG (q:=2) (si:=4) (ps:=5) (j:=0) (X:=[qfH th1]) ag3 rfl rfl rfl rfl (by simp [zl,en3]) rfl) (L.alloc rfl ze3 ?_))))))))
 intro b5
 refine L.sv (i:=0) (vs:=[qfH th1]) sz3 rfl rfl rfl rfl rfl nb (nsr (L.r 1 rfl (ln (W.seqJ (fun gs D=>∃ gv3 gl4 gx5,gs=[(0,VP gP69 a0),(4,pt b5 0),(5,gv3)]∧D=Cls w F (tQu gP69 gP73 gP152 qP69 A69 a0::tQC gP73 qP73 A73::tQO b5 gx5::kS gP69 a0 gP152 th1 qP69 gv1 gv3 gl4 gl2 gP73)∧qeX th1 A73 A69 a0 gl2 gl4 gx5=some r) ?_ ?_))))
 ·refine sr (L.r 1 rfl (L.y rfl (Y.apNil rfl eth1) (L.y rfl (Y.fieldP vM rfl) (L.y rfl (Y.loadG (q:=3) (si:=6) (ps:=26) (j:=0) (X:=[gv1]) qj0 rfl rfl rfl rfl (by simp [zl,en3,en4]) rfl) (L.y rfl (Y.lenM (g:=(PR gP73)) (l:=gl2) Tryz.underlying67 rfl (fun w hw=>As.at_ (hw.get (i:=6) rfl))) (L.r 1 rfl (ln (W.block (W.nilSl 3 1 (W.loopJ (fun m gs D=>∃ gv50 gl51 gx52 gx53,gs=[(0,VP gP69 a0),(4,pt b5 0),(5,gv50),(26,gv1),(27,.int .i64 (gl2.length:Int)),(28,qI gx52)]∧D=Cls w F (tQu gP69 gP73 gP152 qP69 A69 a0::tQC gP73 qP73 A73::tQO b5 gx53::kS gP69 a0 gP152 th1 qP69 gv1 gv50 gl51 gl2 gP73)∧y7 gl2 A73 th1 A69 a0 m gl51 gx52 gx53=some r) ⟨tQm,[],0,th1.now_,rfl,rfl,h⟩ ⟨rfl,rfl,rfl,rfl,rfl,rfl,trivial⟩ (sI [2,3,1,4,5,6,0,7,8]) ?_))))))))))
  rintro m _ _ ⟨gv50,gl51,gx52,gx53,rfl,rfl,h⟩
  rcases m with _ | m
  ·rw [y7] at h;cases h
  rw [y7] at h
  generalize hg8:y7 gl2 A73 th1 A69 a0 m=go8 at h
  rw [qdD] at h
  refine sr (L.ite h rfl (Y.lss rfl rfl) (fun c94 h=>?_) (fun c94 h=>?_))
  ·refine ln (W.seq (W.condT rfl (W.skip (E.thenN (W.seq (W.block (sr (L.m (V:=fun _=>el gv1 (zG gx52)) h rfl (Y.indexM (g:=(PR gP73)) (l:=gl2) Tryz.underlying67 qau rfl rfl (fun w hw=>As.at_ (hw.get (i:=7) rfl))) (fun x95 ex95 h=>(L.y rfl (Y.loadE1 (u:=VP gP73 x95) qfm rfl (fun w hw=>As.at_ (hw.get (i:=7) rfl)) (qf ex95)) (L.r 1 rfl (L.nil ?_))))))))))))
   refine E.thenN (W.seq ?_)
   obtain ⟨th96,eth96,h⟩:=qc h
   refine W.to (D:=Cls w F (tQb gP73 x95 th96 qP73::xW qP73 x95 th96::xX qP73 x95 th96::tQz th96::tQL gP73 qP73 A73 x95::tQu gP69 gP73 gP152 qP69 A69 a0::tQO b5 gx53::kS gP69 a0 gP152 th1 qP69 gv1 gv50 gl51 gl2 gP73)) (fun _ hw=>hw.aO 1 rfl eth96) (W.drawn2 (k:=7) (stC [[6]] [Cls w F (tQb gP73 x95 th96 qP73::xW qP73 x95 th96::xX qP73 x95 th96::tQz th96::tQL gP73 qP73 A73 x95::tQu gP69 gP73 gP152 qP69 A69 a0::tQO b5 gx53::kS gP69 a0 gP152 th1 qP69 gv1 gv50 gl51 gl2 gP73)] (Cls w F (tQb gP73 x95 th96 qP73::xW qP73 x95 th96::xX qP73 x95 th96::tQz th96::tQL gP73 qP73 A73 x95::tQu gP69 gP73 gP152 qP69 A69 a0::kS gP69 a0 gP152 th1 qP69 gv1 gv50 gl51 gl2 gP73))) rfl mixed (fun _ hw=>hw.drew) (Sc.now (by kernel_rfl) hI) (V2.zz [6] (Zc.at1 hI) (fun hz99=>(V2.q 0 [6] hz99 rfl rfl (Y.loadP (i:=6) ag3 rfl rfl rfl) (V2.zz [] (Zc.on' (Zc.fin hI) (sI [0,1,2,3,4,5,7,8,9,10,11,12])) (fun hz100=>(V2.r [1] (by kernel_rfl) rfl (V2.apNil (i:=2) (Nx2.of [] (by kernel_rfl) rfl hz100) rfl rfl rfl eth96 (V2.q 3 [] hz100 rfl rfl (Y.fieldP qc2 rfl) (V2.q 4 [] hz100 rfl rfl (Y.loadG (q:=0) (si:=1) (ps:=1) (j:=0) (X:=[.int .i64 th96.from_]) ag3 rfl rfl rfl rfl rfl rfl) (V2.q 5 [] hz100 rfl rfl (Y.min2 rfl rfl) (V2.eff (i:=6) (by kernel_rfl) rfl (L.sv (i:=6) (vs:=[.int .i64 (min gx53 th96.from_)]) sz3 rfl rfl rfl rfl rfl nb (L.nil (E.toV2 (stC [] [] (Cls w F (tQb gP73 x95 th96 qP73::xW qP73 x95 th96::xX qP73 x95 th96::tQz th96::tQL gP73 qP73 A73 x95::tQu gP69 gP73 gP152 qP69 A69 a0::kS gP69 a0 gP152 th1 qP69 gv1 gv50 gl51 gl2 gP73))) 6 (by kernel_rfl) (Sc.past rfl (Sc.stayD hI)) (Sc.atD (sI [0,1,2,3,4,5,7,8,9,10,11,12])) ?_)))))))))))))))
   refine V2.done (by kernel_rfl) (E.thenN (W.region (L.r 2 rfl (L.y rfl (Y.apNil rfl eth96) (L.y rfl (Y.fieldP qc2 rfl) (L.y rfl (Y.loadG (q:=0) (si:=1) (ps:=1) (j:=0) (X:=[.int .i64 th96.from_]) ag3 rfl rfl rfl rfl rfl rfl) (L.litOne rfl Tryz.underlying52 eL3 rfl rfl ?_)))))))
   intro b101
   refine L.appM (i:=11) (g:=I) (l:=gl51) (more:=[th96.from_]) h rfl Tryz.underlying52 eL3 rfl rfl rfl (fun w hw=>As.at_ (hw.get (i:=0) rfl)) (qR _) rfl ?_
   intro v102 l103 el103 h
   exact L.r 1 rfl (L.nil (E.blockN (E.thenN (W.region (L.m (V:=fun x104=>qI x104) h rfl (Y.addM rfl rfl) (fun x104 ex104 h=>(L.r 1 rfl (L.nil (E.to (D:=Cls w F [tQC gP73 qP73 A73,tQI v102 l103,.sl (sv b101 1) 3 1 (([th96.from_]).map I),tQu gP69 gP73 gP152 qP69 A69 a0,.obj b5 [.int .i64 (min gx53 th96.from_)] 3,tQg gP69 a0 gP152 th1 qP69 gv1,tQj th1,tQe qP69 a0 th1,tQn gv1 gl2 gP73,jh qP69 a0 th1 gP73]) (fun _ hw=>hw.aS [2,3,4,5,6,0,1,7,8,9,10,11,12,13] eth96 rfl) (E.aJ ⟨v102,l103,x104,(min gx53 th96.from_),rfl,rfl,by rw [hg8];exact h⟩ (sI [3,0,4,5,6,7,1,8,9])))))))))))
  exact ln (W.seq (W.condF rfl (W.exit (E.thenX (E.KLX (E.blockX (E.jJ ⟨gv50,gl51,gx53,rfl,rfl,h⟩ hI)))))))
 rintro _ _ ⟨gv3,gl4,gx5,rfl,rfl,h⟩
 rw [qeX] at h
 refine sr (L.r 2 rfl (L.y rfl (Y.apNil rfl eth1) (L.y rfl (Y.fieldP qa6 rfl) (L.y rfl (Y.loadG (q:=3) (si:=7) (ps:=27) (j:=0) (X:=[(tQh qP69 a0)]) qj0 rfl rfl rfl rfl (by simp [zl,en3,en4]) rfl) (L.y rfl (Y.func rfl) (L.callJ (fun v D=>∃ gv6 gl7,v=gv6∧D=Cls w F [tQu gP69 gP73 gP152 qP69 A69 a0,tQC gP73 qP73 A73,tQg gP69 a0 gP152 th1 qP69 gv1,tQj th1,tQe qP69 a0 th1,tQI gv3 gl4,tQn gv6 gl7 gP73,tQn gv1 gl2 gP73]∧qcl th1 A69 a0 gl2 gl4 gl7=some r) rfl (by kernel_rfl) rfl Tryz.func44 rfl rfl rfl ?_ ?_))))))
 ·refine sr (L.r 1 rfl (nsr (L.r 2 rfl (L.callJ (fun v D=>∃ gx41,v=qI gx41∧D=Cls w F (tQu gP69 gP73 gP152 qP69 A69 a0::tQC gP73 qP73 A73::tQO b5 gx5::kZ gP69 a0 gP152 th1 qP69 gv1 gP73 gl2 gv3 gl4)∧qeW th1 A69 a0 gl2 gl4 A73 gx5 gx41=some r) rfl (by kernel_rfl) rfl Tryz.func39 rfl rfl rfl ?_ ?_))))
  ·refine sr (L.r 1 rfl (ln (W.seqJ (fun gs D=>gs=[]∧D=Cls w F [tQu gP69 gP73 gP152 qP69 A69 a0,tQC gP73 qP73 A73,tQO b5 gx5,tQg gP69 a0 gP152 th1 qP69 gv1,tQj th1,tQe qP69 a0 th1,tQn gv1 gl2 gP73,jh qP69 a0 th1 gP73,tQI gv3 gl4]∧qdQ th1 A69 a0 gl2 gl4 A73 gx5=some r) ?_ ?_)))
   ·refine sr (L.r 1 rfl (L.y rfl (Y.lenM (g:=(PR gP73)) (l:=th1.over_) Tryz.underlying67 rfl (fun w hw=>As.at_ (hw.get (i:=8) rfl))) (L.r 1 rfl (ln (W.block (W.loopJ (fun m gs D=>∃ gx48,gs=[(0,(tQh qP69 a0)),(1,.func (.func 46) #[] #[pt b5 0]),(7,qii th1),(8,qI gx48)]∧D=Cls w F (tQu gP69 gP73 gP152 qP69 A69 a0::tQC gP73 qP73 A73::tQO b5 gx5::kZ gP69 a0 gP152 th1 qP69 gv1 gP73 gl2 gv3 gl4)∧y8 th1 A73 A69 a0 gl2 gl4 gx5 m gx48=some r) ⟨0,rfl,rfl,h⟩ ⟨rfl,rfl,rfl,rfl,trivial⟩ (sI [0,1,2,3,4,5,8,7,6]) ?_))))))
    rintro m _ _ ⟨gx48,rfl,rfl,h⟩
    rcases m with _ | m
    ·rw [y8] at h;cases h
    rw [y8] at h
    generalize hg7:y8 th1 A73 A69 a0 gl2 gl4 gx5 m=go7 at h
    rw [qdE] at h
    refine sr (L.ite h rfl (Y.lss rfl rfl) (fun c90 h=>?_) (fun c90 h=>?_))
    ·refine ln (W.seq (W.condT rfl (W.skip (E.thenN (W.seq (W.block (sr (L.r 2 rfl (ln (W.seq ?_))))))))))
     refine W.region (L.r 3 rfl (L.m (V:=fun _=>el (tQh qP69 a0) (zG gx48)) h rfl (Y.indexM (g:=(PR gP73)) (l:=th1.over_) Tryz.underlying67 qau rfl rfl (fun w hw=>As.at_ (hw.get (i:=6) rfl))) (fun x91 ex91 h=>(L.y rfl (Y.loadE1 (u:=VP gP73 x91) qfm rfl (fun w hw=>As.at_ (hw.get (i:=6) rfl)) (qf ex91)) (L.callVJ (fun v D=>∃ gb49,v=.bool gb49∧D=Cls w F (tQu gP69 gP73 gP152 qP69 A69 a0::tQC gP73 qP73 A73::tQO b5 gx5::kZ gP69 a0 gP152 th1 qP69 gv1 gP73 gl2 gv3 gl4)∧qdP th1 A69 a0 gl2 gl4 A73 gx5 gx48 go7 gb49=some r) rfl (by kernel_rfl) rfl rfl Tryz.func46 rfl rfl rfl ?_ ?_)))))
     ·refine sr (L.r 1 rfl (ln (W.seq ?_)))
      obtain ⟨th93,eth93,h⟩:=qc h
      refine W.to (D:=Cls w F (tQb gP73 x91 th93 qP73::xW qP73 x91 th93::xX qP73 x91 th93::tQz th93::tQL gP73 qP73 A73 x91::tQu gP69 gP73 gP152 qP69 A69 a0::tQO b5 gx5::kZ gP69 a0 gP152 th1 qP69 gv1 gP73 gl2 gv3 gl4)) (fun _ hw=>hw.aO 1 rfl eth93) (W.quietC mixed (by kernel_rfl) (fun _ hw=>hw.drew) (fun hC=>(U.r 1 rfl (U.y rfl (Y.apNil rfl eth93) (U.y rfl (Y.fieldP qc1 rfl) (U.y rfl (Y.loadG (q:=0) (si:=2) (ps:=2) (j:=0) (X:=[.int .i64 th93.at_]) ag3 rfl rfl rfl rfl rfl rfl) (U.y rfl (Y.loadP (i:=6) ag3 rfl rfl rfl) (U.y rfl (Y.leq rfl rfl) (U.r 1 rfl (U.nil (E.thenN (W.ret (E.to (D:=Cls w F (tQC gP73 qP73 A73::tQu gP69 gP73 gP152 qP69 A69 a0::tQO b5 gx5::kZ gP69 a0 gP152 th1 qP69 gv1 gP73 gl2 gv3 gl4)) (fun _ hw=>hw.aS [0,1,2,3,4,5,6,7,8,9,10,11,12] eth93 rfl) (E.ret1 rfl rfl (fun w1 hw=>?_)))))))))))))))
      exact ⟨_,_,rfl,⟨decide (th93.at_≤gx5),rfl,rfl,h⟩,hw.s [1,0,2,3,4,5,6,7,8]⟩
     rintro _ _ ⟨gb49,rfl,rfl,h⟩
     rw [qdP] at h
     rcases gb49 with _ | _
     ·replace h:=zn h
      exact ln (W.condF rfl (W.skip (E.blockN (E.thenN (W.region (L.m (V:=fun x92=>.int .i64 x92) h rfl (Y.addM rfl rfl) (fun x92 ex92 h=>(L.r 1 rfl (L.nil (E.aJ ⟨x92,rfl,rfl,by rw [hg7];exact h⟩ hI))))))))))
     replace h:=zm h
     refine ln (W.condT rfl (sr (L.r 2 rfl (ln (W.ret (E.blockR (E.thenR (E.KLR (E.blockR (E.KSR ?_))))))))))
     exact E.ret1 rfl rfl (fun w1 hw=>(⟨_,_,rfl,⟨gx48,rfl,rfl,h⟩,hw⟩))
    exact ln (W.seq (W.condF rfl (W.exit (E.thenX (E.KLX (E.blockX (E.joinJ ⟨rfl,rfl,h⟩ trivial (sI [0,1,2,3,4,5,7,6,8]))))))))
   rintro _ _ ⟨rfl,rfl,h⟩
   rw [qdQ] at h
   exact sr (L.r 1 rfl (ln (W.ret (E.ret1 rfl rfl (fun w1 hw=>(⟨_,_,rfl,⟨(-1),rfl,rfl,h⟩,hw.s [0,1,2,3,4,5,7,6,8]⟩))))))
  rintro _ _ ⟨gx41,rfl,rfl,h⟩
  rw [qeW] at h
  refine L.r 1 rfl (ln (W.seq (sr (L.r 1 rfl (L.ite h rfl (Y.eql rfl rfl) (fun c76 h=>?_) (fun c76 h=>?_))))))
  ·exact ln (W.condT rfl (sr (L.r 2 rfl (ln (W.ret (E.thenR (E.ret1 rfl rfl (fun w1 hw=>(⟨_,_,rfl,⟨(tQh qP69 a0),th1.over_,rfl,rfl,h⟩,hw.s [0,1,3,4,5,8,6,7]⟩)))))))))
  refine ln (W.condF rfl (W.skip (E.thenN (W.seqJ (fun gs D=>∃ gl42 gx43,gs=[(0,(tQh qP69 a0)),(5,qI gx43)]∧D=Cls w F (tQu gP69 gP73 gP152 qP69 A69 a0::tQC gP73 qP73 A73::vx gP69 a0 gP152 th1 qP69 gv1 gl42 gP73 gl2 gv3 gl4)∧qdS th1 A69 a0 gl2 gl4 gl42 gx43=some r) ?_ ?_))))
  ·refine sr (L.r 1 rfl (L.m (V:=fun x81=>.int .i64 x81) h rfl (Y.addM rfl rfl) (fun x81 ex81 h=>(L.r 1 rfl (ln (W.block (W.loopJ (fun m gs D=>∃ gl44 gx45 gx46,gs=[(0,(tQh qP69 a0)),(1,.func (.func 46) #[] #[pt b5 0]),(5,qI gx45),(6,qI gx46)]∧D=Cls w F (tQu gP69 gP73 gP152 qP69 A69 a0::tQC gP73 qP73 A73::tQO b5 gx5::vx gP69 a0 gP152 th1 qP69 gv1 gl44 gP73 gl2 gv3 gl4)∧y9 A73 gx5 th1 A69 a0 gl2 gl4 m gl44 gx45 gx46=some r) ⟨th1.over_,gx41,x81,rfl,rfl,h⟩ ⟨rfl,rfl,rfl,rfl,trivial⟩ hI ?_)))))))
   rintro m _ _ ⟨gl44,gx45,gx46,rfl,rfl,h⟩
   rcases m with _ | m
   ·rw [y9] at h;cases h
   rw [y9] at h
   generalize hg6:y9 A73 gx5 th1 A69 a0 gl2 gl4 m=go6 at h
   rw [qdF] at h
   refine W.seq (sr (L.r 2 rfl (L.y rfl (Y.lenM (g:=(PR gP73)) (l:=gl44) Tryz.underlying67 rfl (fun w hw=>As.at_ (hw.get (i:=6) rfl))) (L.ite h rfl (Y.lss rfl rfl) (fun c82 h=>?_) (fun c82 h=>?_)))))
   ·refine ln (W.condT rfl (W.skip (E.thenN (W.seq (W.block (sr (L.r 2 rfl (L.m (V:=fun _=>el (tQh qP69 a0) (zG gx46)) h rfl (Y.indexM (g:=(PR gP73)) (l:=gl44) Tryz.underlying67 qau rfl rfl (fun w hw=>As.at_ (hw.get (i:=6) rfl))) (fun x83 ex83 h=>(L.y rfl (Y.loadE1 (u:=VP gP73 x83) qfm rfl (fun w hw=>As.at_ (hw.get (i:=6) rfl)) (qf ex83)) (L.r 1 rfl (L.nil ?_))))))))))))
    refine E.thenN (sr (L.r 2 rfl (L.callVJ (fun v D=>∃ gb47,v=.bool gb47∧D=Cls w F (tQu gP69 gP73 gP152 qP69 A69 a0::tQC gP73 qP73 A73::tQO b5 gx5::vx gP69 a0 gP152 th1 qP69 gv1 gl44 gP73 gl2 gv3 gl4)∧qdR gx46 go6 gl44 gx45 x83 gb47=some r) rfl (by kernel_rfl) rfl rfl Tryz.func46 rfl rfl rfl ?_ ?_)))
    ·refine sr (L.r 1 rfl (ln (W.seq ?_)))
     obtain ⟨th89,eth89,h⟩:=qc h
     refine W.to (D:=Cls w F [tQb gP73 x83 th89 qP73,xW qP73 x83 th89,xX qP73 x83 th89,tQz th89,tQL gP73 qP73 A73 x83,tQu gP69 gP73 gP152 qP69 A69 a0,tQO b5 gx5,tQg gP69 a0 gP152 th1 qP69 gv1,tQj th1,tQe qP69 a0 th1,.sl (tQh qP69 a0) 70 1 (gl44.map (PR gP73)),tQn gv1 gl2 gP73,tQI gv3 gl4]) (fun _ hw=>hw.aO 1 rfl eth89) (W.quietC mixed (by kernel_rfl) (fun _ hw=>hw.drew) (fun hC=>(U.r 1 rfl (U.y rfl (Y.apNil rfl eth89) (U.y rfl (Y.fieldP qc1 rfl) (U.y rfl (Y.loadG (q:=0) (si:=2) (ps:=2) (j:=0) (X:=[.int .i64 th89.at_]) ag3 rfl rfl rfl rfl rfl rfl) (U.y rfl (Y.loadP (i:=6) ag3 rfl rfl rfl) (U.y rfl (Y.leq rfl rfl) (U.r 1 rfl (U.nil (E.thenN (W.ret (E.to (D:=Cls w F (tQC gP73 qP73 A73::tQu gP69 gP73 gP152 qP69 A69 a0::tQO b5 gx5::vx gP69 a0 gP152 th1 qP69 gv1 gl44 gP73 gl2 gv3 gl4)) (fun _ hw=>hw.aS [0,1,2,3,4,5,6,7,8,9,10,11,12] eth89 rfl) (E.ret1 rfl rfl (fun w1 hw=>?_)))))))))))))))
     exact ⟨_,_,rfl,⟨decide (th89.at_≤gx5),rfl,rfl,h⟩,hw.s [1,0,2,3,4,5,6,7,8]⟩
    rintro _ _ ⟨gb47,rfl,rfl,h⟩
    rw [qdR] at h
    rcases gb47 with _ | _
    ·replace h:=zn h
     refine L.y rfl (Y.not rfl) (ln (W.condT rfl (sr (L.r 3 rfl (L.m (V:=fun _=>el (tQh qP69 a0) (zG gx45)) h rfl (Y.indexM (g:=(PR gP73)) (l:=gl44) Tryz.underlying67 qau rfl rfl (fun w hw=>As.at_ (hw.get (i:=6) rfl))) (fun x84 ex84 h=>(L.storeSlM (q:=6) (row:=(PR gP73)) (vs:=[VP gP73 x83]) (j:=0) (u1:=x83) h qau rfl rfl rfl (by rw [zL]) rfl (qT (qdd _ _) za) rfl ex84 rfl rfl ?_)))))))
     intro l85 el85 h
     exact nr (L.r 1 rfl (L.m (V:=fun x86=>.int .i64 x86) h rfl (Y.addM rfl rfl) (fun x86 ex86 h=>(L.r 1 rfl (L.nil (E.blockN (E.thenN (W.region (L.r 1 rfl (L.m (V:=fun x87=>.int .i64 x87) h rfl (Y.addM rfl rfl) (fun x87 ex87 h=>(L.r 1 rfl (L.nil (E.aJ ⟨l85,x86,x87,rfl,rfl,by rw [hg6];exact h⟩ hI))))))))))))))
    replace h:=zm h
    exact L.y rfl (Y.not rfl) (ln (W.condF rfl (W.skip (E.blockN (E.thenN (W.region (L.r 1 rfl (L.m (V:=fun x88=>.int .i64 x88) h rfl (Y.addM rfl rfl) (fun x88 ex88 h=>(L.r 1 rfl (L.nil (E.aJ ⟨gl44,gx45,x88,rfl,rfl,by rw [hg6];exact h⟩ hI))))))))))))
   exact ln (W.condF rfl (W.exit (E.thenX (E.KLX (E.blockX (E.jJ ⟨gl44,gx45,rfl,rfl,h⟩ (sI [0,1,3,4,5,6,7,8])))))))
  rintro _ _ ⟨gl42,gx43,rfl,rfl,h⟩
  rw [qdS] at h
  refine sr (L.r 2 rfl (L.m (V:=fun _=>zq (tQh qP69 a0) gx43.toNat 1) h rfl (Y.dropM (g:=(PR gP73)) Tryz.underlying67 qau rfl rfl (fun w hw=>As.at_ (hw.get (i:=5) rfl))) (fun l77 el77 h=>(L.clearM (i:=5) (g:=(PR gP73)) (z0:=(-1)) (a:=gx43) h Tryz.underlying67 qhW qoL (fun u hu=>((kj _):Plain ([(-1)].map (PR gP73))) _ (List.mem_cons_self ..) u hu) rfl rfl ?_))))
  intro l78 el78 h
  refine nsr (L.r 2 rfl ?_)
  obtain ⟨l79,el79,h⟩:=qc h
  exact L.cutM (i:=5) (g:=(PR gP73)) el79 rfl Tryz.underlying67 qau rfl rfl rfl (fun v80=>(L.r 1 rfl (ln (W.ret (E.ret1 rfl rfl (fun w1 hw=>(⟨_,_,rfl,⟨v80,l79,rfl,rfl,h⟩,hw.s [0,1,2,3,4,7,5,6]⟩)))))))
 rintro gv6 _ ⟨_,gl7,rfl,rfl,h⟩
 rw [qcl] at h
 refine L.y rfl (Y.apNil rfl eth1) (L.y rfl (Y.fieldP qa6 rfl) (L.storeGV (q:=2) (si:=7) (ps:=27) (j:=0) (X:=[(tQh qP69 a0)]) qno rfl rfl rfl (fun _ hw=>(As.at_ (hw.get (i:=6) rfl)).one) rfl rfl (by simp [zl,en3,en4]) rfl (nsr (L.r 1 rfl (L.y rfl (Y.apNil rfl eth1) (L.y rfl (Y.fieldP kI rfl) (L.y rfl (Y.loadGA (q:=2) (si:=5) (ps:=6) (X:=(zr qh (jD qP69 a0) th1.items_).flatten) qo1 qoS rfl rfl rfl (by simp [zl,en3]) (zrN (nn:=20) (k:=1) (fun _ _=>rfl) en4)) (L.r 1 rfl (ln ?_)))))))))
 refine W.block (W.loopJ (fun m gs D=>∃ gl8 gx9 gl10 gq11,∃ gu13:Unit,gs=[(0,VP gP69 a0),(5,gv3),(58,.agg (zr qh (jD qP69 a0) th1.items_).flatten.toArray),(59,.int .i64 gx9)]∧D=Cls w F [tQu gP69 gP73 gP152 qP69 A69 a0,tQC gP73 qP73 A73,tQr gP69 a0 gP152 th1 gq11 gl10 gv1 gv6,tQj th1,.ss (zs yu gq11 gl10),tQI gv3 gl8,tQn gv1 gl2 gP73,tQn gv6 gl7 gP73]∧Tl (jD qP69 a0) gq11 th1.items_ gl10 gx9∧qae th1 A69 a0 gl2 gl7 m gl8 gx9 gl10=some r) ⟨gl4,0,th1.items_,(jD qP69 a0),(),rfl,rfl,Tl.refl _ _ _,h⟩ ⟨rfl,rfl,rfl,rfl,trivial⟩ (sI [0,1,2,3,4,5,7,6]) ?_)
 rintro m _ _ ⟨gl8,gx9,gl10,gq11,gu13,rfl,rfl,hG12,h⟩
 rcases m with _ | m
 ·rw [qae] at h;cases h
 rw [qae] at h
 generalize hg1:qae th1 A69 a0 gl2 gl7 m=go1 at h
 rw [qdK] at h
 refine sr (L.ite h rfl (Y.lss rfl rfl) (fun c6 h=>?_) (fun c6 h=>?_))
 ·refine ln (W.seq (W.condT rfl (W.skip (E.thenN (W.seq (W.block (sr (L.r 1 rfl ?_))))))))
  obtain ⟨x7,ex7,h⟩:=qc h
  refine L.y rfl (Y.idxZrT (lb:=th1.items_) (vs:=(jD qP69 a0)) (vs':=gq11) (lb':=gl10) hG12 (Int.le_refl _) Tryz.underlying66 qnB qfi rfl rfl ex7) (L.r 2 rfl (nsr (L.r 1 rfl (L.y rfl (Y.lenM (g:=TVersion.row) (l:=x7) Tryz.underlying65 rfl (fun w hw=>As.atZ (sds:=yu) (vs:=gq11) (j:=0) (c:=1) (hw.get (i:=4) rfl) (fun _ _=>rfl) (Tl.idx hG12 (Int.le_refl _) (qg ex7)) rfl)) (L.ite h rfl (Y.gtr rfl rfl) (fun c8 h=>?_) (fun c8 h=>?_))))))
  ·refine ln (W.condT rfl (W.drawn2 (k:=13) (stC [[8,12],[12]] [Cls w F [tQu gP69 gP73 gP152 qP69 A69 a0,tQC gP73 qP73 A73,tQr gP69 a0 gP152 th1 gq11 gl10 gv1 gv6,tQj th1,.ss (zs yu gq11 gl10),tQI gv3 gl8,tQn gv1 gl2 gP73,tQn gv6 gl7 gP73],Cls w F [tQu gP69 gP73 gP152 qP69 A69 a0,tQC gP73 qP73 A73,tQr gP69 a0 gP152 th1 gq11 gl10 gv1 gv6,tQj th1,.ss (zs yu gq11 gl10),tQn gv1 gl2 gP73,tQn gv6 gl7 gP73]] (Cls w F [tQu gP69 gP73 gP152 qP69 A69 a0,tQC gP73 qP73 A73,tQj th1,tQn gv1 gl2 gP73,tQn gv6 gl7 gP73])) rfl mixed (fun _ hw=>hw.drew) (Sc.now (by kernel_rfl) hI) (V2.zz [] (Zc.on' (Zc.on' (Zc.fin hI) (sI [0,1,3,5,6])) (sI [0,1,3,6,7])) (fun hz32=>(V2.r [0,1,2,3,4] (by kernel_rfl) rfl (V2.apNil (i:=5) (Nx2.of [] (by kernel_rfl) rfl hz32) rfl rfl rfl eth1 (V2.q 6 [] hz32 rfl rfl (Y.fieldP vN rfl) (V2.zz [12] (Zc.on' (Zc.at1 hI) (sI [0,1,2,3,4,6,7])) (fun hz33=>(V2.q 7 [12] hz33 rfl rfl (Y.loadG (q:=2) (si:=4) (ps:=5) (j:=0) (X:=[qfH th1]) ag3 rfl rfl rfl rfl (by simp [zl,en3]) rfl) (V2.apNil (i:=9) (Nx2.of [] (by kernel_rfl) rfl hz32) rfl rfl rfl eth1 (V2.q 10 [] hz32 rfl rfl (Y.fieldP kI rfl) (V2.eff (i:=8) (by kernel_rfl) rfl (L.callJ (fun v D=>∃ gl26 gv27 gl28,v=gv27∧D=Cls w F (tQu gP69 gP73 gP152 qP69 A69 a0::tQC gP73 qP73 A73::jZ gP69 a0 gP152 th1 gq11 gl10 gv1 gv6 gv3 gl26 gv27 gl28 gl2 gP73 gl7)∧qhA gl10 gx9 go1 gl26 gl28=some r) rfl (by kernel_rfl) rfl Tryz.func47 rfl rfl rfl ?_ ?_))))))))))))))
   ·refine sr (L.r 1 rfl (nsr (L.r 1 rfl ?_)))
    obtain ⟨l41,e43,h⟩:=qc h
    refine L.does rfl (by kernel_rfl) rfl (fun w' hw=>W85 x7 (tQi gq11 gx9) w' _ e43 (As.atZ (sds:=yu) (vs:=gq11) (j:=0) (c:=1) (hw.get (i:=4) rfl) (fun _ _=>rfl) (Tl.idx hG12 (Int.le_refl _) (qg ex7)) rfl)) ?_
    rintro v42 _ ⟨_,rfl,rfl⟩
    refine L.r 1 rfl (ln (W.seqJ (fun gs D=>∃ gl29,gs=[(1,gv3),(2,qfH th1),(7,v42)]∧D=Cls w F (tQu gP69 gP73 gP152 qP69 A69 a0::tQC gP73 qP73 A73::jZ gP69 a0 gP152 th1 gq11 gl10 gv1 gv6 gv3 gl8 v42 gl29 gl2 gP73 gl7)∧qhz gl8 th1 gl10 gx9 go1 gl29=some r) ?_ ?_))
    ·refine sr (L.r 1 rfl (L.y rfl (Y.lenM (g:=TVersion.row) (l:=l41) Tryz.underlying65 rfl (fun w hw=>As.at_ (hw.get (i:=0) rfl))) (L.r 1 rfl (ln (W.block (W.loopJ (fun m gs D=>∃ gl39 gx40,gs=[(1,gv3),(2,qfH th1),(7,v42),(17,.int .i64 (l41.length:Int)),(18,qI gx40)]∧D=Cls w F (tQu gP69 gP73 gP152 qP69 A69 a0::tQC gP73 qP73 A73::jZ gP69 a0 gP152 th1 gq11 gl10 gv1 gv6 gv3 gl8 v42 gl39 gl2 gP73 gl7)∧wB l41 gl8 th1 gl10 gx9 go1 m gl39 gx40=some r) ⟨l41,0,rfl,rfl,h⟩ ⟨rfl,rfl,rfl,rfl,rfl,trivial⟩ (sI [1,2,3,4,5,6,0,7,8]) ?_))))))
     rintro m _ _ ⟨gl39,gx40,rfl,rfl,h⟩
     rcases m with _ | m
     ·rw [wB] at h;cases h
     rw [wB] at h
     generalize hg5:wB l41 gl8 th1 gl10 gx9 go1 m=go5 at h
     rw [qdG] at h
     refine sr (L.ite h rfl (Y.lss rfl rfl) (fun c67 h=>?_) (fun c67 h=>?_))
     ·refine ln (W.seq (W.condT rfl (W.skip (E.thenN (W.seq (W.block (sr (L.r 2 rfl (nr ?_)))))))))
      refine L.r 2 rfl (L.m (V:=fun _=>wJ v42 gx40) h rfl (Y.indexM (g:=TVersion.row) (l:=gl39) Tryz.underlying65 wL rfl rfl (fun w hw=>As.at_ (hw.get (i:=6) rfl))) (fun x68 ex68 h=>(L.y rfl (Y.fieldE xN rfl) (L.y rfl (Y.loadE (u:=.int .i64 x68.At) ag3 rfl (fun w hw=>As.at_ (hw.get (i:=6) rfl)) (qf ex68) rfl) (L.m (V:=fun x69=>.int .i64 x69) h rfl (Y.addM rfl rfl) (fun x69 ex69 h=>(L.m (V:=fun _=>wJ v42 gx40) h rfl (Y.indexM (g:=TVersion.row) (l:=gl39) Tryz.underlying65 wL rfl rfl (fun w hw=>As.at_ (hw.get (i:=6) rfl))) (fun x70 ex70 h=>(L.y rfl (Y.fieldE xN rfl) (L.storeSlM (q:=6) (row:=TVersion.row) (vs:=(jX x69)) (j:=0) (u1:=(⟨x69,x70.Text⟩:TVersion)) h sz3 rfl rfl rfl rfl rfl (qT rfl za) rfl ex70 rfl rfl ?_))))))))))
      intro l71 el71 h
      exact L.nil (E.blockN (E.thenN (W.region (L.m (V:=fun x72=>.int .i64 x72) h rfl (Y.addM rfl rfl) (fun x72 ex72 h=>(L.r 1 rfl (L.nil (E.aJ ⟨l71,x72,rfl,rfl,by rw [hg5];exact h⟩ hI))))))))
     exact ln (W.seq (W.condF rfl (W.exit (E.thenX (E.KLX (E.blockX (E.jJ ⟨gl39,rfl,rfl,h⟩ hI)))))))
    rintro _ _ ⟨gl29,rfl,rfl,h⟩
    rw [qhz] at h
    refine W.seqJ (fun gs D=>∃ gl30,gs=[(1,gv3),(2,qfH th1),(7,v42)]∧D=Cls w F (tQu gP69 gP73 gP152 qP69 A69 a0::tQC gP73 qP73 A73::jZ gP69 a0 gP152 th1 gq11 gl10 gv1 gv6 gv3 gl30 v42 gl29 gl2 gP73 gl7)∧qhy th1 gl29 gl10 gx9 go1 gl30=some r) ?_ ?_
    ·refine sr (L.r 1 rfl (L.y rfl (Y.lenM (g:=I) (l:=gl8) Tryz.underlying52 rfl (fun w hw=>As.at_ (hw.get (i:=5) rfl))) (L.r 1 rfl (ln (W.block (W.loopJ (fun m gs D=>∃ gl37 gx38,gs=[(1,gv3),(2,qfH th1),(7,v42),(31,.int .i64 (gl8.length:Int)),(32,qI gx38)]∧D=Cls w F (tQu gP69 gP73 gP152 qP69 A69 a0::tQC gP73 qP73 A73::jZ gP69 a0 gP152 th1 gq11 gl10 gv1 gv6 gv3 gl37 v42 gl29 gl2 gP73 gl7)∧qaa gl8 th1 gl29 gl10 gx9 go1 m gl37 gx38=some r) ⟨gl8,0,rfl,rfl,h⟩ ⟨rfl,rfl,rfl,rfl,rfl,trivial⟩ hI ?_))))))
     rintro m _ _ ⟨gl37,gx38,rfl,rfl,h⟩
     rcases m with _ | m
     ·rw [qaa] at h;cases h
     rw [qaa] at h
     generalize hg4:qaa gl8 th1 gl29 gl10 gx9 go1 m=go4 at h
     rw [qdH] at h
     refine sr (L.ite h rfl (Y.lss rfl rfl) (fun c61 h=>?_) (fun c61 h=>?_))
     ·refine ln (W.seq (W.condT rfl (W.skip (E.thenN (W.seq (W.block (sr (L.r 2 rfl (nr ?_)))))))))
      refine L.r 2 rfl (L.m (V:=fun _=>el gv3 (zG gx38)) h rfl (Y.indexM (g:=I) (l:=gl37) Tryz.underlying52 sz3 rfl rfl (fun w hw=>As.at_ (hw.get (i:=5) rfl))) (fun x62 ex62 h=>(L.y rfl (Y.loadE1 (u:=.int .i64 x62) ag3 rfl (fun w hw=>As.at_ (hw.get (i:=5) rfl)) (qf ex62)) (L.m (V:=fun x63=>.int .i64 x63) h rfl (Y.addM rfl rfl) (fun x63 ex63 h=>(L.m (V:=fun _=>el gv3 (zG gx38)) h rfl (Y.indexM (g:=I) (l:=gl37) Tryz.underlying52 sz3 rfl rfl (fun w hw=>As.at_ (hw.get (i:=5) rfl))) (fun x64 ex64 h=>(L.storeSlM (q:=5) (row:=I) (vs:=(jX x63)) (j:=0) (u1:=x63) h sz3 rfl rfl rfl rfl rfl (qT rfl za) rfl ex64 rfl rfl ?_))))))))
      intro l65 el65 h
      exact L.nil (E.blockN (E.thenN (W.region (L.m (V:=fun x66=>.int .i64 x66) h rfl (Y.addM rfl rfl) (fun x66 ex66 h=>(L.r 1 rfl (L.nil (E.aJ ⟨l65,x66,rfl,rfl,by rw [hg4];exact h⟩ hI))))))))
     exact ln (W.seq (W.condF rfl (W.exit (E.thenX (E.KLX (E.blockX (E.jJ ⟨gl37,rfl,rfl,h⟩ hI)))))))
    rintro _ _ ⟨gl30,rfl,rfl,h⟩
    rw [qhy] at h
    refine sr (L.r 3 rfl (L.m (V:=fun x44=>.int .i64 x44) h rfl (Y.addM rfl rfl) (fun x44 ex44 h=>?_)))
    obtain ⟨l45,x47,e48,h⟩:=qt h
    refine L.does rfl (by kernel_rfl) rfl (fun w' hw=>W86 gl29 gl30 x44 v42 gv3 w' _ e48 (As.at_ (hw.get (i:=6) rfl)) (As.at_ (hw.get (i:=5) rfl))) ?_
    rintro _ _ ⟨v46,rfl,rfl⟩
    refine L.r 5 rfl (ln (W.seqJ (fun gs D=>∃ gl31,gs=[(1,gv3),(10,v46)]∧D=Cls w F (tQu gP69 gP73 gP152 qP69 A69 a0::tQC gP73 qP73 A73::jZ gP69 a0 gP152 th1 gq11 gl10 gv1 gv6 gv3 gl30 v46 gl31 gl2 gP73 gl7)∧qhx gl30 gl10 gx9 go1 gl31=some r) ?_ ?_))
    ·refine sr (L.r 1 rfl (L.y rfl (Y.lenM (g:=TVersion.row) (l:=l45) Tryz.underlying65 rfl (fun w hw=>As.at_ (hw.get (i:=0) rfl))) (L.r 1 rfl (ln (W.block (W.loopJ (fun m gs D=>∃ gl35 gx36,gs=[(1,gv3),(10,v46),(51,.int .i64 (l45.length:Int)),(52,qI gx36)]∧D=Cls w F (tQu gP69 gP73 gP152 qP69 A69 a0::tQC gP73 qP73 A73::jZ gP69 a0 gP152 th1 gq11 gl10 gv1 gv6 gv3 gl30 v46 gl35 gl2 gP73 gl7)∧qab l45 gl30 gl10 gx9 go1 m gl35 gx36=some r) ⟨l45,0,rfl,rfl,h⟩ ⟨rfl,rfl,rfl,rfl,trivial⟩ (sI [1,2,3,4,5,6,0,8,9]) ?_))))))
     rintro m _ _ ⟨gl35,gx36,rfl,rfl,h⟩
     rcases m with _ | m
     ·rw [qab] at h;cases h
     rw [qab] at h
     generalize hg3:qab l45 gl30 gl10 gx9 go1 m=go3 at h
     rw [qdI] at h
     refine sr (L.ite h rfl (Y.lss rfl rfl) (fun c55 h=>?_) (fun c55 h=>?_))
     ·refine ln (W.seq (W.condT rfl (W.skip (E.thenN (W.seq (W.block (sr (L.r 2 rfl (nr ?_)))))))))
      refine L.r 2 rfl (L.m (V:=fun _=>wJ v46 gx36) h rfl (Y.indexM (g:=TVersion.row) (l:=gl35) Tryz.underlying65 wL rfl rfl (fun w hw=>As.at_ (hw.get (i:=6) rfl))) (fun x56 ex56 h=>(L.y rfl (Y.fieldE xN rfl) (L.y rfl (Y.loadE (u:=.int .i64 x56.At) ag3 rfl (fun w hw=>As.at_ (hw.get (i:=6) rfl)) (qf ex56) rfl) (L.m (V:=fun x57=>.int .i64 x57) h rfl (Y.subM rfl rfl) (fun x57 ex57 h=>(L.m (V:=fun _=>wJ v46 gx36) h rfl (Y.indexM (g:=TVersion.row) (l:=gl35) Tryz.underlying65 wL rfl rfl (fun w hw=>As.at_ (hw.get (i:=6) rfl))) (fun x58 ex58 h=>(L.y rfl (Y.fieldE xN rfl) (L.storeSlM (q:=6) (row:=TVersion.row) (vs:=(jX x57)) (j:=0) (u1:=(⟨x57,x58.Text⟩:TVersion)) h sz3 rfl rfl rfl rfl rfl (qT rfl za) rfl ex58 rfl rfl ?_))))))))))
      intro l59 el59 h
      exact L.nil (E.blockN (E.thenN (W.region (L.m (V:=fun x60=>.int .i64 x60) h rfl (Y.addM rfl rfl) (fun x60 ex60 h=>(L.r 1 rfl (L.nil (E.aJ ⟨l59,x60,rfl,rfl,by rw [hg3];exact h⟩ hI))))))))
     exact ln (W.seq (W.condF rfl (W.exit (E.thenX (E.KLX (E.blockX (E.jJ ⟨gl35,rfl,rfl,h⟩ hI)))))))
    rintro _ _ ⟨gl31,rfl,rfl,h⟩
    rw [qhx] at h
    refine W.seqJ (fun gs D=>∃ gl32,gs=[(10,v46)]∧D=Cls w F [tQu gP69 gP73 gP152 qP69 A69 a0,tQC gP73 qP73 A73,tQr gP69 a0 gP152 th1 gq11 gl10 gv1 gv6,tQj th1,.ss (zs yu gq11 gl10),.sl v46 84 2 (qfg gl31),tQn gv1 gl2 gP73,tQn gv6 gl7 gP73,tQI gv3 gl32]∧qhw gl10 gx9 go1 gl31 gl32=some r) ?_ ?_
    ·refine sr (L.r 1 rfl (L.y rfl (Y.lenM (g:=I) (l:=gl30) Tryz.underlying52 rfl (fun w hw=>As.at_ (hw.get (i:=5) rfl))) (L.r 1 rfl (ln (W.block (W.loopJ (fun m gs D=>∃ gl33 gx34,gs=[(1,gv3),(10,v46),(65,.int .i64 (gl30.length:Int)),(66,qI gx34)]∧D=Cls w F (tQu gP69 gP73 gP152 qP69 A69 a0::tQC gP73 qP73 A73::jZ gP69 a0 gP152 th1 gq11 gl10 gv1 gv6 gv3 gl33 v46 gl31 gl2 gP73 gl7)∧qac gl30 gl10 gx9 go1 gl31 m gl33 gx34=some r) ⟨gl30,0,rfl,rfl,h⟩ ⟨rfl,rfl,rfl,rfl,trivial⟩ hI ?_))))))
     rintro m _ _ ⟨gl33,gx34,rfl,rfl,h⟩
     rcases m with _ | m
     ·rw [qac] at h;cases h
     rw [qac] at h
     generalize hg2:qac gl30 gl10 gx9 go1 gl31 m=go2 at h
     rw [qdJ] at h
     refine sr (L.ite h rfl (Y.lss rfl rfl) (fun c49 h=>?_) (fun c49 h=>?_))
     ·refine ln (W.seq (W.condT rfl (W.skip (E.thenN (W.seq (W.block (sr (L.r 2 rfl (nr ?_)))))))))
      refine L.r 2 rfl (L.m (V:=fun _=>el gv3 (zG gx34)) h rfl (Y.indexM (g:=I) (l:=gl33) Tryz.underlying52 sz3 rfl rfl (fun w hw=>As.at_ (hw.get (i:=5) rfl))) (fun x50 ex50 h=>(L.y rfl (Y.loadE1 (u:=.int .i64 x50) ag3 rfl (fun w hw=>As.at_ (hw.get (i:=5) rfl)) (qf ex50)) (L.m (V:=fun x51=>.int .i64 x51) h rfl (Y.subM rfl rfl) (fun x51 ex51 h=>(L.m (V:=fun _=>el gv3 (zG gx34)) h rfl (Y.indexM (g:=I) (l:=gl33) Tryz.underlying52 sz3 rfl rfl (fun w hw=>As.at_ (hw.get (i:=5) rfl))) (fun x52 ex52 h=>(L.storeSlM (q:=5) (row:=I) (vs:=(jX x51)) (j:=0) (u1:=x51) h sz3 rfl rfl rfl rfl rfl (qT rfl za) rfl ex52 rfl rfl ?_))))))))
      intro l53 el53 h
      exact L.nil (E.blockN (E.thenN (W.region (L.m (V:=fun x54=>.int .i64 x54) h rfl (Y.addM rfl rfl) (fun x54 ex54 h=>(L.r 1 rfl (L.nil (E.aJ ⟨l53,x54,rfl,rfl,by rw [hg2];exact h⟩ hI))))))))
     exact ln (W.seq (W.condF rfl (W.exit (E.thenX (E.KLX (E.blockX (E.jJ ⟨gl33,rfl,rfl,h⟩ (sI [0,1,2,3,4,6,7,8,5]))))))))
    rintro _ _ ⟨gl32,rfl,rfl,h⟩
    rw [qhw] at h
    exact sr (L.r 2 rfl (ln (W.ret (E.ret1 rfl rfl (fun w1 hw=>(⟨_,_,rfl,⟨gl32,v46,gl31,rfl,rfl,h⟩,hw.s [0,1,2,3,4,8,5,6,7]⟩))))))
   rintro gv27 _ ⟨gl26,_,gl28,rfl,rfl,h⟩
   rw [qhA] at h
   refine L.nil (E.toV2 (stC [[12]] [Cls w F [tQu gP69 gP73 gP152 qP69 A69 a0,tQC gP73 qP73 A73,tQr gP69 a0 gP152 th1 gq11 gl10 gv1 gv6,tQj th1,.ss (zs yu gq11 gl10),.sl gv27 84 2 (qfg gl28),tQn gv1 gl2 gP73,tQn gv6 gl7 gP73]] (Cls w F [tQu gP69 gP73 gP152 qP69 A69 a0,tQC gP73 qP73 A73,tQj th1,tQn gv1 gl2 gP73,tQn gv6 gl7 gP73])) 8 (by kernel_rfl) (Sc.past rfl (Sc.stay (sI [0,1,2,3,4,6,7]) (Sc.stayD hI))) (Sc.now (by kernel_rfl) (sI [0,1,2,3,4,6,7,8])) (V2.zz [12] (Zc.at1 hI) (fun hz35=>(V2.m (i:=11) (V':=fun _=>pt (gP69 a0.toNat) (6+gx9.toNat*1)) h (Nx2.of [12] (by kernel_rfl) rfl hz35) rfl rfl rfl (Y.indexAS (l:=gl10) Tryz.underlying66 qfi rfl rfl) (fun x36 ex36 h=>(V2.eff (i:=12) (by kernel_rfl) rfl (L.storeZSgT (si:=5) (ps:=6) (row:=qh) (sds:=yu) (vs:=gq11) (q:=2) (p:=6) (s:=4) (c:=1) (jj:=0) (u1:=gl28) (v1:=[gv27]) (j:=0) h qfi rfl rfl rfl rfl rfl (by simp [zl,en3]) rfl rfl (.inl rfl) (fun _ _=>rfl) (fun _ _=>rfl) (qg ex36) rfl rfl rfl rfl ?_)))))))
   intro l37 q38 el37 hgt39 h
   exact L.nil (E.toV2 (stC [] [] (Cls w F [tQu gP69 gP73 gP152 qP69 A69 a0,tQC gP73 qP73 A73,tQj th1,tQn gv1 gl2 gP73,tQn gv6 gl7 gP73])) 12 (by kernel_rfl) (Sc.past rfl (Sc.stayD hI)) (Sc.atD (sI [0,1,3,6,7])) (V2.done (by kernel_rfl) (E.blockN (E.thenN (W.region (L.m (V:=fun x40=>.int .i64 x40) h rfl (Y.addM rfl rfl) (fun x40 ex40 h=>(L.r 1 rfl (L.nil (E.aJ ⟨gl26,x40,l37,q38,(),rfl,rfl,(Tl.mono (Tl.put (p':=(gx9+1)) hG12 el37 hgt39 (by omega) (by omega)) (by have h9:=jH ex40;omega)),by rw [hg1];exact h⟩ hI))))))))))
  exact ln (W.condF rfl (W.skip (E.blockN (E.thenN (W.region (L.m (V:=fun x73=>.int .i64 x73) h rfl (Y.addM rfl rfl) (fun x73 ex73 h=>(L.r 1 rfl (L.nil (E.aJ ⟨gl8,x73,gl10,gq11,(),rfl,rfl,(Tl.mono hG12 (by have h9:=jH ex73;omega)),by rw [hg1];exact h⟩ hI))))))))))
 refine ln (W.seq (W.condF rfl (W.exit (E.thenX (E.KLX (E.blockX (E.to (D:=Cls w F [zg gP69 gP73 gP152 qP69 A69 (a0.toNat :: []),zE gP73 qP73 A73 [],.obj (gP69 a0.toNat) (List.flatten [(zr (fzr (PR gP152)) (fun _=>[]) th1.logs_).flatten,[.int .i64 th1.half_],[.int .i64 th1.gen_],[.bool th1.down_],[.int .i64 th1.now_],(zr qh (qV ([gv1,gv6]++ghl gq11 gl10.length) 2) gl10).flatten,[gv1],[gv6]]) 69,.ss (zs sd0 (fun _=>[]) th1.logs_),.ss (zs (qF 84 2 TVersion.row) (qV ([gv1,gv6]++ghl gq11 gl10.length) 2) gl10),.sl gv3 3 1 (gl8.map I),.sl gv1 70 1 (gl2.map (PR gP73)),.sl gv6 70 1 (gl7.map (PR gP73))]) (fun _ hw=>by rw [xz [gv1,gv6] _ 2 _ rfl,xy [gv1,gv6] _ 2 _ rfl];exact hw) ?_)))))))
 obtain ⟨l75,el75,h⟩:=qc h
 refine E.aC (row:=TStore.rowA gP73 gP152) (sub:=TStore.subA gP73 gP152) (e:=69) (g:=gP69) (gh:=qP69) (vs':=([gv1,gv6]++ghl gq11 gl10.length)) (m':=[tQC gP73 qP73 A73,tQI gv3 gl8]) [2,6,7,3,4,0,1,5] el75 rfl ?_
 intro q74
 refine E.to (D:=Cls w F [tQH gP69 gP73 gP152 q74 l75,tQC gP73 qP73 A73,tQI gv3 gl8]) hI (E.end0 rfl (fun w1 hw=>?_))
 cases h
 exact ⟨_,_,rfl,⟨_,rfl,rfl⟩,hw.s [0,1]⟩
set_option maxRecDepth 100000 in
set_option maxHeartbeats 8000000 in
theorem W88 (a0:(List UInt8)) (w:World) (r:((List UInt8)×Int)) (h:M88 a0=some r):Does Tryz.prog 88 [st a0] w fun u m=>u=.tuple #[st r.1,.int .i64 r.2]∧m=[]:=by
 rw [M88] at h
 refine body (n:=13) Tryz.func88 rfl rfl rfl (Cls.refl w) (sr (L.r 2 rfl (ln (W.seq (sr (L.r 1 rfl (L.y rfl (Y.lenS Tryz.underlying9 rfl) (L.ite h rfl (Y.gtr rfl rfl) (fun c1 h=>?_) (fun c1 h=>?_)))))))))
 ·refine ln (W.condT rfl (sr (L.r 2 rfl (ln (W.ret (E.thenR (E.ret2 rfl rfl rfl (fun w1 hw=>?_))))))))
  cases h
  exact ⟨_,_,rfl,⟨rfl,rfl⟩,hw⟩
 refine ln (W.condF rfl (W.skip (E.thenN (sr (L.r 1 rfl (L.y rfl (Y.lenS Tryz.underlying9 rfl) (L.y rfl (Y.conv Tryz.underlying3 Tryz.underlying178 rfl) ?_)))))))
 obtain ⟨s2,e3,h⟩:=qc h
 refine L.y rfl (Y.does (by kernel_rfl) rfl (fun w' hw=>(qoB (IntKind.wrap .u64 (a0.length:Int)) w' _ e3).mono (fun _ _ h=>h.1))) (L.r 1 rfl (L.m (V:=fun s4=>st s4) h rfl (Y.catM rfl rfl) (fun s4 es4 h=>(L.r 2 rfl (ln (W.ret (E.ret2 rfl rfl rfl (fun w1 hw=>?_))))))))
 cases h
 exact ⟨_,_,rfl,⟨rfl,rfl⟩,hw⟩
set_option maxRecDepth 100000 in
set_option maxHeartbeats 8000000 in
theorem W50 (a0:Int) (a1:(List UInt8)) (w:World) (r:(List UInt8)) (h:M50 a0 a1=some r):Does Tryz.prog 50 [.int .i64 a0,st a1] w fun u m=>u=st r∧m=[]:=by
 rw [M50] at h
 refine body (n:=16) Tryz.func50 rfl rfl rfl (Cls.refl w) (sr (L.r 1 rfl (nsr (L.r 1 rfl ?_))))
 obtain ⟨s1,x2,e3,h⟩:=qt h
 refine L.y rfl (Y.does (by kernel_rfl) rfl (fun w' hw=>(W88 a1 w' _ e3).mono (fun _ _ h=>h.1))) (L.r 5 rfl (nsr (L.r 1 rfl ?_)))
 obtain ⟨s4,e5,h⟩:=qc h
 refine L.y rfl (Y.does qnu rfl (fun w' hw=>(W89 a0 w' _ e5).mono (fun _ _ h=>h.1))) (L.r 1 rfl (L.m (V:=fun s6=>st s6) h rfl (Y.catM rfl rfl) (fun s6 es6 h=>(L.r 1 rfl (ln (W.ret (E.ret1 rfl rfl (fun w1 hw=>?_))))))))
 cases h
 exact ⟨_,_,rfl,⟨rfl,rfl⟩,hw⟩
set_option maxRecDepth 100000 in
set_option maxHeartbeats 8000000 in
theorem W90 (a0:Int) (a1:Int) (a2:(List UInt8)) (w:World) (r:(List (List UInt8))) (h:M90 a0 a1 a2=some r):Does Tryz.prog 90 [.int .i64 a0,.int .i64 a1,st a2] w fun u m=>∃ v0,u=v0∧m=[tQD v0 r]:=by
 rw [M90] at h
 refine body (n:=49) Tryz.func90 rfl rfl rfl (Cls.refl w) (sr (L.r 1 rfl (nsr (L.r 1 rfl ?_))))
 obtain ⟨s1,x2,e3,h⟩:=qt h
 refine L.y rfl (Y.does (by kernel_rfl) rfl (fun w' hw=>(W88 a2 w' _ e3).mono (fun _ _ h=>h.1))) (L.r 5 rfl (nsr (L.r 1 rfl ?_)))
 obtain ⟨s4,x5,e6,h⟩:=qt h
 refine L.y rfl (Y.does (by kernel_rfl) rfl (fun w' hw=>(qoA s1 w' _ e6).mono (fun _ _ h=>h.1))) (L.r 5 rfl (nsr (L.r 1 rfl (ln (W.seqJ (fun gs D=>∃ gv1 gl2,gs=[(11,gv1)]∧D=Cls w [] [tQD gv1 gl2]∧qg8 gl2=some r) ?_ ?_)))))
 ·refine sr (L.r 1 rfl (ln (W.block (W.nilSl 9 1 (W.loopJ (fun m gs D=>∃ gs3 gv4 gl5 gs6,gs=[(0,.int .i64 a0),(1,.int .i64 a1),(9,st gs3),(11,gv4),(12,st gs6)]∧D=Cls w [] [tQD gv4 gl5]∧yQ a0 a1 m gs3 gl5 gs6=some r) ⟨s4,tQm,[],[1],rfl,rfl,h⟩ ⟨rfl,rfl,rfl,rfl,rfl,trivial⟩ hI ?_)))))
  rintro m _ _ ⟨gs3,gv4,gl5,gs6,rfl,rfl,h⟩
  rcases m with _ | m
  ·rw [yQ] at h;cases h
  rw [yQ] at h
  generalize hg1:yQ a0 a1 m=go1 at h
  rw [qdf] at h
  refine W.seq (sr (L.r 1 rfl (L.ite h rfl (Y.neqS rfl rfl) (fun c7 h=>?_) (fun c7 h=>?_))))
  ·refine ln (W.condT rfl (W.skip (E.thenN (W.seq (W.block (sr (L.r 3 rfl ?_)))))))
   obtain ⟨s8,e9,h⟩:=qc h
   refine L.y rfl (Y.does (by kernel_rfl) rfl (fun w' hw=>(qo6 gs6 a0 a1 w' _ e9).mono (fun _ _ h=>h.1))) (L.r 1 rfl (nsr (L.r 1 rfl (L.y rfl (Y.lenS Tryz.underlying9 rfl) (L.m (V:=fun x10=>.int .i64 x10) h rfl (Y.subM rfl rfl) (fun x10 ex10 h=>(L.r 1 rfl (L.y rfl (Y.lenS Tryz.underlying9 rfl) (L.y rfl (Y.min2 rfl rfl) (L.r 1 rfl (L.nil ?_)))))))))))
   refine E.thenN (sr (L.r 4 rfl (L.m (V:=fun s11=>st s11) h rfl (Y.sliceSH Tryz.underlying9 rfl rfl) (fun s11 es11 h=>(L.m (V:=fun s12=>st s12) h rfl (Y.catM rfl rfl) (fun s12 es12 h=>(L.litOne rfl Tryz.underlying111 eL9 rfl rfl ?_)))))))
   intro b13
   refine L.appM (i:=1) (g:=SR) (l:=gl5) (more:=[s12]) h rfl Tryz.underlying111 eL9 rfl rfl rfl (fun w hw=>As.at_ (hw.get (i:=0) rfl)) (qp _) rfl ?_
   intro v14 l15 el15 h
   exact L.r 1 rfl (nr (L.r 2 rfl (L.m (V:=fun s16=>st s16) h rfl (Y.sliceSL Tryz.underlying9 rfl rfl) (fun s16 es16 h=>(L.r 1 rfl (L.nil (E.blockN (E.thenN (W.region (L.r 1 rfl (L.nil (E.aJ ⟨s16,v14,l15,[2],rfl,rfl,by rw [hg1];exact h⟩ (sI [0])))))))))))))
  exact ln (W.condF rfl (W.exit (E.thenX (E.KLX (E.blockX (E.jJ ⟨gv4,gl5,rfl,rfl,h⟩ hI))))))
 rintro _ _ ⟨gv1,gl2,rfl,rfl,h⟩
 rw [qg8] at h
 refine sr (L.r 2 rfl (ln (W.ret (E.ret1 rfl rfl (fun w1 hw=>?_)))))
 cases h
 exact ⟨_,_,rfl,⟨_,rfl,rfl⟩,hw⟩
set_option maxRecDepth 100000 in
set_option maxHeartbeats 8000000 in
theorem W51 (a0:Int) (a1:(List UInt8)) (A114:(List TDisk)) (A152:(List TLog)) (gP114:Nat→Nat) (gP152:Nat→Nat) (qP114:Nat→List Value) (qP152:Nat→List Value) (w:World) (r:((List TDisk)×(List TLog)×Int)) (h:M51 a0 a1 A114 A152=some r) (F:List Nat) (hc0:Cls w F (zd gP114 qP114 A114 gP152 qP152 A152) w):zu Tryz.prog 51 [VP gP152 a0,st a1] F w fun u m=>∃ Q114 Q152,u=.int .i64 r.2.2∧m=[qS gP114 Q114 r.1 [],qY gP114 gP152 Q152 r.2.1 []]:=by
 rw [M51] at h
 refine body (n:=84) Tryz.func51 rfl rfl rfl hc0 (sr (L.r 1 rfl (ln (W.seq (sr (L.r 1 rfl ?_))))))
 obtain ⟨th1,eth1,h⟩:=qc h
 refine L.to (D:=qjB w F gP152 a0 gP114 th1 qP152 A152 qP114 A114) (fun _ hw=>hw.aO 1 rfl eth1) (L.y rfl (Y.apNil rfl eth1) (L.y rfl (Y.fieldP vP rfl) (L.iteB h rfl (Y.loadP (i:=0) ag4 rfl rfl rfl) (fun c2 h=>?_) (fun c2 h=>?_))))
 ·refine ln (W.condT rfl (sr (L.r 1 rfl (ln (W.ret (E.thenR (E.to (D:=qbG w F gP114 gP152 qP152 A152 qP114 A114) (fun _ hw=>hw.aS [0,1,2] eth1 rfl) (E.ret1 rfl rfl (fun w1 hw=>?_)))))))))
  cases h
  exact ⟨_,_,rfl,⟨_,_,rfl,rfl⟩,hw.s [1,0]⟩
 refine ln (W.condF rfl (W.skip (E.thenN (W.seq (sr (L.r 1 rfl (L.y rfl (Y.lenS Tryz.underlying9 rfl) (L.ite h rfl (Y.gtr rfl rfl) (fun c3 h=>?_) (fun c3 h=>?_)))))))))
 ·refine ln (W.condT rfl (sr (L.r 1 rfl (ln (W.ret (E.thenR (E.to (D:=qbG w F gP114 gP152 qP152 A152 qP114 A114) (fun _ hw=>hw.aS [0,1,2] eth1 rfl) (E.ret1 rfl rfl (fun w1 hw=>?_)))))))))
  cases h
  exact ⟨_,_,rfl,⟨_,_,rfl,rfl⟩,hw.s [1,0]⟩
 refine ln (W.condF rfl (W.skip (E.thenN (W.seq (W.drawn2 (k:=11) (stC [] [] (qjB w F gP152 a0 gP114 th1 qP152 A152 qP114 A114)) rfl mixed (fun _ hw=>hw.drew) (Sc.atD hI) (V2.zz [] (Zc.fin hI) (fun hz4=>(V2.r [0] (by kernel_rfl) rfl (V2.apNil (i:=1) (Nx2.of [] (by kernel_rfl) rfl hz4) rfl rfl rfl eth1 (V2.q 2 [] hz4 rfl rfl (Y.fieldP ju rfl) (V2.q 3 [] hz4 rfl rfl (Y.loadP (i:=0) ag3 rfl rfl rfl) (V2.r [4] (by kernel_rfl) rfl (V2.apNil (i:=5) (Nx2.of [] (by kernel_rfl) rfl hz4) rfl rfl rfl eth1 ?_)))))))))))))
 refine V2.q 6 [] hz4 rfl rfl (Y.fieldP kx rfl) (V2.q 7 [] hz4 rfl rfl (Y.loadP (i:=0) ag3 rfl rfl rfl) (V2.r [8] (by kernel_rfl) rfl (V2.eff (i:=9) (by kernel_rfl) rfl ?_)))
 obtain ⟨l5,e7,h⟩:=qc h
 refine L.does rfl (by kernel_rfl) rfl (fun w' hw=>W90 th1.epoch_ th1.seq_ a1 w' _ e7) ?_
 rintro v6 _ ⟨_,rfl,rfl⟩
 refine L.nil (E.toV2 (stC [] [] (Cls w F [tQD v6 l5,tQl gP152 a0 gP114 th1,qer gP114 gP152 qP152 A152 a0,tQt gP114 qP114 A114])) 9 (by kernel_rfl) (Sc.stayD (sI [1,2,3])) (Sc.atD hI) (V2.r [10] (by kernel_rfl) rfl (V2.done (by kernel_rfl) (E.thenN (W.seq (W.seq (W.quietC mixed (by kernel_rfl) (fun _ hw=>hw.drew) (fun hC=>(U.r 1 rfl (U.y rfl (Y.apNil rfl eth1) (U.y rfl (Y.fieldP jt rfl) (U.y rfl (Y.loadP (i:=1) ag3 rfl rfl rfl) (U.r 1 rfl (U.y rfl (Y.lenM (g:=SR) (l:=l5) Tryz.underlying111 rfl (fun w hw=>As.at_ (hw.get (i:=0) rfl))) ?_))))))))))))))
 refine U.m (V:=fun x9=>.int .i64 x9) h rfl (Y.addM rfl rfl) (fun x9 ex9 h=>(U.r 1 rfl (U.y rfl (Y.apNil rfl eth1) (U.y rfl (Y.fieldP qb9 rfl) (U.y rfl (Y.loadP (i:=1) ag3 rfl rfl rfl) (U.ite h rfl (Y.gtr rfl rfl) (fun c10 h=>?_) (fun c10 h=>?_)))))))
 ·refine U.nil (E.thenN (W.condT rfl (sr (L.r 1 rfl (ln (W.ret (E.thenR (E.to (D:=Cls w F [tQw gP114 gP152 qP152 A152,tQD v6 l5,tQt gP114 qP114 A114]) (fun _ hw=>hw.aS [1,2,0,3] eth1 rfl) (E.ret1 rfl rfl (fun w1 hw=>?_))))))))))
  cases h
  exact ⟨_,_,rfl,⟨_,_,rfl,rfl⟩,hw.s [2,0]⟩
 refine U.nil (E.thenN (W.condF rfl (W.skip (E.thenN (W.seqJ (fun gs D=>∃ gl1 gq2,gs=[(0,VP gP152 a0),(5,v6)]∧D=Cls w F [tQw gP114 gP152 qP152 A152,tQt gP114 gq2 gl1,tQD v6 l5]∧qhd A152 a0 l5 gl1=some r) ?_ ?_)))))
 ·refine sr (L.r 1 rfl (L.y rfl (Y.lenM (g:=SR) (l:=l5) Tryz.underlying111 rfl (fun w hw=>As.at_ (hw.get (i:=0) rfl))) (L.r 1 rfl (ln (W.block (W.to (D:=Cls w F [tQw gP114 gP152 qP152 A152,tQD v6 l5,tQt gP114 qP114 A114]) (fun _ hw=>hw.aS [1,2,0,3] eth1 rfl) (W.loopJ (fun m gs D=>∃ gx3 gl4 gq5,gs=[(0,VP gP152 a0),(5,v6),(38,v6),(39,.int .i64 (l5.length:Int)),(40,.int .i64 gx3)]∧D=Cls w F [tQw gP114 gP152 qP152 A152,tQt gP114 gq5 gl4,tQD v6 l5]∧wt l5 A152 a0 m gx3 gl4=some r) ⟨0,A114,qP114,rfl,rfl,h⟩ ⟨rfl,rfl,rfl,rfl,rfl,trivial⟩ (sI [0,2,1]) ?_)))))))
  rintro m _ _ ⟨gx3,gl4,gq5,rfl,rfl,h⟩
  rcases m with _ | m
  ·rw [wt] at h;cases h
  rw [wt] at h
  generalize hg1:wt l5 A152 a0 m=go1 at h
  rw [qdl] at h
  refine sr (L.ite h rfl (Y.lss rfl rfl) (fun c16 h=>?_) (fun c16 h=>?_))
  ·refine ln (W.seq (W.condT rfl (W.skip (E.thenN (W.seq (W.block (sr (L.r 1 rfl (L.m (V:=fun _=>el v6 (zG gx3)) h rfl (Y.indexM (g:=SR) (l:=l5) Tryz.underlying111 sz9 rfl rfl (fun w hw=>As.at_ (hw.get (i:=2) rfl))) (fun x17 ex17 h=>(L.y rfl (Y.loadE1 (u:=st x17) ag9 rfl (fun w hw=>As.at_ (hw.get (i:=2) rfl)) (qf ex17)) (L.r 2 rfl ?_))))))))))))
   refine ln (W.seq ?_)
   obtain ⟨th18,eth18,h⟩:=qc h
   refine W.to (D:=Cls w F (qlP gP152 a0 gP114 th18 qP152 A152 gq5 gl4 v6 l5)) (fun _ hw=>hw.aO 0 rfl eth18) (W.drawn2 (k:=18) (stC [[16]] [Cls w F (qlP gP152 a0 gP114 th18 qP152 A152 gq5 gl4 v6 l5)] (Cls w F [tQD v6 l5])) rfl mixed (fun _ hw=>hw.drew) (Sc.now (by kernel_rfl) hI) (V2.zz [] (Zc.on' (Zc.fin hI) (sI [3])) (fun hz42=>(V2.r [0] (by kernel_rfl) rfl (V2.apNil (i:=1) (Nx2.of [] (by kernel_rfl) rfl hz42) rfl rfl rfl eth18 (V2.q 2 [] hz42 rfl rfl (Y.fieldP ky rfl) (V2.zz [16] (Zc.at1 hI) (fun hz43=>(V2.q 3 [16] hz43 rfl rfl (Y.loadP (i:=0) ql3 rfl rfl rfl) (V2.r [4] (by kernel_rfl) rfl (V2.apNil (i:=5) (Nx2.of [] (by kernel_rfl) rfl hz42) rfl rfl rfl eth18 (V2.q 6 [] hz42 rfl rfl (Y.fieldP yJ rfl) (V2.q 7 [16] hz43 rfl rfl (Y.loadP (i:=0) ag3 rfl rfl rfl) (V2.r [8] (by kernel_rfl) rfl (V2.apNil (i:=9) (Nx2.of [] (by kernel_rfl) rfl hz42) rfl rfl rfl eth18 ?_)))))))))))))))
   refine V2.q 10 [] hz42 rfl rfl (Y.fieldP jt rfl) (V2.q 11 [16] hz43 rfl rfl (Y.loadP (i:=0) ag3 rfl rfl rfl) (V2.m (i:=12) (V':=fun x44=>.int .i64 x44) h (Nx2.of [] (by kernel_rfl) rfl hz42) rfl rfl rfl (Y.addM rfl rfl) (fun x44 ex44 h=>(V2.r [13] (by kernel_rfl) rfl (V2.m (i:=14) (V':=fun x45=>.int .i64 x45) h (Nx2.of [] (by kernel_rfl) rfl hz42) rfl rfl rfl (Y.addM rfl rfl) (fun x45 ex45 h=>(V2.r [15] (by kernel_rfl) rfl (V2.eff (i:=16) (by kernel_rfl) rfl (L.to (D:=Cls w F [tQw gP114 gP152 qP152 A152,tQt gP114 gq5 gl4,tQD v6 l5]) (fun _ hw=>hw.aS [0,1,2,3] eth18 rfl) (L.to (D:=Cls w F [tQt gP114 gq5 gl4,tQw gP114 gP152 qP152 A152,tQD v6 l5]) (sI [1,0,2]) ?_))))))))))
   obtain ⟨l46,x47,e48,h⟩:=qt h
   refine L.doesP (A:=[tQt gP114 gq5 gl4]) (M:=[tQw gP114 gP152 qP152 A152,tQD v6 l5]) rfl (by kernel_rfl) rfl (fun w' hw=>W91 th18.d_ x45 x17 gl4 gP114 gq5 w' _ e48 _ hw.lend) ?_
   rintro _ _ ⟨q49,rfl,rfl⟩
   refine L.to (D:=Cls w F [tQt gP114 q49 l46,tQw gP114 gP152 qP152 A152,tQD v6 l5]) hI (L.nil (E.toV2 (stC [] [] (Cls w F [tQD v6 l5])) 16 (by kernel_rfl) (Sc.past rfl (Sc.stayD hI)) (Sc.atD (sI [2])) (V2.r [17] (by kernel_rfl) rfl (V2.done (by kernel_rfl) (E.thenN (sr (L.r 1 rfl (L.ite h rfl (Y.neq rfl rfl) (fun c51 h=>?_) (fun c51 h=>?_)))))))))
   ·refine ln (W.condT rfl (sr (L.r 2 rfl (L.to (D:=Cls w F [tQw gP114 gP152 qP152 A152,tQt gP114 q49 l46,tQD v6 l5]) (sI [1,0,2]) ?_))))
    obtain ⟨l52,x53,e54,h⟩:=qt h
    refine L.doesP (A:=[tQw gP114 gP152 qP152 A152]) (M:=[tQt gP114 q49 l46,tQD v6 l5]) rfl qnt rfl (fun w' hw=>W92 a0 x47 A152 gP114 gP152 qP152 w' _ e54 _ hw.lend) ?_
    rintro _ _ ⟨q55,rfl,rfl⟩
    refine L.to (D:=Cls w F [tQw gP114 gP152 q55 l52,tQt gP114 q49 l46,tQD v6 l5]) hI (L.r 1 rfl (ln (W.ret (E.blockR (E.thenR (E.KLR (E.blockR (E.KSR (E.ret1 rfl rfl (fun w1 hw=>?_))))))))))
    cases h
    exact ⟨_,_,rfl,⟨_,_,rfl,rfl⟩,hw.s [1,0]⟩
   exact ln (W.condF rfl (W.skip (E.blockN (E.thenN (W.region (L.m (V:=fun x56=>.int .i64 x56) h rfl (Y.addM rfl rfl) (fun x56 ex56 h=>(L.r 1 rfl (L.nil (E.aJ ⟨x56,l46,q49,rfl,rfl,by rw [hg1];exact h⟩ (sI [1,0,2])))))))))))
  exact ln (W.seq (W.condF rfl (W.exit (E.thenX (E.KLX (E.blockX (E.jJ ⟨gl4,gq5,rfl,rfl,h⟩ hI)))))))
 rintro _ _ ⟨gl1,gq2,rfl,rfl,h⟩
 rw [qhd] at h
 refine sr (L.r 1 rfl ?_)
 obtain ⟨th11,eth11,h⟩:=qc h
 refine L.to (D:=Cls w F (qlP gP152 a0 gP114 th11 qP152 A152 gq2 gl1 v6 l5)) (fun _ hw=>hw.aO 0 rfl eth11) (L.y rfl (Y.apNil rfl eth11) (L.y rfl (Y.fieldP jt rfl) (L.y rfl (Y.loadP (i:=0) ag3 rfl rfl rfl) (L.r 1 rfl (L.y rfl (Y.lenM (g:=SR) (l:=l5) Tryz.underlying111 rfl (fun w hw=>As.at_ (hw.get (i:=3) rfl))) (L.m (V:=fun x12=>.int .i64 x12) h rfl (Y.addM rfl rfl) (fun x12 ex12 h=>(L.y rfl (Y.apNil rfl eth11) (L.y rfl (Y.fieldP jt rfl) (L.sv (i:=0) (vs:=(jX x12)) sz3 rfl rfl rfl rfl rfl nb (nsr ?_)))))))))))
 refine L.r 1 rfl (L.y rfl (Y.apNil rfl eth11) (L.y rfl (Y.fieldP kx rfl) (L.y rfl (Y.loadP (i:=0) ag3 rfl rfl rfl) (L.m (V:=fun x13=>.int .i64 x13) h rfl (Y.addM rfl rfl) (fun x13 ex13 h=>(L.y rfl (Y.apNil rfl eth11) (L.y rfl (Y.fieldP kx rfl) (L.sv (i:=0) (vs:=(jX x13)) sz3 rfl rfl rfl rfl rfl nb (nsr (L.r 1 rfl (L.nil ?_)))))))))))
 refine E.thenN (W.ret ?_)
 obtain ⟨l14,el14,h⟩:=qc h
 refine E.aC (row:=TLog.rowA gP114) (sub:=TLog.subA gP114) (e:=152) (g:=gP152) (gh:=qP152) (vs':=[]) (m':=[tQt gP114 gq2 gl1,tQD v6 l5]) [0,1,2,3] el14 rfl ?_
 intro q15
 refine E.to (D:=Cls w F [tQw gP114 gP152 q15 l14,tQt gP114 gq2 gl1,tQD v6 l5]) hI (E.ret1 rfl rfl (fun w1 hw=>?_))
 cases h
 exact ⟨_,_,rfl,⟨_,_,rfl,rfl⟩,hw.s [1,0]⟩
set_option maxRecDepth 100000 in
set_option maxHeartbeats 8000000 in
theorem W52 (a0:Int) (a1:Int) (A69:(List TStore)) (gP69:Nat→Nat) (gP73:Nat→Nat) (gP152:Nat→Nat) (qP69:Nat→List Value) (w:World) (r:((List TStore)×Int)) (h:M52 a0 a1 A69=some r) (F:List Nat) (hc0:Cls w F [tQH gP69 gP73 gP152 qP69 A69] w):zu Tryz.prog 52 [VP gP69 a0,.int .i64 a1] F w fun u m=>∃ Q69,u=.int .i64 r.2∧m=[zg gP69 gP73 gP152 Q69 r.1 []]:=by
 rw [M52] at h
 refine body (n:=17) Tryz.func52 rfl rfl rfl hc0 ?_
 obtain ⟨th1,eth1,h⟩:=qc h
 refine W.to (D:=Cls w F (vy gP69 a0 gP152 th1 qP69 gP73 A69)) (fun _ hw=>hw.aO 0 rfl eth1) (sr (L.r 1 rfl (nsr (L.r 2 rfl (L.y rfl (Y.apNil rfl eth1) (L.y rfl (Y.fieldP qa7 rfl) ?_))))))
 obtain ⟨_,en2,h⟩:=qc h
 obtain ⟨_,en2⟩:=qd en2
 refine L.iteB h rfl (Y.loadG (q:=0) (si:=3) (ps:=4) (j:=0) (X:=[.bool th1.down_]) ag4 rfl rfl rfl rfl (by simp [zl,en2]) rfl) (fun c3 h=>?_) (fun c3 h=>?_)
 ·refine L.r 4 rfl (L.y rfl (Y.apNil rfl eth1) (L.y rfl (Y.fieldP qa7 rfl) (L.storeG (q:=0) (si:=3) (ps:=4) (j:=0) (X:=[.bool th1.down_]) (vals:=[.bool true]) sz4 rfl rfl rfl rfl rfl (by simp [Value.oneCell',Value.cells,st,pt,el]) rfl rfl (by simp [zl,en2]) rfl (nsr (L.r 2 rfl (ln (W.ret (E.to (D:=Cls w F [.obj (gP69 a0.toNat) (List.flatten [(zr (fzr (PR gP152)) (fun _=>[]) th1.logs_).flatten,[.int .i64 th1.half_],[.int .i64 th1.gen_],[.bool true],[.int .i64 th1.now_],(zr qh (qV ([(gv (qP69 a0.toNat) 0),(gv (qP69 a0.toNat) 1)]++ghl (qV (qP69 a0.toNat) 2) th1.items_.length) 2) th1.items_).flatten,[(gv (qP69 a0.toNat) 0)],[(gv (qP69 a0.toNat) 1)]]) 69,.sl (gv (qP69 a0.toNat) 0) 70 1 (th1.active_.map (PR gP73)),.sl (gv (qP69 a0.toNat) 1) 70 1 (th1.over_.map (PR gP73)),.ss (zs sd0 (fun _=>[]) th1.logs_),.ss (zs (qF 84 2 TVersion.row) (qV ([(gv (qP69 a0.toNat) 0),(gv (qP69 a0.toNat) 1)]++ghl (qV (qP69 a0.toNat) 2) th1.items_.length) 2) th1.items_),zg gP69 gP73 gP152 qP69 A69 (a0.toNat :: [])]) (fun _ hw=>by rw [xz (k8 qP69 a0) _ 2 _ rfl,xy (k8 qP69 a0) _ 2 _ rfl];exact hw) ?_))))))))
  obtain ⟨l5,el5,h⟩:=qc h
  refine E.aC (row:=TStore.rowA gP73 gP152) (sub:=TStore.subA gP73 gP152) (e:=69) (g:=gP69) (gh:=qP69) (vs':=((k8 qP69 a0)++ghl (jD qP69 a0) th1.items_.length)) (m':=[]) [0,1,2,3,4,5] el5 rfl ?_
  intro q4
  refine E.to (D:=Cls w F [tQH gP69 gP73 gP152 q4 l5]) hI (E.ret1 rfl rfl (fun w1 hw=>?_))
  cases h
  exact ⟨_,_,rfl,⟨_,rfl,rfl⟩,hw⟩
 refine L.r 2 rfl (L.take rfl (L.y rfl (Y.neq rfl rfl) (L.r 1 rfl (L.y rfl (Y.apNil rfl eth1) (L.y rfl (Y.fieldP qa7 rfl) (L.storeG (q:=0) (si:=3) (ps:=4) (j:=0) (X:=[.bool th1.down_]) (vals:=[.bool (decide (a1≠0))]) sz4 rfl rfl rfl rfl rfl (by simp [Value.oneCell',Value.cells,st,pt,el]) rfl rfl (by simp [zl,en2]) rfl (nsr (L.r 2 rfl (ln ?_)))))))))
 refine W.ret (E.to (D:=Cls w F [.obj (gP69 a0.toNat) (List.flatten [(zr (fzr (PR gP152)) (fun _=>[]) th1.logs_).flatten,[.int .i64 th1.half_],[.int .i64 th1.gen_],[.bool (decide (a1≠0))],[.int .i64 th1.now_],(zr qh (qV ([(gv (qP69 a0.toNat) 0),(gv (qP69 a0.toNat) 1)]++ghl (qV (qP69 a0.toNat) 2) th1.items_.length) 2) th1.items_).flatten,[(gv (qP69 a0.toNat) 0)],[(gv (qP69 a0.toNat) 1)]]) 69,.sl (gv (qP69 a0.toNat) 0) 70 1 (th1.active_.map (PR gP73)),.sl (gv (qP69 a0.toNat) 1) 70 1 (th1.over_.map (PR gP73)),.ss (zs sd0 (fun _=>[]) th1.logs_),.ss (zs (qF 84 2 TVersion.row) (qV ([(gv (qP69 a0.toNat) 0),(gv (qP69 a0.toNat) 1)]++ghl (qV (qP69 a0.toNat) 2) th1.items_.length) 2) th1.items_),zg gP69 gP73 gP152 qP69 A69 (a0.toNat :: [])]) (fun _ hw=>by rw [xz (k8 qP69 a0) _ 2 _ rfl,xy (k8 qP69 a0) _ 2 _ rfl];exact hw) ?_)
 obtain ⟨l7,el7,h⟩:=qc h
 refine E.aC (row:=TStore.rowA gP73 gP152) (sub:=TStore.subA gP73 gP152) (e:=69) (g:=gP69) (gh:=qP69) (vs':=((k8 qP69 a0)++ghl (jD qP69 a0) th1.items_.length)) (m':=[]) [0,1,2,3,4,5] el7 rfl ?_
 intro q6
 refine E.to (D:=Cls w F [tQH gP69 gP73 gP152 q6 l7]) hI (E.ret1 rfl rfl (fun w1 hw=>?_))
 cases h
 exact ⟨_,_,rfl,⟨_,rfl,rfl⟩,hw⟩
set_option maxRecDepth 100000 in
set_option maxHeartbeats 8000000 in
theorem W53 (a0:Int) (A114:(List TDisk)) (A152:(List TLog)) (gP114:Nat→Nat) (gP152:Nat→Nat) (qP114:Nat→List Value) (qP152:Nat→List Value) (w:World) (r:((List TDisk)×(List TLog)×Int)) (h:M53 a0 A114 A152=some r) (F:List Nat) (hc0:Cls w F (zd gP114 qP114 A114 gP152 qP152 A152) w):zu Tryz.prog 53 [VP gP152 a0] F w fun u m=>∃ Q114 Q152,u=.int .i64 r.2.2∧m=[qS gP114 Q114 r.1 [],qY gP114 gP152 Q152 r.2.1 []]:=by
 rw [M53] at h
 refine body (n:=14) Tryz.func53 rfl rfl rfl hc0 (sr (L.r 1 rfl (ln (W.seq (sr (L.r 1 rfl ?_))))))
 obtain ⟨th1,eth1,h⟩:=qc h
 refine L.to (D:=qjB w F gP152 a0 gP114 th1 qP152 A152 qP114 A114) (fun _ hw=>hw.aO 1 rfl eth1) (L.y rfl (Y.apNil rfl eth1) (L.y rfl (Y.fieldP vP rfl) (L.iteB h rfl (Y.loadP (i:=0) ag4 rfl rfl rfl) (fun c2 h=>?_) (fun c2 h=>?_))))
 ·refine ln (W.condT rfl (sr (L.r 1 rfl (ln (W.ret (E.thenR (E.to (D:=qbG w F gP114 gP152 qP152 A152 qP114 A114) (fun _ hw=>hw.aS [0,1,2] eth1 rfl) (E.ret1 rfl rfl (fun w1 hw=>?_)))))))))
  cases h
  exact ⟨_,_,rfl,⟨_,_,rfl,rfl⟩,hw.s [1,0]⟩
 refine ln (W.condF rfl (W.skip (E.thenN (sr (L.r 2 rfl (L.y rfl (Y.apNil rfl eth1) (L.y rfl (Y.fieldP ky rfl) (L.y rfl (Y.loadP (i:=0) ql3 rfl rfl rfl) (L.to (D:=qbG w F gP114 gP152 qP152 A152 qP114 A114) (fun _ hw=>hw.aS [0,1,2] eth1 rfl) (L.to (D:=Cls w F (zd gP114 qP114 A114 gP152 qP152 A152)) (sI [1,0]) ?_))))))))))
 obtain ⟨l3,x4,e5,h⟩:=qt h
 refine L.doesP (A:=[tQt gP114 qP114 A114]) (M:=[tQw gP114 gP152 qP152 A152]) rfl (by kernel_rfl) rfl (fun w' hw=>W93 th1.d_ A114 gP114 qP114 w' _ e5 _ hw.lend) ?_
 rintro _ _ ⟨q6,rfl,rfl⟩
 refine L.to (D:=Cls w F (zd gP114 q6 l3 gP152 qP152 A152)) hI (L.to (D:=qbG w F gP114 gP152 qP152 A152 q6 l3) (sI [1,0]) ?_)
 obtain ⟨l7,x8,e9,h⟩:=qt h
 refine L.doesP (A:=[tQw gP114 gP152 qP152 A152]) (M:=[tQt gP114 q6 l3]) rfl qnt rfl (fun w' hw=>W92 a0 x4 A152 gP114 gP152 qP152 w' _ e9 _ hw.lend) ?_
 rintro _ _ ⟨q10,rfl,rfl⟩
 refine L.to (D:=qbG w F gP114 gP152 q10 l7 q6 l3) hI (L.r 1 rfl (ln (W.ret (E.ret1 rfl rfl (fun w1 hw=>?_)))))
 cases h
 exact ⟨_,_,rfl,⟨_,_,rfl,rfl⟩,hw.s [1,0]⟩
end Go.Proofs.YtdlemoeinjihkaaGreatDoor
