import Derived.Test.YtbjidacdnjojnaaGreatDoorToW3
import Derived.Test.YtbjidacdnjojnaaGreatDoorChecked
import Derived.KernelRfl
import Derived.Test.YtbjidacdnjojnaaGreatDoorZe
namespace Go.Proofs.YtbjidacdnjojnaaGreatDoor
open Go.S
set_option linter.unusedVariables false
set_option linter.unusedSimpArgs false
set_option maxRecDepth 100000 in
set_option maxHeartbeats 8000000 in
theorem W34 (a0:Int) (a1:Int) (A60:(List TDisk)) (A70:(List TStore)) (A88:(List Ttx)) (A100:(List TLog)) (gP60:Nat→Nat) (gP70:Nat→Nat) (gP88:Nat→Nat) (gP100:Nat→Nat) (qP60:Nat→List Value) (qP70:Nat→List Value) (qP88:Nat→List Value) (qP100:Nat→List Value) (w:World) (r:((List TDisk)×(List TStore)×(List TLog)×Int)) (h:M34 a0 a1 A60 A70 A88 A100=some r) (F:List Nat) (hc0:Cls w F [qe gP60 qP60 A60 [],qf gP70 gP88 gP100 qP70 A70 [],qj gP88 qP88 A88 [],qc gP60 gP100 qP100 A100 []] w):zg Tryz.prog 34 [VP gP70 a0,VP gP88 a1] F w fun u m=>∃ Q60 Q70 Q100,u=.int .i64 r.2.2.2∧m=[qe gP60 Q60 r.1 [],qf gP70 gP88 gP100 Q70 r.2.1 [],qj gP88 qP88 A88 [],qc gP60 gP100 Q100 r.2.2.1 []]:=by
 rw [M34] at h
 refine body (n:=67) Tryz.func34 rfl rfl rfl hc0 ?_
 obtain ⟨th1,eth1,h⟩:=qd h
 refine W.to (D:=Cls w F [.obj (gP70 a0.toNat) (List.flatten [(zr (fzr (PR gP100)) (fun _=>[]) th1.logs_).flatten,[.int .i64 th1.half_],[.int .i64 th1.gen_],[.bool th1.down_],[.int .i64 th1.now_],(zr qi (qk (qP70 a0.toNat) 2) th1.items_).flatten,[(gv (qP70 a0.toNat) 0)],[(gv (qP70 a0.toNat) 1)]]) 70,.sl (gv (qP70 a0.toNat) 0) 84 1 (th1.active_.map (PR gP88)),.sl (gv (qP70 a0.toNat) 1) 84 1 (th1.over_.map (PR gP88)),.ss (zs sd0 (fun _=>[]) th1.logs_),.ss (zs (qq 79 2 TVersion.row) (qk (qP70 a0.toNat) 2) th1.items_),qf gP70 gP88 gP100 qP70 A70 (a0.toNat :: []),qe gP60 qP60 A60 [],qj gP88 qP88 A88 [],qc gP60 gP100 qP100 A100 []]) (fun _ hw=>hw.arOpen (p:=1) rfl eth1 List.not_mem_nil) (sr (L.r 1 rfl (ln (W.seq (sr (L.r 1 rfl (L.to (D:=Cls w F [qf gP70 gP88 gP100 qP70 A70 [],qe gP60 qP60 A60 [],qj gP88 qP88 A88 [],qc gP60 gP100 qP100 A100 []]) (fun _ hw=>hw.arShut (hs':=(a0.toNat :: [])) [0,1,2,3,4,5,6,7,8] eth1 (by decide) rfl (fun _=>List.mem_cons) List.not_mem_nil) ?_)))))))
 obtain ⟨th2,eth2,h⟩:=qd h
 refine L.to (D:=Cls w F [.obj (gP88 a1.toNat) (List.flatten [[.int .i64 th2.id_],[.int .i64 th2.from_],[.int .i64 th2.at_],[(gv (qP88 a1.toNat) 0)],[(gv (qP88 a1.toNat) 1)],(zr (fzr SR) (fun _=>[]) th2.texts_).flatten,[.bool th2.in_],[.bool th2.out_]]) 88,.sl (gv (qP88 a1.toNat) 0) 3 1 (th2.reads_.map I),.sl (gv (qP88 a1.toNat) 1) 3 1 (th2.writes_.map I),.ss (zs sd0 (fun _=>[]) th2.texts_),qj gP88 qP88 A88 (a1.toNat :: []),qf gP70 gP88 gP100 qP70 A70 [],qe gP60 qP60 A60 [],qc gP60 gP100 qP100 A100 []]) (fun _ hw=>hw.arOpen (p:=2) rfl eth2 List.not_mem_nil) (L.y rfl (Y.apNil rfl eth2) (L.y rfl (Y.fieldP xm rfl) (L.y rfl (Y.loadG (q:=0) (si:=4) (ps:=4) (j:=0) (X:=[(gv (qP88 a1.toNat) 1)]) qab rfl rfl rfl rfl (sl1 (a:=1) (p:=3) rfl (sl1 (a:=1) (p:=2) rfl (sl1 (a:=1) (p:=1) rfl (sl1 (a:=1) (p:=0) rfl sl0)))) rfl) (L.y rfl (Y.lenM (g:=I) (l:=th2.writes_) Tryz.underlying86 rfl (fun w hw=>As.at_ (hw.get (i:=2) rfl))) (L.ite h rfl (Y.eql rfl rfl) (fun c3 h=>?_) (fun c3 h=>?_))))))
 ·refine ln (W.condT rfl (sr (L.r 1 rfl (ln (W.ret (E.thenR (E.to (D:=Cls w F [qj gP88 qP88 A88 [],qf gP70 gP88 gP100 qP70 A70 [],qe gP60 qP60 A60 [],qc gP60 gP100 qP100 A100 []]) (fun _ hw=>hw.arShut (hs':=(a1.toNat :: [])) [0,1,2,3,4,5,6,7] eth2 (by decide) rfl (fun _=>List.mem_cons) List.not_mem_nil) (E.ret1 rfl rfl (fun w1 hw=>?_)))))))))
  cases h
  exact ⟨_,_,rfl,⟨_,_,_,rfl,rfl⟩,hw.s [2,1,0,3]⟩
 refine ln (W.condF rfl (W.skip (E.thenN (sr (L.r 1 rfl (L.y rfl (Y.apNil rfl eth2) (L.y rfl (Y.fieldP xm rfl) (L.y rfl (Y.loadG (q:=0) (si:=4) (ps:=4) (j:=0) (X:=[(gv (qP88 a1.toNat) 1)]) qab rfl rfl rfl rfl (sl1 (a:=1) (p:=3) rfl (sl1 (a:=1) (p:=2) rfl (sl1 (a:=1) (p:=1) rfl (sl1 (a:=1) (p:=0) rfl sl0)))) rfl) ?_))))))))
 obtain ⟨l4,e6,h⟩:=qd h
 refine L.does rfl qkc rfl (fun w' hw=>W57 th2.writes_ (gv (qP88 a1.toNat) 1) w' _ e6 (As.at_ (hw.get (i:=2) rfl))) ?_
 rintro v5 _ ⟨_,rfl,rfl⟩
 refine L.r 1 rfl (nsr (L.r 1 rfl (L.sortMD (i:=0) (l:=l4) h qjz rfl qi2 rfl rfl ?_)))
 intro l7 el7 h
 refine nsr (L.r 1 rfl (ln (W.seqJ (fun gs D=>∃ gs1,gs=[(0,VP gP70 a0),(6,st gs1)]∧D=Cls w F [qj gP88 qP88 A88 [],qf gP70 gP88 gP100 qP70 A70 [],qe gP60 qP60 A60 [],qc gP60 gP100 qP100 A100 []]∧qeP A70 a0 A60 A100 gs1=some r) ?_ ?_)))
 ·refine sr (L.r 1 rfl (L.y rfl (Y.lenM (g:=I) (l:=l7) Tryz.underlying86 rfl (fun w hw=>As.at_ (hw.get (i:=0) rfl))) (L.r 1 rfl (ln (W.block (W.to (D:=Cls w F [qj gP88 qP88 A88 [],.sl v5 3 1 (l7.map I),qf gP70 gP88 gP100 qP70 A70 [],qe gP60 qP60 A60 [],qc gP60 gP100 qP100 A100 []]) (fun _ hw=>hw.arShut (hs':=(a1.toNat :: [])) [1,2,3,4,5,0,6,7,8] eth2 (by decide) rfl (fun _=>List.mem_cons) List.not_mem_nil) (W.loopJ (fun m gs D=>∃ gs2 gx3,gs=[(0,VP gP70 a0),(1,VP gP88 a1),(6,st gs2),(24,v5),(25,.int .i64 (l7.length:Int)),(26,.int .i64 gx3)]∧D=Cls w F [qj gP88 qP88 A88 [],qf gP70 gP88 gP100 qP70 A70 [],qe gP60 qP60 A60 [],qc gP60 gP100 qP100 A100 [],.sl v5 3 1 (l7.map I)]∧wU l7 A88 a1 A70 a0 A60 A100 m gs2 gx3=some r) ⟨[67],0,rfl,rfl,h⟩ ⟨rfl,rfl,rfl,rfl,rfl,rfl,trivial⟩ (sI [0,2,3,4,1]) ?_)))))))
  rintro m _ _ ⟨gs2,gx3,rfl,rfl,h⟩
  rcases m with _ | m
  ·rw [wU] at h;cases h
  rw [wU] at h
  generalize hg1:wU l7 A88 a1 A70 a0 A60 A100 m=go1 at h
  rw [qbP] at h
  refine sr (L.ite h rfl (Y.lss rfl rfl) (fun c36 h=>?_) (fun c36 h=>?_))
  ·refine ln (W.seq (W.condT rfl (W.skip (E.thenN (W.seq (W.block (sr (L.m (V:=fun _=>el v5 (gx3.toNat*1)) h rfl (Y.indexM (g:=I) (l:=l7) Tryz.underlying86 sz3 rfl rfl (fun w hw=>As.at_ (hw.get (i:=4) rfl))) (fun x37 ex37 h=>(L.y rfl (Y.loadE1 (u:=.int .i64 x37) ag3 rfl (fun w hw=>As.at_ (hw.get (i:=4) rfl)) (qx ex37)) (L.r 1 rfl (L.nil ?_))))))))))))
   refine E.thenN (W.region (L.r 4 rfl ?_))
   obtain ⟨th38,eth38,h⟩:=qd h
   refine L.to (D:=Cls w F [.obj (gP88 a1.toNat) (List.flatten [[.int .i64 th38.id_],[.int .i64 th38.from_],[.int .i64 th38.at_],[(gv (qP88 a1.toNat) 0)],[(gv (qP88 a1.toNat) 1)],(zr (fzr SR) (fun _=>[]) th38.texts_).flatten,[.bool th38.in_],[.bool th38.out_]]) 88,.sl (gv (qP88 a1.toNat) 0) 3 1 (th38.reads_.map I),.sl (gv (qP88 a1.toNat) 1) 3 1 (th38.writes_.map I),.ss (zs sd0 (fun _=>[]) th38.texts_),qj gP88 qP88 A88 (a1.toNat :: []),qf gP70 gP88 gP100 qP70 A70 [],qe gP60 qP60 A60 [],qc gP60 gP100 qP100 A100 [],.sl v5 3 1 (l7.map I)]) (fun _ hw=>hw.arOpen (p:=0) rfl eth38 List.not_mem_nil) (L.y rfl (Y.apNil rfl eth38) (L.y rfl (Y.fieldP yW rfl) (L.m (V:=fun _=>pt (gP88 a1.toNat) (5+x37.toNat*1)) h rfl (Y.indexAS (l:=th38.texts_) Tryz.underlying30 sz9 rfl rfl) (fun x39 ex39 h=>(L.y rfl (Y.loadZg (si:=5) (ps:=5) (q:=0) (row:=(fzr SR)) (vs:=(fun _=>[])) (j:=0) (pv:=st x39) ag9 rfl rfl rfl rfl (sl1 (a:=1) (p:=4) rfl (sl1 (a:=1) (p:=3) rfl (sl1 (a:=1) (p:=2) rfl (sl1 (a:=1) (p:=1) rfl (sl1 (a:=1) (p:=0) rfl sl0))))) (fun _ _=>rfl) (qt ex39) rfl) ?_)))))
   obtain ⟨s40,e41,h⟩:=qd h
   exact L.y rfl (Y.does qkl rfl (fun w' hw=>(W26 x37 x39 w' _ e41).mono (fun _ _ h=>h.1))) (L.m (V:=fun s42=>st s42) h rfl (Y.catM rfl rfl) (fun s42 es42 h=>(L.r 1 rfl (L.nil (E.blockN (E.thenN (W.region (L.m (V:=fun x43=>.int .i64 x43) h rfl (Y.addM rfl rfl) (fun x43 ex43 h=>(L.r 1 rfl (L.nil (E.to (D:=Cls w F [qj gP88 qP88 A88 [],qf gP70 gP88 gP100 qP70 A70 [],qe gP60 qP60 A60 [],qc gP60 gP100 qP100 A100 [],.sl v5 3 1 (l7.map I)]) (fun _ hw=>hw.arShut (hs':=(a1.toNat :: [])) [0,1,2,3,4,5,6,7,8] eth38 (by decide) rfl (fun _=>List.mem_cons) List.not_mem_nil) (E.aJ ⟨s42,x43,rfl,rfl,by rw [hg1];exact h⟩ hI)))))))))))))
  exact ln (W.seq (W.condF rfl (W.exit (E.thenX (E.KLX (E.blockX (E.jJ ⟨gs2,rfl,rfl,h⟩ (sI [0,1,2,3]))))))))
 rintro _ _ ⟨gs1,rfl,rfl,h⟩
 rw [qeP] at h
 refine W.seq ?_
 obtain ⟨th8,eth8,h⟩:=qd h
 refine W.to (D:=Cls w F [.obj (gP70 a0.toNat) (List.flatten [(zr (fzr (PR gP100)) (fun _=>[]) th8.logs_).flatten,[.int .i64 th8.half_],[.int .i64 th8.gen_],[.bool th8.down_],[.int .i64 th8.now_],(zr qi (qk (qP70 a0.toNat) 2) th8.items_).flatten,[(gv (qP70 a0.toNat) 0)],[(gv (qP70 a0.toNat) 1)]]) 70,.sl (gv (qP70 a0.toNat) 0) 84 1 (th8.active_.map (PR gP88)),.sl (gv (qP70 a0.toNat) 1) 84 1 (th8.over_.map (PR gP88)),.ss (zs sd0 (fun _=>[]) th8.logs_),.ss (zs (qq 79 2 TVersion.row) (qk (qP70 a0.toNat) 2) th8.items_),qf gP70 gP88 gP100 qP70 A70 (a0.toNat :: []),qj gP88 qP88 A88 [],qe gP60 qP60 A60 [],qc gP60 gP100 qP100 A100 []]) (fun _ hw=>hw.arOpen (p:=1) rfl eth8 List.not_mem_nil) (W.quietC mixed (by kernel_rfl) (fun _ hw=>hw.drew) (fun hC=>(U.r 2 rfl (U.y rfl (Y.apNil rfl eth8) (U.y rfl (Y.fieldP vb rfl) ?_)))))
 obtain ⟨_,en9,h⟩:=qd h
 obtain ⟨_,en9⟩:=qh en9
 refine U.y rfl (Y.loadG (q:=0) (si:=1) (ps:=2) (j:=0) (X:=[.int .i64 th8.half_]) ag3 rfl rfl rfl rfl (sl1 (a:=2) (p:=0) (zrN (nn:=2) (k:=1) (fun _ _=>rfl) en9) sl0) rfl) (U.y rfl (Y.apNil rfl eth8) (U.y rfl (Y.fieldP qbu rfl) (U.m (V:=fun _=>pt (gP70 a0.toNat) (0+th8.half_.toNat*1)) h rfl (Y.indexAS (l:=th8.logs_) Tryz.underlying65 qia rfl rfl) (fun x10 ex10 h=>(U.y rfl (Y.loadZg (si:=0) (ps:=0) (q:=0) (row:=(fzr (PR gP100))) (vs:=(fun _=>[])) (j:=0) (pv:=VP gP100 x10) qkq rfl rfl rfl rfl sl0 (fun _ _=>rfl) (qt ex10) rfl) (U.r 1 rfl (U.nil (E.thenN (W.seq (sr (L.r 2 rfl (L.to (D:=Cls w F [qe gP60 qP60 A60 [],qc gP60 gP100 qP100 A100 [],.obj (gP70 a0.toNat) (List.flatten [(zr (fzr (PR gP100)) (fun _=>[]) th8.logs_).flatten,[.int .i64 th8.half_],[.int .i64 th8.gen_],[.bool th8.down_],[.int .i64 th8.now_],(zr qi (qk (qP70 a0.toNat) 2) th8.items_).flatten,[(gv (qP70 a0.toNat) 0)],[(gv (qP70 a0.toNat) 1)]]) 70,.sl (gv (qP70 a0.toNat) 0) 84 1 (th8.active_.map (PR gP88)),.sl (gv (qP70 a0.toNat) 1) 84 1 (th8.over_.map (PR gP88)),.ss (zs sd0 (fun _=>[]) th8.logs_),.ss (zs (qq 79 2 TVersion.row) (qk (qP70 a0.toNat) 2) th8.items_),qf gP70 gP88 gP100 qP70 A70 (a0.toNat :: []),qj gP88 qP88 A88 []]) (sI [7,8,0,1,2,3,4,5,6]) ?_))))))))))))
 obtain ⟨l11,l12,x13,e14,h⟩:=qW h
 refine L.doesP (A:=[qe gP60 qP60 A60 [],qc gP60 gP100 qP100 A100 []]) (M:=[.obj (gP70 a0.toNat) (List.flatten [(zr (fzr (PR gP100)) (fun _=>[]) th8.logs_).flatten,[.int .i64 th8.half_],[.int .i64 th8.gen_],[.bool th8.down_],[.int .i64 th8.now_],(zr qi (qk (qP70 a0.toNat) 2) th8.items_).flatten,[(gv (qP70 a0.toNat) 0)],[(gv (qP70 a0.toNat) 1)]]) 70,.sl (gv (qP70 a0.toNat) 0) 84 1 (th8.active_.map (PR gP88)),.sl (gv (qP70 a0.toNat) 1) 84 1 (th8.over_.map (PR gP88)),.ss (zs sd0 (fun _=>[]) th8.logs_),.ss (zs (qq 79 2 TVersion.row) (qk (qP70 a0.toNat) 2) th8.items_),qf gP70 gP88 gP100 qP70 A70 (a0.toNat :: []),qj gP88 qP88 A88 []]) rfl qkk rfl (fun w' hw=>W27 x10 gs1 A60 A100 gP60 gP100 qP60 qP100 w' _ e14 _ hw.lend) ?_
 rintro _ _ ⟨q15,q16,rfl,rfl⟩
 refine L.to (D:=Cls w F [qe gP60 q15 l11 [],qc gP60 gP100 q16 l12 [],.obj (gP70 a0.toNat) (List.flatten [(zr (fzr (PR gP100)) (fun _=>[]) th8.logs_).flatten,[.int .i64 th8.half_],[.int .i64 th8.gen_],[.bool th8.down_],[.int .i64 th8.now_],(zr qi (qk (qP70 a0.toNat) 2) th8.items_).flatten,[(gv (qP70 a0.toNat) 0)],[(gv (qP70 a0.toNat) 1)]]) 70,.sl (gv (qP70 a0.toNat) 0) 84 1 (th8.active_.map (PR gP88)),.sl (gv (qP70 a0.toNat) 1) 84 1 (th8.over_.map (PR gP88)),.ss (zs sd0 (fun _=>[]) th8.logs_),.ss (zs (qq 79 2 TVersion.row) (qk (qP70 a0.toNat) 2) th8.items_),qf gP70 gP88 gP100 qP70 A70 (a0.toNat :: []),qj gP88 qP88 A88 []]) hI (L.r 1 rfl (nsr (L.r 1 rfl (ln (W.block (sr (L.ite h rfl (Y.eql rfl rfl) (fun c17 h=>?_) (fun c17 h=>?_))))))))
 ·refine L.r 1 rfl (ln (W.condT rfl (W.skip (E.blockN (E.thenN (sr (L.r 2 rfl ?_)))))))
  obtain ⟨l18,l19,x20,e21,h⟩:=qW h
  refine L.doesP (A:=[qe gP60 q15 l11 [],qc gP60 gP100 q16 l12 []]) (M:=[.obj (gP70 a0.toNat) (List.flatten [(zr (fzr (PR gP100)) (fun _=>[]) th8.logs_).flatten,[.int .i64 th8.half_],[.int .i64 th8.gen_],[.bool th8.down_],[.int .i64 th8.now_],(zr qi (qk (qP70 a0.toNat) 2) th8.items_).flatten,[(gv (qP70 a0.toNat) 0)],[(gv (qP70 a0.toNat) 1)]]) 70,.sl (gv (qP70 a0.toNat) 0) 84 1 (th8.active_.map (PR gP88)),.sl (gv (qP70 a0.toNat) 1) 84 1 (th8.over_.map (PR gP88)),.ss (zs sd0 (fun _=>[]) th8.logs_),.ss (zs (qq 79 2 TVersion.row) (qk (qP70 a0.toNat) 2) th8.items_),qf gP70 gP88 gP100 qP70 A70 (a0.toNat :: []),qj gP88 qP88 A88 []]) rfl qkj rfl (fun w' hw=>W28 x10 l11 l12 gP60 gP100 q15 q16 w' _ e21 _ hw.lend) ?_
  rintro _ _ ⟨q22,q23,rfl,rfl⟩
  refine L.to (D:=Cls w F [qe gP60 q22 l18 [],qc gP60 gP100 q23 l19 [],.obj (gP70 a0.toNat) (List.flatten [(zr (fzr (PR gP100)) (fun _=>[]) th8.logs_).flatten,[.int .i64 th8.half_],[.int .i64 th8.gen_],[.bool th8.down_],[.int .i64 th8.now_],(zr qi (qk (qP70 a0.toNat) 2) th8.items_).flatten,[(gv (qP70 a0.toNat) 0)],[(gv (qP70 a0.toNat) 1)]]) 70,.sl (gv (qP70 a0.toNat) 0) 84 1 (th8.active_.map (PR gP88)),.sl (gv (qP70 a0.toNat) 1) 84 1 (th8.over_.map (PR gP88)),.ss (zs sd0 (fun _=>[]) th8.logs_),.ss (zs (qq 79 2 TVersion.row) (qk (qP70 a0.toNat) 2) th8.items_),qf gP70 gP88 gP100 qP70 A70 (a0.toNat :: []),qj gP88 qP88 A88 []]) hI (L.to (D:=Cls w F [qf gP70 gP88 gP100 qP70 A70 [],qe gP60 q22 l18 [],qc gP60 gP100 q23 l19 [],qj gP88 qP88 A88 []]) (fun _ hw=>hw.arShut (hs':=(a0.toNat :: [])) [2,3,4,5,6,7,0,1,8] eth8 (by decide) rfl (fun _=>List.mem_cons) List.not_mem_nil) ?_)
  obtain ⟨l24,x25,e26,h⟩:=qB h
  refine L.doesP (A:=[qf gP70 gP88 gP100 qP70 A70 []]) (M:=[qe gP60 q22 l18 [],qc gP60 gP100 q23 l19 [],qj gP88 qP88 A88 []]) rfl kz rfl (fun w' hw=>W25 a0 x20 A70 gP70 gP88 gP100 qP70 w' _ e26 _ hw.lend) ?_
  rintro _ _ ⟨q27,rfl,rfl⟩
  refine L.to (D:=Cls w F [qf gP70 gP88 gP100 q27 l24 [],qe gP60 q22 l18 [],qc gP60 gP100 q23 l19 [],qj gP88 qP88 A88 []]) hI ?_
  obtain ⟨th28,eth28,h⟩:=qd h
  refine L.to (D:=Cls w F [.obj (gP70 a0.toNat) (List.flatten [(zr (fzr (PR gP100)) (fun _=>[]) th28.logs_).flatten,[.int .i64 th28.half_],[.int .i64 th28.gen_],[.bool th28.down_],[.int .i64 th28.now_],(zr qi (qk (q27 a0.toNat) 2) th28.items_).flatten,[(gv (q27 a0.toNat) 0)],[(gv (q27 a0.toNat) 1)]]) 70,.sl (gv (q27 a0.toNat) 0) 84 1 (th28.active_.map (PR gP88)),.sl (gv (q27 a0.toNat) 1) 84 1 (th28.over_.map (PR gP88)),.ss (zs sd0 (fun _=>[]) th28.logs_),.ss (zs (qq 79 2 TVersion.row) (qk (q27 a0.toNat) 2) th28.items_),qf gP70 gP88 gP100 q27 l24 (a0.toNat :: []),qe gP60 q22 l18 [],qc gP60 gP100 q23 l19 [],qj gP88 qP88 A88 []]) (fun _ hw=>hw.arOpen (p:=0) rfl eth28 List.not_mem_nil) (L.r 1 rfl (ln (W.ret (E.to (D:=Cls w F [qf gP70 gP88 gP100 q27 l24 [],qe gP60 q22 l18 [],qc gP60 gP100 q23 l19 [],qj gP88 qP88 A88 []]) (fun _ hw=>hw.arShut (hs':=(a0.toNat :: [])) [0,1,2,3,4,5,6,7,8] eth28 (by decide) rfl (fun _=>List.mem_cons) List.not_mem_nil) (E.ret1 rfl rfl (fun w1 hw=>?_))))))
  cases h
  exact ⟨_,_,rfl,⟨_,_,_,rfl,rfl⟩,hw.s [1,0,3,2]⟩
 refine L.r 1 rfl (ln (W.condF rfl (W.seq (sr (L.ite h rfl (Y.eql rfl rfl) (fun c29 h=>?_) (fun c29 h=>?_))))))
 ·refine L.r 1 rfl (ln (W.condT rfl (W.skip (E.thenN (W.condT rfl (sr (L.r 2 rfl (ln (W.ret (E.blockR ?_))))))))))
  refine E.thenR (E.to (D:=Cls w F [qf gP70 gP88 gP100 qP70 A70 [],qe gP60 q15 l11 [],qc gP60 gP100 q16 l12 [],qj gP88 qP88 A88 []]) (fun _ hw=>hw.arShut (hs':=(a0.toNat :: [])) [2,3,4,5,6,7,0,1,8] eth8 (by decide) rfl (fun _=>List.mem_cons) List.not_mem_nil) (E.ret1 rfl rfl (fun w1 hw=>?_)))
  cases h
  exact ⟨_,_,rfl,⟨_,_,_,rfl,rfl⟩,hw.s [1,0,3,2]⟩
 refine L.r 1 rfl (ln (W.condF rfl (W.region (L.ite h rfl (Y.eql rfl rfl) (fun c30 h=>?_) (fun c30 h=>?_)))))
 ·refine L.r 1 rfl (ln (W.condT rfl (sr (L.r 2 rfl (ln (W.ret (E.blockR (E.thenR (E.to (D:=Cls w F [qf gP70 gP88 gP100 qP70 A70 [],qe gP60 q15 l11 [],qc gP60 gP100 q16 l12 [],qj gP88 qP88 A88 []]) (fun _ hw=>hw.arShut (hs':=(a0.toNat :: [])) [2,3,4,5,6,7,0,1,8] eth8 (by decide) rfl (fun _=>List.mem_cons) List.not_mem_nil) (E.ret1 rfl rfl (fun w1 hw=>?_)))))))))))
  cases h
  exact ⟨_,_,rfl,⟨_,_,_,rfl,rfl⟩,hw.s [1,0,3,2]⟩
 refine L.r 1 rfl (ln (W.condF rfl (sr (L.r 2 rfl (L.to (D:=Cls w F [qf gP70 gP88 gP100 qP70 A70 [],qe gP60 q15 l11 [],qc gP60 gP100 q16 l12 [],qj gP88 qP88 A88 []]) (fun _ hw=>hw.arShut (hs':=(a0.toNat :: [])) [2,3,4,5,6,7,0,1,8] eth8 (by decide) rfl (fun _=>List.mem_cons) List.not_mem_nil) ?_)))))
 obtain ⟨l31,x32,e33,h⟩:=qB h
 refine L.doesP (A:=[qf gP70 gP88 gP100 qP70 A70 []]) (M:=[qe gP60 q15 l11 [],qc gP60 gP100 q16 l12 [],qj gP88 qP88 A88 []]) rfl kz rfl (fun w' hw=>W25 a0 x13 A70 gP70 gP88 gP100 qP70 w' _ e33 _ hw.lend) ?_
 rintro _ _ ⟨q34,rfl,rfl⟩
 refine L.to (D:=Cls w F [qf gP70 gP88 gP100 q34 l31 [],qe gP60 q15 l11 [],qc gP60 gP100 q16 l12 [],qj gP88 qP88 A88 []]) hI ?_
 obtain ⟨th35,eth35,h⟩:=qd h
 refine L.to (D:=Cls w F [.obj (gP70 a0.toNat) (List.flatten [(zr (fzr (PR gP100)) (fun _=>[]) th35.logs_).flatten,[.int .i64 th35.half_],[.int .i64 th35.gen_],[.bool th35.down_],[.int .i64 th35.now_],(zr qi (qk (q34 a0.toNat) 2) th35.items_).flatten,[(gv (q34 a0.toNat) 0)],[(gv (q34 a0.toNat) 1)]]) 70,.sl (gv (q34 a0.toNat) 0) 84 1 (th35.active_.map (PR gP88)),.sl (gv (q34 a0.toNat) 1) 84 1 (th35.over_.map (PR gP88)),.ss (zs sd0 (fun _=>[]) th35.logs_),.ss (zs (qq 79 2 TVersion.row) (qk (q34 a0.toNat) 2) th35.items_),qf gP70 gP88 gP100 q34 l31 (a0.toNat :: []),qe gP60 q15 l11 [],qc gP60 gP100 q16 l12 [],qj gP88 qP88 A88 []]) (fun _ hw=>hw.arOpen (p:=0) rfl eth35 List.not_mem_nil) (L.r 1 rfl (ln (W.ret (E.blockR (E.thenR (E.to (D:=Cls w F [qf gP70 gP88 gP100 q34 l31 [],qe gP60 q15 l11 [],qc gP60 gP100 q16 l12 [],qj gP88 qP88 A88 []]) (fun _ hw=>hw.arShut (hs':=(a0.toNat :: [])) [0,1,2,3,4,5,6,7,8] eth35 (by decide) rfl (fun _=>List.mem_cons) List.not_mem_nil) (E.ret1 rfl rfl (fun w1 hw=>?_))))))))
 cases h
 exact ⟨_,_,rfl,⟨_,_,_,rfl,rfl⟩,hw.s [1,0,3,2]⟩
set_option maxRecDepth 100000 in
set_option maxHeartbeats 8000000 in
theorem W16 (a0:Int) (a1:Int) (A60:(List TDisk)) (A70:(List TStore)) (A88:(List Ttx)) (A100:(List TLog)) (gP60:Nat→Nat) (gP70:Nat→Nat) (gP88:Nat→Nat) (gP100:Nat→Nat) (qP60:Nat→List Value) (qP70:Nat→List Value) (qP88:Nat→List Value) (qP100:Nat→List Value) (w:World) (r:((List TDisk)×(List TStore)×(List Ttx)×(List TLog)×Int)) (h:M16 a0 a1 A60 A70 A88 A100=some r) (F:List Nat) (hc0:Cls w F [qe gP60 qP60 A60 [],qf gP70 gP88 gP100 qP70 A70 [],qj gP88 qP88 A88 [],qc gP60 gP100 qP100 A100 []] w):zg Tryz.prog 16 [VP gP70 a0,.int .i64 a1] F w fun u m=>∃ Q60 Q70 Q88 Q100,u=.int .i64 r.2.2.2.2∧m=[qe gP60 Q60 r.1 [],qf gP70 gP88 gP100 Q70 r.2.1 [],qj gP88 Q88 r.2.2.1 [],qc gP60 gP100 Q100 r.2.2.2.1 []]:=by
 rw [M16] at h
 refine body (n:=131) Tryz.func16 rfl rfl rfl hc0 ?_
 obtain ⟨th1,eth1,h⟩:=qd h
 refine W.to (D:=Cls w F [.obj (gP70 a0.toNat) (List.flatten [(zr (fzr (PR gP100)) (fun _=>[]) th1.logs_).flatten,[.int .i64 th1.half_],[.int .i64 th1.gen_],[.bool th1.down_],[.int .i64 th1.now_],(zr qi (qk (qP70 a0.toNat) 2) th1.items_).flatten,[(gv (qP70 a0.toNat) 0)],[(gv (qP70 a0.toNat) 1)]]) 70,.sl (gv (qP70 a0.toNat) 0) 84 1 (th1.active_.map (PR gP88)),.sl (gv (qP70 a0.toNat) 1) 84 1 (th1.over_.map (PR gP88)),.ss (zs sd0 (fun _=>[]) th1.logs_),.ss (zs (qq 79 2 TVersion.row) (qk (qP70 a0.toNat) 2) th1.items_),qf gP70 gP88 gP100 qP70 A70 (a0.toNat :: []),qe gP60 qP60 A60 [],qj gP88 qP88 A88 [],qc gP60 gP100 qP100 A100 []]) (fun _ hw=>hw.arOpen (p:=1) rfl eth1 List.not_mem_nil) (sr (L.r 1 rfl (nsr (L.r 2 rfl (L.to (D:=Cls w F [qf gP70 gP88 gP100 qP70 A70 [],qe gP60 qP60 A60 [],qj gP88 qP88 A88 [],qc gP60 gP100 qP100 A100 []]) (fun _ hw=>hw.arShut (hs':=(a0.toNat :: [])) [0,1,2,3,4,5,6,7,8] eth1 (by decide) rfl (fun _=>List.mem_cons) List.not_mem_nil) (L.to (D:=Cls w F [qf gP70 gP88 gP100 qP70 A70 [],qj gP88 qP88 A88 [],qe gP60 qP60 A60 [],qc gP60 gP100 qP100 A100 []]) (sI [0,2,1,3]) ?_))))))
 obtain ⟨x2,x3,e4,h⟩:=qB h
 refine L.doesP (A:=[qf gP70 gP88 gP100 qP70 A70 [],qj gP88 qP88 A88 []]) (M:=[qe gP60 qP60 A60 [],qc gP60 gP100 qP100 A100 []]) rfl qjq rfl (fun w' hw=>W30 a0 a1 0 A70 A88 gP70 gP88 gP100 qP70 qP88 w' _ e4 _ hw.lend) ?_
 rintro _ _ ⟨rfl,rfl⟩
 refine L.to (D:=Cls w F [qf gP70 gP88 gP100 qP70 A70 [],qj gP88 qP88 A88 [],qe gP60 qP60 A60 [],qc gP60 gP100 qP100 A100 []]) hI ?_
 obtain ⟨th5,eth5,h⟩:=qd h
 refine L.to (D:=Cls w F [.obj (gP70 a0.toNat) (List.flatten [(zr (fzr (PR gP100)) (fun _=>[]) th5.logs_).flatten,[.int .i64 th5.half_],[.int .i64 th5.gen_],[.bool th5.down_],[.int .i64 th5.now_],(zr qi (qk (qP70 a0.toNat) 2) th5.items_).flatten,[(gv (qP70 a0.toNat) 0)],[(gv (qP70 a0.toNat) 1)]]) 70,.sl (gv (qP70 a0.toNat) 0) 84 1 (th5.active_.map (PR gP88)),.sl (gv (qP70 a0.toNat) 1) 84 1 (th5.over_.map (PR gP88)),.ss (zs sd0 (fun _=>[]) th5.logs_),.ss (zs (qq 79 2 TVersion.row) (qk (qP70 a0.toNat) 2) th5.items_),qf gP70 gP88 gP100 qP70 A70 (a0.toNat :: []),qj gP88 qP88 A88 [],qe gP60 qP60 A60 [],qc gP60 gP100 qP100 A100 []]) (fun _ hw=>hw.arOpen (p:=0) rfl eth5 List.not_mem_nil) (L.r 5 rfl (ln (W.seq (sr (L.r 1 rfl (L.ite h rfl (Y.neq rfl rfl) (fun c6 h=>?_) (fun c6 h=>?_)))))))
 ·refine ln (W.condT rfl (sr (L.r 2 rfl (ln (W.ret (E.thenR (E.to (D:=Cls w F [qf gP70 gP88 gP100 qP70 A70 [],qj gP88 qP88 A88 [],qe gP60 qP60 A60 [],qc gP60 gP100 qP100 A100 []]) (fun _ hw=>hw.arShut (hs':=(a0.toNat :: [])) [0,1,2,3,4,5,6,7,8] eth5 (by decide) rfl (fun _=>List.mem_cons) List.not_mem_nil) (E.ret1 rfl rfl (fun w1 hw=>?_)))))))))
  cases h
  exact ⟨_,_,rfl,⟨_,_,_,_,rfl,rfl⟩,hw.s [2,0,1,3]⟩
 refine ln (W.condF rfl (W.skip (E.thenN (sr (L.r 2 rfl (L.to (D:=Cls w F [qf gP70 gP88 gP100 qP70 A70 [],qj gP88 qP88 A88 [],qe gP60 qP60 A60 [],qc gP60 gP100 qP100 A100 []]) (fun _ hw=>hw.arShut (hs':=(a0.toNat :: [])) [0,1,2,3,4,5,6,7,8] eth5 (by decide) rfl (fun _=>List.mem_cons) List.not_mem_nil) ?_))))))
 obtain ⟨l7,l9,b11,e12,h⟩:=qW h
 refine L.doesP (A:=[qf gP70 gP88 gP100 qP70 A70 [],qj gP88 qP88 A88 []]) (M:=[qe gP60 qP60 A60 [],qc gP60 gP100 qP100 A100 []]) rfl qif rfl (fun w' hw=>W32 a0 x2 A70 A88 gP70 gP88 gP100 qP70 qP88 w' _ e12 _ hw.lend) ?_
 rintro _ _ ⟨v8,v10,rfl,rfl⟩
 refine L.to (D:=Cls w F [qf gP70 gP88 gP100 qP70 A70 [],qj gP88 qP88 A88 [],.sl v8 84 1 (l7.map (PR gP88)),.sl v10 84 1 (l9.map (PR gP88)),qe gP60 qP60 A60 [],qc gP60 gP100 qP100 A100 []]) hI ?_
 obtain ⟨th13,eth13,h⟩:=qd h
 refine L.to (D:=Cls w F [.obj (gP70 a0.toNat) (List.flatten [(zr (fzr (PR gP100)) (fun _=>[]) th13.logs_).flatten,[.int .i64 th13.half_],[.int .i64 th13.gen_],[.bool th13.down_],[.int .i64 th13.now_],(zr qi (qk (qP70 a0.toNat) 2) th13.items_).flatten,[(gv (qP70 a0.toNat) 0)],[(gv (qP70 a0.toNat) 1)]]) 70,.sl (gv (qP70 a0.toNat) 0) 84 1 (th13.active_.map (PR gP88)),.sl (gv (qP70 a0.toNat) 1) 84 1 (th13.over_.map (PR gP88)),.ss (zs sd0 (fun _=>[]) th13.logs_),.ss (zs (qq 79 2 TVersion.row) (qk (qP70 a0.toNat) 2) th13.items_),qf gP70 gP88 gP100 qP70 A70 (a0.toNat :: []),qj gP88 qP88 A88 [],.sl v8 84 1 (l7.map (PR gP88)),.sl v10 84 1 (l9.map (PR gP88)),qe gP60 qP60 A60 [],qc gP60 gP100 qP100 A100 []]) (fun _ hw=>hw.arOpen (p:=0) rfl eth13 List.not_mem_nil) (L.r 3 rfl (L.iteB h rfl (Y.extract rfl rfl) (fun c14 h=>?_) (fun c14 h=>?_)))
 ·refine L.r 3 rfl (ln (W.seq (sr (L.r 1 rfl (L.y rfl (Y.not rfl) (ln (W.condF rfl (W.skip (E.thenN (W.seq ?_))))))))))
  refine sr (L.r 2 rfl (L.to (D:=Cls w F [qf gP70 gP88 gP100 qP70 A70 [],qj gP88 qP88 A88 [],.sl v8 84 1 (l7.map (PR gP88)),.sl v10 84 1 (l9.map (PR gP88)),qe gP60 qP60 A60 [],qc gP60 gP100 qP100 A100 []]) (fun _ hw=>hw.arShut (hs':=(a0.toNat :: [])) [0,1,2,3,4,5,6,7,8,9,10] eth13 (by decide) rfl (fun _=>List.mem_cons) List.not_mem_nil) (L.to (D:=Cls w F [qe gP60 qP60 A60 [],qf gP70 gP88 gP100 qP70 A70 [],qj gP88 qP88 A88 [],qc gP60 gP100 qP100 A100 [],.sl v8 84 1 (l7.map (PR gP88)),.sl v10 84 1 (l9.map (PR gP88))]) (sI [4,0,1,5,2,3]) ?_)))
  obtain ⟨l15,l16,l17,x18,e19,h⟩:=vh h
  refine L.doesP (A:=[qe gP60 qP60 A60 [],qf gP70 gP88 gP100 qP70 A70 [],qj gP88 qP88 A88 [],qc gP60 gP100 qP100 A100 []]) (M:=[.sl v8 84 1 (l7.map (PR gP88)),.sl v10 84 1 (l9.map (PR gP88))]) rfl qhV rfl (fun w' hw=>W34 a0 x2 A60 A70 A88 A100 gP60 gP70 gP88 gP100 qP60 qP70 qP88 qP100 w' _ e19 _ hw.lend) ?_
  rintro _ _ ⟨q20,q21,q22,rfl,rfl⟩
  refine L.to (D:=Cls w F [qe gP60 q20 l15 [],qf gP70 gP88 gP100 q21 l16 [],qj gP88 qP88 A88 [],qc gP60 gP100 q22 l17 [],.sl v8 84 1 (l7.map (PR gP88)),.sl v10 84 1 (l9.map (PR gP88))]) hI ?_
  obtain ⟨th23,eth23,h⟩:=qd h
  refine L.to (D:=Cls w F [.obj (gP70 a0.toNat) (List.flatten [(zr (fzr (PR gP100)) (fun _=>[]) th23.logs_).flatten,[.int .i64 th23.half_],[.int .i64 th23.gen_],[.bool th23.down_],[.int .i64 th23.now_],(zr qi (qk (q21 a0.toNat) 2) th23.items_).flatten,[(gv (q21 a0.toNat) 0)],[(gv (q21 a0.toNat) 1)]]) 70,.sl (gv (q21 a0.toNat) 0) 84 1 (th23.active_.map (PR gP88)),.sl (gv (q21 a0.toNat) 1) 84 1 (th23.over_.map (PR gP88)),.ss (zs sd0 (fun _=>[]) th23.logs_),.ss (zs (qq 79 2 TVersion.row) (qk (q21 a0.toNat) 2) th23.items_),qf gP70 gP88 gP100 q21 l16 (a0.toNat :: []),qe gP60 q20 l15 [],qj gP88 qP88 A88 [],qc gP60 gP100 q22 l17 [],.sl v8 84 1 (l7.map (PR gP88)),.sl v10 84 1 (l9.map (PR gP88))]) (fun _ hw=>hw.arOpen (p:=1) rfl eth23 List.not_mem_nil) (L.r 1 rfl (nsr (L.r 1 rfl (L.ite h rfl (Y.neq rfl rfl) (fun c24 h=>?_) (fun c24 h=>?_)))))
  ·refine ln (W.condT rfl (sr (L.r 2 rfl (ln (W.ret (E.thenR (E.to (D:=Cls w F [qf gP70 gP88 gP100 q21 l16 [],qe gP60 q20 l15 [],qj gP88 qP88 A88 [],qc gP60 gP100 q22 l17 [],.sl v8 84 1 (l7.map (PR gP88)),.sl v10 84 1 (l9.map (PR gP88))]) (fun _ hw=>hw.arShut (hs':=(a0.toNat :: [])) [0,1,2,3,4,5,6,7,8,9,10] eth23 (by decide) rfl (fun _=>List.mem_cons) List.not_mem_nil) (E.ret1 rfl rfl (fun w1 hw=>?_)))))))))
   cases h
   exact ⟨_,_,rfl,⟨_,_,_,_,rfl,rfl⟩,hw.s [1,0,2,3]⟩
  refine ln (W.condF rfl (W.skip (E.thenN (sr (L.r 1 rfl (L.y rfl (Y.apNil rfl eth23) (L.y rfl (Y.fieldP va rfl) ?_)))))))
  obtain ⟨_,kz,h⟩:=qd h
  obtain ⟨_,kz⟩:=qh kz
  refine L.y rfl (Y.loadG (q:=0) (si:=4) (ps:=5) (j:=0) (X:=[.int .i64 th23.now_]) ag3 rfl rfl rfl rfl (sl1 (a:=2) (p:=3) (zrN (nn:=2) (k:=1) (fun _ _=>rfl) kz) (sl1 (a:=1) (p:=2) rfl (sl1 (a:=1) (p:=1) rfl (sl1 (a:=1) (p:=0) rfl sl0)))) rfl) (L.m (V:=fun x26=>.int .i64 x26) h rfl (Y.addM rfl rfl) (fun x26 ex26 h=>(L.y rfl (Y.apNil rfl eth23) (L.y rfl (Y.fieldP va rfl) (L.storeG (q:=0) (si:=4) (ps:=5) (j:=0) (X:=[.int .i64 th23.now_]) (vals:=[.int .i64 x26]) sz3 rfl rfl rfl rfl rfl (by simp [Value.oneCell',Value.cells,st,pt,el]) rfl rfl (sl1 (a:=2) (p:=3) (zrN (nn:=2) (k:=1) (fun _ _=>rfl) kz) (sl1 (a:=1) (p:=2) rfl (sl1 (a:=1) (p:=1) rfl (sl1 (a:=1) (p:=0) rfl sl0)))) rfl (nsr (L.r 2 rfl (L.y rfl (Y.apNil rfl eth23) (L.y rfl (Y.fieldP va rfl) (L.y rfl (Y.loadG (q:=0) (si:=4) (ps:=5) (j:=0) (X:=[.int .i64 x26]) ag3 rfl rfl rfl rfl (sl1 (a:=2) (p:=3) (zrN (nn:=2) (k:=1) (fun _ _=>rfl) kz) (sl1 (a:=1) (p:=2) rfl (sl1 (a:=1) (p:=1) rfl (sl1 (a:=1) (p:=0) rfl sl0)))) rfl) (L.to (D:=Cls w F [.obj (gP70 a0.toNat) (List.flatten [(zr (fzr (PR gP100)) (fun _=>[]) th23.logs_).flatten,[.int .i64 th23.half_],[.int .i64 th23.gen_],[.bool th23.down_],[.int .i64 x26],(zr qi (qk ([(gv (q21 a0.toNat) 0),(gv (q21 a0.toNat) 1)]++ghl (qk (q21 a0.toNat) 2) th23.items_.length) 2) th23.items_).flatten,[(gv (q21 a0.toNat) 0)],[(gv (q21 a0.toNat) 1)]]) 70,.sl (gv (q21 a0.toNat) 0) 84 1 (th23.active_.map (PR gP88)),.sl (gv (q21 a0.toNat) 1) 84 1 (th23.over_.map (PR gP88)),.ss (zs sd0 (fun _=>[]) th23.logs_),.ss (zs (qq 79 2 TVersion.row) (qk ([(gv (q21 a0.toNat) 0),(gv (q21 a0.toNat) 1)]++ghl (qk (q21 a0.toNat) 2) th23.items_.length) 2) th23.items_),qf gP70 gP88 gP100 q21 l16 (a0.toNat :: []),qe gP60 q20 l15 [],qj gP88 qP88 A88 [],qc gP60 gP100 q22 l17 [],.sl v8 84 1 (l7.map (PR gP88)),.sl v10 84 1 (l9.map (PR gP88))]) (fun _ hw=>by rw [zK [(gv (q21 a0.toNat) 0),(gv (q21 a0.toNat) 1)] _ 2 _ rfl,zJ [(gv (q21 a0.toNat) 0),(gv (q21 a0.toNat) 1)] _ 2 _ rfl];exact hw) ?_)))))))))))
  obtain ⟨l28,el28,h⟩:=qd h
  refine L.arClose (row:=TStore.rowA gP88 gP100) (sub:=TStore.subA gP88 gP100) (e:=70) (g:=gP70) (gh:=q21) (vs':=([(gv (q21 a0.toNat) 0),(gv (q21 a0.toNat) 1)]++ghl (qk (q21 a0.toNat) 2) th23.items_.length)) (hs:=[]) (hs':=(a0.toNat :: [])) (m':=[qe gP60 q20 l15 [],qj gP88 qP88 A88 [],qc gP60 gP100 q22 l17 [],.sl v8 84 1 (l7.map (PR gP88)),.sl v10 84 1 (l9.map (PR gP88))]) [0,1,2,3,4,5,6,7,8,9,10] el28 (by decide) rfl (fun _=>List.mem_cons) List.not_mem_nil ?_
  intro q27
  refine L.to (D:=Cls w F [qf gP70 gP88 gP100 q27 l28 [],qe gP60 q20 l15 [],qj gP88 qP88 A88 [],qc gP60 gP100 q22 l17 [],.sl v8 84 1 (l7.map (PR gP88)),.sl v10 84 1 (l9.map (PR gP88))]) hI ?_
  obtain ⟨th29,eth29,h⟩:=qd h
  refine L.to (D:=Cls w F [.obj (gP88 x2.toNat) (List.flatten [[.int .i64 th29.id_],[.int .i64 th29.from_],[.int .i64 th29.at_],[(gv (qP88 x2.toNat) 0)],[(gv (qP88 x2.toNat) 1)],(zr (fzr SR) (fun _=>[]) th29.texts_).flatten,[.bool th29.in_],[.bool th29.out_]]) 88,.sl (gv (qP88 x2.toNat) 0) 3 1 (th29.reads_.map I),.sl (gv (qP88 x2.toNat) 1) 3 1 (th29.writes_.map I),.ss (zs sd0 (fun _=>[]) th29.texts_),qj gP88 qP88 A88 (x2.toNat :: []),qf gP70 gP88 gP100 q27 l28 [],qe gP60 q20 l15 [],qc gP60 gP100 q22 l17 [],.sl v8 84 1 (l7.map (PR gP88)),.sl v10 84 1 (l9.map (PR gP88))]) (fun _ hw=>hw.arOpen (p:=2) rfl eth29 List.not_mem_nil) (L.y rfl (Y.apNil rfl eth29) (L.y rfl (Y.fieldP qbs rfl) (L.storeG (q:=0) (si:=2) (ps:=2) (j:=0) (X:=[.int .i64 th29.at_]) (vals:=[.int .i64 x26]) sz3 rfl rfl rfl rfl rfl (by simp [Value.oneCell',Value.cells,st,pt,el]) rfl rfl (sl1 (a:=1) (p:=1) rfl (sl1 (a:=1) (p:=0) rfl sl0)) rfl (ln (W.seqJ (fun gs D=>∃ gl1 gq2,gs=[(0,VP gP70 a0),(5,VP gP88 x2),(8,v10)]∧D=Cls w F [qj gP88 gq2 gl1 [],qf gP70 gP88 gP100 q27 l28 [],qe gP60 q20 l15 [],qc gP60 gP100 q22 l17 [],.sl v10 84 1 (l9.map (PR gP88))]∧qe2 l9 x2 a0 l15 l17 l28 gl1=some r) ?_ ?_)))))
  ·refine sr (L.r 1 rfl (L.y rfl (Y.lenM (g:=(PR gP88)) (l:=l7) Tryz.underlying68 rfl (fun w hw=>As.at_ (hw.get (i:=8) rfl))) (L.r 1 rfl (ln (W.block ?_)))))
   obtain ⟨l103,el103,h⟩:=qd h
   refine W.arClose (row:=Ttx.rowA) (sub:=Ttx.subA) (e:=88) (g:=gP88) (gh:=qP88) (vs':=([(gv (qP88 x2.toNat) 0),(gv (qP88 x2.toNat) 1)])) (hs:=[]) (hs':=(x2.toNat :: [])) (m':=[qf gP70 gP88 gP100 q27 l28 [],qe gP60 q20 l15 [],qc gP60 gP100 q22 l17 [],.sl v8 84 1 (l7.map (PR gP88)),.sl v10 84 1 (l9.map (PR gP88))]) [0,1,2,3,4,5,6,7,8,9] el103 (by decide) rfl (fun _=>List.mem_cons) List.not_mem_nil ?_
   intro q102
   refine W.to (D:=Cls w F [qj gP88 q102 l103 [],qf gP70 gP88 gP100 q27 l28 [],qe gP60 q20 l15 [],qc gP60 gP100 q22 l17 [],.sl v8 84 1 (l7.map (PR gP88)),.sl v10 84 1 (l9.map (PR gP88))]) hI (W.loopJ (fun m gs D=>∃ gx13 gl14 gq15,gs=[(0,VP gP70 a0),(5,VP gP88 x2),(8,v10),(58,v8),(59,.int .i64 (l7.length:Int)),(60,.int .i64 gx13)]∧D=Cls w F [qj gP88 gq15 gl14 [],qf gP70 gP88 gP100 q27 l28 [],qe gP60 q20 l15 [],qc gP60 gP100 q22 l17 [],.sl v10 84 1 (l9.map (PR gP88)),.sl v8 84 1 (l7.map (PR gP88))]∧yf l7 x2 l9 a0 l15 l17 l28 m gx13 gl14=some r) ⟨0,l103,q102,rfl,rfl,h⟩ ⟨rfl,rfl,rfl,rfl,rfl,rfl,trivial⟩ (sI [0,1,2,3,5,4]) ?_)
   rintro m _ _ ⟨gx13,gl14,gq15,rfl,rfl,h⟩
   rcases m with _ | m
   ·rw [yf] at h;cases h
   rw [yf] at h
   generalize hg3:yf l7 x2 l9 a0 l15 l17 l28 m=go3 at h
   rw [qcf] at h
   refine sr (L.ite h rfl (Y.lss rfl rfl) (fun c104 h=>?_) (fun c104 h=>?_))
   ·refine ln (W.seq (W.condT rfl (W.skip (E.thenN (W.seq (W.block (sr (L.m (V:=fun _=>el v8 (gx13.toNat*1)) h rfl (Y.indexM (g:=(PR gP88)) (l:=l7) Tryz.underlying68 yn rfl rfl (fun w hw=>As.at_ (hw.get (i:=5) rfl))) (fun x105 ex105 h=>(L.y rfl (Y.loadE1 (u:=VP gP88 x105) qdd rfl (fun w hw=>As.at_ (hw.get (i:=5) rfl)) (qx ex105)) (L.r 1 rfl (L.nil ?_))))))))))))
    refine E.thenN (W.region (L.r 2 rfl ?_))
    obtain ⟨th106,eth106,h⟩:=qd h
    refine L.to (D:=Cls w F [.obj (gP88 x105.toNat) (List.flatten [[.int .i64 th106.id_],[.int .i64 th106.from_],[.int .i64 th106.at_],[(gv (gq15 x105.toNat) 0)],[(gv (gq15 x105.toNat) 1)],(zr (fzr SR) (fun _=>[]) th106.texts_).flatten,[.bool th106.in_],[.bool th106.out_]]) 88,.sl (gv (gq15 x105.toNat) 0) 3 1 (th106.reads_.map I),.sl (gv (gq15 x105.toNat) 1) 3 1 (th106.writes_.map I),.ss (zs sd0 (fun _=>[]) th106.texts_),qj gP88 gq15 gl14 (x105.toNat :: []),qf gP70 gP88 gP100 q27 l28 [],qe gP60 q20 l15 [],qc gP60 gP100 q22 l17 [],.sl v10 84 1 (l9.map (PR gP88)),.sl v8 84 1 (l7.map (PR gP88))]) (fun _ hw=>hw.arOpen (p:=0) rfl eth106 List.not_mem_nil) (L.y rfl (Y.apNil rfl eth106) (L.y rfl (Y.fieldP qem rfl) ?_))
    obtain ⟨_,en107,h⟩:=qd h
    obtain ⟨_,en107⟩:=qh en107
    refine L.storeG (q:=0) (si:=6) (ps:=25) (j:=0) (X:=[.bool th106.in_]) (vals:=[.bool true]) sz4 rfl rfl rfl rfl rfl (by simp [Value.oneCell',Value.cells,st,pt,el]) rfl rfl (sl1 (a:=1) (p:=24) rfl (sl1 (a:=1) (p:=23) rfl (sl1 (a:=1) (p:=22) rfl (sl1 (a:=1) (p:=21) rfl (sl1 (a:=1) (p:=20) rfl (sl1 (a:=20) (p:=0) (zrN (nn:=20) (k:=1) (fun _ _=>rfl) en107) sl0)))))) rfl ?_
    obtain ⟨l109,el109,h⟩:=qd h
    refine L.arClose (row:=Ttx.rowA) (sub:=Ttx.subA) (e:=88) (g:=gP88) (gh:=gq15) (vs':=([(gv (gq15 x105.toNat) 0),(gv (gq15 x105.toNat) 1)])) (hs:=[]) (hs':=(x105.toNat :: [])) (m':=[qf gP70 gP88 gP100 q27 l28 [],qe gP60 q20 l15 [],qc gP60 gP100 q22 l17 [],.sl v10 84 1 (l9.map (PR gP88)),.sl v8 84 1 (l7.map (PR gP88))]) [0,1,2,3,4,5,6,7,8,9] el109 (by decide) rfl (fun _=>List.mem_cons) List.not_mem_nil ?_
    intro q108
    refine L.to (D:=Cls w F [qj gP88 q108 l109 [],qf gP70 gP88 gP100 q27 l28 [],qe gP60 q20 l15 [],qc gP60 gP100 q22 l17 [],.sl v10 84 1 (l9.map (PR gP88)),.sl v8 84 1 (l7.map (PR gP88))]) hI ?_
    obtain ⟨th110,eth110,h⟩:=qd h
    refine L.to (D:=Cls w F [.obj (gP88 x2.toNat) (List.flatten [[.int .i64 th110.id_],[.int .i64 th110.from_],[.int .i64 th110.at_],[(gv (q108 x2.toNat) 0)],[(gv (q108 x2.toNat) 1)],(zr (fzr SR) (fun _=>[]) th110.texts_).flatten,[.bool th110.in_],[.bool th110.out_]]) 88,.sl (gv (q108 x2.toNat) 0) 3 1 (th110.reads_.map I),.sl (gv (q108 x2.toNat) 1) 3 1 (th110.writes_.map I),.ss (zs sd0 (fun _=>[]) th110.texts_),qj gP88 q108 l109 (x2.toNat :: []),qf gP70 gP88 gP100 q27 l28 [],qe gP60 q20 l15 [],qc gP60 gP100 q22 l17 [],.sl v10 84 1 (l9.map (PR gP88)),.sl v8 84 1 (l7.map (PR gP88))]) (fun _ hw=>hw.arOpen (p:=0) rfl eth110 List.not_mem_nil) (L.y rfl (Y.apNil rfl eth110) (L.y rfl (Y.fieldP qel rfl) ?_))
    obtain ⟨_,en111,h⟩:=qd h
    obtain ⟨_,en111⟩:=qh en111
    refine L.storeG (q:=0) (si:=7) (ps:=26) (j:=0) (X:=[.bool th110.out_]) (vals:=[.bool true]) sz4 rfl rfl rfl rfl rfl (by simp [Value.oneCell',Value.cells,st,pt,el]) rfl rfl (sl1 (a:=1) (p:=25) rfl (sl1 (a:=1) (p:=24) rfl (sl1 (a:=1) (p:=23) rfl (sl1 (a:=1) (p:=22) rfl (sl1 (a:=1) (p:=21) rfl (sl1 (a:=20) (p:=1) (zrN (nn:=20) (k:=1) (fun _ _=>rfl) en111) (sl1 (a:=1) (p:=0) rfl sl0))))))) rfl (L.nil (E.blockN (E.thenN (W.region (L.m (V:=fun x112=>.int .i64 x112) h rfl (Y.addM rfl rfl) (fun x112 ex112 h=>(L.r 1 rfl (L.nil ?_))))))))
    obtain ⟨l114,el114,h⟩:=qd h
    refine E.arClose (row:=Ttx.rowA) (sub:=Ttx.subA) (e:=88) (g:=gP88) (gh:=q108) (vs':=([(gv (q108 x2.toNat) 0),(gv (q108 x2.toNat) 1)])) (hs:=[]) (hs':=(x2.toNat :: [])) (m':=[qf gP70 gP88 gP100 q27 l28 [],qe gP60 q20 l15 [],qc gP60 gP100 q22 l17 [],.sl v10 84 1 (l9.map (PR gP88)),.sl v8 84 1 (l7.map (PR gP88))]) [0,1,2,3,4,5,6,7,8,9] el114 (by decide) rfl (fun _=>List.mem_cons) List.not_mem_nil ?_
    intro q113
    exact E.to (D:=Cls w F [qj gP88 q113 l114 [],qf gP70 gP88 gP100 q27 l28 [],qe gP60 q20 l15 [],qc gP60 gP100 q22 l17 [],.sl v10 84 1 (l9.map (PR gP88)),.sl v8 84 1 (l7.map (PR gP88))]) hI (E.aJ ⟨x112,l114,q113,rfl,rfl,by rw [hg3];exact h⟩ hI)
   exact ln (W.seq (W.condF rfl (W.exit (E.thenX (E.KLX (E.blockX (E.jJ ⟨gl14,gq15,rfl,rfl,h⟩ (sI [0,1,2,3,4]))))))))
  rintro _ _ ⟨gl1,gq2,rfl,rfl,h⟩
  rw [qe2] at h
  refine W.seqJ (fun gs D=>∃ gl3 gq4,gs=[(0,VP gP70 a0),(5,VP gP88 x2)]∧D=Cls w F [qj gP88 gq4 gl3 [],qf gP70 gP88 gP100 q27 l28 [],qe gP60 q20 l15 [],qc gP60 gP100 q22 l17 []]∧qe1 x2 a0 l15 l17 l28 gl3=some r) ?_ ?_
  ·refine sr (L.r 1 rfl (L.y rfl (Y.lenM (g:=(PR gP88)) (l:=l9) Tryz.underlying68 rfl (fun w hw=>As.at_ (hw.get (i:=4) rfl))) (L.r 1 rfl (ln (W.block (W.loopJ (fun m gs D=>∃ gx10 gl11 gq12,gs=[(0,VP gP70 a0),(5,VP gP88 x2),(71,v10),(72,.int .i64 (l9.length:Int)),(73,.int .i64 gx10)]∧D=Cls w F [qj gP88 gq12 gl11 [],qf gP70 gP88 gP100 q27 l28 [],qe gP60 q20 l15 [],qc gP60 gP100 q22 l17 [],.sl v10 84 1 (l9.map (PR gP88))]∧yg l9 x2 a0 l15 l17 l28 m gx10 gl11=some r) ⟨0,gl1,gq2,rfl,rfl,h⟩ ⟨rfl,rfl,rfl,rfl,rfl,trivial⟩ hI ?_))))))
   rintro m _ _ ⟨gx10,gl11,gq12,rfl,rfl,h⟩
   rcases m with _ | m
   ·rw [yg] at h;cases h
   rw [yg] at h
   generalize hg2:yg l9 x2 a0 l15 l17 l28 m=go2 at h
   rw [qcg] at h
   refine sr (L.ite h rfl (Y.lss rfl rfl) (fun c91 h=>?_) (fun c91 h=>?_))
   ·refine ln (W.seq (W.condT rfl (W.skip (E.thenN (W.seq (W.block (sr (L.m (V:=fun _=>el v10 (gx10.toNat*1)) h rfl (Y.indexM (g:=(PR gP88)) (l:=l9) Tryz.underlying68 yn rfl rfl (fun w hw=>As.at_ (hw.get (i:=4) rfl))) (fun x92 ex92 h=>(L.y rfl (Y.loadE1 (u:=VP gP88 x92) qdd rfl (fun w hw=>As.at_ (hw.get (i:=4) rfl)) (qx ex92)) (L.r 1 rfl (L.nil ?_))))))))))))
    refine E.thenN (W.region (L.r 2 rfl ?_))
    obtain ⟨th93,eth93,h⟩:=qd h
    refine L.to (D:=Cls w F [.obj (gP88 x92.toNat) (List.flatten [[.int .i64 th93.id_],[.int .i64 th93.from_],[.int .i64 th93.at_],[(gv (gq12 x92.toNat) 0)],[(gv (gq12 x92.toNat) 1)],(zr (fzr SR) (fun _=>[]) th93.texts_).flatten,[.bool th93.in_],[.bool th93.out_]]) 88,.sl (gv (gq12 x92.toNat) 0) 3 1 (th93.reads_.map I),.sl (gv (gq12 x92.toNat) 1) 3 1 (th93.writes_.map I),.ss (zs sd0 (fun _=>[]) th93.texts_),qj gP88 gq12 gl11 (x92.toNat :: []),qf gP70 gP88 gP100 q27 l28 [],qe gP60 q20 l15 [],qc gP60 gP100 q22 l17 [],.sl v10 84 1 (l9.map (PR gP88))]) (fun _ hw=>hw.arOpen (p:=0) rfl eth93 List.not_mem_nil) (L.y rfl (Y.apNil rfl eth93) (L.y rfl (Y.fieldP qel rfl) ?_))
    obtain ⟨_,qi0,h⟩:=qd h
    obtain ⟨_,qi0⟩:=qh qi0
    refine L.storeG (q:=0) (si:=7) (ps:=26) (j:=0) (X:=[.bool th93.out_]) (vals:=[.bool true]) sz4 rfl rfl rfl rfl rfl (by simp [Value.oneCell',Value.cells,st,pt,el]) rfl rfl (sl1 (a:=1) (p:=25) rfl (sl1 (a:=1) (p:=24) rfl (sl1 (a:=1) (p:=23) rfl (sl1 (a:=1) (p:=22) rfl (sl1 (a:=1) (p:=21) rfl (sl1 (a:=20) (p:=1) (zrN (nn:=20) (k:=1) (fun _ _=>rfl) qi0) (sl1 (a:=1) (p:=0) rfl sl0))))))) rfl ?_
    obtain ⟨l96,el96,h⟩:=qd h
    refine L.arClose (row:=Ttx.rowA) (sub:=Ttx.subA) (e:=88) (g:=gP88) (gh:=gq12) (vs':=([(gv (gq12 x92.toNat) 0),(gv (gq12 x92.toNat) 1)])) (hs:=[]) (hs':=(x92.toNat :: [])) (m':=[qf gP70 gP88 gP100 q27 l28 [],qe gP60 q20 l15 [],qc gP60 gP100 q22 l17 [],.sl v10 84 1 (l9.map (PR gP88))]) [0,1,2,3,4,5,6,7,8] el96 (by decide) rfl (fun _=>List.mem_cons) List.not_mem_nil ?_
    intro q95
    refine L.to (D:=Cls w F [qj gP88 q95 l96 [],qf gP70 gP88 gP100 q27 l28 [],qe gP60 q20 l15 [],qc gP60 gP100 q22 l17 [],.sl v10 84 1 (l9.map (PR gP88))]) hI ?_
    obtain ⟨th97,eth97,h⟩:=qd h
    refine L.to (D:=Cls w F [.obj (gP88 x2.toNat) (List.flatten [[.int .i64 th97.id_],[.int .i64 th97.from_],[.int .i64 th97.at_],[(gv (q95 x2.toNat) 0)],[(gv (q95 x2.toNat) 1)],(zr (fzr SR) (fun _=>[]) th97.texts_).flatten,[.bool th97.in_],[.bool th97.out_]]) 88,.sl (gv (q95 x2.toNat) 0) 3 1 (th97.reads_.map I),.sl (gv (q95 x2.toNat) 1) 3 1 (th97.writes_.map I),.ss (zs sd0 (fun _=>[]) th97.texts_),qj gP88 q95 l96 (x2.toNat :: []),qf gP70 gP88 gP100 q27 l28 [],qe gP60 q20 l15 [],qc gP60 gP100 q22 l17 [],.sl v10 84 1 (l9.map (PR gP88))]) (fun _ hw=>hw.arOpen (p:=0) rfl eth97 List.not_mem_nil) (L.y rfl (Y.apNil rfl eth97) (L.y rfl (Y.fieldP qem rfl) ?_))
    obtain ⟨_,en98,h⟩:=qd h
    obtain ⟨_,en98⟩:=qh en98
    refine L.storeG (q:=0) (si:=6) (ps:=25) (j:=0) (X:=[.bool th97.in_]) (vals:=[.bool true]) sz4 rfl rfl rfl rfl rfl (by simp [Value.oneCell',Value.cells,st,pt,el]) rfl rfl (sl1 (a:=1) (p:=24) rfl (sl1 (a:=1) (p:=23) rfl (sl1 (a:=1) (p:=22) rfl (sl1 (a:=1) (p:=21) rfl (sl1 (a:=1) (p:=20) rfl (sl1 (a:=20) (p:=0) (zrN (nn:=20) (k:=1) (fun _ _=>rfl) en98) sl0)))))) rfl (L.nil (E.blockN (E.thenN (W.region (L.m (V:=fun x99=>.int .i64 x99) h rfl (Y.addM rfl rfl) (fun x99 ex99 h=>(L.r 1 rfl (L.nil ?_))))))))
    obtain ⟨l101,el101,h⟩:=qd h
    refine E.arClose (row:=Ttx.rowA) (sub:=Ttx.subA) (e:=88) (g:=gP88) (gh:=q95) (vs':=([(gv (q95 x2.toNat) 0),(gv (q95 x2.toNat) 1)])) (hs:=[]) (hs':=(x2.toNat :: [])) (m':=[qf gP70 gP88 gP100 q27 l28 [],qe gP60 q20 l15 [],qc gP60 gP100 q22 l17 [],.sl v10 84 1 (l9.map (PR gP88))]) [0,1,2,3,4,5,6,7,8] el101 (by decide) rfl (fun _=>List.mem_cons) List.not_mem_nil ?_
    intro q100
    exact E.to (D:=Cls w F [qj gP88 q100 l101 [],qf gP70 gP88 gP100 q27 l28 [],qe gP60 q20 l15 [],qc gP60 gP100 q22 l17 [],.sl v10 84 1 (l9.map (PR gP88))]) hI (E.aJ ⟨x99,l101,q100,rfl,rfl,by rw [hg2];exact h⟩ hI)
   exact ln (W.seq (W.condF rfl (W.exit (E.thenX (E.KLX (E.blockX (E.jJ ⟨gl11,gq12,rfl,rfl,h⟩ (sI [0,1,2,3]))))))))
  rintro _ _ ⟨gl3,gq4,rfl,rfl,h⟩
  rw [qe1] at h
  refine W.seqJ (fun gs D=>∃ gl5 gq6,gs=[(0,VP gP70 a0),(5,VP gP88 x2)]∧D=Cls w F [qj gP88 gq4 gl3 [],qf gP70 gP88 gP100 gq6 gl5 [],qe gP60 q20 l15 [],qc gP60 gP100 q22 l17 []]∧qe0 a0 x2 gl3 l15 l17 gl5=some r) ?_ ?_
  ·refine sr (L.r 1 rfl ?_)
   obtain ⟨th42,eth42,h⟩:=qd h
   refine L.to (D:=Cls w F [.obj (gP88 x2.toNat) (List.flatten [[.int .i64 th42.id_],[.int .i64 th42.from_],[.int .i64 th42.at_],[(gv (gq4 x2.toNat) 0)],[(gv (gq4 x2.toNat) 1)],(zr (fzr SR) (fun _=>[]) th42.texts_).flatten,[.bool th42.in_],[.bool th42.out_]]) 88,.sl (gv (gq4 x2.toNat) 0) 3 1 (th42.reads_.map I),.sl (gv (gq4 x2.toNat) 1) 3 1 (th42.writes_.map I),.ss (zs sd0 (fun _=>[]) th42.texts_),qj gP88 gq4 gl3 (x2.toNat :: []),qf gP70 gP88 gP100 q27 l28 [],qe gP60 q20 l15 [],qc gP60 gP100 q22 l17 []]) (fun _ hw=>hw.arOpen (p:=0) rfl eth42 List.not_mem_nil) (L.y rfl (Y.apNil rfl eth42) (L.y rfl (Y.fieldP xm rfl) (L.y rfl (Y.loadG (q:=0) (si:=4) (ps:=4) (j:=0) (X:=[(gv (gq4 x2.toNat) 1)]) qab rfl rfl rfl rfl (sl1 (a:=1) (p:=3) rfl (sl1 (a:=1) (p:=2) rfl (sl1 (a:=1) (p:=1) rfl (sl1 (a:=1) (p:=0) rfl sl0)))) rfl) (L.y rfl (Y.lenM (g:=I) (l:=th42.writes_) Tryz.underlying86 rfl (fun w hw=>As.at_ (hw.get (i:=2) rfl))) (L.r 1 rfl (ln (W.block (W.loopJ (fun m gs D=>∃ gx7 gl8 gq9,gs=[(0,VP gP70 a0),(5,VP gP88 x2),(87,(gv (gq4 x2.toNat) 1)),(88,.int .i64 (th42.writes_.length:Int)),(89,.int .i64 gx7)]∧D=Cls w F [qj gP88 gq4 gl3 (x2.toNat :: []),qf gP70 gP88 gP100 gq9 gl8 [],qe gP60 q20 l15 [],qc gP60 gP100 q22 l17 [],.obj (gP88 x2.toNat) (List.flatten [[.int .i64 th42.id_],[.int .i64 th42.from_],[.int .i64 th42.at_],[(gv (gq4 x2.toNat) 0)],[(gv (gq4 x2.toNat) 1)],(zr (fzr SR) (fun _=>[]) th42.texts_).flatten,[.bool th42.in_],[.bool th42.out_]]) 88,.ss (zs sd0 (fun _=>[]) th42.texts_),.sl (gv (gq4 x2.toNat) 1) 3 1 (th42.writes_.map I),.sl (gv (gq4 x2.toNat) 0) 3 1 (th42.reads_.map I)]∧yh th42 a0 x2 gl3 l15 l17 m gx7 gl8=some r) ⟨0,l28,q27,rfl,rfl,h⟩ ⟨rfl,rfl,rfl,rfl,rfl,trivial⟩ (sI [4,5,6,7,0,3,2,1]) ?_))))))))
   rintro m _ _ ⟨gx7,gl8,gq9,rfl,rfl,h⟩
   rcases m with _ | m
   ·rw [yh] at h;cases h
   rw [yh] at h
   generalize hg1:yh th42 a0 x2 gl3 l15 l17 m=go1 at h
   rw [qch] at h
   refine sr (L.ite h rfl (Y.lss rfl rfl) (fun c43 h=>?_) (fun c43 h=>?_))
   ·refine ln (W.seq (W.condT rfl (W.skip (E.thenN (W.seq (W.block (sr (L.m (V:=fun _=>el (gv (gq4 x2.toNat) 1) (gx7.toNat*1)) h rfl (Y.indexM (g:=I) (l:=th42.writes_) Tryz.underlying86 sz3 rfl rfl (fun w hw=>As.at_ (hw.get (i:=6) rfl))) (fun x44 ex44 h=>(L.y rfl (Y.loadE1 (u:=.int .i64 x44) ag3 rfl (fun w hw=>As.at_ (hw.get (i:=6) rfl)) (qx ex44)) (L.r 1 rfl (L.nil ?_))))))))))))
    refine E.thenN ?_
    obtain ⟨th45,eth45,h⟩:=qd h
    refine W.to (D:=Cls w F [.obj (gP70 a0.toNat) (List.flatten [(zr (fzr (PR gP100)) (fun _=>[]) th45.logs_).flatten,[.int .i64 th45.half_],[.int .i64 th45.gen_],[.bool th45.down_],[.int .i64 th45.now_],(zr qi (qk (gq9 a0.toNat) 2) th45.items_).flatten,[(gv (gq9 a0.toNat) 0)],[(gv (gq9 a0.toNat) 1)]]) 70,.sl (gv (gq9 a0.toNat) 0) 84 1 (th45.active_.map (PR gP88)),.sl (gv (gq9 a0.toNat) 1) 84 1 (th45.over_.map (PR gP88)),.ss (zs sd0 (fun _=>[]) th45.logs_),.ss (zs (qq 79 2 TVersion.row) (qk (gq9 a0.toNat) 2) th45.items_),qf gP70 gP88 gP100 gq9 gl8 (a0.toNat :: []),qj gP88 gq4 gl3 (x2.toNat :: []),qe gP60 q20 l15 [],qc gP60 gP100 q22 l17 [],.obj (gP88 x2.toNat) (List.flatten [[.int .i64 th42.id_],[.int .i64 th42.from_],[.int .i64 th42.at_],[(gv (gq4 x2.toNat) 0)],[(gv (gq4 x2.toNat) 1)],(zr (fzr SR) (fun _=>[]) th42.texts_).flatten,[.bool th42.in_],[.bool th42.out_]]) 88,.ss (zs sd0 (fun _=>[]) th42.texts_),.sl (gv (gq4 x2.toNat) 1) 3 1 (th42.writes_.map I),.sl (gv (gq4 x2.toNat) 0) 3 1 (th42.reads_.map I)]) (fun _ hw=>hw.arOpen (p:=1) rfl eth45 List.not_mem_nil) (W.drawn2 (k:=25) (stC [[20,24],[24]] [Cls w F [.obj (gP70 a0.toNat) (List.flatten [(zr (fzr (PR gP100)) (fun _=>[]) th45.logs_).flatten,[.int .i64 th45.half_],[.int .i64 th45.gen_],[.bool th45.down_],[.int .i64 th45.now_],(zr qi (qk (gq9 a0.toNat) 2) th45.items_).flatten,[(gv (gq9 a0.toNat) 0)],[(gv (gq9 a0.toNat) 1)]]) 70,.sl (gv (gq9 a0.toNat) 0) 84 1 (th45.active_.map (PR gP88)),.sl (gv (gq9 a0.toNat) 1) 84 1 (th45.over_.map (PR gP88)),.ss (zs sd0 (fun _=>[]) th45.logs_),.ss (zs (qq 79 2 TVersion.row) (qk (gq9 a0.toNat) 2) th45.items_),qf gP70 gP88 gP100 gq9 gl8 (a0.toNat :: []),qj gP88 gq4 gl3 (x2.toNat :: []),qe gP60 q20 l15 [],qc gP60 gP100 q22 l17 [],.obj (gP88 x2.toNat) (List.flatten [[.int .i64 th42.id_],[.int .i64 th42.from_],[.int .i64 th42.at_],[(gv (gq4 x2.toNat) 0)],[(gv (gq4 x2.toNat) 1)],(zr (fzr SR) (fun _=>[]) th42.texts_).flatten,[.bool th42.in_],[.bool th42.out_]]) 88,.ss (zs sd0 (fun _=>[]) th42.texts_),.sl (gv (gq4 x2.toNat) 1) 3 1 (th42.writes_.map I),.sl (gv (gq4 x2.toNat) 0) 3 1 (th42.reads_.map I)],Cls w F [.obj (gP70 a0.toNat) (List.flatten [(zr (fzr (PR gP100)) (fun _=>[]) th45.logs_).flatten,[.int .i64 th45.half_],[.int .i64 th45.gen_],[.bool th45.down_],[.int .i64 th45.now_],(zr qi (qk (gq9 a0.toNat) 2) th45.items_).flatten,[(gv (gq9 a0.toNat) 0)],[(gv (gq9 a0.toNat) 1)]]) 70,.sl (gv (gq9 a0.toNat) 0) 84 1 (th45.active_.map (PR gP88)),.sl (gv (gq9 a0.toNat) 1) 84 1 (th45.over_.map (PR gP88)),.ss (zs sd0 (fun _=>[]) th45.logs_),qf gP70 gP88 gP100 gq9 gl8 (a0.toNat :: []),qj gP88 gq4 gl3 (x2.toNat :: []),qe gP60 q20 l15 [],qc gP60 gP100 q22 l17 [],.obj (gP88 x2.toNat) (List.flatten [[.int .i64 th42.id_],[.int .i64 th42.from_],[.int .i64 th42.at_],[(gv (gq4 x2.toNat) 0)],[(gv (gq4 x2.toNat) 1)],(zr (fzr SR) (fun _=>[]) th42.texts_).flatten,[.bool th42.in_],[.bool th42.out_]]) 88,.ss (zs sd0 (fun _=>[]) th42.texts_),.sl (gv (gq4 x2.toNat) 1) 3 1 (th42.writes_.map I),.sl (gv (gq4 x2.toNat) 0) 3 1 (th42.reads_.map I)]] (Cls w F [.sl (gv (gq9 a0.toNat) 0) 84 1 (th45.active_.map (PR gP88)),.sl (gv (gq9 a0.toNat) 1) 84 1 (th45.over_.map (PR gP88)),.ss (zs sd0 (fun _=>[]) th45.logs_),qf gP70 gP88 gP100 gq9 gl8 (a0.toNat :: []),qj gP88 gq4 gl3 (x2.toNat :: []),qe gP60 q20 l15 [],qc gP60 gP100 q22 l17 [],.obj (gP88 x2.toNat) (List.flatten [[.int .i64 th42.id_],[.int .i64 th42.from_],[.int .i64 th42.at_],[(gv (gq4 x2.toNat) 0)],[(gv (gq4 x2.toNat) 1)],(zr (fzr SR) (fun _=>[]) th42.texts_).flatten,[.bool th42.in_],[.bool th42.out_]]) 88,.ss (zs sd0 (fun _=>[]) th42.texts_),.sl (gv (gq4 x2.toNat) 1) 3 1 (th42.writes_.map I),.sl (gv (gq4 x2.toNat) 0) 3 1 (th42.reads_.map I)])) rfl mixed (fun _ hw=>hw.drew) (Sc.now (by kernel_rfl) hI) (V2.zz [] (Zc.on' (Zc.on' (Zc.fin hI) (sI [1,2,3,4,5,6,7,8,9,10,11])) (sI [1,2,3,5,6,7,8,9,10,11,12])) (fun hz75=>(V2.r [0,1,2,3] (by kernel_rfl) rfl (V2.apNil (i:=4) (Nx2.of [] (by kernel_rfl) rfl hz75) rfl rfl rfl eth45 (V2.q 5 [] hz75 rfl rfl (Y.fieldP j0 rfl) (V2.zz [24] (Zc.on' (Zc.at1 hI) (sI [0,1,2,3,5,6,7,8,9,10,11,12])) (fun hz76=>(V2.m (i:=6) (V':=fun _=>pt (gP70 a0.toNat) (6+x44.toNat*1)) h (Nx2.of [24] (by kernel_rfl) rfl hz76) rfl rfl rfl (Y.indexAS (l:=th45.items_) Tryz.underlying67 qc9 rfl rfl) (fun x77 ex77 h=>?_))))))))))
    obtain ⟨_,en78,h⟩:=qd h
    obtain ⟨_,en78⟩:=qh en78
    refine V2.q 7 [24] hz76 rfl rfl (Y.loadZg (si:=5) (ps:=6) (q:=0) (row:=qi) (vs:=(qk (gq9 a0.toNat) 2)) (j:=0) (pv:=gv ((qk (gq9 a0.toNat) 2) x44.toNat) 0) qjr rfl rfl rfl rfl (sl1 (a:=2) (p:=4) (zrN (nn:=2) (k:=1) (fun _ _=>rfl) en78) (sl1 (a:=1) (p:=3) rfl (sl1 (a:=1) (p:=2) rfl (sl1 (a:=1) (p:=1) rfl (sl1 (a:=1) (p:=0) rfl sl0))))) (fun _ _=>rfl) (qt ex77) rfl) (V2.r [8] (by kernel_rfl) rfl (V2.apNil (i:=9) (Nx2.of [] (by kernel_rfl) rfl hz75) rfl rfl rfl eth45 (V2.q 10 [] hz75 rfl rfl (Y.fieldP va rfl) (V2.q 11 [24] hz76 rfl rfl (Y.loadG (q:=0) (si:=4) (ps:=5) (j:=0) (X:=[.int .i64 th45.now_]) ag3 rfl rfl rfl rfl (sl1 (a:=2) (p:=3) (zrN (nn:=2) (k:=1) (fun _ _=>rfl) en78) (sl1 (a:=1) (p:=2) rfl (sl1 (a:=1) (p:=1) rfl (sl1 (a:=1) (p:=0) rfl sl0)))) rfl) (V2.r [12,13] (by kernel_rfl) rfl (V2.apNil (i:=14) (Nx2.of [] (by kernel_rfl) rfl hz75) rfl rfl rfl eth42 (V2.q 15 [] hz75 rfl rfl (Y.fieldP yW rfl) (V2.m (i:=16) (V':=fun _=>pt (gP88 x2.toNat) (5+x44.toNat*1)) h (Nx2.of [] (by kernel_rfl) rfl hz75) rfl rfl rfl (Y.indexAS (l:=th42.texts_) Tryz.underlying30 sz9 rfl rfl) (fun x79 ex79 h=>(V2.q 17 [] hz75 rfl rfl (Y.loadZg (si:=5) (ps:=5) (q:=7) (row:=(fzr SR)) (vs:=(fun _=>[])) (j:=0) (pv:=st x79) ag9 rfl rfl rfl rfl (sl1 (a:=1) (p:=4) rfl (sl1 (a:=1) (p:=3) rfl (sl1 (a:=1) (p:=2) rfl (sl1 (a:=1) (p:=1) rfl (sl1 (a:=1) (p:=0) rfl sl0))))) (fun _ _=>rfl) (qt ex79) rfl) (V2.q 18 [] hz75 rfl rfl (Y.build (cells:=#[.int .i64 th45.now_,st x79]) rfl (by kernel_rfl)) (V2.apNil (i:=21) (Nx2.of [] (by kernel_rfl) rfl hz75) rfl rfl rfl eth45 (V2.q 22 [] hz75 rfl rfl (Y.fieldP j0 rfl) (V2.eff (i:=19) (by kernel_rfl) rfl ?_))))))))))))))
    refine L.litAgg rfl Tryz.underlying66 qgU rfl rfl rfl ?_
    intro b80
    refine L.nil (E.toV2 (stC [[20,24],[24]] [Cls w F [.sl (sv b80 1) 79 2 (([(⟨th45.now_,x79⟩:TVersion)]).map TVersion.row),.obj (gP70 a0.toNat) (List.flatten [(zr (fzr (PR gP100)) (fun _=>[]) th45.logs_).flatten,[.int .i64 th45.half_],[.int .i64 th45.gen_],[.bool th45.down_],[.int .i64 th45.now_],(zr qi (qk (gq9 a0.toNat) 2) th45.items_).flatten,[(gv (gq9 a0.toNat) 0)],[(gv (gq9 a0.toNat) 1)]]) 70,.sl (gv (gq9 a0.toNat) 0) 84 1 (th45.active_.map (PR gP88)),.sl (gv (gq9 a0.toNat) 1) 84 1 (th45.over_.map (PR gP88)),.ss (zs sd0 (fun _=>[]) th45.logs_),.ss (zs (qq 79 2 TVersion.row) (qk (gq9 a0.toNat) 2) th45.items_),qf gP70 gP88 gP100 gq9 gl8 (a0.toNat :: []),qj gP88 gq4 gl3 (x2.toNat :: []),qe gP60 q20 l15 [],qc gP60 gP100 q22 l17 [],.obj (gP88 x2.toNat) (List.flatten [[.int .i64 th42.id_],[.int .i64 th42.from_],[.int .i64 th42.at_],[(gv (gq4 x2.toNat) 0)],[(gv (gq4 x2.toNat) 1)],(zr (fzr SR) (fun _=>[]) th42.texts_).flatten,[.bool th42.in_],[.bool th42.out_]]) 88,.ss (zs sd0 (fun _=>[]) th42.texts_),.sl (gv (gq4 x2.toNat) 1) 3 1 (th42.writes_.map I),.sl (gv (gq4 x2.toNat) 0) 3 1 (th42.reads_.map I)],Cls w F [.sl (sv b80 1) 79 2 (([(⟨th45.now_,x79⟩:TVersion)]).map TVersion.row),.obj (gP70 a0.toNat) (List.flatten [(zr (fzr (PR gP100)) (fun _=>[]) th45.logs_).flatten,[.int .i64 th45.half_],[.int .i64 th45.gen_],[.bool th45.down_],[.int .i64 th45.now_],(zr qi (qk (gq9 a0.toNat) 2) th45.items_).flatten,[(gv (gq9 a0.toNat) 0)],[(gv (gq9 a0.toNat) 1)]]) 70,.sl (gv (gq9 a0.toNat) 0) 84 1 (th45.active_.map (PR gP88)),.sl (gv (gq9 a0.toNat) 1) 84 1 (th45.over_.map (PR gP88)),.ss (zs sd0 (fun _=>[]) th45.logs_),qf gP70 gP88 gP100 gq9 gl8 (a0.toNat :: []),qj gP88 gq4 gl3 (x2.toNat :: []),qe gP60 q20 l15 [],qc gP60 gP100 q22 l17 [],.obj (gP88 x2.toNat) (List.flatten [[.int .i64 th42.id_],[.int .i64 th42.from_],[.int .i64 th42.at_],[(gv (gq4 x2.toNat) 0)],[(gv (gq4 x2.toNat) 1)],(zr (fzr SR) (fun _=>[]) th42.texts_).flatten,[.bool th42.in_],[.bool th42.out_]]) 88,.ss (zs sd0 (fun _=>[]) th42.texts_),.sl (gv (gq4 x2.toNat) 1) 3 1 (th42.writes_.map I),.sl (gv (gq4 x2.toNat) 0) 3 1 (th42.reads_.map I)]] (Cls w F [.sl (sv b80 1) 79 2 (([(⟨th45.now_,x79⟩:TVersion)]).map TVersion.row),.sl (gv (gq9 a0.toNat) 0) 84 1 (th45.active_.map (PR gP88)),.sl (gv (gq9 a0.toNat) 1) 84 1 (th45.over_.map (PR gP88)),.ss (zs sd0 (fun _=>[]) th45.logs_),qf gP70 gP88 gP100 gq9 gl8 (a0.toNat :: []),qj gP88 gq4 gl3 (x2.toNat :: []),qe gP60 q20 l15 [],qc gP60 gP100 q22 l17 [],.obj (gP88 x2.toNat) (List.flatten [[.int .i64 th42.id_],[.int .i64 th42.from_],[.int .i64 th42.at_],[(gv (gq4 x2.toNat) 0)],[(gv (gq4 x2.toNat) 1)],(zr (fzr SR) (fun _=>[]) th42.texts_).flatten,[.bool th42.in_],[.bool th42.out_]]) 88,.ss (zs sd0 (fun _=>[]) th42.texts_),.sl (gv (gq4 x2.toNat) 1) 3 1 (th42.writes_.map I),.sl (gv (gq4 x2.toNat) 0) 3 1 (th42.reads_.map I)])) 19 (by kernel_rfl) (Sc.stay (sI [1,2,3,4,5,6,7,8,9,10,11,12,13]) (Sc.stay (sI [1,2,3,4,5,6,7,8,9,10,11,12]) (Sc.stayD (sI [1,2,3,4,5,6,7,8,9,10,11])))) (Sc.now (by kernel_rfl) hI) (V2.eff (i:=20) (by kernel_rfl) rfl (L.ssOut (sds:=(qq 79 2 TVersion.row)) (vs:=(qk (gq9 a0.toNat) 2)) (s:=5) (j:=0) (c:=1) rfl (fun _ _=>rfl) (qt ex77) rfl (L.appM (i:=0) (g:=TVersion.row) (l:=x77) (more:=[(⟨th45.now_,x79⟩:TVersion)]) h rfl Tryz.underlying66 qgU rfl rfl rfl (fun w hw=>As.at_ (hw.get (i:=1) rfl)) (zV _) rfl ?_))))
    intro v81 l82 el82 h
    refine L.nil (E.toV2 (stC [[24]] [Cls w F [.sl v81 79 2 (l82.map TVersion.row),.sl (sv b80 1) 79 2 (([(⟨th45.now_,x79⟩:TVersion)]).map TVersion.row),.obj (gP70 a0.toNat) (List.flatten [(zr (fzr (PR gP100)) (fun _=>[]) th45.logs_).flatten,[.int .i64 th45.half_],[.int .i64 th45.gen_],[.bool th45.down_],[.int .i64 th45.now_],(zr qi (qk (gq9 a0.toNat) 2) th45.items_).flatten,[(gv (gq9 a0.toNat) 0)],[(gv (gq9 a0.toNat) 1)]]) 70,.sl (gv (gq9 a0.toNat) 0) 84 1 (th45.active_.map (PR gP88)),.sl (gv (gq9 a0.toNat) 1) 84 1 (th45.over_.map (PR gP88)),.ss (zs sd0 (fun _=>[]) th45.logs_),qf gP70 gP88 gP100 gq9 gl8 (a0.toNat :: []),qj gP88 gq4 gl3 (x2.toNat :: []),qe gP60 q20 l15 [],qc gP60 gP100 q22 l17 [],.obj (gP88 x2.toNat) (List.flatten [[.int .i64 th42.id_],[.int .i64 th42.from_],[.int .i64 th42.at_],[(gv (gq4 x2.toNat) 0)],[(gv (gq4 x2.toNat) 1)],(zr (fzr SR) (fun _=>[]) th42.texts_).flatten,[.bool th42.in_],[.bool th42.out_]]) 88,.ss (zs sd0 (fun _=>[]) th42.texts_),.sl (gv (gq4 x2.toNat) 1) 3 1 (th42.writes_.map I),.sl (gv (gq4 x2.toNat) 0) 3 1 (th42.reads_.map I)]] (Cls w F [.sl (sv b80 1) 79 2 (([(⟨th45.now_,x79⟩:TVersion)]).map TVersion.row),.sl (gv (gq9 a0.toNat) 0) 84 1 (th45.active_.map (PR gP88)),.sl (gv (gq9 a0.toNat) 1) 84 1 (th45.over_.map (PR gP88)),.ss (zs sd0 (fun _=>[]) th45.logs_),qf gP70 gP88 gP100 gq9 gl8 (a0.toNat :: []),qj gP88 gq4 gl3 (x2.toNat :: []),qe gP60 q20 l15 [],qc gP60 gP100 q22 l17 [],.obj (gP88 x2.toNat) (List.flatten [[.int .i64 th42.id_],[.int .i64 th42.from_],[.int .i64 th42.at_],[(gv (gq4 x2.toNat) 0)],[(gv (gq4 x2.toNat) 1)],(zr (fzr SR) (fun _=>[]) th42.texts_).flatten,[.bool th42.in_],[.bool th42.out_]]) 88,.ss (zs sd0 (fun _=>[]) th42.texts_),.sl (gv (gq4 x2.toNat) 1) 3 1 (th42.writes_.map I),.sl (gv (gq4 x2.toNat) 0) 3 1 (th42.reads_.map I)])) 20 (by kernel_rfl) (Sc.past rfl (Sc.stay (sI [1,2,3,4,5,6,7,8,9,10,11,12,13]) (Sc.stayD hI))) (Sc.now (by kernel_rfl) (sI [0,1,2,3,4,5,7,8,9,10,11,12,13,14])) (V2.zz [24] (Zc.at1 hI) (fun hz84=>(V2.m (i:=23) (V':=fun _=>pt (gP70 a0.toNat) (6+x44.toNat*1)) h (Nx2.of [24] (by kernel_rfl) rfl hz84) rfl rfl rfl (Y.indexAS (l:=th45.items_) Tryz.underlying67 qc9 rfl rfl) (fun x85 ex85 h=>(V2.eff (i:=24) (by kernel_rfl) rfl (L.storeZSg (si:=5) (ps:=6) (row:=qi) (sds:=(qq 79 2 TVersion.row)) (vs:=(qk (gq9 a0.toNat) 2)) (q:=2) (p:=0) (s:=6) (c:=1) (jj:=0) (u1:=l82) (v1:=[v81]) (j:=0) h qc9 rfl rfl rfl rfl rfl (sl1 (a:=2) (p:=4) (zrN (nn:=2) (k:=1) (fun _ _=>rfl) en78) (sl1 (a:=1) (p:=3) rfl (sl1 (a:=1) (p:=2) rfl (sl1 (a:=1) (p:=1) rfl (sl1 (a:=1) (p:=0) rfl sl0))))) rfl rfl (.inr rfl) (fun _ _=>rfl) (fun _ _=>rfl) (qt ex85) rfl rfl rfl rfl ?_)))))))
    intro l86 q87 el86 h
    refine L.nil (E.toV2 (stC [] [] (Cls w F [.sl (sv b80 1) 79 2 (([(⟨th45.now_,x79⟩:TVersion)]).map TVersion.row),.sl (gv (gq9 a0.toNat) 0) 84 1 (th45.active_.map (PR gP88)),.sl (gv (gq9 a0.toNat) 1) 84 1 (th45.over_.map (PR gP88)),.ss (zs sd0 (fun _=>[]) th45.logs_),qf gP70 gP88 gP100 gq9 gl8 (a0.toNat :: []),qj gP88 gq4 gl3 (x2.toNat :: []),qe gP60 q20 l15 [],qc gP60 gP100 q22 l17 [],.obj (gP88 x2.toNat) (List.flatten [[.int .i64 th42.id_],[.int .i64 th42.from_],[.int .i64 th42.at_],[(gv (gq4 x2.toNat) 0)],[(gv (gq4 x2.toNat) 1)],(zr (fzr SR) (fun _=>[]) th42.texts_).flatten,[.bool th42.in_],[.bool th42.out_]]) 88,.ss (zs sd0 (fun _=>[]) th42.texts_),.sl (gv (gq4 x2.toNat) 1) 3 1 (th42.writes_.map I),.sl (gv (gq4 x2.toNat) 0) 3 1 (th42.reads_.map I)])) 24 (by kernel_rfl) (Sc.past rfl (Sc.stayD hI)) (Sc.atD (sI [0,2,3,4,6,7,8,9,10,11,12,13])) (V2.done (by kernel_rfl) (E.blockN (E.thenN (W.region (L.m (V:=fun x88=>.int .i64 x88) h rfl (Y.addM rfl rfl) (fun x88 ex88 h=>(L.r 1 rfl (L.nil (E.to (D:=Cls w F [.sl (sv b80 1) 79 2 (([(⟨th45.now_,x79⟩:TVersion)]).map TVersion.row),.obj (gP70 a0.toNat) (List.flatten [(zr (fzr (PR gP100)) (fun _=>[]) th45.logs_).flatten,[.int .i64 th45.half_],[.int .i64 th45.gen_],[.bool th45.down_],[.int .i64 th45.now_],(zr qi (qk ([(gv (gq9 a0.toNat) 0),(gv (gq9 a0.toNat) 1)]++ghl q87 l86.length) 2) l86).flatten,[(gv (gq9 a0.toNat) 0)],[(gv (gq9 a0.toNat) 1)]]) 70,.sl (gv (gq9 a0.toNat) 0) 84 1 (th45.active_.map (PR gP88)),.sl (gv (gq9 a0.toNat) 1) 84 1 (th45.over_.map (PR gP88)),.ss (zs sd0 (fun _=>[]) th45.logs_),.ss (zs (qq 79 2 TVersion.row) (qk ([(gv (gq9 a0.toNat) 0),(gv (gq9 a0.toNat) 1)]++ghl q87 l86.length) 2) l86),qf gP70 gP88 gP100 gq9 gl8 (a0.toNat :: []),qj gP88 gq4 gl3 (x2.toNat :: []),qe gP60 q20 l15 [],qc gP60 gP100 q22 l17 [],.obj (gP88 x2.toNat) (List.flatten [[.int .i64 th42.id_],[.int .i64 th42.from_],[.int .i64 th42.at_],[(gv (gq4 x2.toNat) 0)],[(gv (gq4 x2.toNat) 1)],(zr (fzr SR) (fun _=>[]) th42.texts_).flatten,[.bool th42.in_],[.bool th42.out_]]) 88,.ss (zs sd0 (fun _=>[]) th42.texts_),.sl (gv (gq4 x2.toNat) 1) 3 1 (th42.writes_.map I),.sl (gv (gq4 x2.toNat) 0) 3 1 (th42.reads_.map I)]) (fun _ hw=>by rw [zK [(gv (gq9 a0.toNat) 0),(gv (gq9 a0.toNat) 1)] _ 2 _ rfl,zJ [(gv (gq9 a0.toNat) 0),(gv (gq9 a0.toNat) 1)] _ 2 _ rfl];exact hw) ?_))))))))))
    obtain ⟨l90,el90,h⟩:=qd h
    refine E.arClose (row:=TStore.rowA gP88 gP100) (sub:=TStore.subA gP88 gP100) (e:=70) (g:=gP70) (gh:=gq9) (vs':=([(gv (gq9 a0.toNat) 0),(gv (gq9 a0.toNat) 1)]++ghl q87 l86.length)) (hs:=[]) (hs':=(a0.toNat :: [])) (m':=[.sl (sv b80 1) 79 2 (([(⟨th45.now_,x79⟩:TVersion)]).map TVersion.row),qj gP88 gq4 gl3 (x2.toNat :: []),qe gP60 q20 l15 [],qc gP60 gP100 q22 l17 [],.obj (gP88 x2.toNat) (List.flatten [[.int .i64 th42.id_],[.int .i64 th42.from_],[.int .i64 th42.at_],[(gv (gq4 x2.toNat) 0)],[(gv (gq4 x2.toNat) 1)],(zr (fzr SR) (fun _=>[]) th42.texts_).flatten,[.bool th42.in_],[.bool th42.out_]]) 88,.ss (zs sd0 (fun _=>[]) th42.texts_),.sl (gv (gq4 x2.toNat) 1) 3 1 (th42.writes_.map I),.sl (gv (gq4 x2.toNat) 0) 3 1 (th42.reads_.map I)]) [1,2,3,4,5,6,0,7,8,9,10,11,12,13] el90 (by decide) rfl (fun _=>List.mem_cons) List.not_mem_nil ?_
    intro q89
    exact E.to (D:=Cls w F [qf gP70 gP88 gP100 q89 l90 [],.sl (sv b80 1) 79 2 (([(⟨th45.now_,x79⟩:TVersion)]).map TVersion.row),qj gP88 gq4 gl3 (x2.toNat :: []),qe gP60 q20 l15 [],qc gP60 gP100 q22 l17 [],.obj (gP88 x2.toNat) (List.flatten [[.int .i64 th42.id_],[.int .i64 th42.from_],[.int .i64 th42.at_],[(gv (gq4 x2.toNat) 0)],[(gv (gq4 x2.toNat) 1)],(zr (fzr SR) (fun _=>[]) th42.texts_).flatten,[.bool th42.in_],[.bool th42.out_]]) 88,.ss (zs sd0 (fun _=>[]) th42.texts_),.sl (gv (gq4 x2.toNat) 1) 3 1 (th42.writes_.map I),.sl (gv (gq4 x2.toNat) 0) 3 1 (th42.reads_.map I)]) hI (E.aJ ⟨x88,l90,q89,rfl,rfl,by rw [hg1];exact h⟩ (sI [2,0,3,4,5,6,7,8]))
   exact ln (W.seq (W.condF rfl (W.exit (E.thenX (E.KLX (E.blockX (E.to (D:=Cls w F [qj gP88 gq4 gl3 [],qf gP70 gP88 gP100 gq9 gl8 [],qe gP60 q20 l15 [],qc gP60 gP100 q22 l17 []]) (fun _ hw=>hw.arShut (hs':=(x2.toNat :: [])) [4,7,6,5,0,1,2,3] eth42 (by decide) rfl (fun _=>List.mem_cons) List.not_mem_nil) (E.jJ ⟨gl8,gq9,rfl,rfl,h⟩ hI))))))))
  rintro _ _ ⟨gl5,gq6,rfl,rfl,h⟩
  rw [qe0] at h
  refine sr (L.r 2 rfl ?_)
  obtain ⟨th30,eth30,h⟩:=qd h
  refine L.to (D:=Cls w F [.obj (gP70 a0.toNat) (List.flatten [(zr (fzr (PR gP100)) (fun _=>[]) th30.logs_).flatten,[.int .i64 th30.half_],[.int .i64 th30.gen_],[.bool th30.down_],[.int .i64 th30.now_],(zr qi (qk (gq6 a0.toNat) 2) th30.items_).flatten,[(gv (gq6 a0.toNat) 0)],[(gv (gq6 a0.toNat) 1)]]) 70,.sl (gv (gq6 a0.toNat) 0) 84 1 (th30.active_.map (PR gP88)),.sl (gv (gq6 a0.toNat) 1) 84 1 (th30.over_.map (PR gP88)),.ss (zs sd0 (fun _=>[]) th30.logs_),.ss (zs (qq 79 2 TVersion.row) (qk (gq6 a0.toNat) 2) th30.items_),qf gP70 gP88 gP100 gq6 gl5 (a0.toNat :: []),qj gP88 gq4 gl3 [],qe gP60 q20 l15 [],qc gP60 gP100 q22 l17 []]) (fun _ hw=>hw.arOpen (p:=1) rfl eth30 List.not_mem_nil) (L.y rfl (Y.apNil rfl eth30) (L.y rfl (Y.fieldP yY rfl) ?_))
  obtain ⟨_,qfM,h⟩:=qd h
  obtain ⟨_,qfM⟩:=qh qfM
  obtain ⟨_,qif,h⟩:=qd h
  obtain ⟨_,qif⟩:=qh qif
  refine L.y rfl (Y.loadG (q:=0) (si:=7) (ps:=27) (j:=0) (X:=[(gv (gq6 a0.toNat) 1)]) qgY rfl rfl rfl rfl (sl1 (a:=2) (p:=25) (zrN (nn:=2) (k:=1) (fun _ _=>rfl) qfM) (sl1 (a:=1) (p:=24) rfl (sl1 (a:=1) (p:=23) rfl (sl1 (a:=1) (p:=22) rfl (sl1 (a:=1) (p:=21) rfl (sl1 (a:=20) (p:=1) (zrN (nn:=20) (k:=1) (fun _ _=>rfl) qif) (sl1 (a:=1) (p:=0) rfl sl0))))))) rfl) (L.r 1 rfl (L.litOne rfl Tryz.underlying68 qe5 rfl (zG _ _) ?_))
  intro b33
  refine L.appM (i:=3) (g:=(PR gP88)) (l:=th30.over_) (more:=[x2]) h rfl Tryz.underlying68 qe5 rfl rfl rfl (fun w hw=>As.at_ (hw.get (i:=0) rfl)) (jG _) rfl ?_
  intro v34 l35 el35 h
  refine L.y rfl (Y.apNil rfl eth30) (L.y rfl (Y.fieldP yY rfl) (L.storeGV (q:=2) (si:=7) (ps:=27) (j:=0) (X:=[(gv (gq6 a0.toNat) 1)]) qjk rfl rfl rfl (fun _ hw=>(As.at_ (hw.get (i:=0) rfl)).one) rfl rfl (sl1 (a:=2) (p:=25) (zrN (nn:=2) (k:=1) (fun _ _=>rfl) qfM) (sl1 (a:=1) (p:=24) rfl (sl1 (a:=1) (p:=23) rfl (sl1 (a:=1) (p:=22) rfl (sl1 (a:=1) (p:=21) rfl (sl1 (a:=20) (p:=1) (zrN (nn:=20) (k:=1) (fun _ _=>rfl) qif) (sl1 (a:=1) (p:=0) rfl sl0))))))) rfl (nsr (L.r 2 rfl (L.to (D:=Cls w F [.sl v34 84 1 (l35.map (PR gP88)),.sl (sv b33 1) 84 1 (([x2]).map (PR gP88)),.obj (gP70 a0.toNat) (List.flatten [(zr (fzr (PR gP100)) (fun _=>[]) th30.logs_).flatten,[.int .i64 th30.half_],[.int .i64 th30.gen_],[.bool th30.down_],[.int .i64 th30.now_],(zr qi (qk ([(gv (gq6 a0.toNat) 0),v34]++ghl (qk (gq6 a0.toNat) 2) th30.items_.length) 2) th30.items_).flatten,[(gv (gq6 a0.toNat) 0)],[v34]]) 70,.sl (gv (gq6 a0.toNat) 0) 84 1 (th30.active_.map (PR gP88)),.ss (zs sd0 (fun _=>[]) th30.logs_),.ss (zs (qq 79 2 TVersion.row) (qk ([(gv (gq6 a0.toNat) 0),v34]++ghl (qk (gq6 a0.toNat) 2) th30.items_.length) 2) th30.items_),qf gP70 gP88 gP100 gq6 gl5 (a0.toNat :: []),qj gP88 gq4 gl3 [],qe gP60 q20 l15 [],qc gP60 gP100 q22 l17 []]) (fun _ hw=>by rw [zK [(gv (gq6 a0.toNat) 0),v34] _ 2 _ rfl,zJ [(gv (gq6 a0.toNat) 0),v34] _ 2 _ rfl];exact hw) ?_)))))
  obtain ⟨l37,el37,h⟩:=qd h
  refine L.arClose (row:=TStore.rowA gP88 gP100) (sub:=TStore.subA gP88 gP100) (e:=70) (g:=gP70) (gh:=gq6) (vs':=([(gv (gq6 a0.toNat) 0),v34]++ghl (qk (gq6 a0.toNat) 2) th30.items_.length)) (hs:=[]) (hs':=(a0.toNat :: [])) (m':=[.sl (sv b33 1) 84 1 (([x2]).map (PR gP88)),qj gP88 gq4 gl3 [],qe gP60 q20 l15 [],qc gP60 gP100 q22 l17 []]) [2,3,0,4,5,6,1,7,8,9] el37 (by decide) rfl (fun _=>List.mem_cons) List.not_mem_nil ?_
  intro q36
  refine L.to (D:=Cls w F [qf gP70 gP88 gP100 q36 l37 [],.sl (sv b33 1) 84 1 (([x2]).map (PR gP88)),qj gP88 gq4 gl3 [],qe gP60 q20 l15 [],qc gP60 gP100 q22 l17 []]) hI (L.to (D:=Cls w F [qf gP70 gP88 gP100 q36 l37 [],qj gP88 gq4 gl3 [],.sl (sv b33 1) 84 1 (([x2]).map (PR gP88)),qe gP60 q20 l15 [],qc gP60 gP100 q22 l17 []]) (sI [0,2,1,3,4]) ?_)
  obtain ⟨l38,e39,h⟩:=qd h
  refine L.doesP (A:=[qf gP70 gP88 gP100 q36 l37 [],qj gP88 gq4 gl3 []]) (M:=[.sl (sv b33 1) 84 1 (([x2]).map (PR gP88)),qe gP60 q20 l15 [],qc gP60 gP100 q22 l17 []]) rfl qhW rfl (fun w' hw=>W33 a0 x2 l37 gl3 gP70 gP88 gP100 q36 gq4 w' _ e39 _ hw.lend) ?_
  rintro _ _ ⟨q40,rfl,rfl⟩
  refine L.to (D:=Cls w F [qf gP70 gP88 gP100 q40 l38 [],qj gP88 gq4 gl3 [],.sl (sv b33 1) 84 1 (([x2]).map (PR gP88)),qe gP60 q20 l15 [],qc gP60 gP100 q22 l17 []]) hI ?_
  obtain ⟨th41,eth41,h⟩:=qd h
  refine L.to (D:=Cls w F [.obj (gP70 a0.toNat) (List.flatten [(zr (fzr (PR gP100)) (fun _=>[]) th41.logs_).flatten,[.int .i64 th41.half_],[.int .i64 th41.gen_],[.bool th41.down_],[.int .i64 th41.now_],(zr qi (qk (q40 a0.toNat) 2) th41.items_).flatten,[(gv (q40 a0.toNat) 0)],[(gv (q40 a0.toNat) 1)]]) 70,.sl (gv (q40 a0.toNat) 0) 84 1 (th41.active_.map (PR gP88)),.sl (gv (q40 a0.toNat) 1) 84 1 (th41.over_.map (PR gP88)),.ss (zs sd0 (fun _=>[]) th41.logs_),.ss (zs (qq 79 2 TVersion.row) (qk (q40 a0.toNat) 2) th41.items_),qf gP70 gP88 gP100 q40 l38 (a0.toNat :: []),qj gP88 gq4 gl3 [],.sl (sv b33 1) 84 1 (([x2]).map (PR gP88)),qe gP60 q20 l15 [],qc gP60 gP100 q22 l17 []]) (fun _ hw=>hw.arOpen (p:=0) rfl eth41 List.not_mem_nil) (nsr (L.r 1 rfl (ln (W.ret (E.to (D:=Cls w F [qf gP70 gP88 gP100 q40 l38 [],qj gP88 gq4 gl3 [],.sl (sv b33 1) 84 1 (([x2]).map (PR gP88)),qe gP60 q20 l15 [],qc gP60 gP100 q22 l17 []]) (fun _ hw=>hw.arShut (hs':=(a0.toNat :: [])) [0,1,2,3,4,5,6,7,8,9] eth41 (by decide) rfl (fun _=>List.mem_cons) List.not_mem_nil) (E.ret1 rfl rfl (fun w1 hw=>?_)))))))
  cases h
  exact ⟨_,_,rfl,⟨_,_,_,_,rfl,rfl⟩,hw.s [3,0,1,4]⟩
 refine L.r 3 rfl (ln (W.seq (sr (L.r 1 rfl (L.y rfl (Y.not rfl) (ln (W.condT rfl (sr (L.r 2 rfl ?_)))))))))
 refine L.to (D:=Cls w F [qf gP70 gP88 gP100 qP70 A70 [],qj gP88 qP88 A88 [],.sl v8 84 1 (l7.map (PR gP88)),.sl v10 84 1 (l9.map (PR gP88)),qe gP60 qP60 A60 [],qc gP60 gP100 qP100 A100 []]) (fun _ hw=>hw.arShut (hs':=(a0.toNat :: [])) [0,1,2,3,4,5,6,7,8,9,10] eth13 (by decide) rfl (fun _=>List.mem_cons) List.not_mem_nil) ?_
 obtain ⟨l115,e116,h⟩:=qd h
 refine L.doesP (A:=[qf gP70 gP88 gP100 qP70 A70 [],qj gP88 qP88 A88 []]) (M:=[.sl v8 84 1 (l7.map (PR gP88)),.sl v10 84 1 (l9.map (PR gP88)),qe gP60 qP60 A60 [],qc gP60 gP100 qP100 A100 []]) rfl qhW rfl (fun w' hw=>W33 a0 x2 A70 A88 gP70 gP88 gP100 qP70 qP88 w' _ e116 _ hw.lend) ?_
 rintro _ _ ⟨q117,rfl,rfl⟩
 refine L.to (D:=Cls w F [qf gP70 gP88 gP100 q117 l115 [],qj gP88 qP88 A88 [],.sl v8 84 1 (l7.map (PR gP88)),.sl v10 84 1 (l9.map (PR gP88)),qe gP60 qP60 A60 [],qc gP60 gP100 qP100 A100 []]) hI ?_
 obtain ⟨th118,eth118,h⟩:=qd h
 refine L.to (D:=Cls w F [.obj (gP70 a0.toNat) (List.flatten [(zr (fzr (PR gP100)) (fun _=>[]) th118.logs_).flatten,[.int .i64 th118.half_],[.int .i64 th118.gen_],[.bool th118.down_],[.int .i64 th118.now_],(zr qi (qk (q117 a0.toNat) 2) th118.items_).flatten,[(gv (q117 a0.toNat) 0)],[(gv (q117 a0.toNat) 1)]]) 70,.sl (gv (q117 a0.toNat) 0) 84 1 (th118.active_.map (PR gP88)),.sl (gv (q117 a0.toNat) 1) 84 1 (th118.over_.map (PR gP88)),.ss (zs sd0 (fun _=>[]) th118.logs_),.ss (zs (qq 79 2 TVersion.row) (qk (q117 a0.toNat) 2) th118.items_),qf gP70 gP88 gP100 q117 l115 (a0.toNat :: []),qj gP88 qP88 A88 [],.sl v8 84 1 (l7.map (PR gP88)),.sl v10 84 1 (l9.map (PR gP88)),qe gP60 qP60 A60 [],qc gP60 gP100 qP100 A100 []]) (fun _ hw=>hw.arOpen (p:=0) rfl eth118 List.not_mem_nil) (nsr (L.r 1 rfl (ln (W.ret (E.thenR (E.to (D:=Cls w F [qf gP70 gP88 gP100 q117 l115 [],qj gP88 qP88 A88 [],.sl v8 84 1 (l7.map (PR gP88)),.sl v10 84 1 (l9.map (PR gP88)),qe gP60 qP60 A60 [],qc gP60 gP100 qP100 A100 []]) (fun _ hw=>hw.arShut (hs':=(a0.toNat :: [])) [0,1,2,3,4,5,6,7,8,9,10] eth118 (by decide) rfl (fun _=>List.mem_cons) List.not_mem_nil) (E.ret1 rfl rfl (fun w1 hw=>?_))))))))
 cases h
 exact ⟨_,_,rfl,⟨_,_,_,_,rfl,rfl⟩,hw.s [4,0,1,5]⟩
set_option maxRecDepth 100000 in
set_option maxHeartbeats 8000000 in
theorem W9 (a0:Int) (a1:(List Bool)) (A60:(List TDisk)) (gP60:Nat→Nat) (u1:Value) (qP60:Nat→List Value) (w:World) (r:(List TDisk)) (h:M9 a0 a1 A60=some r) (F:List Nat) (hA1:StbF (fun w=>At w u1 1 (a1.map B)) w F) (hc0:Cls w F [qe gP60 qP60 A60 []] w):zg Tryz.prog 9 [VP gP60 a0,u1] F w fun u m=>∃ Q60,u=.tuple #[]∧m=[qe gP60 Q60 r []]:=by
 rw [M9] at h
 refine body (n:=51) Tryz.func9 rfl rfl rfl hc0 (W.seqJ (fun gs D=>∃ gl1 gq2,gs=[(0,VP gP60 a0)]∧D=Cls w F [qe gP60 gq2 gl1 []]∧qje a0 gl1=some r) ?_ ?_)
 ·refine sr (L.r 1 rfl ?_)
  obtain ⟨th6,eth6,h⟩:=qd h
  refine L.to (D:=Cls w F [.obj (gP60 a0.toNat) [(gv (qP60 a0.toNat) 0),(gv (qP60 a0.toNat) 1),(gv (qP60 a0.toNat) 2),.int .i64 th6.left_] 60,.sl (gv (qP60 a0.toNat) 0) 9 1 (th6.safe_.map SR),.sl (gv (qP60 a0.toNat) 1) 9 1 (th6.seen_.map SR),.sl (gv (qP60 a0.toNat) 2) 62 2 (th6.late_.map Twrite.row),qe gP60 qP60 A60 (a0.toNat :: [])]) (fun _ hw=>hw.arOpen (p:=0) rfl eth6 List.not_mem_nil) (L.y rfl (Y.apNil rfl eth6) (L.y rfl (Y.fieldP y0 rfl) (L.y rfl (Y.loadP (i:=0) qkr rfl rfl rfl) (L.y rfl (Y.lenM (g:=Twrite.row) (l:=th6.late_) Tryz.underlying58 rfl (fun w hw=>As.at_ (hw.get (i:=3) rfl))) (L.r 1 rfl (ln (W.block (W.loopJ (fun m gs D=>∃ gx3 gl4,gs=[(0,VP gP60 a0),(1,u1),(9,(gv (qP60 a0.toNat) 2)),(10,.int .i64 (th6.late_.length:Int)),(11,.int .i64 gx3)]∧D=Cls w F [qe gP60 qP60 A60 (a0.toNat :: []),.obj (gP60 a0.toNat) [(gv (qP60 a0.toNat) 0),(gv (qP60 a0.toNat) 1),(gv (qP60 a0.toNat) 2),.int .i64 th6.left_] 60,.sl (gv (qP60 a0.toNat) 2) 62 2 (th6.late_.map Twrite.row),.sl (gv (qP60 a0.toNat) 0) 9 1 (gl4.map SR),.sl (gv (qP60 a0.toNat) 1) 9 1 (th6.seen_.map SR)]∧qf7 th6 a1 A60 a0 m gx3 gl4=some r) ⟨0,th6.safe_,rfl,rfl,h⟩ ⟨rfl,rfl,rfl,rfl,rfl,trivial⟩ (sI [4,0,3,1,2]) ?_))))))))
  rintro m _ _ ⟨gx3,gl4,rfl,rfl,h⟩
  rcases m with _ | m
  ·rw [qf7] at h;cases h
  rw [qf7] at h
  generalize hg1:qf7 th6 a1 A60 a0 m=go1 at h
  rw [qf6] at h
  refine sr (L.ite h rfl (Y.lss rfl rfl) (fun c7 h=>?_) (fun c7 h=>?_))
  ·refine ln (W.seq (W.condT rfl (W.skip (E.thenN (W.seq (W.block (sr (L.r 1 rfl (L.m (V:=fun _=>el (gv (qP60 a0.toNat) 2) (gx3.toNat*2)) h rfl (Y.indexM (g:=Twrite.row) (l:=th6.late_) Tryz.underlying58 qjC rfl rfl (fun w hw=>As.at_ (hw.get (i:=2) rfl))) (fun x8 ex8 h=>(L.y rfl (Y.loadEN (r:=[.int .i64 x8.at_,st x8.text_]) qk2 qjC rfl (fun w hw=>As.at_ (hw.get (i:=2) rfl)) (qx ex8) rfl) (L.alloc rfl qky ?_))))))))))))
   intro b9
   refine L.r 1 rfl (L.store (i:=0) (vs:=[.int .i64 x8.at_,st x8.text_]) qjC rfl rfl rfl rfl (by simp [Value.oneCell',Value.cells,st,pt,el]) rfl nb (nsr (L.r 2 rfl (L.y rfl (Y.lenM (g:=B) (l:=a1) Tryz.underlying35 rfl (fun w' hw=>hA1.cls0 hw)) (L.ite h rfl (Y.lss rfl rfl) (fun c10 h=>?_) (fun c10 h=>?_))))))
   ·refine L.r 3 rfl (L.take rfl (L.m (V:=fun _=>el u1 (gx3.toNat*1)) h rfl (Y.indexM (g:=B) (l:=a1) Tryz.underlying35 sz4 rfl rfl (fun w' hw=>hA1.cls0 hw)) (fun x11 ex11 h=>(L.take rfl (L.iteB h rfl (Y.loadE1 (u:=.bool x11) ag4 rfl (fun w' hw=>hA1.cls0 hw) (qx ex11)) (fun c12 h=>?_) (fun c12 h=>?_))))))
    ·refine L.r 1 rfl (ln (W.condT rfl (W.drawn2 (k:=10) (stC [[9]] [Cls w F [.obj b9 [.int .i64 x8.at_,st x8.text_] 62,qe gP60 qP60 A60 (a0.toNat :: []),.obj (gP60 a0.toNat) [(gv (qP60 a0.toNat) 0),(gv (qP60 a0.toNat) 1),(gv (qP60 a0.toNat) 2),.int .i64 th6.left_] 60,.sl (gv (qP60 a0.toNat) 2) 62 2 (th6.late_.map Twrite.row),.sl (gv (qP60 a0.toNat) 0) 9 1 (gl4.map SR),.sl (gv (qP60 a0.toNat) 1) 9 1 (th6.seen_.map SR)]] (Cls w F [.obj b9 [.int .i64 x8.at_,st x8.text_] 62,qe gP60 qP60 A60 (a0.toNat :: []),.obj (gP60 a0.toNat) [(gv (qP60 a0.toNat) 0),(gv (qP60 a0.toNat) 1),(gv (qP60 a0.toNat) 2),.int .i64 th6.left_] 60,.sl (gv (qP60 a0.toNat) 2) 62 2 (th6.late_.map Twrite.row),.sl (gv (qP60 a0.toNat) 1) 9 1 (th6.seen_.map SR)])) rfl mixed (fun _ hw=>hw.drew) (Sc.now (by kernel_rfl) hI) (V2.zz [] (Zc.on' (Zc.fin hI) (sI [0,1,2,3,5])) (fun hz16=>(V2.r [0] (by kernel_rfl) rfl (V2.apNil (i:=1) (Nx2.of [] (by kernel_rfl) rfl hz16) rfl rfl rfl eth6 (V2.q 2 [] hz16 rfl rfl (Y.fieldP ju rfl) (V2.q 3 [] hz16 rfl rfl (Y.loadP (i:=2) qde rfl rfl rfl) (V2.q 4 [] hz16 rfl rfl (Y.fieldP qiY rfl) (V2.q 5 [] hz16 rfl rfl (Y.loadP (i:=0) ag3 rfl rfl rfl) (V2.q 6 [] hz16 rfl rfl (Y.fieldP qiX rfl) (V2.q 7 [] hz16 rfl rfl (Y.loadP (i:=0) ag9 rfl rfl rfl) ?_)))))))))))))
     refine V2.zz [9] (Zc.at1 hI) (fun hz17=>(V2.m (i:=8) (V':=fun _=>el (gv (qP60 a0.toNat) 0) (x8.at_.toNat*1)) h (Nx2.of [9] (by kernel_rfl) rfl hz17) rfl rfl rfl (Y.indexM (g:=SR) (l:=gl4) Tryz.underlying57 sz9 rfl rfl (fun w hw=>As.at_ (hw.get (i:=4) rfl))) (fun x18 ex18 h=>(V2.eff (i:=9) (by kernel_rfl) rfl (L.storeSlM (q:=4) (row:=SR) (vs:=[st x8.text_]) (j:=0) (u1:=x8.text_) h sz9 rfl rfl rfl rfl rfl (zi rfl zq) rfl ex18 rfl rfl ?_)))))
     intro l19 el19 h
     exact L.nil (E.toV2 (stC [] [] (Cls w F [.obj b9 [.int .i64 x8.at_,st x8.text_] 62,qe gP60 qP60 A60 (a0.toNat :: []),.obj (gP60 a0.toNat) [(gv (qP60 a0.toNat) 0),(gv (qP60 a0.toNat) 1),(gv (qP60 a0.toNat) 2),.int .i64 th6.left_] 60,.sl (gv (qP60 a0.toNat) 2) 62 2 (th6.late_.map Twrite.row),.sl (gv (qP60 a0.toNat) 1) 9 1 (th6.seen_.map SR)])) 9 (by kernel_rfl) (Sc.past rfl (Sc.stayD hI)) (Sc.atD (sI [0,1,2,3,5])) (V2.done (by kernel_rfl) (E.blockN (E.thenN (W.region (L.m (V:=fun x20=>.int .i64 x20) h rfl (Y.addM rfl rfl) (fun x20 ex20 h=>(L.r 1 rfl (L.nil (E.aJ ⟨x20,l19,rfl,rfl,by rw [hg1];exact h⟩ (sI [1,2,3,4,5])))))))))))
    exact L.r 1 rfl (ln (W.condF rfl (W.skip (E.blockN (E.thenN (W.region (L.m (V:=fun x21=>.int .i64 x21) h rfl (Y.addM rfl rfl) (fun x21 ex21 h=>(L.r 1 rfl (L.nil (E.aJ ⟨x21,gl4,rfl,rfl,by rw [hg1];exact h⟩ (sI [1,2,3,4,5]))))))))))))
   exact L.r 6 rfl (ln (W.condF rfl (W.skip (E.blockN (E.thenN (W.region (L.m (V:=fun x22=>.int .i64 x22) h rfl (Y.addM rfl rfl) (fun x22 ex22 h=>(L.r 1 rfl (L.nil (E.aJ ⟨x22,gl4,rfl,rfl,by rw [hg1];exact h⟩ (sI [1,2,3,4,5]))))))))))))
  refine ln (W.seq (W.condF rfl (W.exit (E.thenX (E.KLX (E.blockX ?_))))))
  obtain ⟨l23,el23,h⟩:=qd h
  refine E.arClose (row:=TDisk.rowA) (sub:=TDisk.subA) (e:=60) (g:=gP60) (gh:=qP60) (vs':=[(gv (qP60 a0.toNat) 0),(gv (qP60 a0.toNat) 1),(gv (qP60 a0.toNat) 2)]) (hs:=[]) (hs':=(a0.toNat :: [])) (m':=[]) [1,3,4,2,0] el23 (by decide) rfl (fun _=>List.mem_cons) List.not_mem_nil ?_
  intro q24
  exact E.to (D:=Cls w F [qe gP60 q24 l23 []]) hI (E.jJ ⟨l23,q24,rfl,rfl,h⟩ hI)
 rintro _ _ ⟨gl1,gq2,rfl,rfl,h⟩
 rw [qje] at h
 refine W.seq ?_
 obtain ⟨th1,eth1,h⟩:=qd h
 refine W.to (D:=Cls w F [.obj (gP60 a0.toNat) [(gv (gq2 a0.toNat) 0),(gv (gq2 a0.toNat) 1),(gv (gq2 a0.toNat) 2),.int .i64 th1.left_] 60,.sl (gv (gq2 a0.toNat) 0) 9 1 (th1.safe_.map SR),.sl (gv (gq2 a0.toNat) 1) 9 1 (th1.seen_.map SR),.sl (gv (gq2 a0.toNat) 2) 62 2 (th1.late_.map Twrite.row),qe gP60 gq2 gl1 (a0.toNat :: [])]) (fun _ hw=>hw.arOpen (p:=0) rfl eth1 List.not_mem_nil) (W.drawn2 (k:=9) (stC [[8]] [Cls w F [.obj (gP60 a0.toNat) [(gv (gq2 a0.toNat) 0),(gv (gq2 a0.toNat) 1),(gv (gq2 a0.toNat) 2),.int .i64 th1.left_] 60,.sl (gv (gq2 a0.toNat) 0) 9 1 (th1.safe_.map SR),.sl (gv (gq2 a0.toNat) 1) 9 1 (th1.seen_.map SR),.sl (gv (gq2 a0.toNat) 2) 62 2 (th1.late_.map Twrite.row),qe gP60 gq2 gl1 (a0.toNat :: [])]] (Cls w F [.obj (gP60 a0.toNat) [(gv (gq2 a0.toNat) 0),(gv (gq2 a0.toNat) 1),(gv (gq2 a0.toNat) 2),.int .i64 th1.left_] 60,.sl (gv (gq2 a0.toNat) 0) 9 1 (th1.safe_.map SR),.sl (gv (gq2 a0.toNat) 2) 62 2 (th1.late_.map Twrite.row),qe gP60 gq2 gl1 (a0.toNat :: [])])) rfl mixed (fun _ hw=>hw.drew) (Sc.now (by kernel_rfl) hI) (V2.zz [] (Zc.on' (Zc.fin hI) (sI [0,1,3,4])) (fun hz3=>(V2.r [0] (by kernel_rfl) rfl (V2.apNil (i:=1) (Nx2.of [] (by kernel_rfl) rfl hz3) rfl rfl rfl eth1 (V2.q 2 [] hz3 rfl rfl (Y.fieldP y1 rfl) (V2.q 3 [] hz3 rfl rfl (Y.loadP (i:=0) qde rfl rfl rfl) (V2.r [4] (by kernel_rfl) rfl (V2.apNil (i:=5) (Nx2.of [] (by kernel_rfl) rfl hz3) rfl rfl rfl eth1 (V2.q 6 [] hz3 rfl rfl (Y.fieldP ju rfl) (V2.q 7 [] hz3 rfl rfl (Y.loadP (i:=0) qde rfl rfl rfl) (V2.eff (i:=8) (by kernel_rfl) rfl (L.copyMD (i:=2) (g:=SR) (l:=th1.seen_) (s:=th1.safe_) rfl Tryz.underlying57 eL9 rfl rfl rfl (fun w hw=>As.at_ (hw.get (i:=1) rfl)) (qv _) (fun _=>(L.nil ?_)))))))))))))))
 refine E.toV2 (stC [] [] (Cls w F [.obj (gP60 a0.toNat) [(gv (gq2 a0.toNat) 0),(gv (gq2 a0.toNat) 1),(gv (gq2 a0.toNat) 2),.int .i64 th1.left_] 60,.sl (gv (gq2 a0.toNat) 0) 9 1 (th1.safe_.map SR),.sl (gv (gq2 a0.toNat) 2) 62 2 (th1.late_.map Twrite.row),qe gP60 gq2 gl1 (a0.toNat :: [])])) 8 (by kernel_rfl) (Sc.past rfl (Sc.stayD hI)) (Sc.atD (sI [0,1,3,4])) (V2.done (by kernel_rfl) (E.thenN (W.region (L.r 2 rfl (L.y rfl (Y.apNil rfl eth1) (L.y rfl (Y.fieldP y0 rfl) (L.store (i:=0) (vs:=[.slice none 0 0]) qjD rfl rfl rfl rfl (by simp [Value.oneCell',Value.cells,st,pt,el]) rfl nb (L.y rfl (Y.apNil rfl eth1) (L.y rfl (Y.fieldP vc rfl) (L.store (i:=0) (vs:=[.int .i64 (-1)]) sz3 rfl rfl rfl rfl (by simp [Value.oneCell',Value.cells,st,pt,el]) rfl nb (L.nil (E.nilSl 62 2 ?_))))))))))))
 obtain ⟨l4,el4,h⟩:=qd h
 refine E.arClose (row:=TDisk.rowA) (sub:=TDisk.subA) (e:=60) (g:=gP60) (gh:=gq2) (vs':=[(gv (gq2 a0.toNat) 0),(gv (gq2 a0.toNat) 1),(.slice none 0 0)]) (hs:=[]) (hs':=(a0.toNat :: [])) (m':=[.sl (gv (gq2 a0.toNat) 2) 62 2 (th1.late_.map Twrite.row)]) [1,2,3,0,5,4] el4 (by decide) rfl (fun _=>List.mem_cons) List.not_mem_nil ?_
 intro q5
 refine E.to (D:=Cls w F [qe gP60 q5 l4 [],.sl (gv (gq2 a0.toNat) 2) 62 2 (th1.late_.map Twrite.row)]) hI (E.end0 rfl (fun w1 hw=>?_))
 cases h
 exact ⟨_,_,rfl,⟨_,rfl,rfl⟩,hw.s [0]⟩
set_option maxRecDepth 100000 in
set_option maxHeartbeats 8000000 in
theorem W11 (a0:Int) (A70:(List TStore)) (gP70:Nat→Nat) (gP88:Nat→Nat) (gP100:Nat→Nat) (qP70:Nat→List Value) (w:World) (r:(List (List UInt8))) (h:M11 a0 A70=some r) (F:List Nat) (hc0:Cls w F [qf gP70 gP88 gP100 qP70 A70 []] w):zg Tryz.prog 11 [VP gP70 a0] F w fun u m=>u=.agg (r.map SR).flatten.toArray∧m=[qf gP70 gP88 gP100 qP70 A70 []]:=by
 rw [M11] at h
 refine body (n:=25) Tryz.func11 rfl rfl rfl hc0 ?_
 obtain ⟨th1,eth1,h⟩:=qd h
 refine W.to (D:=Cls w F [.obj (gP70 a0.toNat) (List.flatten [(zr (fzr (PR gP100)) (fun _=>[]) th1.logs_).flatten,[.int .i64 th1.half_],[.int .i64 th1.gen_],[.bool th1.down_],[.int .i64 th1.now_],(zr qi (qk (qP70 a0.toNat) 2) th1.items_).flatten,[(gv (qP70 a0.toNat) 0)],[(gv (qP70 a0.toNat) 1)]]) 70,.sl (gv (qP70 a0.toNat) 0) 84 1 (th1.active_.map (PR gP88)),.sl (gv (qP70 a0.toNat) 1) 84 1 (th1.over_.map (PR gP88)),.ss (zs sd0 (fun _=>[]) th1.logs_),.ss (zs (qq 79 2 TVersion.row) (qk (qP70 a0.toNat) 2) th1.items_),qf gP70 gP88 gP100 qP70 A70 (a0.toNat :: [])]) (fun _ hw=>hw.arOpen (p:=0) rfl eth1 List.not_mem_nil) (sr (L.alloc rfl qjx ?_))
 intro b2
 refine L.to (D:=Cls w F [.obj b2 (((List.replicate 20 ([]:(List UInt8))).map SR).flatten) 30,.obj (gP70 a0.toNat) (List.flatten [(zr (fzr (PR gP100)) (fun _=>[]) th1.logs_).flatten,[.int .i64 th1.half_],[.int .i64 th1.gen_],[.bool th1.down_],[.int .i64 th1.now_],(zr qi (qk (qP70 a0.toNat) 2) th1.items_).flatten,[(gv (qP70 a0.toNat) 0)],[(gv (qP70 a0.toNat) 1)]]) 70,.sl (gv (qP70 a0.toNat) 0) 84 1 (th1.active_.map (PR gP88)),.sl (gv (qP70 a0.toNat) 1) 84 1 (th1.over_.map (PR gP88)),.ss (zs sd0 (fun _=>[]) th1.logs_),.ss (zs (qq 79 2 TVersion.row) (qk (qP70 a0.toNat) 2) th1.items_),qf gP70 gP88 gP100 qP70 A70 (a0.toNat :: [])]) (fun _ hw=>by first | exact hw | simpa [I,B,SR] using hw) (nsr (L.alloc rfl qjx ?_))
 intro b3
 refine L.to (D:=Cls w F [.obj b3 (((List.replicate 20 ([]:(List UInt8))).map SR).flatten) 30,.obj b2 (((List.replicate 20 ([]:(List UInt8))).map SR).flatten) 30,.obj (gP70 a0.toNat) (List.flatten [(zr (fzr (PR gP100)) (fun _=>[]) th1.logs_).flatten,[.int .i64 th1.half_],[.int .i64 th1.gen_],[.bool th1.down_],[.int .i64 th1.now_],(zr qi (qk (qP70 a0.toNat) 2) th1.items_).flatten,[(gv (qP70 a0.toNat) 0)],[(gv (qP70 a0.toNat) 1)]]) 70,.sl (gv (qP70 a0.toNat) 0) 84 1 (th1.active_.map (PR gP88)),.sl (gv (qP70 a0.toNat) 1) 84 1 (th1.over_.map (PR gP88)),.ss (zs sd0 (fun _=>[]) th1.logs_),.ss (zs (qq 79 2 TVersion.row) (qk (qP70 a0.toNat) 2) th1.items_),qf gP70 gP88 gP100 qP70 A70 (a0.toNat :: [])]) (fun _ hw=>by first | exact hw | simpa [I,B,SR] using hw) (ln (W.seqJ (fun gs D=>∃ gl1,gs=[(2,pt b2 0),(3,pt b3 0)]∧D=Cls w F [qf gP70 gP88 gP100 qP70 A70 (a0.toNat :: []),.obj b3 ((gl1.map SR).flatten) 30,.obj b2 (((List.replicate 20 ([]:(List UInt8))).map SR).flatten) 30,.obj (gP70 a0.toNat) (List.flatten [(zr (fzr (PR gP100)) (fun _=>[]) th1.logs_).flatten,[.int .i64 th1.half_],[.int .i64 th1.gen_],[.bool th1.down_],[.int .i64 th1.now_],(zr qi (qk (qP70 a0.toNat) 2) th1.items_).flatten,[(gv (qP70 a0.toNat) 0)],[(gv (qP70 a0.toNat) 1)]]) 70,.ss (zs sd0 (fun _=>[]) th1.logs_),.ss (zs (qq 79 2 TVersion.row) (qk (qP70 a0.toNat) 2) th1.items_),.sl (gv (qP70 a0.toNat) 0) 84 1 (th1.active_.map (PR gP88)),.sl (gv (qP70 a0.toNat) 1) 84 1 (th1.over_.map (PR gP88))]∧qgq gl1=some r) ?_ ?_))
 ·refine sr (L.r 1 rfl (L.y rfl (Y.apNil rfl eth1) (L.y rfl (Y.fieldP j0 rfl) ?_)))
  obtain ⟨_,en8,h⟩:=qd h
  obtain ⟨_,en8⟩:=qh en8
  obtain ⟨_,en9,h⟩:=qd h
  obtain ⟨_,en9⟩:=qh en9
  refine L.y rfl (Y.loadGA (q:=2) (si:=5) (ps:=6) (X:=(zr qi (qk (qP70 a0.toNat) 2) th1.items_).flatten) qkp qj7 rfl rfl rfl (sl1 (a:=2) (p:=4) (zrN (nn:=2) (k:=1) (fun _ _=>rfl) en8) (sl1 (a:=1) (p:=3) rfl (sl1 (a:=1) (p:=2) rfl (sl1 (a:=1) (p:=1) rfl (sl1 (a:=1) (p:=0) rfl sl0))))) (zrN (nn:=20) (k:=1) (fun _ _=>rfl) en9)) (L.r 1 rfl (ln (W.block (W.loopJ (fun m gs D=>∃ gx2 gl3,gs=[(2,pt b2 0),(3,pt b3 0),(9,.agg (zr qi (qk (qP70 a0.toNat) 2) th1.items_).flatten.toArray),(10,.int .i64 gx2)]∧D=Cls w F [qf gP70 gP88 gP100 qP70 A70 (a0.toNat :: []),.obj b3 ((gl3.map SR).flatten) 30,.obj b2 (((List.replicate 20 ([]:(List UInt8))).map SR).flatten) 30,.obj (gP70 a0.toNat) (List.flatten [(zr (fzr (PR gP100)) (fun _=>[]) th1.logs_).flatten,[.int .i64 th1.half_],[.int .i64 th1.gen_],[.bool th1.down_],[.int .i64 th1.now_],(zr qi (qk (qP70 a0.toNat) 2) th1.items_).flatten,[(gv (qP70 a0.toNat) 0)],[(gv (qP70 a0.toNat) 1)]]) 70,.ss (zs sd0 (fun _=>[]) th1.logs_),.ss (zs (qq 79 2 TVersion.row) (qk (qP70 a0.toNat) 2) th1.items_),.sl (gv (qP70 a0.toNat) 0) 84 1 (th1.active_.map (PR gP88)),.sl (gv (qP70 a0.toNat) 1) 84 1 (th1.over_.map (PR gP88))]∧yj th1 m gx2 gl3=some r) ⟨0,(List.replicate 20 ([]:(List UInt8))),rfl,rfl,h⟩ ⟨rfl,rfl,rfl,rfl,trivial⟩ (sI [7,0,1,2,5,6,3,4]) ?_))))
  rintro m _ _ ⟨gx2,gl3,rfl,rfl,h⟩
  rcases m with _ | m
  ·rw [yj] at h;cases h
  rw [yj] at h
  generalize hg1:yj th1 m=go1 at h
  rw [qcj] at h
  refine sr (L.ite h rfl (Y.lss rfl rfl) (fun c10 h=>?_) (fun c10 h=>?_))
  ·refine ln (W.seq (W.condT rfl (W.skip (E.thenN (W.seq (W.block (sr (L.r 1 rfl ?_))))))))
   obtain ⟨x11,ex11,h⟩:=qd h
   refine L.y rfl (Y.idxZr1 (lb:=th1.items_) (vs:=(qk (qP70 a0.toNat) 2)) Tryz.underlying67 qjr qc9 rfl rfl ex11) (L.r 2 rfl (nr (L.r 3 rfl (L.y rfl (Y.lenM (g:=TVersion.row) (l:=x11) Tryz.underlying66 rfl (fun w hw=>As.atZ (sds:=(qq 79 2 TVersion.row)) (vs:=(qk (qP70 a0.toNat) 2)) (j:=0) (c:=1) (hw.get (i:=5) rfl) (fun _ _=>rfl) (qt ex11) rfl)) (L.m (V:=fun x12=>.int .i64 x12) h rfl (Y.subM rfl rfl) (fun x12 ex12 h=>(L.m (V:=fun _=>el (gv ((qk (qP70 a0.toNat) 2) gx2.toNat) 0) (x12.toNat*2)) h rfl (Y.indexM (g:=TVersion.row) (l:=x11) Tryz.underlying66 vB rfl rfl (fun w hw=>As.atZ (sds:=(qq 79 2 TVersion.row)) (vs:=(qk (qP70 a0.toNat) 2)) (j:=0) (c:=1) (hw.get (i:=5) rfl) (fun _ _=>rfl) (qt ex11) rfl)) (fun x13 ex13 h=>(L.y rfl (Y.fieldE qgM rfl) (L.y rfl (Y.loadE (u:=st x13.Text) ag9 rfl (fun w hw=>As.atZ (sds:=(qq 79 2 TVersion.row)) (vs:=(qk (qP70 a0.toNat) 2)) (j:=0) (c:=1) (hw.get (i:=5) rfl) (fun _ _=>rfl) (qt ex11) rfl) (qx ex13) rfl) (L.m (V:=fun _=>pt b3 (0+gx2.toNat*1)) h rfl (Y.indexAM (l:=gl3) Tryz.underlying30 sz9 rfl rfl) (fun x14 ex14 h=>(L.storeArM (q:=1) (row:=SR) (vs:=[st x13.Text]) (j:=0) (u1:=x13.Text) h sz9 rfl rfl rfl rfl rfl (zi rfl zq) rfl (fun _=>rfl) (qt ex14) rfl rfl ?_)))))))))))))
   intro l15 el15 h
   exact L.nil (E.blockN (E.thenN (W.region (L.m (V:=fun x16=>.int .i64 x16) h rfl (Y.addM rfl rfl) (fun x16 ex16 h=>(L.r 1 rfl (L.nil (E.aJ ⟨x16,l15,rfl,rfl,by rw [hg1];exact h⟩ hI))))))))
  exact ln (W.seq (W.condF rfl (W.exit (E.thenX (E.KLX (E.blockX (E.jJ ⟨gl3,rfl,rfl,h⟩ hI)))))))
 rintro _ _ ⟨gl1,rfl,rfl,h⟩
 rw [qgq] at h
 refine sr ?_
 obtain ⟨_,en4,h⟩:=qd h
 obtain ⟨_,en4⟩:=qh en4
 refine L.y rfl (Y.loadArAll (q:=1) (row:=SR) (k:=1) qdf qcu rfl rfl (fun _=>rfl) (by rw [en4])) ?_
 obtain ⟨_,en5,h⟩:=qd h
 obtain ⟨_,en5⟩:=qh en5
 obtain ⟨_,en6,h⟩:=qd h
 obtain ⟨_,en6⟩:=qh en6
 refine L.storeArW (i:=2) (row:=SR) (k:=1) en5 en6 rfl (fun _=>rfl) (qv _) qcu rfl rfl rfl (ln (W.ret (E.to (D:=Cls w F [qf gP70 gP88 gP100 qP70 A70 [],.obj b3 ((gl1.map SR).flatten) 30,.obj b2 ((gl1.map SR).flatten) 30]) (fun _ hw=>hw.arShut (hs':=(a0.toNat :: [])) [3,6,7,4,5,0,1,2] eth1 (by decide) rfl (fun _=>List.mem_cons) List.not_mem_nil) ?_)))
 obtain ⟨_,en7,h⟩:=qd h
 obtain ⟨_,en7⟩:=qh en7
 refine E.retR1 rfl (Rv.cellAr (i:=2) (row:=SR) (k:=1) qdf qcu rfl rfl (fun _=>rfl) (by rw [en7])) (fun w1 hw=>?_)
 cases h
 exact ⟨_,_,rfl,⟨rfl,rfl⟩,hw.s [0]⟩
set_option maxRecDepth 100000 in
set_option maxHeartbeats 8000000 in
theorem W5 (A60:(List TDisk)) (A70:(List TStore)) (A88:(List Ttx)) (A100:(List TLog)) (gP60:Nat→Nat) (gP70:Nat→Nat) (gP88:Nat→Nat) (gP100:Nat→Nat) (qP60:Nat→List Value) (qP70:Nat→List Value) (qP88:Nat→List Value) (qP100:Nat→List Value) (w:World) (r:((List TDisk)×(List TStore)×(List Ttx)×(List TLog)×Bool)) (h:M5 A60 A70 A88 A100=some r) (F:List Nat) (hc0:Cls w F [qe gP60 qP60 A60 [],qf gP70 gP88 gP100 qP70 A70 [],qj gP88 qP88 A88 [],qc gP60 gP100 qP100 A100 []] w):zg Tryz.prog 5 [] F w fun u m=>∃ G60 G70 G88 G100 Q60 Q70 Q88 Q100,Gr gP60 A60.length G60 r.1.length∧Gr gP70 A70.length G70 r.2.1.length∧Gr gP88 A88.length G88 r.2.2.1.length∧Gr gP100 A100.length G100 r.2.2.2.1.length∧u=.bool r.2.2.2.2∧m=[qe G60 Q60 r.1 [],qf G70 G88 G100 Q70 r.2.1 [],qj G88 Q88 r.2.2.1 [],qc G60 G100 Q100 r.2.2.2.1 []]:=by
 rw [M5] at h
 obtain ⟨g60,hg60⟩:∃ g,g=gP60:=⟨_,rfl⟩
 have hGr60:Gr g60 A60.length gP60 A60.length:=hg60 ▸ Gr.refl _ _
 obtain ⟨g70,hg70⟩:∃ g,g=gP70:=⟨_,rfl⟩
 have hGr70:Gr g70 A70.length gP70 A70.length:=hg70 ▸ Gr.refl _ _
 obtain ⟨g88,hg88⟩:∃ g,g=gP88:=⟨_,rfl⟩
 have hGr88:Gr g88 A88.length gP88 A88.length:=hg88 ▸ Gr.refl _ _
 obtain ⟨g100,hg100⟩:∃ g,g=gP100:=⟨_,rfl⟩
 have hGr100:Gr g100 A100.length gP100 A100.length:=hg100 ▸ Gr.refl _ _
 refine body (n:=54) Tryz.func5 rfl rfl rfl hc0 (sr (L.r 1 rfl (ln (W.seqJ (fun gs D=>∃ gx1 gx2 gb3 gP60 gl5 gq6,∃ gu7:Unit,∃ gP70 gl9 gq10,∃ gu11:Unit,∃ gP100 gl13 gq14,∃ gu15:Unit,gs=[(1,VP gP60 gx1),(2,VP gP70 gx2),(3,.bool gb3)]∧D=Cls w F [qe gP60 gq6 gl5 [],qf gP70 gP88 gP100 gq10 gl9 [],qj gP88 qP88 A88 [],qc gP60 gP100 gq14 gl13 []]∧Gr g60 A60.length gP60 gl5.length∧Gr g70 A70.length gP70 gl9.length∧Gr g100 A100.length gP100 gl13.length∧qjs A88 gx1 gx2 gb3 gl5 gl9 gl13=some r) ?_ ?_))))
 ·refine W.region (L.to (D:=Cls w F [qe gP60 qP60 A60 [],qf gP70 gP88 gP100 qP70 A70 [],qc gP60 gP100 qP100 A100 [],qj gP88 qP88 A88 []]) (sI [0,1,3,2]) ?_)
  obtain ⟨l68,l69,l70,x71,x72,b73,e74,h⟩:=qgX h
  refine L.doesP (A:=[qe gP60 qP60 A60 [],qf gP70 gP88 gP100 qP70 A70 [],qc gP60 gP100 qP100 A100 []]) (M:=[qj gP88 qP88 A88 []]) rfl en6 rfl (fun w' hw=>W6 40 A60 A70 A100 gP60 gP70 gP88 gP100 qP60 qP70 qP100 w' _ e74 _ hw.lend) ?_
  rintro _ _ ⟨gP60,gP70,gP100,q75,q76,q77,hg78,hg79,hg80,rfl,rfl⟩
  replace hGr60:=hGr60.trans hg78
  replace hGr70:=hGr70.trans hg79
  replace hGr100:=hGr100.trans hg80
  refine L.to (D:=Cls w F [qe gP60 q75 l68 [],qf gP70 gP88 gP100 q76 l69 [],qc gP60 gP100 q77 l70 [],qj gP88 qP88 A88 []]) hI (L.r 3 rfl (L.iteB h rfl (Y.extract rfl rfl) (fun c81 h=>?_) (fun c81 h=>?_)))
  ·exact L.r 3 rfl (L.nil (E.jJ ⟨x71,x72,true,gP60,l68,q75,(),gP70,l69,q76,(),gP100,l70,q77,(),rfl,rfl,hGr60,hGr70,hGr100,h⟩ (sI [0,1,3,2])))
  exact L.r 3 rfl (L.nil (E.jJ ⟨x71,x72,false,gP60,l68,q75,(),gP70,l69,q76,(),gP100,l70,q77,(),rfl,rfl,hGr60,hGr70,hGr100,h⟩ (sI [0,1,3,2])))
 rintro _ _ ⟨gx1,gx2,gb3,gP60,gl5,gq6,gu7,gP70,gl9,gq10,gu11,gP100,gl13,gq14,gu15,rfl,rfl,hGr60,hGr70,hGr100,h⟩
 rw [qjs] at h
 rcases gb3 with _ | _
 ·replace h:=zZ h
  refine W.seq (sr (L.r 1 rfl (L.y rfl (Y.not rfl) (L.r 15 rfl (ln (W.condT rfl (sr (L.r 1 rfl (ln ?_)))))))))
  refine W.ret (E.thenR (E.ret1 rfl rfl (fun w1 hw=>?_)))
  cases h
  exact ⟨_,_,rfl,⟨_,_,_,_,_,_,_,_,(hg60 ▸ hGr60),(hg70 ▸ hGr70),(hg88 ▸ hGr88),(hg100 ▸ hGr100),rfl,rfl⟩,hw⟩
 replace h:=zY h
 refine W.seq (sr (L.cutJ 12 (fun gs D=>∃ gb16 gl17 gq18,∃ gu19:Unit,∃ gP88 gl21 gq22,∃ gu23:Unit,gs=[(1,VP gP60 gx1),(2,VP gP70 gx2),(21,.bool gb16)]∧D=Cls w F [qe gP60 gq6 gl5 [],qf gP70 gP88 gP100 gq18 gl17 [],qj gP88 gq22 gl21 [],qc gP60 gP100 gq14 gl13 []]∧Gr g70 A70.length gP70 gl17.length∧Gr g88 A88.length gP88 gl21.length∧qjg gl5 gl13 gx2 gx1 gb16 gl17 gl21=some r) ?_ ?_))
 ·refine L.r 1 rfl (L.y rfl (Y.not rfl) (L.r 2 rfl (L.take rfl (L.to (D:=Cls w F [qf gP70 gP88 gP100 gq10 gl9 [],qj gP88 qP88 A88 [],qe gP60 gq6 gl5 [],qc gP60 gP100 gq14 gl13 []]) (sI [1,2,0,3]) ?_))))
  obtain ⟨l53,l54,x55,e56,h⟩:=qW h
  refine L.doesP (A:=[qf gP70 gP88 gP100 gq10 gl9 [],qj gP88 qP88 A88 []]) (M:=[qe gP60 gq6 gl5 [],qc gP60 gP100 gq14 gl13 []]) rfl qjY rfl (fun w' hw=>W14 gx2 1 gl9 A88 gP70 gP88 gP100 gq10 qP88 w' _ e56 _ hw.lend) ?_
  rintro _ _ ⟨gP88,q57,q58,hg59,rfl,rfl⟩
  replace hGr88:=hGr88.trans hg59
  obtain ⟨_,c60,h⟩:=qd h
  replace hGr70:=hGr70.len (qH c60)
  refine L.to (D:=Cls w F [qf gP70 gP88 gP100 q57 l53 [],qj gP88 q58 l54 [],qe gP60 gq6 gl5 [],qc gP60 gP100 gq14 gl13 []]) hI (L.take rfl (L.ite h rfl (Y.neq rfl rfl) (fun c61 h=>?_) (fun c61 h=>?_)))
  ·exact L.r 6 rfl (L.nil (E.jJ ⟨true,l53,q57,(),gP88,l54,q58,(),rfl,rfl,hGr70,hGr88,h⟩ (sI [2,0,1,3])))
  refine L.r 3 rfl (L.take rfl ?_)
  obtain ⟨l62,x63,e64,h⟩:=qB h
  refine L.doesP (A:=[qf gP70 gP88 gP100 q57 l53 [],qj gP88 q58 l54 []]) (M:=[qe gP60 gq6 gl5 [],qc gP60 gP100 gq14 gl13 []]) rfl qjX rfl (fun w' hw=>W15 gx2 1 4 ([120]) l53 l54 gP70 gP88 gP100 q57 q58 w' _ e64 _ hw.lend) ?_
  rintro _ _ ⟨q65,rfl,rfl⟩
  obtain ⟨_,c66,h⟩:=qd h
  replace hGr88:=hGr88.len (qH c66)
  refine L.to (D:=Cls w F [qf gP70 gP88 gP100 q57 l53 [],qj gP88 q65 l62 [],qe gP60 gq6 gl5 [],qc gP60 gP100 gq14 gl13 []]) hI (L.take rfl (L.ite h rfl (Y.neq rfl rfl) (fun c67 h=>?_) (fun c67 h=>?_)))
  ·exact L.r 1 rfl (L.nil (E.jJ ⟨true,l53,q57,(),gP88,l62,q65,(),rfl,rfl,hGr70,hGr88,h⟩ (sI [2,0,1,3])))
  exact L.r 1 rfl (L.nil (E.jJ ⟨false,l53,q57,(),gP88,l62,q65,(),rfl,rfl,hGr70,hGr88,h⟩ (sI [2,0,1,3])))
 rintro _ _ ⟨gb16,gl17,gq18,gu19,gP88,gl21,gq22,gu23,rfl,rfl,hGr70,hGr88,h⟩
 rw [qjg] at h
 rcases gb16 with _ | _
 ·replace h:=zZ h
  refine L.r 2 rfl (L.take rfl ?_)
  obtain ⟨l1,l2,l3,l4,x5,e6,h⟩:=kc h
  refine L.doesP (A:=[qe gP60 gq6 gl5 [],qf gP70 gP88 gP100 gq18 gl17 [],qj gP88 gq22 gl21 [],qc gP60 gP100 gq14 gl13 []]) (M:=[]) rfl qkn rfl (fun w' hw=>W16 gx2 1 gl5 gl17 gl21 gl13 gP60 gP70 gP88 gP100 gq6 gq18 gq22 gq14 w' _ e6 _ hw.lend) ?_
  rintro _ _ ⟨q7,q8,q9,q10,rfl,rfl⟩
  obtain ⟨_,c11,h⟩:=qd h
  replace hGr60:=hGr60.len (qH c11)
  obtain ⟨_,c12,h⟩:=qd h
  replace hGr70:=hGr70.len (qH c12)
  obtain ⟨_,c13,h⟩:=qd h
  replace hGr88:=hGr88.len (qH c13)
  obtain ⟨_,c14,h⟩:=qd h
  replace hGr100:=hGr100.len (qH c14)
  refine L.to (D:=Cls w F [qe gP60 q7 l1 [],qf gP70 gP88 gP100 q8 l2 [],qj gP88 q9 l3 [],qc gP60 gP100 q10 l4 []]) hI (L.take rfl (L.ite h rfl (Y.neq rfl rfl) (fun c15 h=>?_) (fun c15 h=>?_)))
  ·refine L.r 1 rfl (ln (W.condT rfl (sr (L.r 1 rfl (ln (W.ret (E.thenR (E.ret1 rfl rfl (fun w1 hw=>?_)))))))))
   cases h
   exact ⟨_,_,rfl,⟨_,_,_,_,_,_,_,_,(hg60 ▸ hGr60),(hg70 ▸ hGr70),(hg88 ▸ hGr88),(hg100 ▸ hGr100),rfl,rfl⟩,hw⟩
  refine L.r 1 rfl (ln (W.condF rfl (W.skip (E.thenN (W.seq (sr (L.r 1 rfl (L.to (D:=Cls w F [qf gP70 gP88 gP100 q8 l2 [],qj gP88 q9 l3 [],qe gP60 q7 l1 [],qc gP60 gP100 q10 l4 []]) (sI [1,2,0,3]) ?_))))))))
  obtain ⟨l16,l17,x18,e19,h⟩:=qW h
  refine L.doesP (A:=[qf gP70 gP88 gP100 q8 l2 [],qj gP88 q9 l3 []]) (M:=[qe gP60 q7 l1 [],qc gP60 gP100 q10 l4 []]) rfl qjY rfl (fun w' hw=>W14 gx2 2 l2 l3 gP70 gP88 gP100 q8 q9 w' _ e19 _ hw.lend) ?_
  rintro _ _ ⟨gP88,q20,q21,hg22,rfl,rfl⟩
  replace hGr88:=hGr88.trans hg22
  obtain ⟨_,c23,h⟩:=qd h
  replace hGr70:=hGr70.len (qH c23)
  refine L.to (D:=Cls w F [qf gP70 gP88 gP100 q20 l16 [],qj gP88 q21 l17 [],qe gP60 q7 l1 [],qc gP60 gP100 q10 l4 []]) hI (L.ite h rfl (Y.neq rfl rfl) (fun c24 h=>?_) (fun c24 h=>?_))
  ·refine L.r 5 rfl (ln (W.condT rfl (sr (L.r 1 rfl (ln (W.ret (E.thenR (E.ret1 rfl rfl (fun w1 hw=>?_)))))))))
   cases h
   exact ⟨_,_,rfl,⟨_,_,_,_,_,_,_,_,(hg60 ▸ hGr60),(hg70 ▸ hGr70),(hg88 ▸ hGr88),(hg100 ▸ hGr100),rfl,rfl⟩,hw.s [2,0,1,3]⟩
  refine L.r 2 rfl (L.take rfl ?_)
  obtain ⟨l25,x26,e27,h⟩:=qB h
  refine L.doesP (A:=[qf gP70 gP88 gP100 q20 l16 [],qj gP88 q21 l17 []]) (M:=[qe gP60 q7 l1 [],qc gP60 gP100 q10 l4 []]) rfl qjX rfl (fun w' hw=>W15 gx2 2 5 ([121]) l16 l17 gP70 gP88 gP100 q20 q21 w' _ e27 _ hw.lend) ?_
  rintro _ _ ⟨q28,rfl,rfl⟩
  obtain ⟨_,c29,h⟩:=qd h
  replace hGr88:=hGr88.len (qH c29)
  refine L.to (D:=Cls w F [qf gP70 gP88 gP100 q20 l16 [],qj gP88 q28 l25 [],qe gP60 q7 l1 [],qc gP60 gP100 q10 l4 []]) hI (L.take rfl (L.ite h rfl (Y.neq rfl rfl) (fun c30 h=>?_) (fun c30 h=>?_)))
  ·refine L.r 1 rfl (ln (W.condT rfl (sr (L.r 1 rfl (ln (W.ret (E.thenR (E.ret1 rfl rfl (fun w1 hw=>?_)))))))))
   cases h
   exact ⟨_,_,rfl,⟨_,_,_,_,_,_,_,_,(hg60 ▸ hGr60),(hg70 ▸ hGr70),(hg88 ▸ hGr88),(hg100 ▸ hGr100),rfl,rfl⟩,hw.s [2,0,1,3]⟩
  refine L.r 1 rfl (ln (W.condF rfl (W.skip (E.thenN (sr (L.r 1 rfl (L.to (D:=Cls w F [qe gP60 q7 l1 [],qf gP70 gP88 gP100 q20 l16 [],qj gP88 q28 l25 [],qc gP60 gP100 q10 l4 []]) (sI [2,0,1,3]) ?_)))))))
  obtain ⟨l31,e32,h⟩:=qd h
  refine L.doesP (A:=[qe gP60 q7 l1 []]) (M:=[qf gP70 gP88 gP100 q20 l16 [],qj gP88 q28 l25 [],qc gP60 gP100 q10 l4 []]) rfl en9 rfl (fun w' hw=>W9 gx1 [] l1 gP60 (.slice none 0 0) q7 w' _ e32 _ StbF.nil hw.lend) ?_
  rintro _ _ ⟨q33,rfl,rfl⟩
  obtain ⟨_,c34,h⟩:=qd h
  replace hGr60:=hGr60.len (qH c34)
  refine L.to (D:=Cls w F [qe gP60 q33 l31 [],qf gP70 gP88 gP100 q20 l16 [],qj gP88 q28 l25 [],qc gP60 gP100 q10 l4 []]) hI (nsr (L.r 1 rfl (L.to (D:=Cls w F [qe gP60 q33 l31 [],qf gP70 gP88 gP100 q20 l16 [],qc gP60 gP100 q10 l4 [],qj gP88 q28 l25 []]) (sI [0,1,3,2]) ?_)))
  obtain ⟨l35,l36,l37,x38,x39,e40,h⟩:=kc h
  refine L.doesP (A:=[qe gP60 q33 l31 [],qf gP70 gP88 gP100 q20 l16 [],qc gP60 gP100 q10 l4 []]) (M:=[qj gP88 q28 l25 []]) rfl qhX rfl (fun w' hw=>W10 gx1 l31 l16 l4 gP60 gP70 gP88 gP100 q33 q20 q10 w' _ e40 _ hw.lend) ?_
  rintro _ _ ⟨gP70,gP100,q41,q42,q43,hg44,hg45,rfl,rfl⟩
  replace hGr70:=hGr70.trans hg44
  replace hGr100:=hGr100.trans hg45
  obtain ⟨_,c46,h⟩:=qd h
  replace hGr60:=hGr60.len (qH c46)
  refine L.to (D:=Cls w F [qe gP60 q41 l35 [],qf gP70 gP88 gP100 q42 l36 [],qc gP60 gP100 q43 l37 [],qj gP88 q28 l25 []]) hI (L.r 5 rfl (nsr (L.cutJ 6 (fun gs D=>∃ gb24,gs=[(2,VP gP70 x38),(47,.bool gb24)]∧D=Cls w F [qe gP60 q41 l35 [],qf gP70 gP88 gP100 q42 l36 [],qc gP60 gP100 q43 l37 [],qj gP88 q28 l25 []]∧qjf x38 l36 l35 l25 l37 gb24=some r) ?_ ?_)))
  ·refine L.r 1 rfl (L.ite h rfl (Y.eql rfl rfl) (fun c51 h=>?_) (fun c51 h=>?_))
   ·refine L.r 2 rfl (L.take rfl (L.ite h rfl (Y.neqAN Tryz.underlying25 rfl rfl) (fun c52 h=>?_) (fun c52 h=>?_)))
    ·exact L.r 1 rfl (L.nil (E.jJ ⟨true,rfl,rfl,h⟩ hI))
    exact L.r 1 rfl (L.nil (E.jJ ⟨false,rfl,rfl,h⟩ hI))
   exact L.r 4 rfl (L.nil (E.jJ ⟨false,rfl,rfl,h⟩ hI))
  rintro _ _ ⟨gb24,rfl,rfl,h⟩
  rw [qjf] at h
  rcases gb24 with _ | _
  ·replace h:=zZ h
   refine L.r 7 rfl (ln (W.ret (E.ret1 rfl rfl (fun w1 hw=>?_))))
   cases h
   exact ⟨_,_,rfl,⟨_,_,_,_,_,_,_,_,(hg60 ▸ hGr60),(hg70 ▸ hGr70),(hg88 ▸ hGr88),(hg100 ▸ hGr100),rfl,rfl⟩,hw.s [0,1,3,2]⟩
  replace h:=zY h
  refine L.r 2 rfl (L.take rfl (L.to (D:=Cls w F [qf gP70 gP88 gP100 q42 l36 [],qe gP60 q41 l35 [],qc gP60 gP100 q43 l37 [],qj gP88 q28 l25 []]) (sI [1,0,2,3]) ?_))
  obtain ⟨x47,e48,h⟩:=qd h
  refine L.doesP (A:=[qf gP70 gP88 gP100 q42 l36 []]) (M:=[qe gP60 q41 l35 [],qc gP60 gP100 q43 l37 [],qj gP88 q28 l25 []]) rfl qgT rfl (fun w' hw=>W11 x38 l36 gP70 gP88 gP100 q42 w' _ e48 _ hw.lend) ?_
  rintro _ _ ⟨rfl,rfl⟩
  refine L.to (D:=Cls w F [qf gP70 gP88 gP100 q42 l36 [],qe gP60 q41 l35 [],qc gP60 gP100 q43 l37 [],qj gP88 q28 l25 []]) hI (L.take rfl (L.y rfl (Y.build (cells:=(([[],[],[],[],[120],[],[],[],[],[],[],[],[],[],[],[],[],[],[],[]]:List (List UInt8)).map SR).flatten.toArray) rfl (by kernel_rfl)) (L.take rfl ?_)))
  obtain ⟨_,qhU,h⟩:=qd h
  obtain ⟨_,qhU⟩:=qh qhU
  obtain ⟨_,qi3,h⟩:=qd h
  obtain ⟨_,qi3⟩:=qh qi3
  refine L.y rfl (Y.eqlAr (row:=SR) qhY qdf Tryz.underlying30 qhD qhG qhg qd8 qhU qi3 rfl rfl) (L.r 2 rfl (ln (W.ret (E.ret1 rfl rfl (fun w1 hw=>?_)))))
  cases h
  exact ⟨_,_,rfl,⟨_,_,_,_,_,_,_,_,(hg60 ▸ hGr60),(hg70 ▸ hGr70),(hg88 ▸ hGr88),(hg100 ▸ hGr100),rfl,rfl⟩,hw.s [1,0,3,2]⟩
 replace h:=zY h
 refine L.r 5 rfl (ln (W.condT rfl (sr (L.r 1 rfl (ln (W.ret (E.thenR (E.ret1 rfl rfl (fun w1 hw=>?_)))))))))
 cases h
 exact ⟨_,_,rfl,⟨_,_,_,_,_,_,_,_,(hg60 ▸ hGr60),(hg70 ▸ hGr70),(hg88 ▸ hGr88),(hg100 ▸ hGr100),rfl,rfl⟩,hw⟩
set_option maxRecDepth 100000 in
set_option maxHeartbeats 8000000 in
theorem W36 (a0:(List TVersion)) (a1:Int) (u0:Value) (w:World) (r:((List UInt8)×Bool)) (h:M36 a0 a1=some r) (hA0:At w u0 2 (a0.map TVersion.row)):Does Tryz.prog 36 [u0,.int .i64 a1] w fun u m=>u=.tuple #[st r.1,.bool r.2]∧m=[]:=by
 rw [M36] at h
 refine body (n:=29) Tryz.func36 rfl rfl rfl (Cls.refl w) (sr (L.r 2 rfl (nsr (L.r 1 rfl (ln (W.seqJ (fun gs D=>∃ gx1,gs=[(0,u0),(6,.int .i64 gx1)]∧D=Cls w [] []∧qcW a0 gx1=some r) ?_ ?_))))))
 ·refine sr (L.r 1 rfl (L.y rfl (Y.lenM (g:=TVersion.row) (l:=a0) Tryz.underlying66 rfl (fun w' hw=>hA0.cls0 hw)) (L.r 1 rfl (ln (W.block (W.loopJ (fun m gs D=>∃ gx2 gx3,gs=[(0,u0),(1,.int .i64 a1),(6,.int .i64 gx2),(9,u0),(10,.int .i64 (a0.length:Int)),(11,.int .i64 gx3)]∧D=Cls w [] []∧wT a0 a1 m gx2 gx3=some r) ⟨(-1),0,rfl,rfl,h⟩ ⟨rfl,rfl,rfl,rfl,rfl,rfl,trivial⟩ hI ?_))))))
  rintro m _ _ ⟨gx2,gx3,rfl,rfl,h⟩
  rcases m with _ | m
  ·rw [wT] at h;cases h
  rw [wT] at h
  generalize hg1:wT a0 a1 m=go1 at h
  rw [qbO] at h
  refine sr (L.ite h rfl (Y.lss rfl rfl) (fun c3 h=>?_) (fun c3 h=>?_))
  ·refine ln (W.seq (W.condT rfl (W.skip (E.thenN (W.seq (W.block (sr (L.r 1 rfl (L.m (V:=fun _=>el u0 (gx3.toNat*2)) h rfl (Y.indexM (g:=TVersion.row) (l:=a0) Tryz.underlying66 vB rfl rfl (fun w' hw=>hA0.cls0 hw)) (fun x4 ex4 h=>(L.y rfl (Y.loadEN (r:=[.int .i64 x4.At,st x4.Text]) qin vB rfl (fun w' hw=>hA0.cls0 hw) (qx ex4) rfl) (L.alloc rfl qjw ?_))))))))))))
   intro b5
   refine L.r 1 rfl (L.store (i:=0) (vs:=[.int .i64 x4.At,st x4.Text]) vB rfl rfl rfl rfl (by simp [Value.oneCell',Value.cells,st,pt,el]) rfl nb (nsr (L.y rfl (Y.fieldP xD rfl) (L.y rfl (Y.loadP (i:=0) ag3 rfl rfl rfl) (L.r 1 rfl (L.ite h rfl (Y.leq rfl rfl) (fun c6 h=>?_) (fun c6 h=>?_)))))))
   ·exact ln (W.condT rfl (W.region (L.r 2 rfl (L.nil (E.blockN (E.thenN (W.region (L.m (V:=fun x7=>.int .i64 x7) h rfl (Y.addM rfl rfl) (fun x7 ex7 h=>(L.r 1 rfl (L.nil (E.aJ ⟨gx3,x7,rfl,rfl,by rw [hg1];exact h⟩ (sI [])))))))))))))
   exact ln (W.condF rfl (W.skip (E.blockN (E.thenN (W.region (L.m (V:=fun x8=>.int .i64 x8) h rfl (Y.addM rfl rfl) (fun x8 ex8 h=>(L.r 1 rfl (L.nil (E.aJ ⟨gx2,x8,rfl,rfl,by rw [hg1];exact h⟩ (sI [])))))))))))
  exact ln (W.seq (W.condF rfl (W.exit (E.thenX (E.KLX (E.blockX (E.jJ ⟨gx2,rfl,rfl,h⟩ hI)))))))
 rintro _ _ ⟨gx1,rfl,rfl,h⟩
 rw [qcW] at h
 refine W.seq (sr (L.r 1 rfl (L.ite h rfl (Y.lss rfl rfl) (fun c1 h=>?_) (fun c1 h=>?_))))
 ·refine ln (W.condT rfl (sr (L.r 2 rfl (ln (W.ret (E.thenR (E.ret2 rfl rfl rfl (fun w1 hw=>?_))))))))
  cases h
  exact ⟨_,_,rfl,⟨rfl,rfl⟩,hw⟩
 refine ln (W.condF rfl (W.skip (E.thenN (sr (L.r 2 rfl (L.m (V:=fun _=>el u0 (gx1.toNat*2)) h rfl (Y.indexM (g:=TVersion.row) (l:=a0) Tryz.underlying66 vB rfl rfl (fun w' hw=>hA0.cls0 hw)) (fun x2 ex2 h=>(L.y rfl (Y.fieldE qgM rfl) (L.y rfl (Y.loadE (u:=st x2.Text) ag9 rfl (fun w' hw=>hA0.cls0 hw) (qx ex2) rfl) (L.r 2 rfl (ln ?_)))))))))))
 refine W.ret (E.ret2 rfl rfl rfl (fun w1 hw=>?_))
 cases h
 exact ⟨_,_,rfl,⟨rfl,rfl⟩,hw⟩
set_option maxRecDepth 100000 in
set_option maxHeartbeats 8000000 in
theorem W18 (a0:Int) (a1:Int) (a2:Int) (A70:(List TStore)) (A88:(List Ttx)) (gP70:Nat→Nat) (gP88:Nat→Nat) (gP100:Nat→Nat) (qP70:Nat→List Value) (qP88:Nat→List Value) (w:World) (r:((List Ttx)×(List UInt8)×Int)) (h:M18 a0 a1 a2 A70 A88=some r) (F:List Nat) (hc0:Cls w F [qf gP70 gP88 gP100 qP70 A70 [],qj gP88 qP88 A88 []] w):zg Tryz.prog 18 [VP gP70 a0,.int .i64 a1,.int .i64 a2] F w fun u m=>∃ Q88,u=.tuple #[st r.2.1,.int .i64 r.2.2]∧m=[qf gP70 gP88 gP100 qP70 A70 [],qj gP88 Q88 r.1 []]:=by
 rw [M18] at h
 refine body (n:=66) Tryz.func18 rfl rfl rfl hc0 ?_
 obtain ⟨th1,eth1,h⟩:=qd h
 refine W.to (D:=Cls w F [.obj (gP70 a0.toNat) (List.flatten [(zr (fzr (PR gP100)) (fun _=>[]) th1.logs_).flatten,[.int .i64 th1.half_],[.int .i64 th1.gen_],[.bool th1.down_],[.int .i64 th1.now_],(zr qi (qk (qP70 a0.toNat) 2) th1.items_).flatten,[(gv (qP70 a0.toNat) 0)],[(gv (qP70 a0.toNat) 1)]]) 70,.sl (gv (qP70 a0.toNat) 0) 84 1 (th1.active_.map (PR gP88)),.sl (gv (qP70 a0.toNat) 1) 84 1 (th1.over_.map (PR gP88)),.ss (zs sd0 (fun _=>[]) th1.logs_),.ss (zs (qq 79 2 TVersion.row) (qk (qP70 a0.toNat) 2) th1.items_),qf gP70 gP88 gP100 qP70 A70 (a0.toNat :: []),qj gP88 qP88 A88 []]) (fun _ hw=>hw.arOpen (p:=0) rfl eth1 List.not_mem_nil) (sr (L.r 2 rfl (nsr (L.r 3 rfl (L.to (D:=Cls w F [qf gP70 gP88 gP100 qP70 A70 [],qj gP88 qP88 A88 []]) (fun _ hw=>hw.arShut (hs':=(a0.toNat :: [])) [0,1,2,3,4,5,6] eth1 (by decide) rfl (fun _=>List.mem_cons) List.not_mem_nil) ?_)))))
 obtain ⟨x2,x3,e4,h⟩:=qB h
 refine L.doesP (A:=[qf gP70 gP88 gP100 qP70 A70 [],qj gP88 qP88 A88 []]) (M:=[]) rfl qjq rfl (fun w' hw=>W30 a0 a1 a2 A70 A88 gP70 gP88 gP100 qP70 qP88 w' _ e4 _ hw.lend) ?_
 rintro _ _ ⟨rfl,rfl⟩
 refine L.to (D:=Cls w F [qf gP70 gP88 gP100 qP70 A70 [],qj gP88 qP88 A88 []]) hI ?_
 obtain ⟨th5,eth5,h⟩:=qd h
 refine L.to (D:=Cls w F [.obj (gP70 a0.toNat) (List.flatten [(zr (fzr (PR gP100)) (fun _=>[]) th5.logs_).flatten,[.int .i64 th5.half_],[.int .i64 th5.gen_],[.bool th5.down_],[.int .i64 th5.now_],(zr qi (qk (qP70 a0.toNat) 2) th5.items_).flatten,[(gv (qP70 a0.toNat) 0)],[(gv (qP70 a0.toNat) 1)]]) 70,.sl (gv (qP70 a0.toNat) 0) 84 1 (th5.active_.map (PR gP88)),.sl (gv (qP70 a0.toNat) 1) 84 1 (th5.over_.map (PR gP88)),.ss (zs sd0 (fun _=>[]) th5.logs_),.ss (zs (qq 79 2 TVersion.row) (qk (qP70 a0.toNat) 2) th5.items_),qf gP70 gP88 gP100 qP70 A70 (a0.toNat :: []),qj gP88 qP88 A88 []]) (fun _ hw=>hw.arOpen (p:=0) rfl eth5 List.not_mem_nil) (L.r 5 rfl (ln (W.seq (sr (L.r 1 rfl (L.ite h rfl (Y.neq rfl rfl) (fun c6 h=>?_) (fun c6 h=>?_)))))))
 ·refine ln (W.condT rfl (sr (L.r 3 rfl (ln (W.ret (E.thenR (E.to (D:=Cls w F [qf gP70 gP88 gP100 qP70 A70 [],qj gP88 qP88 A88 []]) (fun _ hw=>hw.arShut (hs':=(a0.toNat :: [])) [0,1,2,3,4,5,6] eth5 (by decide) rfl (fun _=>List.mem_cons) List.not_mem_nil) (E.ret2 rfl rfl rfl (fun w1 hw=>?_)))))))))
  cases h
  exact ⟨_,_,rfl,⟨_,rfl,rfl⟩,hw⟩
 refine ln (W.condF rfl (W.skip (E.thenN (W.seq (sr (L.r 1 rfl (L.to (D:=Cls w F [qf gP70 gP88 gP100 qP70 A70 [],qj gP88 qP88 A88 []]) (fun _ hw=>hw.arShut (hs':=(a0.toNat :: [])) [0,1,2,3,4,5,6] eth5 (by decide) rfl (fun _=>List.mem_cons) List.not_mem_nil) ?_)))))))
 obtain ⟨th7,eth7,h⟩:=qd h
 refine L.to (D:=Cls w F [.obj (gP88 x2.toNat) (List.flatten [[.int .i64 th7.id_],[.int .i64 th7.from_],[.int .i64 th7.at_],[(gv (qP88 x2.toNat) 0)],[(gv (qP88 x2.toNat) 1)],(zr (fzr SR) (fun _=>[]) th7.texts_).flatten,[.bool th7.in_],[.bool th7.out_]]) 88,.sl (gv (qP88 x2.toNat) 0) 3 1 (th7.reads_.map I),.sl (gv (qP88 x2.toNat) 1) 3 1 (th7.writes_.map I),.ss (zs sd0 (fun _=>[]) th7.texts_),qj gP88 qP88 A88 (x2.toNat :: []),qf gP70 gP88 gP100 qP70 A70 []]) (fun _ hw=>hw.arOpen (p:=1) rfl eth7 List.not_mem_nil) (L.y rfl (Y.apNil rfl eth7) (L.y rfl (Y.fieldP xm rfl) (L.y rfl (Y.loadG (q:=0) (si:=4) (ps:=4) (j:=0) (X:=[(gv (qP88 x2.toNat) 1)]) qab rfl rfl rfl rfl (sl1 (a:=1) (p:=3) rfl (sl1 (a:=1) (p:=2) rfl (sl1 (a:=1) (p:=1) rfl (sl1 (a:=1) (p:=0) rfl sl0)))) rfl) (L.r 1 rfl ?_))))
 obtain ⟨b8,e9,h⟩:=qd h
 refine L.y rfl (Y.does qfM rfl (fun w' hw=>(W31 th7.writes_ a2 (gv (qP88 x2.toNat) 1) w' _ e9 (As.at_ (hw.get (i:=2) rfl))).mono (fun _ _ h=>h.1))) ?_
 rcases b8 with _ | _
 ·replace h:=zZ h
  refine ln (W.condF rfl (W.skip (E.thenN (W.seqJ (fun gs D=>∃ gl1 gq2,gs=[(0,VP gP70 a0),(2,.int .i64 a2),(8,VP gP88 x2)]∧D=Cls w F [qj gP88 gq2 gl1 [],qf gP70 gP88 gP100 qP70 A70 []]∧qc8 A70 a0 x2 a2 gl1=some r) ?_ ?_))))
  ·refine sr (L.r 1 rfl (L.y rfl (Y.apNil rfl eth7) (L.y rfl (Y.fieldP vO rfl) (L.y rfl (Y.loadG (q:=0) (si:=3) (ps:=3) (j:=0) (X:=[(gv (qP88 x2.toNat) 0)]) qab rfl rfl rfl rfl (sl1 (a:=1) (p:=2) rfl (sl1 (a:=1) (p:=1) rfl (sl1 (a:=1) (p:=0) rfl sl0))) rfl) (L.r 1 rfl ?_)))))
   obtain ⟨b17,e18,h⟩:=qd h
   refine L.y rfl (Y.does qfM rfl (fun w' hw=>(W31 th7.reads_ a2 (gv (qP88 x2.toNat) 0) w' _ e18 (As.at_ (hw.get (i:=1) rfl))).mono (fun _ _ h=>h.1))) ?_
   rcases b17 with _ | _
   ·replace h:=zZ h
    refine L.y rfl (Y.not rfl) (ln (W.condT rfl (W.region (L.r 2 rfl (L.y rfl (Y.apNil rfl eth7) (L.y rfl (Y.fieldP vO rfl) (L.y rfl (Y.loadG (q:=0) (si:=3) (ps:=3) (j:=0) (X:=[(gv (qP88 x2.toNat) 0)]) qab rfl rfl rfl rfl (sl1 (a:=1) (p:=2) rfl (sl1 (a:=1) (p:=1) rfl (sl1 (a:=1) (p:=0) rfl sl0))) rfl) (L.r 1 rfl (L.litOne rfl Tryz.underlying86 eL3 rfl rfl ?_)))))))))
    intro b19
    refine L.appM (i:=2) (g:=I) (l:=th7.reads_) (more:=[a2]) h rfl Tryz.underlying86 eL3 rfl rfl rfl (fun w hw=>As.at_ (hw.get (i:=0) rfl)) (z7 _) rfl ?_
    intro v20 l21 el21 h
    refine L.y rfl (Y.apNil rfl eth7) (L.y rfl (Y.fieldP vO rfl) (L.storeGV (q:=2) (si:=3) (ps:=3) (j:=0) (X:=[(gv (qP88 x2.toNat) 0)]) qj6 rfl rfl rfl (fun _ hw=>(As.at_ (hw.get (i:=0) rfl)).one) rfl rfl (sl1 (a:=1) (p:=2) rfl (sl1 (a:=1) (p:=1) rfl (sl1 (a:=1) (p:=0) rfl sl0))) rfl (L.nil ?_)))
    obtain ⟨l23,el23,h⟩:=qd h
    refine E.arClose (row:=Ttx.rowA) (sub:=Ttx.subA) (e:=88) (g:=gP88) (gh:=qP88) (vs':=([v20,(gv (qP88 x2.toNat) 1)])) (hs:=[]) (hs':=(x2.toNat :: [])) (m':=[.sl (sv b19 1) 3 1 (([a2]).map I),qf gP70 gP88 gP100 qP70 A70 []]) [2,0,3,4,5,1,6] el23 (by decide) rfl (fun _=>List.mem_cons) List.not_mem_nil ?_
    intro q22
    exact E.to (D:=Cls w F [qj gP88 q22 l23 [],.sl (sv b19 1) 3 1 (([a2]).map I),qf gP70 gP88 gP100 qP70 A70 []]) hI (E.jJ ⟨l23,q22,rfl,rfl,h⟩ (sI [0,2]))
   replace h:=zY h
   exact L.y rfl (Y.not rfl) (ln (W.condF rfl (W.skip (E.to (D:=Cls w F [qj gP88 qP88 A88 [],qf gP70 gP88 gP100 qP70 A70 []]) (fun _ hw=>hw.arShut (hs':=(x2.toNat :: [])) [0,1,2,3,4,5] eth7 (by decide) rfl (fun _=>List.mem_cons) List.not_mem_nil) (E.jJ ⟨A88,qP88,rfl,rfl,h⟩ hI)))))
  rintro _ _ ⟨gl1,gq2,rfl,rfl,h⟩
  rw [qc8] at h
  refine W.seq ?_
  obtain ⟨th10,eth10,h⟩:=qd h
  refine W.to (D:=Cls w F [.obj (gP70 a0.toNat) (List.flatten [(zr (fzr (PR gP100)) (fun _=>[]) th10.logs_).flatten,[.int .i64 th10.half_],[.int .i64 th10.gen_],[.bool th10.down_],[.int .i64 th10.now_],(zr qi (qk (qP70 a0.toNat) 2) th10.items_).flatten,[(gv (qP70 a0.toNat) 0)],[(gv (qP70 a0.toNat) 1)]]) 70,.sl (gv (qP70 a0.toNat) 0) 84 1 (th10.active_.map (PR gP88)),.sl (gv (qP70 a0.toNat) 1) 84 1 (th10.over_.map (PR gP88)),.ss (zs sd0 (fun _=>[]) th10.logs_),.ss (zs (qq 79 2 TVersion.row) (qk (qP70 a0.toNat) 2) th10.items_),qf gP70 gP88 gP100 qP70 A70 (a0.toNat :: []),qj gP88 gq2 gl1 []]) (fun _ hw=>hw.arOpen (p:=1) rfl eth10 List.not_mem_nil) ?_
  obtain ⟨th11,eth11,h⟩:=qd h
  refine W.to (D:=Cls w F [.obj (gP88 x2.toNat) (List.flatten [[.int .i64 th11.id_],[.int .i64 th11.from_],[.int .i64 th11.at_],[(gv (gq2 x2.toNat) 0)],[(gv (gq2 x2.toNat) 1)],(zr (fzr SR) (fun _=>[]) th11.texts_).flatten,[.bool th11.in_],[.bool th11.out_]]) 88,.sl (gv (gq2 x2.toNat) 0) 3 1 (th11.reads_.map I),.sl (gv (gq2 x2.toNat) 1) 3 1 (th11.writes_.map I),.ss (zs sd0 (fun _=>[]) th11.texts_),qj gP88 gq2 gl1 (x2.toNat :: []),.obj (gP70 a0.toNat) (List.flatten [(zr (fzr (PR gP100)) (fun _=>[]) th10.logs_).flatten,[.int .i64 th10.half_],[.int .i64 th10.gen_],[.bool th10.down_],[.int .i64 th10.now_],(zr qi (qk (qP70 a0.toNat) 2) th10.items_).flatten,[(gv (qP70 a0.toNat) 0)],[(gv (qP70 a0.toNat) 1)]]) 70,.sl (gv (qP70 a0.toNat) 0) 84 1 (th10.active_.map (PR gP88)),.sl (gv (qP70 a0.toNat) 1) 84 1 (th10.over_.map (PR gP88)),.ss (zs sd0 (fun _=>[]) th10.logs_),.ss (zs (qq 79 2 TVersion.row) (qk (qP70 a0.toNat) 2) th10.items_),qf gP70 gP88 gP100 qP70 A70 (a0.toNat :: [])]) (fun _ hw=>hw.arOpen (p:=6) rfl eth11 List.not_mem_nil) (W.quietC mixed (by kernel_rfl) (fun _ hw=>hw.drew) (fun hC=>(U.r 2 rfl (U.y rfl (Y.apNil rfl eth10) (U.y rfl (Y.fieldP j0 rfl) (U.m (V:=fun _=>pt (gP70 a0.toNat) (6+a2.toNat*1)) h rfl (Y.indexAS (l:=th10.items_) Tryz.underlying67 qc9 rfl rfl) (fun x12 ex12 h=>?_)))))))
  obtain ⟨_,qig,h⟩:=qd h
  obtain ⟨_,qig⟩:=qh qig
  refine U.y rfl (Y.loadZg (si:=5) (ps:=6) (q:=5) (row:=qi) (vs:=(qk (qP70 a0.toNat) 2)) (j:=0) (pv:=gv ((qk (qP70 a0.toNat) 2) a2.toNat) 0) qjr rfl rfl rfl rfl (sl1 (a:=2) (p:=4) (zrN (nn:=2) (k:=1) (fun _ _=>rfl) qig) (sl1 (a:=1) (p:=3) rfl (sl1 (a:=1) (p:=2) rfl (sl1 (a:=1) (p:=1) rfl (sl1 (a:=1) (p:=0) rfl sl0))))) (fun _ _=>rfl) (qt ex12) rfl) (U.r 1 rfl (U.y rfl (Y.apNil rfl eth11) (U.y rfl (Y.fieldP qbt rfl) (U.y rfl (Y.loadG (q:=0) (si:=1) (ps:=1) (j:=0) (X:=[.int .i64 th11.from_]) ag3 rfl rfl rfl rfl (sl1 (a:=1) (p:=0) rfl sl0) rfl) ?_))))
  obtain ⟨s14,b15,e16,h⟩:=qB h
  refine U.y rfl (Y.does qkU rfl (fun w' hw=>(W36 x12 th11.from_ (gv ((qk (qP70 a0.toNat) 2) a2.toNat) 0) w' _ e16 (As.atZ (sds:=(qq 79 2 TVersion.row)) (vs:=(qk (qP70 a0.toNat) 2)) (j:=0) (c:=1) (hw.get (i:=9) rfl) (fun _ _=>rfl) (qt ex12) rfl)).mono (fun _ _ h=>h.1))) (U.r 5 rfl (U.nil (E.thenN (sr (L.r 3 rfl (ln (W.ret (E.to (D:=Cls w F [qj gP88 gq2 gl1 [],.obj (gP70 a0.toNat) (List.flatten [(zr (fzr (PR gP100)) (fun _=>[]) th10.logs_).flatten,[.int .i64 th10.half_],[.int .i64 th10.gen_],[.bool th10.down_],[.int .i64 th10.now_],(zr qi (qk (qP70 a0.toNat) 2) th10.items_).flatten,[(gv (qP70 a0.toNat) 0)],[(gv (qP70 a0.toNat) 1)]]) 70,.sl (gv (qP70 a0.toNat) 0) 84 1 (th10.active_.map (PR gP88)),.sl (gv (qP70 a0.toNat) 1) 84 1 (th10.over_.map (PR gP88)),.ss (zs sd0 (fun _=>[]) th10.logs_),.ss (zs (qq 79 2 TVersion.row) (qk (qP70 a0.toNat) 2) th10.items_),qf gP70 gP88 gP100 qP70 A70 (a0.toNat :: [])]) (fun _ hw=>hw.arShut (hs':=(x2.toNat :: [])) [0,1,2,3,4,5,6,7,8,9,10] eth11 (by decide) rfl (fun _=>List.mem_cons) List.not_mem_nil) (E.to (D:=Cls w F [qf gP70 gP88 gP100 qP70 A70 [],qj gP88 gq2 gl1 []]) (fun _ hw=>hw.arShut (hs':=(a0.toNat :: [])) [1,2,3,4,5,6,0] eth10 (by decide) rfl (fun _=>List.mem_cons) List.not_mem_nil) (E.ret2 rfl rfl rfl (fun w1 hw=>?_)))))))))))
  cases h
  exact ⟨_,_,rfl,⟨_,rfl,rfl⟩,hw⟩
 replace h:=zY h
 refine ln (W.condT rfl (sr (L.r 2 rfl (L.y rfl (Y.apNil rfl eth7) (L.y rfl (Y.fieldP yW rfl) (L.m (V:=fun _=>pt (gP88 x2.toNat) (5+a2.toNat*1)) h rfl (Y.indexAS (l:=th7.texts_) Tryz.underlying30 sz9 rfl rfl) (fun x24 ex24 h=>(L.y rfl (Y.loadZg (si:=5) (ps:=5) (q:=0) (row:=(fzr SR)) (vs:=(fun _=>[])) (j:=0) (pv:=st x24) ag9 rfl rfl rfl rfl (sl1 (a:=1) (p:=4) rfl (sl1 (a:=1) (p:=3) rfl (sl1 (a:=1) (p:=2) rfl (sl1 (a:=1) (p:=1) rfl (sl1 (a:=1) (p:=0) rfl sl0))))) (fun _ _=>rfl) (qt ex24) rfl) (L.r 2 rfl (ln (W.ret ?_)))))))))))
 refine E.thenR (E.to (D:=Cls w F [qj gP88 qP88 A88 [],qf gP70 gP88 gP100 qP70 A70 []]) (fun _ hw=>hw.arShut (hs':=(x2.toNat :: [])) [0,1,2,3,4,5] eth7 (by decide) rfl (fun _=>List.mem_cons) List.not_mem_nil) (E.ret2 rfl rfl rfl (fun w1 hw=>?_)))
 cases h
 exact ⟨_,_,rfl,⟨_,rfl,rfl⟩,hw.s [1,0]⟩
set_option maxRecDepth 100000 in
set_option maxHeartbeats 8000000 in
theorem W19 (a0:Int) (a1:Int) (A70:(List TStore)) (A88:(List Ttx)) (gP70:Nat→Nat) (gP88:Nat→Nat) (gP100:Nat→Nat) (qP70:Nat→List Value) (qP88:Nat→List Value) (w:World) (r:((List TStore)×Int)) (h:M19 a0 a1 A70 A88=some r) (F:List Nat) (hc0:Cls w F [qf gP70 gP88 gP100 qP70 A70 [],qj gP88 qP88 A88 []] w):zg Tryz.prog 19 [VP gP70 a0,.int .i64 a1] F w fun u m=>∃ Q70,u=.int .i64 r.2∧m=[qf gP70 gP88 gP100 Q70 r.1 [],qj gP88 qP88 A88 []]:=by
 rw [M19] at h
 refine body (n:=19) Tryz.func19 rfl rfl rfl hc0 ?_
 obtain ⟨th1,eth1,h⟩:=qd h
 refine W.to (D:=Cls w F [.obj (gP70 a0.toNat) (List.flatten [(zr (fzr (PR gP100)) (fun _=>[]) th1.logs_).flatten,[.int .i64 th1.half_],[.int .i64 th1.gen_],[.bool th1.down_],[.int .i64 th1.now_],(zr qi (qk (qP70 a0.toNat) 2) th1.items_).flatten,[(gv (qP70 a0.toNat) 0)],[(gv (qP70 a0.toNat) 1)]]) 70,.sl (gv (qP70 a0.toNat) 0) 84 1 (th1.active_.map (PR gP88)),.sl (gv (qP70 a0.toNat) 1) 84 1 (th1.over_.map (PR gP88)),.ss (zs sd0 (fun _=>[]) th1.logs_),.ss (zs (qq 79 2 TVersion.row) (qk (qP70 a0.toNat) 2) th1.items_),qf gP70 gP88 gP100 qP70 A70 (a0.toNat :: []),qj gP88 qP88 A88 []]) (fun _ hw=>hw.arOpen (p:=0) rfl eth1 List.not_mem_nil) (sr (L.r 1 rfl (nsr (L.r 2 rfl (L.to (D:=Cls w F [qf gP70 gP88 gP100 qP70 A70 [],qj gP88 qP88 A88 []]) (fun _ hw=>hw.arShut (hs':=(a0.toNat :: [])) [0,1,2,3,4,5,6] eth1 (by decide) rfl (fun _=>List.mem_cons) List.not_mem_nil) ?_)))))
 obtain ⟨x2,x3,e4,h⟩:=qB h
 refine L.doesP (A:=[qf gP70 gP88 gP100 qP70 A70 [],qj gP88 qP88 A88 []]) (M:=[]) rfl qjq rfl (fun w' hw=>W30 a0 a1 0 A70 A88 gP70 gP88 gP100 qP70 qP88 w' _ e4 _ hw.lend) ?_
 rintro _ _ ⟨rfl,rfl⟩
 refine L.to (D:=Cls w F [qf gP70 gP88 gP100 qP70 A70 [],qj gP88 qP88 A88 []]) hI ?_
 obtain ⟨th5,eth5,h⟩:=qd h
 refine L.to (D:=Cls w F [.obj (gP70 a0.toNat) (List.flatten [(zr (fzr (PR gP100)) (fun _=>[]) th5.logs_).flatten,[.int .i64 th5.half_],[.int .i64 th5.gen_],[.bool th5.down_],[.int .i64 th5.now_],(zr qi (qk (qP70 a0.toNat) 2) th5.items_).flatten,[(gv (qP70 a0.toNat) 0)],[(gv (qP70 a0.toNat) 1)]]) 70,.sl (gv (qP70 a0.toNat) 0) 84 1 (th5.active_.map (PR gP88)),.sl (gv (qP70 a0.toNat) 1) 84 1 (th5.over_.map (PR gP88)),.ss (zs sd0 (fun _=>[]) th5.logs_),.ss (zs (qq 79 2 TVersion.row) (qk (qP70 a0.toNat) 2) th5.items_),qf gP70 gP88 gP100 qP70 A70 (a0.toNat :: []),qj gP88 qP88 A88 []]) (fun _ hw=>hw.arOpen (p:=0) rfl eth5 List.not_mem_nil) (L.r 5 rfl (ln (W.seq (sr (L.r 1 rfl (L.ite h rfl (Y.eql rfl rfl) (fun c6 h=>?_) (fun c6 h=>?_)))))))
 ·refine ln (W.condT rfl (W.region (L.r 2 rfl (L.to (D:=Cls w F [qf gP70 gP88 gP100 qP70 A70 [],qj gP88 qP88 A88 []]) (fun _ hw=>hw.arShut (hs':=(a0.toNat :: [])) [0,1,2,3,4,5,6] eth5 (by decide) rfl (fun _=>List.mem_cons) List.not_mem_nil) ?_))))
  obtain ⟨l7,e8,h⟩:=qd h
  refine L.doesP (A:=[qf gP70 gP88 gP100 qP70 A70 [],qj gP88 qP88 A88 []]) (M:=[]) rfl qhW rfl (fun w' hw=>W33 a0 x2 A70 A88 gP70 gP88 gP100 qP70 qP88 w' _ e8 _ hw.lend) ?_
  rintro _ _ ⟨q9,rfl,rfl⟩
  refine L.to (D:=Cls w F [qf gP70 gP88 gP100 q9 l7 [],qj gP88 qP88 A88 []]) hI ?_
  obtain ⟨th10,eth10,h⟩:=qd h
  refine L.to (D:=Cls w F [.obj (gP70 a0.toNat) (List.flatten [(zr (fzr (PR gP100)) (fun _=>[]) th10.logs_).flatten,[.int .i64 th10.half_],[.int .i64 th10.gen_],[.bool th10.down_],[.int .i64 th10.now_],(zr qi (qk (q9 a0.toNat) 2) th10.items_).flatten,[(gv (q9 a0.toNat) 0)],[(gv (q9 a0.toNat) 1)]]) 70,.sl (gv (q9 a0.toNat) 0) 84 1 (th10.active_.map (PR gP88)),.sl (gv (q9 a0.toNat) 1) 84 1 (th10.over_.map (PR gP88)),.ss (zs sd0 (fun _=>[]) th10.logs_),.ss (zs (qq 79 2 TVersion.row) (qk (q9 a0.toNat) 2) th10.items_),qf gP70 gP88 gP100 q9 l7 (a0.toNat :: []),qj gP88 qP88 A88 []]) (fun _ hw=>hw.arOpen (p:=0) rfl eth10 List.not_mem_nil) (nsr (L.r 2 rfl (ln (W.ret (E.to (D:=Cls w F [qf gP70 gP88 gP100 q9 l7 [],qj gP88 qP88 A88 []]) (fun _ hw=>hw.arShut (hs':=(a0.toNat :: [])) [0,1,2,3,4,5,6] eth10 (by decide) rfl (fun _=>List.mem_cons) List.not_mem_nil) (E.ret1 rfl rfl (fun w1 hw=>?_)))))))
  cases h
  exact ⟨_,_,rfl,⟨_,rfl,rfl⟩,hw⟩
 refine ln (W.condF rfl (W.skip (E.thenN (sr (L.r 2 rfl (ln (W.ret (E.to (D:=Cls w F [qf gP70 gP88 gP100 qP70 A70 [],qj gP88 qP88 A88 []]) (fun _ hw=>hw.arShut (hs':=(a0.toNat :: [])) [0,1,2,3,4,5,6] eth5 (by decide) rfl (fun _=>List.mem_cons) List.not_mem_nil) (E.ret1 rfl rfl (fun w1 hw=>?_))))))))))
 cases h
 exact ⟨_,_,rfl,⟨_,rfl,rfl⟩,hw⟩
set_option maxRecDepth 100000 in
set_option maxHeartbeats 8000000 in
theorem W23 (a0:Int) (a1:(List UInt8)) (A60:(List TDisk)) (A100:(List TLog)) (gP60:Nat→Nat) (gP100:Nat→Nat) (qP60:Nat→List Value) (qP100:Nat→List Value) (w:World) (r:((List TDisk)×(List TLog)×Int)) (h:M23 a0 a1 A60 A100=some r) (F:List Nat) (hc0:Cls w F [qe gP60 qP60 A60 [],qc gP60 gP100 qP100 A100 []] w):zg Tryz.prog 23 [VP gP100 a0,st a1] F w fun u m=>∃ Q60 Q100,u=.int .i64 r.2.2∧m=[qe gP60 Q60 r.1 [],qc gP60 gP100 Q100 r.2.1 []]:=by
 rw [M23] at h
 refine body (n:=68) Tryz.func23 rfl rfl rfl hc0 (sr (L.r 1 rfl (ln (W.seq (sr (L.r 1 rfl ?_))))))
 obtain ⟨th1,eth1,h⟩:=qd h
 refine L.to (D:=Cls w F [.obj (gP100 a0.toNat) [VP gP60 th1.d_,.int .i64 th1.from_,.int .i64 th1.size_,.int .i64 th1.epoch_,.int .i64 th1.at_,.int .i64 th1.seq_,.bool th1.fell_] 100,qc gP60 gP100 qP100 A100 (a0.toNat :: []),qe gP60 qP60 A60 []]) (fun _ hw=>hw.arOpen (p:=1) rfl eth1 List.not_mem_nil) (L.y rfl (Y.apNil rfl eth1) (L.y rfl (Y.fieldP jO rfl) (L.iteB h rfl (Y.loadP (i:=0) ag4 rfl rfl rfl) (fun c2 h=>?_) (fun c2 h=>?_))))
 ·refine ln (W.condT rfl (sr (L.r 1 rfl (ln (W.ret (E.thenR (E.to (D:=Cls w F [qc gP60 gP100 qP100 A100 [],qe gP60 qP60 A60 []]) (fun _ hw=>hw.arShut (hs':=(a0.toNat :: [])) [0,1,2] eth1 (by decide) rfl (fun _=>List.mem_cons) List.not_mem_nil) (E.ret1 rfl rfl (fun w1 hw=>?_)))))))))
  cases h
  exact ⟨_,_,rfl,⟨_,_,rfl,rfl⟩,hw.s [1,0]⟩
 refine ln (W.condF rfl (W.skip (E.thenN (W.seq (sr (L.r 1 rfl (L.y rfl (Y.lenS Tryz.underlying9 rfl) (L.ite h rfl (Y.gtr rfl rfl) (fun c3 h=>?_) (fun c3 h=>?_)))))))))
 ·refine ln (W.condT rfl (sr (L.r 1 rfl (ln (W.ret (E.thenR (E.to (D:=Cls w F [qc gP60 gP100 qP100 A100 [],qe gP60 qP60 A60 []]) (fun _ hw=>hw.arShut (hs':=(a0.toNat :: [])) [0,1,2] eth1 (by decide) rfl (fun _=>List.mem_cons) List.not_mem_nil) (E.ret1 rfl rfl (fun w1 hw=>?_)))))))))
  cases h
  exact ⟨_,_,rfl,⟨_,_,rfl,rfl⟩,hw.s [1,0]⟩
 refine ln (W.condF rfl (W.skip (E.thenN (W.seq (sr (L.r 1 rfl (L.y rfl (Y.apNil rfl eth1) (L.y rfl (Y.fieldP xj rfl) (L.y rfl (Y.loadP (i:=0) ag3 rfl rfl rfl) (L.m (V:=fun x4=>.int .i64 x4) h rfl (Y.addM rfl rfl) (fun x4 ex4 h=>(L.r 1 rfl ?_))))))))))))
 obtain ⟨l5,e7,h⟩:=qd h
 refine L.does rfl qjT rfl (fun w' hw=>W43 x4 0 a1 w' _ e7) ?_
 rintro v6 _ ⟨_,rfl,rfl⟩
 refine L.y rfl (Y.lenM (g:=SR) (l:=l5) Tryz.underlying57 rfl (fun w hw=>As.at_ (hw.get (i:=0) rfl))) (L.ite h rfl (Y.gtr rfl rfl) (fun c8 h=>?_) (fun c8 h=>?_))
 ·refine ln (W.condT rfl (sr (L.r 1 rfl (ln (W.ret (E.thenR (E.to (D:=Cls w F [qc gP60 gP100 qP100 A100 [],.sl v6 9 1 (l5.map SR),qe gP60 qP60 A60 []]) (fun _ hw=>hw.arShut (hs':=(a0.toNat :: [])) [1,2,0,3] eth1 (by decide) rfl (fun _=>List.mem_cons) List.not_mem_nil) (E.ret1 rfl rfl (fun w1 hw=>?_)))))))))
  cases h
  exact ⟨_,_,rfl,⟨_,_,rfl,rfl⟩,hw.s [2,0]⟩
 refine ln (W.condF rfl (W.skip (E.thenN (W.seq (sr (L.r 1 rfl (L.to (D:=Cls w F [qc gP60 gP100 qP100 A100 [],.sl v6 9 1 (l5.map SR),qe gP60 qP60 A60 []]) (fun _ hw=>hw.arShut (hs':=(a0.toNat :: [])) [1,2,0,3] eth1 (by decide) rfl (fun _=>List.mem_cons) List.not_mem_nil) (L.to (D:=Cls w F [qe gP60 qP60 A60 [],qc gP60 gP100 qP100 A100 [],.sl v6 9 1 (l5.map SR)]) (sI [2,0,1]) ?_))))))))
 obtain ⟨l9,l10,x11,e12,h⟩:=qW h
 refine L.doesP (A:=[qe gP60 qP60 A60 [],qc gP60 gP100 qP100 A100 []]) (M:=[.sl v6 9 1 (l5.map SR)]) rfl qkg rfl (fun w' hw=>W40 a0 A60 A100 gP60 gP100 qP60 qP100 w' _ e12 _ hw.lend) ?_
 rintro _ _ ⟨q13,q14,rfl,rfl⟩
 refine L.to (D:=Cls w F [qe gP60 q13 l9 [],qc gP60 gP100 q14 l10 [],.sl v6 9 1 (l5.map SR)]) hI (L.r 1 rfl (nsr (L.r 1 rfl (L.ite h rfl (Y.neq rfl rfl) (fun c15 h=>?_) (fun c15 h=>?_)))))
 ·refine ln (W.condT rfl (sr (L.r 2 rfl (ln (W.ret (E.thenR (E.ret1 rfl rfl (fun w1 hw=>?_))))))))
  cases h
  exact ⟨_,_,rfl,⟨_,_,rfl,rfl⟩,hw.s [0,1]⟩
 refine ln (W.condF rfl (W.skip (E.thenN (W.seq (W.seq ?_)))))
 obtain ⟨th16,eth16,h⟩:=qd h
 refine W.to (D:=Cls w F [.obj (gP100 a0.toNat) [VP gP60 th16.d_,.int .i64 th16.from_,.int .i64 th16.size_,.int .i64 th16.epoch_,.int .i64 th16.at_,.int .i64 th16.seq_,.bool th16.fell_] 100,qc gP60 gP100 q14 l10 (a0.toNat :: []),qe gP60 q13 l9 [],.sl v6 9 1 (l5.map SR)]) (fun _ hw=>hw.arOpen (p:=1) rfl eth16 List.not_mem_nil) (W.drawn2 (k:=19) (stC [[17]] [Cls w F [.obj (gP100 a0.toNat) [VP gP60 th16.d_,.int .i64 th16.from_,.int .i64 th16.size_,.int .i64 th16.epoch_,.int .i64 th16.at_,.int .i64 th16.seq_,.bool th16.fell_] 100,qc gP60 gP100 q14 l10 (a0.toNat :: []),qe gP60 q13 l9 [],.sl v6 9 1 (l5.map SR)]] (Cls w F [.sl v6 9 1 (l5.map SR)])) rfl mixed (fun _ hw=>hw.drew) (Sc.now (by kernel_rfl) hI) (V2.zz [] (Zc.on' (Zc.fin hI) (sI [3])) (fun hz52=>(V2.r [0] (by kernel_rfl) rfl (V2.apNil (i:=1) (Nx2.of [] (by kernel_rfl) rfl hz52) rfl rfl rfl eth16 (V2.q 2 [] hz52 rfl rfl (Y.fieldP xG rfl) (V2.zz [17] (Zc.at1 hI) (fun hz53=>(V2.q 3 [17] hz53 rfl rfl (Y.loadP (i:=0) qgZ rfl rfl rfl) (V2.r [4] (by kernel_rfl) rfl (V2.apNil (i:=5) (Nx2.of [] (by kernel_rfl) rfl hz52) rfl rfl rfl eth16 (V2.q 6 [] hz52 rfl rfl (Y.fieldP vd rfl) (V2.q 7 [17] hz53 rfl rfl (Y.loadP (i:=0) ag3 rfl rfl rfl) (V2.m (i:=8) (V':=fun x54=>.int .i64 x54) h (Nx2.of [] (by kernel_rfl) rfl hz52) rfl rfl rfl (Y.addM rfl rfl) (fun x54 ex54 h=>(V2.r [9] (by kernel_rfl) rfl ?_))))))))))))))))
 refine V2.apNil (i:=10) (Nx2.of [] (by kernel_rfl) rfl hz52) rfl rfl rfl eth16 (V2.q 11 [] hz52 rfl rfl (Y.fieldP xj rfl) (V2.q 12 [17] hz53 rfl rfl (Y.loadP (i:=0) ag3 rfl rfl rfl) (V2.r [13] (by kernel_rfl) rfl (V2.eff (i:=14) (by kernel_rfl) rfl ?_))))
 obtain ⟨l55,e57,h⟩:=qd h
 refine L.does rfl qjT rfl (fun w' hw=>W43 th16.epoch_ 0 a1 w' _ e57) ?_
 rintro v56 _ ⟨_,rfl,rfl⟩
 refine L.nil (E.toV2 (stC [[17]] [Cls w F [.sl v56 9 1 (l55.map SR),.obj (gP100 a0.toNat) [VP gP60 th16.d_,.int .i64 th16.from_,.int .i64 th16.size_,.int .i64 th16.epoch_,.int .i64 th16.at_,.int .i64 th16.seq_,.bool th16.fell_] 100,qc gP60 gP100 q14 l10 (a0.toNat :: []),qe gP60 q13 l9 [],.sl v6 9 1 (l5.map SR)]] (Cls w F [.sl v56 9 1 (l55.map SR),.sl v6 9 1 (l5.map SR)])) 14 (by kernel_rfl) (Sc.stay (sI [1,2,3,4]) (Sc.stayD (sI [1]))) (Sc.now (by kernel_rfl) hI) (V2.zz [] (Zc.on' (Zc.fin hI) (sI [0,4])) (fun hz58=>(V2.m (i:=15) (V':=fun _=>el v56 ((0:Int).toNat*1)) h (Nx2.of [] (by kernel_rfl) rfl hz58) rfl rfl rfl (Y.indexM (g:=SR) (l:=l55) Tryz.underlying57 sz9 rfl rfl (fun w hw=>As.at_ (hw.get (i:=0) rfl))) (fun x59 ex59 h=>(V2.q 16 [] hz58 rfl rfl (Y.loadE1 (u:=st x59) ag9 rfl (fun w hw=>As.at_ (hw.get (i:=0) rfl)) (qx ex59)) (V2.eff (i:=17) (by kernel_rfl) rfl (L.to (D:=Cls w F [qc gP60 gP100 q14 l10 [],.sl v56 9 1 (l55.map SR),qe gP60 q13 l9 [],.sl v6 9 1 (l5.map SR)]) (fun _ hw=>hw.arShut (hs':=(a0.toNat :: [])) [1,2,0,3,4] eth16 (by decide) rfl (fun _=>List.mem_cons) List.not_mem_nil) (L.to (D:=Cls w F [qe gP60 q13 l9 [],qc gP60 gP100 q14 l10 [],.sl v56 9 1 (l55.map SR),.sl v6 9 1 (l5.map SR)]) (sI [2,0,1,3]) ?_)))))))))
 obtain ⟨l60,x61,e62,h⟩:=qB h
 refine L.doesP (A:=[qe gP60 q13 l9 []]) (M:=[qc gP60 gP100 q14 l10 [],.sl v56 9 1 (l55.map SR),.sl v6 9 1 (l5.map SR)]) rfl qjS rfl (fun w' hw=>W44 th16.d_ x54 x59 l9 gP60 q13 w' _ e62 _ hw.lend) ?_
 rintro _ _ ⟨q63,rfl,rfl⟩
 refine L.to (D:=Cls w F [qe gP60 q63 l60 [],qc gP60 gP100 q14 l10 [],.sl v56 9 1 (l55.map SR),.sl v6 9 1 (l5.map SR)]) hI (L.nil (E.toV2 (stC [] [] (Cls w F [.sl v56 9 1 (l55.map SR),.sl v6 9 1 (l5.map SR)])) 17 (by kernel_rfl) (Sc.past rfl (Sc.stayD hI)) (Sc.atD (sI [2,3])) (V2.r [18] (by kernel_rfl) rfl (V2.done (by kernel_rfl) (E.thenN (sr (L.r 1 rfl (L.ite h rfl (Y.neq rfl rfl) (fun c65 h=>?_) (fun c65 h=>?_)))))))))
 ·refine ln (W.condT rfl (sr (L.r 2 rfl (L.to (D:=Cls w F [qc gP60 gP100 q14 l10 [],qe gP60 q63 l60 [],.sl v56 9 1 (l55.map SR),.sl v6 9 1 (l5.map SR)]) (sI [1,0,2,3]) ?_))))
  obtain ⟨l66,x67,e68,h⟩:=qB h
  refine L.doesP (A:=[qc gP60 gP100 q14 l10 []]) (M:=[qe gP60 q63 l60 [],.sl v56 9 1 (l55.map SR),.sl v6 9 1 (l5.map SR)]) rfl qie rfl (fun w' hw=>W45 a0 x61 l10 gP60 gP100 q14 w' _ e68 _ hw.lend) ?_
  rintro _ _ ⟨q69,rfl,rfl⟩
  refine L.to (D:=Cls w F [qc gP60 gP100 q69 l66 [],qe gP60 q63 l60 [],.sl v56 9 1 (l55.map SR),.sl v6 9 1 (l5.map SR)]) hI (L.r 1 rfl (ln (W.ret (E.thenR (E.ret1 rfl rfl (fun w1 hw=>?_))))))
  cases h
  exact ⟨_,_,rfl,⟨_,_,rfl,rfl⟩,hw.s [1,0]⟩
 refine ln (W.condF rfl (W.skip (E.thenN (W.seq (sr (L.r 1 rfl ?_))))))
 obtain ⟨th70,eth70,h⟩:=qd h
 refine L.to (D:=Cls w F [.obj (gP100 a0.toNat) [VP gP60 th70.d_,.int .i64 th70.from_,.int .i64 th70.size_,.int .i64 th70.epoch_,.int .i64 th70.at_,.int .i64 th70.seq_,.bool th70.fell_] 100,qc gP60 gP100 q14 l10 (a0.toNat :: []),qe gP60 q63 l60 [],.sl v56 9 1 (l55.map SR),.sl v6 9 1 (l5.map SR)]) (fun _ hw=>hw.arOpen (p:=1) rfl eth70 List.not_mem_nil) (L.y rfl (Y.apNil rfl eth70) (L.y rfl (Y.fieldP xG rfl) (L.y rfl (Y.loadP (i:=0) qgZ rfl rfl rfl) (L.to (D:=Cls w F [qc gP60 gP100 q14 l10 [],qe gP60 q63 l60 [],.sl v56 9 1 (l55.map SR),.sl v6 9 1 (l5.map SR)]) (fun _ hw=>hw.arShut (hs':=(a0.toNat :: [])) [0,1,2,3,4] eth70 (by decide) rfl (fun _=>List.mem_cons) List.not_mem_nil) (L.to (D:=Cls w F [qe gP60 q63 l60 [],qc gP60 gP100 q14 l10 [],.sl v56 9 1 (l55.map SR),.sl v6 9 1 (l5.map SR)]) (sI [1,0,2,3]) ?_)))))
 obtain ⟨l71,x72,e73,h⟩:=qB h
 refine L.doesP (A:=[qe gP60 q63 l60 []]) (M:=[qc gP60 gP100 q14 l10 [],.sl v56 9 1 (l55.map SR),.sl v6 9 1 (l5.map SR)]) rfl qjR rfl (fun w' hw=>W46 th70.d_ l60 gP60 q63 w' _ e73 _ hw.lend) ?_
 rintro _ _ ⟨q74,rfl,rfl⟩
 refine L.to (D:=Cls w F [qe gP60 q74 l71 [],qc gP60 gP100 q14 l10 [],.sl v56 9 1 (l55.map SR),.sl v6 9 1 (l5.map SR)]) hI (L.r 1 rfl (nsr (L.r 1 rfl (L.ite h rfl (Y.neq rfl rfl) (fun c75 h=>?_) (fun c75 h=>?_)))))
 ·refine ln (W.condT rfl (sr (L.r 2 rfl (L.to (D:=Cls w F [qc gP60 gP100 q14 l10 [],qe gP60 q74 l71 [],.sl v56 9 1 (l55.map SR),.sl v6 9 1 (l5.map SR)]) (sI [1,0,2,3]) ?_))))
  obtain ⟨l76,x77,e78,h⟩:=qB h
  refine L.doesP (A:=[qc gP60 gP100 q14 l10 []]) (M:=[qe gP60 q74 l71 [],.sl v56 9 1 (l55.map SR),.sl v6 9 1 (l5.map SR)]) rfl qie rfl (fun w' hw=>W45 a0 x72 l10 gP60 gP100 q14 w' _ e78 _ hw.lend) ?_
  rintro _ _ ⟨q79,rfl,rfl⟩
  refine L.to (D:=Cls w F [qc gP60 gP100 q79 l76 [],qe gP60 q74 l71 [],.sl v56 9 1 (l55.map SR),.sl v6 9 1 (l5.map SR)]) hI (L.r 1 rfl (ln (W.ret (E.thenR (E.ret1 rfl rfl (fun w1 hw=>?_))))))
  cases h
  exact ⟨_,_,rfl,⟨_,_,rfl,rfl⟩,hw.s [1,0]⟩
 refine ln (W.condF rfl (W.skip (E.thenN (sr (L.r 2 rfl ?_)))))
 obtain ⟨th80,eth80,h⟩:=qd h
 refine L.to (D:=Cls w F [.obj (gP100 a0.toNat) [VP gP60 th80.d_,.int .i64 th80.from_,.int .i64 th80.size_,.int .i64 th80.epoch_,.int .i64 th80.at_,.int .i64 th80.seq_,.bool th80.fell_] 100,qc gP60 gP100 q14 l10 (a0.toNat :: []),qe gP60 q74 l71 [],.sl v56 9 1 (l55.map SR),.sl v6 9 1 (l5.map SR)]) (fun _ hw=>hw.arOpen (p:=1) rfl eth80 List.not_mem_nil) (L.y rfl (Y.apNil rfl eth80) (L.y rfl (Y.fieldP xF rfl) (L.store (i:=0) (vs:=[.int .i64 2]) sz3 rfl rfl rfl rfl (by simp [Value.oneCell',Value.cells,st,pt,el]) rfl nb (L.y rfl (Y.apNil rfl eth80) (L.y rfl (Y.fieldP ja rfl) (L.store (i:=0) (vs:=[.int .i64 1]) sz3 rfl rfl rfl rfl (by simp [Value.oneCell',Value.cells,st,pt,el]) rfl nb (nsr (L.r 1 rfl (ln ?_)))))))))
 refine W.ret ?_
 obtain ⟨l81,el81,h⟩:=qd h
 refine E.arClose (row:=TLog.rowA gP60) (sub:=TLog.subA gP60) (e:=100) (g:=gP100) (gh:=q14) (vs':=[]) (hs:=[]) (hs':=(a0.toNat :: [])) (m':=[qe gP60 q74 l71 [],.sl v56 9 1 (l55.map SR),.sl v6 9 1 (l5.map SR)]) [0,1,2,3,4] el81 (by decide) rfl (fun _=>List.mem_cons) List.not_mem_nil ?_
 intro q82
 refine E.to (D:=Cls w F [qc gP60 gP100 q82 l81 [],qe gP60 q74 l71 [],.sl v56 9 1 (l55.map SR),.sl v6 9 1 (l5.map SR)]) hI (E.ret1 rfl rfl (fun w1 hw=>?_))
 cases h
 exact ⟨_,_,rfl,⟨_,_,rfl,rfl⟩,hw.s [1,0]⟩
set_option maxRecDepth 100000 in
set_option maxHeartbeats 8000000 in
theorem W13 (a0:Int) (A60:(List TDisk)) (A70:(List TStore)) (A100:(List TLog)) (gP60:Nat→Nat) (gP70:Nat→Nat) (gP88:Nat→Nat) (gP100:Nat→Nat) (qP60:Nat→List Value) (qP70:Nat→List Value) (qP100:Nat→List Value) (w:World) (r:((List TDisk)×(List TStore)×(List TLog)×Int)) (h:M13 a0 A60 A70 A100=some r) (F:List Nat) (hc0:Cls w F [qe gP60 qP60 A60 [],qf gP70 gP88 gP100 qP70 A70 [],qc gP60 gP100 qP100 A100 []] w):zg Tryz.prog 13 [VP gP70 a0] F w fun u m=>∃ Q60 Q70 Q100,u=.int .i64 r.2.2.2∧m=[qe gP60 Q60 r.1 [],qf gP70 gP88 gP100 Q70 r.2.1 [],qc gP60 gP100 Q100 r.2.2.1 []]:=by
 rw [M13] at h
 refine body (n:=100) Tryz.func13 rfl rfl rfl hc0 ?_
 obtain ⟨th1,eth1,h⟩:=qd h
 refine W.to (D:=Cls w F [.obj (gP70 a0.toNat) (List.flatten [(zr (fzr (PR gP100)) (fun _=>[]) th1.logs_).flatten,[.int .i64 th1.half_],[.int .i64 th1.gen_],[.bool th1.down_],[.int .i64 th1.now_],(zr qi (qk (qP70 a0.toNat) 2) th1.items_).flatten,[(gv (qP70 a0.toNat) 0)],[(gv (qP70 a0.toNat) 1)]]) 70,.sl (gv (qP70 a0.toNat) 0) 84 1 (th1.active_.map (PR gP88)),.sl (gv (qP70 a0.toNat) 1) 84 1 (th1.over_.map (PR gP88)),.ss (zs sd0 (fun _=>[]) th1.logs_),.ss (zs (qq 79 2 TVersion.row) (qk (qP70 a0.toNat) 2) th1.items_),qf gP70 gP88 gP100 qP70 A70 (a0.toNat :: []),qe gP60 qP60 A60 [],qc gP60 gP100 qP100 A100 []]) (fun _ hw=>hw.arOpen (p:=1) rfl eth1 List.not_mem_nil) (sr (L.r 1 rfl (ln (W.seq (sr (L.r 1 rfl (L.y rfl (Y.apNil rfl eth1) (L.y rfl (Y.fieldP vQ rfl) ?_))))))))
 obtain ⟨_,en2,h⟩:=qd h
 obtain ⟨_,en2⟩:=qh en2
 refine L.iteB h rfl (Y.loadG (q:=0) (si:=3) (ps:=4) (j:=0) (X:=[.bool th1.down_]) ag4 rfl rfl rfl rfl (sl1 (a:=2) (p:=2) (zrN (nn:=2) (k:=1) (fun _ _=>rfl) en2) (sl1 (a:=1) (p:=1) rfl (sl1 (a:=1) (p:=0) rfl sl0))) rfl) (fun c3 h=>?_) (fun c3 h=>?_)
 ·refine ln (W.condT rfl (sr (L.r 1 rfl (ln (W.ret (E.thenR (E.to (D:=Cls w F [qf gP70 gP88 gP100 qP70 A70 [],qe gP60 qP60 A60 [],qc gP60 gP100 qP100 A100 []]) (fun _ hw=>hw.arShut (hs':=(a0.toNat :: [])) [0,1,2,3,4,5,6,7] eth1 (by decide) rfl (fun _=>List.mem_cons) List.not_mem_nil) (E.ret1 rfl rfl (fun w1 hw=>?_)))))))))
  cases h
  exact ⟨_,_,rfl,⟨_,_,_,rfl,rfl⟩,hw.s [1,0,2]⟩
 refine ln (W.condF rfl (W.skip (E.thenN (W.seq (W.quietC mixed (by kernel_rfl) (fun _ hw=>hw.drew) (fun hC=>(U.r 2 rfl (U.y rfl (Y.apNil rfl eth1) (U.y rfl (Y.fieldP vb rfl) (U.y rfl (Y.loadG (q:=0) (si:=1) (ps:=2) (j:=0) (X:=[.int .i64 th1.half_]) ag3 rfl rfl rfl rfl (sl1 (a:=2) (p:=0) (zrN (nn:=2) (k:=1) (fun _ _=>rfl) en2) sl0) rfl) (U.m (V:=fun x4=>.int .i64 x4) h rfl (Y.subM rfl rfl) (fun x4 ex4 h=>(U.y rfl (Y.apNil rfl eth1) (U.y rfl (Y.fieldP qbu rfl) ?_))))))))))))))
 refine U.m (V:=fun _=>pt (gP70 a0.toNat) (0+x4.toNat*1)) h rfl (Y.indexAS (l:=th1.logs_) Tryz.underlying65 qia rfl rfl) (fun x5 ex5 h=>(U.y rfl (Y.loadZg (si:=0) (ps:=0) (q:=0) (row:=(fzr (PR gP100))) (vs:=(fun _=>[])) (j:=0) (pv:=VP gP100 x5) qkq rfl rfl rfl rfl sl0 (fun _ _=>rfl) (qt ex5) rfl) (U.r 1 rfl (U.nil (E.thenN (W.seq (sr (L.r 2 rfl (L.y rfl (Y.apNil rfl eth1) (L.y rfl (Y.fieldP yZ rfl) (L.y rfl (Y.loadG (q:=0) (si:=2) (ps:=3) (j:=0) (X:=[.int .i64 th1.gen_]) ag3 rfl rfl rfl rfl (sl1 (a:=2) (p:=1) (zrN (nn:=2) (k:=1) (fun _ _=>rfl) en2) (sl1 (a:=1) (p:=0) rfl sl0)) rfl) (L.m (V:=fun x6=>.int .i64 x6) h rfl (Y.addM rfl rfl) (fun x6 ex6 h=>?_)))))))))))))
 obtain ⟨s7,e8,h⟩:=qd h
 refine L.y rfl (Y.does qaP rfl (fun w' hw=>(W24 x6 w' _ e8).mono (fun _ _ h=>h.1))) (L.m (V:=fun s9=>st s9) h rfl (Y.catM rfl rfl) (fun s9 es9 h=>(L.to (D:=Cls w F [qe gP60 qP60 A60 [],qc gP60 gP100 qP100 A100 [],.obj (gP70 a0.toNat) (List.flatten [(zr (fzr (PR gP100)) (fun _=>[]) th1.logs_).flatten,[.int .i64 th1.half_],[.int .i64 th1.gen_],[.bool th1.down_],[.int .i64 th1.now_],(zr qi (qk (qP70 a0.toNat) 2) th1.items_).flatten,[(gv (qP70 a0.toNat) 0)],[(gv (qP70 a0.toNat) 1)]]) 70,.sl (gv (qP70 a0.toNat) 0) 84 1 (th1.active_.map (PR gP88)),.sl (gv (qP70 a0.toNat) 1) 84 1 (th1.over_.map (PR gP88)),.ss (zs sd0 (fun _=>[]) th1.logs_),.ss (zs (qq 79 2 TVersion.row) (qk (qP70 a0.toNat) 2) th1.items_),qf gP70 gP88 gP100 qP70 A70 (a0.toNat :: [])]) (sI [6,7,0,1,2,3,4,5]) ?_)))
 obtain ⟨l10,l11,x12,e13,h⟩:=qW h
 refine L.doesP (A:=[qe gP60 qP60 A60 [],qc gP60 gP100 qP100 A100 []]) (M:=[.obj (gP70 a0.toNat) (List.flatten [(zr (fzr (PR gP100)) (fun _=>[]) th1.logs_).flatten,[.int .i64 th1.half_],[.int .i64 th1.gen_],[.bool th1.down_],[.int .i64 th1.now_],(zr qi (qk (qP70 a0.toNat) 2) th1.items_).flatten,[(gv (qP70 a0.toNat) 0)],[(gv (qP70 a0.toNat) 1)]]) 70,.sl (gv (qP70 a0.toNat) 0) 84 1 (th1.active_.map (PR gP88)),.sl (gv (qP70 a0.toNat) 1) 84 1 (th1.over_.map (PR gP88)),.ss (zs sd0 (fun _=>[]) th1.logs_),.ss (zs (qq 79 2 TVersion.row) (qk (qP70 a0.toNat) 2) th1.items_),qf gP70 gP88 gP100 qP70 A70 (a0.toNat :: [])]) rfl qkV rfl (fun w' hw=>W23 x5 s9 A60 A100 gP60 gP100 qP60 qP100 w' _ e13 _ hw.lend) ?_
 rintro _ _ ⟨q14,q15,rfl,rfl⟩
 refine L.to (D:=Cls w F [qe gP60 q14 l10 [],qc gP60 gP100 q15 l11 [],.obj (gP70 a0.toNat) (List.flatten [(zr (fzr (PR gP100)) (fun _=>[]) th1.logs_).flatten,[.int .i64 th1.half_],[.int .i64 th1.gen_],[.bool th1.down_],[.int .i64 th1.now_],(zr qi (qk (qP70 a0.toNat) 2) th1.items_).flatten,[(gv (qP70 a0.toNat) 0)],[(gv (qP70 a0.toNat) 1)]]) 70,.sl (gv (qP70 a0.toNat) 0) 84 1 (th1.active_.map (PR gP88)),.sl (gv (qP70 a0.toNat) 1) 84 1 (th1.over_.map (PR gP88)),.ss (zs sd0 (fun _=>[]) th1.logs_),.ss (zs (qq 79 2 TVersion.row) (qk (qP70 a0.toNat) 2) th1.items_),qf gP70 gP88 gP100 qP70 A70 (a0.toNat :: [])]) hI (L.r 1 rfl (nsr (L.r 1 rfl (L.ite h rfl (Y.neq rfl rfl) (fun c16 h=>?_) (fun c16 h=>?_)))))
 ·refine ln (W.condT rfl (sr (L.r 2 rfl (L.to (D:=Cls w F [qf gP70 gP88 gP100 qP70 A70 [],qe gP60 q14 l10 [],qc gP60 gP100 q15 l11 []]) (fun _ hw=>hw.arShut (hs':=(a0.toNat :: [])) [2,3,4,5,6,7,0,1] eth1 (by decide) rfl (fun _=>List.mem_cons) List.not_mem_nil) ?_))))
  obtain ⟨l17,x18,e19,h⟩:=qB h
  refine L.doesP (A:=[qf gP70 gP88 gP100 qP70 A70 []]) (M:=[qe gP60 q14 l10 [],qc gP60 gP100 q15 l11 []]) rfl kz rfl (fun w' hw=>W25 a0 x12 A70 gP70 gP88 gP100 qP70 w' _ e19 _ hw.lend) ?_
  rintro _ _ ⟨q20,rfl,rfl⟩
  refine L.to (D:=Cls w F [qf gP70 gP88 gP100 q20 l17 [],qe gP60 q14 l10 [],qc gP60 gP100 q15 l11 []]) hI ?_
  obtain ⟨th21,eth21,h⟩:=qd h
  refine L.to (D:=Cls w F [.obj (gP70 a0.toNat) (List.flatten [(zr (fzr (PR gP100)) (fun _=>[]) th21.logs_).flatten,[.int .i64 th21.half_],[.int .i64 th21.gen_],[.bool th21.down_],[.int .i64 th21.now_],(zr qi (qk (q20 a0.toNat) 2) th21.items_).flatten,[(gv (q20 a0.toNat) 0)],[(gv (q20 a0.toNat) 1)]]) 70,.sl (gv (q20 a0.toNat) 0) 84 1 (th21.active_.map (PR gP88)),.sl (gv (q20 a0.toNat) 1) 84 1 (th21.over_.map (PR gP88)),.ss (zs sd0 (fun _=>[]) th21.logs_),.ss (zs (qq 79 2 TVersion.row) (qk (q20 a0.toNat) 2) th21.items_),qf gP70 gP88 gP100 q20 l17 (a0.toNat :: []),qe gP60 q14 l10 [],qc gP60 gP100 q15 l11 []]) (fun _ hw=>hw.arOpen (p:=0) rfl eth21 List.not_mem_nil) (L.r 1 rfl (ln (W.ret (E.thenR (E.to (D:=Cls w F [qf gP70 gP88 gP100 q20 l17 [],qe gP60 q14 l10 [],qc gP60 gP100 q15 l11 []]) (fun _ hw=>hw.arShut (hs':=(a0.toNat :: [])) [0,1,2,3,4,5,6,7] eth21 (by decide) rfl (fun _=>List.mem_cons) List.not_mem_nil) (E.ret1 rfl rfl (fun w1 hw=>?_)))))))
  cases h
  exact ⟨_,_,rfl,⟨_,_,_,rfl,rfl⟩,hw.s [1,0,2]⟩
 refine ln (W.condF rfl (W.skip (E.thenN (sr (L.r 1 rfl (ln (W.seqJ (fun gs D=>∃ gv1 gl2 gu3,∃ gu4:Unit,∃ gl5 gx6 gx7 gb8 gx9 gl10 gl11 gl12,gs=[(0,VP gP70 a0),(3,VP gP100 x5),(5,gv1)]∧D=Cls w F [qe gP60 q14 l10 [],qc gP60 gP100 q15 l11 [],qf gP70 gP88 gP100 qP70 A70 (a0.toNat :: []),.obj (gP70 a0.toNat) (List.flatten [(zr (fzr (PR gP100)) (fun _=>[]) gl5).flatten,[.int .i64 gx6],[.int .i64 gx7],[.bool gb8],[.int .i64 gx9],(zr qi (qk (qP70 a0.toNat) 2) gl10).flatten,[(gv (qP70 a0.toNat) 0)],[(gv (qP70 a0.toNat) 1)]]) 70,.ss (zs sd0 (fun _=>[]) gl5),.ss (zs (qq 79 2 TVersion.row) (qk (qP70 a0.toNat) 2) gl10),.sl gv1 9 1 (gl2.map SR),.sl (gv (qP70 a0.toNat) 0) 84 1 (gl11.map (PR gP88)),.sl (gv (qP70 a0.toNat) 1) 84 1 (gl12.map (PR gP88))]∧idx A70 a0=some gu3∧qe3 x5 A70 a0 l10 l11 gl2 gl5 gx6 gx7 gb8 gx9 gl10 gl11 gl12=some r) ?_ ?_)))))))
 ·refine sr (L.r 1 rfl (L.to (D:=Cls w F [qf gP70 gP88 gP100 qP70 A70 [],qe gP60 q14 l10 [],qc gP60 gP100 q15 l11 []]) (fun _ hw=>hw.arShut (hs':=(a0.toNat :: [])) [2,3,4,5,6,7,0,1] eth1 (by decide) rfl (fun _=>List.mem_cons) List.not_mem_nil) ?_))
  obtain ⟨x71,e72,h⟩:=qd h
  refine L.doesP (A:=[qf gP70 gP88 gP100 qP70 A70 []]) (M:=[qe gP60 q14 l10 [],qc gP60 gP100 q15 l11 []]) rfl qgT rfl (fun w' hw=>W11 a0 A70 gP70 gP88 gP100 qP70 w' _ e72 _ hw.lend) ?_
  rintro _ _ ⟨rfl,rfl⟩
  refine L.to (D:=Cls w F [qf gP70 gP88 gP100 qP70 A70 [],qe gP60 q14 l10 [],qc gP60 gP100 q15 l11 []]) hI ?_
  obtain ⟨th73,eth73,h⟩:=qd h
  refine L.to (D:=Cls w F [.obj (gP70 a0.toNat) (List.flatten [(zr (fzr (PR gP100)) (fun _=>[]) th73.logs_).flatten,[.int .i64 th73.half_],[.int .i64 th73.gen_],[.bool th73.down_],[.int .i64 th73.now_],(zr qi (qk (qP70 a0.toNat) 2) th73.items_).flatten,[(gv (qP70 a0.toNat) 0)],[(gv (qP70 a0.toNat) 1)]]) 70,.sl (gv (qP70 a0.toNat) 0) 84 1 (th73.active_.map (PR gP88)),.sl (gv (qP70 a0.toNat) 1) 84 1 (th73.over_.map (PR gP88)),.ss (zs sd0 (fun _=>[]) th73.logs_),.ss (zs (qq 79 2 TVersion.row) (qk (qP70 a0.toNat) 2) th73.items_),qf gP70 gP88 gP100 qP70 A70 (a0.toNat :: []),qe gP60 q14 l10 [],qc gP60 gP100 q15 l11 []]) (fun _ hw=>hw.arOpen (p:=0) rfl eth73 List.not_mem_nil) (L.r 1 rfl (ln (W.block (W.nilSl 9 1 (W.loopJ (fun m gs D=>∃ gv22 gl23 gx24,gs=[(0,VP gP70 a0),(3,VP gP100 x5),(5,gv22),(41,.agg (x71.map SR).flatten.toArray),(42,.int .i64 gx24)]∧D=Cls w F [qf gP70 gP88 gP100 qP70 A70 (a0.toNat :: []),qe gP60 q14 l10 [],qc gP60 gP100 q15 l11 [],.obj (gP70 a0.toNat) (List.flatten [(zr (fzr (PR gP100)) (fun _=>[]) th73.logs_).flatten,[.int .i64 th73.half_],[.int .i64 th73.gen_],[.bool th73.down_],[.int .i64 th73.now_],(zr qi (qk (qP70 a0.toNat) 2) th73.items_).flatten,[(gv (qP70 a0.toNat) 0)],[(gv (qP70 a0.toNat) 1)]]) 70,.ss (zs sd0 (fun _=>[]) th73.logs_),.ss (zs (qq 79 2 TVersion.row) (qk (qP70 a0.toNat) 2) th73.items_),.sl gv22 9 1 (gl23.map SR),.sl (gv (qP70 a0.toNat) 0) 84 1 (th73.active_.map (PR gP88)),.sl (gv (qP70 a0.toNat) 1) 84 1 (th73.over_.map (PR gP88))]∧yi x71 x5 A70 a0 l10 l11 th73 m gl23 gx24=some r) ⟨.slice none 0 0,[],0,rfl,rfl,h⟩ ⟨rfl,rfl,rfl,rfl,rfl,trivial⟩ (sI [6,7,8,1,4,5,0,2,3]) ?_)))))
  rintro m _ _ ⟨gv22,gl23,gx24,rfl,rfl,h⟩
  rcases m with _ | m
  ·rw [yi] at h;cases h
  rw [yi] at h
  generalize hg2:yi x71 x5 A70 a0 l10 l11 th73 m=go2 at h
  rw [qci] at h
  refine sr (L.ite h rfl (Y.lss rfl rfl) (fun c74 h=>?_) (fun c74 h=>?_))
  ·refine ln (W.seq (W.condT rfl (W.skip (E.thenN (W.seq (W.block (sr (L.r 1 rfl ?_))))))))
   obtain ⟨x75,ex75,h⟩:=qd h
   refine L.y rfl (Y.idxArr1 (l:=x71) (row:=SR) (p:=st x75) Tryz.underlying30 ag9 sz9 rfl rfl (fun _=>rfl) ex75 rfl) (L.r 2 rfl (nsr (L.r 1 rfl (L.ite h rfl (Y.neqS rfl rfl) (fun c76 h=>?_) (fun c76 h=>?_)))))
   ·refine ln (W.condT rfl (W.region (L.r 3 rfl ?_)))
    obtain ⟨s77,e78,h⟩:=qd h
    refine L.y rfl (Y.does qkl rfl (fun w' hw=>(W26 gx24 x75 w' _ e78).mono (fun _ _ h=>h.1))) (L.m (V:=fun s79=>st s79) h rfl (Y.catM rfl rfl) (fun s79 es79 h=>(L.litOne rfl Tryz.underlying57 eL9 rfl rfl ?_)))
    intro b80
    refine L.appM (i:=7) (g:=SR) (l:=gl23) (more:=[s79]) h rfl Tryz.underlying57 eL9 rfl rfl rfl (fun w hw=>As.at_ (hw.get (i:=0) rfl)) (qv _) rfl ?_
    intro v81 l82 el82 h
    exact L.r 1 rfl (L.nil (E.blockN (E.thenN (W.region (L.m (V:=fun x83=>.int .i64 x83) h rfl (Y.addM rfl rfl) (fun x83 ex83 h=>(L.r 1 rfl (L.nil (E.aJ ⟨v81,l82,x83,rfl,rfl,by rw [hg2];exact h⟩ (sI [2,3,4,5,6,7,0,8,9]))))))))))
   exact ln (W.condF rfl (W.skip (E.blockN (E.thenN (W.region (L.m (V:=fun x84=>.int .i64 x84) h rfl (Y.addM rfl rfl) (fun x84 ex84 h=>(L.r 1 rfl (L.nil (E.aJ ⟨gv22,gl23,x84,rfl,rfl,by rw [hg2];exact h⟩ hI))))))))))
  exact ln (W.seq (W.condF rfl (W.exit (E.thenX (E.KLX (E.blockX (E.jJ ⟨gv22,gl23,th73,(),th73.logs_,th73.half_,th73.gen_,th73.down_,th73.now_,th73.items_,th73.active_,th73.over_,rfl,rfl,eth73,h⟩ (sI [1,2,0,3,4,5,6,7,8]))))))))
 rintro _ _ ⟨gv1,gl2,gu3,gu4,gl5,gx6,gx7,gb8,gx9,gl10,gl11,gl12,rfl,rfl,hu4,h⟩
 rw [qe3] at h
 refine W.seqJ (fun gs D=>∃ gl13 gq14 gl15 gq16,gs=[(0,VP gP70 a0),(3,VP gP100 x5)]∧D=Cls w F [qe gP60 gq14 gl13 [],qc gP60 gP100 gq16 gl15 [],qf gP70 gP88 gP100 qP70 A70 (a0.toNat :: []),.obj (gP70 a0.toNat) (List.flatten [(zr (fzr (PR gP100)) (fun _=>[]) gl5).flatten,[.int .i64 gx6],[.int .i64 gx7],[.bool gb8],[.int .i64 gx9],(zr qi (qk (qP70 a0.toNat) 2) gl10).flatten,[(gv (qP70 a0.toNat) 0)],[(gv (qP70 a0.toNat) 1)]]) 70,.ss (zs sd0 (fun _=>[]) gl5),.ss (zs (qq 79 2 TVersion.row) (qk (qP70 a0.toNat) 2) gl10),.sl (gv (qP70 a0.toNat) 0) 84 1 (gl11.map (PR gP88)),.sl (gv (qP70 a0.toNat) 1) 84 1 (gl12.map (PR gP88))]∧qgp x5 A70 a0 gl5 gx6 gx7 gb8 gx9 gl10 gl11 gl12 gl13 gl15=some r) ?_ ?_
 ·refine sr (L.r 1 rfl (L.litOne rfl Tryz.underlying57 eL9 rfl rfl ?_))
  intro b48
  refine L.appM (i:=7) (g:=SR) (l:=gl2) (more:=[[68]]) h rfl Tryz.underlying57 eL9 rfl rfl rfl (fun w hw=>As.at_ (hw.get (i:=0) rfl)) (qv _) rfl ?_
  intro v49 l50 el50 h
  refine L.y rfl (Y.lenM (g:=SR) (l:=l50) Tryz.underlying57 rfl (fun w hw=>As.at_ (hw.get (i:=0) rfl))) (L.r 1 rfl (ln (W.block (W.loopJ (fun m gs D=>∃ gx17 gl18 gq19 gl20 gq21,gs=[(0,VP gP70 a0),(3,VP gP100 x5),(58,v49),(59,.int .i64 (l50.length:Int)),(60,.int .i64 gx17)]∧D=Cls w F [qe gP60 gq19 gl18 [],qc gP60 gP100 gq21 gl20 [],qf gP70 gP88 gP100 qP70 A70 (a0.toNat :: []),.obj (gP70 a0.toNat) (List.flatten [(zr (fzr (PR gP100)) (fun _=>[]) gl5).flatten,[.int .i64 gx6],[.int .i64 gx7],[.bool gb8],[.int .i64 gx9],(zr qi (qk (qP70 a0.toNat) 2) gl10).flatten,[(gv (qP70 a0.toNat) 0)],[(gv (qP70 a0.toNat) 1)]]) 70,.ss (zs sd0 (fun _=>[]) gl5),.ss (zs (qq 79 2 TVersion.row) (qk (qP70 a0.toNat) 2) gl10),.sl v49 9 1 (l50.map SR),.sl (gv (qP70 a0.toNat) 0) 84 1 (gl11.map (PR gP88)),.sl (gv (qP70 a0.toNat) 1) 84 1 (gl12.map (PR gP88))]∧vv l50 x5 A70 a0 gl5 gx6 gx7 gb8 gx9 gl10 gl11 gl12 m gx17 gl18 gl20=some r) ⟨0,l10,q14,l11,q15,rfl,rfl,h⟩ ⟨rfl,rfl,rfl,rfl,rfl,trivial⟩ (sI [2,3,4,5,6,7,0,8,9]) ?_))))
  rintro m _ _ ⟨gx17,gl18,gq19,gl20,gq21,rfl,rfl,h⟩
  rcases m with _ | m
  ·rw [vv] at h;cases h
  rw [vv] at h
  generalize hg1:vv l50 x5 A70 a0 gl5 gx6 gx7 gb8 gx9 gl10 gl11 gl12 m=go1 at h
  rw [qal] at h
  refine sr (L.ite h rfl (Y.lss rfl rfl) (fun c51 h=>?_) (fun c51 h=>?_))
  ·refine ln (W.seq (W.condT rfl (W.skip (E.thenN (W.seq (W.block (sr (L.m (V:=fun _=>el v49 (gx17.toNat*1)) h rfl (Y.indexM (g:=SR) (l:=l50) Tryz.underlying57 sz9 rfl rfl (fun w hw=>As.at_ (hw.get (i:=6) rfl))) (fun x52 ex52 h=>(L.y rfl (Y.loadE1 (u:=st x52) ag9 rfl (fun w hw=>As.at_ (hw.get (i:=6) rfl)) (qx ex52)) (L.r 1 rfl (L.nil ?_))))))))))))
   refine E.thenN (sr (L.r 2 rfl ?_))
   obtain ⟨l53,l54,x55,e56,h⟩:=qW h
   refine L.doesP (A:=[qe gP60 gq19 gl18 [],qc gP60 gP100 gq21 gl20 []]) (M:=[qf gP70 gP88 gP100 qP70 A70 (a0.toNat :: []),.obj (gP70 a0.toNat) (List.flatten [(zr (fzr (PR gP100)) (fun _=>[]) gl5).flatten,[.int .i64 gx6],[.int .i64 gx7],[.bool gb8],[.int .i64 gx9],(zr qi (qk (qP70 a0.toNat) 2) gl10).flatten,[(gv (qP70 a0.toNat) 0)],[(gv (qP70 a0.toNat) 1)]]) 70,.ss (zs sd0 (fun _=>[]) gl5),.ss (zs (qq 79 2 TVersion.row) (qk (qP70 a0.toNat) 2) gl10),.sl v49 9 1 (l50.map SR),.sl (gv (qP70 a0.toNat) 0) 84 1 (gl11.map (PR gP88)),.sl (gv (qP70 a0.toNat) 1) 84 1 (gl12.map (PR gP88))]) rfl qkk rfl (fun w' hw=>W27 x5 x52 gl18 gl20 gP60 gP100 gq19 gq21 w' _ e56 _ hw.lend) ?_
   rintro _ _ ⟨q57,q58,rfl,rfl⟩
   refine L.to (D:=Cls w F [qe gP60 q57 l53 [],qc gP60 gP100 q58 l54 [],qf gP70 gP88 gP100 qP70 A70 (a0.toNat :: []),.obj (gP70 a0.toNat) (List.flatten [(zr (fzr (PR gP100)) (fun _=>[]) gl5).flatten,[.int .i64 gx6],[.int .i64 gx7],[.bool gb8],[.int .i64 gx9],(zr qi (qk (qP70 a0.toNat) 2) gl10).flatten,[(gv (qP70 a0.toNat) 0)],[(gv (qP70 a0.toNat) 1)]]) 70,.ss (zs sd0 (fun _=>[]) gl5),.ss (zs (qq 79 2 TVersion.row) (qk (qP70 a0.toNat) 2) gl10),.sl v49 9 1 (l50.map SR),.sl (gv (qP70 a0.toNat) 0) 84 1 (gl11.map (PR gP88)),.sl (gv (qP70 a0.toNat) 1) 84 1 (gl12.map (PR gP88))]) hI (L.r 1 rfl (nsr (L.r 1 rfl (ln (W.block (sr (L.ite h rfl (Y.eql rfl rfl) (fun c59 h=>?_) (fun c59 h=>?_))))))))
   ·exact L.r 1 rfl (ln (W.condT rfl (W.skip (E.blockN (E.blockN (E.thenN (W.region (L.m (V:=fun x60=>.int .i64 x60) h rfl (Y.addM rfl rfl) (fun x60 ex60 h=>(L.r 1 rfl (L.nil (E.aJ ⟨x60,l53,q57,l54,q58,rfl,rfl,by rw [hg1];exact h⟩ hI))))))))))))
   refine L.r 1 rfl (ln (W.condF rfl (sr (L.ite h rfl (Y.eql rfl rfl) (fun c61 h=>?_) (fun c61 h=>?_)))))
   ·refine L.r 1 rfl (ln (W.condT rfl (sr (L.r 2 rfl (ln (W.ret (E.blockR (E.blockR (E.thenR (E.KLR ?_))))))))))
    refine E.blockR (E.KSR (E.to (D:=Cls w F [qe gP60 q57 l53 [],qc gP60 gP100 q58 l54 [],qf gP70 gP88 gP100 qP70 A70 (a0.toNat :: []),.obj (gP70 a0.toNat) (List.flatten [(zr (fzr (PR gP100)) (fun _=>[]) gl5).flatten,[.int .i64 gx6],[.int .i64 gx7],[.bool gb8],[.int .i64 gx9],(zr qi (qk ([(gv (qP70 a0.toNat) 0),(gv (qP70 a0.toNat) 1)]++ghl (qk (qP70 a0.toNat) 2) gl10.length) 2) gl10).flatten,[(gv (qP70 a0.toNat) 0)],[(gv (qP70 a0.toNat) 1)]]) 70,.ss (zs sd0 (fun _=>[]) gl5),.ss (zs (qq 79 2 TVersion.row) (qk ([(gv (qP70 a0.toNat) 0),(gv (qP70 a0.toNat) 1)]++ghl (qk (qP70 a0.toNat) 2) gl10.length) 2) gl10),.sl v49 9 1 (l50.map SR),.sl (gv (qP70 a0.toNat) 0) 84 1 (gl11.map (PR gP88)),.sl (gv (qP70 a0.toNat) 1) 84 1 (gl12.map (PR gP88))]) (fun _ hw=>by rw [zK [(gv (qP70 a0.toNat) 0),(gv (qP70 a0.toNat) 1)] _ 2 _ rfl,zJ [(gv (qP70 a0.toNat) 0),(gv (qP70 a0.toNat) 1)] _ 2 _ rfl];exact hw) ?_))
    obtain ⟨l63,el63,h⟩:=qd h
    refine E.arClose (row:=TStore.rowA gP88 gP100) (sub:=TStore.subA gP88 gP100) (e:=70) (g:=gP70) (gh:=qP70) (vs':=([(gv (qP70 a0.toNat) 0),(gv (qP70 a0.toNat) 1)]++ghl (qk (qP70 a0.toNat) 2) gl10.length)) (hs:=[]) (hs':=(a0.toNat :: [])) (m':=[qe gP60 q57 l53 [],qc gP60 gP100 q58 l54 [],.sl v49 9 1 (l50.map SR)]) [3,7,8,4,5,2,0,1,6] el63 (by decide) rfl (fun _=>List.mem_cons) List.not_mem_nil ?_
    intro q62
    refine E.to (D:=Cls w F [qf gP70 gP88 gP100 q62 l63 [],qe gP60 q57 l53 [],qc gP60 gP100 q58 l54 [],.sl v49 9 1 (l50.map SR)]) hI (E.ret1 rfl rfl (fun w1 hw=>?_))
    cases h
    exact ⟨_,_,rfl,⟨_,_,_,rfl,rfl⟩,hw.s [1,0,2]⟩
   refine L.r 1 rfl (ln (W.condF rfl (sr (L.r 2 rfl (L.to (D:=Cls w F [qe gP60 q57 l53 [],qc gP60 gP100 q58 l54 [],qf gP70 gP88 gP100 qP70 A70 (a0.toNat :: []),.obj (gP70 a0.toNat) (List.flatten [(zr (fzr (PR gP100)) (fun _=>[]) gl5).flatten,[.int .i64 gx6],[.int .i64 gx7],[.bool gb8],[.int .i64 gx9],(zr qi (qk ([(gv (qP70 a0.toNat) 0),(gv (qP70 a0.toNat) 1)]++ghl (qk (qP70 a0.toNat) 2) gl10.length) 2) gl10).flatten,[(gv (qP70 a0.toNat) 0)],[(gv (qP70 a0.toNat) 1)]]) 70,.ss (zs sd0 (fun _=>[]) gl5),.ss (zs (qq 79 2 TVersion.row) (qk ([(gv (qP70 a0.toNat) 0),(gv (qP70 a0.toNat) 1)]++ghl (qk (qP70 a0.toNat) 2) gl10.length) 2) gl10),.sl v49 9 1 (l50.map SR),.sl (gv (qP70 a0.toNat) 0) 84 1 (gl11.map (PR gP88)),.sl (gv (qP70 a0.toNat) 1) 84 1 (gl12.map (PR gP88))]) (fun _ hw=>by rw [zK [(gv (qP70 a0.toNat) 0),(gv (qP70 a0.toNat) 1)] _ 2 _ rfl,zJ [(gv (qP70 a0.toNat) 0),(gv (qP70 a0.toNat) 1)] _ 2 _ rfl];exact hw) ?_)))))
   obtain ⟨l65,el65,h⟩:=qd h
   refine L.arClose (row:=TStore.rowA gP88 gP100) (sub:=TStore.subA gP88 gP100) (e:=70) (g:=gP70) (gh:=qP70) (vs':=([(gv (qP70 a0.toNat) 0),(gv (qP70 a0.toNat) 1)]++ghl (qk (qP70 a0.toNat) 2) gl10.length)) (hs:=[]) (hs':=(a0.toNat :: [])) (m':=[qe gP60 q57 l53 [],qc gP60 gP100 q58 l54 [],.sl v49 9 1 (l50.map SR)]) [3,7,8,4,5,2,0,1,6] el65 (by decide) rfl (fun _=>List.mem_cons) List.not_mem_nil ?_
   intro q64
   refine L.to (D:=Cls w F [qf gP70 gP88 gP100 q64 l65 [],qe gP60 q57 l53 [],qc gP60 gP100 q58 l54 [],.sl v49 9 1 (l50.map SR)]) hI ?_
   obtain ⟨l66,x67,e68,h⟩:=qB h
   refine L.doesP (A:=[qf gP70 gP88 gP100 q64 l65 []]) (M:=[qe gP60 q57 l53 [],qc gP60 gP100 q58 l54 [],.sl v49 9 1 (l50.map SR)]) rfl kz rfl (fun w' hw=>W25 a0 x55 l65 gP70 gP88 gP100 q64 w' _ e68 _ hw.lend) ?_
   rintro _ _ ⟨q69,rfl,rfl⟩
   refine L.to (D:=Cls w F [qf gP70 gP88 gP100 q69 l66 [],qe gP60 q57 l53 [],qc gP60 gP100 q58 l54 [],.sl v49 9 1 (l50.map SR)]) hI ?_
   obtain ⟨th70,eth70,h⟩:=qd h
   refine L.to (D:=Cls w F [.obj (gP70 a0.toNat) (List.flatten [(zr (fzr (PR gP100)) (fun _=>[]) th70.logs_).flatten,[.int .i64 th70.half_],[.int .i64 th70.gen_],[.bool th70.down_],[.int .i64 th70.now_],(zr qi (qk (q69 a0.toNat) 2) th70.items_).flatten,[(gv (q69 a0.toNat) 0)],[(gv (q69 a0.toNat) 1)]]) 70,.sl (gv (q69 a0.toNat) 0) 84 1 (th70.active_.map (PR gP88)),.sl (gv (q69 a0.toNat) 1) 84 1 (th70.over_.map (PR gP88)),.ss (zs sd0 (fun _=>[]) th70.logs_),.ss (zs (qq 79 2 TVersion.row) (qk (q69 a0.toNat) 2) th70.items_),qf gP70 gP88 gP100 q69 l66 (a0.toNat :: []),qe gP60 q57 l53 [],qc gP60 gP100 q58 l54 [],.sl v49 9 1 (l50.map SR)]) (fun _ hw=>hw.arOpen (p:=0) rfl eth70 List.not_mem_nil) (L.r 1 rfl (ln (W.ret (E.blockR (E.blockR (E.thenR (E.KLR (E.blockR (E.KSR (E.to (D:=Cls w F [qf gP70 gP88 gP100 q69 l66 [],qe gP60 q57 l53 [],qc gP60 gP100 q58 l54 [],.sl v49 9 1 (l50.map SR)]) (fun _ hw=>hw.arShut (hs':=(a0.toNat :: [])) [0,1,2,3,4,5,6,7,8] eth70 (by decide) rfl (fun _=>List.mem_cons) List.not_mem_nil) (E.ret1 rfl rfl (fun w1 hw=>?_))))))))))))
   cases h
   exact ⟨_,_,rfl,⟨_,_,_,rfl,rfl⟩,hw.s [1,0,2]⟩
  exact ln (W.seq (W.condF rfl (W.exit (E.thenX (E.KLX (E.blockX (E.jJ ⟨gl18,gq19,gl20,gq21,rfl,rfl,h⟩ (sI [0,1,2,3,4,5,7,8]))))))))
 rintro _ _ ⟨gl13,gq14,gl15,gq16,rfl,rfl,h⟩
 rw [qgp] at h
 refine W.seq (sr (L.r 1 rfl ?_))
 obtain ⟨l22,l23,x24,e25,h⟩:=qW h
 refine L.doesP (A:=[qe gP60 gq14 gl13 [],qc gP60 gP100 gq16 gl15 []]) (M:=[qf gP70 gP88 gP100 qP70 A70 (a0.toNat :: []),.obj (gP70 a0.toNat) (List.flatten [(zr (fzr (PR gP100)) (fun _=>[]) gl5).flatten,[.int .i64 gx6],[.int .i64 gx7],[.bool gb8],[.int .i64 gx9],(zr qi (qk (qP70 a0.toNat) 2) gl10).flatten,[(gv (qP70 a0.toNat) 0)],[(gv (qP70 a0.toNat) 1)]]) 70,.ss (zs sd0 (fun _=>[]) gl5),.ss (zs (qq 79 2 TVersion.row) (qk (qP70 a0.toNat) 2) gl10),.sl (gv (qP70 a0.toNat) 0) 84 1 (gl11.map (PR gP88)),.sl (gv (qP70 a0.toNat) 1) 84 1 (gl12.map (PR gP88))]) rfl qkj rfl (fun w' hw=>W28 x5 gl13 gl15 gP60 gP100 gq14 gq16 w' _ e25 _ hw.lend) ?_
 rintro _ _ ⟨q26,q27,rfl,rfl⟩
 refine L.to (D:=Cls w F [qe gP60 q26 l22 [],qc gP60 gP100 q27 l23 [],qf gP70 gP88 gP100 qP70 A70 (a0.toNat :: []),.obj (gP70 a0.toNat) (List.flatten [(zr (fzr (PR gP100)) (fun _=>[]) gl5).flatten,[.int .i64 gx6],[.int .i64 gx7],[.bool gb8],[.int .i64 gx9],(zr qi (qk (qP70 a0.toNat) 2) gl10).flatten,[(gv (qP70 a0.toNat) 0)],[(gv (qP70 a0.toNat) 1)]]) 70,.ss (zs sd0 (fun _=>[]) gl5),.ss (zs (qq 79 2 TVersion.row) (qk (qP70 a0.toNat) 2) gl10),.sl (gv (qP70 a0.toNat) 0) 84 1 (gl11.map (PR gP88)),.sl (gv (qP70 a0.toNat) 1) 84 1 (gl12.map (PR gP88))]) hI (L.r 1 rfl (nsr (L.r 1 rfl (L.ite h rfl (Y.neq rfl rfl) (fun c28 h=>?_) (fun c28 h=>?_)))))
 ·refine ln (W.condT rfl (sr (L.r 2 rfl (L.to (D:=Cls w F [qe gP60 q26 l22 [],qc gP60 gP100 q27 l23 [],qf gP70 gP88 gP100 qP70 A70 (a0.toNat :: []),.obj (gP70 a0.toNat) (List.flatten [(zr (fzr (PR gP100)) (fun _=>[]) gl5).flatten,[.int .i64 gx6],[.int .i64 gx7],[.bool gb8],[.int .i64 gx9],(zr qi (qk ([(gv (qP70 a0.toNat) 0),(gv (qP70 a0.toNat) 1)]++ghl (qk (qP70 a0.toNat) 2) gl10.length) 2) gl10).flatten,[(gv (qP70 a0.toNat) 0)],[(gv (qP70 a0.toNat) 1)]]) 70,.ss (zs sd0 (fun _=>[]) gl5),.ss (zs (qq 79 2 TVersion.row) (qk ([(gv (qP70 a0.toNat) 0),(gv (qP70 a0.toNat) 1)]++ghl (qk (qP70 a0.toNat) 2) gl10.length) 2) gl10),.sl (gv (qP70 a0.toNat) 0) 84 1 (gl11.map (PR gP88)),.sl (gv (qP70 a0.toNat) 1) 84 1 (gl12.map (PR gP88))]) (fun _ hw=>by rw [zK [(gv (qP70 a0.toNat) 0),(gv (qP70 a0.toNat) 1)] _ 2 _ rfl,zJ [(gv (qP70 a0.toNat) 0),(gv (qP70 a0.toNat) 1)] _ 2 _ rfl];exact hw) ?_))))
  obtain ⟨l30,el30,h⟩:=qd h
  refine L.arClose (row:=TStore.rowA gP88 gP100) (sub:=TStore.subA gP88 gP100) (e:=70) (g:=gP70) (gh:=qP70) (vs':=([(gv (qP70 a0.toNat) 0),(gv (qP70 a0.toNat) 1)]++ghl (qk (qP70 a0.toNat) 2) gl10.length)) (hs:=[]) (hs':=(a0.toNat :: [])) (m':=[qe gP60 q26 l22 [],qc gP60 gP100 q27 l23 []]) [3,6,7,4,5,2,0,1] el30 (by decide) rfl (fun _=>List.mem_cons) List.not_mem_nil ?_
  intro q29
  refine L.to (D:=Cls w F [qf gP70 gP88 gP100 q29 l30 [],qe gP60 q26 l22 [],qc gP60 gP100 q27 l23 []]) hI ?_
  obtain ⟨l31,x32,e33,h⟩:=qB h
  refine L.doesP (A:=[qf gP70 gP88 gP100 q29 l30 []]) (M:=[qe gP60 q26 l22 [],qc gP60 gP100 q27 l23 []]) rfl kz rfl (fun w' hw=>W25 a0 x24 l30 gP70 gP88 gP100 q29 w' _ e33 _ hw.lend) ?_
  rintro _ _ ⟨q34,rfl,rfl⟩
  refine L.to (D:=Cls w F [qf gP70 gP88 gP100 q34 l31 [],qe gP60 q26 l22 [],qc gP60 gP100 q27 l23 []]) hI ?_
  obtain ⟨th35,eth35,h⟩:=qd h
  refine L.to (D:=Cls w F [.obj (gP70 a0.toNat) (List.flatten [(zr (fzr (PR gP100)) (fun _=>[]) th35.logs_).flatten,[.int .i64 th35.half_],[.int .i64 th35.gen_],[.bool th35.down_],[.int .i64 th35.now_],(zr qi (qk (q34 a0.toNat) 2) th35.items_).flatten,[(gv (q34 a0.toNat) 0)],[(gv (q34 a0.toNat) 1)]]) 70,.sl (gv (q34 a0.toNat) 0) 84 1 (th35.active_.map (PR gP88)),.sl (gv (q34 a0.toNat) 1) 84 1 (th35.over_.map (PR gP88)),.ss (zs sd0 (fun _=>[]) th35.logs_),.ss (zs (qq 79 2 TVersion.row) (qk (q34 a0.toNat) 2) th35.items_),qf gP70 gP88 gP100 q34 l31 (a0.toNat :: []),qe gP60 q26 l22 [],qc gP60 gP100 q27 l23 []]) (fun _ hw=>hw.arOpen (p:=0) rfl eth35 List.not_mem_nil) (L.r 1 rfl (ln (W.ret (E.thenR (E.to (D:=Cls w F [qf gP70 gP88 gP100 q34 l31 [],qe gP60 q26 l22 [],qc gP60 gP100 q27 l23 []]) (fun _ hw=>hw.arShut (hs':=(a0.toNat :: [])) [0,1,2,3,4,5,6,7] eth35 (by decide) rfl (fun _=>List.mem_cons) List.not_mem_nil) (E.ret1 rfl rfl (fun w1 hw=>?_)))))))
  cases h
  exact ⟨_,_,rfl,⟨_,_,_,rfl,rfl⟩,hw.s [1,0,2]⟩
 refine ln (W.condF rfl (W.skip (E.thenN (W.seq (W.drawn2 (k:=18) (stC [[14]] [Cls w F [qe gP60 q26 l22 [],qc gP60 gP100 q27 l23 [],qf gP70 gP88 gP100 qP70 A70 (a0.toNat :: []),.obj (gP70 a0.toNat) (List.flatten [(zr (fzr (PR gP100)) (fun _=>[]) gl5).flatten,[.int .i64 gx6],[.int .i64 gx7],[.bool gb8],[.int .i64 gx9],(zr qi (qk (qP70 a0.toNat) 2) gl10).flatten,[(gv (qP70 a0.toNat) 0)],[(gv (qP70 a0.toNat) 1)]]) 70,.ss (zs sd0 (fun _=>[]) gl5),.ss (zs (qq 79 2 TVersion.row) (qk (qP70 a0.toNat) 2) gl10),.sl (gv (qP70 a0.toNat) 0) 84 1 (gl11.map (PR gP88)),.sl (gv (qP70 a0.toNat) 1) 84 1 (gl12.map (PR gP88))]] (Cls w F [qe gP60 q26 l22 [],qc gP60 gP100 q27 l23 [],qf gP70 gP88 gP100 qP70 A70 (a0.toNat :: []),.ss (zs sd0 (fun _=>[]) gl5),.ss (zs (qq 79 2 TVersion.row) (qk (qP70 a0.toNat) 2) gl10),.sl (gv (qP70 a0.toNat) 0) 84 1 (gl11.map (PR gP88)),.sl (gv (qP70 a0.toNat) 1) 84 1 (gl12.map (PR gP88))])) rfl mixed (fun _ hw=>hw.drew) (Sc.now (by kernel_rfl) hI) (V2.zz [] (Zc.on' (Zc.fin hI) (sI [0,1,2,4,5,6,7])) (fun hz40=>(V2.r [0,1,2] (by kernel_rfl) rfl (V2.apNil (i:=3) (Nx2.of [] (by kernel_rfl) rfl hz40) rfl rfl rfl hu4 (V2.q 4 [] hz40 rfl rfl (Y.fieldP vb rfl) (V2.zz [14] (Zc.at1 hI) (fun hz41=>?_))))))))))))
 obtain ⟨_,qer,h⟩:=qd h
 obtain ⟨_,qer⟩:=qh qer
 refine V2.q 5 [14] hz41 rfl rfl (Y.loadG (q:=3) (si:=1) (ps:=2) (j:=0) (X:=[.int .i64 gx6]) ag3 rfl rfl rfl rfl (sl1 (a:=2) (p:=0) (zrN (nn:=2) (k:=1) (fun _ _=>rfl) qer) sl0) rfl) (V2.m (i:=6) (V':=fun x43=>.int .i64 x43) h (Nx2.of [] (by kernel_rfl) rfl hz40) rfl rfl rfl (Y.subM rfl rfl) (fun x43 ex43 h=>(V2.r [7] (by kernel_rfl) rfl (V2.apNil (i:=8) (Nx2.of [] (by kernel_rfl) rfl hz40) rfl rfl rfl hu4 (V2.q 9 [] hz40 rfl rfl (Y.fieldP yZ rfl) (V2.q 10 [14] hz41 rfl rfl (Y.loadG (q:=3) (si:=2) (ps:=3) (j:=0) (X:=[.int .i64 gx7]) ag3 rfl rfl rfl rfl (sl1 (a:=2) (p:=1) (zrN (nn:=2) (k:=1) (fun _ _=>rfl) qer) (sl1 (a:=1) (p:=0) rfl sl0)) rfl) (V2.m (i:=11) (V':=fun x44=>.int .i64 x44) h (Nx2.of [] (by kernel_rfl) rfl hz40) rfl rfl rfl (Y.addM rfl rfl) (fun x44 ex44 h=>(V2.apNil (i:=12) (Nx2.of [] (by kernel_rfl) rfl hz40) rfl rfl rfl hu4 (V2.q 13 [] hz40 rfl rfl (Y.fieldP vb rfl) (V2.eff (i:=14) (by kernel_rfl) rfl (L.storeG (q:=3) (si:=1) (ps:=2) (j:=0) (X:=[.int .i64 gx6]) (vals:=[.int .i64 x43]) sz3 rfl rfl rfl rfl rfl (by simp [Value.oneCell',Value.cells,st,pt,el]) rfl rfl (sl1 (a:=2) (p:=0) (zrN (nn:=2) (k:=1) (fun _ _=>rfl) qer) sl0) rfl (L.nil (E.toV2 (stC [] [] (Cls w F [qe gP60 q26 l22 [],qc gP60 gP100 q27 l23 [],qf gP70 gP88 gP100 qP70 A70 (a0.toNat :: []),.ss (zs sd0 (fun _=>[]) gl5),.ss (zs (qq 79 2 TVersion.row) (qk (qP70 a0.toNat) 2) gl10),.sl (gv (qP70 a0.toNat) 0) 84 1 (gl11.map (PR gP88)),.sl (gv (qP70 a0.toNat) 1) 84 1 (gl12.map (PR gP88))])) 14 (by kernel_rfl) (Sc.past rfl (Sc.stayD hI)) (Sc.atD (sI [0,1,2,4,5,6,7])) (V2.zz [] (Zc.fin hI) (fun hz45=>?_))))))))))))))))
 refine V2.apNil (i:=15) (Nx2.of [] (by kernel_rfl) rfl hz45) rfl rfl rfl hu4 (V2.q 16 [] hz45 rfl rfl (Y.fieldP yZ rfl) (V2.eff (i:=17) (by kernel_rfl) rfl (L.storeG (q:=3) (si:=2) (ps:=3) (j:=0) (X:=[.int .i64 gx7]) (vals:=[.int .i64 x44]) sz3 rfl rfl rfl rfl rfl (by simp [Value.oneCell',Value.cells,st,pt,el]) rfl rfl (sl1 (a:=2) (p:=1) (zrN (nn:=2) (k:=1) (fun _ _=>rfl) qer) (sl1 (a:=1) (p:=0) rfl sl0)) rfl (L.nil (E.toV2 (stC [] [] (Cls w F [qe gP60 q26 l22 [],qc gP60 gP100 q27 l23 [],qf gP70 gP88 gP100 qP70 A70 (a0.toNat :: []),.ss (zs sd0 (fun _=>[]) gl5),.ss (zs (qq 79 2 TVersion.row) (qk (qP70 a0.toNat) 2) gl10),.sl (gv (qP70 a0.toNat) 0) 84 1 (gl11.map (PR gP88)),.sl (gv (qP70 a0.toNat) 1) 84 1 (gl12.map (PR gP88))])) 17 (by kernel_rfl) (Sc.stayD hI) (Sc.atD (sI [0,1,2,4,5,6,7])) (V2.done (by kernel_rfl) (E.thenN (sr (L.r 1 rfl (ln (W.ret ?_)))))))))))
 refine E.to (D:=Cls w F [qe gP60 q26 l22 [],qc gP60 gP100 q27 l23 [],qf gP70 gP88 gP100 qP70 A70 (a0.toNat :: []),.obj (gP70 a0.toNat) (List.flatten [(zr (fzr (PR gP100)) (fun _=>[]) gl5).flatten,[.int .i64 x43],[.int .i64 x44],[.bool gb8],[.int .i64 gx9],(zr qi (qk ([(gv (qP70 a0.toNat) 0),(gv (qP70 a0.toNat) 1)]++ghl (qk (qP70 a0.toNat) 2) gl10.length) 2) gl10).flatten,[(gv (qP70 a0.toNat) 0)],[(gv (qP70 a0.toNat) 1)]]) 70,.ss (zs sd0 (fun _=>[]) gl5),.ss (zs (qq 79 2 TVersion.row) (qk ([(gv (qP70 a0.toNat) 0),(gv (qP70 a0.toNat) 1)]++ghl (qk (qP70 a0.toNat) 2) gl10.length) 2) gl10),.sl (gv (qP70 a0.toNat) 0) 84 1 (gl11.map (PR gP88)),.sl (gv (qP70 a0.toNat) 1) 84 1 (gl12.map (PR gP88))]) (fun _ hw=>by rw [zK [(gv (qP70 a0.toNat) 0),(gv (qP70 a0.toNat) 1)] _ 2 _ rfl,zJ [(gv (qP70 a0.toNat) 0),(gv (qP70 a0.toNat) 1)] _ 2 _ rfl];exact hw) ?_
 obtain ⟨l47,el47,h⟩:=qd h
 refine E.arClose (row:=TStore.rowA gP88 gP100) (sub:=TStore.subA gP88 gP100) (e:=70) (g:=gP70) (gh:=qP70) (vs':=([(gv (qP70 a0.toNat) 0),(gv (qP70 a0.toNat) 1)]++ghl (qk (qP70 a0.toNat) 2) gl10.length)) (hs:=[]) (hs':=(a0.toNat :: [])) (m':=[qe gP60 q26 l22 [],qc gP60 gP100 q27 l23 []]) [3,6,7,4,5,2,0,1] el47 (by decide) rfl (fun _=>List.mem_cons) List.not_mem_nil ?_
 intro q46
 refine E.to (D:=Cls w F [qf gP70 gP88 gP100 q46 l47 [],qe gP60 q26 l22 [],qc gP60 gP100 q27 l23 []]) hI (E.ret1 rfl rfl (fun w1 hw=>?_))
 cases h
 exact ⟨_,_,rfl,⟨_,_,_,rfl,rfl⟩,hw.s [1,0,2]⟩
set_option maxRecDepth 100000 in
set_option maxHeartbeats 8000000 in
theorem W12 (a0:Int) (a1:Int) (A60:(List TDisk)) (gP60:Nat→Nat) (qP60:Nat→List Value) (w:World) (r:(List TDisk)) (h:M12 a0 a1 A60=some r) (F:List Nat) (hc0:Cls w F [qe gP60 qP60 A60 []] w):zg Tryz.prog 12 [VP gP60 a0,.int .i64 a1] F w fun u m=>∃ Q60,u=.tuple #[]∧m=[qe gP60 Q60 r []]:=by
 rw [M12] at h
 refine body (n:=9) Tryz.func12 rfl rfl rfl hc0 (W.region (L.r 2 rfl (L.y rfl (Y.max2 rfl rfl) ?_)))
 obtain ⟨th1,eth1,h⟩:=qd h
 refine L.to (D:=Cls w F [.obj (gP60 a0.toNat) [(gv (qP60 a0.toNat) 0),(gv (qP60 a0.toNat) 1),(gv (qP60 a0.toNat) 2),.int .i64 th1.left_] 60,.sl (gv (qP60 a0.toNat) 0) 9 1 (th1.safe_.map SR),.sl (gv (qP60 a0.toNat) 1) 9 1 (th1.seen_.map SR),.sl (gv (qP60 a0.toNat) 2) 62 2 (th1.late_.map Twrite.row),qe gP60 qP60 A60 (a0.toNat :: [])]) (fun _ hw=>hw.arOpen (p:=0) rfl eth1 List.not_mem_nil) (L.y rfl (Y.apNil rfl eth1) (L.y rfl (Y.fieldP vc rfl) (L.store (i:=0) (vs:=[.int .i64 (max a1 (-1))]) sz3 rfl rfl rfl rfl (by simp [Value.oneCell',Value.cells,st,pt,el]) rfl nb (L.nil ?_))))
 obtain ⟨l2,el2,h⟩:=qd h
 refine E.arClose (row:=TDisk.rowA) (sub:=TDisk.subA) (e:=60) (g:=gP60) (gh:=qP60) (vs':=[(gv (qP60 a0.toNat) 0),(gv (qP60 a0.toNat) 1),(gv (qP60 a0.toNat) 2)]) (hs:=[]) (hs':=(a0.toNat :: [])) (m':=[]) [0,1,2,3,4] el2 (by decide) rfl (fun _=>List.mem_cons) List.not_mem_nil ?_
 intro q3
 refine E.to (D:=Cls w F [qe gP60 q3 l2 []]) hI (E.end0 rfl (fun w1 hw=>?_))
 cases h
 exact ⟨_,_,rfl,⟨_,rfl,rfl⟩,hw⟩
end Go.Proofs.YtbjidacdnjojnaaGreatDoor
