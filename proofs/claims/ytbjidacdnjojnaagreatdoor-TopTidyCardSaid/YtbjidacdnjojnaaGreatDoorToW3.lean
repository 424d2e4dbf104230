import Derived.Test.YtbjidacdnjojnaaGreatDoorToW2
import Derived.Test.YtbjidacdnjojnaaGreatDoorChecked
import Derived.KernelRfl
import Derived.Test.YtbjidacdnjojnaaGreatDoorZe
namespace Go.Proofs.YtbjidacdnjojnaaGreatDoor
open Go.S
set_option linter.unusedVariables false
set_option linter.unusedSimpArgs false
set_option maxRecDepth 100000 in
set_option maxHeartbeats 8000000 in
theorem W32 (a0:Int) (a1:Int) (A70:(List TStore)) (A88:(List Ttx)) (gP70:Nat→Nat) (gP88:Nat→Nat) (gP100:Nat→Nat) (qP70:Nat→List Value) (qP88:Nat→List Value) (w:World) (r:((List Int)×(List Int)×Bool)) (h:M32 a0 a1 A70 A88=some r) (F:List Nat) (hc0:Cls w F [qf gP70 gP88 gP100 qP70 A70 [],qj gP88 qP88 A88 []] w):zg Tryz.prog 32 [VP gP70 a0,VP gP88 a1] F w fun u m=>∃ v0 v1,u=.tuple #[v0,v1,.bool r.2.2]∧m=[qf gP70 gP88 gP100 qP70 A70 [],qj gP88 qP88 A88 [],.sl v0 84 1 (r.1.map (PR gP88)),.sl v1 84 1 (r.2.1.map (PR gP88))]:=by
 rw [M32] at h
 refine body (n:=105) Tryz.func32 rfl rfl rfl hc0 ?_
 obtain ⟨th1,eth1,h⟩:=qd h
 refine W.to (D:=Cls w F [.obj (gP70 a0.toNat) (List.flatten [(zr (fzr (PR gP100)) (fun _=>[]) th1.logs_).flatten,[.int .i64 th1.half_],[.int .i64 th1.gen_],[.bool th1.down_],[.int .i64 th1.now_],(zr qi (qk (qP70 a0.toNat) 2) th1.items_).flatten,[(gv (qP70 a0.toNat) 0)],[(gv (qP70 a0.toNat) 1)]]) 70,.sl (gv (qP70 a0.toNat) 0) 84 1 (th1.active_.map (PR gP88)),.sl (gv (qP70 a0.toNat) 1) 84 1 (th1.over_.map (PR gP88)),.ss (zs sd0 (fun _=>[]) th1.logs_),.ss (zs (qq 79 2 TVersion.row) (qk (qP70 a0.toNat) 2) th1.items_),qf gP70 gP88 gP100 qP70 A70 (a0.toNat :: []),qj gP88 qP88 A88 []]) (fun _ hw=>hw.arOpen (p:=0) rfl eth1 List.not_mem_nil) (sr (L.r 3 rfl (nsr (L.r 2 rfl (ln (W.seqJ (fun gs D=>∃ gv1 gl2 gv3 gl4 gb5 gb6,gs=[(4,gv1),(5,gv3),(7,.bool gb5),(8,.bool gb6)]∧D=Cls w F [qf gP70 gP88 gP100 qP70 A70 (a0.toNat :: []),qj gP88 qP88 A88 [],.obj (gP70 a0.toNat) (List.flatten [(zr (fzr (PR gP100)) (fun _=>[]) th1.logs_).flatten,[.int .i64 th1.half_],[.int .i64 th1.gen_],[.bool th1.down_],[.int .i64 th1.now_],(zr qi (qk (qP70 a0.toNat) 2) th1.items_).flatten,[(gv (qP70 a0.toNat) 0)],[(gv (qP70 a0.toNat) 1)]]) 70,.ss (zs sd0 (fun _=>[]) th1.logs_),.ss (zs (qq 79 2 TVersion.row) (qk (qP70 a0.toNat) 2) th1.items_),.sl gv1 84 1 (gl2.map (PR gP88)),.sl gv3 84 1 (gl4.map (PR gP88)),.sl (gv (qP70 a0.toNat) 0) 84 1 (th1.active_.map (PR gP88)),.sl (gv (qP70 a0.toNat) 1) 84 1 (th1.over_.map (PR gP88))]∧qgk gl2 gl4 gb5 gb6=some r) ?_ ?_))))))
 ·refine sr (L.r 1 rfl (L.y rfl (Y.apNil rfl eth1) (L.y rfl (Y.fieldP yY rfl) ?_)))
  obtain ⟨_,en3,h⟩:=qd h
  obtain ⟨_,en3⟩:=qh en3
  obtain ⟨_,en4,h⟩:=qd h
  obtain ⟨_,en4⟩:=qh en4
  refine L.y rfl (Y.loadG (q:=0) (si:=7) (ps:=27) (j:=0) (X:=[(gv (qP70 a0.toNat) 1)]) qgY rfl rfl rfl rfl (sl1 (a:=2) (p:=25) (zrN (nn:=2) (k:=1) (fun _ _=>rfl) en3) (sl1 (a:=1) (p:=24) rfl (sl1 (a:=1) (p:=23) rfl (sl1 (a:=1) (p:=22) rfl (sl1 (a:=1) (p:=21) rfl (sl1 (a:=20) (p:=1) (zrN (nn:=20) (k:=1) (fun _ _=>rfl) en4) (sl1 (a:=1) (p:=0) rfl sl0))))))) rfl) (L.y rfl (Y.lenM (g:=(PR gP88)) (l:=th1.over_) Tryz.underlying68 rfl (fun w hw=>As.at_ (hw.get (i:=2) rfl))) (L.r 1 rfl (ln (W.block (W.nilSl 84 1 (W.nilSl 84 1 (W.loopJ (fun m gs D=>∃ gv7 gl8 gv9 gl10 gb11 gb12 gx13,gs=[(1,VP gP88 a1),(4,gv7),(5,gv9),(7,.bool gb11),(8,.bool gb12),(16,(gv (qP70 a0.toNat) 1)),(17,.int .i64 (th1.over_.length:Int)),(18,.int .i64 gx13)]∧D=Cls w F [qf gP70 gP88 gP100 qP70 A70 (a0.toNat :: []),qj gP88 qP88 A88 [],.obj (gP70 a0.toNat) (List.flatten [(zr (fzr (PR gP100)) (fun _=>[]) th1.logs_).flatten,[.int .i64 th1.half_],[.int .i64 th1.gen_],[.bool th1.down_],[.int .i64 th1.now_],(zr qi (qk (qP70 a0.toNat) 2) th1.items_).flatten,[(gv (qP70 a0.toNat) 0)],[(gv (qP70 a0.toNat) 1)]]) 70,.ss (zs sd0 (fun _=>[]) th1.logs_),.ss (zs (qq 79 2 TVersion.row) (qk (qP70 a0.toNat) 2) th1.items_),.sl gv7 84 1 (gl8.map (PR gP88)),.sl gv9 84 1 (gl10.map (PR gP88)),.sl (gv (qP70 a0.toNat) 1) 84 1 (th1.over_.map (PR gP88)),.sl (gv (qP70 a0.toNat) 0) 84 1 (th1.active_.map (PR gP88))]∧jd th1 A88 a1 m gl8 gl10 gb11 gb12 gx13=some r) ⟨.slice none 0 0,[],.slice none 0 0,[],false,false,0,rfl,rfl,h⟩ ⟨rfl,rfl,rfl,rfl,rfl,rfl,rfl,rfl,trivial⟩ (sI [7,8,2,5,6,1,0,4,3]) ?_)))))))
  rintro m _ _ ⟨gv7,gl8,gv9,gl10,gb11,gb12,gx13,rfl,rfl,h⟩
  rcases m with _ | m
  ·rw [jd] at h;cases h
  rw [jd] at h
  generalize hg1:jd th1 A88 a1 m=go1 at h
  rw [qb7] at h
  refine sr (L.ite h rfl (Y.lss rfl rfl) (fun c5 h=>?_) (fun c5 h=>?_))
  ·refine ln (W.seq (W.condT rfl (W.skip (E.thenN (W.seq (W.block (sr (L.m (V:=fun _=>el (gv (qP70 a0.toNat) 1) (gx13.toNat*1)) h rfl (Y.indexM (g:=(PR gP88)) (l:=th1.over_) Tryz.underlying68 yn rfl rfl (fun w hw=>As.at_ (hw.get (i:=7) rfl))) (fun x6 ex6 h=>(L.y rfl (Y.loadE1 (u:=VP gP88 x6) qdd rfl (fun w hw=>As.at_ (hw.get (i:=7) rfl)) (qx ex6)) (L.r 1 rfl (L.nil ?_))))))))))))
   refine E.thenN (W.seq (W.seq ?_))
   obtain ⟨th7,eth7,h⟩:=qd h
   refine W.to (D:=Cls w F [.obj (gP88 x6.toNat) (List.flatten [[.int .i64 th7.id_],[.int .i64 th7.from_],[.int .i64 th7.at_],[(gv (qP88 x6.toNat) 0)],[(gv (qP88 x6.toNat) 1)],(zr (fzr SR) (fun _=>[]) th7.texts_).flatten,[.bool th7.in_],[.bool th7.out_]]) 88,.sl (gv (qP88 x6.toNat) 0) 3 1 (th7.reads_.map I),.sl (gv (qP88 x6.toNat) 1) 3 1 (th7.writes_.map I),.ss (zs sd0 (fun _=>[]) th7.texts_),qj gP88 qP88 A88 (x6.toNat :: []),qf gP70 gP88 gP100 qP70 A70 (a0.toNat :: []),.obj (gP70 a0.toNat) (List.flatten [(zr (fzr (PR gP100)) (fun _=>[]) th1.logs_).flatten,[.int .i64 th1.half_],[.int .i64 th1.gen_],[.bool th1.down_],[.int .i64 th1.now_],(zr qi (qk (qP70 a0.toNat) 2) th1.items_).flatten,[(gv (qP70 a0.toNat) 0)],[(gv (qP70 a0.toNat) 1)]]) 70,.ss (zs sd0 (fun _=>[]) th1.logs_),.ss (zs (qq 79 2 TVersion.row) (qk (qP70 a0.toNat) 2) th1.items_),.sl gv7 84 1 (gl8.map (PR gP88)),.sl gv9 84 1 (gl10.map (PR gP88)),.sl (gv (qP70 a0.toNat) 1) 84 1 (th1.over_.map (PR gP88)),.sl (gv (qP70 a0.toNat) 0) 84 1 (th1.active_.map (PR gP88))]) (fun _ hw=>hw.arOpen (p:=1) rfl eth7 List.not_mem_nil) ?_
   obtain ⟨th8,eth8,h⟩:=qd h
   obtain ⟨_,c9,h⟩:=qd h
   refine W.to (D:=Cls w F [.obj (gP88 a1.toNat) (List.flatten [[.int .i64 th8.id_],[.int .i64 th8.from_],[.int .i64 th8.at_],[(gv (qP88 a1.toNat) 0)],[(gv (qP88 a1.toNat) 1)],(zr (fzr SR) (fun _=>[]) th8.texts_).flatten,[.bool th8.in_],[.bool th8.out_]]) 88,.sl (gv (qP88 a1.toNat) 0) 3 1 (th8.reads_.map I),.sl (gv (qP88 a1.toNat) 1) 3 1 (th8.writes_.map I),.ss (zs sd0 (fun _=>[]) th8.texts_),qj gP88 qP88 A88 (a1.toNat :: x6.toNat :: []),.obj (gP88 x6.toNat) (List.flatten [[.int .i64 th7.id_],[.int .i64 th7.from_],[.int .i64 th7.at_],[(gv (qP88 x6.toNat) 0)],[(gv (qP88 x6.toNat) 1)],(zr (fzr SR) (fun _=>[]) th7.texts_).flatten,[.bool th7.in_],[.bool th7.out_]]) 88,.sl (gv (qP88 x6.toNat) 0) 3 1 (th7.reads_.map I),.sl (gv (qP88 x6.toNat) 1) 3 1 (th7.writes_.map I),.ss (zs sd0 (fun _=>[]) th7.texts_),qf gP70 gP88 gP100 qP70 A70 (a0.toNat :: []),.obj (gP70 a0.toNat) (List.flatten [(zr (fzr (PR gP100)) (fun _=>[]) th1.logs_).flatten,[.int .i64 th1.half_],[.int .i64 th1.gen_],[.bool th1.down_],[.int .i64 th1.now_],(zr qi (qk (qP70 a0.toNat) 2) th1.items_).flatten,[(gv (qP70 a0.toNat) 0)],[(gv (qP70 a0.toNat) 1)]]) 70,.ss (zs sd0 (fun _=>[]) th1.logs_),.ss (zs (qq 79 2 TVersion.row) (qk (qP70 a0.toNat) 2) th1.items_),.sl gv7 84 1 (gl8.map (PR gP88)),.sl gv9 84 1 (gl10.map (PR gP88)),.sl (gv (qP70 a0.toNat) 1) 84 1 (th1.over_.map (PR gP88)),.sl (gv (qP70 a0.toNat) 0) 84 1 (th1.active_.map (PR gP88))]) (fun _ hw=>hw.arOpen (p:=4) rfl eth8 (qe4 (qH c9) eth8 eth7 List.not_mem_nil)) (W.quietC mixed (by kernel_rfl) (fun _ hw=>hw.drew) (fun hC=>(U.r 1 rfl (U.y rfl (Y.apNil rfl eth7) (U.y rfl (Y.fieldP qbs rfl) (U.y rfl (Y.loadG (q:=5) (si:=2) (ps:=2) (j:=0) (X:=[.int .i64 th7.at_]) ag3 rfl rfl rfl rfl (sl1 (a:=1) (p:=1) rfl (sl1 (a:=1) (p:=0) rfl sl0)) rfl) (U.r 1 rfl (U.y rfl (Y.apNil rfl eth8) (U.y rfl (Y.fieldP qbt rfl) (U.y rfl (Y.loadG (q:=0) (si:=1) (ps:=1) (j:=0) (X:=[.int .i64 th8.from_]) ag3 rfl rfl rfl rfl (sl1 (a:=1) (p:=0) rfl sl0) rfl) (U.ite h rfl (Y.leq rfl rfl) (fun c10 h=>?_) (fun c10 h=>?_))))))))))))
   ·exact U.nil (E.thenN (W.condT rfl (W.exit (E.thenX (E.blockX (E.thenN (W.region (L.m (V:=fun x11=>.int .i64 x11) h rfl (Y.addM rfl rfl) (fun x11 ex11 h=>(L.r 1 rfl (L.nil (E.to (D:=Cls w F [qj gP88 qP88 A88 (x6.toNat :: []),.obj (gP88 x6.toNat) (List.flatten [[.int .i64 th7.id_],[.int .i64 th7.from_],[.int .i64 th7.at_],[(gv (qP88 x6.toNat) 0)],[(gv (qP88 x6.toNat) 1)],(zr (fzr SR) (fun _=>[]) th7.texts_).flatten,[.bool th7.in_],[.bool th7.out_]]) 88,.sl (gv (qP88 x6.toNat) 0) 3 1 (th7.reads_.map I),.sl (gv (qP88 x6.toNat) 1) 3 1 (th7.writes_.map I),.ss (zs sd0 (fun _=>[]) th7.texts_),qf gP70 gP88 gP100 qP70 A70 (a0.toNat :: []),.obj (gP70 a0.toNat) (List.flatten [(zr (fzr (PR gP100)) (fun _=>[]) th1.logs_).flatten,[.int .i64 th1.half_],[.int .i64 th1.gen_],[.bool th1.down_],[.int .i64 th1.now_],(zr qi (qk (qP70 a0.toNat) 2) th1.items_).flatten,[(gv (qP70 a0.toNat) 0)],[(gv (qP70 a0.toNat) 1)]]) 70,.ss (zs sd0 (fun _=>[]) th1.logs_),.ss (zs (qq 79 2 TVersion.row) (qk (qP70 a0.toNat) 2) th1.items_),.sl gv7 84 1 (gl8.map (PR gP88)),.sl gv9 84 1 (gl10.map (PR gP88)),.sl (gv (qP70 a0.toNat) 1) 84 1 (th1.over_.map (PR gP88)),.sl (gv (qP70 a0.toNat) 0) 84 1 (th1.active_.map (PR gP88))]) (fun _ hw=>hw.arShut (hs':=(a1.toNat :: x6.toNat :: [])) [0,1,2,3,4,5,6,7,8,9,10,11,12,13,14,15,16] eth8 (by decide) rfl (fun _=>List.mem_cons) (qe4 (qH c9) eth8 eth7 List.not_mem_nil)) (E.to (D:=Cls w F [qj gP88 qP88 A88 [],qf gP70 gP88 gP100 qP70 A70 (a0.toNat :: []),.obj (gP70 a0.toNat) (List.flatten [(zr (fzr (PR gP100)) (fun _=>[]) th1.logs_).flatten,[.int .i64 th1.half_],[.int .i64 th1.gen_],[.bool th1.down_],[.int .i64 th1.now_],(zr qi (qk (qP70 a0.toNat) 2) th1.items_).flatten,[(gv (qP70 a0.toNat) 0)],[(gv (qP70 a0.toNat) 1)]]) 70,.ss (zs sd0 (fun _=>[]) th1.logs_),.ss (zs (qq 79 2 TVersion.row) (qk (qP70 a0.toNat) 2) th1.items_),.sl gv7 84 1 (gl8.map (PR gP88)),.sl gv9 84 1 (gl10.map (PR gP88)),.sl (gv (qP70 a0.toNat) 1) 84 1 (th1.over_.map (PR gP88)),.sl (gv (qP70 a0.toNat) 0) 84 1 (th1.active_.map (PR gP88))]) (fun _ hw=>hw.arShut (hs':=(x6.toNat :: [])) [1,2,3,4,0,5,6,7,8,9,10,11,12] eth7 (by decide) rfl (fun _=>List.mem_cons) List.not_mem_nil) (E.aJ ⟨gv7,gl8,gv9,gl10,gb11,gb12,x11,rfl,rfl,by rw [hg1];exact h⟩ (sI [1,0,2,3,4,5,6,7,8])))))))))))))))
   refine U.nil (E.thenN (W.condF rfl (W.skip (E.thenN (W.seqJ (fun gs D=>∃ gb14 gb15,gs=[(1,VP gP88 a1),(4,gv7),(5,gv9),(7,.bool gb11),(8,.bool gb12),(10,VP gP88 x6),(11,.bool gb14),(12,.bool gb15),(16,(gv (qP70 a0.toNat) 1)),(17,.int .i64 (th1.over_.length:Int)),(18,.int .i64 gx13)]∧D=Cls w F [qj gP88 qP88 A88 [],qf gP70 gP88 gP100 qP70 A70 (a0.toNat :: []),.obj (gP70 a0.toNat) (List.flatten [(zr (fzr (PR gP100)) (fun _=>[]) th1.logs_).flatten,[.int .i64 th1.half_],[.int .i64 th1.gen_],[.bool th1.down_],[.int .i64 th1.now_],(zr qi (qk (qP70 a0.toNat) 2) th1.items_).flatten,[(gv (qP70 a0.toNat) 0)],[(gv (qP70 a0.toNat) 1)]]) 70,.ss (zs sd0 (fun _=>[]) th1.logs_),.ss (zs (qq 79 2 TVersion.row) (qk (qP70 a0.toNat) 2) th1.items_),.sl gv7 84 1 (gl8.map (PR gP88)),.sl gv9 84 1 (gl10.map (PR gP88)),.sl (gv (qP70 a0.toNat) 1) 84 1 (th1.over_.map (PR gP88)),.sl (gv (qP70 a0.toNat) 0) 84 1 (th1.active_.map (PR gP88))]∧qag A88 a1 x6 gl8 gl10 gb12 gb11 gx13 go1 gb14 gb15=some r) ?_ ?_)))))
   ·refine W.quietC mixed (by kernel_rfl) (fun _ hw=>hw.drew) (fun hC=>(U.r 1 rfl (U.y rfl (Y.apNil rfl eth8) (U.y rfl (Y.fieldP vO rfl) (U.y rfl (Y.loadG (q:=0) (si:=3) (ps:=3) (j:=0) (X:=[(gv (qP88 a1.toNat) 0)]) qab rfl rfl rfl rfl (sl1 (a:=1) (p:=2) rfl (sl1 (a:=1) (p:=1) rfl (sl1 (a:=1) (p:=0) rfl sl0))) rfl) (U.r 1 rfl (U.y rfl (Y.apNil rfl eth7) (U.y rfl (Y.fieldP xm rfl) (U.y rfl (Y.loadG (q:=5) (si:=4) (ps:=4) (j:=0) (X:=[(gv (qP88 x6.toNat) 1)]) qab rfl rfl rfl rfl (sl1 (a:=1) (p:=3) rfl (sl1 (a:=1) (p:=2) rfl (sl1 (a:=1) (p:=1) rfl (sl1 (a:=1) (p:=0) rfl sl0)))) rfl) ?_)))))))))
    obtain ⟨b41,e42,h⟩:=qd h
    refine U.y rfl (Y.does qjp rfl (fun w' hw=>(W52 th8.reads_ th7.writes_ (gv (qP88 a1.toNat) 0) (gv (qP88 x6.toNat) 1) w' _ e42 (As.at_ (hw.get (i:=1) rfl)) (As.at_ (hw.get (i:=7) rfl))).mono (fun _ _ h=>h.1))) ?_
    rcases b41 with _ | _
    ·replace h:=zZ h
     refine U.r 1 rfl (U.y rfl (Y.apNil rfl eth7) (U.y rfl (Y.fieldP vO rfl) (U.y rfl (Y.loadG (q:=5) (si:=3) (ps:=3) (j:=0) (X:=[(gv (qP88 x6.toNat) 0)]) qab rfl rfl rfl rfl (sl1 (a:=1) (p:=2) rfl (sl1 (a:=1) (p:=1) rfl (sl1 (a:=1) (p:=0) rfl sl0))) rfl) (U.r 1 rfl (U.y rfl (Y.apNil rfl eth8) (U.y rfl (Y.fieldP xm rfl) (U.y rfl (Y.loadG (q:=0) (si:=4) (ps:=4) (j:=0) (X:=[(gv (qP88 a1.toNat) 1)]) qab rfl rfl rfl rfl (sl1 (a:=1) (p:=3) rfl (sl1 (a:=1) (p:=2) rfl (sl1 (a:=1) (p:=1) rfl (sl1 (a:=1) (p:=0) rfl sl0)))) rfl) ?_)))))))
     obtain ⟨b43,e44,h⟩:=qd h
     refine U.y rfl (Y.does qjp rfl (fun w' hw=>(W52 th7.reads_ th8.writes_ (gv (qP88 x6.toNat) 0) (gv (qP88 a1.toNat) 1) w' _ e44 (As.at_ (hw.get (i:=6) rfl)) (As.at_ (hw.get (i:=2) rfl))).mono (fun _ _ h=>h.1))) ?_
     rcases b43 with _ | _
     ·replace h:=zZ h
      exact U.r 2 rfl (U.nil (E.to (D:=Cls w F [qj gP88 qP88 A88 (x6.toNat :: []),.obj (gP88 x6.toNat) (List.flatten [[.int .i64 th7.id_],[.int .i64 th7.from_],[.int .i64 th7.at_],[(gv (qP88 x6.toNat) 0)],[(gv (qP88 x6.toNat) 1)],(zr (fzr SR) (fun _=>[]) th7.texts_).flatten,[.bool th7.in_],[.bool th7.out_]]) 88,.sl (gv (qP88 x6.toNat) 0) 3 1 (th7.reads_.map I),.sl (gv (qP88 x6.toNat) 1) 3 1 (th7.writes_.map I),.ss (zs sd0 (fun _=>[]) th7.texts_),qf gP70 gP88 gP100 qP70 A70 (a0.toNat :: []),.obj (gP70 a0.toNat) (List.flatten [(zr (fzr (PR gP100)) (fun _=>[]) th1.logs_).flatten,[.int .i64 th1.half_],[.int .i64 th1.gen_],[.bool th1.down_],[.int .i64 th1.now_],(zr qi (qk (qP70 a0.toNat) 2) th1.items_).flatten,[(gv (qP70 a0.toNat) 0)],[(gv (qP70 a0.toNat) 1)]]) 70,.ss (zs sd0 (fun _=>[]) th1.logs_),.ss (zs (qq 79 2 TVersion.row) (qk (qP70 a0.toNat) 2) th1.items_),.sl gv7 84 1 (gl8.map (PR gP88)),.sl gv9 84 1 (gl10.map (PR gP88)),.sl (gv (qP70 a0.toNat) 1) 84 1 (th1.over_.map (PR gP88)),.sl (gv (qP70 a0.toNat) 0) 84 1 (th1.active_.map (PR gP88))]) (fun _ hw=>hw.arShut (hs':=(a1.toNat :: x6.toNat :: [])) [0,1,2,3,4,5,6,7,8,9,10,11,12,13,14,15,16] eth8 (by decide) rfl (fun _=>List.mem_cons) (qe4 (qH c9) eth8 eth7 List.not_mem_nil)) (E.to (D:=Cls w F [qj gP88 qP88 A88 [],qf gP70 gP88 gP100 qP70 A70 (a0.toNat :: []),.obj (gP70 a0.toNat) (List.flatten [(zr (fzr (PR gP100)) (fun _=>[]) th1.logs_).flatten,[.int .i64 th1.half_],[.int .i64 th1.gen_],[.bool th1.down_],[.int .i64 th1.now_],(zr qi (qk (qP70 a0.toNat) 2) th1.items_).flatten,[(gv (qP70 a0.toNat) 0)],[(gv (qP70 a0.toNat) 1)]]) 70,.ss (zs sd0 (fun _=>[]) th1.logs_),.ss (zs (qq 79 2 TVersion.row) (qk (qP70 a0.toNat) 2) th1.items_),.sl gv7 84 1 (gl8.map (PR gP88)),.sl gv9 84 1 (gl10.map (PR gP88)),.sl (gv (qP70 a0.toNat) 1) 84 1 (th1.over_.map (PR gP88)),.sl (gv (qP70 a0.toNat) 0) 84 1 (th1.active_.map (PR gP88))]) (fun _ hw=>hw.arShut (hs':=(x6.toNat :: [])) [1,2,3,4,0,5,6,7,8,9,10,11,12] eth7 (by decide) rfl (fun _=>List.mem_cons) List.not_mem_nil) (E.jJ ⟨false,false,rfl,rfl,h⟩ hI))))
     replace h:=zY h
     exact U.r 2 rfl (U.nil (E.to (D:=Cls w F [qj gP88 qP88 A88 (x6.toNat :: []),.obj (gP88 x6.toNat) (List.flatten [[.int .i64 th7.id_],[.int .i64 th7.from_],[.int .i64 th7.at_],[(gv (qP88 x6.toNat) 0)],[(gv (qP88 x6.toNat) 1)],(zr (fzr SR) (fun _=>[]) th7.texts_).flatten,[.bool th7.in_],[.bool th7.out_]]) 88,.sl (gv (qP88 x6.toNat) 0) 3 1 (th7.reads_.map I),.sl (gv (qP88 x6.toNat) 1) 3 1 (th7.writes_.map I),.ss (zs sd0 (fun _=>[]) th7.texts_),qf gP70 gP88 gP100 qP70 A70 (a0.toNat :: []),.obj (gP70 a0.toNat) (List.flatten [(zr (fzr (PR gP100)) (fun _=>[]) th1.logs_).flatten,[.int .i64 th1.half_],[.int .i64 th1.gen_],[.bool th1.down_],[.int .i64 th1.now_],(zr qi (qk (qP70 a0.toNat) 2) th1.items_).flatten,[(gv (qP70 a0.toNat) 0)],[(gv (qP70 a0.toNat) 1)]]) 70,.ss (zs sd0 (fun _=>[]) th1.logs_),.ss (zs (qq 79 2 TVersion.row) (qk (qP70 a0.toNat) 2) th1.items_),.sl gv7 84 1 (gl8.map (PR gP88)),.sl gv9 84 1 (gl10.map (PR gP88)),.sl (gv (qP70 a0.toNat) 1) 84 1 (th1.over_.map (PR gP88)),.sl (gv (qP70 a0.toNat) 0) 84 1 (th1.active_.map (PR gP88))]) (fun _ hw=>hw.arShut (hs':=(a1.toNat :: x6.toNat :: [])) [0,1,2,3,4,5,6,7,8,9,10,11,12,13,14,15,16] eth8 (by decide) rfl (fun _=>List.mem_cons) (qe4 (qH c9) eth8 eth7 List.not_mem_nil)) (E.to (D:=Cls w F [qj gP88 qP88 A88 [],qf gP70 gP88 gP100 qP70 A70 (a0.toNat :: []),.obj (gP70 a0.toNat) (List.flatten [(zr (fzr (PR gP100)) (fun _=>[]) th1.logs_).flatten,[.int .i64 th1.half_],[.int .i64 th1.gen_],[.bool th1.down_],[.int .i64 th1.now_],(zr qi (qk (qP70 a0.toNat) 2) th1.items_).flatten,[(gv (qP70 a0.toNat) 0)],[(gv (qP70 a0.toNat) 1)]]) 70,.ss (zs sd0 (fun _=>[]) th1.logs_),.ss (zs (qq 79 2 TVersion.row) (qk (qP70 a0.toNat) 2) th1.items_),.sl gv7 84 1 (gl8.map (PR gP88)),.sl gv9 84 1 (gl10.map (PR gP88)),.sl (gv (qP70 a0.toNat) 1) 84 1 (th1.over_.map (PR gP88)),.sl (gv (qP70 a0.toNat) 0) 84 1 (th1.active_.map (PR gP88))]) (fun _ hw=>hw.arShut (hs':=(x6.toNat :: [])) [1,2,3,4,0,5,6,7,8,9,10,11,12] eth7 (by decide) rfl (fun _=>List.mem_cons) List.not_mem_nil) (E.jJ ⟨false,true,rfl,rfl,h⟩ hI))))
    replace h:=zY h
    refine U.r 1 rfl (U.y rfl (Y.apNil rfl eth7) (U.y rfl (Y.fieldP vO rfl) (U.y rfl (Y.loadG (q:=5) (si:=3) (ps:=3) (j:=0) (X:=[(gv (qP88 x6.toNat) 0)]) qab rfl rfl rfl rfl (sl1 (a:=1) (p:=2) rfl (sl1 (a:=1) (p:=1) rfl (sl1 (a:=1) (p:=0) rfl sl0))) rfl) (U.r 1 rfl (U.y rfl (Y.apNil rfl eth8) (U.y rfl (Y.fieldP xm rfl) (U.y rfl (Y.loadG (q:=0) (si:=4) (ps:=4) (j:=0) (X:=[(gv (qP88 a1.toNat) 1)]) qab rfl rfl rfl rfl (sl1 (a:=1) (p:=3) rfl (sl1 (a:=1) (p:=2) rfl (sl1 (a:=1) (p:=1) rfl (sl1 (a:=1) (p:=0) rfl sl0)))) rfl) ?_)))))))
    obtain ⟨b45,e46,h⟩:=qd h
    refine U.y rfl (Y.does qjp rfl (fun w' hw=>(W52 th7.reads_ th8.writes_ (gv (qP88 x6.toNat) 0) (gv (qP88 a1.toNat) 1) w' _ e46 (As.at_ (hw.get (i:=6) rfl)) (As.at_ (hw.get (i:=2) rfl))).mono (fun _ _ h=>h.1))) ?_
    rcases b45 with _ | _
    ·replace h:=zZ h
     exact U.r 2 rfl (U.nil (E.to (D:=Cls w F [qj gP88 qP88 A88 (x6.toNat :: []),.obj (gP88 x6.toNat) (List.flatten [[.int .i64 th7.id_],[.int .i64 th7.from_],[.int .i64 th7.at_],[(gv (qP88 x6.toNat) 0)],[(gv (qP88 x6.toNat) 1)],(zr (fzr SR) (fun _=>[]) th7.texts_).flatten,[.bool th7.in_],[.bool th7.out_]]) 88,.sl (gv (qP88 x6.toNat) 0) 3 1 (th7.reads_.map I),.sl (gv (qP88 x6.toNat) 1) 3 1 (th7.writes_.map I),.ss (zs sd0 (fun _=>[]) th7.texts_),qf gP70 gP88 gP100 qP70 A70 (a0.toNat :: []),.obj (gP70 a0.toNat) (List.flatten [(zr (fzr (PR gP100)) (fun _=>[]) th1.logs_).flatten,[.int .i64 th1.half_],[.int .i64 th1.gen_],[.bool th1.down_],[.int .i64 th1.now_],(zr qi (qk (qP70 a0.toNat) 2) th1.items_).flatten,[(gv (qP70 a0.toNat) 0)],[(gv (qP70 a0.toNat) 1)]]) 70,.ss (zs sd0 (fun _=>[]) th1.logs_),.ss (zs (qq 79 2 TVersion.row) (qk (qP70 a0.toNat) 2) th1.items_),.sl gv7 84 1 (gl8.map (PR gP88)),.sl gv9 84 1 (gl10.map (PR gP88)),.sl (gv (qP70 a0.toNat) 1) 84 1 (th1.over_.map (PR gP88)),.sl (gv (qP70 a0.toNat) 0) 84 1 (th1.active_.map (PR gP88))]) (fun _ hw=>hw.arShut (hs':=(a1.toNat :: x6.toNat :: [])) [0,1,2,3,4,5,6,7,8,9,10,11,12,13,14,15,16] eth8 (by decide) rfl (fun _=>List.mem_cons) (qe4 (qH c9) eth8 eth7 List.not_mem_nil)) (E.to (D:=Cls w F [qj gP88 qP88 A88 [],qf gP70 gP88 gP100 qP70 A70 (a0.toNat :: []),.obj (gP70 a0.toNat) (List.flatten [(zr (fzr (PR gP100)) (fun _=>[]) th1.logs_).flatten,[.int .i64 th1.half_],[.int .i64 th1.gen_],[.bool th1.down_],[.int .i64 th1.now_],(zr qi (qk (qP70 a0.toNat) 2) th1.items_).flatten,[(gv (qP70 a0.toNat) 0)],[(gv (qP70 a0.toNat) 1)]]) 70,.ss (zs sd0 (fun _=>[]) th1.logs_),.ss (zs (qq 79 2 TVersion.row) (qk (qP70 a0.toNat) 2) th1.items_),.sl gv7 84 1 (gl8.map (PR gP88)),.sl gv9 84 1 (gl10.map (PR gP88)),.sl (gv (qP70 a0.toNat) 1) 84 1 (th1.over_.map (PR gP88)),.sl (gv (qP70 a0.toNat) 0) 84 1 (th1.active_.map (PR gP88))]) (fun _ hw=>hw.arShut (hs':=(x6.toNat :: [])) [1,2,3,4,0,5,6,7,8,9,10,11,12] eth7 (by decide) rfl (fun _=>List.mem_cons) List.not_mem_nil) (E.jJ ⟨true,false,rfl,rfl,h⟩ hI))))
    replace h:=zY h
    exact U.r 2 rfl (U.nil (E.to (D:=Cls w F [qj gP88 qP88 A88 (x6.toNat :: []),.obj (gP88 x6.toNat) (List.flatten [[.int .i64 th7.id_],[.int .i64 th7.from_],[.int .i64 th7.at_],[(gv (qP88 x6.toNat) 0)],[(gv (qP88 x6.toNat) 1)],(zr (fzr SR) (fun _=>[]) th7.texts_).flatten,[.bool th7.in_],[.bool th7.out_]]) 88,.sl (gv (qP88 x6.toNat) 0) 3 1 (th7.reads_.map I),.sl (gv (qP88 x6.toNat) 1) 3 1 (th7.writes_.map I),.ss (zs sd0 (fun _=>[]) th7.texts_),qf gP70 gP88 gP100 qP70 A70 (a0.toNat :: []),.obj (gP70 a0.toNat) (List.flatten [(zr (fzr (PR gP100)) (fun _=>[]) th1.logs_).flatten,[.int .i64 th1.half_],[.int .i64 th1.gen_],[.bool th1.down_],[.int .i64 th1.now_],(zr qi (qk (qP70 a0.toNat) 2) th1.items_).flatten,[(gv (qP70 a0.toNat) 0)],[(gv (qP70 a0.toNat) 1)]]) 70,.ss (zs sd0 (fun _=>[]) th1.logs_),.ss (zs (qq 79 2 TVersion.row) (qk (qP70 a0.toNat) 2) th1.items_),.sl gv7 84 1 (gl8.map (PR gP88)),.sl gv9 84 1 (gl10.map (PR gP88)),.sl (gv (qP70 a0.toNat) 1) 84 1 (th1.over_.map (PR gP88)),.sl (gv (qP70 a0.toNat) 0) 84 1 (th1.active_.map (PR gP88))]) (fun _ hw=>hw.arShut (hs':=(a1.toNat :: x6.toNat :: [])) [0,1,2,3,4,5,6,7,8,9,10,11,12,13,14,15,16] eth8 (by decide) rfl (fun _=>List.mem_cons) (qe4 (qH c9) eth8 eth7 List.not_mem_nil)) (E.to (D:=Cls w F [qj gP88 qP88 A88 [],qf gP70 gP88 gP100 qP70 A70 (a0.toNat :: []),.obj (gP70 a0.toNat) (List.flatten [(zr (fzr (PR gP100)) (fun _=>[]) th1.logs_).flatten,[.int .i64 th1.half_],[.int .i64 th1.gen_],[.bool th1.down_],[.int .i64 th1.now_],(zr qi (qk (qP70 a0.toNat) 2) th1.items_).flatten,[(gv (qP70 a0.toNat) 0)],[(gv (qP70 a0.toNat) 1)]]) 70,.ss (zs sd0 (fun _=>[]) th1.logs_),.ss (zs (qq 79 2 TVersion.row) (qk (qP70 a0.toNat) 2) th1.items_),.sl gv7 84 1 (gl8.map (PR gP88)),.sl gv9 84 1 (gl10.map (PR gP88)),.sl (gv (qP70 a0.toNat) 1) 84 1 (th1.over_.map (PR gP88)),.sl (gv (qP70 a0.toNat) 0) 84 1 (th1.active_.map (PR gP88))]) (fun _ hw=>hw.arShut (hs':=(x6.toNat :: [])) [1,2,3,4,0,5,6,7,8,9,10,11,12] eth7 (by decide) rfl (fun _=>List.mem_cons) List.not_mem_nil) (E.jJ ⟨true,true,rfl,rfl,h⟩ hI))))
   rintro _ _ ⟨gb14,gb15,rfl,rfl,h⟩
   rw [qag] at h
   refine W.seqJ (fun gs D=>gs=[(1,VP gP88 a1),(4,gv7),(5,gv9),(7,.bool gb11),(8,.bool gb12),(10,VP gP88 x6),(11,.bool gb14),(12,.bool gb15),(16,(gv (qP70 a0.toNat) 1)),(17,.int .i64 (th1.over_.length:Int)),(18,.int .i64 gx13)]∧D=Cls w F [qj gP88 qP88 A88 [],qf gP70 gP88 gP100 qP70 A70 (a0.toNat :: []),.obj (gP70 a0.toNat) (List.flatten [(zr (fzr (PR gP100)) (fun _=>[]) th1.logs_).flatten,[.int .i64 th1.half_],[.int .i64 th1.gen_],[.bool th1.down_],[.int .i64 th1.now_],(zr qi (qk (qP70 a0.toNat) 2) th1.items_).flatten,[(gv (qP70 a0.toNat) 0)],[(gv (qP70 a0.toNat) 1)]]) 70,.ss (zs sd0 (fun _=>[]) th1.logs_),.ss (zs (qq 79 2 TVersion.row) (qk (qP70 a0.toNat) 2) th1.items_),.sl gv7 84 1 (gl8.map (PR gP88)),.sl gv9 84 1 (gl10.map (PR gP88)),.sl (gv (qP70 a0.toNat) 1) 84 1 (th1.over_.map (PR gP88)),.sl (gv (qP70 a0.toNat) 0) 84 1 (th1.active_.map (PR gP88))]∧qeW gb14 gl8 x6 gb15 gl10 gb12 gb11 gx13 go1=some r) ?_ ?_
   ·refine W.seq ?_
    obtain ⟨th30,eth30,h⟩:=qd h
    refine W.to (D:=Cls w F [.obj (gP88 a1.toNat) (List.flatten [[.int .i64 th30.id_],[.int .i64 th30.from_],[.int .i64 th30.at_],[(gv (qP88 a1.toNat) 0)],[(gv (qP88 a1.toNat) 1)],(zr (fzr SR) (fun _=>[]) th30.texts_).flatten,[.bool th30.in_],[.bool th30.out_]]) 88,.sl (gv (qP88 a1.toNat) 0) 3 1 (th30.reads_.map I),.sl (gv (qP88 a1.toNat) 1) 3 1 (th30.writes_.map I),.ss (zs sd0 (fun _=>[]) th30.texts_),qj gP88 qP88 A88 (a1.toNat :: []),qf gP70 gP88 gP100 qP70 A70 (a0.toNat :: []),.obj (gP70 a0.toNat) (List.flatten [(zr (fzr (PR gP100)) (fun _=>[]) th1.logs_).flatten,[.int .i64 th1.half_],[.int .i64 th1.gen_],[.bool th1.down_],[.int .i64 th1.now_],(zr qi (qk (qP70 a0.toNat) 2) th1.items_).flatten,[(gv (qP70 a0.toNat) 0)],[(gv (qP70 a0.toNat) 1)]]) 70,.ss (zs sd0 (fun _=>[]) th1.logs_),.ss (zs (qq 79 2 TVersion.row) (qk (qP70 a0.toNat) 2) th1.items_),.sl gv7 84 1 (gl8.map (PR gP88)),.sl gv9 84 1 (gl10.map (PR gP88)),.sl (gv (qP70 a0.toNat) 1) 84 1 (th1.over_.map (PR gP88)),.sl (gv (qP70 a0.toNat) 0) 84 1 (th1.active_.map (PR gP88))]) (fun _ hw=>hw.arOpen (p:=0) rfl eth30 List.not_mem_nil) ?_
    obtain ⟨th31,eth31,h⟩:=qd h
    refine W.to (D:=Cls w F [.obj (gP88 x6.toNat) (List.flatten [[.int .i64 th31.id_],[.int .i64 th31.from_],[.int .i64 th31.at_],[(gv (qP88 x6.toNat) 0)],[(gv (qP88 x6.toNat) 1)],(zr (fzr SR) (fun _=>[]) th31.texts_).flatten,[.bool th31.in_],[.bool th31.out_]]) 88,.sl (gv (qP88 x6.toNat) 0) 3 1 (th31.reads_.map I),.sl (gv (qP88 x6.toNat) 1) 3 1 (th31.writes_.map I),.ss (zs sd0 (fun _=>[]) th31.texts_),qj gP88 qP88 A88 (x6.toNat :: a1.toNat :: []),.obj (gP88 a1.toNat) (List.flatten [[.int .i64 th30.id_],[.int .i64 th30.from_],[.int .i64 th30.at_],[(gv (qP88 a1.toNat) 0)],[(gv (qP88 a1.toNat) 1)],(zr (fzr SR) (fun _=>[]) th30.texts_).flatten,[.bool th30.in_],[.bool th30.out_]]) 88,.sl (gv (qP88 a1.toNat) 0) 3 1 (th30.reads_.map I),.sl (gv (qP88 a1.toNat) 1) 3 1 (th30.writes_.map I),.ss (zs sd0 (fun _=>[]) th30.texts_),qf gP70 gP88 gP100 qP70 A70 (a0.toNat :: []),.obj (gP70 a0.toNat) (List.flatten [(zr (fzr (PR gP100)) (fun _=>[]) th1.logs_).flatten,[.int .i64 th1.half_],[.int .i64 th1.gen_],[.bool th1.down_],[.int .i64 th1.now_],(zr qi (qk (qP70 a0.toNat) 2) th1.items_).flatten,[(gv (qP70 a0.toNat) 0)],[(gv (qP70 a0.toNat) 1)]]) 70,.ss (zs sd0 (fun _=>[]) th1.logs_),.ss (zs (qq 79 2 TVersion.row) (qk (qP70 a0.toNat) 2) th1.items_),.sl gv7 84 1 (gl8.map (PR gP88)),.sl gv9 84 1 (gl10.map (PR gP88)),.sl (gv (qP70 a0.toNat) 1) 84 1 (th1.over_.map (PR gP88)),.sl (gv (qP70 a0.toNat) 0) 84 1 (th1.active_.map (PR gP88))]) (fun _ hw=>hw.arOpen (p:=4) rfl eth31 (qe4 (qH c9).symm eth31 eth30 List.not_mem_nil)) (W.quietC mixed (by kernel_rfl) (fun _ hw=>hw.drew) (fun hC=>(U.cutJ hC 21 (fun gs=>∃ gb23,gs=[(1,VP gP88 a1),(4,gv7),(5,gv9),(7,.bool gb11),(8,.bool gb12),(10,VP gP88 x6),(11,.bool gb14),(12,.bool gb15),(16,(gv (qP70 a0.toNat) 1)),(17,.int .i64 (th1.over_.length:Int)),(18,.int .i64 gx13),(69,.bool gb23)]∧w8 gb15 th31 gb14 gl8 x6 gl10 gb12 gb11 gx13 go1 gb23=some r) ?_ ?_)))
    ·refine U.r 1 rfl (U.y rfl (Y.apNil rfl eth30) (U.y rfl (Y.fieldP xm rfl) (U.y rfl (Y.loadG (q:=5) (si:=4) (ps:=4) (j:=0) (X:=[(gv (qP88 a1.toNat) 1)]) qab rfl rfl rfl rfl (sl1 (a:=1) (p:=3) rfl (sl1 (a:=1) (p:=2) rfl (sl1 (a:=1) (p:=1) rfl (sl1 (a:=1) (p:=0) rfl sl0)))) rfl) (U.r 1 rfl (U.y rfl (Y.apNil rfl eth31) (U.y rfl (Y.fieldP xm rfl) (U.y rfl (Y.loadG (q:=0) (si:=4) (ps:=4) (j:=0) (X:=[(gv (qP88 x6.toNat) 1)]) qab rfl rfl rfl rfl (sl1 (a:=1) (p:=3) rfl (sl1 (a:=1) (p:=2) rfl (sl1 (a:=1) (p:=1) rfl (sl1 (a:=1) (p:=0) rfl sl0)))) rfl) ?_)))))))
     obtain ⟨b35,e36,h⟩:=qd h
     refine U.y rfl (Y.does qjp rfl (fun w' hw=>(W52 th30.writes_ th31.writes_ (gv (qP88 a1.toNat) 1) (gv (qP88 x6.toNat) 1) w' _ e36 (As.at_ (hw.get (i:=7) rfl)) (As.at_ (hw.get (i:=2) rfl))).mono (fun _ _ h=>h.1))) ?_
     rcases b35 with _ | _
     ·replace h:=zZ h
      refine U.r 1 rfl (U.take rfl (U.iteB h rfl (Y.move rfl) (fun c37 h=>?_) (fun c37 h=>?_)))
      ·refine U.r 2 rfl (U.take rfl (U.y rfl (Y.apNil rfl eth31) (U.take rfl (U.y rfl (Y.fieldP qel rfl) (U.take rfl ?_)))))
       obtain ⟨_,qes,h⟩:=qd h
       obtain ⟨_,qes⟩:=qh qes
       refine U.iteB h rfl (Y.loadG (q:=0) (si:=7) (ps:=26) (j:=0) (X:=[.bool th31.out_]) ag4 rfl rfl rfl rfl (sl1 (a:=1) (p:=25) rfl (sl1 (a:=1) (p:=24) rfl (sl1 (a:=1) (p:=23) rfl (sl1 (a:=1) (p:=22) rfl (sl1 (a:=1) (p:=21) rfl (sl1 (a:=20) (p:=1) (zrN (nn:=20) (k:=1) (fun _ _=>rfl) qes) (sl1 (a:=1) (p:=0) rfl sl0))))))) rfl) (fun c39 h=>?_) (fun c39 h=>?_)
       ·exact U.r 5 rfl (U.nil (E.joinU ⟨true,rfl,h⟩ ⟨rfl,rfl,rfl,rfl,rfl,rfl,rfl,rfl,rfl,rfl,rfl,rfl,trivial⟩))
       refine U.r 1 rfl (U.take rfl (U.iteB h rfl (Y.move rfl) (fun c40 h=>?_) (fun c40 h=>?_)))
       ·exact U.r 3 rfl (U.nil (E.joinU ⟨true,rfl,h⟩ ⟨rfl,rfl,rfl,rfl,rfl,rfl,rfl,rfl,rfl,rfl,rfl,rfl,trivial⟩))
       exact U.r 3 rfl (U.nil (E.joinU ⟨false,rfl,h⟩ ⟨rfl,rfl,rfl,rfl,rfl,rfl,rfl,rfl,rfl,rfl,rfl,rfl,trivial⟩))
      exact U.r 10 rfl (U.nil (E.joinU ⟨false,rfl,h⟩ ⟨rfl,rfl,rfl,rfl,rfl,rfl,rfl,rfl,rfl,rfl,rfl,rfl,trivial⟩))
     replace h:=zY h
     exact U.r 12 rfl (U.nil (E.joinU ⟨true,rfl,h⟩ ⟨rfl,rfl,rfl,rfl,rfl,rfl,rfl,rfl,rfl,rfl,rfl,rfl,trivial⟩))
    rintro _ ⟨gb23,rfl,h⟩
    rw [w8] at h
    rcases gb23 with _ | _
    ·replace h:=zZ h
     refine U.cutJ hC 8 (fun gs=>∃ gb24,gs=[(1,VP gP88 a1),(4,gv7),(5,gv9),(7,.bool gb11),(8,.bool gb12),(10,VP gP88 x6),(11,.bool gb14),(12,.bool gb15),(16,(gv (qP70 a0.toNat) 1)),(17,.int .i64 (th1.over_.length:Int)),(18,.int .i64 gx13),(70,.bool false),(77,.bool gb24)]∧vl gb14 gl8 x6 gb15 gl10 gb12 gb11 gx13 go1 gb24=some r) ?_ ?_
     ·refine U.r 1 rfl (U.take rfl (U.iteB h rfl (Y.move rfl) (fun c32 h=>?_) (fun c32 h=>?_)))
      ·refine U.r 2 rfl (U.take rfl (U.y rfl (Y.apNil rfl eth31) (U.take rfl (U.y rfl (Y.fieldP qem rfl) (U.take rfl ?_)))))
       obtain ⟨_,qhW,h⟩:=qd h
       obtain ⟨_,qhW⟩:=qh qhW
       refine U.iteB h rfl (Y.loadG (q:=0) (si:=6) (ps:=25) (j:=0) (X:=[.bool th31.in_]) ag4 rfl rfl rfl rfl (sl1 (a:=1) (p:=24) rfl (sl1 (a:=1) (p:=23) rfl (sl1 (a:=1) (p:=22) rfl (sl1 (a:=1) (p:=21) rfl (sl1 (a:=1) (p:=20) rfl (sl1 (a:=20) (p:=0) (zrN (nn:=20) (k:=1) (fun _ _=>rfl) qhW) sl0)))))) rfl) (fun c34 h=>?_) (fun c34 h=>?_)
       ·exact U.r 1 rfl (U.nil (E.joinU ⟨true,rfl,h⟩ ⟨rfl,rfl,rfl,rfl,rfl,rfl,rfl,rfl,rfl,rfl,rfl,rfl,rfl,trivial⟩))
       exact U.r 1 rfl (U.nil (E.joinU ⟨false,rfl,h⟩ ⟨rfl,rfl,rfl,rfl,rfl,rfl,rfl,rfl,rfl,rfl,rfl,rfl,rfl,trivial⟩))
      exact U.r 6 rfl (U.nil (E.joinU ⟨false,rfl,h⟩ ⟨rfl,rfl,rfl,rfl,rfl,rfl,rfl,rfl,rfl,rfl,rfl,rfl,rfl,trivial⟩))
     rintro _ ⟨gb24,rfl,h⟩
     rw [vl] at h
     rcases gb24 with _ | _
     ·replace h:=zZ h
      exact U.r 1 rfl (U.nil (E.thenN (W.condF rfl (W.skip (E.to (D:=Cls w F [qj gP88 qP88 A88 (a1.toNat :: []),.obj (gP88 a1.toNat) (List.flatten [[.int .i64 th30.id_],[.int .i64 th30.from_],[.int .i64 th30.at_],[(gv (qP88 a1.toNat) 0)],[(gv (qP88 a1.toNat) 1)],(zr (fzr SR) (fun _=>[]) th30.texts_).flatten,[.bool th30.in_],[.bool th30.out_]]) 88,.sl (gv (qP88 a1.toNat) 0) 3 1 (th30.reads_.map I),.sl (gv (qP88 a1.toNat) 1) 3 1 (th30.writes_.map I),.ss (zs sd0 (fun _=>[]) th30.texts_),qf gP70 gP88 gP100 qP70 A70 (a0.toNat :: []),.obj (gP70 a0.toNat) (List.flatten [(zr (fzr (PR gP100)) (fun _=>[]) th1.logs_).flatten,[.int .i64 th1.half_],[.int .i64 th1.gen_],[.bool th1.down_],[.int .i64 th1.now_],(zr qi (qk (qP70 a0.toNat) 2) th1.items_).flatten,[(gv (qP70 a0.toNat) 0)],[(gv (qP70 a0.toNat) 1)]]) 70,.ss (zs sd0 (fun _=>[]) th1.logs_),.ss (zs (qq 79 2 TVersion.row) (qk (qP70 a0.toNat) 2) th1.items_),.sl gv7 84 1 (gl8.map (PR gP88)),.sl gv9 84 1 (gl10.map (PR gP88)),.sl (gv (qP70 a0.toNat) 1) 84 1 (th1.over_.map (PR gP88)),.sl (gv (qP70 a0.toNat) 0) 84 1 (th1.active_.map (PR gP88))]) (fun _ hw=>hw.arShut (hs':=(x6.toNat :: a1.toNat :: [])) [0,1,2,3,4,5,6,7,8,9,10,11,12,13,14,15,16] eth31 (by decide) rfl (fun _=>List.mem_cons) (qe4 (qH c9).symm eth31 eth30 List.not_mem_nil)) (E.to (D:=Cls w F [qj gP88 qP88 A88 [],qf gP70 gP88 gP100 qP70 A70 (a0.toNat :: []),.obj (gP70 a0.toNat) (List.flatten [(zr (fzr (PR gP100)) (fun _=>[]) th1.logs_).flatten,[.int .i64 th1.half_],[.int .i64 th1.gen_],[.bool th1.down_],[.int .i64 th1.now_],(zr qi (qk (qP70 a0.toNat) 2) th1.items_).flatten,[(gv (qP70 a0.toNat) 0)],[(gv (qP70 a0.toNat) 1)]]) 70,.ss (zs sd0 (fun _=>[]) th1.logs_),.ss (zs (qq 79 2 TVersion.row) (qk (qP70 a0.toNat) 2) th1.items_),.sl gv7 84 1 (gl8.map (PR gP88)),.sl gv9 84 1 (gl10.map (PR gP88)),.sl (gv (qP70 a0.toNat) 1) 84 1 (th1.over_.map (PR gP88)),.sl (gv (qP70 a0.toNat) 0) 84 1 (th1.active_.map (PR gP88))]) (fun _ hw=>hw.arShut (hs':=(a1.toNat :: [])) [1,2,3,4,0,5,6,7,8,9,10,11,12] eth30 (by decide) rfl (fun _=>List.mem_cons) List.not_mem_nil) (E.jJ ⟨rfl,rfl,h⟩ hI)))))))
     replace h:=zY h
     refine U.r 1 rfl (U.nil (E.thenN (W.condT rfl (sr (L.r 3 rfl (ln (W.ret (E.KSR (E.blockR (E.thenR (E.KLR ?_)))))))))))
     refine E.blockR (E.KSR (E.to (D:=Cls w F [qj gP88 qP88 A88 (a1.toNat :: []),.obj (gP88 a1.toNat) (List.flatten [[.int .i64 th30.id_],[.int .i64 th30.from_],[.int .i64 th30.at_],[(gv (qP88 a1.toNat) 0)],[(gv (qP88 a1.toNat) 1)],(zr (fzr SR) (fun _=>[]) th30.texts_).flatten,[.bool th30.in_],[.bool th30.out_]]) 88,.sl (gv (qP88 a1.toNat) 0) 3 1 (th30.reads_.map I),.sl (gv (qP88 a1.toNat) 1) 3 1 (th30.writes_.map I),.ss (zs sd0 (fun _=>[]) th30.texts_),qf gP70 gP88 gP100 qP70 A70 (a0.toNat :: []),.obj (gP70 a0.toNat) (List.flatten [(zr (fzr (PR gP100)) (fun _=>[]) th1.logs_).flatten,[.int .i64 th1.half_],[.int .i64 th1.gen_],[.bool th1.down_],[.int .i64 th1.now_],(zr qi (qk (qP70 a0.toNat) 2) th1.items_).flatten,[(gv (qP70 a0.toNat) 0)],[(gv (qP70 a0.toNat) 1)]]) 70,.ss (zs sd0 (fun _=>[]) th1.logs_),.ss (zs (qq 79 2 TVersion.row) (qk (qP70 a0.toNat) 2) th1.items_),.sl gv7 84 1 (gl8.map (PR gP88)),.sl gv9 84 1 (gl10.map (PR gP88)),.sl (gv (qP70 a0.toNat) 1) 84 1 (th1.over_.map (PR gP88)),.sl (gv (qP70 a0.toNat) 0) 84 1 (th1.active_.map (PR gP88))]) (fun _ hw=>hw.arShut (hs':=(x6.toNat :: a1.toNat :: [])) [0,1,2,3,4,5,6,7,8,9,10,11,12,13,14,15,16] eth31 (by decide) rfl (fun _=>List.mem_cons) (qe4 (qH c9).symm eth31 eth30 List.not_mem_nil)) (E.to (D:=Cls w F [qj gP88 qP88 A88 [],qf gP70 gP88 gP100 qP70 A70 (a0.toNat :: []),.obj (gP70 a0.toNat) (List.flatten [(zr (fzr (PR gP100)) (fun _=>[]) th1.logs_).flatten,[.int .i64 th1.half_],[.int .i64 th1.gen_],[.bool th1.down_],[.int .i64 th1.now_],(zr qi (qk (qP70 a0.toNat) 2) th1.items_).flatten,[(gv (qP70 a0.toNat) 0)],[(gv (qP70 a0.toNat) 1)]]) 70,.ss (zs sd0 (fun _=>[]) th1.logs_),.ss (zs (qq 79 2 TVersion.row) (qk (qP70 a0.toNat) 2) th1.items_),.sl gv7 84 1 (gl8.map (PR gP88)),.sl gv9 84 1 (gl10.map (PR gP88)),.sl (gv (qP70 a0.toNat) 1) 84 1 (th1.over_.map (PR gP88)),.sl (gv (qP70 a0.toNat) 0) 84 1 (th1.active_.map (PR gP88))]) (fun _ hw=>hw.arShut (hs':=(a1.toNat :: [])) [1,2,3,4,0,5,6,7,8,9,10,11,12] eth30 (by decide) rfl (fun _=>List.mem_cons) List.not_mem_nil) (E.to (D:=Cls w F [qf gP70 gP88 gP100 qP70 A70 [],qj gP88 qP88 A88 [],.sl gv7 84 1 (gl8.map (PR gP88)),.sl gv9 84 1 (gl10.map (PR gP88))]) (fun _ hw=>hw.arShut (hs':=(a0.toNat :: [])) [2,8,7,3,4,1,0,5,6] eth1 (by decide) rfl (fun _=>List.mem_cons) List.not_mem_nil) (E.ret3 rfl rfl rfl rfl (fun w1 hw=>?_))))))
     cases h
     exact ⟨_,_,rfl,⟨_,_,rfl,rfl⟩,((hw.nilSl 84 1).nilSl 84 1).sel [2,3,1,0] (by decide) rfl⟩
    replace h:=zY h
    refine U.r 9 rfl (U.nil (E.thenN (W.condT rfl (sr (L.r 3 rfl (ln (W.ret (E.KSR (E.blockR (E.thenR (E.KLR ?_)))))))))))
    refine E.blockR (E.KSR (E.to (D:=Cls w F [qj gP88 qP88 A88 (a1.toNat :: []),.obj (gP88 a1.toNat) (List.flatten [[.int .i64 th30.id_],[.int .i64 th30.from_],[.int .i64 th30.at_],[(gv (qP88 a1.toNat) 0)],[(gv (qP88 a1.toNat) 1)],(zr (fzr SR) (fun _=>[]) th30.texts_).flatten,[.bool th30.in_],[.bool th30.out_]]) 88,.sl (gv (qP88 a1.toNat) 0) 3 1 (th30.reads_.map I),.sl (gv (qP88 a1.toNat) 1) 3 1 (th30.writes_.map I),.ss (zs sd0 (fun _=>[]) th30.texts_),qf gP70 gP88 gP100 qP70 A70 (a0.toNat :: []),.obj (gP70 a0.toNat) (List.flatten [(zr (fzr (PR gP100)) (fun _=>[]) th1.logs_).flatten,[.int .i64 th1.half_],[.int .i64 th1.gen_],[.bool th1.down_],[.int .i64 th1.now_],(zr qi (qk (qP70 a0.toNat) 2) th1.items_).flatten,[(gv (qP70 a0.toNat) 0)],[(gv (qP70 a0.toNat) 1)]]) 70,.ss (zs sd0 (fun _=>[]) th1.logs_),.ss (zs (qq 79 2 TVersion.row) (qk (qP70 a0.toNat) 2) th1.items_),.sl gv7 84 1 (gl8.map (PR gP88)),.sl gv9 84 1 (gl10.map (PR gP88)),.sl (gv (qP70 a0.toNat) 1) 84 1 (th1.over_.map (PR gP88)),.sl (gv (qP70 a0.toNat) 0) 84 1 (th1.active_.map (PR gP88))]) (fun _ hw=>hw.arShut (hs':=(x6.toNat :: a1.toNat :: [])) [0,1,2,3,4,5,6,7,8,9,10,11,12,13,14,15,16] eth31 (by decide) rfl (fun _=>List.mem_cons) (qe4 (qH c9).symm eth31 eth30 List.not_mem_nil)) (E.to (D:=Cls w F [qj gP88 qP88 A88 [],qf gP70 gP88 gP100 qP70 A70 (a0.toNat :: []),.obj (gP70 a0.toNat) (List.flatten [(zr (fzr (PR gP100)) (fun _=>[]) th1.logs_).flatten,[.int .i64 th1.half_],[.int .i64 th1.gen_],[.bool th1.down_],[.int .i64 th1.now_],(zr qi (qk (qP70 a0.toNat) 2) th1.items_).flatten,[(gv (qP70 a0.toNat) 0)],[(gv (qP70 a0.toNat) 1)]]) 70,.ss (zs sd0 (fun _=>[]) th1.logs_),.ss (zs (qq 79 2 TVersion.row) (qk (qP70 a0.toNat) 2) th1.items_),.sl gv7 84 1 (gl8.map (PR gP88)),.sl gv9 84 1 (gl10.map (PR gP88)),.sl (gv (qP70 a0.toNat) 1) 84 1 (th1.over_.map (PR gP88)),.sl (gv (qP70 a0.toNat) 0) 84 1 (th1.active_.map (PR gP88))]) (fun _ hw=>hw.arShut (hs':=(a1.toNat :: [])) [1,2,3,4,0,5,6,7,8,9,10,11,12] eth30 (by decide) rfl (fun _=>List.mem_cons) List.not_mem_nil) (E.to (D:=Cls w F [qf gP70 gP88 gP100 qP70 A70 [],qj gP88 qP88 A88 [],.sl gv7 84 1 (gl8.map (PR gP88)),.sl gv9 84 1 (gl10.map (PR gP88))]) (fun _ hw=>hw.arShut (hs':=(a0.toNat :: [])) [2,8,7,3,4,1,0,5,6] eth1 (by decide) rfl (fun _=>List.mem_cons) List.not_mem_nil) (E.ret3 rfl rfl rfl rfl (fun w1 hw=>?_))))))
    cases h
    exact ⟨_,_,rfl,⟨_,_,rfl,rfl⟩,((hw.nilSl 84 1).nilSl 84 1).sel [2,3,1,0] (by decide) rfl⟩
   rintro _ _ ⟨rfl,rfl,h⟩
   rw [qeW] at h
   refine W.seqJ (fun gs D=>∃ gv16 gl17,gs=[(1,VP gP88 a1),(4,gv16),(5,gv9),(7,.bool gb11),(8,.bool gb12),(10,VP gP88 x6),(11,.bool gb14),(12,.bool gb15),(16,(gv (qP70 a0.toNat) 1)),(17,.int .i64 (th1.over_.length:Int)),(18,.int .i64 gx13)]∧D=Cls w F [qj gP88 qP88 A88 [],qf gP70 gP88 gP100 qP70 A70 (a0.toNat :: []),.obj (gP70 a0.toNat) (List.flatten [(zr (fzr (PR gP100)) (fun _=>[]) th1.logs_).flatten,[.int .i64 th1.half_],[.int .i64 th1.gen_],[.bool th1.down_],[.int .i64 th1.now_],(zr qi (qk (qP70 a0.toNat) 2) th1.items_).flatten,[(gv (qP70 a0.toNat) 0)],[(gv (qP70 a0.toNat) 1)]]) 70,.ss (zs sd0 (fun _=>[]) th1.logs_),.ss (zs (qq 79 2 TVersion.row) (qk (qP70 a0.toNat) 2) th1.items_),.sl gv16 84 1 (gl17.map (PR gP88)),.sl gv9 84 1 (gl10.map (PR gP88)),.sl (gv (qP70 a0.toNat) 1) 84 1 (th1.over_.map (PR gP88)),.sl (gv (qP70 a0.toNat) 0) 84 1 (th1.active_.map (PR gP88))]∧qeV gb15 gl10 x6 gb12 gb11 gx13 go1 gb14 gl17=some r) ?_ ?_
   ·refine sr (L.iteB h rfl (Y.move rfl) (fun c26 h=>?_) (fun c26 h=>?_))
    ·refine ln (W.condT rfl (W.region (L.r 2 rfl (L.litOne rfl Tryz.underlying68 qe5 rfl (zG _ _) ?_))))
     intro b27
     refine L.appM (i:=6) (g:=(PR gP88)) (l:=gl8) (more:=[x6]) h rfl Tryz.underlying68 qe5 rfl rfl rfl (fun w hw=>As.at_ (hw.get (i:=0) rfl)) (jG _) rfl ?_
     intro v28 l29 el29 h
     exact L.r 1 rfl (L.nil (E.jJ ⟨v28,l29,rfl,rfl,h⟩ (sI [2,3,4,5,6,0,7,8,9])))
    exact ln (W.condF rfl (W.skip (E.jJ ⟨gv7,gl8,rfl,rfl,h⟩ hI)))
   rintro _ _ ⟨gv16,gl17,rfl,rfl,h⟩
   rw [qeV] at h
   refine W.seqJ (fun gs D=>∃ gv18 gl19,gs=[(1,VP gP88 a1),(4,gv16),(5,gv18),(7,.bool gb11),(8,.bool gb12),(11,.bool gb14),(12,.bool gb15),(16,(gv (qP70 a0.toNat) 1)),(17,.int .i64 (th1.over_.length:Int)),(18,.int .i64 gx13)]∧D=Cls w F [qj gP88 qP88 A88 [],qf gP70 gP88 gP100 qP70 A70 (a0.toNat :: []),.obj (gP70 a0.toNat) (List.flatten [(zr (fzr (PR gP100)) (fun _=>[]) th1.logs_).flatten,[.int .i64 th1.half_],[.int .i64 th1.gen_],[.bool th1.down_],[.int .i64 th1.now_],(zr qi (qk (qP70 a0.toNat) 2) th1.items_).flatten,[(gv (qP70 a0.toNat) 0)],[(gv (qP70 a0.toNat) 1)]]) 70,.ss (zs sd0 (fun _=>[]) th1.logs_),.ss (zs (qq 79 2 TVersion.row) (qk (qP70 a0.toNat) 2) th1.items_),.sl gv16 84 1 (gl17.map (PR gP88)),.sl gv18 84 1 (gl19.map (PR gP88)),.sl (gv (qP70 a0.toNat) 1) 84 1 (th1.over_.map (PR gP88)),.sl (gv (qP70 a0.toNat) 0) 84 1 (th1.active_.map (PR gP88))]∧qc2 gb12 gb11 gx13 go1 gl17 gb15 gb14 gl19=some r) ?_ ?_
   ·refine sr (L.iteB h rfl (Y.move rfl) (fun c22 h=>?_) (fun c22 h=>?_))
    ·refine ln (W.condT rfl (W.region (L.r 2 rfl (L.litOne rfl Tryz.underlying68 qe5 rfl (zG _ _) ?_))))
     intro b23
     refine L.appM (i:=7) (g:=(PR gP88)) (l:=gl10) (more:=[x6]) h rfl Tryz.underlying68 qe5 rfl rfl rfl (fun w hw=>As.at_ (hw.get (i:=0) rfl)) (jG _) rfl ?_
     intro v24 l25 el25 h
     exact L.r 1 rfl (L.nil (E.jJ ⟨v24,l25,rfl,rfl,h⟩ (sI [2,3,4,5,6,7,0,8,9])))
    exact ln (W.condF rfl (W.skip (E.jJ ⟨gv9,gl10,rfl,rfl,h⟩ hI)))
   rintro _ _ ⟨gv18,gl19,rfl,rfl,h⟩
   rw [qc2] at h
   refine W.region (L.cutJ 4 (fun gs D=>∃ gb20,gs=[(1,VP gP88 a1),(4,gv16),(5,gv18),(7,.bool gb11),(12,.bool gb15),(16,(gv (qP70 a0.toNat) 1)),(17,.int .i64 (th1.over_.length:Int)),(18,.int .i64 gx13),(92,.bool gb20)]∧D=Cls w F [qj gP88 qP88 A88 [],qf gP70 gP88 gP100 qP70 A70 (a0.toNat :: []),.obj (gP70 a0.toNat) (List.flatten [(zr (fzr (PR gP100)) (fun _=>[]) th1.logs_).flatten,[.int .i64 th1.half_],[.int .i64 th1.gen_],[.bool th1.down_],[.int .i64 th1.now_],(zr qi (qk (qP70 a0.toNat) 2) th1.items_).flatten,[(gv (qP70 a0.toNat) 0)],[(gv (qP70 a0.toNat) 1)]]) 70,.ss (zs sd0 (fun _=>[]) th1.logs_),.ss (zs (qq 79 2 TVersion.row) (qk (qP70 a0.toNat) 2) th1.items_),.sl gv16 84 1 (gl17.map (PR gP88)),.sl gv18 84 1 (gl19.map (PR gP88)),.sl (gv (qP70 a0.toNat) 1) 84 1 (th1.over_.map (PR gP88)),.sl (gv (qP70 a0.toNat) 0) 84 1 (th1.active_.map (PR gP88))]∧qc1 gb11 gx13 go1 gl17 gl19 gb15 gb20=some r) ?_ ?_)
   ·refine L.iteB h rfl (Y.move rfl) (fun c20 h=>?_) (fun c20 h=>?_)
    ·exact L.r 3 rfl (L.nil (E.jJ ⟨true,rfl,rfl,h⟩ hI))
    refine L.r 1 rfl (L.take rfl (L.iteB h rfl (Y.move rfl) (fun c21 h=>?_) (fun c21 h=>?_)))
    ·exact L.r 1 rfl (L.nil (E.jJ ⟨true,rfl,rfl,h⟩ hI))
    exact L.r 1 rfl (L.nil (E.jJ ⟨false,rfl,rfl,h⟩ hI))
   rintro _ _ ⟨gb20,rfl,rfl,h⟩
   rw [qc1] at h
   rcases gb20 with _ | _
   ·replace h:=zZ h
    refine L.cutJ 4 (fun gs D=>∃ gb21,gs=[(1,VP gP88 a1),(4,gv16),(5,gv18),(16,(gv (qP70 a0.toNat) 1)),(17,.int .i64 (th1.over_.length:Int)),(18,.int .i64 gx13),(92,.bool false),(96,.bool gb21)]∧D=Cls w F [qj gP88 qP88 A88 [],qf gP70 gP88 gP100 qP70 A70 (a0.toNat :: []),.obj (gP70 a0.toNat) (List.flatten [(zr (fzr (PR gP100)) (fun _=>[]) th1.logs_).flatten,[.int .i64 th1.half_],[.int .i64 th1.gen_],[.bool th1.down_],[.int .i64 th1.now_],(zr qi (qk (qP70 a0.toNat) 2) th1.items_).flatten,[(gv (qP70 a0.toNat) 0)],[(gv (qP70 a0.toNat) 1)]]) 70,.ss (zs sd0 (fun _=>[]) th1.logs_),.ss (zs (qq 79 2 TVersion.row) (qk (qP70 a0.toNat) 2) th1.items_),.sl gv16 84 1 (gl17.map (PR gP88)),.sl gv18 84 1 (gl19.map (PR gP88)),.sl (gv (qP70 a0.toNat) 1) 84 1 (th1.over_.map (PR gP88)),.sl (gv (qP70 a0.toNat) 0) 84 1 (th1.active_.map (PR gP88))]∧qc0 gx13 go1 gl17 gl19 gb21=some r) ?_ ?_
    ·refine L.iteB h rfl (Y.move rfl) (fun c14 h=>?_) (fun c14 h=>?_)
     ·exact L.r 3 rfl (L.nil (E.jJ ⟨true,rfl,rfl,h⟩ hI))
     refine L.r 1 rfl (L.take rfl (L.iteB h rfl (Y.move rfl) (fun c15 h=>?_) (fun c15 h=>?_)))
     ·exact L.r 1 rfl (L.nil (E.jJ ⟨true,rfl,rfl,h⟩ hI))
     exact L.r 1 rfl (L.nil (E.jJ ⟨false,rfl,rfl,h⟩ hI))
    rintro _ _ ⟨gb21,rfl,rfl,h⟩
    rw [qc0] at h
    rcases gb21 with _ | _
    ·replace h:=zZ h
     exact L.r 2 rfl (L.nil (E.blockN (E.thenN (W.region (L.m (V:=fun x12=>.int .i64 x12) h rfl (Y.addM rfl rfl) (fun x12 ex12 h=>(L.r 1 rfl (L.nil (E.aJ ⟨gv16,gl17,gv18,gl19,false,false,x12,rfl,rfl,by rw [hg1];exact h⟩ (sI [1,0,2,3,4,5,6,7,8]))))))))))
    replace h:=zY h
    exact L.r 2 rfl (L.nil (E.blockN (E.thenN (W.region (L.m (V:=fun x13=>.int .i64 x13) h rfl (Y.addM rfl rfl) (fun x13 ex13 h=>(L.r 1 rfl (L.nil (E.aJ ⟨gv16,gl17,gv18,gl19,true,false,x13,rfl,rfl,by rw [hg1];exact h⟩ (sI [1,0,2,3,4,5,6,7,8]))))))))))
   replace h:=zY h
   refine L.cutJ 4 (fun gs D=>∃ gb22,gs=[(1,VP gP88 a1),(4,gv16),(5,gv18),(16,(gv (qP70 a0.toNat) 1)),(17,.int .i64 (th1.over_.length:Int)),(18,.int .i64 gx13),(92,.bool true),(96,.bool gb22)]∧D=Cls w F [qj gP88 qP88 A88 [],qf gP70 gP88 gP100 qP70 A70 (a0.toNat :: []),.obj (gP70 a0.toNat) (List.flatten [(zr (fzr (PR gP100)) (fun _=>[]) th1.logs_).flatten,[.int .i64 th1.half_],[.int .i64 th1.gen_],[.bool th1.down_],[.int .i64 th1.now_],(zr qi (qk (qP70 a0.toNat) 2) th1.items_).flatten,[(gv (qP70 a0.toNat) 0)],[(gv (qP70 a0.toNat) 1)]]) 70,.ss (zs sd0 (fun _=>[]) th1.logs_),.ss (zs (qq 79 2 TVersion.row) (qk (qP70 a0.toNat) 2) th1.items_),.sl gv16 84 1 (gl17.map (PR gP88)),.sl gv18 84 1 (gl19.map (PR gP88)),.sl (gv (qP70 a0.toNat) 1) 84 1 (th1.over_.map (PR gP88)),.sl (gv (qP70 a0.toNat) 0) 84 1 (th1.active_.map (PR gP88))]∧qcZ gx13 go1 gl17 gl19 gb22=some r) ?_ ?_
   ·refine L.iteB h rfl (Y.move rfl) (fun c18 h=>?_) (fun c18 h=>?_)
    ·exact L.r 3 rfl (L.nil (E.jJ ⟨true,rfl,rfl,h⟩ hI))
    refine L.r 1 rfl (L.take rfl (L.iteB h rfl (Y.move rfl) (fun c19 h=>?_) (fun c19 h=>?_)))
    ·exact L.r 1 rfl (L.nil (E.jJ ⟨true,rfl,rfl,h⟩ hI))
    exact L.r 1 rfl (L.nil (E.jJ ⟨false,rfl,rfl,h⟩ hI))
   rintro _ _ ⟨gb22,rfl,rfl,h⟩
   rw [qcZ] at h
   rcases gb22 with _ | _
   ·replace h:=zZ h
    exact L.r 2 rfl (L.nil (E.blockN (E.thenN (W.region (L.m (V:=fun x16=>.int .i64 x16) h rfl (Y.addM rfl rfl) (fun x16 ex16 h=>(L.r 1 rfl (L.nil (E.aJ ⟨gv16,gl17,gv18,gl19,false,true,x16,rfl,rfl,by rw [hg1];exact h⟩ (sI [1,0,2,3,4,5,6,7,8]))))))))))
   replace h:=zY h
   exact L.r 2 rfl (L.nil (E.blockN (E.thenN (W.region (L.m (V:=fun x17=>.int .i64 x17) h rfl (Y.addM rfl rfl) (fun x17 ex17 h=>(L.r 1 rfl (L.nil (E.aJ ⟨gv16,gl17,gv18,gl19,true,true,x17,rfl,rfl,by rw [hg1];exact h⟩ (sI [1,0,2,3,4,5,6,7,8]))))))))))
  exact ln (W.seq (W.condF rfl (W.exit (E.thenX (E.KLX (E.blockX (E.jJ ⟨gv7,gl8,gv9,gl10,gb11,gb12,rfl,rfl,h⟩ (sI [0,1,2,3,4,5,6,8,7]))))))))
 rintro _ _ ⟨gv1,gl2,gv3,gl4,gb5,gb6,rfl,rfl,h⟩
 rw [qgk] at h
 refine sr (L.r 2 rfl (L.iteB h rfl (Y.move rfl) (fun c2 h=>?_) (fun c2 h=>?_)))
 ·refine L.r 3 rfl (L.y rfl (Y.not rfl) (L.r 3 rfl (ln (W.ret (E.to (D:=Cls w F [qf gP70 gP88 gP100 qP70 A70 [],qj gP88 qP88 A88 [],.sl gv1 84 1 (gl2.map (PR gP88)),.sl gv3 84 1 (gl4.map (PR gP88))]) (fun _ hw=>hw.arShut (hs':=(a0.toNat :: [])) [2,7,8,3,4,0,1,5,6] eth1 (by decide) rfl (fun _=>List.mem_cons) List.not_mem_nil) (E.ret3 rfl rfl rfl rfl (fun w1 hw=>?_)))))))
  cases h
  exact ⟨_,_,rfl,⟨_,_,rfl,rfl⟩,hw⟩
 refine L.r 3 rfl (L.y rfl (Y.not rfl) (L.r 3 rfl (ln (W.ret (E.to (D:=Cls w F [qf gP70 gP88 gP100 qP70 A70 [],qj gP88 qP88 A88 [],.sl gv1 84 1 (gl2.map (PR gP88)),.sl gv3 84 1 (gl4.map (PR gP88))]) (fun _ hw=>hw.arShut (hs':=(a0.toNat :: [])) [2,7,8,3,4,0,1,5,6] eth1 (by decide) rfl (fun _=>List.mem_cons) List.not_mem_nil) (E.ret3 rfl rfl rfl rfl (fun w1 hw=>?_)))))))
 cases h
 exact ⟨_,_,rfl,⟨_,_,rfl,rfl⟩,hw⟩
set_option maxRecDepth 100000 in
set_option maxHeartbeats 8000000 in
theorem W76 (a0:(List TVersion)) (u0:Value) (w:World) (r:(List TVersion)) (h:M76 a0=some r) (hA0:At w u0 2 (a0.map TVersion.row)):Does Tryz.prog 76 [u0] w fun u m=>∃ v0,u=v0∧m=[.sl v0 79 2 (r.map TVersion.row)]:=by
 rw [M76] at h
 rcases hA0.shape with ⟨rfl,hn⟩ | ⟨ad,cap,rfl,hl,hm⟩
 ·obtain rfl:a0=[]:=by simpa using hn
  replace h:some ([]:List TVersion)=some r:=by simpa [app] using h
  refine body (n:=8) Tryz.func76 rfl rfl rfl (Cls.refl w) (sr (L.r 1 rfl (ln (W.seq (sr (L.r 1 rfl (L.y rfl (Y.eqlNil Tryz.underlying66 rfl rfl) (ln (W.condT rfl ?_)))))))))
  refine sr (L.r 1 rfl (ln (W.ret (E.thenR (E.ret1 rfl rfl (fun w1 hw=>?_))))))
  cases h
  exact ⟨_,_,rfl,⟨_,rfl,rfl⟩,(hw.nilSl 79 2)⟩
 refine body (n:=8) Tryz.func76 rfl rfl rfl (Cls.refl w) (sr (L.r 1 rfl (ln (W.seq (sr (L.r 1 rfl (L.y rfl (Y.eqlNil Tryz.underlying66 rfl rfl) (ln (W.condF rfl ?_)))))))))
 refine W.skip (E.thenN (sr (L.lit0 rfl Tryz.underlying66 qgU ?_)))
 intro b1
 refine L.r 1 rfl (L.appM (i:=0) (g:=TVersion.row) (l:=[]) (more:=a0) h rfl Tryz.underlying66 qgU rfl rfl rfl (fun w' hw=>hA0.cls0 hw) (zV _) rfl ?_)
 intro v2 l3 el3 h
 refine L.r 1 rfl (ln (W.ret (E.ret1 rfl rfl (fun w1 hw=>?_))))
 cases h
 exact ⟨_,_,rfl,⟨_,rfl,rfl⟩,hw⟩
set_option maxRecDepth 100000 in
set_option maxHeartbeats 8000000 in
theorem W94 (a0:(List TVersion)) (a1:(List Int)) (a2:Int) (u0:Value) (u1:Value) (w:World) (r:Int) (h:M94 a0 a1 a2=some r) (hA0:At w u0 2 (a0.map TVersion.row)) (hA1:At w u1 1 (a1.map I)):Does Tryz.prog 94 [u0,u1,.int .i64 a2] w fun u m=>u=.int .i64 r∧m=[]:=by
 rw [M94] at h
 refine body (n:=55) Tryz.func94 rfl rfl rfl (Cls.refl w) (sr (L.r 1 rfl (ln (W.seq (sr (L.r 1 rfl (L.y rfl (Y.lenM (g:=TVersion.row) (l:=a0) Tryz.underlying66 rfl (fun w' hw=>hA0.cls0 hw)) (L.ite h rfl (Y.gtr rfl rfl) (fun c1 h=>?_) (fun c1 h=>?_)))))))))
 ·refine L.r 5 rfl (ln (W.condT rfl (sr (L.r 1 rfl (ln (W.ret (E.thenR (E.ret1 rfl rfl (fun w1 hw=>?_)))))))))
  cases h
  exact ⟨_,_,rfl,⟨rfl,rfl⟩,hw⟩
 refine L.r 2 rfl (L.take rfl (L.y rfl (Y.lenM (g:=I) (l:=a1) Tryz.underlying86 rfl (fun w' hw=>hA1.cls0 hw)) (L.take rfl (L.ite h rfl (Y.gtr rfl rfl) (fun c2 h=>?_) (fun c2 h=>?_)))))
 ·refine L.r 1 rfl (ln (W.condT rfl (sr (L.r 1 rfl (ln (W.ret (E.thenR (E.ret1 rfl rfl (fun w1 hw=>?_)))))))))
  cases h
  exact ⟨_,_,rfl,⟨rfl,rfl⟩,hw⟩
 refine L.r 1 rfl (ln (W.condF rfl (W.skip (E.thenN (W.seq (sr (L.r 1 rfl (L.ite h rfl (Y.lss rfl rfl) (fun c3 h=>?_) (fun c3 h=>?_)))))))))
 ·refine ln (W.condT rfl (sr (L.r 1 rfl (ln (W.ret (E.thenR (E.ret1 rfl rfl (fun w1 hw=>?_))))))))
  cases h
  exact ⟨_,_,rfl,⟨rfl,rfl⟩,hw⟩
 refine ln (W.condF rfl (W.skip (E.thenN (sr (L.r 1 rfl (ln (W.seqJ (fun gs D=>gs=[(1,u1),(2,.int .i64 a2)]∧D=Cls w [] []∧qga a1 a2=some r) ?_ ?_)))))))
 ·refine sr (L.r 1 rfl (L.y rfl (Y.lenM (g:=TVersion.row) (l:=a0) Tryz.underlying66 rfl (fun w' hw=>hA0.cls0 hw)) (L.r 1 rfl (ln (W.block (W.loopJ (fun m gs D=>∃ gx2 gx3,gs=[(1,u1),(2,.int .i64 a2),(7,.int .i64 gx2),(22,u0),(23,.int .i64 (a0.length:Int)),(24,.int .i64 gx3)]∧D=Cls w [] []∧wL a0 a2 a1 m gx2 gx3=some r) ⟨0,0,rfl,rfl,h⟩ ⟨rfl,rfl,rfl,rfl,rfl,rfl,trivial⟩ hI ?_))))))
  rintro m _ _ ⟨gx2,gx3,rfl,rfl,h⟩
  rcases m with _ | m
  ·rw [wL] at h;cases h
  rw [wL] at h
  generalize hg2:wL a0 a2 a1 m=go2 at h
  rw [qbF] at h
  refine sr (L.ite h rfl (Y.lss rfl rfl) (fun c9 h=>?_) (fun c9 h=>?_))
  ·refine ln (W.seq (W.condT rfl (W.skip (E.thenN (W.seq (W.block (sr (L.m (V:=fun _=>el u0 (gx3.toNat*2)) h rfl (Y.indexM (g:=TVersion.row) (l:=a0) Tryz.underlying66 vB rfl rfl (fun w' hw=>hA0.cls0 hw)) (fun x10 ex10 h=>(L.y rfl (Y.loadEN (r:=[.int .i64 x10.At,st x10.Text]) qin vB rfl (fun w' hw=>hA0.cls0 hw) (qx ex10) rfl) (L.alloc rfl qjw ?_)))))))))))
   intro b11
   refine L.store (i:=0) (vs:=[.int .i64 x10.At,st x10.Text]) vB rfl rfl rfl rfl (by simp [Value.oneCell',Value.cells,st,pt,el]) rfl nb (ln (W.seq (sr (L.y rfl (Y.fieldP xD rfl) (L.y rfl (Y.loadP (i:=0) ag3 rfl rfl rfl) (L.r 1 rfl (L.ite h rfl (Y.leq rfl rfl) (fun c12 h=>?_) (fun c12 h=>?_))))))))
   ·refine L.r 6 rfl (ln (W.condT rfl (sr (L.r 1 rfl (ln (W.ret (E.thenR (E.blockR (E.thenR (E.KLR ?_))))))))))
    refine E.blockR (E.KSR (E.ret1 rfl rfl (fun w1 hw=>?_)))
    cases h
    exact ⟨_,_,rfl,⟨rfl,rfl⟩,hw.s []⟩
   refine L.r 1 rfl (L.take rfl (L.y rfl (Y.fieldP xD rfl) (L.take rfl (L.y rfl (Y.loadP (i:=0) ag3 rfl rfl rfl) (L.r 1 rfl (L.take rfl (L.ite h rfl (Y.gtr rfl rfl) (fun c13 h=>?_) (fun c13 h=>?_))))))))
   ·refine L.r 1 rfl (ln (W.condT rfl (sr (L.r 1 rfl (ln (W.ret (E.thenR (E.blockR (E.thenR (E.KLR ?_))))))))))
    refine E.blockR (E.KSR (E.ret1 rfl rfl (fun w1 hw=>?_)))
    cases h
    exact ⟨_,_,rfl,⟨rfl,rfl⟩,hw.s []⟩
   refine L.r 1 rfl (ln (W.condF rfl (W.skip (E.thenN (W.region (L.y rfl (Y.fieldP xD rfl) (L.y rfl (Y.loadP (i:=0) ag3 rfl rfl rfl) (L.r 1 rfl (L.nil (E.blockN (E.thenN (W.region ?_))))))))))))
   exact L.m (V:=fun x14=>.int .i64 x14) h rfl (Y.addM rfl rfl) (fun x14 ex14 h=>(L.r 1 rfl (L.nil (E.aJ ⟨x10.At,x14,rfl,rfl,by rw [hg2];exact h⟩ (sI [])))))
  exact ln (W.seq (W.condF rfl (W.exit (E.thenX (E.KLX (E.blockX (E.jJ ⟨rfl,rfl,h⟩ hI)))))))
 rintro _ _ ⟨rfl,rfl,h⟩
 rw [qga] at h
 refine W.seqJ (fun gs D=>gs=[]∧D=Cls w [] []∧qf9=some r) ?_ ?_
 ·refine sr (L.r 1 rfl (L.y rfl (Y.lenM (g:=I) (l:=a1) Tryz.underlying86 rfl (fun w' hw=>hA1.cls0 hw)) (L.r 1 rfl (ln (W.block (W.loopJ (fun m gs D=>∃ gx1,gs=[(2,.int .i64 a2),(41,u1),(42,.int .i64 (a1.length:Int)),(43,.int .i64 gx1)]∧D=Cls w [] []∧wM a1 a2 m gx1=some r) ⟨0,rfl,rfl,h⟩ ⟨rfl,rfl,rfl,rfl,trivial⟩ hI ?_))))))
  rintro m _ _ ⟨gx1,rfl,rfl,h⟩
  rcases m with _ | m
  ·rw [wM] at h;cases h
  rw [wM] at h
  generalize hg1:wM a1 a2 m=go1 at h
  rw [qbG] at h
  refine sr (L.ite h rfl (Y.lss rfl rfl) (fun c4 h=>?_) (fun c4 h=>?_))
  ·refine ln (W.seq (W.condT rfl (W.skip (E.thenN (W.seq (W.block (sr (L.m (V:=fun _=>el u1 (gx1.toNat*1)) h rfl (Y.indexM (g:=I) (l:=a1) Tryz.underlying86 sz3 rfl rfl (fun w' hw=>hA1.cls0 hw)) (fun x5 ex5 h=>(L.y rfl (Y.loadE1 (u:=.int .i64 x5) ag3 rfl (fun w' hw=>hA1.cls0 hw) (qx ex5)) (L.r 1 rfl (L.nil ?_))))))))))))
   refine E.thenN (sr (L.r 1 rfl (L.ite h rfl (Y.lss rfl rfl) (fun c6 h=>?_) (fun c6 h=>?_))))
   ·refine L.r 5 rfl (ln (W.condT rfl (sr (L.r 1 rfl (ln (W.ret (E.blockR (E.thenR (E.KLR (E.blockR ?_))))))))))
    refine E.KSR (E.ret1 rfl rfl (fun w1 hw=>?_))
    cases h
    exact ⟨_,_,rfl,⟨rfl,rfl⟩,hw⟩
   refine L.r 3 rfl (L.take rfl (L.ite h rfl (Y.gtr rfl rfl) (fun c7 h=>?_) (fun c7 h=>?_)))
   ·refine L.r 1 rfl (ln (W.condT rfl (sr (L.r 1 rfl (ln (W.ret (E.blockR (E.thenR (E.KLR (E.blockR ?_))))))))))
    refine E.KSR (E.ret1 rfl rfl (fun w1 hw=>?_))
    cases h
    exact ⟨_,_,rfl,⟨rfl,rfl⟩,hw⟩
   exact L.r 1 rfl (ln (W.condF rfl (W.skip (E.blockN (E.thenN (W.region (L.m (V:=fun x8=>.int .i64 x8) h rfl (Y.addM rfl rfl) (fun x8 ex8 h=>(L.r 1 rfl (L.nil (E.aJ ⟨x8,rfl,rfl,by rw [hg1];exact h⟩ hI)))))))))))
  exact ln (W.seq (W.condF rfl (W.exit (E.thenX (E.KLX (E.blockX (E.joinJ ⟨rfl,rfl,h⟩ trivial hI)))))))
 rintro _ _ ⟨rfl,rfl,h⟩
 rw [qf9] at h
 refine sr (L.r 1 rfl (ln (W.ret (E.ret1 rfl rfl (fun w1 hw=>?_)))))
 cases h
 exact ⟨_,_,rfl,⟨rfl,rfl⟩,hw⟩
set_option maxRecDepth 100000 in
set_option maxHeartbeats 8000000 in
theorem W57 (a0:(List Int)) (u0:Value) (w:World) (r:(List Int)) (h:M57 a0=some r) (hA0:At w u0 1 (a0.map I)):Does Tryz.prog 57 [u0] w fun u m=>∃ v0,u=v0∧m=[.sl v0 3 1 (r.map I)]:=by
 rw [M57] at h
 rcases hA0.shape with ⟨rfl,hn⟩ | ⟨ad,cap,rfl,hl,hm⟩
 ·obtain rfl:a0=[]:=by simpa using hn
  replace h:some ([]:List Int)=some r:=by simpa [app] using h
  refine body (n:=8) Tryz.func57 rfl rfl rfl (Cls.refl w) (sr (L.r 1 rfl (ln (W.seq (sr (L.r 1 rfl (L.y rfl (Y.eqlNil Tryz.underlying86 rfl rfl) (ln (W.condT rfl ?_)))))))))
  refine sr (L.r 1 rfl (ln (W.ret (E.thenR (E.ret1 rfl rfl (fun w1 hw=>?_))))))
  cases h
  exact ⟨_,_,rfl,⟨_,rfl,rfl⟩,(hw.nilSl 3 1)⟩
 refine body (n:=8) Tryz.func57 rfl rfl rfl (Cls.refl w) (sr (L.r 1 rfl (ln (W.seq (sr (L.r 1 rfl (L.y rfl (Y.eqlNil Tryz.underlying86 rfl rfl) (ln (W.condF rfl ?_)))))))))
 refine W.skip (E.thenN (sr (L.lit0 rfl Tryz.underlying86 eL3 ?_)))
 intro b1
 refine L.r 1 rfl (L.appM (i:=0) (g:=I) (l:=[]) (more:=a0) h rfl Tryz.underlying86 eL3 rfl rfl rfl (fun w' hw=>hA0.cls0 hw) (z7 _) rfl ?_)
 intro v2 l3 el3 h
 refine L.r 1 rfl (ln (W.ret (E.ret1 rfl rfl (fun w1 hw=>?_))))
 cases h
 exact ⟨_,_,rfl,⟨_,rfl,rfl⟩,hw⟩
set_option maxRecDepth 100000 in
set_option maxHeartbeats 8000000 in
theorem qli (a0:TVersion) (a1:Int) (w:World) (r:Int) (h:qkv a0 a1=some r):Does Tryz.prog 114 [.agg #[.int .i64 a0.At,st a0.Text],.int .i64 a1] w fun u m=>u=.int .i64 r∧m=[]:=by
 rw [qkv] at h
 refine body (n:=9) Tryz.func114 rfl rfl rfl (Cls.refl w) (sr (L.box rfl rfl ?_))
 intro b1
 refine L.r 1 rfl (ln (W.seq (sr (L.y rfl (Y.fieldP xD rfl) (L.y rfl (Y.loadP (i:=0) ag3 rfl rfl rfl) (L.r 1 rfl (L.ite h rfl (Y.leq rfl rfl) (fun c2 h=>?_) (fun c2 h=>?_))))))))
 ·refine ln (W.condT rfl (sr (L.r 1 rfl (ln (W.ret (E.thenR (E.ret1 rfl rfl (fun w1 hw=>?_))))))))
  cases h
  exact ⟨_,_,rfl,⟨rfl,rfl⟩,hw.s []⟩
 refine ln (W.condF rfl (W.skip (E.thenN (sr (L.r 1 rfl (ln (W.ret (E.ret1 rfl rfl (fun w1 hw=>?_)))))))))
 cases h
 exact ⟨_,_,rfl,⟨rfl,rfl⟩,hw.s []⟩
set_option maxRecDepth 100000 in
set_option maxHeartbeats 8000000 in
theorem W95 (a0:(List TVersion)) (a1:Int) (u0:Value) (w:World) (r:Int) (h:M95 a0 a1=some r) (hA0:At w u0 2 (a0.map TVersion.row)):Does Tryz.prog 95 [u0,.int .i64 a1] w fun u m=>u=.int .i64 r∧m=[]:=by
 rw [M95] at h
 refine body (n:=15) Tryz.func95 rfl rfl rfl (Cls.refl w) (sr (L.r 1 rfl (nsr (L.r 2 rfl (L.callJ (fun v D=>∃ gx1 gb2,v=.tuple #[.int .i64 gx1,.bool gb2]∧D=Cls w [] []∧qcS gx1 gb2=some r) rfl qaQ rfl Tryz.func113 rfl rfl rfl ?_ ?_)))))
 ·refine sr (L.r 2 rfl (nsr (L.r 1 rfl (L.y rfl (Y.lenM (g:=TVersion.row) (l:=a0) Tryz.underlying66 rfl (fun w' hw=>hA0.cls0 hw)) (L.r 1 rfl (nsr ?_))))))
  refine L.r 3 rfl (ln (W.seqJ (fun gs D=>∃ gx3,gs=[(0,u0),(1,.int .i64 a1),(2,.func (.func 114) #[] #[]),(8,.int .i64 (a0.length:Int)),(9,.int .i64 gx3)]∧D=Cls w [] []∧qf8 a0 a1 gx3=some r) ?_ ?_))
  ·refine W.block (W.loopJ (fun m gs D=>∃ gx5 gx6,gs=[(0,u0),(1,.int .i64 a1),(2,.func (.func 114) #[] #[]),(8,.int .i64 (a0.length:Int)),(9,.int .i64 gx5),(10,.int .i64 gx6)]∧D=Cls w [] []∧wK a0 a1 m gx5 gx6=some r) ⟨0,(a0.length:Int),rfl,rfl,h⟩ ⟨rfl,rfl,rfl,rfl,rfl,rfl,trivial⟩ hI ?_)
   rintro m _ _ ⟨gx5,gx6,rfl,rfl,h⟩
   rcases m with _ | m
   ·rw [wK] at h;cases h
   rw [wK] at h
   generalize hg1:wK a0 a1 m=go1 at h
   rw [qbE] at h
   refine W.seq (sr (L.r 2 rfl (L.ite h rfl (Y.lss rfl rfl) (fun c6 h=>?_) (fun c6 h=>?_))))
   ·refine ln (W.condT rfl (W.skip (E.thenN (W.block (sr (L.r 2 rfl (L.m (V:=fun x7=>.int .i64 x7) h rfl (Y.addM rfl rfl) (fun x7 ex7 h=>(L.y rfl (Y.conv Tryz.underlying3 Tryz.underlying115 rfl) (L.m (V:=fun x8=>.int .u64 x8) h rfl (Y.shrM rfl rfl) (fun x8 ex8 h=>(L.y rfl (Y.conv Tryz.underlying115 Tryz.underlying3 rfl) (L.r 1 rfl ?_)))))))))))))
    refine nsr (L.r 3 rfl (L.m (V:=fun _=>el u0 ((IntKind.wrap .i64 x8).toNat*2)) h rfl (Y.indexM (g:=TVersion.row) (l:=a0) Tryz.underlying66 vB rfl rfl (fun w' hw=>hA0.cls0 hw)) (fun x9 ex9 h=>(L.y rfl (Y.loadEN (r:=[.int .i64 x9.At,st x9.Text]) qin vB rfl (fun w' hw=>hA0.cls0 hw) (qx ex9) rfl) (L.r 1 rfl (L.callVJ (fun v D=>∃ gx7,v=.int .i64 gx7∧D=Cls w [] []∧qeI x8 go1 gx6 gx5 gx7=some r) rfl qi5 rfl rfl Tryz.func114 rfl rfl rfl ?_ ?_))))))
    ·refine sr (L.box rfl rfl ?_)
     intro b12
     refine L.r 1 rfl (ln (W.seq (sr (L.y rfl (Y.fieldP xD rfl) (L.y rfl (Y.loadP (i:=0) ag3 rfl rfl rfl) (L.r 1 rfl (L.ite h rfl (Y.leq rfl rfl) (fun c13 h=>?_) (fun c13 h=>?_))))))))
     ·exact ln (W.condT rfl (sr (L.r 1 rfl (ln (W.ret (E.thenR (E.ret1 rfl rfl (fun w1 hw=>(⟨_,_,rfl,⟨(-1),rfl,rfl,h⟩,hw.s []⟩)))))))))
     exact ln (W.condF rfl (W.skip (E.thenN (sr (L.r 1 rfl (ln (W.ret (E.ret1 rfl rfl (fun w1 hw=>(⟨_,_,rfl,⟨1,rfl,rfl,h⟩,hw.s []⟩))))))))))
    rintro _ _ ⟨gx7,rfl,rfl,h⟩
    rw [qeI] at h
    refine L.ite h rfl (Y.lss rfl rfl) (fun c10 h=>?_) (fun c10 h=>?_)
    ·exact ln (W.condT rfl (W.region (L.r 1 rfl (L.m (V:=fun x11=>.int .i64 x11) h rfl (Y.addM rfl rfl) (fun x11 ex11 h=>(L.r 1 rfl (L.nil (E.blockN (E.aJ ⟨x11,gx6,rfl,rfl,by rw [hg1];exact h⟩ hI)))))))))
    exact ln (W.condF rfl (W.region (L.r 2 rfl (L.nil (E.blockN (E.aJ ⟨gx5,IntKind.wrap .i64 x8,rfl,rfl,by rw [hg1];exact h⟩ hI))))))
   exact ln (W.condF rfl (W.exit (E.thenX (E.KLX (E.blockX (E.jJ ⟨gx5,rfl,rfl,h⟩ hI))))))
  rintro _ _ ⟨gx3,rfl,rfl,h⟩
  rw [qf8] at h
  refine sr (L.r 3 rfl (L.ite h rfl (Y.lss rfl rfl) (fun c2 h=>?_) (fun c2 h=>?_)))
  ·refine L.r 4 rfl (L.take rfl (L.m (V:=fun _=>el u0 (gx3.toNat*2)) h rfl (Y.indexM (g:=TVersion.row) (l:=a0) Tryz.underlying66 vB rfl rfl (fun w' hw=>hA0.cls0 hw)) (fun x3 ex3 h=>(L.take rfl (L.y rfl (Y.loadEN (r:=[.int .i64 x3.At,st x3.Text]) qin vB rfl (fun w' hw=>hA0.cls0 hw) (qx ex3) rfl) (L.r 1 rfl (L.take rfl (L.callVJ (fun v D=>∃ gx4,v=.int .i64 gx4∧D=Cls w [] []∧qcR gx3 gx4=some r) rfl qi5 rfl rfl Tryz.func114 rfl rfl rfl ?_ ?_))))))))
   ·refine sr (L.box rfl rfl ?_)
    intro b4
    refine L.r 1 rfl (ln (W.seq (sr (L.y rfl (Y.fieldP xD rfl) (L.y rfl (Y.loadP (i:=0) ag3 rfl rfl rfl) (L.r 1 rfl (L.ite h rfl (Y.leq rfl rfl) (fun c5 h=>?_) (fun c5 h=>?_))))))))
    ·exact ln (W.condT rfl (sr (L.r 1 rfl (ln (W.ret (E.thenR (E.ret1 rfl rfl (fun w1 hw=>(⟨_,_,rfl,⟨(-1),rfl,rfl,h⟩,hw.s []⟩)))))))))
    exact ln (W.condF rfl (W.skip (E.thenN (sr (L.r 1 rfl (ln (W.ret (E.ret1 rfl rfl (fun w1 hw=>(⟨_,_,rfl,⟨1,rfl,rfl,h⟩,hw.s []⟩))))))))))
   rintro _ _ ⟨gx4,rfl,rfl,h⟩
   rw [qcR] at h
   exact L.take rfl (L.y rfl (Y.eql rfl rfl) (L.r 3 rfl (ln (W.ret (E.ret2 rfl rfl rfl (fun w1 hw=>(⟨_,_,rfl,⟨gx3,decide (gx4=0),rfl,rfl,h⟩,hw⟩)))))))
  exact L.r 12 rfl (ln (W.ret (E.ret2 rfl rfl rfl (fun w1 hw=>(⟨_,_,rfl,⟨gx3,false,rfl,rfl,h⟩,hw⟩)))))
 rintro _ _ ⟨gx1,gb2,rfl,rfl,h⟩
 rw [qcS] at h
 refine L.r 5 rfl (nsr (L.r 1 rfl (L.m (V:=fun x1=>.int .i64 x1) h rfl (Y.subM rfl rfl) (fun x1 ex1 h=>(L.r 1 rfl (ln (W.ret (E.ret1 rfl rfl (fun w1 hw=>?_)))))))))
 cases h
 exact ⟨_,_,rfl,⟨rfl,rfl⟩,hw⟩
set_option maxRecDepth 100000 in
set_option maxHeartbeats 8000000 in
theorem W77 (a0:(List TVersion)) (a1:(List Int)) (a2:Int) (u0:Value) (u1:Value) (w:World) (r:((List TVersion)×Int)) (h:M77 a0 a1 a2=some r) (hA0:At w u0 2 (a0.map TVersion.row)) (hA1:At w u1 1 (a1.map I)):Does Tryz.prog 77 [u0,u1,.int .i64 a2] w fun u m=>∃ v0,u=.tuple #[v0,.int .i64 r.2]∧m=[.sl v0 79 2 (r.1.map TVersion.row)]:=by
 rw [M77] at h
 refine body (n:=57) Tryz.func77 rfl rfl rfl (Cls.refl w) (sr (L.r 2 rfl (ln (W.seq (sr (L.r 3 rfl ?_))))))
 obtain ⟨x1,e2,h⟩:=qd h
 refine L.y rfl (Y.does qi0 rfl (fun w' hw=>(W94 a0 a1 a2 u0 u1 w' _ e2 (hA0.cls0 hw) (hA1.cls0 hw)).mono (fun _ _ h=>h.1))) (L.r 1 rfl (nsr (L.r 1 rfl (L.ite h rfl (Y.neq rfl rfl) (fun c3 h=>?_) (fun c3 h=>?_)))))
 ·refine ln (W.condT rfl (sr (L.r 3 rfl (ln (W.ret (E.thenR (E.ret2 rfl rfl rfl (fun w1 hw=>?_))))))))
  cases h
  exact ⟨_,_,rfl,⟨_,rfl,rfl⟩,(hw.nilSl 79 2)⟩
 refine ln (W.condF rfl (W.skip (E.thenN (sr (L.makeMap rfl ?_)))))
 intro b4
 refine L.r 1 rfl (ln (W.seqJ (fun gs D=>∃ gl1,gs=[(0,u0),(9,.map (some b4))]∧D=Cls w [] [.mp b4 (zP (VI .i64) gl1)]∧qeM a0 gl1=some r) ?_ ?_))
 ·refine sr (L.r 1 rfl ?_)
  obtain ⟨l14,e16,h⟩:=qd h
  refine L.does rfl qkc rfl (fun w' hw=>W57 a1 u1 w' _ e16 (hA1.cls0 hw)) ?_
  rintro v15 _ ⟨_,rfl,rfl⟩
  refine L.r 1 rfl (L.litOne rfl Tryz.underlying86 eL3 rfl rfl ?_)
  intro b17
  refine L.appM (i:=1) (g:=I) (l:=l14) (more:=[a2]) h rfl Tryz.underlying86 eL3 rfl rfl rfl (fun w hw=>As.at_ (hw.get (i:=0) rfl)) (z7 _) rfl ?_
  intro v18 l19 el19 h
  refine L.y rfl (Y.lenM (g:=I) (l:=l19) Tryz.underlying86 rfl (fun w hw=>As.at_ (hw.get (i:=0) rfl))) (L.r 1 rfl (ln (W.block (W.loopJ (fun m gs D=>∃ gx7 gl8,gs=[(0,u0),(9,.map (some b4)),(27,v18),(28,.int .i64 (l19.length:Int)),(29,.int .i64 gx7)]∧D=Cls w [] [.mp b4 (zP (VI .i64) gl8),.sl v18 3 1 (l19.map I)]∧wP l19 a0 m gx7 gl8=some r) ⟨0,[],rfl,rfl,h⟩ ⟨rfl,rfl,rfl,rfl,rfl,trivial⟩ (sI [2,0]) ?_))))
  rintro m _ _ ⟨gx7,gl8,rfl,rfl,h⟩
  rcases m with _ | m
  ·rw [wP] at h;cases h
  rw [wP] at h
  generalize hg2:wP l19 a0 m=go2 at h
  rw [qbJ] at h
  refine sr (L.ite h rfl (Y.lss rfl rfl) (fun c20 h=>?_) (fun c20 h=>?_))
  ·refine ln (W.seq (W.condT rfl (W.skip (E.thenN (W.seq (W.block (sr (L.m (V:=fun _=>el v18 (gx7.toNat*1)) h rfl (Y.indexM (g:=I) (l:=l19) Tryz.underlying86 sz3 rfl rfl (fun w hw=>As.at_ (hw.get (i:=1) rfl))) (fun x21 ex21 h=>(L.y rfl (Y.loadE1 (u:=.int .i64 x21) ag3 rfl (fun w hw=>As.at_ (hw.get (i:=1) rfl)) (qx ex21)) (L.r 1 rfl (L.nil ?_))))))))))))
   refine E.thenN (W.region (L.r 3 rfl ?_))
   obtain ⟨x22,e23,h⟩:=qd h
   refine L.y rfl (Y.does qkI rfl (fun w' hw=>(W95 a0 x21 u0 w' _ e23 (hA0.cls0 hw)).mono (fun _ _ h=>h.1))) (L.y rfl (Y.lookupM (i:=0) (g:=(VI .i64)) (lm:=gl8) (z0:=0) Tryz.underlying169 Tryz.underlying3 (by kernel_rfl) rfl rfl rfl rfl) (L.m (V:=fun x24=>.int .i64 x24) h rfl (Y.addM rfl rfl) (fun x24 ex24 h=>(L.mapSet (i:=0) (g:=(VI .i64)) (lm:=gl8) (v0:=x24) Tryz.underlying169 Tryz.underlying3 rfl rfl rfl rfl ?_))))
   obtain ⟨l25,el25,h⟩:=qd h
   obtain rfl:=Option.some.inj el25
   exact L.nil (E.blockN (E.thenN (W.region (L.m (V:=fun x26=>.int .i64 x26) h rfl (Y.addM rfl rfl) (fun x26 ex26 h=>(L.r 1 rfl (L.nil (E.aJ ⟨x26,qU gl8 x22 x24,rfl,rfl,by rw [hg2];exact h⟩ hI))))))))
  exact ln (W.seq (W.condF rfl (W.exit (E.thenX (E.KLX (E.blockX (E.jJ ⟨gl8,rfl,rfl,h⟩ (sI [0]))))))))
 rintro _ _ ⟨gl1,rfl,rfl,h⟩
 rw [qeM] at h
 refine sr (L.r 1 rfl (ln (W.seqJ (fun gs D=>∃ gv2 gl3,gs=[(12,gv2)]∧D=Cls w [] [.sl gv2 79 2 (gl3.map TVersion.row)]∧qgc gl3=some r) ?_ ?_)))
 ·refine sr (L.r 1 rfl (L.y rfl (Y.lenM (g:=TVersion.row) (l:=a0) Tryz.underlying66 rfl (fun w' hw=>hA0.cls0 hw)) (L.r 1 rfl (ln (W.block (W.nilSl 79 2 (W.loopJ (fun m gs D=>∃ gv4 gl5 gx6,gs=[(9,.map (some b4)),(12,gv4),(40,u0),(41,.int .i64 (a0.length:Int)),(42,.int .i64 gx6)]∧D=Cls w [] [.mp b4 (zP (VI .i64) gl1),.sl gv4 79 2 (gl5.map TVersion.row)]∧wQ a0 gl1 m gl5 gx6=some r) ⟨.slice none 0 0,[],0,rfl,rfl,h⟩ ⟨rfl,rfl,rfl,rfl,rfl,trivial⟩ (sI [1,0]) ?_)))))))
  rintro m _ _ ⟨gv4,gl5,gx6,rfl,rfl,h⟩
  rcases m with _ | m
  ·rw [wQ] at h;cases h
  rw [wQ] at h
  generalize hg1:wQ a0 gl1 m=go1 at h
  rw [qbK] at h
  refine sr (L.ite h rfl (Y.lss rfl rfl) (fun c5 h=>?_) (fun c5 h=>?_))
  ·refine ln (W.seq (W.condT rfl (W.skip (E.thenN (W.seq (W.block (sr (L.r 1 rfl (L.m (V:=fun _=>el u0 (gx6.toNat*2)) h rfl (Y.indexM (g:=TVersion.row) (l:=a0) Tryz.underlying66 vB rfl rfl (fun w' hw=>hA0.cls0 hw)) (fun x6 ex6 h=>(L.y rfl (Y.loadEN (r:=[.int .i64 x6.At,st x6.Text]) qin vB rfl (fun w' hw=>hA0.cls0 hw) (qx ex6) rfl) (L.alloc rfl qjw ?_))))))))))))
   intro b7
   refine L.r 1 rfl (L.store (i:=0) (vs:=[.int .i64 x6.At,st x6.Text]) vB rfl rfl rfl rfl (by simp [Value.oneCell',Value.cells,st,pt,el]) rfl nb (nsr (L.r 2 rfl (L.y rfl (Y.lookupM (i:=1) (g:=(VI .i64)) (lm:=gl1) (z0:=0) Tryz.underlying169 Tryz.underlying3 (by kernel_rfl) rfl rfl rfl rfl) (L.ite h rfl (Y.gtr rfl rfl) (fun c8 h=>?_) (fun c8 h=>?_))))))
   ·refine ln (W.condT rfl (W.region (L.r 1 rfl (L.y rfl (Y.loadPW (i:=0) qin vB rfl rfl rfl) (L.litAgg rfl Tryz.underlying66 qgU rfl rfl rfl ?_)))))
    intro b9
    refine L.appM (i:=3) (g:=TVersion.row) (l:=gl5) (more:=[x6]) h rfl Tryz.underlying66 qgU rfl rfl rfl (fun w hw=>As.at_ (hw.get (i:=0) rfl)) (zV _) rfl ?_
    intro v10 l11 el11 h
    exact L.r 1 rfl (L.nil (E.blockN (E.thenN (W.region (L.m (V:=fun x12=>.int .i64 x12) h rfl (Y.addM rfl rfl) (fun x12 ex12 h=>(L.r 1 rfl (L.nil (E.aJ ⟨v10,l11,x12,rfl,rfl,by rw [hg1];exact h⟩ (sI [3,0]))))))))))
   exact ln (W.condF rfl (W.skip (E.blockN (E.thenN (W.region (L.m (V:=fun x13=>.int .i64 x13) h rfl (Y.addM rfl rfl) (fun x13 ex13 h=>(L.r 1 rfl (L.nil (E.aJ ⟨gv4,gl5,x13,rfl,rfl,by rw [hg1];exact h⟩ (sI [1,2])))))))))))
  exact ln (W.seq (W.condF rfl (W.exit (E.thenX (E.KLX (E.blockX (E.jJ ⟨gv4,gl5,rfl,rfl,h⟩ (sI [1]))))))))
 rintro _ _ ⟨gv2,gl3,rfl,rfl,h⟩
 rw [qgc] at h
 refine sr (L.r 3 rfl (ln (W.ret (E.ret2 rfl rfl rfl (fun w1 hw=>?_)))))
 cases h
 exact ⟨_,_,rfl,⟨_,rfl,rfl⟩,hw⟩
set_option maxRecDepth 100000 in
set_option maxHeartbeats 8000000 in
theorem W33 (a0:Int) (a1:Int) (A70:(List TStore)) (A88:(List Ttx)) (gP70:Nat→Nat) (gP88:Nat→Nat) (gP100:Nat→Nat) (qP70:Nat→List Value) (qP88:Nat→List Value) (w:World) (r:(List TStore)) (h:M33 a0 a1 A70 A88=some r) (F:List Nat) (hc0:Cls w F [qf gP70 gP88 gP100 qP70 A70 [],qj gP88 qP88 A88 []] w):zg Tryz.prog 33 [VP gP70 a0,VP gP88 a1] F w fun u m=>∃ Q70,u=.tuple #[]∧m=[qf gP70 gP88 gP100 Q70 r [],qj gP88 qP88 A88 []]:=by
 rw [M33] at h
 refine body (n:=79) Tryz.func33 rfl rfl rfl hc0 ?_
 obtain ⟨th1,eth1,h⟩:=qd h
 refine W.to (D:=Cls w F [.obj (gP70 a0.toNat) (List.flatten [(zr (fzr (PR gP100)) (fun _=>[]) th1.logs_).flatten,[.int .i64 th1.half_],[.int .i64 th1.gen_],[.bool th1.down_],[.int .i64 th1.now_],(zr qi (qk (qP70 a0.toNat) 2) th1.items_).flatten,[(gv (qP70 a0.toNat) 0)],[(gv (qP70 a0.toNat) 1)]]) 70,.sl (gv (qP70 a0.toNat) 0) 84 1 (th1.active_.map (PR gP88)),.sl (gv (qP70 a0.toNat) 1) 84 1 (th1.over_.map (PR gP88)),.ss (zs sd0 (fun _=>[]) th1.logs_),.ss (zs (qq 79 2 TVersion.row) (qk (qP70 a0.toNat) 2) th1.items_),qf gP70 gP88 gP100 qP70 A70 (a0.toNat :: []),qj gP88 qP88 A88 []]) (fun _ hw=>hw.arOpen (p:=0) rfl eth1 List.not_mem_nil) (sr (L.box rfl rfl ?_))
 intro b2
 rw [show (VP gP88 a1).cells.toList=[VP gP88 a1] from by rw [zG]]
 refine nsr (L.r 2 rfl (L.y rfl (Y.apNil rfl eth1) (L.y rfl (Y.fieldP k4 rfl) ?_)))
 obtain ⟨_,en3,h⟩:=qd h
 obtain ⟨_,en3⟩:=qh en3
 obtain ⟨_,en4,h⟩:=qd h
 obtain ⟨_,en4⟩:=qh en4
 refine L.y rfl (Y.loadG (q:=1) (si:=6) (ps:=26) (j:=0) (X:=[(gv (qP70 a0.toNat) 0)]) qgY rfl rfl rfl rfl (sl1 (a:=2) (p:=24) (zrN (nn:=2) (k:=1) (fun _ _=>rfl) en3) (sl1 (a:=1) (p:=23) rfl (sl1 (a:=1) (p:=22) rfl (sl1 (a:=1) (p:=21) rfl (sl1 (a:=1) (p:=20) rfl (sl1 (a:=20) (p:=0) (zrN (nn:=20) (k:=1) (fun _ _=>rfl) en4) sl0)))))) rfl) (L.y rfl (Y.func rfl) (L.callJ (fun v D=>∃ gv1 gl2,v=gv1∧D=Cls w F [qf gP70 gP88 gP100 qP70 A70 (a0.toNat :: []),qj gP88 qP88 A88 [],.obj (gP70 a0.toNat) (List.flatten [(zr (fzr (PR gP100)) (fun _=>[]) th1.logs_).flatten,[.int .i64 th1.half_],[.int .i64 th1.gen_],[.bool th1.down_],[.int .i64 th1.now_],(zr qi (qk (qP70 a0.toNat) 2) th1.items_).flatten,[(gv (qP70 a0.toNat) 0)],[(gv (qP70 a0.toNat) 1)]]) 70,.ss (zs sd0 (fun _=>[]) th1.logs_),.ss (zs (qq 79 2 TVersion.row) (qk (qP70 a0.toNat) 2) th1.items_),.sl gv1 84 1 (gl2.map (PR gP88)),.sl (gv (qP70 a0.toNat) 1) 84 1 (th1.over_.map (PR gP88))]∧qaX A88 th1 A70 a0 gl2=some r) rfl qkf rfl Tryz.func53 rfl rfl rfl ?_ ?_))
 ·refine sr (L.r 1 rfl (nsr (L.r 2 rfl (L.callJ (fun v D=>∃ gx54,v=.int .i64 gx54∧D=Cls w F [qf gP70 gP88 gP100 qP70 A70 (a0.toNat :: []),qj gP88 qP88 A88 [],.obj b2 [VP gP88 a1] 84,.obj (gP70 a0.toNat) (List.flatten [(zr (fzr (PR gP100)) (fun _=>[]) th1.logs_).flatten,[.int .i64 th1.half_],[.int .i64 th1.gen_],[.bool th1.down_],[.int .i64 th1.now_],(zr qi (qk (qP70 a0.toNat) 2) th1.items_).flatten,[(gv (qP70 a0.toNat) 0)],[(gv (qP70 a0.toNat) 1)]]) 70,.ss (zs sd0 (fun _=>[]) th1.logs_),.ss (zs (qq 79 2 TVersion.row) (qk (qP70 a0.toNat) 2) th1.items_),.sl (gv (qP70 a0.toNat) 0) 84 1 (th1.active_.map (PR gP88)),.sl (gv (qP70 a0.toNat) 1) 84 1 (th1.over_.map (PR gP88))]∧wa A88 th1 A70 a0 a1 gx54=some r) rfl qhU rfl Tryz.func49 rfl rfl rfl ?_ ?_))))
  ·refine sr (L.r 1 rfl (ln (W.seqJ (fun gs D=>gs=[]∧D=Cls w F [qf gP70 gP88 gP100 qP70 A70 (a0.toNat :: []),qj gP88 qP88 A88 [],.obj b2 [VP gP88 a1] 84,.obj (gP70 a0.toNat) (List.flatten [(zr (fzr (PR gP100)) (fun _=>[]) th1.logs_).flatten,[.int .i64 th1.half_],[.int .i64 th1.gen_],[.bool th1.down_],[.int .i64 th1.now_],(zr qi (qk (qP70 a0.toNat) 2) th1.items_).flatten,[(gv (qP70 a0.toNat) 0)],[(gv (qP70 a0.toNat) 1)]]) 70,.ss (zs sd0 (fun _=>[]) th1.logs_),.ss (zs (qq 79 2 TVersion.row) (qk (qP70 a0.toNat) 2) th1.items_),.sl (gv (qP70 a0.toNat) 0) 84 1 (th1.active_.map (PR gP88)),.sl (gv (qP70 a0.toNat) 1) 84 1 (th1.over_.map (PR gP88))]∧qb0 A88 th1 A70 a0 a1=some r) ?_ ?_)))
   ·refine sr (L.r 1 rfl (L.y rfl (Y.lenM (g:=(PR gP88)) (l:=th1.active_) Tryz.underlying68 rfl (fun w hw=>As.at_ (hw.get (i:=2) rfl))) (L.r 1 rfl (ln (W.block (W.loopJ (fun m gs D=>∃ gx60,gs=[(0,(gv (qP70 a0.toNat) 0)),(1,.func (.func 54) #[] #[pt b2 0]),(7,.int .i64 (th1.active_.length:Int)),(8,.int .i64 gx60)]∧D=Cls w F [qf gP70 gP88 gP100 qP70 A70 (a0.toNat :: []),qj gP88 qP88 A88 [],.obj b2 [VP gP88 a1] 84,.obj (gP70 a0.toNat) (List.flatten [(zr (fzr (PR gP100)) (fun _=>[]) th1.logs_).flatten,[.int .i64 th1.half_],[.int .i64 th1.gen_],[.bool th1.down_],[.int .i64 th1.now_],(zr qi (qk (qP70 a0.toNat) 2) th1.items_).flatten,[(gv (qP70 a0.toNat) 0)],[(gv (qP70 a0.toNat) 1)]]) 70,.ss (zs sd0 (fun _=>[]) th1.logs_),.ss (zs (qq 79 2 TVersion.row) (qk (qP70 a0.toNat) 2) th1.items_),.sl (gv (qP70 a0.toNat) 0) 84 1 (th1.active_.map (PR gP88)),.sl (gv (qP70 a0.toNat) 1) 84 1 (th1.over_.map (PR gP88))]∧jx th1 A88 a1 A70 a0 m gx60=some r) ⟨0,rfl,rfl,h⟩ ⟨rfl,rfl,rfl,rfl,trivial⟩ (sI [6,7,0,1,4,5,2,3]) ?_))))))
    rintro m _ _ ⟨gx60,rfl,rfl,h⟩
    rcases m with _ | m
    ·rw [jx] at h;cases h
    rw [jx] at h
    generalize hg10:jx th1 A88 a1 A70 a0 m=go10 at h
    rw [w6] at h
    refine sr (L.ite h rfl (Y.lss rfl rfl) (fun c121 h=>?_) (fun c121 h=>?_))
    ·refine ln (W.seq (W.condT rfl (W.skip (E.thenN (W.seq (W.block (sr (L.r 2 rfl (ln (W.seq ?_))))))))))
     refine W.region (L.r 3 rfl (L.m (V:=fun _=>el (gv (qP70 a0.toNat) 0) (gx60.toNat*1)) h rfl (Y.indexM (g:=(PR gP88)) (l:=th1.active_) Tryz.underlying68 yn rfl rfl (fun w hw=>As.at_ (hw.get (i:=6) rfl))) (fun x122 ex122 h=>(L.y rfl (Y.loadE1 (u:=VP gP88 x122) qdd rfl (fun w hw=>As.at_ (hw.get (i:=6) rfl)) (qx ex122)) (L.callVJ (fun v D=>v=.bool (decide (x122=a1))∧D=Cls w F [qf gP70 gP88 gP100 qP70 A70 (a0.toNat :: []),qj gP88 qP88 A88 [],.obj b2 [VP gP88 a1] 84,.obj (gP70 a0.toNat) (List.flatten [(zr (fzr (PR gP100)) (fun _=>[]) th1.logs_).flatten,[.int .i64 th1.half_],[.int .i64 th1.gen_],[.bool th1.down_],[.int .i64 th1.now_],(zr qi (qk (qP70 a0.toNat) 2) th1.items_).flatten,[(gv (qP70 a0.toNat) 0)],[(gv (qP70 a0.toNat) 1)]]) 70,.ss (zs sd0 (fun _=>[]) th1.logs_),.ss (zs (qq 79 2 TVersion.row) (qk (qP70 a0.toNat) 2) th1.items_),.sl (gv (qP70 a0.toNat) 0) 84 1 (th1.active_.map (PR gP88)),.sl (gv (qP70 a0.toNat) 1) 84 1 (th1.over_.map (PR gP88))]∧qbZ x122 a1 A88 th1 A70 a0 gx60 go10=some r) rfl qke rfl rfl Tryz.func54 rfl rfl rfl ?_ ?_)))))
     ·refine sr (L.r 1 rfl (nsr (L.r 1 rfl (L.y rfl (Y.loadP (i:=2) qdd rfl rfl rfl) ?_))))
      obtain ⟨th124,eth124,h⟩:=qd h
      obtain ⟨th125,eth125,h⟩:=qd h
      exact L.y rfl (Y.eqlAA (p:=1) Tryz.underlying84 qj9  rfl rfl rfl eth124 eth125) (L.r 1 rfl (ln (W.ret (E.ret1 rfl rfl (fun w1 hw=>(⟨_,_,rfl,⟨rfl,rfl,h⟩,hw⟩))))))
     rintro _ _ ⟨rfl,rfl,h⟩
     rw [qbZ] at h
     refine ln (W.caseB (q:=16) h rfl (fun h=>?_) (fun h=>?_))
     ·exact W.condT rfl (sr (L.r 2 rfl (ln (W.ret (E.blockR (E.thenR (E.KLR (E.blockR (E.KSR (E.ret1 rfl rfl (fun w1 hw=>(⟨_,_,rfl,⟨gx60,rfl,rfl,h⟩,hw⟩))))))))))))
     exact W.condF rfl (W.skip (E.blockN (E.thenN (W.region (L.m (V:=fun x123=>.int .i64 x123) h rfl (Y.addM rfl rfl) (fun x123 ex123 h=>(L.r 1 rfl (L.nil (E.aJ ⟨x123,rfl,rfl,by rw [hg10];exact h⟩ hI)))))))))
    exact ln (W.seq (W.condF rfl (W.exit (E.thenX (E.KLX (E.blockX (E.joinJ ⟨rfl,rfl,h⟩ trivial hI)))))))
   rintro _ _ ⟨rfl,rfl,h⟩
   rw [qb0] at h
   exact sr (L.r 1 rfl (ln (W.ret (E.ret1 rfl rfl (fun w1 hw=>(⟨_,_,rfl,⟨(-1),rfl,rfl,h⟩,hw⟩))))))
  rintro _ _ ⟨gx54,rfl,rfl,h⟩
  rw [wa] at h
  refine L.r 1 rfl (ln (W.seq (sr (L.r 1 rfl (L.ite h rfl (Y.eql rfl rfl) (fun c105 h=>?_) (fun c105 h=>?_))))))
  ·exact ln (W.condT rfl (sr (L.r 2 rfl (ln (W.ret (E.thenR (E.ret1 rfl rfl (fun w1 hw=>(⟨_,_,rfl,⟨(gv (qP70 a0.toNat) 0),th1.active_,rfl,rfl,h⟩,hw.s [0,1,3,4,5,6,7]⟩)))))))))
  refine ln (W.condF rfl (W.skip (E.thenN (W.seqJ (fun gs D=>∃ gl55 gx56,gs=[(0,(gv (qP70 a0.toNat) 0)),(5,.int .i64 gx56)]∧D=Cls w F [qf gP70 gP88 gP100 qP70 A70 (a0.toNat :: []),qj gP88 qP88 A88 [],.obj (gP70 a0.toNat) (List.flatten [(zr (fzr (PR gP100)) (fun _=>[]) th1.logs_).flatten,[.int .i64 th1.half_],[.int .i64 th1.gen_],[.bool th1.down_],[.int .i64 th1.now_],(zr qi (qk (qP70 a0.toNat) 2) th1.items_).flatten,[(gv (qP70 a0.toNat) 0)],[(gv (qP70 a0.toNat) 1)]]) 70,.ss (zs sd0 (fun _=>[]) th1.logs_),.ss (zs (qq 79 2 TVersion.row) (qk (qP70 a0.toNat) 2) th1.items_),.sl (gv (qP70 a0.toNat) 0) 84 1 (gl55.map (PR gP88)),.sl (gv (qP70 a0.toNat) 1) 84 1 (th1.over_.map (PR gP88))]∧qb2 A88 th1 A70 a0 gl55 gx56=some r) ?_ ?_))))
  ·refine sr (L.r 1 rfl (L.m (V:=fun x110=>.int .i64 x110) h rfl (Y.addM rfl rfl) (fun x110 ex110 h=>(L.r 1 rfl (ln (W.block (W.loopJ (fun m gs D=>∃ gl57 gx58 gx59,gs=[(0,(gv (qP70 a0.toNat) 0)),(1,.func (.func 54) #[] #[pt b2 0]),(5,.int .i64 gx58),(6,.int .i64 gx59)]∧D=Cls w F [qf gP70 gP88 gP100 qP70 A70 (a0.toNat :: []),qj gP88 qP88 A88 [],.obj b2 [VP gP88 a1] 84,.obj (gP70 a0.toNat) (List.flatten [(zr (fzr (PR gP100)) (fun _=>[]) th1.logs_).flatten,[.int .i64 th1.half_],[.int .i64 th1.gen_],[.bool th1.down_],[.int .i64 th1.now_],(zr qi (qk (qP70 a0.toNat) 2) th1.items_).flatten,[(gv (qP70 a0.toNat) 0)],[(gv (qP70 a0.toNat) 1)]]) 70,.ss (zs sd0 (fun _=>[]) th1.logs_),.ss (zs (qq 79 2 TVersion.row) (qk (qP70 a0.toNat) 2) th1.items_),.sl (gv (qP70 a0.toNat) 0) 84 1 (gl57.map (PR gP88)),.sl (gv (qP70 a0.toNat) 1) 84 1 (th1.over_.map (PR gP88))]∧wV A88 a1 th1 A70 a0 m gl57 gx58 gx59=some r) ⟨th1.active_,gx54,x110,rfl,rfl,h⟩ ⟨rfl,rfl,rfl,rfl,trivial⟩ hI ?_)))))))
   rintro m _ _ ⟨gl57,gx58,gx59,rfl,rfl,h⟩
   rcases m with _ | m
   ·rw [wV] at h;cases h
   rw [wV] at h
   generalize hg9:wV A88 a1 th1 A70 a0 m=go9 at h
   rw [qbQ] at h
   refine W.seq (sr (L.r 2 rfl (L.y rfl (Y.lenM (g:=(PR gP88)) (l:=gl57) Tryz.underlying68 rfl (fun w hw=>As.at_ (hw.get (i:=6) rfl))) (L.ite h rfl (Y.lss rfl rfl) (fun c111 h=>?_) (fun c111 h=>?_)))))
   ·refine ln (W.condT rfl (W.skip (E.thenN (W.seq (W.block (sr (L.r 2 rfl (L.m (V:=fun _=>el (gv (qP70 a0.toNat) 0) (gx59.toNat*1)) h rfl (Y.indexM (g:=(PR gP88)) (l:=gl57) Tryz.underlying68 yn rfl rfl (fun w hw=>As.at_ (hw.get (i:=6) rfl))) (fun x112 ex112 h=>(L.y rfl (Y.loadE1 (u:=VP gP88 x112) qdd rfl (fun w hw=>As.at_ (hw.get (i:=6) rfl)) (qx ex112)) (L.r 1 rfl (L.nil ?_))))))))))))
    refine E.thenN (sr (L.r 2 rfl (L.callVJ (fun v D=>v=.bool (decide (x112=a1))∧D=Cls w F [qf gP70 gP88 gP100 qP70 A70 (a0.toNat :: []),qj gP88 qP88 A88 [],.obj b2 [VP gP88 a1] 84,.obj (gP70 a0.toNat) (List.flatten [(zr (fzr (PR gP100)) (fun _=>[]) th1.logs_).flatten,[.int .i64 th1.half_],[.int .i64 th1.gen_],[.bool th1.down_],[.int .i64 th1.now_],(zr qi (qk (qP70 a0.toNat) 2) th1.items_).flatten,[(gv (qP70 a0.toNat) 0)],[(gv (qP70 a0.toNat) 1)]]) 70,.ss (zs sd0 (fun _=>[]) th1.logs_),.ss (zs (qq 79 2 TVersion.row) (qk (qP70 a0.toNat) 2) th1.items_),.sl (gv (qP70 a0.toNat) 0) 84 1 (gl57.map (PR gP88)),.sl (gv (qP70 a0.toNat) 1) 84 1 (th1.over_.map (PR gP88))]∧qb1 x112 a1 gl57 gx58 gx59 go9=some r) rfl qke rfl rfl Tryz.func54 rfl rfl rfl ?_ ?_)))
    ·refine sr (L.r 1 rfl (nsr (L.r 1 rfl (L.y rfl (Y.loadP (i:=2) qdd rfl rfl rfl) ?_))))
     obtain ⟨th119,eth119,h⟩:=qd h
     obtain ⟨th120,eth120,h⟩:=qd h
     exact L.y rfl (Y.eqlAA (p:=1) Tryz.underlying84 qj9  rfl rfl rfl eth119 eth120) (L.r 1 rfl (ln (W.ret (E.ret1 rfl rfl (fun w1 hw=>(⟨_,_,rfl,⟨rfl,rfl,h⟩,hw⟩))))))
    rintro _ _ ⟨rfl,rfl,h⟩
    rw [qb1] at h
    refine L.iteB h rfl (Y.not rfl) (fun c113 h=>?_) (fun c113 h=>?_)
    ·refine ln (W.condT rfl (sr (L.r 3 rfl (L.m (V:=fun _=>el (gv (qP70 a0.toNat) 0) (gx58.toNat*1)) h rfl (Y.indexM (g:=(PR gP88)) (l:=gl57) Tryz.underlying68 yn rfl rfl (fun w hw=>As.at_ (hw.get (i:=6) rfl))) (fun x114 ex114 h=>(L.storeSlM (q:=6) (row:=(PR gP88)) (vs:=[VP gP88 x112]) (j:=0) (u1:=x112) h yn rfl rfl rfl (by rw [zG]) rfl (zi (qbC _ _) zq) rfl ex114 rfl rfl ?_))))))
     intro l115 el115 h
     exact nr (L.r 1 rfl (L.m (V:=fun x116=>.int .i64 x116) h rfl (Y.addM rfl rfl) (fun x116 ex116 h=>(L.r 1 rfl (L.nil (E.blockN (E.thenN (W.region (L.r 1 rfl (L.m (V:=fun x117=>.int .i64 x117) h rfl (Y.addM rfl rfl) (fun x117 ex117 h=>(L.r 1 rfl (L.nil (E.aJ ⟨l115,x116,x117,rfl,rfl,by rw [hg9];exact h⟩ hI))))))))))))))
    exact ln (W.condF rfl (W.skip (E.blockN (E.thenN (W.region (L.r 1 rfl (L.m (V:=fun x118=>.int .i64 x118) h rfl (Y.addM rfl rfl) (fun x118 ex118 h=>(L.r 1 rfl (L.nil (E.aJ ⟨gl57,gx58,x118,rfl,rfl,by rw [hg9];exact h⟩ hI)))))))))))
   exact ln (W.condF rfl (W.exit (E.thenX (E.KLX (E.blockX (E.jJ ⟨gl57,gx58,rfl,rfl,h⟩ (sI [0,1,3,4,5,6,7])))))))
  rintro _ _ ⟨gl55,gx56,rfl,rfl,h⟩
  rw [qb2] at h
  refine sr (L.r 2 rfl (L.m (V:=fun _=>zQ (gv (qP70 a0.toNat) 0) gx56.toNat 1) h rfl (Y.dropM (g:=(PR gP88)) Tryz.underlying68 yn rfl rfl (fun w hw=>As.at_ (hw.get (i:=5) rfl))) (fun l106 el106 h=>(L.clearM (i:=5) (g:=(PR gP88)) (z0:=(-1)) (a:=gx56) h Tryz.underlying68 qe5 qj5 (fun u hu=>((jG _):Plain ([(-1)].map (PR gP88))) _ (List.mem_cons_self ..) u hu) rfl rfl ?_))))
  intro l107 el107 h
  refine nsr (L.r 2 rfl ?_)
  obtain ⟨l108,el108,h⟩:=qd h
  exact L.cutM (i:=5) (g:=(PR gP88)) el108 rfl Tryz.underlying68 yn rfl rfl rfl (fun v109=>(L.r 1 rfl (ln (W.ret (E.ret1 rfl rfl (fun w1 hw=>(⟨_,_,rfl,⟨v109,l108,rfl,rfl,h⟩,hw⟩)))))))
 rintro gv1 _ ⟨_,gl2,rfl,rfl,h⟩
 rw [qaX] at h
 refine L.y rfl (Y.apNil rfl eth1) (L.y rfl (Y.fieldP k4 rfl) (L.storeGV (q:=2) (si:=6) (ps:=26) (j:=0) (X:=[(gv (qP70 a0.toNat) 0)]) qjk rfl rfl rfl (fun _ hw=>(As.at_ (hw.get (i:=5) rfl)).one) rfl rfl (sl1 (a:=2) (p:=24) (zrN (nn:=2) (k:=1) (fun _ _=>rfl) en3) (sl1 (a:=1) (p:=23) rfl (sl1 (a:=1) (p:=22) rfl (sl1 (a:=1) (p:=21) rfl (sl1 (a:=1) (p:=20) rfl (sl1 (a:=20) (p:=0) (zrN (nn:=20) (k:=1) (fun _ _=>rfl) en4) sl0)))))) rfl (nsr (L.r 1 rfl (L.y rfl (Y.apNil rfl eth1) (L.y rfl (Y.fieldP va rfl) (L.y rfl (Y.loadG (q:=2) (si:=4) (ps:=5) (j:=0) (X:=[.int .i64 th1.now_]) ag3 rfl rfl rfl rfl (sl1 (a:=2) (p:=3) (zrN (nn:=2) (k:=1) (fun _ _=>rfl) en3) (sl1 (a:=1) (p:=2) rfl (sl1 (a:=1) (p:=1) rfl (sl1 (a:=1) (p:=0) rfl sl0)))) rfl) (L.alloc rfl ze3 ?_))))))))
 intro b5
 refine L.store (i:=0) (vs:=[.int .i64 th1.now_]) sz3 rfl rfl rfl rfl (by simp [Value.oneCell',Value.cells,st,pt,el]) rfl nb (nsr (L.r 1 rfl (ln (W.seqJ (fun gs D=>∃ gv3 gl4 gx5,gs=[(0,VP gP70 a0),(4,pt b5 0),(5,gv3)]∧D=Cls w F [qf gP70 gP88 gP100 qP70 A70 (a0.toNat :: []),qj gP88 qP88 A88 [],.obj b5 [.int .i64 gx5] 3,.obj (gP70 a0.toNat) (List.flatten [(zr (fzr (PR gP100)) (fun _=>[]) th1.logs_).flatten,[.int .i64 th1.half_],[.int .i64 th1.gen_],[.bool th1.down_],[.int .i64 th1.now_],(zr qi (qk (qP70 a0.toNat) 2) th1.items_).flatten,[gv1],[(gv (qP70 a0.toNat) 1)]]) 70,.ss (zs sd0 (fun _=>[]) th1.logs_),.ss (zs (qq 79 2 TVersion.row) (qk (qP70 a0.toNat) 2) th1.items_),.sl gv3 3 1 (gl4.map I),.sl gv1 84 1 (gl2.map (PR gP88)),.sl (gv (qP70 a0.toNat) 1) 84 1 (th1.over_.map (PR gP88))]∧qcY th1 A88 A70 a0 gl2 gl4 gx5=some r) ?_ ?_))))
 ·refine sr (L.r 1 rfl (L.y rfl (Y.apNil rfl eth1) (L.y rfl (Y.fieldP k4 rfl) (L.y rfl (Y.loadG (q:=3) (si:=6) (ps:=26) (j:=0) (X:=[gv1]) qgY rfl rfl rfl rfl (sl1 (a:=2) (p:=24) (zrN (nn:=2) (k:=1) (fun _ _=>rfl) en3) (sl1 (a:=1) (p:=23) rfl (sl1 (a:=1) (p:=22) rfl (sl1 (a:=1) (p:=21) rfl (sl1 (a:=1) (p:=20) rfl (sl1 (a:=20) (p:=0) (zrN (nn:=20) (k:=1) (fun _ _=>rfl) en4) sl0)))))) rfl) (L.y rfl (Y.lenM (g:=(PR gP88)) (l:=gl2) Tryz.underlying68 rfl (fun w hw=>As.at_ (hw.get (i:=6) rfl))) (L.r 1 rfl (ln (W.block (W.nilSl 3 1 (W.loopJ (fun m gs D=>∃ gv50 gl51 gx52 gx53,gs=[(0,VP gP70 a0),(4,pt b5 0),(5,gv50),(26,gv1),(27,.int .i64 (gl2.length:Int)),(28,.int .i64 gx52)]∧D=Cls w F [qf gP70 gP88 gP100 qP70 A70 (a0.toNat :: []),qj gP88 qP88 A88 [],.obj b5 [.int .i64 gx53] 3,.obj (gP70 a0.toNat) (List.flatten [(zr (fzr (PR gP100)) (fun _=>[]) th1.logs_).flatten,[.int .i64 th1.half_],[.int .i64 th1.gen_],[.bool th1.down_],[.int .i64 th1.now_],(zr qi (qk (qP70 a0.toNat) 2) th1.items_).flatten,[gv1],[(gv (qP70 a0.toNat) 1)]]) 70,.ss (zs sd0 (fun _=>[]) th1.logs_),.ss (zs (qq 79 2 TVersion.row) (qk (qP70 a0.toNat) 2) th1.items_),.sl gv50 3 1 (gl51.map I),.sl gv1 84 1 (gl2.map (PR gP88)),.sl (gv (qP70 a0.toNat) 1) 84 1 (th1.over_.map (PR gP88))]∧wW gl2 A88 th1 A70 a0 m gl51 gx52 gx53=some r) ⟨.slice none 0 0,[],0,th1.now_,rfl,rfl,h⟩ ⟨rfl,rfl,rfl,rfl,rfl,rfl,trivial⟩ (sI [2,3,1,4,5,6,0,7,8]) ?_))))))))))
  rintro m _ _ ⟨gv50,gl51,gx52,gx53,rfl,rfl,h⟩
  rcases m with _ | m
  ·rw [wW] at h;cases h
  rw [wW] at h
  generalize hg8:wW gl2 A88 th1 A70 a0 m=go8 at h
  rw [qbR] at h
  refine sr (L.ite h rfl (Y.lss rfl rfl) (fun c94 h=>?_) (fun c94 h=>?_))
  ·refine ln (W.seq (W.condT rfl (W.skip (E.thenN (W.seq (W.block (sr (L.m (V:=fun _=>el gv1 (gx52.toNat*1)) h rfl (Y.indexM (g:=(PR gP88)) (l:=gl2) Tryz.underlying68 yn rfl rfl (fun w hw=>As.at_ (hw.get (i:=7) rfl))) (fun x95 ex95 h=>(L.y rfl (Y.loadE1 (u:=VP gP88 x95) qdd rfl (fun w hw=>As.at_ (hw.get (i:=7) rfl)) (qx ex95)) (L.r 1 rfl (L.nil ?_))))))))))))
   refine E.thenN (W.seq ?_)
   obtain ⟨th96,eth96,h⟩:=qd h
   refine W.to (D:=Cls w F [.obj (gP88 x95.toNat) (List.flatten [[.int .i64 th96.id_],[.int .i64 th96.from_],[.int .i64 th96.at_],[(gv (qP88 x95.toNat) 0)],[(gv (qP88 x95.toNat) 1)],(zr (fzr SR) (fun _=>[]) th96.texts_).flatten,[.bool th96.in_],[.bool th96.out_]]) 88,.sl (gv (qP88 x95.toNat) 0) 3 1 (th96.reads_.map I),.sl (gv (qP88 x95.toNat) 1) 3 1 (th96.writes_.map I),.ss (zs sd0 (fun _=>[]) th96.texts_),qj gP88 qP88 A88 (x95.toNat :: []),qf gP70 gP88 gP100 qP70 A70 (a0.toNat :: []),.obj b5 [.int .i64 gx53] 3,.obj (gP70 a0.toNat) (List.flatten [(zr (fzr (PR gP100)) (fun _=>[]) th1.logs_).flatten,[.int .i64 th1.half_],[.int .i64 th1.gen_],[.bool th1.down_],[.int .i64 th1.now_],(zr qi (qk (qP70 a0.toNat) 2) th1.items_).flatten,[gv1],[(gv (qP70 a0.toNat) 1)]]) 70,.ss (zs sd0 (fun _=>[]) th1.logs_),.ss (zs (qq 79 2 TVersion.row) (qk (qP70 a0.toNat) 2) th1.items_),.sl gv50 3 1 (gl51.map I),.sl gv1 84 1 (gl2.map (PR gP88)),.sl (gv (qP70 a0.toNat) 1) 84 1 (th1.over_.map (PR gP88))]) (fun _ hw=>hw.arOpen (p:=1) rfl eth96 List.not_mem_nil) (W.drawn2 (k:=7) (stC [[6]] [Cls w F [.obj (gP88 x95.toNat) (List.flatten [[.int .i64 th96.id_],[.int .i64 th96.from_],[.int .i64 th96.at_],[(gv (qP88 x95.toNat) 0)],[(gv (qP88 x95.toNat) 1)],(zr (fzr SR) (fun _=>[]) th96.texts_).flatten,[.bool th96.in_],[.bool th96.out_]]) 88,.sl (gv (qP88 x95.toNat) 0) 3 1 (th96.reads_.map I),.sl (gv (qP88 x95.toNat) 1) 3 1 (th96.writes_.map I),.ss (zs sd0 (fun _=>[]) th96.texts_),qj gP88 qP88 A88 (x95.toNat :: []),qf gP70 gP88 gP100 qP70 A70 (a0.toNat :: []),.obj b5 [.int .i64 gx53] 3,.obj (gP70 a0.toNat) (List.flatten [(zr (fzr (PR gP100)) (fun _=>[]) th1.logs_).flatten,[.int .i64 th1.half_],[.int .i64 th1.gen_],[.bool th1.down_],[.int .i64 th1.now_],(zr qi (qk (qP70 a0.toNat) 2) th1.items_).flatten,[gv1],[(gv (qP70 a0.toNat) 1)]]) 70,.ss (zs sd0 (fun _=>[]) th1.logs_),.ss (zs (qq 79 2 TVersion.row) (qk (qP70 a0.toNat) 2) th1.items_),.sl gv50 3 1 (gl51.map I),.sl gv1 84 1 (gl2.map (PR gP88)),.sl (gv (qP70 a0.toNat) 1) 84 1 (th1.over_.map (PR gP88))]] (Cls w F [.obj (gP88 x95.toNat) (List.flatten [[.int .i64 th96.id_],[.int .i64 th96.from_],[.int .i64 th96.at_],[(gv (qP88 x95.toNat) 0)],[(gv (qP88 x95.toNat) 1)],(zr (fzr SR) (fun _=>[]) th96.texts_).flatten,[.bool th96.in_],[.bool th96.out_]]) 88,.sl (gv (qP88 x95.toNat) 0) 3 1 (th96.reads_.map I),.sl (gv (qP88 x95.toNat) 1) 3 1 (th96.writes_.map I),.ss (zs sd0 (fun _=>[]) th96.texts_),qj gP88 qP88 A88 (x95.toNat :: []),qf gP70 gP88 gP100 qP70 A70 (a0.toNat :: []),.obj (gP70 a0.toNat) (List.flatten [(zr (fzr (PR gP100)) (fun _=>[]) th1.logs_).flatten,[.int .i64 th1.half_],[.int .i64 th1.gen_],[.bool th1.down_],[.int .i64 th1.now_],(zr qi (qk (qP70 a0.toNat) 2) th1.items_).flatten,[gv1],[(gv (qP70 a0.toNat) 1)]]) 70,.ss (zs sd0 (fun _=>[]) th1.logs_),.ss (zs (qq 79 2 TVersion.row) (qk (qP70 a0.toNat) 2) th1.items_),.sl gv50 3 1 (gl51.map I),.sl gv1 84 1 (gl2.map (PR gP88)),.sl (gv (qP70 a0.toNat) 1) 84 1 (th1.over_.map (PR gP88))])) rfl mixed (fun _ hw=>hw.drew) (Sc.now (by kernel_rfl) hI) (V2.zz [6] (Zc.at1 hI) (fun hz99=>(V2.q 0 [6] hz99 rfl rfl (Y.loadP (i:=6) ag3 rfl rfl rfl) (V2.zz [] (Zc.on' (Zc.fin hI) (sI [0,1,2,3,4,5,7,8,9,10,11,12])) (fun hz100=>(V2.r [1] (by kernel_rfl) rfl (V2.apNil (i:=2) (Nx2.of [] (by kernel_rfl) rfl hz100) rfl rfl rfl eth96 (V2.q 3 [] hz100 rfl rfl (Y.fieldP qbt rfl) (V2.q 4 [] hz100 rfl rfl (Y.loadG (q:=0) (si:=1) (ps:=1) (j:=0) (X:=[.int .i64 th96.from_]) ag3 rfl rfl rfl rfl (sl1 (a:=1) (p:=0) rfl sl0) rfl) (V2.q 5 [] hz100 rfl rfl (Y.min2 rfl rfl) (V2.eff (i:=6) (by kernel_rfl) rfl (L.store (i:=6) (vs:=[.int .i64 (min gx53 th96.from_)]) sz3 rfl rfl rfl rfl (by simp [Value.oneCell',Value.cells,st,pt,el]) rfl nb (L.nil (E.toV2 (stC [] [] (Cls w F [.obj (gP88 x95.toNat) (List.flatten [[.int .i64 th96.id_],[.int .i64 th96.from_],[.int .i64 th96.at_],[(gv (qP88 x95.toNat) 0)],[(gv (qP88 x95.toNat) 1)],(zr (fzr SR) (fun _=>[]) th96.texts_).flatten,[.bool th96.in_],[.bool th96.out_]]) 88,.sl (gv (qP88 x95.toNat) 0) 3 1 (th96.reads_.map I),.sl (gv (qP88 x95.toNat) 1) 3 1 (th96.writes_.map I),.ss (zs sd0 (fun _=>[]) th96.texts_),qj gP88 qP88 A88 (x95.toNat :: []),qf gP70 gP88 gP100 qP70 A70 (a0.toNat :: []),.obj (gP70 a0.toNat) (List.flatten [(zr (fzr (PR gP100)) (fun _=>[]) th1.logs_).flatten,[.int .i64 th1.half_],[.int .i64 th1.gen_],[.bool th1.down_],[.int .i64 th1.now_],(zr qi (qk (qP70 a0.toNat) 2) th1.items_).flatten,[gv1],[(gv (qP70 a0.toNat) 1)]]) 70,.ss (zs sd0 (fun _=>[]) th1.logs_),.ss (zs (qq 79 2 TVersion.row) (qk (qP70 a0.toNat) 2) th1.items_),.sl gv50 3 1 (gl51.map I),.sl gv1 84 1 (gl2.map (PR gP88)),.sl (gv (qP70 a0.toNat) 1) 84 1 (th1.over_.map (PR gP88))])) 6 (by kernel_rfl) (Sc.past rfl (Sc.stayD hI)) (Sc.atD (sI [0,1,2,3,4,5,7,8,9,10,11,12])) ?_)))))))))))))))
   refine V2.done (by kernel_rfl) (E.thenN (W.region (L.r 2 rfl (L.y rfl (Y.apNil rfl eth96) (L.y rfl (Y.fieldP qbt rfl) (L.y rfl (Y.loadG (q:=0) (si:=1) (ps:=1) (j:=0) (X:=[.int .i64 th96.from_]) ag3 rfl rfl rfl rfl (sl1 (a:=1) (p:=0) rfl sl0) rfl) (L.litOne rfl Tryz.underlying86 eL3 rfl rfl ?_)))))))
   intro b101
   refine L.appM (i:=11) (g:=I) (l:=gl51) (more:=[th96.from_]) h rfl Tryz.underlying86 eL3 rfl rfl rfl (fun w hw=>As.at_ (hw.get (i:=0) rfl)) (z7 _) rfl ?_
   intro v102 l103 el103 h
   exact L.r 1 rfl (L.nil (E.blockN (E.thenN (W.region (L.m (V:=fun x104=>.int .i64 x104) h rfl (Y.addM rfl rfl) (fun x104 ex104 h=>(L.r 1 rfl (L.nil (E.to (D:=Cls w F [qj gP88 qP88 A88 [],.sl v102 3 1 (l103.map I),.sl (sv b101 1) 3 1 (([th96.from_]).map I),qf gP70 gP88 gP100 qP70 A70 (a0.toNat :: []),.obj b5 [.int .i64 (min gx53 th96.from_)] 3,.obj (gP70 a0.toNat) (List.flatten [(zr (fzr (PR gP100)) (fun _=>[]) th1.logs_).flatten,[.int .i64 th1.half_],[.int .i64 th1.gen_],[.bool th1.down_],[.int .i64 th1.now_],(zr qi (qk (qP70 a0.toNat) 2) th1.items_).flatten,[gv1],[(gv (qP70 a0.toNat) 1)]]) 70,.ss (zs sd0 (fun _=>[]) th1.logs_),.ss (zs (qq 79 2 TVersion.row) (qk (qP70 a0.toNat) 2) th1.items_),.sl gv1 84 1 (gl2.map (PR gP88)),.sl (gv (qP70 a0.toNat) 1) 84 1 (th1.over_.map (PR gP88))]) (fun _ hw=>hw.arShut (hs':=(x95.toNat :: [])) [2,3,4,5,6,0,1,7,8,9,10,11,12,13] eth96 (by decide) rfl (fun _=>List.mem_cons) List.not_mem_nil) (E.aJ ⟨v102,l103,x104,(min gx53 th96.from_),rfl,rfl,by rw [hg8];exact h⟩ (sI [3,0,4,5,6,7,1,8,9])))))))))))
  exact ln (W.seq (W.condF rfl (W.exit (E.thenX (E.KLX (E.blockX (E.jJ ⟨gv50,gl51,gx53,rfl,rfl,h⟩ hI)))))))
 rintro _ _ ⟨gv3,gl4,gx5,rfl,rfl,h⟩
 rw [qcY] at h
 refine sr (L.r 2 rfl (L.y rfl (Y.apNil rfl eth1) (L.y rfl (Y.fieldP yY rfl) (L.y rfl (Y.loadG (q:=3) (si:=7) (ps:=27) (j:=0) (X:=[(gv (qP70 a0.toNat) 1)]) qgY rfl rfl rfl rfl (sl1 (a:=2) (p:=25) (zrN (nn:=2) (k:=1) (fun _ _=>rfl) en3) (sl1 (a:=1) (p:=24) rfl (sl1 (a:=1) (p:=23) rfl (sl1 (a:=1) (p:=22) rfl (sl1 (a:=1) (p:=21) rfl (sl1 (a:=20) (p:=1) (zrN (nn:=20) (k:=1) (fun _ _=>rfl) en4) (sl1 (a:=1) (p:=0) rfl sl0))))))) rfl) (L.y rfl (Y.func rfl) (L.callJ (fun v D=>∃ gv6 gl7,v=gv6∧D=Cls w F [qf gP70 gP88 gP100 qP70 A70 (a0.toNat :: []),qj gP88 qP88 A88 [],.obj (gP70 a0.toNat) (List.flatten [(zr (fzr (PR gP100)) (fun _=>[]) th1.logs_).flatten,[.int .i64 th1.half_],[.int .i64 th1.gen_],[.bool th1.down_],[.int .i64 th1.now_],(zr qi (qk (qP70 a0.toNat) 2) th1.items_).flatten,[gv1],[(gv (qP70 a0.toNat) 1)]]) 70,.ss (zs sd0 (fun _=>[]) th1.logs_),.ss (zs (qq 79 2 TVersion.row) (qk (qP70 a0.toNat) 2) th1.items_),.sl gv3 3 1 (gl4.map I),.sl gv6 84 1 (gl7.map (PR gP88)),.sl gv1 84 1 (gl2.map (PR gP88))]∧qaW th1 A70 a0 gl2 gl4 gl7=some r) rfl qkf rfl Tryz.func53 rfl rfl rfl ?_ ?_))))))
 ·refine sr (L.r 1 rfl (nsr (L.r 2 rfl (L.callJ (fun v D=>∃ gx41,v=.int .i64 gx41∧D=Cls w F [qf gP70 gP88 gP100 qP70 A70 (a0.toNat :: []),qj gP88 qP88 A88 [],.obj b5 [.int .i64 gx5] 3,.obj (gP70 a0.toNat) (List.flatten [(zr (fzr (PR gP100)) (fun _=>[]) th1.logs_).flatten,[.int .i64 th1.half_],[.int .i64 th1.gen_],[.bool th1.down_],[.int .i64 th1.now_],(zr qi (qk (qP70 a0.toNat) 2) th1.items_).flatten,[gv1],[(gv (qP70 a0.toNat) 1)]]) 70,.ss (zs sd0 (fun _=>[]) th1.logs_),.ss (zs (qq 79 2 TVersion.row) (qk (qP70 a0.toNat) 2) th1.items_),.sl (gv (qP70 a0.toNat) 1) 84 1 (th1.over_.map (PR gP88)),.sl gv1 84 1 (gl2.map (PR gP88)),.sl gv3 3 1 (gl4.map I)]∧qcX th1 A70 a0 gl2 gl4 A88 gx5 gx41=some r) rfl qhU rfl Tryz.func49 rfl rfl rfl ?_ ?_))))
  ·refine sr (L.r 1 rfl (ln (W.seqJ (fun gs D=>gs=[]∧D=Cls w F [qf gP70 gP88 gP100 qP70 A70 (a0.toNat :: []),qj gP88 qP88 A88 [],.obj b5 [.int .i64 gx5] 3,.obj (gP70 a0.toNat) (List.flatten [(zr (fzr (PR gP100)) (fun _=>[]) th1.logs_).flatten,[.int .i64 th1.half_],[.int .i64 th1.gen_],[.bool th1.down_],[.int .i64 th1.now_],(zr qi (qk (qP70 a0.toNat) 2) th1.items_).flatten,[gv1],[(gv (qP70 a0.toNat) 1)]]) 70,.ss (zs sd0 (fun _=>[]) th1.logs_),.ss (zs (qq 79 2 TVersion.row) (qk (qP70 a0.toNat) 2) th1.items_),.sl gv1 84 1 (gl2.map (PR gP88)),.sl (gv (qP70 a0.toNat) 1) 84 1 (th1.over_.map (PR gP88)),.sl gv3 3 1 (gl4.map I)]∧qb4 th1 A70 a0 gl2 gl4 A88 gx5=some r) ?_ ?_)))
   ·refine sr (L.r 1 rfl (L.y rfl (Y.lenM (g:=(PR gP88)) (l:=th1.over_) Tryz.underlying68 rfl (fun w hw=>As.at_ (hw.get (i:=8) rfl))) (L.r 1 rfl (ln (W.block (W.loopJ (fun m gs D=>∃ gx48,gs=[(0,(gv (qP70 a0.toNat) 1)),(1,.func (.func 55) #[] #[pt b5 0]),(7,.int .i64 (th1.over_.length:Int)),(8,.int .i64 gx48)]∧D=Cls w F [qf gP70 gP88 gP100 qP70 A70 (a0.toNat :: []),qj gP88 qP88 A88 [],.obj b5 [.int .i64 gx5] 3,.obj (gP70 a0.toNat) (List.flatten [(zr (fzr (PR gP100)) (fun _=>[]) th1.logs_).flatten,[.int .i64 th1.half_],[.int .i64 th1.gen_],[.bool th1.down_],[.int .i64 th1.now_],(zr qi (qk (qP70 a0.toNat) 2) th1.items_).flatten,[gv1],[(gv (qP70 a0.toNat) 1)]]) 70,.ss (zs sd0 (fun _=>[]) th1.logs_),.ss (zs (qq 79 2 TVersion.row) (qk (qP70 a0.toNat) 2) th1.items_),.sl (gv (qP70 a0.toNat) 1) 84 1 (th1.over_.map (PR gP88)),.sl gv1 84 1 (gl2.map (PR gP88)),.sl gv3 3 1 (gl4.map I)]∧wX th1 A88 A70 a0 gl2 gl4 gx5 m gx48=some r) ⟨0,rfl,rfl,h⟩ ⟨rfl,rfl,rfl,rfl,trivial⟩ (sI [0,1,2,3,4,5,8,7,6]) ?_))))))
    rintro m _ _ ⟨gx48,rfl,rfl,h⟩
    rcases m with _ | m
    ·rw [wX] at h;cases h
    rw [wX] at h
    generalize hg7:wX th1 A88 A70 a0 gl2 gl4 gx5 m=go7 at h
    rw [qbS] at h
    refine sr (L.ite h rfl (Y.lss rfl rfl) (fun c90 h=>?_) (fun c90 h=>?_))
    ·refine ln (W.seq (W.condT rfl (W.skip (E.thenN (W.seq (W.block (sr (L.r 2 rfl (ln (W.seq ?_))))))))))
     refine W.region (L.r 3 rfl (L.m (V:=fun _=>el (gv (qP70 a0.toNat) 1) (gx48.toNat*1)) h rfl (Y.indexM (g:=(PR gP88)) (l:=th1.over_) Tryz.underlying68 yn rfl rfl (fun w hw=>As.at_ (hw.get (i:=6) rfl))) (fun x91 ex91 h=>(L.y rfl (Y.loadE1 (u:=VP gP88 x91) qdd rfl (fun w hw=>As.at_ (hw.get (i:=6) rfl)) (qx ex91)) (L.callVJ (fun v D=>∃ gb49,v=.bool gb49∧D=Cls w F [qf gP70 gP88 gP100 qP70 A70 (a0.toNat :: []),qj gP88 qP88 A88 [],.obj b5 [.int .i64 gx5] 3,.obj (gP70 a0.toNat) (List.flatten [(zr (fzr (PR gP100)) (fun _=>[]) th1.logs_).flatten,[.int .i64 th1.half_],[.int .i64 th1.gen_],[.bool th1.down_],[.int .i64 th1.now_],(zr qi (qk (qP70 a0.toNat) 2) th1.items_).flatten,[gv1],[(gv (qP70 a0.toNat) 1)]]) 70,.ss (zs sd0 (fun _=>[]) th1.logs_),.ss (zs (qq 79 2 TVersion.row) (qk (qP70 a0.toNat) 2) th1.items_),.sl (gv (qP70 a0.toNat) 1) 84 1 (th1.over_.map (PR gP88)),.sl gv1 84 1 (gl2.map (PR gP88)),.sl gv3 3 1 (gl4.map I)]∧qb3 th1 A70 a0 gl2 gl4 A88 gx5 gx48 go7 gb49=some r) rfl qkd rfl rfl Tryz.func55 rfl rfl rfl ?_ ?_)))))
     ·refine sr (L.r 1 rfl (ln (W.seq ?_)))
      obtain ⟨th93,eth93,h⟩:=qd h
      refine W.to (D:=Cls w F [.obj (gP88 x91.toNat) (List.flatten [[.int .i64 th93.id_],[.int .i64 th93.from_],[.int .i64 th93.at_],[(gv (qP88 x91.toNat) 0)],[(gv (qP88 x91.toNat) 1)],(zr (fzr SR) (fun _=>[]) th93.texts_).flatten,[.bool th93.in_],[.bool th93.out_]]) 88,.sl (gv (qP88 x91.toNat) 0) 3 1 (th93.reads_.map I),.sl (gv (qP88 x91.toNat) 1) 3 1 (th93.writes_.map I),.ss (zs sd0 (fun _=>[]) th93.texts_),qj gP88 qP88 A88 (x91.toNat :: []),qf gP70 gP88 gP100 qP70 A70 (a0.toNat :: []),.obj b5 [.int .i64 gx5] 3,.obj (gP70 a0.toNat) (List.flatten [(zr (fzr (PR gP100)) (fun _=>[]) th1.logs_).flatten,[.int .i64 th1.half_],[.int .i64 th1.gen_],[.bool th1.down_],[.int .i64 th1.now_],(zr qi (qk (qP70 a0.toNat) 2) th1.items_).flatten,[gv1],[(gv (qP70 a0.toNat) 1)]]) 70,.ss (zs sd0 (fun _=>[]) th1.logs_),.ss (zs (qq 79 2 TVersion.row) (qk (qP70 a0.toNat) 2) th1.items_),.sl (gv (qP70 a0.toNat) 1) 84 1 (th1.over_.map (PR gP88)),.sl gv1 84 1 (gl2.map (PR gP88)),.sl gv3 3 1 (gl4.map I)]) (fun _ hw=>hw.arOpen (p:=1) rfl eth93 List.not_mem_nil) (W.quietC mixed (by kernel_rfl) (fun _ hw=>hw.drew) (fun hC=>(U.r 1 rfl (U.y rfl (Y.apNil rfl eth93) (U.y rfl (Y.fieldP qbs rfl) (U.y rfl (Y.loadG (q:=0) (si:=2) (ps:=2) (j:=0) (X:=[.int .i64 th93.at_]) ag3 rfl rfl rfl rfl (sl1 (a:=1) (p:=1) rfl (sl1 (a:=1) (p:=0) rfl sl0)) rfl) (U.y rfl (Y.loadP (i:=6) ag3 rfl rfl rfl) (U.y rfl (Y.leq rfl rfl) (U.r 1 rfl (U.nil (E.thenN (W.ret (E.to (D:=Cls w F [qj gP88 qP88 A88 [],qf gP70 gP88 gP100 qP70 A70 (a0.toNat :: []),.obj b5 [.int .i64 gx5] 3,.obj (gP70 a0.toNat) (List.flatten [(zr (fzr (PR gP100)) (fun _=>[]) th1.logs_).flatten,[.int .i64 th1.half_],[.int .i64 th1.gen_],[.bool th1.down_],[.int .i64 th1.now_],(zr qi (qk (qP70 a0.toNat) 2) th1.items_).flatten,[gv1],[(gv (qP70 a0.toNat) 1)]]) 70,.ss (zs sd0 (fun _=>[]) th1.logs_),.ss (zs (qq 79 2 TVersion.row) (qk (qP70 a0.toNat) 2) th1.items_),.sl (gv (qP70 a0.toNat) 1) 84 1 (th1.over_.map (PR gP88)),.sl gv1 84 1 (gl2.map (PR gP88)),.sl gv3 3 1 (gl4.map I)]) (fun _ hw=>hw.arShut (hs':=(x91.toNat :: [])) [0,1,2,3,4,5,6,7,8,9,10,11,12] eth93 (by decide) rfl (fun _=>List.mem_cons) List.not_mem_nil) (E.ret1 rfl rfl (fun w1 hw=>?_)))))))))))))))
      exact ⟨_,_,rfl,⟨decide (th93.at_≤gx5),rfl,rfl,h⟩,hw.s [1,0,2,3,4,5,6,7,8]⟩
     rintro _ _ ⟨gb49,rfl,rfl,h⟩
     rw [qb3] at h
     rcases gb49 with _ | _
     ·replace h:=zZ h
      exact ln (W.condF rfl (W.skip (E.blockN (E.thenN (W.region (L.m (V:=fun x92=>.int .i64 x92) h rfl (Y.addM rfl rfl) (fun x92 ex92 h=>(L.r 1 rfl (L.nil (E.aJ ⟨x92,rfl,rfl,by rw [hg7];exact h⟩ hI))))))))))
     replace h:=zY h
     refine ln (W.condT rfl (sr (L.r 2 rfl (ln (W.ret (E.blockR (E.thenR (E.KLR (E.blockR (E.KSR ?_))))))))))
     exact E.ret1 rfl rfl (fun w1 hw=>(⟨_,_,rfl,⟨gx48,rfl,rfl,h⟩,hw⟩))
    exact ln (W.seq (W.condF rfl (W.exit (E.thenX (E.KLX (E.blockX (E.joinJ ⟨rfl,rfl,h⟩ trivial (sI [0,1,2,3,4,5,7,6,8]))))))))
   rintro _ _ ⟨rfl,rfl,h⟩
   rw [qb4] at h
   exact sr (L.r 1 rfl (ln (W.ret (E.ret1 rfl rfl (fun w1 hw=>(⟨_,_,rfl,⟨(-1),rfl,rfl,h⟩,hw.s [0,1,2,3,4,5,7,6,8]⟩))))))
  rintro _ _ ⟨gx41,rfl,rfl,h⟩
  rw [qcX] at h
  refine L.r 1 rfl (ln (W.seq (sr (L.r 1 rfl (L.ite h rfl (Y.eql rfl rfl) (fun c76 h=>?_) (fun c76 h=>?_))))))
  ·exact ln (W.condT rfl (sr (L.r 2 rfl (ln (W.ret (E.thenR (E.ret1 rfl rfl (fun w1 hw=>(⟨_,_,rfl,⟨(gv (qP70 a0.toNat) 1),th1.over_,rfl,rfl,h⟩,hw.s [0,1,3,4,5,8,6,7]⟩)))))))))
  refine ln (W.condF rfl (W.skip (E.thenN (W.seqJ (fun gs D=>∃ gl42 gx43,gs=[(0,(gv (qP70 a0.toNat) 1)),(5,.int .i64 gx43)]∧D=Cls w F [qf gP70 gP88 gP100 qP70 A70 (a0.toNat :: []),qj gP88 qP88 A88 [],.obj (gP70 a0.toNat) (List.flatten [(zr (fzr (PR gP100)) (fun _=>[]) th1.logs_).flatten,[.int .i64 th1.half_],[.int .i64 th1.gen_],[.bool th1.down_],[.int .i64 th1.now_],(zr qi (qk (qP70 a0.toNat) 2) th1.items_).flatten,[gv1],[(gv (qP70 a0.toNat) 1)]]) 70,.ss (zs sd0 (fun _=>[]) th1.logs_),.ss (zs (qq 79 2 TVersion.row) (qk (qP70 a0.toNat) 2) th1.items_),.sl (gv (qP70 a0.toNat) 1) 84 1 (gl42.map (PR gP88)),.sl gv1 84 1 (gl2.map (PR gP88)),.sl gv3 3 1 (gl4.map I)]∧qb6 th1 A70 a0 gl2 gl4 gl42 gx43=some r) ?_ ?_))))
  ·refine sr (L.r 1 rfl (L.m (V:=fun x81=>.int .i64 x81) h rfl (Y.addM rfl rfl) (fun x81 ex81 h=>(L.r 1 rfl (ln (W.block (W.loopJ (fun m gs D=>∃ gl44 gx45 gx46,gs=[(0,(gv (qP70 a0.toNat) 1)),(1,.func (.func 55) #[] #[pt b5 0]),(5,.int .i64 gx45),(6,.int .i64 gx46)]∧D=Cls w F [qf gP70 gP88 gP100 qP70 A70 (a0.toNat :: []),qj gP88 qP88 A88 [],.obj b5 [.int .i64 gx5] 3,.obj (gP70 a0.toNat) (List.flatten [(zr (fzr (PR gP100)) (fun _=>[]) th1.logs_).flatten,[.int .i64 th1.half_],[.int .i64 th1.gen_],[.bool th1.down_],[.int .i64 th1.now_],(zr qi (qk (qP70 a0.toNat) 2) th1.items_).flatten,[gv1],[(gv (qP70 a0.toNat) 1)]]) 70,.ss (zs sd0 (fun _=>[]) th1.logs_),.ss (zs (qq 79 2 TVersion.row) (qk (qP70 a0.toNat) 2) th1.items_),.sl (gv (qP70 a0.toNat) 1) 84 1 (gl44.map (PR gP88)),.sl gv1 84 1 (gl2.map (PR gP88)),.sl gv3 3 1 (gl4.map I)]∧wY A88 gx5 th1 A70 a0 gl2 gl4 m gl44 gx45 gx46=some r) ⟨th1.over_,gx41,x81,rfl,rfl,h⟩ ⟨rfl,rfl,rfl,rfl,trivial⟩ hI ?_)))))))
   rintro m _ _ ⟨gl44,gx45,gx46,rfl,rfl,h⟩
   rcases m with _ | m
   ·rw [wY] at h;cases h
   rw [wY] at h
   generalize hg6:wY A88 gx5 th1 A70 a0 gl2 gl4 m=go6 at h
   rw [qbT] at h
   refine W.seq (sr (L.r 2 rfl (L.y rfl (Y.lenM (g:=(PR gP88)) (l:=gl44) Tryz.underlying68 rfl (fun w hw=>As.at_ (hw.get (i:=6) rfl))) (L.ite h rfl (Y.lss rfl rfl) (fun c82 h=>?_) (fun c82 h=>?_)))))
   ·refine ln (W.condT rfl (W.skip (E.thenN (W.seq (W.block (sr (L.r 2 rfl (L.m (V:=fun _=>el (gv (qP70 a0.toNat) 1) (gx46.toNat*1)) h rfl (Y.indexM (g:=(PR gP88)) (l:=gl44) Tryz.underlying68 yn rfl rfl (fun w hw=>As.at_ (hw.get (i:=6) rfl))) (fun x83 ex83 h=>(L.y rfl (Y.loadE1 (u:=VP gP88 x83) qdd rfl (fun w hw=>As.at_ (hw.get (i:=6) rfl)) (qx ex83)) (L.r 1 rfl (L.nil ?_))))))))))))
    refine E.thenN (sr (L.r 2 rfl (L.callVJ (fun v D=>∃ gb47,v=.bool gb47∧D=Cls w F [qf gP70 gP88 gP100 qP70 A70 (a0.toNat :: []),qj gP88 qP88 A88 [],.obj b5 [.int .i64 gx5] 3,.obj (gP70 a0.toNat) (List.flatten [(zr (fzr (PR gP100)) (fun _=>[]) th1.logs_).flatten,[.int .i64 th1.half_],[.int .i64 th1.gen_],[.bool th1.down_],[.int .i64 th1.now_],(zr qi (qk (qP70 a0.toNat) 2) th1.items_).flatten,[gv1],[(gv (qP70 a0.toNat) 1)]]) 70,.ss (zs sd0 (fun _=>[]) th1.logs_),.ss (zs (qq 79 2 TVersion.row) (qk (qP70 a0.toNat) 2) th1.items_),.sl (gv (qP70 a0.toNat) 1) 84 1 (gl44.map (PR gP88)),.sl gv1 84 1 (gl2.map (PR gP88)),.sl gv3 3 1 (gl4.map I)]∧qb5 gx46 go6 gl44 gx45 x83 gb47=some r) rfl qkd rfl rfl Tryz.func55 rfl rfl rfl ?_ ?_)))
    ·refine sr (L.r 1 rfl (ln (W.seq ?_)))
     obtain ⟨th89,eth89,h⟩:=qd h
     refine W.to (D:=Cls w F [.obj (gP88 x83.toNat) (List.flatten [[.int .i64 th89.id_],[.int .i64 th89.from_],[.int .i64 th89.at_],[(gv (qP88 x83.toNat) 0)],[(gv (qP88 x83.toNat) 1)],(zr (fzr SR) (fun _=>[]) th89.texts_).flatten,[.bool th89.in_],[.bool th89.out_]]) 88,.sl (gv (qP88 x83.toNat) 0) 3 1 (th89.reads_.map I),.sl (gv (qP88 x83.toNat) 1) 3 1 (th89.writes_.map I),.ss (zs sd0 (fun _=>[]) th89.texts_),qj gP88 qP88 A88 (x83.toNat :: []),qf gP70 gP88 gP100 qP70 A70 (a0.toNat :: []),.obj b5 [.int .i64 gx5] 3,.obj (gP70 a0.toNat) (List.flatten [(zr (fzr (PR gP100)) (fun _=>[]) th1.logs_).flatten,[.int .i64 th1.half_],[.int .i64 th1.gen_],[.bool th1.down_],[.int .i64 th1.now_],(zr qi (qk (qP70 a0.toNat) 2) th1.items_).flatten,[gv1],[(gv (qP70 a0.toNat) 1)]]) 70,.ss (zs sd0 (fun _=>[]) th1.logs_),.ss (zs (qq 79 2 TVersion.row) (qk (qP70 a0.toNat) 2) th1.items_),.sl (gv (qP70 a0.toNat) 1) 84 1 (gl44.map (PR gP88)),.sl gv1 84 1 (gl2.map (PR gP88)),.sl gv3 3 1 (gl4.map I)]) (fun _ hw=>hw.arOpen (p:=1) rfl eth89 List.not_mem_nil) (W.quietC mixed (by kernel_rfl) (fun _ hw=>hw.drew) (fun hC=>(U.r 1 rfl (U.y rfl (Y.apNil rfl eth89) (U.y rfl (Y.fieldP qbs rfl) (U.y rfl (Y.loadG (q:=0) (si:=2) (ps:=2) (j:=0) (X:=[.int .i64 th89.at_]) ag3 rfl rfl rfl rfl (sl1 (a:=1) (p:=1) rfl (sl1 (a:=1) (p:=0) rfl sl0)) rfl) (U.y rfl (Y.loadP (i:=6) ag3 rfl rfl rfl) (U.y rfl (Y.leq rfl rfl) (U.r 1 rfl (U.nil (E.thenN (W.ret (E.to (D:=Cls w F [qj gP88 qP88 A88 [],qf gP70 gP88 gP100 qP70 A70 (a0.toNat :: []),.obj b5 [.int .i64 gx5] 3,.obj (gP70 a0.toNat) (List.flatten [(zr (fzr (PR gP100)) (fun _=>[]) th1.logs_).flatten,[.int .i64 th1.half_],[.int .i64 th1.gen_],[.bool th1.down_],[.int .i64 th1.now_],(zr qi (qk (qP70 a0.toNat) 2) th1.items_).flatten,[gv1],[(gv (qP70 a0.toNat) 1)]]) 70,.ss (zs sd0 (fun _=>[]) th1.logs_),.ss (zs (qq 79 2 TVersion.row) (qk (qP70 a0.toNat) 2) th1.items_),.sl (gv (qP70 a0.toNat) 1) 84 1 (gl44.map (PR gP88)),.sl gv1 84 1 (gl2.map (PR gP88)),.sl gv3 3 1 (gl4.map I)]) (fun _ hw=>hw.arShut (hs':=(x83.toNat :: [])) [0,1,2,3,4,5,6,7,8,9,10,11,12] eth89 (by decide) rfl (fun _=>List.mem_cons) List.not_mem_nil) (E.ret1 rfl rfl (fun w1 hw=>?_)))))))))))))))
     exact ⟨_,_,rfl,⟨decide (th89.at_≤gx5),rfl,rfl,h⟩,hw.s [1,0,2,3,4,5,6,7,8]⟩
    rintro _ _ ⟨gb47,rfl,rfl,h⟩
    rw [qb5] at h
    rcases gb47 with _ | _
    ·replace h:=zZ h
     refine L.y rfl (Y.not rfl) (ln (W.condT rfl (sr (L.r 3 rfl (L.m (V:=fun _=>el (gv (qP70 a0.toNat) 1) (gx45.toNat*1)) h rfl (Y.indexM (g:=(PR gP88)) (l:=gl44) Tryz.underlying68 yn rfl rfl (fun w hw=>As.at_ (hw.get (i:=6) rfl))) (fun x84 ex84 h=>(L.storeSlM (q:=6) (row:=(PR gP88)) (vs:=[VP gP88 x83]) (j:=0) (u1:=x83) h yn rfl rfl rfl (by rw [zG]) rfl (zi (qbC _ _) zq) rfl ex84 rfl rfl ?_)))))))
     intro l85 el85 h
     exact nr (L.r 1 rfl (L.m (V:=fun x86=>.int .i64 x86) h rfl (Y.addM rfl rfl) (fun x86 ex86 h=>(L.r 1 rfl (L.nil (E.blockN (E.thenN (W.region (L.r 1 rfl (L.m (V:=fun x87=>.int .i64 x87) h rfl (Y.addM rfl rfl) (fun x87 ex87 h=>(L.r 1 rfl (L.nil (E.aJ ⟨l85,x86,x87,rfl,rfl,by rw [hg6];exact h⟩ hI))))))))))))))
    replace h:=zY h
    exact L.y rfl (Y.not rfl) (ln (W.condF rfl (W.skip (E.blockN (E.thenN (W.region (L.r 1 rfl (L.m (V:=fun x88=>.int .i64 x88) h rfl (Y.addM rfl rfl) (fun x88 ex88 h=>(L.r 1 rfl (L.nil (E.aJ ⟨gl44,gx45,x88,rfl,rfl,by rw [hg6];exact h⟩ hI))))))))))))
   exact ln (W.condF rfl (W.exit (E.thenX (E.KLX (E.blockX (E.jJ ⟨gl44,gx45,rfl,rfl,h⟩ (sI [0,1,3,4,5,6,7,8])))))))
  rintro _ _ ⟨gl42,gx43,rfl,rfl,h⟩
  rw [qb6] at h
  refine sr (L.r 2 rfl (L.m (V:=fun _=>zQ (gv (qP70 a0.toNat) 1) gx43.toNat 1) h rfl (Y.dropM (g:=(PR gP88)) Tryz.underlying68 yn rfl rfl (fun w hw=>As.at_ (hw.get (i:=5) rfl))) (fun l77 el77 h=>(L.clearM (i:=5) (g:=(PR gP88)) (z0:=(-1)) (a:=gx43) h Tryz.underlying68 qe5 qj5 (fun u hu=>((jG _):Plain ([(-1)].map (PR gP88))) _ (List.mem_cons_self ..) u hu) rfl rfl ?_))))
  intro l78 el78 h
  refine nsr (L.r 2 rfl ?_)
  obtain ⟨l79,el79,h⟩:=qd h
  exact L.cutM (i:=5) (g:=(PR gP88)) el79 rfl Tryz.underlying68 yn rfl rfl rfl (fun v80=>(L.r 1 rfl (ln (W.ret (E.ret1 rfl rfl (fun w1 hw=>(⟨_,_,rfl,⟨v80,l79,rfl,rfl,h⟩,hw.s [0,1,2,3,4,7,5,6]⟩)))))))
 rintro gv6 _ ⟨_,gl7,rfl,rfl,h⟩
 rw [qaW] at h
 refine L.y rfl (Y.apNil rfl eth1) (L.y rfl (Y.fieldP yY rfl) (L.storeGV (q:=2) (si:=7) (ps:=27) (j:=0) (X:=[(gv (qP70 a0.toNat) 1)]) qjk rfl rfl rfl (fun _ hw=>(As.at_ (hw.get (i:=6) rfl)).one) rfl rfl (sl1 (a:=2) (p:=25) (zrN (nn:=2) (k:=1) (fun _ _=>rfl) en3) (sl1 (a:=1) (p:=24) rfl (sl1 (a:=1) (p:=23) rfl (sl1 (a:=1) (p:=22) rfl (sl1 (a:=1) (p:=21) rfl (sl1 (a:=20) (p:=1) (zrN (nn:=20) (k:=1) (fun _ _=>rfl) en4) (sl1 (a:=1) (p:=0) rfl sl0))))))) rfl (nsr (L.r 1 rfl (L.y rfl (Y.apNil rfl eth1) (L.y rfl (Y.fieldP j0 rfl) (L.y rfl (Y.loadGA (q:=2) (si:=5) (ps:=6) (X:=(zr qi (qk (qP70 a0.toNat) 2) th1.items_).flatten) qkp qj7 rfl rfl rfl (sl1 (a:=2) (p:=4) (zrN (nn:=2) (k:=1) (fun _ _=>rfl) en3) (sl1 (a:=1) (p:=3) rfl (sl1 (a:=1) (p:=2) rfl (sl1 (a:=1) (p:=1) rfl (sl1 (a:=1) (p:=0) rfl sl0))))) (zrN (nn:=20) (k:=1) (fun _ _=>rfl) en4)) (L.r 1 rfl (ln ?_)))))))))
 refine W.block (W.loopJ (fun m gs D=>∃ gl8 gx9 gl10 gq11,∃ gu13:Unit,gs=[(0,VP gP70 a0),(5,gv3),(58,.agg (zr qi (qk (qP70 a0.toNat) 2) th1.items_).flatten.toArray),(59,.int .i64 gx9)]∧D=Cls w F [qf gP70 gP88 gP100 qP70 A70 (a0.toNat :: []),qj gP88 qP88 A88 [],.obj (gP70 a0.toNat) (List.flatten [(zr (fzr (PR gP100)) (fun _=>[]) th1.logs_).flatten,[.int .i64 th1.half_],[.int .i64 th1.gen_],[.bool th1.down_],[.int .i64 th1.now_],(zr qi gq11 gl10).flatten,[gv1],[gv6]]) 70,.ss (zs sd0 (fun _=>[]) th1.logs_),.ss (zs (qq 79 2 TVersion.row) gq11 gl10),.sl gv3 3 1 (gl8.map I),.sl gv1 84 1 (gl2.map (PR gP88)),.sl gv6 84 1 (gl7.map (PR gP88))]∧Tl (qk (qP70 a0.toNat) 2) gq11 th1.items_ gl10 gx9∧w7 th1 A70 a0 gl2 gl7 m gl8 gx9 gl10=some r) ⟨gl4,0,th1.items_,(qk (qP70 a0.toNat) 2),(),rfl,rfl,Tl.refl _ _ _,h⟩ ⟨rfl,rfl,rfl,rfl,trivial⟩ (sI [0,1,2,3,4,5,7,6]) ?_)
 rintro m _ _ ⟨gl8,gx9,gl10,gq11,gu13,rfl,rfl,hG12,h⟩
 rcases m with _ | m
 ·rw [w7] at h;cases h
 rw [w7] at h
 generalize hg1:w7 th1 A70 a0 gl2 gl7 m=go1 at h
 rw [qbY] at h
 refine sr (L.ite h rfl (Y.lss rfl rfl) (fun c6 h=>?_) (fun c6 h=>?_))
 ·refine ln (W.seq (W.condT rfl (W.skip (E.thenN (W.seq (W.block (sr (L.r 1 rfl ?_))))))))
  obtain ⟨x7,ex7,h⟩:=qd h
  refine L.y rfl (Y.idxZrT (lb:=th1.items_) (vs:=(qk (qP70 a0.toNat) 2)) (vs':=gq11) (lb':=gl10) hG12 (Int.le_refl _) Tryz.underlying67 qjr qc9 rfl rfl ex7) (L.r 2 rfl (nsr (L.r 1 rfl (L.y rfl (Y.lenM (g:=TVersion.row) (l:=x7) Tryz.underlying66 rfl (fun w hw=>As.atZ (sds:=(qq 79 2 TVersion.row)) (vs:=gq11) (j:=0) (c:=1) (hw.get (i:=4) rfl) (fun _ _=>rfl) (Tl.idx hG12 (Int.le_refl _) (qt ex7)) rfl)) (L.ite h rfl (Y.gtr rfl rfl) (fun c8 h=>?_) (fun c8 h=>?_))))))
  ·refine ln (W.condT rfl (W.drawn2 (k:=13) (stC [[8,12],[12]] [Cls w F [qf gP70 gP88 gP100 qP70 A70 (a0.toNat :: []),qj gP88 qP88 A88 [],.obj (gP70 a0.toNat) (List.flatten [(zr (fzr (PR gP100)) (fun _=>[]) th1.logs_).flatten,[.int .i64 th1.half_],[.int .i64 th1.gen_],[.bool th1.down_],[.int .i64 th1.now_],(zr qi gq11 gl10).flatten,[gv1],[gv6]]) 70,.ss (zs sd0 (fun _=>[]) th1.logs_),.ss (zs (qq 79 2 TVersion.row) gq11 gl10),.sl gv3 3 1 (gl8.map I),.sl gv1 84 1 (gl2.map (PR gP88)),.sl gv6 84 1 (gl7.map (PR gP88))],Cls w F [qf gP70 gP88 gP100 qP70 A70 (a0.toNat :: []),qj gP88 qP88 A88 [],.obj (gP70 a0.toNat) (List.flatten [(zr (fzr (PR gP100)) (fun _=>[]) th1.logs_).flatten,[.int .i64 th1.half_],[.int .i64 th1.gen_],[.bool th1.down_],[.int .i64 th1.now_],(zr qi gq11 gl10).flatten,[gv1],[gv6]]) 70,.ss (zs sd0 (fun _=>[]) th1.logs_),.ss (zs (qq 79 2 TVersion.row) gq11 gl10),.sl gv1 84 1 (gl2.map (PR gP88)),.sl gv6 84 1 (gl7.map (PR gP88))]] (Cls w F [qf gP70 gP88 gP100 qP70 A70 (a0.toNat :: []),qj gP88 qP88 A88 [],.ss (zs sd0 (fun _=>[]) th1.logs_),.sl gv1 84 1 (gl2.map (PR gP88)),.sl gv6 84 1 (gl7.map (PR gP88))])) rfl mixed (fun _ hw=>hw.drew) (Sc.now (by kernel_rfl) hI) (V2.zz [] (Zc.on' (Zc.on' (Zc.fin hI) (sI [0,1,3,5,6])) (sI [0,1,3,6,7])) (fun hz32=>(V2.r [0,1,2,3,4] (by kernel_rfl) rfl (V2.apNil (i:=5) (Nx2.of [] (by kernel_rfl) rfl hz32) rfl rfl rfl eth1 (V2.q 6 [] hz32 rfl rfl (Y.fieldP va rfl) (V2.zz [12] (Zc.on' (Zc.at1 hI) (sI [0,1,2,3,4,6,7])) (fun hz33=>(V2.q 7 [12] hz33 rfl rfl (Y.loadG (q:=2) (si:=4) (ps:=5) (j:=0) (X:=[.int .i64 th1.now_]) ag3 rfl rfl rfl rfl (sl1 (a:=2) (p:=3) (zrN (nn:=2) (k:=1) (fun _ _=>rfl) en3) (sl1 (a:=1) (p:=2) rfl (sl1 (a:=1) (p:=1) rfl (sl1 (a:=1) (p:=0) rfl sl0)))) rfl) (V2.apNil (i:=9) (Nx2.of [] (by kernel_rfl) rfl hz32) rfl rfl rfl eth1 (V2.q 10 [] hz32 rfl rfl (Y.fieldP j0 rfl) (V2.eff (i:=8) (by kernel_rfl) rfl (L.callJ (fun v D=>∃ gl26 gv27 gl28,v=gv27∧D=Cls w F [qf gP70 gP88 gP100 qP70 A70 (a0.toNat :: []),qj gP88 qP88 A88 [],.obj (gP70 a0.toNat) (List.flatten [(zr (fzr (PR gP100)) (fun _=>[]) th1.logs_).flatten,[.int .i64 th1.half_],[.int .i64 th1.gen_],[.bool th1.down_],[.int .i64 th1.now_],(zr qi gq11 gl10).flatten,[gv1],[gv6]]) 70,.ss (zs sd0 (fun _=>[]) th1.logs_),.ss (zs (qq 79 2 TVersion.row) gq11 gl10),.sl gv3 3 1 (gl26.map I),.sl gv27 79 2 (gl28.map TVersion.row),.sl gv1 84 1 (gl2.map (PR gP88)),.sl gv6 84 1 (gl7.map (PR gP88))]∧qeU gl10 gx9 go1 gl26 gl28=some r) rfl qkS rfl Tryz.func56 rfl rfl rfl ?_ ?_))))))))))))))
   ·refine sr (L.r 1 rfl (nsr (L.r 1 rfl ?_)))
    obtain ⟨l41,e43,h⟩:=qd h
    refine L.does rfl qkO rfl (fun w' hw=>W76 x7 (gv (gq11 gx9.toNat) 0) w' _ e43 (As.atZ (sds:=(qq 79 2 TVersion.row)) (vs:=gq11) (j:=0) (c:=1) (hw.get (i:=4) rfl) (fun _ _=>rfl) (Tl.idx hG12 (Int.le_refl _) (qt ex7)) rfl)) ?_
    rintro v42 _ ⟨_,rfl,rfl⟩
    refine L.r 1 rfl (ln (W.seqJ (fun gs D=>∃ gl29,gs=[(1,gv3),(2,.int .i64 th1.now_),(7,v42)]∧D=Cls w F [qf gP70 gP88 gP100 qP70 A70 (a0.toNat :: []),qj gP88 qP88 A88 [],.obj (gP70 a0.toNat) (List.flatten [(zr (fzr (PR gP100)) (fun _=>[]) th1.logs_).flatten,[.int .i64 th1.half_],[.int .i64 th1.gen_],[.bool th1.down_],[.int .i64 th1.now_],(zr qi gq11 gl10).flatten,[gv1],[gv6]]) 70,.ss (zs sd0 (fun _=>[]) th1.logs_),.ss (zs (qq 79 2 TVersion.row) gq11 gl10),.sl gv3 3 1 (gl8.map I),.sl v42 79 2 (gl29.map TVersion.row),.sl gv1 84 1 (gl2.map (PR gP88)),.sl gv6 84 1 (gl7.map (PR gP88))]∧qeT gl8 th1 gl10 gx9 go1 gl29=some r) ?_ ?_))
    ·refine sr (L.r 1 rfl (L.y rfl (Y.lenM (g:=TVersion.row) (l:=l41) Tryz.underlying66 rfl (fun w hw=>As.at_ (hw.get (i:=0) rfl))) (L.r 1 rfl (ln (W.block (W.loopJ (fun m gs D=>∃ gl39 gx40,gs=[(1,gv3),(2,.int .i64 th1.now_),(7,v42),(17,.int .i64 (l41.length:Int)),(18,.int .i64 gx40)]∧D=Cls w F [qf gP70 gP88 gP100 qP70 A70 (a0.toNat :: []),qj gP88 qP88 A88 [],.obj (gP70 a0.toNat) (List.flatten [(zr (fzr (PR gP100)) (fun _=>[]) th1.logs_).flatten,[.int .i64 th1.half_],[.int .i64 th1.gen_],[.bool th1.down_],[.int .i64 th1.now_],(zr qi gq11 gl10).flatten,[gv1],[gv6]]) 70,.ss (zs sd0 (fun _=>[]) th1.logs_),.ss (zs (qq 79 2 TVersion.row) gq11 gl10),.sl gv3 3 1 (gl8.map I),.sl v42 79 2 (gl39.map TVersion.row),.sl gv1 84 1 (gl2.map (PR gP88)),.sl gv6 84 1 (gl7.map (PR gP88))]∧vt l41 gl8 th1 gl10 gx9 go1 m gl39 gx40=some r) ⟨l41,0,rfl,rfl,h⟩ ⟨rfl,rfl,rfl,rfl,rfl,trivial⟩ (sI [1,2,3,4,5,6,0,7,8]) ?_))))))
     rintro m _ _ ⟨gl39,gx40,rfl,rfl,h⟩
     rcases m with _ | m
     ·rw [vt] at h;cases h
     rw [vt] at h
     generalize hg5:vt l41 gl8 th1 gl10 gx9 go1 m=go5 at h
     rw [qbU] at h
     refine sr (L.ite h rfl (Y.lss rfl rfl) (fun c67 h=>?_) (fun c67 h=>?_))
     ·refine ln (W.seq (W.condT rfl (W.skip (E.thenN (W.seq (W.block (sr (L.r 2 rfl (nr ?_)))))))))
      refine L.r 2 rfl (L.m (V:=fun _=>el v42 (gx40.toNat*2)) h rfl (Y.indexM (g:=TVersion.row) (l:=gl39) Tryz.underlying66 vB rfl rfl (fun w hw=>As.at_ (hw.get (i:=6) rfl))) (fun x68 ex68 h=>(L.y rfl (Y.fieldE xD rfl) (L.y rfl (Y.loadE (u:=.int .i64 x68.At) ag3 rfl (fun w hw=>As.at_ (hw.get (i:=6) rfl)) (qx ex68) rfl) (L.m (V:=fun x69=>.int .i64 x69) h rfl (Y.addM rfl rfl) (fun x69 ex69 h=>(L.m (V:=fun _=>el v42 (gx40.toNat*2)) h rfl (Y.indexM (g:=TVersion.row) (l:=gl39) Tryz.underlying66 vB rfl rfl (fun w hw=>As.at_ (hw.get (i:=6) rfl))) (fun x70 ex70 h=>(L.y rfl (Y.fieldE xD rfl) (L.storeSlM (q:=6) (row:=TVersion.row) (vs:=[.int .i64 x69]) (j:=0) (u1:=(⟨x69,x70.Text⟩:TVersion)) h sz3 rfl rfl rfl rfl rfl (zi rfl zq) rfl ex70 rfl rfl ?_))))))))))
      intro l71 el71 h
      exact L.nil (E.blockN (E.thenN (W.region (L.m (V:=fun x72=>.int .i64 x72) h rfl (Y.addM rfl rfl) (fun x72 ex72 h=>(L.r 1 rfl (L.nil (E.aJ ⟨l71,x72,rfl,rfl,by rw [hg5];exact h⟩ hI))))))))
     exact ln (W.seq (W.condF rfl (W.exit (E.thenX (E.KLX (E.blockX (E.jJ ⟨gl39,rfl,rfl,h⟩ hI)))))))
    rintro _ _ ⟨gl29,rfl,rfl,h⟩
    rw [qeT] at h
    refine W.seqJ (fun gs D=>∃ gl30,gs=[(1,gv3),(2,.int .i64 th1.now_),(7,v42)]∧D=Cls w F [qf gP70 gP88 gP100 qP70 A70 (a0.toNat :: []),qj gP88 qP88 A88 [],.obj (gP70 a0.toNat) (List.flatten [(zr (fzr (PR gP100)) (fun _=>[]) th1.logs_).flatten,[.int .i64 th1.half_],[.int .i64 th1.gen_],[.bool th1.down_],[.int .i64 th1.now_],(zr qi gq11 gl10).flatten,[gv1],[gv6]]) 70,.ss (zs sd0 (fun _=>[]) th1.logs_),.ss (zs (qq 79 2 TVersion.row) gq11 gl10),.sl gv3 3 1 (gl30.map I),.sl v42 79 2 (gl29.map TVersion.row),.sl gv1 84 1 (gl2.map (PR gP88)),.sl gv6 84 1 (gl7.map (PR gP88))]∧qeS th1 gl29 gl10 gx9 go1 gl30=some r) ?_ ?_
    ·refine sr (L.r 1 rfl (L.y rfl (Y.lenM (g:=I) (l:=gl8) Tryz.underlying86 rfl (fun w hw=>As.at_ (hw.get (i:=5) rfl))) (L.r 1 rfl (ln (W.block (W.loopJ (fun m gs D=>∃ gl37 gx38,gs=[(1,gv3),(2,.int .i64 th1.now_),(7,v42),(31,.int .i64 (gl8.length:Int)),(32,.int .i64 gx38)]∧D=Cls w F [qf gP70 gP88 gP100 qP70 A70 (a0.toNat :: []),qj gP88 qP88 A88 [],.obj (gP70 a0.toNat) (List.flatten [(zr (fzr (PR gP100)) (fun _=>[]) th1.logs_).flatten,[.int .i64 th1.half_],[.int .i64 th1.gen_],[.bool th1.down_],[.int .i64 th1.now_],(zr qi gq11 gl10).flatten,[gv1],[gv6]]) 70,.ss (zs sd0 (fun _=>[]) th1.logs_),.ss (zs (qq 79 2 TVersion.row) gq11 gl10),.sl gv3 3 1 (gl37.map I),.sl v42 79 2 (gl29.map TVersion.row),.sl gv1 84 1 (gl2.map (PR gP88)),.sl gv6 84 1 (gl7.map (PR gP88))]∧wZ gl8 th1 gl29 gl10 gx9 go1 m gl37 gx38=some r) ⟨gl8,0,rfl,rfl,h⟩ ⟨rfl,rfl,rfl,rfl,rfl,trivial⟩ hI ?_))))))
     rintro m _ _ ⟨gl37,gx38,rfl,rfl,h⟩
     rcases m with _ | m
     ·rw [wZ] at h;cases h
     rw [wZ] at h
     generalize hg4:wZ gl8 th1 gl29 gl10 gx9 go1 m=go4 at h
     rw [qbV] at h
     refine sr (L.ite h rfl (Y.lss rfl rfl) (fun c61 h=>?_) (fun c61 h=>?_))
     ·refine ln (W.seq (W.condT rfl (W.skip (E.thenN (W.seq (W.block (sr (L.r 2 rfl (nr ?_)))))))))
      refine L.r 2 rfl (L.m (V:=fun _=>el gv3 (gx38.toNat*1)) h rfl (Y.indexM (g:=I) (l:=gl37) Tryz.underlying86 sz3 rfl rfl (fun w hw=>As.at_ (hw.get (i:=5) rfl))) (fun x62 ex62 h=>(L.y rfl (Y.loadE1 (u:=.int .i64 x62) ag3 rfl (fun w hw=>As.at_ (hw.get (i:=5) rfl)) (qx ex62)) (L.m (V:=fun x63=>.int .i64 x63) h rfl (Y.addM rfl rfl) (fun x63 ex63 h=>(L.m (V:=fun _=>el gv3 (gx38.toNat*1)) h rfl (Y.indexM (g:=I) (l:=gl37) Tryz.underlying86 sz3 rfl rfl (fun w hw=>As.at_ (hw.get (i:=5) rfl))) (fun x64 ex64 h=>(L.storeSlM (q:=5) (row:=I) (vs:=[.int .i64 x63]) (j:=0) (u1:=x63) h sz3 rfl rfl rfl rfl rfl (zi rfl zq) rfl ex64 rfl rfl ?_))))))))
      intro l65 el65 h
      exact L.nil (E.blockN (E.thenN (W.region (L.m (V:=fun x66=>.int .i64 x66) h rfl (Y.addM rfl rfl) (fun x66 ex66 h=>(L.r 1 rfl (L.nil (E.aJ ⟨l65,x66,rfl,rfl,by rw [hg4];exact h⟩ hI))))))))
     exact ln (W.seq (W.condF rfl (W.exit (E.thenX (E.KLX (E.blockX (E.jJ ⟨gl37,rfl,rfl,h⟩ hI)))))))
    rintro _ _ ⟨gl30,rfl,rfl,h⟩
    rw [qeS] at h
    refine sr (L.r 3 rfl (L.m (V:=fun x44=>.int .i64 x44) h rfl (Y.addM rfl rfl) (fun x44 ex44 h=>?_)))
    obtain ⟨l45,x47,e48,h⟩:=qB h
    refine L.does rfl qkN rfl (fun w' hw=>W77 gl29 gl30 x44 v42 gv3 w' _ e48 (As.at_ (hw.get (i:=6) rfl)) (As.at_ (hw.get (i:=5) rfl))) ?_
    rintro _ _ ⟨v46,rfl,rfl⟩
    refine L.r 5 rfl (ln (W.seqJ (fun gs D=>∃ gl31,gs=[(1,gv3),(10,v46)]∧D=Cls w F [qf gP70 gP88 gP100 qP70 A70 (a0.toNat :: []),qj gP88 qP88 A88 [],.obj (gP70 a0.toNat) (List.flatten [(zr (fzr (PR gP100)) (fun _=>[]) th1.logs_).flatten,[.int .i64 th1.half_],[.int .i64 th1.gen_],[.bool th1.down_],[.int .i64 th1.now_],(zr qi gq11 gl10).flatten,[gv1],[gv6]]) 70,.ss (zs sd0 (fun _=>[]) th1.logs_),.ss (zs (qq 79 2 TVersion.row) gq11 gl10),.sl gv3 3 1 (gl30.map I),.sl v46 79 2 (gl31.map TVersion.row),.sl gv1 84 1 (gl2.map (PR gP88)),.sl gv6 84 1 (gl7.map (PR gP88))]∧qeR gl30 gl10 gx9 go1 gl31=some r) ?_ ?_))
    ·refine sr (L.r 1 rfl (L.y rfl (Y.lenM (g:=TVersion.row) (l:=l45) Tryz.underlying66 rfl (fun w hw=>As.at_ (hw.get (i:=0) rfl))) (L.r 1 rfl (ln (W.block (W.loopJ (fun m gs D=>∃ gl35 gx36,gs=[(1,gv3),(10,v46),(51,.int .i64 (l45.length:Int)),(52,.int .i64 gx36)]∧D=Cls w F [qf gP70 gP88 gP100 qP70 A70 (a0.toNat :: []),qj gP88 qP88 A88 [],.obj (gP70 a0.toNat) (List.flatten [(zr (fzr (PR gP100)) (fun _=>[]) th1.logs_).flatten,[.int .i64 th1.half_],[.int .i64 th1.gen_],[.bool th1.down_],[.int .i64 th1.now_],(zr qi gq11 gl10).flatten,[gv1],[gv6]]) 70,.ss (zs sd0 (fun _=>[]) th1.logs_),.ss (zs (qq 79 2 TVersion.row) gq11 gl10),.sl gv3 3 1 (gl30.map I),.sl v46 79 2 (gl35.map TVersion.row),.sl gv1 84 1 (gl2.map (PR gP88)),.sl gv6 84 1 (gl7.map (PR gP88))]∧w4 l45 gl30 gl10 gx9 go1 m gl35 gx36=some r) ⟨l45,0,rfl,rfl,h⟩ ⟨rfl,rfl,rfl,rfl,trivial⟩ (sI [1,2,3,4,5,6,0,8,9]) ?_))))))
     rintro m _ _ ⟨gl35,gx36,rfl,rfl,h⟩
     rcases m with _ | m
     ·rw [w4] at h;cases h
     rw [w4] at h
     generalize hg3:w4 l45 gl30 gl10 gx9 go1 m=go3 at h
     rw [qbW] at h
     refine sr (L.ite h rfl (Y.lss rfl rfl) (fun c55 h=>?_) (fun c55 h=>?_))
     ·refine ln (W.seq (W.condT rfl (W.skip (E.thenN (W.seq (W.block (sr (L.r 2 rfl (nr ?_)))))))))
      refine L.r 2 rfl (L.m (V:=fun _=>el v46 (gx36.toNat*2)) h rfl (Y.indexM (g:=TVersion.row) (l:=gl35) Tryz.underlying66 vB rfl rfl (fun w hw=>As.at_ (hw.get (i:=6) rfl))) (fun x56 ex56 h=>(L.y rfl (Y.fieldE xD rfl) (L.y rfl (Y.loadE (u:=.int .i64 x56.At) ag3 rfl (fun w hw=>As.at_ (hw.get (i:=6) rfl)) (qx ex56) rfl) (L.m (V:=fun x57=>.int .i64 x57) h rfl (Y.subM rfl rfl) (fun x57 ex57 h=>(L.m (V:=fun _=>el v46 (gx36.toNat*2)) h rfl (Y.indexM (g:=TVersion.row) (l:=gl35) Tryz.underlying66 vB rfl rfl (fun w hw=>As.at_ (hw.get (i:=6) rfl))) (fun x58 ex58 h=>(L.y rfl (Y.fieldE xD rfl) (L.storeSlM (q:=6) (row:=TVersion.row) (vs:=[.int .i64 x57]) (j:=0) (u1:=(⟨x57,x58.Text⟩:TVersion)) h sz3 rfl rfl rfl rfl rfl (zi rfl zq) rfl ex58 rfl rfl ?_))))))))))
      intro l59 el59 h
      exact L.nil (E.blockN (E.thenN (W.region (L.m (V:=fun x60=>.int .i64 x60) h rfl (Y.addM rfl rfl) (fun x60 ex60 h=>(L.r 1 rfl (L.nil (E.aJ ⟨l59,x60,rfl,rfl,by rw [hg3];exact h⟩ hI))))))))
     exact ln (W.seq (W.condF rfl (W.exit (E.thenX (E.KLX (E.blockX (E.jJ ⟨gl35,rfl,rfl,h⟩ hI)))))))
    rintro _ _ ⟨gl31,rfl,rfl,h⟩
    rw [qeR] at h
    refine W.seqJ (fun gs D=>∃ gl32,gs=[(10,v46)]∧D=Cls w F [qf gP70 gP88 gP100 qP70 A70 (a0.toNat :: []),qj gP88 qP88 A88 [],.obj (gP70 a0.toNat) (List.flatten [(zr (fzr (PR gP100)) (fun _=>[]) th1.logs_).flatten,[.int .i64 th1.half_],[.int .i64 th1.gen_],[.bool th1.down_],[.int .i64 th1.now_],(zr qi gq11 gl10).flatten,[gv1],[gv6]]) 70,.ss (zs sd0 (fun _=>[]) th1.logs_),.ss (zs (qq 79 2 TVersion.row) gq11 gl10),.sl v46 79 2 (gl31.map TVersion.row),.sl gv1 84 1 (gl2.map (PR gP88)),.sl gv6 84 1 (gl7.map (PR gP88)),.sl gv3 3 1 (gl32.map I)]∧qeQ gl10 gx9 go1 gl31 gl32=some r) ?_ ?_
    ·refine sr (L.r 1 rfl (L.y rfl (Y.lenM (g:=I) (l:=gl30) Tryz.underlying86 rfl (fun w hw=>As.at_ (hw.get (i:=5) rfl))) (L.r 1 rfl (ln (W.block (W.loopJ (fun m gs D=>∃ gl33 gx34,gs=[(1,gv3),(10,v46),(65,.int .i64 (gl30.length:Int)),(66,.int .i64 gx34)]∧D=Cls w F [qf gP70 gP88 gP100 qP70 A70 (a0.toNat :: []),qj gP88 qP88 A88 [],.obj (gP70 a0.toNat) (List.flatten [(zr (fzr (PR gP100)) (fun _=>[]) th1.logs_).flatten,[.int .i64 th1.half_],[.int .i64 th1.gen_],[.bool th1.down_],[.int .i64 th1.now_],(zr qi gq11 gl10).flatten,[gv1],[gv6]]) 70,.ss (zs sd0 (fun _=>[]) th1.logs_),.ss (zs (qq 79 2 TVersion.row) gq11 gl10),.sl gv3 3 1 (gl33.map I),.sl v46 79 2 (gl31.map TVersion.row),.sl gv1 84 1 (gl2.map (PR gP88)),.sl gv6 84 1 (gl7.map (PR gP88))]∧w5 gl30 gl10 gx9 go1 gl31 m gl33 gx34=some r) ⟨gl30,0,rfl,rfl,h⟩ ⟨rfl,rfl,rfl,rfl,trivial⟩ hI ?_))))))
     rintro m _ _ ⟨gl33,gx34,rfl,rfl,h⟩
     rcases m with _ | m
     ·rw [w5] at h;cases h
     rw [w5] at h
     generalize hg2:w5 gl30 gl10 gx9 go1 gl31 m=go2 at h
     rw [qbX] at h
     refine sr (L.ite h rfl (Y.lss rfl rfl) (fun c49 h=>?_) (fun c49 h=>?_))
     ·refine ln (W.seq (W.condT rfl (W.skip (E.thenN (W.seq (W.block (sr (L.r 2 rfl (nr ?_)))))))))
      refine L.r 2 rfl (L.m (V:=fun _=>el gv3 (gx34.toNat*1)) h rfl (Y.indexM (g:=I) (l:=gl33) Tryz.underlying86 sz3 rfl rfl (fun w hw=>As.at_ (hw.get (i:=5) rfl))) (fun x50 ex50 h=>(L.y rfl (Y.loadE1 (u:=.int .i64 x50) ag3 rfl (fun w hw=>As.at_ (hw.get (i:=5) rfl)) (qx ex50)) (L.m (V:=fun x51=>.int .i64 x51) h rfl (Y.subM rfl rfl) (fun x51 ex51 h=>(L.m (V:=fun _=>el gv3 (gx34.toNat*1)) h rfl (Y.indexM (g:=I) (l:=gl33) Tryz.underlying86 sz3 rfl rfl (fun w hw=>As.at_ (hw.get (i:=5) rfl))) (fun x52 ex52 h=>(L.storeSlM (q:=5) (row:=I) (vs:=[.int .i64 x51]) (j:=0) (u1:=x51) h sz3 rfl rfl rfl rfl rfl (zi rfl zq) rfl ex52 rfl rfl ?_))))))))
      intro l53 el53 h
      exact L.nil (E.blockN (E.thenN (W.region (L.m (V:=fun x54=>.int .i64 x54) h rfl (Y.addM rfl rfl) (fun x54 ex54 h=>(L.r 1 rfl (L.nil (E.aJ ⟨l53,x54,rfl,rfl,by rw [hg2];exact h⟩ hI))))))))
     exact ln (W.seq (W.condF rfl (W.exit (E.thenX (E.KLX (E.blockX (E.jJ ⟨gl33,rfl,rfl,h⟩ (sI [0,1,2,3,4,6,7,8,5]))))))))
    rintro _ _ ⟨gl32,rfl,rfl,h⟩
    rw [qeQ] at h
    exact sr (L.r 2 rfl (ln (W.ret (E.ret1 rfl rfl (fun w1 hw=>(⟨_,_,rfl,⟨gl32,v46,gl31,rfl,rfl,h⟩,hw.s [0,1,2,3,4,8,5,6,7]⟩))))))
   rintro gv27 _ ⟨gl26,_,gl28,rfl,rfl,h⟩
   rw [qeU] at h
   refine L.nil (E.toV2 (stC [[12]] [Cls w F [qf gP70 gP88 gP100 qP70 A70 (a0.toNat :: []),qj gP88 qP88 A88 [],.obj (gP70 a0.toNat) (List.flatten [(zr (fzr (PR gP100)) (fun _=>[]) th1.logs_).flatten,[.int .i64 th1.half_],[.int .i64 th1.gen_],[.bool th1.down_],[.int .i64 th1.now_],(zr qi gq11 gl10).flatten,[gv1],[gv6]]) 70,.ss (zs sd0 (fun _=>[]) th1.logs_),.ss (zs (qq 79 2 TVersion.row) gq11 gl10),.sl gv27 79 2 (gl28.map TVersion.row),.sl gv1 84 1 (gl2.map (PR gP88)),.sl gv6 84 1 (gl7.map (PR gP88))]] (Cls w F [qf gP70 gP88 gP100 qP70 A70 (a0.toNat :: []),qj gP88 qP88 A88 [],.ss (zs sd0 (fun _=>[]) th1.logs_),.sl gv1 84 1 (gl2.map (PR gP88)),.sl gv6 84 1 (gl7.map (PR gP88))])) 8 (by kernel_rfl) (Sc.past rfl (Sc.stay (sI [0,1,2,3,4,6,7]) (Sc.stayD hI))) (Sc.now (by kernel_rfl) (sI [0,1,2,3,4,6,7,8])) (V2.zz [12] (Zc.at1 hI) (fun hz35=>(V2.m (i:=11) (V':=fun _=>pt (gP70 a0.toNat) (6+gx9.toNat*1)) h (Nx2.of [12] (by kernel_rfl) rfl hz35) rfl rfl rfl (Y.indexAS (l:=gl10) Tryz.underlying67 qc9 rfl rfl) (fun x36 ex36 h=>(V2.eff (i:=12) (by kernel_rfl) rfl (L.storeZSgT (si:=5) (ps:=6) (row:=qi) (sds:=(qq 79 2 TVersion.row)) (vs:=gq11) (q:=2) (p:=6) (s:=4) (c:=1) (jj:=0) (u1:=gl28) (v1:=[gv27]) (j:=0) h qc9 rfl rfl rfl rfl rfl (sl1 (a:=2) (p:=4) (zrN (nn:=2) (k:=1) (fun _ _=>rfl) en3) (sl1 (a:=1) (p:=3) rfl (sl1 (a:=1) (p:=2) rfl (sl1 (a:=1) (p:=1) rfl (sl1 (a:=1) (p:=0) rfl sl0))))) rfl rfl (.inl rfl) (fun _ _=>rfl) (fun _ _=>rfl) (qt ex36) rfl rfl rfl rfl ?_)))))))
   intro l37 q38 el37 hgt39 h
   exact L.nil (E.toV2 (stC [] [] (Cls w F [qf gP70 gP88 gP100 qP70 A70 (a0.toNat :: []),qj gP88 qP88 A88 [],.ss (zs sd0 (fun _=>[]) th1.logs_),.sl gv1 84 1 (gl2.map (PR gP88)),.sl gv6 84 1 (gl7.map (PR gP88))])) 12 (by kernel_rfl) (Sc.past rfl (Sc.stayD hI)) (Sc.atD (sI [0,1,3,6,7])) (V2.done (by kernel_rfl) (E.blockN (E.thenN (W.region (L.m (V:=fun x40=>.int .i64 x40) h rfl (Y.addM rfl rfl) (fun x40 ex40 h=>(L.r 1 rfl (L.nil (E.aJ ⟨gl26,x40,l37,q38,(),rfl,rfl,(Tl.mono (Tl.put (p':=(gx9+1)) hG12 el37 hgt39 (by omega) (by omega)) (by have h9:=jt ex40;omega)),by rw [hg1];exact h⟩ hI))))))))))
  exact ln (W.condF rfl (W.skip (E.blockN (E.thenN (W.region (L.m (V:=fun x73=>.int .i64 x73) h rfl (Y.addM rfl rfl) (fun x73 ex73 h=>(L.r 1 rfl (L.nil (E.aJ ⟨gl8,x73,gl10,gq11,(),rfl,rfl,(Tl.mono hG12 (by have h9:=jt ex73;omega)),by rw [hg1];exact h⟩ hI))))))))))
 refine ln (W.seq (W.condF rfl (W.exit (E.thenX (E.KLX (E.blockX (E.to (D:=Cls w F [qf gP70 gP88 gP100 qP70 A70 (a0.toNat :: []),qj gP88 qP88 A88 [],.obj (gP70 a0.toNat) (List.flatten [(zr (fzr (PR gP100)) (fun _=>[]) th1.logs_).flatten,[.int .i64 th1.half_],[.int .i64 th1.gen_],[.bool th1.down_],[.int .i64 th1.now_],(zr qi (qk ([gv1,gv6]++ghl gq11 gl10.length) 2) gl10).flatten,[gv1],[gv6]]) 70,.ss (zs sd0 (fun _=>[]) th1.logs_),.ss (zs (qq 79 2 TVersion.row) (qk ([gv1,gv6]++ghl gq11 gl10.length) 2) gl10),.sl gv3 3 1 (gl8.map I),.sl gv1 84 1 (gl2.map (PR gP88)),.sl gv6 84 1 (gl7.map (PR gP88))]) (fun _ hw=>by rw [zK [gv1,gv6] _ 2 _ rfl,zJ [gv1,gv6] _ 2 _ rfl];exact hw) ?_)))))))
 obtain ⟨l75,el75,h⟩:=qd h
 refine E.arClose (row:=TStore.rowA gP88 gP100) (sub:=TStore.subA gP88 gP100) (e:=70) (g:=gP70) (gh:=qP70) (vs':=([gv1,gv6]++ghl gq11 gl10.length)) (hs:=[]) (hs':=(a0.toNat :: [])) (m':=[qj gP88 qP88 A88 [],.sl gv3 3 1 (gl8.map I)]) [2,6,7,3,4,0,1,5] el75 (by decide) rfl (fun _=>List.mem_cons) List.not_mem_nil ?_
 intro q74
 refine E.to (D:=Cls w F [qf gP70 gP88 gP100 q74 l75 [],qj gP88 qP88 A88 [],.sl gv3 3 1 (gl8.map I)]) hI (E.end0 rfl (fun w1 hw=>?_))
 cases h
 exact ⟨_,_,rfl,⟨_,rfl,rfl⟩,hw.s [0,1]⟩
set_option maxRecDepth 100000 in
set_option maxHeartbeats 8000000 in
theorem W48 (a0:(List UInt8)) (w:World) (r:((List UInt8)×Int)) (h:M48 a0=some r):Does Tryz.prog 48 [st a0] w fun u m=>u=.tuple #[st r.1,.int .i64 r.2]∧m=[]:=by
 rw [M48] at h
 refine body (n:=13) Tryz.func48 rfl rfl rfl (Cls.refl w) (sr (L.r 2 rfl (ln (W.seq (sr (L.r 1 rfl (L.y rfl (Y.lenS Tryz.underlying9 rfl) (L.ite h rfl (Y.gtr rfl rfl) (fun c1 h=>?_) (fun c1 h=>?_)))))))))
 ·refine ln (W.condT rfl (sr (L.r 2 rfl (ln (W.ret (E.thenR (E.ret2 rfl rfl rfl (fun w1 hw=>?_))))))))
  cases h
  exact ⟨_,_,rfl,⟨rfl,rfl⟩,hw⟩
 refine ln (W.condF rfl (W.skip (E.thenN (sr (L.r 1 rfl (L.y rfl (Y.lenS Tryz.underlying9 rfl) (L.y rfl (Y.conv Tryz.underlying3 Tryz.underlying114 rfl) ?_)))))))
 obtain ⟨s2,e3,h⟩:=qd h
 refine L.y rfl (Y.does qjQ rfl (fun w' hw=>(W47 (IntKind.wrap .u64 (a0.length:Int)) w' _ e3).mono (fun _ _ h=>h.1))) (L.r 1 rfl (L.m (V:=fun s4=>st s4) h rfl (Y.catM rfl rfl) (fun s4 es4 h=>(L.r 2 rfl (ln (W.ret (E.ret2 rfl rfl rfl (fun w1 hw=>?_))))))))
 cases h
 exact ⟨_,_,rfl,⟨rfl,rfl⟩,hw⟩
set_option maxRecDepth 100000 in
set_option maxHeartbeats 8000000 in
theorem W26 (a0:Int) (a1:(List UInt8)) (w:World) (r:(List UInt8)) (h:M26 a0 a1=some r):Does Tryz.prog 26 [.int .i64 a0,st a1] w fun u m=>u=st r∧m=[]:=by
 rw [M26] at h
 refine body (n:=16) Tryz.func26 rfl rfl rfl (Cls.refl w) (sr (L.r 1 rfl (nsr (L.r 1 rfl ?_))))
 obtain ⟨s1,x2,e3,h⟩:=qB h
 refine L.y rfl (Y.does qgR rfl (fun w' hw=>(W48 a1 w' _ e3).mono (fun _ _ h=>h.1))) (L.r 5 rfl (nsr (L.r 1 rfl ?_)))
 obtain ⟨s4,e5,h⟩:=qd h
 refine L.y rfl (Y.does qaP rfl (fun w' hw=>(W24 a0 w' _ e5).mono (fun _ _ h=>h.1))) (L.r 1 rfl (L.m (V:=fun s6=>st s6) h rfl (Y.catM rfl rfl) (fun s6 es6 h=>(L.r 1 rfl (ln (W.ret (E.ret1 rfl rfl (fun w1 hw=>?_))))))))
 cases h
 exact ⟨_,_,rfl,⟨rfl,rfl⟩,hw⟩
set_option maxRecDepth 100000 in
set_option maxHeartbeats 8000000 in
theorem W43 (a0:Int) (a1:Int) (a2:(List UInt8)) (w:World) (r:(List (List UInt8))) (h:M43 a0 a1 a2=some r):Does Tryz.prog 43 [.int .i64 a0,.int .i64 a1,st a2] w fun u m=>∃ v0,u=v0∧m=[.sl v0 9 1 (r.map SR)]:=by
 rw [M43] at h
 refine body (n:=49) Tryz.func43 rfl rfl rfl (Cls.refl w) (sr (L.r 1 rfl (nsr (L.r 1 rfl ?_))))
 obtain ⟨s1,x2,e3,h⟩:=qB h
 refine L.y rfl (Y.does qgR rfl (fun w' hw=>(W48 a2 w' _ e3).mono (fun _ _ h=>h.1))) (L.r 5 rfl (nsr (L.r 1 rfl ?_)))
 obtain ⟨s4,x5,e6,h⟩:=qB h
 refine L.y rfl (Y.does qjP rfl (fun w' hw=>(W72 s1 w' _ e6).mono (fun _ _ h=>h.1))) (L.r 5 rfl (nsr (L.r 1 rfl (ln (W.seqJ (fun gs D=>∃ gv1 gl2,gs=[(11,gv1)]∧D=Cls w [] [.sl gv1 9 1 (gl2.map SR)]∧qeO gl2=some r) ?_ ?_)))))
 ·refine sr (L.r 1 rfl (ln (W.block (W.nilSl 9 1 (W.loopJ (fun m gs D=>∃ gs3 gv4 gl5 gs6,gs=[(0,.int .i64 a0),(1,.int .i64 a1),(9,st gs3),(11,gv4),(12,st gs6)]∧D=Cls w [] [.sl gv4 9 1 (gl5.map SR)]∧km a0 a1 m gs3 gl5 gs6=some r) ⟨s4,.slice none 0 0,[],[1],rfl,rfl,h⟩ ⟨rfl,rfl,rfl,rfl,rfl,trivial⟩ hI ?_)))))
  rintro m _ _ ⟨gs3,gv4,gl5,gs6,rfl,rfl,h⟩
  rcases m with _ | m
  ·rw [km] at h;cases h
  rw [km] at h
  generalize hg1:km a0 a1 m=go1 at h
  rw [v7] at h
  refine W.seq (sr (L.r 1 rfl (L.ite h rfl (Y.neqS rfl rfl) (fun c7 h=>?_) (fun c7 h=>?_))))
  ·refine ln (W.condT rfl (W.skip (E.thenN (W.seq (W.block (sr (L.r 3 rfl ?_)))))))
   obtain ⟨s8,e9,h⟩:=qd h
   refine L.y rfl (Y.does qid rfl (fun w' hw=>(W69 gs6 a0 a1 w' _ e9).mono (fun _ _ h=>h.1))) (L.r 1 rfl (nsr (L.r 1 rfl (L.y rfl (Y.lenS Tryz.underlying9 rfl) (L.m (V:=fun x10=>.int .i64 x10) h rfl (Y.subM rfl rfl) (fun x10 ex10 h=>(L.r 1 rfl (L.y rfl (Y.lenS Tryz.underlying9 rfl) (L.y rfl (Y.min2 rfl rfl) (L.r 1 rfl (L.nil ?_)))))))))))
   refine E.thenN (sr (L.r 4 rfl (L.m (V:=fun s11=>st s11) h rfl (Y.sliceSH Tryz.underlying9 rfl rfl) (fun s11 es11 h=>(L.m (V:=fun s12=>st s12) h rfl (Y.catM rfl rfl) (fun s12 es12 h=>(L.litOne rfl Tryz.underlying57 eL9 rfl rfl ?_)))))))
   intro b13
   refine L.appM (i:=1) (g:=SR) (l:=gl5) (more:=[s12]) h rfl Tryz.underlying57 eL9 rfl rfl rfl (fun w hw=>As.at_ (hw.get (i:=0) rfl)) (qv _) rfl ?_
   intro v14 l15 el15 h
   exact L.r 1 rfl (nr (L.r 2 rfl (L.m (V:=fun s16=>st s16) h rfl (Y.sliceSL Tryz.underlying9 rfl rfl) (fun s16 es16 h=>(L.r 1 rfl (L.nil (E.blockN (E.thenN (W.region (L.r 1 rfl (L.nil (E.aJ ⟨s16,v14,l15,[2],rfl,rfl,by rw [hg1];exact h⟩ (sI [0])))))))))))))
  exact ln (W.condF rfl (W.exit (E.thenX (E.KLX (E.blockX (E.jJ ⟨gv4,gl5,rfl,rfl,h⟩ hI))))))
 rintro _ _ ⟨gv1,gl2,rfl,rfl,h⟩
 rw [qeO] at h
 refine sr (L.r 2 rfl (ln (W.ret (E.ret1 rfl rfl (fun w1 hw=>?_)))))
 cases h
 exact ⟨_,_,rfl,⟨_,rfl,rfl⟩,hw⟩
set_option maxRecDepth 100000 in
set_option maxHeartbeats 8000000 in
theorem W27 (a0:Int) (a1:(List UInt8)) (A60:(List TDisk)) (A100:(List TLog)) (gP60:Nat→Nat) (gP100:Nat→Nat) (qP60:Nat→List Value) (qP100:Nat→List Value) (w:World) (r:((List TDisk)×(List TLog)×Int)) (h:M27 a0 a1 A60 A100=some r) (F:List Nat) (hc0:Cls w F [qe gP60 qP60 A60 [],qc gP60 gP100 qP100 A100 []] w):zg Tryz.prog 27 [VP gP100 a0,st a1] F w fun u m=>∃ Q60 Q100,u=.int .i64 r.2.2∧m=[qe gP60 Q60 r.1 [],qc gP60 gP100 Q100 r.2.1 []]:=by
 rw [M27] at h
 refine body (n:=84) Tryz.func27 rfl rfl rfl hc0 (sr (L.r 1 rfl (ln (W.seq (sr (L.r 1 rfl ?_))))))
 obtain ⟨th1,eth1,h⟩:=qd h
 refine L.to (D:=Cls w F [.obj (gP100 a0.toNat) [VP gP60 th1.d_,.int .i64 th1.from_,.int .i64 th1.size_,.int .i64 th1.epoch_,.int .i64 th1.at_,.int .i64 th1.seq_,.bool th1.fell_] 100,qc gP60 gP100 qP100 A100 (a0.toNat :: []),qe gP60 qP60 A60 []]) (fun _ hw=>hw.arOpen (p:=1) rfl eth1 List.not_mem_nil) (L.y rfl (Y.apNil rfl eth1) (L.y rfl (Y.fieldP jO rfl) (L.iteB h rfl (Y.loadP (i:=0) ag4 rfl rfl rfl) (fun c2 h=>?_) (fun c2 h=>?_))))
 ·refine ln (W.condT rfl (sr (L.r 1 rfl (ln (W.ret (E.thenR (E.to (D:=Cls w F [qc gP60 gP100 qP100 A100 [],qe gP60 qP60 A60 []]) (fun _ hw=>hw.arShut (hs':=(a0.toNat :: [])) [0,1,2] eth1 (by decide) rfl (fun _=>List.mem_cons) List.not_mem_nil) (E.ret1 rfl rfl (fun w1 hw=>?_)))))))))
  cases h
  exact ⟨_,_,rfl,⟨_,_,rfl,rfl⟩,hw.s [1,0]⟩
 refine ln (W.condF rfl (W.skip (E.thenN (W.seq (sr (L.r 1 rfl (L.y rfl (Y.lenS Tryz.underlying9 rfl) (L.ite h rfl (Y.gtr rfl rfl) (fun c3 h=>?_) (fun c3 h=>?_)))))))))
 ·refine ln (W.condT rfl (sr (L.r 1 rfl (ln (W.ret (E.thenR (E.to (D:=Cls w F [qc gP60 gP100 qP100 A100 [],qe gP60 qP60 A60 []]) (fun _ hw=>hw.arShut (hs':=(a0.toNat :: [])) [0,1,2] eth1 (by decide) rfl (fun _=>List.mem_cons) List.not_mem_nil) (E.ret1 rfl rfl (fun w1 hw=>?_)))))))))
  cases h
  exact ⟨_,_,rfl,⟨_,_,rfl,rfl⟩,hw.s [1,0]⟩
 refine ln (W.condF rfl (W.skip (E.thenN (W.seq (W.drawn2 (k:=11) (stC [] [] (Cls w F [.obj (gP100 a0.toNat) [VP gP60 th1.d_,.int .i64 th1.from_,.int .i64 th1.size_,.int .i64 th1.epoch_,.int .i64 th1.at_,.int .i64 th1.seq_,.bool th1.fell_] 100,qc gP60 gP100 qP100 A100 (a0.toNat :: []),qe gP60 qP60 A60 []])) rfl mixed (fun _ hw=>hw.drew) (Sc.atD hI) (V2.zz [] (Zc.fin hI) (fun hz4=>(V2.r [0] (by kernel_rfl) rfl (V2.apNil (i:=1) (Nx2.of [] (by kernel_rfl) rfl hz4) rfl rfl rfl eth1 (V2.q 2 [] hz4 rfl rfl (Y.fieldP xj rfl) (V2.q 3 [] hz4 rfl rfl (Y.loadP (i:=0) ag3 rfl rfl rfl) (V2.r [4] (by kernel_rfl) rfl (V2.apNil (i:=5) (Nx2.of [] (by kernel_rfl) rfl hz4) rfl rfl rfl eth1 ?_)))))))))))))
 refine V2.q 6 [] hz4 rfl rfl (Y.fieldP ja rfl) (V2.q 7 [] hz4 rfl rfl (Y.loadP (i:=0) ag3 rfl rfl rfl) (V2.r [8] (by kernel_rfl) rfl (V2.eff (i:=9) (by kernel_rfl) rfl ?_)))
 obtain ⟨l5,e7,h⟩:=qd h
 refine L.does rfl qjT rfl (fun w' hw=>W43 th1.epoch_ th1.seq_ a1 w' _ e7) ?_
 rintro v6 _ ⟨_,rfl,rfl⟩
 refine L.nil (E.toV2 (stC [] [] (Cls w F [.sl v6 9 1 (l5.map SR),.obj (gP100 a0.toNat) [VP gP60 th1.d_,.int .i64 th1.from_,.int .i64 th1.size_,.int .i64 th1.epoch_,.int .i64 th1.at_,.int .i64 th1.seq_,.bool th1.fell_] 100,qc gP60 gP100 qP100 A100 (a0.toNat :: []),qe gP60 qP60 A60 []])) 9 (by kernel_rfl) (Sc.stayD (sI [1,2,3])) (Sc.atD hI) (V2.r [10] (by kernel_rfl) rfl (V2.done (by kernel_rfl) (E.thenN (W.seq (W.seq (W.quietC mixed (by kernel_rfl) (fun _ hw=>hw.drew) (fun hC=>(U.r 1 rfl (U.y rfl (Y.apNil rfl eth1) (U.y rfl (Y.fieldP xF rfl) (U.y rfl (Y.loadP (i:=1) ag3 rfl rfl rfl) (U.r 1 rfl (U.y rfl (Y.lenM (g:=SR) (l:=l5) Tryz.underlying57 rfl (fun w hw=>As.at_ (hw.get (i:=0) rfl))) ?_))))))))))))))
 refine U.m (V:=fun x9=>.int .i64 x9) h rfl (Y.addM rfl rfl) (fun x9 ex9 h=>(U.r 1 rfl (U.y rfl (Y.apNil rfl eth1) (U.y rfl (Y.fieldP qaO rfl) (U.y rfl (Y.loadP (i:=1) ag3 rfl rfl rfl) (U.ite h rfl (Y.gtr rfl rfl) (fun c10 h=>?_) (fun c10 h=>?_)))))))
 ·refine U.nil (E.thenN (W.condT rfl (sr (L.r 1 rfl (ln (W.ret (E.thenR (E.to (D:=Cls w F [qc gP60 gP100 qP100 A100 [],.sl v6 9 1 (l5.map SR),qe gP60 qP60 A60 []]) (fun _ hw=>hw.arShut (hs':=(a0.toNat :: [])) [1,2,0,3] eth1 (by decide) rfl (fun _=>List.mem_cons) List.not_mem_nil) (E.ret1 rfl rfl (fun w1 hw=>?_))))))))))
  cases h
  exact ⟨_,_,rfl,⟨_,_,rfl,rfl⟩,hw.s [2,0]⟩
 refine U.nil (E.thenN (W.condF rfl (W.skip (E.thenN (W.seqJ (fun gs D=>∃ gl1 gq2,gs=[(0,VP gP100 a0),(5,v6)]∧D=Cls w F [qc gP60 gP100 qP100 A100 [],qe gP60 gq2 gl1 [],.sl v6 9 1 (l5.map SR)]∧qeX A100 a0 l5 gl1=some r) ?_ ?_)))))
 ·refine sr (L.r 1 rfl (L.y rfl (Y.lenM (g:=SR) (l:=l5) Tryz.underlying57 rfl (fun w hw=>As.at_ (hw.get (i:=0) rfl))) (L.r 1 rfl (ln (W.block (W.to (D:=Cls w F [qc gP60 gP100 qP100 A100 [],.sl v6 9 1 (l5.map SR),qe gP60 qP60 A60 []]) (fun _ hw=>hw.arShut (hs':=(a0.toNat :: [])) [1,2,0,3] eth1 (by decide) rfl (fun _=>List.mem_cons) List.not_mem_nil) (W.loopJ (fun m gs D=>∃ gx3 gl4 gq5,gs=[(0,VP gP100 a0),(5,v6),(38,v6),(39,.int .i64 (l5.length:Int)),(40,.int .i64 gx3)]∧D=Cls w F [qc gP60 gP100 qP100 A100 [],qe gP60 gq5 gl4 [],.sl v6 9 1 (l5.map SR)]∧vu l5 A100 a0 m gx3 gl4=some r) ⟨0,A60,qP60,rfl,rfl,h⟩ ⟨rfl,rfl,rfl,rfl,rfl,trivial⟩ (sI [0,2,1]) ?_)))))))
  rintro m _ _ ⟨gx3,gl4,gq5,rfl,rfl,h⟩
  rcases m with _ | m
  ·rw [vu] at h;cases h
  rw [vu] at h
  generalize hg1:vu l5 A100 a0 m=go1 at h
  rw [qb9] at h
  refine sr (L.ite h rfl (Y.lss rfl rfl) (fun c16 h=>?_) (fun c16 h=>?_))
  ·refine ln (W.seq (W.condT rfl (W.skip (E.thenN (W.seq (W.block (sr (L.r 1 rfl (L.m (V:=fun _=>el v6 (gx3.toNat*1)) h rfl (Y.indexM (g:=SR) (l:=l5) Tryz.underlying57 sz9 rfl rfl (fun w hw=>As.at_ (hw.get (i:=2) rfl))) (fun x17 ex17 h=>(L.y rfl (Y.loadE1 (u:=st x17) ag9 rfl (fun w hw=>As.at_ (hw.get (i:=2) rfl)) (qx ex17)) (L.r 2 rfl ?_))))))))))))
   refine ln (W.seq ?_)
   obtain ⟨th18,eth18,h⟩:=qd h
   refine W.to (D:=Cls w F [.obj (gP100 a0.toNat) [VP gP60 th18.d_,.int .i64 th18.from_,.int .i64 th18.size_,.int .i64 th18.epoch_,.int .i64 th18.at_,.int .i64 th18.seq_,.bool th18.fell_] 100,qc gP60 gP100 qP100 A100 (a0.toNat :: []),qe gP60 gq5 gl4 [],.sl v6 9 1 (l5.map SR)]) (fun _ hw=>hw.arOpen (p:=0) rfl eth18 List.not_mem_nil) (W.drawn2 (k:=18) (stC [[16]] [Cls w F [.obj (gP100 a0.toNat) [VP gP60 th18.d_,.int .i64 th18.from_,.int .i64 th18.size_,.int .i64 th18.epoch_,.int .i64 th18.at_,.int .i64 th18.seq_,.bool th18.fell_] 100,qc gP60 gP100 qP100 A100 (a0.toNat :: []),qe gP60 gq5 gl4 [],.sl v6 9 1 (l5.map SR)]] (Cls w F [.sl v6 9 1 (l5.map SR)])) rfl mixed (fun _ hw=>hw.drew) (Sc.now (by kernel_rfl) hI) (V2.zz [] (Zc.on' (Zc.fin hI) (sI [3])) (fun hz42=>(V2.r [0] (by kernel_rfl) rfl (V2.apNil (i:=1) (Nx2.of [] (by kernel_rfl) rfl hz42) rfl rfl rfl eth18 (V2.q 2 [] hz42 rfl rfl (Y.fieldP xG rfl) (V2.zz [16] (Zc.at1 hI) (fun hz43=>(V2.q 3 [16] hz43 rfl rfl (Y.loadP (i:=0) qgZ rfl rfl rfl) (V2.r [4] (by kernel_rfl) rfl (V2.apNil (i:=5) (Nx2.of [] (by kernel_rfl) rfl hz42) rfl rfl rfl eth18 (V2.q 6 [] hz42 rfl rfl (Y.fieldP vd rfl) (V2.q 7 [16] hz43 rfl rfl (Y.loadP (i:=0) ag3 rfl rfl rfl) (V2.r [8] (by kernel_rfl) rfl (V2.apNil (i:=9) (Nx2.of [] (by kernel_rfl) rfl hz42) rfl rfl rfl eth18 ?_)))))))))))))))
   refine V2.q 10 [] hz42 rfl rfl (Y.fieldP xF rfl) (V2.q 11 [16] hz43 rfl rfl (Y.loadP (i:=0) ag3 rfl rfl rfl) (V2.m (i:=12) (V':=fun x44=>.int .i64 x44) h (Nx2.of [] (by kernel_rfl) rfl hz42) rfl rfl rfl (Y.addM rfl rfl) (fun x44 ex44 h=>(V2.r [13] (by kernel_rfl) rfl (V2.m (i:=14) (V':=fun x45=>.int .i64 x45) h (Nx2.of [] (by kernel_rfl) rfl hz42) rfl rfl rfl (Y.addM rfl rfl) (fun x45 ex45 h=>(V2.r [15] (by kernel_rfl) rfl (V2.eff (i:=16) (by kernel_rfl) rfl (L.to (D:=Cls w F [qc gP60 gP100 qP100 A100 [],qe gP60 gq5 gl4 [],.sl v6 9 1 (l5.map SR)]) (fun _ hw=>hw.arShut (hs':=(a0.toNat :: [])) [0,1,2,3] eth18 (by decide) rfl (fun _=>List.mem_cons) List.not_mem_nil) (L.to (D:=Cls w F [qe gP60 gq5 gl4 [],qc gP60 gP100 qP100 A100 [],.sl v6 9 1 (l5.map SR)]) (sI [1,0,2]) ?_))))))))))
   obtain ⟨l46,x47,e48,h⟩:=qB h
   refine L.doesP (A:=[qe gP60 gq5 gl4 []]) (M:=[qc gP60 gP100 qP100 A100 [],.sl v6 9 1 (l5.map SR)]) rfl qjS rfl (fun w' hw=>W44 th18.d_ x45 x17 gl4 gP60 gq5 w' _ e48 _ hw.lend) ?_
   rintro _ _ ⟨q49,rfl,rfl⟩
   refine L.to (D:=Cls w F [qe gP60 q49 l46 [],qc gP60 gP100 qP100 A100 [],.sl v6 9 1 (l5.map SR)]) hI (L.nil (E.toV2 (stC [] [] (Cls w F [.sl v6 9 1 (l5.map SR)])) 16 (by kernel_rfl) (Sc.past rfl (Sc.stayD hI)) (Sc.atD (sI [2])) (V2.r [17] (by kernel_rfl) rfl (V2.done (by kernel_rfl) (E.thenN (sr (L.r 1 rfl (L.ite h rfl (Y.neq rfl rfl) (fun c51 h=>?_) (fun c51 h=>?_)))))))))
   ·refine ln (W.condT rfl (sr (L.r 2 rfl (L.to (D:=Cls w F [qc gP60 gP100 qP100 A100 [],qe gP60 q49 l46 [],.sl v6 9 1 (l5.map SR)]) (sI [1,0,2]) ?_))))
    obtain ⟨l52,x53,e54,h⟩:=qB h
    refine L.doesP (A:=[qc gP60 gP100 qP100 A100 []]) (M:=[qe gP60 q49 l46 [],.sl v6 9 1 (l5.map SR)]) rfl qie rfl (fun w' hw=>W45 a0 x47 A100 gP60 gP100 qP100 w' _ e54 _ hw.lend) ?_
    rintro _ _ ⟨q55,rfl,rfl⟩
    refine L.to (D:=Cls w F [qc gP60 gP100 q55 l52 [],qe gP60 q49 l46 [],.sl v6 9 1 (l5.map SR)]) hI (L.r 1 rfl (ln (W.ret (E.blockR (E.thenR (E.KLR (E.blockR (E.KSR (E.ret1 rfl rfl (fun w1 hw=>?_))))))))))
    cases h
    exact ⟨_,_,rfl,⟨_,_,rfl,rfl⟩,hw.s [1,0]⟩
   exact ln (W.condF rfl (W.skip (E.blockN (E.thenN (W.region (L.m (V:=fun x56=>.int .i64 x56) h rfl (Y.addM rfl rfl) (fun x56 ex56 h=>(L.r 1 rfl (L.nil (E.aJ ⟨x56,l46,q49,rfl,rfl,by rw [hg1];exact h⟩ (sI [1,0,2])))))))))))
  exact ln (W.seq (W.condF rfl (W.exit (E.thenX (E.KLX (E.blockX (E.jJ ⟨gl4,gq5,rfl,rfl,h⟩ hI)))))))
 rintro _ _ ⟨gl1,gq2,rfl,rfl,h⟩
 rw [qeX] at h
 refine sr (L.r 1 rfl ?_)
 obtain ⟨th11,eth11,h⟩:=qd h
 refine L.to (D:=Cls w F [.obj (gP100 a0.toNat) [VP gP60 th11.d_,.int .i64 th11.from_,.int .i64 th11.size_,.int .i64 th11.epoch_,.int .i64 th11.at_,.int .i64 th11.seq_,.bool th11.fell_] 100,qc gP60 gP100 qP100 A100 (a0.toNat :: []),qe gP60 gq2 gl1 [],.sl v6 9 1 (l5.map SR)]) (fun _ hw=>hw.arOpen (p:=0) rfl eth11 List.not_mem_nil) (L.y rfl (Y.apNil rfl eth11) (L.y rfl (Y.fieldP xF rfl) (L.y rfl (Y.loadP (i:=0) ag3 rfl rfl rfl) (L.r 1 rfl (L.y rfl (Y.lenM (g:=SR) (l:=l5) Tryz.underlying57 rfl (fun w hw=>As.at_ (hw.get (i:=3) rfl))) (L.m (V:=fun x12=>.int .i64 x12) h rfl (Y.addM rfl rfl) (fun x12 ex12 h=>(L.y rfl (Y.apNil rfl eth11) (L.y rfl (Y.fieldP xF rfl) (L.store (i:=0) (vs:=[.int .i64 x12]) sz3 rfl rfl rfl rfl (by simp [Value.oneCell',Value.cells,st,pt,el]) rfl nb (nsr ?_)))))))))))
 refine L.r 1 rfl (L.y rfl (Y.apNil rfl eth11) (L.y rfl (Y.fieldP ja rfl) (L.y rfl (Y.loadP (i:=0) ag3 rfl rfl rfl) (L.m (V:=fun x13=>.int .i64 x13) h rfl (Y.addM rfl rfl) (fun x13 ex13 h=>(L.y rfl (Y.apNil rfl eth11) (L.y rfl (Y.fieldP ja rfl) (L.store (i:=0) (vs:=[.int .i64 x13]) sz3 rfl rfl rfl rfl (by simp [Value.oneCell',Value.cells,st,pt,el]) rfl nb (nsr (L.r 1 rfl (L.nil ?_)))))))))))
 refine E.thenN (W.ret ?_)
 obtain ⟨l14,el14,h⟩:=qd h
 refine E.arClose (row:=TLog.rowA gP60) (sub:=TLog.subA gP60) (e:=100) (g:=gP100) (gh:=qP100) (vs':=[]) (hs:=[]) (hs':=(a0.toNat :: [])) (m':=[qe gP60 gq2 gl1 [],.sl v6 9 1 (l5.map SR)]) [0,1,2,3] el14 (by decide) rfl (fun _=>List.mem_cons) List.not_mem_nil ?_
 intro q15
 refine E.to (D:=Cls w F [qc gP60 gP100 q15 l14 [],qe gP60 gq2 gl1 [],.sl v6 9 1 (l5.map SR)]) hI (E.ret1 rfl rfl (fun w1 hw=>?_))
 cases h
 exact ⟨_,_,rfl,⟨_,_,rfl,rfl⟩,hw.s [1,0]⟩
set_option maxRecDepth 100000 in
set_option maxHeartbeats 8000000 in
theorem W25 (a0:Int) (a1:Int) (A70:(List TStore)) (gP70:Nat→Nat) (gP88:Nat→Nat) (gP100:Nat→Nat) (qP70:Nat→List Value) (w:World) (r:((List TStore)×Int)) (h:M25 a0 a1 A70=some r) (F:List Nat) (hc0:Cls w F [qf gP70 gP88 gP100 qP70 A70 []] w):zg Tryz.prog 25 [VP gP70 a0,.int .i64 a1] F w fun u m=>∃ Q70,u=.int .i64 r.2∧m=[qf gP70 gP88 gP100 Q70 r.1 []]:=by
 rw [M25] at h
 refine body (n:=17) Tryz.func25 rfl rfl rfl hc0 ?_
 obtain ⟨th1,eth1,h⟩:=qd h
 refine W.to (D:=Cls w F [.obj (gP70 a0.toNat) (List.flatten [(zr (fzr (PR gP100)) (fun _=>[]) th1.logs_).flatten,[.int .i64 th1.half_],[.int .i64 th1.gen_],[.bool th1.down_],[.int .i64 th1.now_],(zr qi (qk (qP70 a0.toNat) 2) th1.items_).flatten,[(gv (qP70 a0.toNat) 0)],[(gv (qP70 a0.toNat) 1)]]) 70,.sl (gv (qP70 a0.toNat) 0) 84 1 (th1.active_.map (PR gP88)),.sl (gv (qP70 a0.toNat) 1) 84 1 (th1.over_.map (PR gP88)),.ss (zs sd0 (fun _=>[]) th1.logs_),.ss (zs (qq 79 2 TVersion.row) (qk (qP70 a0.toNat) 2) th1.items_),qf gP70 gP88 gP100 qP70 A70 (a0.toNat :: [])]) (fun _ hw=>hw.arOpen (p:=0) rfl eth1 List.not_mem_nil) (sr (L.r 1 rfl (nsr (L.r 2 rfl (L.y rfl (Y.apNil rfl eth1) (L.y rfl (Y.fieldP vQ rfl) ?_))))))
 obtain ⟨_,en2,h⟩:=qd h
 obtain ⟨_,en2⟩:=qh en2
 refine L.iteB h rfl (Y.loadG (q:=0) (si:=3) (ps:=4) (j:=0) (X:=[.bool th1.down_]) ag4 rfl rfl rfl rfl (sl1 (a:=2) (p:=2) (zrN (nn:=2) (k:=1) (fun _ _=>rfl) en2) (sl1 (a:=1) (p:=1) rfl (sl1 (a:=1) (p:=0) rfl sl0))) rfl) (fun c3 h=>?_) (fun c3 h=>?_)
 ·refine L.r 4 rfl (L.y rfl (Y.apNil rfl eth1) (L.y rfl (Y.fieldP vQ rfl) (L.storeG (q:=0) (si:=3) (ps:=4) (j:=0) (X:=[.bool th1.down_]) (vals:=[.bool true]) sz4 rfl rfl rfl rfl rfl (by simp [Value.oneCell',Value.cells,st,pt,el]) rfl rfl (sl1 (a:=2) (p:=2) (zrN (nn:=2) (k:=1) (fun _ _=>rfl) en2) (sl1 (a:=1) (p:=1) rfl (sl1 (a:=1) (p:=0) rfl sl0))) rfl (nsr (L.r 2 rfl (ln (W.ret (E.to (D:=Cls w F [.obj (gP70 a0.toNat) (List.flatten [(zr (fzr (PR gP100)) (fun _=>[]) th1.logs_).flatten,[.int .i64 th1.half_],[.int .i64 th1.gen_],[.bool true],[.int .i64 th1.now_],(zr qi (qk ([(gv (qP70 a0.toNat) 0),(gv (qP70 a0.toNat) 1)]++ghl (qk (qP70 a0.toNat) 2) th1.items_.length) 2) th1.items_).flatten,[(gv (qP70 a0.toNat) 0)],[(gv (qP70 a0.toNat) 1)]]) 70,.sl (gv (qP70 a0.toNat) 0) 84 1 (th1.active_.map (PR gP88)),.sl (gv (qP70 a0.toNat) 1) 84 1 (th1.over_.map (PR gP88)),.ss (zs sd0 (fun _=>[]) th1.logs_),.ss (zs (qq 79 2 TVersion.row) (qk ([(gv (qP70 a0.toNat) 0),(gv (qP70 a0.toNat) 1)]++ghl (qk (qP70 a0.toNat) 2) th1.items_.length) 2) th1.items_),qf gP70 gP88 gP100 qP70 A70 (a0.toNat :: [])]) (fun _ hw=>by rw [zK [(gv (qP70 a0.toNat) 0),(gv (qP70 a0.toNat) 1)] _ 2 _ rfl,zJ [(gv (qP70 a0.toNat) 0),(gv (qP70 a0.toNat) 1)] _ 2 _ rfl];exact hw) ?_))))))))
  obtain ⟨l5,el5,h⟩:=qd h
  refine E.arClose (row:=TStore.rowA gP88 gP100) (sub:=TStore.subA gP88 gP100) (e:=70) (g:=gP70) (gh:=qP70) (vs':=([(gv (qP70 a0.toNat) 0),(gv (qP70 a0.toNat) 1)]++ghl (qk (qP70 a0.toNat) 2) th1.items_.length)) (hs:=[]) (hs':=(a0.toNat :: [])) (m':=[]) [0,1,2,3,4,5] el5 (by decide) rfl (fun _=>List.mem_cons) List.not_mem_nil ?_
  intro q4
  refine E.to (D:=Cls w F [qf gP70 gP88 gP100 q4 l5 []]) hI (E.ret1 rfl rfl (fun w1 hw=>?_))
  cases h
  exact ⟨_,_,rfl,⟨_,rfl,rfl⟩,hw⟩
 refine L.r 2 rfl (L.take rfl (L.y rfl (Y.neq rfl rfl) (L.r 1 rfl (L.y rfl (Y.apNil rfl eth1) (L.y rfl (Y.fieldP vQ rfl) (L.storeG (q:=0) (si:=3) (ps:=4) (j:=0) (X:=[.bool th1.down_]) (vals:=[.bool (decide (a1≠0))]) sz4 rfl rfl rfl rfl rfl (by simp [Value.oneCell',Value.cells,st,pt,el]) rfl rfl (sl1 (a:=2) (p:=2) (zrN (nn:=2) (k:=1) (fun _ _=>rfl) en2) (sl1 (a:=1) (p:=1) rfl (sl1 (a:=1) (p:=0) rfl sl0))) rfl (nsr (L.r 2 rfl (ln ?_)))))))))
 refine W.ret (E.to (D:=Cls w F [.obj (gP70 a0.toNat) (List.flatten [(zr (fzr (PR gP100)) (fun _=>[]) th1.logs_).flatten,[.int .i64 th1.half_],[.int .i64 th1.gen_],[.bool (decide (a1≠0))],[.int .i64 th1.now_],(zr qi (qk ([(gv (qP70 a0.toNat) 0),(gv (qP70 a0.toNat) 1)]++ghl (qk (qP70 a0.toNat) 2) th1.items_.length) 2) th1.items_).flatten,[(gv (qP70 a0.toNat) 0)],[(gv (qP70 a0.toNat) 1)]]) 70,.sl (gv (qP70 a0.toNat) 0) 84 1 (th1.active_.map (PR gP88)),.sl (gv (qP70 a0.toNat) 1) 84 1 (th1.over_.map (PR gP88)),.ss (zs sd0 (fun _=>[]) th1.logs_),.ss (zs (qq 79 2 TVersion.row) (qk ([(gv (qP70 a0.toNat) 0),(gv (qP70 a0.toNat) 1)]++ghl (qk (qP70 a0.toNat) 2) th1.items_.length) 2) th1.items_),qf gP70 gP88 gP100 qP70 A70 (a0.toNat :: [])]) (fun _ hw=>by rw [zK [(gv (qP70 a0.toNat) 0),(gv (qP70 a0.toNat) 1)] _ 2 _ rfl,zJ [(gv (qP70 a0.toNat) 0),(gv (qP70 a0.toNat) 1)] _ 2 _ rfl];exact hw) ?_)
 obtain ⟨l7,el7,h⟩:=qd h
 refine E.arClose (row:=TStore.rowA gP88 gP100) (sub:=TStore.subA gP88 gP100) (e:=70) (g:=gP70) (gh:=qP70) (vs':=([(gv (qP70 a0.toNat) 0),(gv (qP70 a0.toNat) 1)]++ghl (qk (qP70 a0.toNat) 2) th1.items_.length)) (hs:=[]) (hs':=(a0.toNat :: [])) (m':=[]) [0,1,2,3,4,5] el7 (by decide) rfl (fun _=>List.mem_cons) List.not_mem_nil ?_
 intro q6
 refine E.to (D:=Cls w F [qf gP70 gP88 gP100 q6 l7 []]) hI (E.ret1 rfl rfl (fun w1 hw=>?_))
 cases h
 exact ⟨_,_,rfl,⟨_,rfl,rfl⟩,hw⟩
set_option maxRecDepth 100000 in
set_option maxHeartbeats 8000000 in
theorem W28 (a0:Int) (A60:(List TDisk)) (A100:(List TLog)) (gP60:Nat→Nat) (gP100:Nat→Nat) (qP60:Nat→List Value) (qP100:Nat→List Value) (w:World) (r:((List TDisk)×(List TLog)×Int)) (h:M28 a0 A60 A100=some r) (F:List Nat) (hc0:Cls w F [qe gP60 qP60 A60 [],qc gP60 gP100 qP100 A100 []] w):zg Tryz.prog 28 [VP gP100 a0] F w fun u m=>∃ Q60 Q100,u=.int .i64 r.2.2∧m=[qe gP60 Q60 r.1 [],qc gP60 gP100 Q100 r.2.1 []]:=by
 rw [M28] at h
 refine body (n:=14) Tryz.func28 rfl rfl rfl hc0 (sr (L.r 1 rfl (ln (W.seq (sr (L.r 1 rfl ?_))))))
 obtain ⟨th1,eth1,h⟩:=qd h
 refine L.to (D:=Cls w F [.obj (gP100 a0.toNat) [VP gP60 th1.d_,.int .i64 th1.from_,.int .i64 th1.size_,.int .i64 th1.epoch_,.int .i64 th1.at_,.int .i64 th1.seq_,.bool th1.fell_] 100,qc gP60 gP100 qP100 A100 (a0.toNat :: []),qe gP60 qP60 A60 []]) (fun _ hw=>hw.arOpen (p:=1) rfl eth1 List.not_mem_nil) (L.y rfl (Y.apNil rfl eth1) (L.y rfl (Y.fieldP jO rfl) (L.iteB h rfl (Y.loadP (i:=0) ag4 rfl rfl rfl) (fun c2 h=>?_) (fun c2 h=>?_))))
 ·refine ln (W.condT rfl (sr (L.r 1 rfl (ln (W.ret (E.thenR (E.to (D:=Cls w F [qc gP60 gP100 qP100 A100 [],qe gP60 qP60 A60 []]) (fun _ hw=>hw.arShut (hs':=(a0.toNat :: [])) [0,1,2] eth1 (by decide) rfl (fun _=>List.mem_cons) List.not_mem_nil) (E.ret1 rfl rfl (fun w1 hw=>?_)))))))))
  cases h
  exact ⟨_,_,rfl,⟨_,_,rfl,rfl⟩,hw.s [1,0]⟩
 refine ln (W.condF rfl (W.skip (E.thenN (sr (L.r 2 rfl (L.y rfl (Y.apNil rfl eth1) (L.y rfl (Y.fieldP xG rfl) (L.y rfl (Y.loadP (i:=0) qgZ rfl rfl rfl) (L.to (D:=Cls w F [qc gP60 gP100 qP100 A100 [],qe gP60 qP60 A60 []]) (fun _ hw=>hw.arShut (hs':=(a0.toNat :: [])) [0,1,2] eth1 (by decide) rfl (fun _=>List.mem_cons) List.not_mem_nil) (L.to (D:=Cls w F [qe gP60 qP60 A60 [],qc gP60 gP100 qP100 A100 []]) (sI [1,0]) ?_))))))))))
 obtain ⟨l3,x4,e5,h⟩:=qB h
 refine L.doesP (A:=[qe gP60 qP60 A60 []]) (M:=[qc gP60 gP100 qP100 A100 []]) rfl qjR rfl (fun w' hw=>W46 th1.d_ A60 gP60 qP60 w' _ e5 _ hw.lend) ?_
 rintro _ _ ⟨q6,rfl,rfl⟩
 refine L.to (D:=Cls w F [qe gP60 q6 l3 [],qc gP60 gP100 qP100 A100 []]) hI (L.to (D:=Cls w F [qc gP60 gP100 qP100 A100 [],qe gP60 q6 l3 []]) (sI [1,0]) ?_)
 obtain ⟨l7,x8,e9,h⟩:=qB h
 refine L.doesP (A:=[qc gP60 gP100 qP100 A100 []]) (M:=[qe gP60 q6 l3 []]) rfl qie rfl (fun w' hw=>W45 a0 x4 A100 gP60 gP100 qP100 w' _ e9 _ hw.lend) ?_
 rintro _ _ ⟨q10,rfl,rfl⟩
 refine L.to (D:=Cls w F [qc gP60 gP100 q10 l7 [],qe gP60 q6 l3 []]) hI (L.r 1 rfl (ln (W.ret (E.ret1 rfl rfl (fun w1 hw=>?_)))))
 cases h
 exact ⟨_,_,rfl,⟨_,_,rfl,rfl⟩,hw.s [1,0]⟩
end Go.Proofs.YtbjidacdnjojnaaGreatDoor
