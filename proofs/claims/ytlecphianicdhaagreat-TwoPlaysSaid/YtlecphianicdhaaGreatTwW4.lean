import Derived.Test.YtlecphianicdhaaGreatTwW3
import Derived.Test.YtlecphianicdhaaGreatChecked
import Derived.KernelRfl
import Derived.Test.YtlecphianicdhaaGreatZe
namespace Go.Proofs.YtlecphianicdhaaGreat
open Go.S
set_option linter.unusedVariables false
set_option linter.unusedSimpArgs false
set_option maxRecDepth 100000 in
set_option maxHeartbeats 8000000 in
theorem W63 (a0:Int) (a1:(List TE)) (u1:Value) (w:World) (r:((List (List Int))×Int)) (h:M63 a0 a1=some r) (hA1:At w u1 2 (a1.map TE.row)):Does Tryz.prog 63 [.int .i64 a0,u1] w fun u m=>∃ v0 q0,u=.tuple #[v0,.int .i64 r.2]∧m=[.sl v0 23 1 (zr svRow q0 r.1),.ss (zs (svSd 3 1 I) q0 r.1)]:=by
 rw [M63] at h
 refine body (n:=49) Tryz.func63 rfl rfl rfl (Cls.refl w) (sr (L.r 2 rfl (ln (W.seqJ (fun gs D=>gs=[(0,.int .i64 a0),(1,u1)]∧D=Cls w [] []∧M63K1 a0 a1=some r) ?_ ?_))))
 ·refine sr (L.r 2 rfl ?_)
  obtain ⟨x64,e65,h⟩:=bind1S h
  refine L.y rfl (Y.does en62 rfl (fun w' hw=>(W62 a0 a1 u1 w' _ e65 (hA1.cls0 hw)).mono (fun _ _ h=>h.1))) (L.r 1 rfl (nsr (L.r 1 rfl (L.ite h rfl (Y.neq rfl rfl) (fun c66 h=>?_) (fun c66 h=>?_)))))
  ·refine ln (W.condT rfl (sr (L.r 3 rfl (ln (W.ret (E.KSR (E.ret2 rfl rfl rfl (fun w1 hw=>?_))))))))
   cases h
   exact ⟨_,_,rfl,⟨_,_,rfl,rfl⟩,(Cls.nilZ hw 23 1 svRow (svSd 3 1 I) (fun _=>[]))⟩
  exact ln (W.condF rfl (W.skip (E.jJ ⟨rfl,rfl,h⟩ hI)))
 rintro _ _ ⟨rfl,rfl,h⟩
 rw [M63K1] at h
 refine W.seqJ (fun gs D=>∃ gb1 gv2 gl3 gq4 gv5 gl6 gv7 gl8,gs=[(0,.int .i64 a0),(7,pt gb1 0)]∧D=Cls w [] [.sl gv2 23 1 (zr svRow gq4 gl3),.ss (zs (svSd 3 1 I) gq4 gl3),.sl gv5 3 1 (gl6.map I),.sl gv7 3 1 (gl8.map I),.obj gb1 [gv2,gv5,gv7,.slice none 0 0,.slice none 0 0,.int .i64 0] 126]∧M63K2 a0 gl3 gl6 gl8=some r) ?_ ?_
 ·refine W.drawn2 (k:=10) (stC [] [] (Cls w [] [])) rfl mixed (fun _ hw=>hw.drew) (Sc.atD hI) (V2.r [0,1,3,5] (by kernel_rfl) rfl ?_)
  obtain ⟨y20,e21,h⟩:=bind1S h
  obtain ⟨y22,e23,h⟩:=bind1S h
  obtain ⟨y24,e25,h⟩:=bind1S h
  refine V2.eff3 (i1:=2) (i2:=4) (i3:=6) (by kernel_rfl) rfl rfl rfl ?_ ?_ ?_
  ·refine L.does rfl en77 rfl (fun w' hw=>W77 a0 a1 u1 w' _ e21 (hA1.cls0 hw)) ?_
   rintro v26 _ ⟨_,q27,rfl,rfl⟩
   refine L.nil (E.toV2 (stC [] [] (Cls w [] [.sl v26 23 1 (zr svRow q27 y20),.ss (zs (svSd 3 1 I) q27 y20)])) 2 (by kernel_rfl) (Sc.stayD (sI [])) (Sc.atD hI) (V2.eff2 (i1:=4) (i2:=6) (by kernel_rfl) rfl rfl ?_ ?_))
   ·refine L.makeE (row:=I) (z0:=0) e23 rfl Tryz.underlying23 eL3 ze3 rfl rfl rfl ?_
    intro b28
    refine L.nil (E.toV2 (stC [] [] (Cls w [] [.sl (sv b28 a0.toNat) 3 1 (y22.map I),.sl v26 23 1 (zr svRow q27 y20),.ss (zs (svSd 3 1 I) q27 y20)])) 4 (by kernel_rfl) (Sc.stayD (sI [1,2])) (Sc.atD hI) (V2.eff (i:=6) (by kernel_rfl) rfl (L.makeE (row:=I) (z0:=0) e25 rfl Tryz.underlying23 eL3 ze3 rfl rfl rfl ?_)))
    intro b29
    refine L.nil (E.toV2 (stC [] [] (Cls w [] [.sl (sv b29 a0.toNat) 3 1 (y24.map I),.sl (sv b28 a0.toNat) 3 1 (y22.map I),.sl v26 23 1 (zr svRow q27 y20),.ss (zs (svSd 3 1 I) q27 y20)])) 6 (by kernel_rfl) (Sc.stayD (sI [1,2,3])) (Sc.atD hI) (V2.zz [] (Zc.fin hI) (fun hz30=>(V2.q 7 [] hz30 rfl rfl (Y.buildC (cells:=#[v26,(sv b28 a0.toNat),(sv b29 a0.toNat),.slice none 0 0,.slice none 0 0,.int .i64 0]) rfl (fun w hw=>by rcases ((As.at_ (hw.get (i:=2) rfl))).shape with ⟨h0,_⟩ | ⟨_,_,h0,_,_⟩ <;> rcases ((As.at_ (hw.get (i:=1) rfl))).shape with ⟨h1,_⟩ | ⟨_,_,h1,_,_⟩ <;> rcases ((As.at_ (hw.get (i:=0) rfl))).shape with ⟨h2,_⟩ | ⟨_,_,h2,_,_⟩ <;> simp only [h0,h1,h2] <;> kernel_rfl)) (V2.eff (i:=8) (by kernel_rfl) rfl (L.box rfl rfl ?_))))))
    intro b31
    exact L.nil (E.toV2 (stC [] [] (Cls w [] [.obj b31 [v26,(sv b28 a0.toNat),(sv b29 a0.toNat),.slice none 0 0,.slice none 0 0,.int .i64 0] 126,.sl (sv b29 a0.toNat) 3 1 (y24.map I),.sl (sv b28 a0.toNat) 3 1 (y22.map I),.sl v26 23 1 (zr svRow q27 y20),.ss (zs (svSd 3 1 I) q27 y20)])) 8 (by kernel_rfl) (Sc.stayD (sI [1,2,3,4])) (Sc.atD hI) (V2.r [9] (by kernel_rfl) rfl (V2.done (by kernel_rfl) (E.jJ ⟨b31,v26,y20,q27,(sv b28 a0.toNat),y22,(sv b29 a0.toNat),y24,rfl,rfl,h⟩ (sI [3,4,2,1,0])))))
   refine L.makeE (row:=I) (z0:=0) e25 rfl Tryz.underlying23 eL3 ze3 rfl rfl rfl ?_
   intro b33
   refine L.nil (E.toV2 (stC [] [] (Cls w [] [.sl (sv b33 a0.toNat) 3 1 (y24.map I),.sl v26 23 1 (zr svRow q27 y20),.ss (zs (svSd 3 1 I) q27 y20)])) 6 (by kernel_rfl) (Sc.stayD (sI [1,2])) (Sc.atD hI) (V2.eff (i:=4) (by kernel_rfl) rfl (L.makeE (row:=I) (z0:=0) e23 rfl Tryz.underlying23 eL3 ze3 rfl rfl rfl ?_)))
   intro b34
   refine L.nil (E.toV2 (stC [] [] (Cls w [] [.sl (sv b34 a0.toNat) 3 1 (y22.map I),.sl (sv b33 a0.toNat) 3 1 (y24.map I),.sl v26 23 1 (zr svRow q27 y20),.ss (zs (svSd 3 1 I) q27 y20)])) 4 (by kernel_rfl) (Sc.stayD (sI [1,2,3])) (Sc.atD hI) (V2.zz [] (Zc.fin hI) (fun hz35=>(V2.q 7 [] hz35 rfl rfl (Y.buildC (cells:=#[v26,(sv b34 a0.toNat),(sv b33 a0.toNat),.slice none 0 0,.slice none 0 0,.int .i64 0]) rfl (fun w hw=>by rcases ((As.at_ (hw.get (i:=2) rfl))).shape with ⟨h0,_⟩ | ⟨_,_,h0,_,_⟩ <;> rcases ((As.at_ (hw.get (i:=0) rfl))).shape with ⟨h1,_⟩ | ⟨_,_,h1,_,_⟩ <;> rcases ((As.at_ (hw.get (i:=1) rfl))).shape with ⟨h2,_⟩ | ⟨_,_,h2,_,_⟩ <;> simp only [h0,h1,h2] <;> kernel_rfl)) (V2.eff (i:=8) (by kernel_rfl) rfl (L.box rfl rfl ?_))))))
   intro b36
   exact L.nil (E.toV2 (stC [] [] (Cls w [] [.obj b36 [v26,(sv b34 a0.toNat),(sv b33 a0.toNat),.slice none 0 0,.slice none 0 0,.int .i64 0] 126,.sl (sv b34 a0.toNat) 3 1 (y22.map I),.sl (sv b33 a0.toNat) 3 1 (y24.map I),.sl v26 23 1 (zr svRow q27 y20),.ss (zs (svSd 3 1 I) q27 y20)])) 8 (by kernel_rfl) (Sc.stayD (sI [1,2,3,4])) (Sc.atD hI) (V2.r [9] (by kernel_rfl) rfl (V2.done (by kernel_rfl) (E.jJ ⟨b36,v26,y20,q27,(sv b34 a0.toNat),y22,(sv b33 a0.toNat),y24,rfl,rfl,h⟩ (sI [3,4,1,2,0])))))
  ·refine L.makeE (row:=I) (z0:=0) e23 rfl Tryz.underlying23 eL3 ze3 rfl rfl rfl ?_
   intro b38
   refine L.nil (E.toV2 (stC [] [] (Cls w [] [.sl (sv b38 a0.toNat) 3 1 (y22.map I)])) 4 (by kernel_rfl) (Sc.stayD (sI [])) (Sc.atD hI) (V2.eff2 (i1:=2) (i2:=6) (by kernel_rfl) rfl rfl ?_ ?_))
   ·refine L.does rfl en77 rfl (fun w' hw=>W77 a0 a1 u1 w' _ e21 (hA1.cls0 hw)) ?_
    rintro v39 _ ⟨_,q40,rfl,rfl⟩
    refine L.nil (E.toV2 (stC [] [] (Cls w [] [.sl v39 23 1 (zr svRow q40 y20),.ss (zs (svSd 3 1 I) q40 y20),.sl (sv b38 a0.toNat) 3 1 (y22.map I)])) 2 (by kernel_rfl) (Sc.stayD (sI [2])) (Sc.atD hI) (V2.eff (i:=6) (by kernel_rfl) rfl (L.makeE (row:=I) (z0:=0) e25 rfl Tryz.underlying23 eL3 ze3 rfl rfl rfl ?_)))
    intro b41
    refine L.nil (E.toV2 (stC [] [] (Cls w [] [.sl (sv b41 a0.toNat) 3 1 (y24.map I),.sl v39 23 1 (zr svRow q40 y20),.ss (zs (svSd 3 1 I) q40 y20),.sl (sv b38 a0.toNat) 3 1 (y22.map I)])) 6 (by kernel_rfl) (Sc.stayD (sI [1,2,3])) (Sc.atD hI) (V2.zz [] (Zc.fin hI) (fun hz42=>(V2.q 7 [] hz42 rfl rfl (Y.buildC (cells:=#[v39,(sv b38 a0.toNat),(sv b41 a0.toNat),.slice none 0 0,.slice none 0 0,.int .i64 0]) rfl (fun w hw=>by rcases ((As.at_ (hw.get (i:=1) rfl))).shape with ⟨h0,_⟩ | ⟨_,_,h0,_,_⟩ <;> rcases ((As.at_ (hw.get (i:=3) rfl))).shape with ⟨h1,_⟩ | ⟨_,_,h1,_,_⟩ <;> rcases ((As.at_ (hw.get (i:=0) rfl))).shape with ⟨h2,_⟩ | ⟨_,_,h2,_,_⟩ <;> simp only [h0,h1,h2] <;> kernel_rfl)) (V2.eff (i:=8) (by kernel_rfl) rfl (L.box rfl rfl ?_))))))
    intro b43
    exact L.nil (E.toV2 (stC [] [] (Cls w [] [.obj b43 [v39,(sv b38 a0.toNat),(sv b41 a0.toNat),.slice none 0 0,.slice none 0 0,.int .i64 0] 126,.sl (sv b41 a0.toNat) 3 1 (y24.map I),.sl v39 23 1 (zr svRow q40 y20),.ss (zs (svSd 3 1 I) q40 y20),.sl (sv b38 a0.toNat) 3 1 (y22.map I)])) 8 (by kernel_rfl) (Sc.stayD (sI [1,2,3,4])) (Sc.atD hI) (V2.r [9] (by kernel_rfl) rfl (V2.done (by kernel_rfl) (E.jJ ⟨b43,v39,y20,q40,(sv b38 a0.toNat),y22,(sv b41 a0.toNat),y24,rfl,rfl,h⟩ (sI [2,3,4,1,0])))))
   refine L.makeE (row:=I) (z0:=0) e25 rfl Tryz.underlying23 eL3 ze3 rfl rfl rfl ?_
   intro b45
   refine L.nil (E.toV2 (stC [] [] (Cls w [] [.sl (sv b45 a0.toNat) 3 1 (y24.map I),.sl (sv b38 a0.toNat) 3 1 (y22.map I)])) 6 (by kernel_rfl) (Sc.stayD (sI [1])) (Sc.atD hI) (V2.eff (i:=2) (by kernel_rfl) rfl (L.does rfl en77 rfl (fun w' hw=>W77 a0 a1 u1 w' _ e21 (hA1.cls0 hw)) ?_)))
   rintro v46 _ ⟨_,q47,rfl,rfl⟩
   refine L.nil (E.toV2 (stC [] [] (Cls w [] [.sl v46 23 1 (zr svRow q47 y20),.ss (zs (svSd 3 1 I) q47 y20),.sl (sv b45 a0.toNat) 3 1 (y24.map I),.sl (sv b38 a0.toNat) 3 1 (y22.map I)])) 2 (by kernel_rfl) (Sc.stayD (sI [2,3])) (Sc.atD hI) (V2.zz [] (Zc.fin hI) (fun hz48=>(V2.q 7 [] hz48 rfl rfl (Y.buildC (cells:=#[v46,(sv b38 a0.toNat),(sv b45 a0.toNat),.slice none 0 0,.slice none 0 0,.int .i64 0]) rfl (fun w hw=>by rcases ((As.at_ (hw.get (i:=0) rfl))).shape with ⟨h0,_⟩ | ⟨_,_,h0,_,_⟩ <;> rcases ((As.at_ (hw.get (i:=3) rfl))).shape with ⟨h1,_⟩ | ⟨_,_,h1,_,_⟩ <;> rcases ((As.at_ (hw.get (i:=2) rfl))).shape with ⟨h2,_⟩ | ⟨_,_,h2,_,_⟩ <;> simp only [h0,h1,h2] <;> kernel_rfl)) (V2.eff (i:=8) (by kernel_rfl) rfl (L.box rfl rfl ?_))))))
   intro b49
   exact L.nil (E.toV2 (stC [] [] (Cls w [] [.obj b49 [v46,(sv b38 a0.toNat),(sv b45 a0.toNat),.slice none 0 0,.slice none 0 0,.int .i64 0] 126,.sl v46 23 1 (zr svRow q47 y20),.ss (zs (svSd 3 1 I) q47 y20),.sl (sv b45 a0.toNat) 3 1 (y24.map I),.sl (sv b38 a0.toNat) 3 1 (y22.map I)])) 8 (by kernel_rfl) (Sc.stayD (sI [1,2,3,4])) (Sc.atD hI) (V2.r [9] (by kernel_rfl) rfl (V2.done (by kernel_rfl) (E.jJ ⟨b49,v46,y20,q47,(sv b38 a0.toNat),y22,(sv b45 a0.toNat),y24,rfl,rfl,h⟩ (sI [1,2,4,3,0])))))
  refine L.makeE (row:=I) (z0:=0) e25 rfl Tryz.underlying23 eL3 ze3 rfl rfl rfl ?_
  intro b51
  refine L.nil (E.toV2 (stC [] [] (Cls w [] [.sl (sv b51 a0.toNat) 3 1 (y24.map I)])) 6 (by kernel_rfl) (Sc.stayD (sI [])) (Sc.atD hI) (V2.eff2 (i1:=2) (i2:=4) (by kernel_rfl) rfl rfl ?_ ?_))
  ·refine L.does rfl en77 rfl (fun w' hw=>W77 a0 a1 u1 w' _ e21 (hA1.cls0 hw)) ?_
   rintro v52 _ ⟨_,q53,rfl,rfl⟩
   refine L.nil (E.toV2 (stC [] [] (Cls w [] [.sl v52 23 1 (zr svRow q53 y20),.ss (zs (svSd 3 1 I) q53 y20),.sl (sv b51 a0.toNat) 3 1 (y24.map I)])) 2 (by kernel_rfl) (Sc.stayD (sI [2])) (Sc.atD hI) (V2.eff (i:=4) (by kernel_rfl) rfl (L.makeE (row:=I) (z0:=0) e23 rfl Tryz.underlying23 eL3 ze3 rfl rfl rfl ?_)))
   intro b54
   refine L.nil (E.toV2 (stC [] [] (Cls w [] [.sl (sv b54 a0.toNat) 3 1 (y22.map I),.sl v52 23 1 (zr svRow q53 y20),.ss (zs (svSd 3 1 I) q53 y20),.sl (sv b51 a0.toNat) 3 1 (y24.map I)])) 4 (by kernel_rfl) (Sc.stayD (sI [1,2,3])) (Sc.atD hI) (V2.zz [] (Zc.fin hI) (fun hz55=>(V2.q 7 [] hz55 rfl rfl (Y.buildC (cells:=#[v52,(sv b54 a0.toNat),(sv b51 a0.toNat),.slice none 0 0,.slice none 0 0,.int .i64 0]) rfl (fun w hw=>by rcases ((As.at_ (hw.get (i:=1) rfl))).shape with ⟨h0,_⟩ | ⟨_,_,h0,_,_⟩ <;> rcases ((As.at_ (hw.get (i:=0) rfl))).shape with ⟨h1,_⟩ | ⟨_,_,h1,_,_⟩ <;> rcases ((As.at_ (hw.get (i:=3) rfl))).shape with ⟨h2,_⟩ | ⟨_,_,h2,_,_⟩ <;> simp only [h0,h1,h2] <;> kernel_rfl)) (V2.eff (i:=8) (by kernel_rfl) rfl (L.box rfl rfl ?_))))))
   intro b56
   exact L.nil (E.toV2 (stC [] [] (Cls w [] [.obj b56 [v52,(sv b54 a0.toNat),(sv b51 a0.toNat),.slice none 0 0,.slice none 0 0,.int .i64 0] 126,.sl (sv b54 a0.toNat) 3 1 (y22.map I),.sl v52 23 1 (zr svRow q53 y20),.ss (zs (svSd 3 1 I) q53 y20),.sl (sv b51 a0.toNat) 3 1 (y24.map I)])) 8 (by kernel_rfl) (Sc.stayD (sI [1,2,3,4])) (Sc.atD hI) (V2.r [9] (by kernel_rfl) rfl (V2.done (by kernel_rfl) (E.jJ ⟨b56,v52,y20,q53,(sv b54 a0.toNat),y22,(sv b51 a0.toNat),y24,rfl,rfl,h⟩ (sI [2,3,1,4,0])))))
  refine L.makeE (row:=I) (z0:=0) e23 rfl Tryz.underlying23 eL3 ze3 rfl rfl rfl ?_
  intro b58
  refine L.nil (E.toV2 (stC [] [] (Cls w [] [.sl (sv b58 a0.toNat) 3 1 (y22.map I),.sl (sv b51 a0.toNat) 3 1 (y24.map I)])) 4 (by kernel_rfl) (Sc.stayD (sI [1])) (Sc.atD hI) (V2.eff (i:=2) (by kernel_rfl) rfl (L.does rfl en77 rfl (fun w' hw=>W77 a0 a1 u1 w' _ e21 (hA1.cls0 hw)) ?_)))
  rintro v59 _ ⟨_,q60,rfl,rfl⟩
  refine L.nil (E.toV2 (stC [] [] (Cls w [] [.sl v59 23 1 (zr svRow q60 y20),.ss (zs (svSd 3 1 I) q60 y20),.sl (sv b58 a0.toNat) 3 1 (y22.map I),.sl (sv b51 a0.toNat) 3 1 (y24.map I)])) 2 (by kernel_rfl) (Sc.stayD (sI [2,3])) (Sc.atD hI) (V2.zz [] (Zc.fin hI) (fun hz61=>(V2.q 7 [] hz61 rfl rfl (Y.buildC (cells:=#[v59,(sv b58 a0.toNat),(sv b51 a0.toNat),.slice none 0 0,.slice none 0 0,.int .i64 0]) rfl (fun w hw=>by rcases ((As.at_ (hw.get (i:=0) rfl))).shape with ⟨h0,_⟩ | ⟨_,_,h0,_,_⟩ <;> rcases ((As.at_ (hw.get (i:=2) rfl))).shape with ⟨h1,_⟩ | ⟨_,_,h1,_,_⟩ <;> rcases ((As.at_ (hw.get (i:=3) rfl))).shape with ⟨h2,_⟩ | ⟨_,_,h2,_,_⟩ <;> simp only [h0,h1,h2] <;> kernel_rfl)) (V2.eff (i:=8) (by kernel_rfl) rfl (L.box rfl rfl ?_))))))
  intro b62
  exact L.nil (E.toV2 (stC [] [] (Cls w [] [.obj b62 [v59,(sv b58 a0.toNat),(sv b51 a0.toNat),.slice none 0 0,.slice none 0 0,.int .i64 0] 126,.sl v59 23 1 (zr svRow q60 y20),.ss (zs (svSd 3 1 I) q60 y20),.sl (sv b58 a0.toNat) 3 1 (y22.map I),.sl (sv b51 a0.toNat) 3 1 (y24.map I)])) 8 (by kernel_rfl) (Sc.stayD (sI [1,2,3,4])) (Sc.atD hI) (V2.r [9] (by kernel_rfl) rfl (V2.done (by kernel_rfl) (E.jJ ⟨b62,v59,y20,q60,(sv b58 a0.toNat),y22,(sv b51 a0.toNat),y24,rfl,rfl,h⟩ (sI [1,2,3,4,0])))))
 rintro _ _ ⟨gb1,gv2,gl3,gq4,gv5,gl6,gv7,gl8,rfl,rfl,h⟩
 rw [M63K2] at h
 refine W.seqJ (fun gs D=>∃ gv9 gl10 gv11 gl12 gv13 gl14 gv15 gl16 gq17 gx18,gs=[(7,pt gb1 0)]∧D=Cls w [] [.obj gb1 [gv2,gv9,gv11,gv13,gv15,.int .i64 gx18] 126,.sl gv2 23 1 (zr svRow gq4 gl3),.ss (zs (svSd 3 1 I) gq4 gl3),.sl gv9 3 1 (gl10.map I),.sl gv11 3 1 (gl12.map I),.sl gv13 3 1 (gl14.map I),.sl gv15 23 1 (zr svRow gq17 gl16),.ss (zs (svSd 3 1 I) gq17 gl16)]∧M63K3 gl10 gl12 gl14 gl16 gx18=some r) ?_ ?_
 ·refine sr (L.r 2 rfl (ln (W.block (W.nilSl 3 1 (W.nilZ 23 1 svRow (svSd 3 1 I) (fun _=>[]) (W.loopJ (fun m gs D=>∃ gx19 gv20 gl21 gv22 gl23 gv24 gl25 gv26 gl27 gq28 gx29,gs=[(7,pt gb1 0),(24,.int .i64 a0),(25,.int .i64 gx19)]∧D=Cls w [] [.obj gb1 [gv2,gv20,gv22,gv24,gv26,.int .i64 gx29] 126,.sl gv2 23 1 (zr svRow gq4 gl3),.ss (zs (svSd 3 1 I) gq4 gl3),.sl gv20 3 1 (gl21.map I),.sl gv22 3 1 (gl23.map I),.sl gv24 3 1 (gl25.map I),.sl gv26 23 1 (zr svRow gq28 gl27),.ss (zs (svSd 3 1 I) gq28 gl27)]∧M63L1 a0 gl3 m gx19 gl21 gl23 gl25 gl27 gx29=some r) ⟨0,gv5,gl6,gv7,gl8,.slice none 0 0,[],.slice none 0 0,[],(fun _=>[]),0,rfl,rfl,h⟩ ⟨rfl,rfl,rfl,trivial⟩ (sI [7,3,4,5,6,2,0,1]) ?_))))))
  rintro m _ _ ⟨gx19,gv20,gl21,gv22,gl23,gv24,gl25,gv26,gl27,gq28,gx29,rfl,rfl,h⟩
  rcases m with _ | m
  ·rw [M63L1] at h;cases h
  rw [M63L1] at h
  generalize hg1:M63L1 a0 gl3 m=go1 at h
  rw [M63L1B] at h
  refine sr (L.ite h rfl (Y.lss rfl rfl) (fun c3 h=>?_) (fun c3 h=>?_))
  ·refine ln (W.seq (W.condT rfl (W.skip (E.thenN (W.seq (W.block (sr (L.r 2 rfl (ln (W.seq ?_))))))))))
   refine W.region (L.r 2 rfl (L.y rfl (Y.fieldP fd126_1 rfl) (L.y rfl (Y.loadP (i:=0) ag23 rfl rfl rfl) (L.r 1 rfl (L.m (V:=fun _=>el gv20 (gx19.toNat*1)) h rfl (Y.indexM (g:=I) (l:=gl21) Tryz.underlying23 sz3 rfl rfl (fun w hw=>As.at_ (hw.get (i:=3) rfl))) (fun x4 ex4 h=>(L.y rfl (Y.loadE1 (u:=.int .i64 x4) ag3 rfl (fun w hw=>As.at_ (hw.get (i:=3) rfl)) (idx_map ex4)) (L.ite h rfl (Y.eql rfl rfl) (fun c5 h=>?_) (fun c5 h=>?_)))))))))
   ·refine ln (W.condT rfl (W.region (L.r 2 rfl ?_)))
    obtain ⟨l6,l7,l8,l9,x10,e11,h⟩:=bind5S h
    refine L.doesP (A:=[.obj gb1 [gv2,gv20,gv22,gv24,gv26,.int .i64 gx29] 126,.sl gv2 23 1 (zr svRow gq4 gl3),.ss (zs (svSd 3 1 I) gq4 gl3),.sl gv20 3 1 (gl21.map I),.sl gv22 3 1 (gl23.map I),.sl gv24 3 1 (gl25.map I),.sl gv26 23 1 (zr svRow gq28 gl27),.ss (zs (svSd 3 1 I) gq28 gl27)]) (M:=[]) rfl en78 rfl (fun w' hw=>W78 gl3 gl21 gl23 gl25 gl27 gx29 gx19 gb1 gv2 gq4 gv20 gv22 gv24 gv26 gq28 w' _ e11 _ hw.lend) ?_
    rintro _ _ ⟨v12,v13,v14,v15,q16,rfl,rfl⟩
    exact L.to (D:=Cls w [] [.obj gb1 [gv2,v12,v13,v14,v15,.int .i64 x10] 126,.sl gv2 23 1 (zr svRow gq4 gl3),.ss (zs (svSd 3 1 I) gq4 gl3),.sl v12 3 1 (l6.map I),.sl v13 3 1 (l7.map I),.sl v14 3 1 (l8.map I),.sl v15 23 1 (zr svRow q16 l9),.ss (zs (svSd 3 1 I) q16 l9)]) hI (L.nil (E.blockN (E.thenN (W.region (L.m (V:=fun x17=>.int .i64 x17) h rfl (Y.addM rfl rfl) (fun x17 ex17 h=>(L.r 1 rfl (L.nil (E.aJ ⟨x17,v12,l6,v13,l7,v14,l8,v15,l9,q16,x10,rfl,rfl,by rw [hg1];exact h⟩ hI)))))))))
   exact ln (W.condF rfl (W.skip (E.blockN (E.thenN (W.region (L.m (V:=fun x18=>.int .i64 x18) h rfl (Y.addM rfl rfl) (fun x18 ex18 h=>(L.r 1 rfl (L.nil (E.aJ ⟨x18,gv20,gl21,gv22,gl23,gv24,gl25,gv26,gl27,gq28,gx29,rfl,rfl,by rw [hg1];exact h⟩ hI))))))))))
  exact ln (W.seq (W.condF rfl (W.exit (E.thenX (E.KLX (E.blockX (E.jJ ⟨gv20,gl21,gv22,gl23,gv24,gl25,gv26,gl27,gq28,gx29,rfl,rfl,h⟩ hI)))))))
 rintro _ _ ⟨gv9,gl10,gv11,gl12,gv13,gl14,gv15,gl16,gq17,gx18,rfl,rfl,h⟩
 rw [M63K3] at h
 refine sr (L.r 2 rfl (L.y rfl (Y.fieldP fd126_4 rfl) (L.y rfl (Y.loadP (i:=0) ag111 rfl rfl rfl) (L.sortH (i:=6) (j:=7) (q:=gq17) (l:=gl16) (mc:=M80) h wSortL79 hcmp80 (fun a b u v w r h hA hB=>(W80 a b u v w r h hA hB).mono (fun _ _ h=>h.1)) en80 rfl en79 rfl rfl rfl rfl (by decide) ?_))))
 intro l1 q2 el1 h
 refine L.to (D:=Cls w [] [.obj gb1 [gv2,gv9,gv11,gv13,gv15,.int .i64 gx18] 126,.sl gv2 23 1 (zr svRow gq4 gl3),.ss (zs (svSd 3 1 I) gq4 gl3),.sl gv9 3 1 (gl10.map I),.sl gv11 3 1 (gl12.map I),.sl gv13 3 1 (gl14.map I),.sl gv15 23 1 (zr svRow q2 l1),.ss (zs (svSd 3 1 I) q2 l1)]) hI (nsr (L.r 2 rfl (L.y rfl (Y.fieldP fd126_4 rfl) (L.y rfl (Y.loadP (i:=0) ag111 rfl rfl rfl) (L.r 2 rfl (ln (W.ret (E.ret2 rfl rfl rfl (fun w1 hw=>?_)))))))))
 cases h
 exact ⟨_,_,rfl,⟨_,_,rfl,rfl⟩,hw.s [6,7]⟩
set_option maxRecDepth 100000 in
set_option maxHeartbeats 8000000 in
theorem W38 (a0:Int) (a1:(List TE)) (u1:Value) (w:World) (r:((List Int)×Int)) (h:M38 a0 a1=some r) (hA1:At w u1 2 (a1.map TE.row)):Does Tryz.prog 38 [.int .i64 a0,u1] w fun u m=>∃ v0,u=.tuple #[v0,.int .i64 r.2]∧m=[.sl v0 3 1 (r.1.map I)]:=by
 rw [M38] at h
 refine body (n:=65) Tryz.func38 rfl rfl rfl (Cls.refl w) (sr (L.r 2 rfl (ln (W.seqJ (fun gs D=>gs=[(0,.int .i64 a0),(1,u1)]∧D=Cls w [] []∧M38K1 a1 a0=some r) ?_ ?_))))
 ·refine sr (L.r 2 rfl ?_)
  obtain ⟨x72,e73,h⟩:=bind1S h
  refine L.y rfl (Y.does en62 rfl (fun w' hw=>(W62 a0 a1 u1 w' _ e73 (hA1.cls0 hw)).mono (fun _ _ h=>h.1))) (L.r 1 rfl (nsr (L.r 1 rfl (L.ite h rfl (Y.neq rfl rfl) (fun c74 h=>?_) (fun c74 h=>?_)))))
  ·refine ln (W.condT rfl (sr (L.r 3 rfl (ln (W.ret (E.KSR (E.ret2 rfl rfl rfl (fun w1 hw=>?_))))))))
   cases h
   exact ⟨_,_,rfl,⟨_,rfl,rfl⟩,(hw.nilSl 3 1)⟩
  exact ln (W.condF rfl (W.skip (E.jJ ⟨rfl,rfl,h⟩ hI)))
 rintro _ _ ⟨rfl,rfl,h⟩
 rw [M38K1] at h
 refine sr (L.r 1 rfl ?_)
 obtain ⟨l1,e3,h⟩:=bind1S h
 refine L.does rfl en42 rfl (fun w' hw=>W42 a1 u1 w' _ e3 (hA1.cls0 hw)) ?_
 rintro v2 _ ⟨_,rfl,rfl⟩
 refine L.r 1 rfl (nsr (L.r 1 rfl (ln (W.block (W.nilSl 3 1 (W.loopJ (fun m gs D=>∃ gv1 gl2 gv3 gl4,gs=[(0,.int .i64 a0),(7,gv1),(8,gv3)]∧D=Cls w [] [.sl gv1 90 2 (gl2.map TE.row),.sl gv3 3 1 (gl4.map I)]∧M38L1 a0 m gl2 gl4=some r) ⟨v2,l1,.slice none 0 0,[],rfl,rfl,h⟩ ⟨rfl,rfl,rfl,trivial⟩ (sI [1,0]) ?_))))))
 rintro m _ _ ⟨gv1,gl2,gv3,gl4,rfl,rfl,h⟩
 rcases m with _ | m
 ·rw [M38L1] at h;cases h
 rw [M38L1] at h
 generalize hg1:M38L1 a0 m=go1 at h
 rw [M38L1B] at h
 refine W.block (sr (L.alloc rfl ze3 ?_))
 intro b4
 refine L.store (i:=0) (vs:=[.int .i64 (-1)]) sz3 rfl rfl rfl rfl (by simp [Value.oneCell',Value.cells,st,pt,el]) rfl nb (nsr (L.r 2 rfl ?_))
 obtain ⟨l5,x8,e9,h⟩:=bind2S h
 refine L.does rfl en63 rfl (fun w' hw=>W63 a0 gl2 gv1 w' _ e9 (As.at_ (hw.get (i:=1) rfl))) ?_
 rintro _ _ ⟨v6,q7,rfl,rfl⟩
 refine L.r 5 rfl (ln (W.seqJ (fun gs D=>∃ gx5,gs=[(0,.int .i64 a0),(7,gv1),(8,gv3),(9,pt b4 0)]∧D=Cls w [] [.obj b4 [.int .i64 gx5] 3,.sl gv1 90 2 (gl2.map TE.row),.sl gv3 3 1 (gl4.map I)]∧M38K2 gl4 gl2 go1 gx5=some r) ?_ ?_))
 ·refine sr (L.r 1 rfl (L.y rfl (Y.lenMZ (row:=svRow) (vs:=q7) (l:=l5) Tryz.underlying111 rfl (fun w hw=>As.at_ (hw.get (i:=0) rfl))) (L.r 1 rfl (ln (W.block (W.loopJ (fun m gs D=>∃ gx17 gx18,gs=[(0,.int .i64 a0),(7,gv1),(8,gv3),(9,pt b4 0),(29,v6),(30,.int .i64 (l5.length:Int)),(31,.int .i64 gx17)]∧D=Cls w [] [.obj b4 [.int .i64 gx18] 3,.sl gv1 90 2 (gl2.map TE.row),.sl gv3 3 1 (gl4.map I),.sl v6 23 1 (zr svRow q7 l5),.ss (zs (svSd 3 1 I) q7 l5)]∧M38L4 l5 gl2 gl4 go1 m gx17 gx18=some r) ⟨0,(-1),rfl,rfl,h⟩ ⟨rfl,rfl,rfl,rfl,rfl,rfl,rfl,trivial⟩ (sI [2,3,4,0,1]) ?_))))))
  rintro m _ _ ⟨gx17,gx18,rfl,rfl,h⟩
  rcases m with _ | m
  ·rw [M38L4] at h;cases h
  rw [M38L4] at h
  generalize hg4:M38L4 l5 gl2 gl4 go1 m=go4 at h
  rw [M38L4B] at h
  refine sr (L.ite h rfl (Y.lss rfl rfl) (fun c36 h=>?_) (fun c36 h=>?_))
  ·refine ln (W.seq (W.condT rfl (W.skip (E.thenN (W.seqJ (fun gs D=>∃ gx19,gs=[(0,.int .i64 a0),(7,gv1),(8,gv3),(9,pt b4 0),(29,v6),(30,.int .i64 (l5.length:Int)),(31,.int .i64 gx17)]∧D=Cls w [] [.obj b4 [.int .i64 gx19] 3,.sl gv1 90 2 (gl2.map TE.row),.sl gv3 3 1 (gl4.map I),.sl v6 23 1 (zr svRow q7 l5),.ss (zs (svSd 3 1 I) q7 l5)]∧M38K12 gx17 go4 gx19=some r) ?_ ?_)))))
   ·refine W.block (sr (L.m (V:=fun _=>el v6 (gx17.toNat*1)) h rfl (Y.indexMZ (row:=svRow) (vs:=q7) (l:=l5) Tryz.underlying111 sz23 rfl rfl (fun w hw=>As.at_ (hw.get (i:=3) rfl))) (fun x38 ex38 h=>(L.y rfl (Y.loadE1 (u:=gv (q7 gx17.toNat) 0) ag23 rfl (fun w hw=>As.at_ (hw.get (i:=3) rfl)) (zr_idx (vs:=q7) ex38)) (L.alloc rfl ze23 ?_)))))
    intro b39
    refine L.storeV (i:=0) sz23 rfl rfl (fun w hw=>(As.atZ (sds:=(svSd 3 1 I)) (vs:=q7) (j:=0) (c:=1) (hw.get (i:=5) rfl) (fun _ _=>rfl) ex38 rfl).one) rfl nb (ln (W.seqJ (fun gs D=>∃ gb20,gs=[(0,.int .i64 a0),(7,gv1),(8,gv3),(9,pt b4 0),(13,pt b39 0),(14,.bool gb20),(29,v6),(30,.int .i64 (l5.length:Int)),(31,.int .i64 gx17)]∧D=Cls w [] [.obj b39 [gv (q7 gx17.toNat) 0] 23,.obj b4 [.int .i64 gx18] 3,.sl gv1 90 2 (gl2.map TE.row),.sl gv3 3 1 (gl4.map I),.sl v6 23 1 (zr svRow q7 l5),.ss (zs (svSd 3 1 I) q7 l5)]∧M38K13 x38 gx17 go4 gx18 gb20=some r) ?_ ?_))
    ·refine W.region (L.r 1 rfl (L.y rfl (Y.func rfl) (L.callJ (fun v D=>∃ gb21,v=.bool gb21∧D=Cls w [] [.obj b39 [gv (q7 gx17.toNat) 0] 23,.obj b4 [.int .i64 gx18] 3,.sl gv1 90 2 (gl2.map TE.row),.sl gv3 3 1 (gl4.map I),.sl v6 23 1 (zr svRow q7 l5),.ss (zs (svSd 3 1 I) q7 l5)]∧M38K14 x38 gx17 go4 gx18 gb21=some r) rfl en64 rfl Tryz.func64 rfl rfl rfl ?_ ?_)))
     ·refine sr (L.r 1 rfl (nsr (L.r 2 rfl (L.callJ (fun v D=>∃ gx22,v=.int .i64 gx22∧D=Cls w [] [.obj b39 [gv (q7 gx17.toNat) 0] 23,.obj b4 [.int .i64 gx18] 3,.sl v6 23 1 (zr svRow q7 l5),.ss (zs (svSd 3 1 I) q7 l5),.sl gv1 90 2 (gl2.map TE.row),.sl gv3 3 1 (gl4.map I)]∧M38K15 x38 gx17 go4 gx18 gx22=some r) rfl en72 rfl Tryz.func72 rfl rfl rfl ?_ ?_))))
      ·refine sr (L.r 1 rfl (ln (W.seqJ (fun gs D=>gs=[]∧D=Cls w [] [.obj b39 [gv (q7 gx17.toNat) 0] 23,.obj b4 [.int .i64 gx18] 3,.sl v6 23 1 (zr svRow q7 l5),.ss (zs (svSd 3 1 I) q7 l5),.sl gv1 90 2 (gl2.map TE.row),.sl gv3 3 1 (gl4.map I)]∧M38K16 x38 gx17 go4 gx18=some r) ?_ ?_)))
       ·refine sr (L.r 1 rfl (L.y rfl (Y.lenM (g:=TE.row) (l:=gl2) Tryz.underlying56 rfl (fun w hw=>As.at_ (hw.get (i:=2) rfl))) (L.r 1 rfl (ln (W.block (W.loopJ (fun m gs D=>∃ gx23,gs=[(0,gv1),(1,.func (.func 65) #[] #[pt b39 0]),(7,.int .i64 (gl2.length:Int)),(8,.int .i64 gx23)]∧D=Cls w [] [.obj b39 [gv (q7 gx17.toNat) 0] 23,.obj b4 [.int .i64 gx18] 3,.sl gv1 90 2 (gl2.map TE.row),.sl v6 23 1 (zr svRow q7 l5),.ss (zs (svSd 3 1 I) q7 l5),.sl gv3 3 1 (gl4.map I)]∧M38L5 gl2 x38 gx17 go4 gx18 m gx23=some r) ⟨0,rfl,rfl,h⟩ ⟨rfl,rfl,rfl,rfl,trivial⟩ (sI [0,1,2,4,5,3]) ?_))))))
        rintro m _ _ ⟨gx23,rfl,rfl,h⟩
        rcases m with _ | m
        ·rw [M38L5] at h;cases h
        rw [M38L5] at h
        generalize hg5:M38L5 gl2 x38 gx17 go4 gx18 m=go5 at h
        rw [M38L5B] at h
        refine sr (L.ite h rfl (Y.lss rfl rfl) (fun c66 h=>?_) (fun c66 h=>?_))
        ·refine ln (W.seq (W.condT rfl (W.skip (E.thenN (W.seq (W.block (sr (L.r 2 rfl (ln (W.seq ?_))))))))))
         refine W.region (L.r 3 rfl (L.m (V:=fun _=>el gv1 (gx23.toNat*2)) h rfl (Y.indexM (g:=TE.row) (l:=gl2) Tryz.underlying56 sz90 rfl rfl (fun w hw=>As.at_ (hw.get (i:=2) rfl))) (fun x67 ex67 h=>(L.y rfl (Y.loadEN (r:=[.int .i64 x67.From,.int .i64 x67.To]) ag90 sz90 rfl (fun w hw=>As.at_ (hw.get (i:=2) rfl)) (idx_map ex67) rfl) (L.callVJ (fun v D=>∃ gb24,v=.bool gb24∧D=Cls w [] [.obj b39 [gv (q7 gx17.toNat) 0] 23,.obj b4 [.int .i64 gx18] 3,.sl gv1 90 2 (gl2.map TE.row),.sl v6 23 1 (zr svRow q7 l5),.ss (zs (svSd 3 1 I) q7 l5),.sl gv3 3 1 (gl4.map I)]∧M38K17 x38 gx17 go4 gx18 gx23 go5 gb24=some r) rfl en65 rfl rfl Tryz.func65 rfl rfl rfl ?_ ?_)))))
         ·refine sr (L.box rfl rfl ?_)
          intro b69
          refine L.r 1 rfl (ln (W.seq (W.quietC mixed (by kernel_rfl) (fun _ hw=>hw.drew) (fun hC=>(U.y rfl (Y.fieldP fd90_0 rfl) (U.y rfl (Y.loadP (i:=0) ag3 rfl rfl rfl) (U.y rfl (Y.fieldP fd90_1 rfl) (U.y rfl (Y.loadP (i:=0) ag3 rfl rfl rfl) (U.ite h rfl (Y.eql rfl rfl) (fun c70 h=>?_) (fun c70 h=>?_))))))))))
          ·refine U.r 1 rfl (U.take rfl (U.y rfl (Y.fieldP fd90_0 rfl) (U.take rfl (U.y rfl (Y.loadP (i:=0) ag3 rfl rfl rfl) (U.take rfl (U.y rfl (Y.loadP (i:=1) ag23 rfl rfl rfl) (U.take rfl (U.m (V:=fun _=>el (gv (q7 gx17.toNat) 0) ((0:Int).toNat*1)) h rfl (Y.indexM (g:=I) (l:=x38) Tryz.underlying23 sz3 rfl rfl (fun w hw=>As.atZ (sds:=(svSd 3 1 I)) (vs:=q7) (j:=0) (c:=1) (hw.get (i:=5) rfl) (fun _ _=>rfl) ex38 rfl)) (fun x71 ex71 h=>(U.take rfl (U.y rfl (Y.loadE1 (u:=.int .i64 x71) ag3 rfl (fun w hw=>As.atZ (sds:=(svSd 3 1 I)) (vs:=q7) (j:=0) (c:=1) (hw.get (i:=5) rfl) (fun _ _=>rfl) ex38 rfl) (idx_map ex71)) (U.take rfl (U.y rfl (Y.eql rfl rfl) (U.r 2 rfl ?_))))))))))))))
           exact U.nil (E.thenN (W.ret (E.ret1 rfl rfl (fun w1 hw=>(⟨_,_,rfl,⟨decide (x67.From=x71),rfl,rfl,h⟩,hw.s [1,2,3,4,5,6]⟩)))))
          exact U.r 9 rfl (U.nil (E.thenN (W.ret (E.ret1 rfl rfl (fun w1 hw=>(⟨_,_,rfl,⟨false,rfl,rfl,h⟩,hw.s [1,2,3,4,5,6]⟩))))))
         rintro _ _ ⟨gb24,rfl,rfl,h⟩
         rw [M38K17] at h
         rcases gb24 with _ | _
         ·replace h:=iteF h
          exact ln (W.condF rfl (W.skip (E.blockN (E.thenN (W.region (L.m (V:=fun x68=>.int .i64 x68) h rfl (Y.addM rfl rfl) (fun x68 ex68 h=>(L.r 1 rfl (L.nil (E.aJ ⟨x68,rfl,rfl,by rw [hg5];exact h⟩ hI))))))))))
         replace h:=iteT h
         refine ln (W.condT rfl (sr (L.r 2 rfl (ln (W.ret (E.blockR (E.thenR (E.KLR (E.blockR (E.KSR ?_))))))))))
         exact E.ret1 rfl rfl (fun w1 hw=>(⟨_,_,rfl,⟨gx23,rfl,rfl,h⟩,hw.s [0,1,3,4,2,5]⟩))
        exact ln (W.seq (W.condF rfl (W.exit (E.thenX (E.KLX (E.blockX (E.joinJ ⟨rfl,rfl,h⟩ trivial (sI [0,1,3,4,2,5]))))))))
       rintro _ _ ⟨rfl,rfl,h⟩
       rw [M38K16] at h
       exact sr (L.r 1 rfl (ln (W.ret (E.ret1 rfl rfl (fun w1 hw=>(⟨_,_,rfl,⟨(-1),rfl,rfl,h⟩,hw⟩))))))
      rintro _ _ ⟨gx22,rfl,rfl,h⟩
      rw [M38K15] at h
      exact L.y rfl (Y.geq rfl rfl) (L.r 1 rfl (ln (W.ret (E.ret1 rfl rfl (fun w1 hw=>(⟨_,_,rfl,⟨decide (0≤gx22),rfl,rfl,h⟩,hw.s [0,1,4,5,2,3]⟩))))))
     rintro _ _ ⟨gb21,rfl,rfl,h⟩
     rw [M38K14] at h
     rcases gb21 with _ | _
     ·replace h:=iteF h
      exact L.r 1 rfl (L.nil (E.jJ ⟨false,rfl,rfl,h⟩ hI))
     replace h:=iteT h
     exact L.r 1 rfl (L.nil (E.jJ ⟨true,rfl,rfl,h⟩ hI))
    rintro _ _ ⟨gb20,rfl,rfl,h⟩
    rw [M38K13] at h
    rcases gb20 with _ | _
    ·replace h:=iteF h
     refine sr (L.y rfl (Y.loadP (i:=0) ag23 rfl rfl rfl) (L.y rfl (Y.lenM (g:=I) (l:=x38) Tryz.underlying23 rfl (fun w hw=>As.atZ (sds:=(svSd 3 1 I)) (vs:=q7) (j:=0) (c:=1) (hw.get (i:=5) rfl) (fun _ _=>rfl) ex38 rfl)) (L.ite h rfl (Y.gtr rfl rfl) (fun c40 h=>?_) (fun c40 h=>?_))))
     ·refine L.r 3 rfl (ln (W.condT rfl (W.drawn2 (k:=9) (stC [[8]] [Cls w [] [.obj b39 [gv (q7 gx17.toNat) 0] 23,.obj b4 [.int .i64 gx18] 3,.sl gv1 90 2 (gl2.map TE.row),.sl gv3 3 1 (gl4.map I),.sl v6 23 1 (zr svRow q7 l5),.ss (zs (svSd 3 1 I) q7 l5)]] (Cls w [] [.obj b39 [gv (q7 gx17.toNat) 0] 23,.sl gv1 90 2 (gl2.map TE.row),.sl gv3 3 1 (gl4.map I),.sl v6 23 1 (zr svRow q7 l5),.ss (zs (svSd 3 1 I) q7 l5)])) rfl mixed (fun _ hw=>hw.drew) (Sc.now (by kernel_rfl) hI) (V2.zz [8] (Zc.at1 hI) (fun hz45=>(V2.q 0 [8] hz45 rfl rfl (Y.loadP (i:=1) ag3 rfl rfl rfl) (V2.zz [] (Zc.on' (Zc.fin hI) (sI [0,2,3,4,5])) (fun hz46=>(V2.q 1 [] hz46 rfl rfl (Y.loadP (i:=0) ag23 rfl rfl rfl) (V2.q 2 [] hz46 rfl rfl (Y.loadP (i:=0) ag23 rfl rfl rfl) (V2.q 3 [] hz46 rfl rfl (Y.lenM (g:=I) (l:=x38) Tryz.underlying23 rfl (fun w hw=>As.atZ (sds:=(svSd 3 1 I)) (vs:=q7) (j:=0) (c:=1) (hw.get (i:=4) rfl) (fun _ _=>rfl) ex38 rfl)) (V2.m (i:=4) (V':=fun x47=>.int .i64 x47) h (Nx2.of [] (by kernel_rfl) rfl hz46) rfl rfl rfl (Y.subM rfl rfl) (fun x47 ex47 h=>(V2.m (i:=5) (V':=fun _=>el (gv (q7 gx17.toNat) 0) (x47.toNat*1)) h (Nx2.of [] (by kernel_rfl) rfl hz46) rfl rfl rfl (Y.indexM (g:=I) (l:=x38) Tryz.underlying23 sz3 rfl rfl (fun w hw=>As.atZ (sds:=(svSd 3 1 I)) (vs:=q7) (j:=0) (c:=1) (hw.get (i:=4) rfl) (fun _ _=>rfl) ex38 rfl)) (fun x48 ex48 h=>(V2.q 6 [] hz46 rfl rfl (Y.loadE1 (u:=.int .i64 x48) ag3 rfl (fun w hw=>As.atZ (sds:=(svSd 3 1 I)) (vs:=q7) (j:=0) (c:=1) (hw.get (i:=4) rfl) (fun _ _=>rfl) ex38 rfl) (idx_map ex48)) ?_))))))))))))))))
      exact V2.q 7 [] hz46 rfl rfl (Y.max2 rfl rfl) (V2.eff (i:=8) (by kernel_rfl) rfl (L.store (i:=1) (vs:=[.int .i64 (max gx18 x48)]) sz3 rfl rfl rfl rfl (by simp [Value.oneCell',Value.cells,st,pt,el]) rfl nb (L.nil (E.toV2 (stC [] [] (Cls w [] [.obj b39 [gv (q7 gx17.toNat) 0] 23,.sl gv1 90 2 (gl2.map TE.row),.sl gv3 3 1 (gl4.map I),.sl v6 23 1 (zr svRow q7 l5),.ss (zs (svSd 3 1 I) q7 l5)])) 8 (by kernel_rfl) (Sc.past rfl (Sc.stayD hI)) (Sc.atD (sI [0,2,3,4,5])) (V2.done (by kernel_rfl) (E.blockN (E.jJ ⟨(max gx18 x48),rfl,rfl,h⟩ (sI [1,2,3,4,5]))))))))
     exact L.r 3 rfl (ln (W.condF rfl (W.skip (E.blockN (E.jJ ⟨gx18,rfl,rfl,h⟩ (sI [1,2,3,4,5]))))))
    replace h:=iteT h
    refine sr (L.y rfl (Y.loadP (i:=0) ag23 rfl rfl rfl) (L.y rfl (Y.lenM (g:=I) (l:=x38) Tryz.underlying23 rfl (fun w hw=>As.atZ (sds:=(svSd 3 1 I)) (vs:=q7) (j:=0) (c:=1) (hw.get (i:=5) rfl) (fun _ _=>rfl) ex38 rfl)) (L.ite h rfl (Y.gtr rfl rfl) (fun c49 h=>?_) (fun c49 h=>?_))))
    ·refine L.r 3 rfl (ln (W.condT rfl (W.drawn2 (k:=9) (stC [[8]] [Cls w [] [.obj b39 [gv (q7 gx17.toNat) 0] 23,.obj b4 [.int .i64 gx18] 3,.sl gv1 90 2 (gl2.map TE.row),.sl gv3 3 1 (gl4.map I),.sl v6 23 1 (zr svRow q7 l5),.ss (zs (svSd 3 1 I) q7 l5)]] (Cls w [] [.obj b39 [gv (q7 gx17.toNat) 0] 23,.sl gv1 90 2 (gl2.map TE.row),.sl gv3 3 1 (gl4.map I),.sl v6 23 1 (zr svRow q7 l5),.ss (zs (svSd 3 1 I) q7 l5)])) rfl mixed (fun _ hw=>hw.drew) (Sc.now (by kernel_rfl) hI) (V2.zz [8] (Zc.at1 hI) (fun hz54=>(V2.q 0 [8] hz54 rfl rfl (Y.loadP (i:=1) ag3 rfl rfl rfl) (V2.zz [] (Zc.on' (Zc.fin hI) (sI [0,2,3,4,5])) (fun hz55=>(V2.q 1 [] hz55 rfl rfl (Y.loadP (i:=0) ag23 rfl rfl rfl) (V2.q 2 [] hz55 rfl rfl (Y.loadP (i:=0) ag23 rfl rfl rfl) (V2.q 3 [] hz55 rfl rfl (Y.lenM (g:=I) (l:=x38) Tryz.underlying23 rfl (fun w hw=>As.atZ (sds:=(svSd 3 1 I)) (vs:=q7) (j:=0) (c:=1) (hw.get (i:=4) rfl) (fun _ _=>rfl) ex38 rfl)) (V2.m (i:=4) (V':=fun x56=>.int .i64 x56) h (Nx2.of [] (by kernel_rfl) rfl hz55) rfl rfl rfl (Y.subM rfl rfl) (fun x56 ex56 h=>(V2.m (i:=5) (V':=fun _=>el (gv (q7 gx17.toNat) 0) (x56.toNat*1)) h (Nx2.of [] (by kernel_rfl) rfl hz55) rfl rfl rfl (Y.indexM (g:=I) (l:=x38) Tryz.underlying23 sz3 rfl rfl (fun w hw=>As.atZ (sds:=(svSd 3 1 I)) (vs:=q7) (j:=0) (c:=1) (hw.get (i:=4) rfl) (fun _ _=>rfl) ex38 rfl)) (fun x57 ex57 h=>(V2.q 6 [] hz55 rfl rfl (Y.loadE1 (u:=.int .i64 x57) ag3 rfl (fun w hw=>As.atZ (sds:=(svSd 3 1 I)) (vs:=q7) (j:=0) (c:=1) (hw.get (i:=4) rfl) (fun _ _=>rfl) ex38 rfl) (idx_map ex57)) ?_))))))))))))))))
     exact V2.q 7 [] hz55 rfl rfl (Y.max2 rfl rfl) (V2.eff (i:=8) (by kernel_rfl) rfl (L.store (i:=1) (vs:=[.int .i64 (max gx18 x57)]) sz3 rfl rfl rfl rfl (by simp [Value.oneCell',Value.cells,st,pt,el]) rfl nb (L.nil (E.toV2 (stC [] [] (Cls w [] [.obj b39 [gv (q7 gx17.toNat) 0] 23,.sl gv1 90 2 (gl2.map TE.row),.sl gv3 3 1 (gl4.map I),.sl v6 23 1 (zr svRow q7 l5),.ss (zs (svSd 3 1 I) q7 l5)])) 8 (by kernel_rfl) (Sc.past rfl (Sc.stayD hI)) (Sc.atD (sI [0,2,3,4,5])) (V2.done (by kernel_rfl) (E.blockN (E.jJ ⟨(max gx18 x57),rfl,rfl,h⟩ (sI [1,2,3,4,5]))))))))
    refine L.r 3 rfl (ln (W.condT rfl (W.drawn2 (k:=9) (stC [[8]] [Cls w [] [.obj b39 [gv (q7 gx17.toNat) 0] 23,.obj b4 [.int .i64 gx18] 3,.sl gv1 90 2 (gl2.map TE.row),.sl gv3 3 1 (gl4.map I),.sl v6 23 1 (zr svRow q7 l5),.ss (zs (svSd 3 1 I) q7 l5)]] (Cls w [] [.obj b39 [gv (q7 gx17.toNat) 0] 23,.sl gv1 90 2 (gl2.map TE.row),.sl gv3 3 1 (gl4.map I),.sl v6 23 1 (zr svRow q7 l5),.ss (zs (svSd 3 1 I) q7 l5)])) rfl mixed (fun _ hw=>hw.drew) (Sc.now (by kernel_rfl) hI) (V2.zz [8] (Zc.at1 hI) (fun hz62=>(V2.q 0 [8] hz62 rfl rfl (Y.loadP (i:=1) ag3 rfl rfl rfl) (V2.zz [] (Zc.on' (Zc.fin hI) (sI [0,2,3,4,5])) (fun hz63=>(V2.q 1 [] hz63 rfl rfl (Y.loadP (i:=0) ag23 rfl rfl rfl) (V2.q 2 [] hz63 rfl rfl (Y.loadP (i:=0) ag23 rfl rfl rfl) (V2.q 3 [] hz63 rfl rfl (Y.lenM (g:=I) (l:=x38) Tryz.underlying23 rfl (fun w hw=>As.atZ (sds:=(svSd 3 1 I)) (vs:=q7) (j:=0) (c:=1) (hw.get (i:=4) rfl) (fun _ _=>rfl) ex38 rfl)) (V2.m (i:=4) (V':=fun x64=>.int .i64 x64) h (Nx2.of [] (by kernel_rfl) rfl hz63) rfl rfl rfl (Y.subM rfl rfl) (fun x64 ex64 h=>(V2.m (i:=5) (V':=fun _=>el (gv (q7 gx17.toNat) 0) (x64.toNat*1)) h (Nx2.of [] (by kernel_rfl) rfl hz63) rfl rfl rfl (Y.indexM (g:=I) (l:=x38) Tryz.underlying23 sz3 rfl rfl (fun w hw=>As.atZ (sds:=(svSd 3 1 I)) (vs:=q7) (j:=0) (c:=1) (hw.get (i:=4) rfl) (fun _ _=>rfl) ex38 rfl)) (fun x65 ex65 h=>(V2.q 6 [] hz63 rfl rfl (Y.loadE1 (u:=.int .i64 x65) ag3 rfl (fun w hw=>As.atZ (sds:=(svSd 3 1 I)) (vs:=q7) (j:=0) (c:=1) (hw.get (i:=4) rfl) (fun _ _=>rfl) ex38 rfl) (idx_map ex65)) ?_))))))))))))))))
    exact V2.q 7 [] hz63 rfl rfl (Y.max2 rfl rfl) (V2.eff (i:=8) (by kernel_rfl) rfl (L.store (i:=1) (vs:=[.int .i64 (max gx18 x65)]) sz3 rfl rfl rfl rfl (by simp [Value.oneCell',Value.cells,st,pt,el]) rfl nb (L.nil (E.toV2 (stC [] [] (Cls w [] [.obj b39 [gv (q7 gx17.toNat) 0] 23,.sl gv1 90 2 (gl2.map TE.row),.sl gv3 3 1 (gl4.map I),.sl v6 23 1 (zr svRow q7 l5),.ss (zs (svSd 3 1 I) q7 l5)])) 8 (by kernel_rfl) (Sc.past rfl (Sc.stayD hI)) (Sc.atD (sI [0,2,3,4,5])) (V2.done (by kernel_rfl) (E.blockN (E.jJ ⟨(max gx18 x65),rfl,rfl,h⟩ (sI [1,2,3,4,5]))))))))
   rintro _ _ ⟨gx19,rfl,rfl,h⟩
   rw [M38K12] at h
   exact W.region (L.m (V:=fun x37=>.int .i64 x37) h rfl (Y.addM rfl rfl) (fun x37 ex37 h=>(L.r 1 rfl (L.nil (E.aJ ⟨x37,gx19,rfl,rfl,by rw [hg4];exact h⟩ hI)))))
  exact ln (W.seq (W.condF rfl (W.exit (E.thenX (E.KLX (E.blockX (E.jJ ⟨gx18,rfl,rfl,h⟩ (sI [0,1,2]))))))))
 rintro _ _ ⟨gx5,rfl,rfl,h⟩
 rw [M38K2] at h
 refine W.seqJ (fun gs D=>gs=[(0,.int .i64 a0),(7,gv1),(8,gv3),(9,pt b4 0)]∧D=Cls w [] [.obj b4 [.int .i64 gx5] 3,.sl gv1 90 2 (gl2.map TE.row),.sl gv3 3 1 (gl4.map I)]∧M38K3 gl4 gx5 gl2 go1=some r) ?_ ?_
 ·refine sr (L.y rfl (Y.loadP (i:=0) ag3 rfl rfl rfl) (L.ite h rfl (Y.lss rfl rfl) (fun c34 h=>?_) (fun c34 h=>?_)))
  ·refine ln (W.condT rfl (sr (L.r 1 rfl (L.sortMD (i:=2) (l:=gl4) h wSort rfl en44 rfl rfl ?_))))
   intro l35 el35 h
   refine nsr (L.r 3 rfl (ln (W.ret (E.KSR (E.blockR (E.KLR (E.blockR (E.ret2 rfl rfl rfl (fun w1 hw=>?_)))))))))
   cases h
   exact ⟨_,_,rfl,⟨_,rfl,rfl⟩,hw.s [2]⟩
  exact ln (W.condF rfl (W.skip (E.jJ ⟨rfl,rfl,h⟩ hI)))
 rintro _ _ ⟨rfl,rfl,h⟩
 rw [M38K3] at h
 refine sr (L.r 1 rfl (L.y rfl (Y.loadP (i:=0) ag3 rfl rfl rfl) (L.litOne rfl Tryz.underlying23 eL3 rfl rfl ?_)))
 intro b10
 refine L.appM (i:=3) (g:=I) (l:=gl4) (more:=[gx5]) h rfl Tryz.underlying23 eL3 rfl rfl rfl (fun w hw=>As.at_ (hw.get (i:=0) rfl)) (plain_ints _) rfl ?_
 intro v11 l12 el12 h
 refine L.r 1 rfl (nr (L.r 1 rfl (L.y rfl (Y.func rfl) (L.callJ (fun v D=>∃ gv6 gl7,v=gv6∧D=Cls w [] [.sl v11 3 1 (l12.map I),.sl gv6 90 2 (gl7.map TE.row)]∧M38K4 go1 l12 gl7=some r) rfl en45 rfl Tryz.func45 rfl rfl rfl ?_ ?_))))
 ·refine sr (L.r 1 rfl (nsr (L.r 2 rfl (L.callJ (fun v D=>∃ gx8,v=.int .i64 gx8∧D=Cls w [] [.obj b4 [.int .i64 gx5] 3,.sl gv1 90 2 (gl2.map TE.row),.sl v11 3 1 (l12.map I)]∧M38K5 go1 l12 gl2 gx5 gx8=some r) rfl en72 rfl Tryz.func72 rfl rfl rfl ?_ ?_))))
  ·refine sr (L.r 1 rfl (ln (W.seqJ (fun gs D=>gs=[]∧D=Cls w [] [.obj b4 [.int .i64 gx5] 3,.sl v11 3 1 (l12.map I),.sl gv1 90 2 (gl2.map TE.row)]∧M38K10 go1 l12 gl2 gx5=some r) ?_ ?_)))
   ·refine sr (L.r 1 rfl (L.y rfl (Y.lenM (g:=TE.row) (l:=gl2) Tryz.underlying56 rfl (fun w hw=>As.at_ (hw.get (i:=3) rfl))) (L.r 1 rfl (ln (W.block (W.loopJ (fun m gs D=>∃ gx15,gs=[(0,gv1),(1,.func (.func 66) #[] #[pt b4 0]),(7,.int .i64 (gl2.length:Int)),(8,.int .i64 gx15)]∧D=Cls w [] [.obj b4 [.int .i64 gx5] 3,.sl gv1 90 2 (gl2.map TE.row),.sl v11 3 1 (l12.map I)]∧M38L3 gl2 gx5 go1 l12 m gx15=some r) ⟨0,rfl,rfl,h⟩ ⟨rfl,rfl,rfl,rfl,trivial⟩ (sI [2,3,0]) ?_))))))
    rintro m _ _ ⟨gx15,rfl,rfl,h⟩
    rcases m with _ | m
    ·rw [M38L3] at h;cases h
    rw [M38L3] at h
    generalize hg3:M38L3 gl2 gx5 go1 l12 m=go3 at h
    rw [M38L3B] at h
    refine sr (L.ite h rfl (Y.lss rfl rfl) (fun c29 h=>?_) (fun c29 h=>?_))
    ·refine ln (W.seq (W.condT rfl (W.skip (E.thenN (W.seq (W.block (sr (L.r 2 rfl (ln (W.seq ?_))))))))))
     refine W.region (L.r 3 rfl (L.m (V:=fun _=>el gv1 (gx15.toNat*2)) h rfl (Y.indexM (g:=TE.row) (l:=gl2) Tryz.underlying56 sz90 rfl rfl (fun w hw=>As.at_ (hw.get (i:=1) rfl))) (fun x30 ex30 h=>(L.y rfl (Y.loadEN (r:=[.int .i64 x30.From,.int .i64 x30.To]) ag90 sz90 rfl (fun w hw=>As.at_ (hw.get (i:=1) rfl)) (idx_map ex30) rfl) (L.callVJ (fun v D=>∃ gb16,v=.bool gb16∧D=Cls w [] [.obj b4 [.int .i64 gx5] 3,.sl gv1 90 2 (gl2.map TE.row),.sl v11 3 1 (l12.map I)]∧M38K11 go1 l12 gl2 gx5 gx15 go3 gb16=some r) rfl en66 rfl rfl Tryz.func66 rfl rfl rfl ?_ ?_)))))
     ·refine sr (L.box rfl rfl ?_)
      intro b32
      refine L.r 1 rfl (nsr (L.y rfl (Y.fieldP fd90_0 rfl) (L.y rfl (Y.loadP (i:=0) ag3 rfl rfl rfl) (L.y rfl (Y.loadP (i:=1) ag3 rfl rfl rfl) (L.ite h rfl (Y.eql rfl rfl) (fun c33 h=>?_) (fun c33 h=>?_))))))
      ·exact L.r 7 rfl (ln (W.ret (E.ret1 rfl rfl (fun w1 hw=>(⟨_,_,rfl,⟨true,rfl,rfl,h⟩,hw.s [1,2,3]⟩)))))
      refine L.r 1 rfl (L.take rfl (L.y rfl (Y.fieldP fd90_1 rfl) (L.take rfl (L.y rfl (Y.loadP (i:=0) ag3 rfl rfl rfl) (L.take rfl (L.y rfl (Y.loadP (i:=1) ag3 rfl rfl rfl) (L.take rfl (L.y rfl (Y.eql rfl rfl) (L.r 2 rfl (ln (W.ret (E.ret1 rfl rfl (fun w1 hw=>?_)))))))))))))
      exact ⟨_,_,rfl,⟨decide (x30.To=gx5),rfl,rfl,h⟩,hw.s [1,2,3]⟩
     rintro _ _ ⟨gb16,rfl,rfl,h⟩
     rw [M38K11] at h
     rcases gb16 with _ | _
     ·replace h:=iteF h
      exact ln (W.condF rfl (W.skip (E.blockN (E.thenN (W.region (L.m (V:=fun x31=>.int .i64 x31) h rfl (Y.addM rfl rfl) (fun x31 ex31 h=>(L.r 1 rfl (L.nil (E.aJ ⟨x31,rfl,rfl,by rw [hg3];exact h⟩ hI))))))))))
     replace h:=iteT h
     refine ln (W.condT rfl (sr (L.r 2 rfl (ln (W.ret (E.blockR (E.thenR (E.KLR (E.blockR (E.KSR ?_))))))))))
     exact E.ret1 rfl rfl (fun w1 hw=>(⟨_,_,rfl,⟨gx15,rfl,rfl,h⟩,hw⟩))
    exact ln (W.seq (W.condF rfl (W.exit (E.thenX (E.KLX (E.blockX (E.joinJ ⟨rfl,rfl,h⟩ trivial (sI [0,2,1]))))))))
   rintro _ _ ⟨rfl,rfl,h⟩
   rw [M38K10] at h
   exact sr (L.r 1 rfl (ln (W.ret (E.ret1 rfl rfl (fun w1 hw=>(⟨_,_,rfl,⟨(-1),rfl,rfl,h⟩,hw.s [0,2,1]⟩))))))
  rintro _ _ ⟨gx8,rfl,rfl,h⟩
  rw [M38K5] at h
  refine L.r 1 rfl (ln (W.seqJ (fun gs D=>gs=[(0,gv1),(1,.func (.func 66) #[] #[pt b4 0]),(5,.int .i64 gx8)]∧D=Cls w [] [.obj b4 [.int .i64 gx5] 3,.sl gv1 90 2 (gl2.map TE.row),.sl v11 3 1 (l12.map I)]∧M38K6 gx8 gx5 go1 l12 gl2=some r) ?_ ?_))
  ·refine sr (L.r 1 rfl (L.ite h rfl (Y.eql rfl rfl) (fun c28 h=>?_) (fun c28 h=>?_)))
   ·exact ln (W.condT rfl (sr (L.r 2 rfl (ln (W.ret (E.KSR (E.ret1 rfl rfl (fun w1 hw=>(⟨_,_,rfl,⟨gv1,gl2,rfl,rfl,h⟩,hw.s [2,1]⟩)))))))))
   exact ln (W.condF rfl (W.skip (E.jJ ⟨rfl,rfl,h⟩ hI)))
  rintro _ _ ⟨rfl,rfl,h⟩
  rw [M38K6] at h
  refine W.seqJ (fun gs D=>∃ gl9 gx10,gs=[(0,gv1),(5,.int .i64 gx10)]∧D=Cls w [] [.sl gv1 90 2 (gl9.map TE.row),.sl v11 3 1 (l12.map I)]∧M38K7 go1 l12 gl9 gx10=some r) ?_ ?_
  ·refine sr (L.r 1 rfl (L.m (V:=fun x17=>.int .i64 x17) h rfl (Y.addM rfl rfl) (fun x17 ex17 h=>(L.r 1 rfl (ln (W.block (W.loopJ (fun m gs D=>∃ gl11 gx12 gx13,gs=[(0,gv1),(1,.func (.func 66) #[] #[pt b4 0]),(5,.int .i64 gx12),(6,.int .i64 gx13)]∧D=Cls w [] [.obj b4 [.int .i64 gx5] 3,.sl gv1 90 2 (gl11.map TE.row),.sl v11 3 1 (l12.map I)]∧M38L2 gx5 go1 l12 m gl11 gx12 gx13=some r) ⟨gl2,gx8,x17,rfl,rfl,h⟩ ⟨rfl,rfl,rfl,rfl,trivial⟩ hI ?_)))))))
   rintro m _ _ ⟨gl11,gx12,gx13,rfl,rfl,h⟩
   rcases m with _ | m
   ·rw [M38L2] at h;cases h
   rw [M38L2] at h
   generalize hg2:M38L2 gx5 go1 l12 m=go2 at h
   rw [M38L2B] at h
   refine W.seqJ (fun gs D=>gs=[(0,gv1),(1,.func (.func 66) #[] #[pt b4 0]),(5,.int .i64 gx12),(6,.int .i64 gx13)]∧D=Cls w [] [.obj b4 [.int .i64 gx5] 3,.sl gv1 90 2 (gl11.map TE.row),.sl v11 3 1 (l12.map I)]∧M38K8 gl11 gx13 gx5 go2 gx12=some r) ?_ ?_
   ·refine sr (L.r 2 rfl (L.y rfl (Y.lenM (g:=TE.row) (l:=gl11) Tryz.underlying56 rfl (fun w hw=>As.at_ (hw.get (i:=1) rfl))) (L.ite h rfl (Y.lss rfl rfl) (fun c27 h=>?_) (fun c27 h=>?_))))
    ·exact ln (W.condT rfl (W.skip (E.jJ ⟨rfl,rfl,h⟩ hI)))
    exact ln (W.condF rfl (W.exit (E.KSX (E.KLX (E.blockX (E.jJ ⟨gl11,gx12,rfl,rfl,h⟩ (sI [1,2])))))))
   rintro _ _ ⟨rfl,rfl,h⟩
   rw [M38K8] at h
   refine W.seq (W.block (sr (L.r 2 rfl (L.m (V:=fun _=>el gv1 (gx13.toNat*2)) h rfl (Y.indexM (g:=TE.row) (l:=gl11) Tryz.underlying56 sz90 rfl rfl (fun w hw=>As.at_ (hw.get (i:=1) rfl))) (fun x18 ex18 h=>(L.y rfl (Y.loadEN (r:=[.int .i64 x18.From,.int .i64 x18.To]) ag90 sz90 rfl (fun w hw=>As.at_ (hw.get (i:=1) rfl)) (idx_map ex18) rfl) (L.alloc rfl ze90 ?_)))))))
   intro b19
   refine L.store (i:=0) (vs:=[.int .i64 x18.From,.int .i64 x18.To]) sz90 rfl rfl rfl rfl (by simp [Value.oneCell',Value.cells,st,pt,el]) rfl nb (nsr (L.r 1 rfl (L.y rfl (Y.loadPW (i:=0) ag90 sz90 rfl rfl rfl) (L.callVJ (fun v D=>∃ gb14,v=.bool gb14∧D=Cls w [] [.obj b19 [.int .i64 x18.From,.int .i64 x18.To] 90,.obj b4 [.int .i64 gx5] 3,.sl gv1 90 2 (gl11.map TE.row),.sl v11 3 1 (l12.map I)]∧M38K9 gx13 go2 gl11 gx12 x18 gb14=some r) rfl en66 rfl rfl Tryz.func66 rfl rfl rfl ?_ ?_))))
   ·refine sr (L.box rfl rfl ?_)
    intro b25
    refine L.r 1 rfl (nsr (L.y rfl (Y.fieldP fd90_0 rfl) (L.y rfl (Y.loadP (i:=0) ag3 rfl rfl rfl) (L.y rfl (Y.loadP (i:=2) ag3 rfl rfl rfl) (L.ite h rfl (Y.eql rfl rfl) (fun c26 h=>?_) (fun c26 h=>?_))))))
    ·exact L.r 7 rfl (ln (W.ret (E.ret1 rfl rfl (fun w1 hw=>(⟨_,_,rfl,⟨true,rfl,rfl,h⟩,hw.s [1,2,3,4]⟩)))))
    refine L.r 1 rfl (L.take rfl (L.y rfl (Y.fieldP fd90_1 rfl) (L.take rfl (L.y rfl (Y.loadP (i:=0) ag3 rfl rfl rfl) (L.take rfl (L.y rfl (Y.loadP (i:=2) ag3 rfl rfl rfl) (L.take rfl (L.y rfl (Y.eql rfl rfl) (L.r 2 rfl (ln (W.ret (E.ret1 rfl rfl (fun w1 hw=>?_)))))))))))))
    exact ⟨_,_,rfl,⟨decide (x18.To=gx5),rfl,rfl,h⟩,hw.s [1,2,3,4]⟩
   rintro _ _ ⟨gb14,rfl,rfl,h⟩
   rw [M38K9] at h
   rcases gb14 with _ | _
   ·replace h:=iteF h
    refine L.y rfl (Y.not rfl) (ln (W.condT rfl (sr (L.r 2 rfl (L.y rfl (Y.loadPW (i:=0) ag90 sz90 rfl rfl rfl) (L.m (V:=fun _=>el gv1 (gx12.toNat*2)) h rfl (Y.indexM (g:=TE.row) (l:=gl11) Tryz.underlying56 sz90 rfl rfl (fun w hw=>As.at_ (hw.get (i:=2) rfl))) (fun x20 ex20 h=>(L.storeSlM (q:=2) (row:=TE.row) (vs:=[.int .i64 x18.From,.int .i64 x18.To]) (j:=0) (u1:=x18) h sz90 rfl rfl rfl rfl rfl (all1 rfl (all1 rfl all0)) rfl ex20 rfl rfl ?_))))))))
    intro l21 el21 h
    exact nr (L.r 1 rfl (L.m (V:=fun x22=>.int .i64 x22) h rfl (Y.addM rfl rfl) (fun x22 ex22 h=>(L.r 1 rfl (L.nil (E.blockN (E.thenN (W.region (L.r 1 rfl (L.m (V:=fun x23=>.int .i64 x23) h rfl (Y.addM rfl rfl) (fun x23 ex23 h=>(L.r 1 rfl (L.nil (E.aJ ⟨l21,x22,x23,rfl,rfl,by rw [hg2];exact h⟩ (sI [1,2,3])))))))))))))))
   replace h:=iteT h
   exact L.y rfl (Y.not rfl) (ln (W.condF rfl (W.skip (E.blockN (E.thenN (W.region (L.r 1 rfl (L.m (V:=fun x24=>.int .i64 x24) h rfl (Y.addM rfl rfl) (fun x24 ex24 h=>(L.r 1 rfl (L.nil (E.aJ ⟨gl11,gx12,x24,rfl,rfl,by rw [hg2];exact h⟩ (sI [1,2,3])))))))))))))
  rintro _ _ ⟨gl9,gx10,rfl,rfl,h⟩
  rw [M38K7] at h
  refine sr (L.r 2 rfl (L.m (V:=fun _=>dropv gv1 gx10.toNat 2) h rfl (Y.dropM (g:=TE.row) Tryz.underlying56 sz90 rfl rfl (fun w hw=>As.at_ (hw.get (i:=0) rfl))) (fun l13 el13 h=>(L.clearM (i:=0) (g:=TE.row) (z0:=(⟨0,0⟩:TE)) (a:=gx10) h Tryz.underlying56 eL90 ze90 (fun u hu=>((plain_TEdge _):Plain ([(⟨0,0⟩:TE)].map TE.row)) _ (List.mem_cons_self ..) u hu) rfl rfl ?_))))
  intro l14 el14 h
  refine nsr (L.r 2 rfl ?_)
  obtain ⟨l15,el15,h⟩:=bind1S h
  exact L.cutM (i:=0) (g:=TE.row) el15 rfl Tryz.underlying56 sz90 rfl rfl rfl (fun v16=>(L.r 1 rfl (ln (W.ret (E.ret1 rfl rfl (fun w1 hw=>(⟨_,_,rfl,⟨v16,l15,rfl,rfl,h⟩,hw.s [1,0]⟩)))))))
 rintro gv6 _ ⟨_,gl7,rfl,rfl,h⟩
 rw [M38K4] at h
 exact L.r 1 rfl (L.nil (E.blockN (E.aJ ⟨gv6,gl7,v11,l12,rfl,rfl,by rw [hg1];exact h⟩ (sI [1,0]))))
set_option maxRecDepth 100000 in
set_option maxHeartbeats 8000000 in
theorem W16 (rec:(List TI)→(List (List TOp))→(List Bool)→(List TOp)→TOp→Option ((List TI)×(List (List TOp))×(List Bool)×(List TOp))) (ih:∀ (kI:(List TI)) (kA:(List (List TOp))) (kB:(List Bool)) (kD:(List TOp)) (a1:TOp) (pb0:Nat) (kH:Value) (kN:Nat→List Value) (kG:Nat→List Value) (kC:Value) (K:World→Prop) (w:World) (r:((List TI)×(List (List TOp))×(List Bool)×(List TOp))) (h:rec kI kA kB kD a1=some r) (F:List Nat) (hK:StbF K w F) (hA0_locks:Fz K [] kH 3 (zr TI.rowv kN kI)) (hD0_locks:FzA K [] (zs TI.sds kN kI)) (hc0:Cls w F [.obj pb0 (List.flatten [[kH],(zr svRow kG kA).flatten,(zr (fzr B) (fun _=>[]) kB).flatten,[kC]]) 38,.ss (zs (svSd 40 3 TOp.row) kG kA),.ss (zs sd0 (fun _=>[]) kB),.sl kC 40 3 (kD.map TOp.row)] w),DoesF Tryz.prog 9 [pt pb0 0,.agg #[.int .i64 a1.Tx,.int .i64 a1.Kind,.int .i64 a1.Item]] F w fun u m=>∃ c,∃ y1 z1 z2 y4,u=.tuple #[]∧Fz K c y1 3 (zr TI.rowv z1 r.1)∧FzA K c (zs TI.sds z1 r.1)∧m=[.obj pb0 (List.flatten [[y1],(zr svRow z2 r.2.1).flatten,(zr (fzr B) (fun _=>[]) r.2.2.1).flatten,[y4]]) 38,.ss (zs (svSd 40 3 TOp.row) z2 r.2.1),.ss (zs sd0 (fun _=>[]) r.2.2.1),.sl y4 40 3 (r.2.2.2.map TOp.row),.os c]) (kI:(List TI)) (kA:(List (List TOp))) (kB:(List Bool)) (kD:(List TOp)) (pb0:Nat) (kH:Value) (kN:Nat→List Value) (kG:Nat→List Value) (kC:Value) (K:World→Prop) (w:World) (r:((List TI)×(List (List TOp))×(List Bool)×(List TOp))) (h:M16 rec kI kA kB kD=some r) (F:List Nat) (hK:StbF K w F) (hA0_locks:Fz K [] kH 3 (zr TI.rowv kN kI)) (hD0_locks:FzA K [] (zs TI.sds kN kI)) (hc0:Cls w F [.obj pb0 (List.flatten [[kH],(zr svRow kG kA).flatten,(zr (fzr B) (fun _=>[]) kB).flatten,[kC]]) 38,.ss (zs (svSd 40 3 TOp.row) kG kA),.ss (zs sd0 (fun _=>[]) kB),.sl kC 40 3 (kD.map TOp.row)] w):DoesF Tryz.prog 16 [pt pb0 0] F w fun u m=>∃ c,∃ y1 z1 z2 y4,u=.tuple #[]∧Fz K c y1 3 (zr TI.rowv z1 r.1)∧FzA K c (zs TI.sds z1 r.1)∧m=[.obj pb0 (List.flatten [[y1],(zr svRow z2 r.2.1).flatten,(zr (fzr B) (fun _=>[]) r.2.2.1).flatten,[y4]]) 38,.ss (zs (svSd 40 3 TOp.row) z2 r.2.1),.ss (zs sd0 (fun _=>[]) r.2.2.1),.sl y4 40 3 (r.2.2.2.map TOp.row),.os c]:=by
 rw [M16] at h
 refine body (n:=53) (C:=Cls w F [.obj pb0 (List.flatten [[kH],(zr svRow kG kA).flatten,(zr (fzr B) (fun _=>[]) kB).flatten,[kC]]) 38,.ss (zs (svSd 40 3 TOp.row) kG kA),.ss (zs sd0 (fun _=>[]) kB),.sl kC 40 3 (kD.map TOp.row),.os []]) Tryz.func16 rfl rfl rfl hc0.osNil (W.block (W.loopJ (fun m gs D=>∃ gc1 gv2 gl3 gq4,∃ gu6 gu8:Unit,∃ gl9 gq10 gl11 gv12 gl13,gs=[(0,pt pb0 0)]∧D=Cls w F [.obj pb0 (List.flatten [[gv2],(zr svRow gq10 gl9).flatten,(zr (fzr B) (fun _=>[]) gl11).flatten,[gv12]]) 38,.ss (zs (svSd 40 3 TOp.row) gq10 gl9),.ss (zs sd0 (fun _=>[]) gl11),.sl gv12 40 3 (gl13.map TOp.row),.os gc1]∧Fz K gc1 gv2 3 (zr TI.rowv gq4 gl3)∧FzA K gc1 (zs TI.sds gq4 gl3)∧M16L1 rec m gl3 gl9 gl11 gl13=some r) ⟨[],kH,kI,kN,(),(),kA,kG,kB,kC,kD,rfl,rfl,hA0_locks.up,hD0_locks.up,h⟩ ⟨rfl,trivial⟩ hI ?_))
 rintro m _ _ ⟨gc1,gv2,gl3,gq4,gu6,gu8,gl9,gq10,gl11,gv12,gl13,rfl,rfl,hG5,hG7,h⟩
 rcases m with _ | m
 ·rw [M16L1] at h;cases h
 rw [M16L1] at h
 generalize hg1:M16L1 rec m=go1 at h
 rw [M16L1B] at h
 refine W.block (sr (L.r 2 rfl (L.y rfl (Y.fieldP fd38_0 rfl) (L.y rfl (Y.loadG (q:=0) (si:=0) (ps:=0) (j:=0) (X:=[gv2]) ag34 rfl rfl rfl rfl sl0 rfl) ?_))))
 obtain ⟨l1,x3,e4,h⟩:=bind2S h
 refine L.does rfl en37 rfl (fun w' hw=>W37 gl3 gv2 gq4 w' _ e4 (hG5.clsP hK hw rfl) (hG7.clsP hK hw rfl)) ?_
 rintro _ _ ⟨v2,rfl,rfl⟩
 refine L.r 5 rfl (nsr (L.r 1 rfl ?_))
 obtain ⟨l5,x7,e8,h⟩:=bind2S h
 refine L.does rfl en38 rfl (fun w' hw=>W38 12 l1 v2 w' _ e8 (As.at_ (hw.get (i:=0) rfl))) ?_
 rintro _ _ ⟨v6,rfl,rfl⟩
 refine L.r 5 rfl (ln (W.seqJ (fun gs D=>gs=[(0,pt pb0 0),(4,v6)]∧D=Cls w F [.obj pb0 (List.flatten [[gv2],(zr svRow gq10 gl9).flatten,(zr (fzr B) (fun _=>[]) gl11).flatten,[gv12]]) 38,.ss (zs (svSd 40 3 TOp.row) gq10 gl9),.ss (zs sd0 (fun _=>[]) gl11),.sl v6 3 1 (l5.map I),.sl gv12 40 3 (gl13.map TOp.row),.os gc1]∧M16K1 l5 gl11 gl9 gl13 rec gl3 go1=some r) ?_ ?_))
 ·refine sr (L.r 1 rfl (L.y rfl (Y.lenM (g:=I) (l:=l5) Tryz.underlying23 rfl (fun w hw=>As.at_ (hw.get (i:=0) rfl))) (L.ite h rfl (Y.eql rfl rfl) (fun c38 h=>?_) (fun c38 h=>?_))))
  ·refine ln (W.condT rfl (W.ret (E.KSR (E.blockR (E.KLR (E.blockR (E.ret0 rfl (fun w1 hw=>?_))))))))
   cases h
   exact ⟨_,_,rfl,⟨gc1,gv2,gq4,_,_,rfl,hG5,hG7,rfl⟩,hw.s [2,3,4,5,6]⟩
  exact ln (W.condF rfl (W.skip (E.jJ ⟨rfl,rfl,h⟩ (sI [2,3,4,0,5,6]))))
 rintro _ _ ⟨rfl,rfl,h⟩
 rw [M16K1] at h
 refine sr (L.r 2 rfl (L.y rfl (Y.lenM (g:=I) (l:=l5) Tryz.underlying23 rfl (fun w hw=>As.at_ (hw.get (i:=3) rfl))) (L.m (V:=fun x9=>.int .i64 x9) h rfl (Y.subM rfl rfl) (fun x9 ex9 h=>(L.m (V:=fun _=>el v6 (x9.toNat*1)) h rfl (Y.indexM (g:=I) (l:=l5) Tryz.underlying23 sz3 rfl rfl (fun w hw=>As.at_ (hw.get (i:=3) rfl))) (fun x10 ex10 h=>(L.y rfl (Y.loadE1 (u:=.int .i64 x10) ag3 rfl (fun w hw=>As.at_ (hw.get (i:=3) rfl)) (idx_map ex10)) (L.r 1 rfl (nsr (L.r 3 rfl (L.y rfl (Y.fieldP fd38_2 rfl) ?_)))))))))))
 refine L.m (V:=fun _=>pt pb0 (13+x10.toNat*1)) h rfl (Y.indexAS (l:=gl11) Tryz.underlying36 sz4 rfl rfl) (fun x11 ex11 h=>?_)
 obtain ⟨_,en12,h⟩:=bind1S h
 obtain ⟨_,en12⟩:=arrN_some en12
 refine L.storeZg (si:=2) (ps:=13) (row:=(fzr B)) (sds:=sd0) (vs:=(fun _=>[])) (q:=0) (s:=2) (c:=0) (u1:=true) (vals:=[.bool true]) (j:=0) h sz4 rfl rfl rfl rfl rfl (all1 rfl all0) rfl rfl (sl1 (a:=1) (p:=12) rfl (sl1 (a:=12) (p:=0) (zrN (nn:=12) (k:=1) (fun _ _=>rfl) en12) sl0)) rfl (fun _ _=>rfl) (idxA_idx ex11) rfl rfl (fun _ _=>rfl) rfl ?_
 intro l13 el13 h
 refine nsr (L.r 3 rfl (L.y rfl (Y.fieldP fd38_1 rfl) (L.m (V:=fun _=>pt pb0 (1+x10.toNat*1)) h rfl (Y.indexAS (l:=gl9) Tryz.underlying35 sz22 rfl rfl) (fun x14 ex14 h=>(L.storeZAg (si:=1) (ps:=1) (row:=svRow) (sds:=(svSd 40 3 TOp.row)) (vs:=gq10) (q:=0) (s:=1) (u1:=[]) (vals:=[.slice none 0 0]) (v1:=[nilV]) (j:=0) h sz22 rfl rfl rfl rfl rfl (all1 rfl all0) rfl rfl (sl1 (a:=1) (p:=0) rfl sl0) rfl (fun _ _=>rfl) (idxA_idx ex14) rfl rfl (gall1 rfl rfl gall0) ?_)))))
 intro l15 q16 el15 h
 refine nsr (L.r 3 rfl (L.y rfl (Y.fieldP fd38_3 rfl) ?_))
 obtain ⟨_,en17,h⟩:=bind1S h
 obtain ⟨_,en17⟩:=arrN_some en17
 obtain ⟨_,en18,h⟩:=bind1S h
 obtain ⟨_,en18⟩:=arrN_some en18
 refine L.y rfl (Y.loadG (q:=0) (si:=3) (ps:=25) (j:=0) (X:=[gv12]) ag22 rfl rfl rfl rfl (sl1 (a:=1) (p:=24) rfl (sl1 (a:=12) (p:=12) (zrN (nn:=12) (k:=1) (fun _ _=>rfl) en17) (sl1 (a:=12) (p:=0) (zrN (nn:=12) (k:=1) (fun _ _=>rfl) en18) sl0))) rfl) (L.r 1 rfl (L.y rfl (Y.build (cells:=#[.int .i64 x10,.int .i64 4,.int .i64 0]) rfl (by kernel_rfl)) (L.litAgg rfl Tryz.underlying22 eL40 rfl rfl rfl ?_)))
 intro b19
 refine L.appM (i:=5) (g:=TOp.row) (l:=gl13) (more:=[(⟨x10,4,0⟩:TOp)]) h rfl Tryz.underlying22 eL40 rfl rfl rfl (fun w hw=>As.at_ (hw.get (i:=0) rfl)) (plain_TOp _) rfl ?_
 intro v20 l21 el21 h
 refine L.r 1 rfl (L.y rfl (Y.fieldP fd38_3 rfl) (L.storeGV (q:=2) (si:=3) (ps:=25) (j:=0) (X:=[gv12]) sz22 rfl rfl rfl (fun _ hw=>(As.at_ (hw.get (i:=0) rfl)).one) rfl rfl (sl1 (a:=1) (p:=24) rfl (sl1 (a:=12) (p:=12) (zrN (nn:=12) (k:=1) (fun _ _=>rfl) en17) (sl1 (a:=12) (p:=0) (zrN (nn:=12) (k:=1) (fun _ _=>rfl) en18) sl0))) rfl (nr (L.r 2 rfl (L.to (D:=Cls w F [.obj pb0 (List.flatten [[gv2],(zr svRow q16 l15).flatten,(zr (fzr B) (fun _=>[]) l13).flatten,[v20]]) 38,.ss (zs (svSd 40 3 TOp.row) q16 l15),.ss (zs sd0 (fun _=>[]) l13),.sl v20 40 3 (l21.map TOp.row),.sl (sv b19 1) 40 3 (([(⟨x10,4,0⟩:TOp)]).map TOp.row),.sl v6 3 1 (l5.map I),.os gc1]) (sI [2,3,4,0,1,5,6]) ?_)))))
 obtain ⟨l22,l23,l24,l25,e26,h⟩:=bind4S h
 refine L.doesP (A:=[.obj pb0 (List.flatten [[gv2],(zr svRow q16 l15).flatten,(zr (fzr B) (fun _=>[]) l13).flatten,[v20]]) 38,.ss (zs (svSd 40 3 TOp.row) q16 l15),.ss (zs sd0 (fun _=>[]) l13),.sl v20 40 3 (l21.map TOp.row)]) (M:=[.sl (sv b19 1) 40 3 (([(⟨x10,4,0⟩:TOp)]).map TOp.row),.sl v6 3 1 (l5.map I),.os gc1]) rfl en13 rfl (fun w' hw=>W13 rec ih gl3 l15 l13 l21 x10 pb0 gv2 gq4 q16 v20 (Kn K _) w' _ e26 _ (hK.knF hw rfl) hG5.tok hG7.tok hw.lend) ?_
 rintro _ _ ⟨c33,v27,q28,q31,v32,rfl,f29,f30,rfl⟩
 refine L.to (D:=Cls w F [.obj pb0 (List.flatten [[v27],(zr svRow q31 l23).flatten,(zr (fzr B) (fun _=>[]) l24).flatten,[v32]]) 38,.ss (zs (svSd 40 3 TOp.row) q31 l23),.ss (zs sd0 (fun _=>[]) l24),.sl v32 40 3 (l25.map TOp.row),.os c33,.sl (sv b19 1) 40 3 (([(⟨x10,4,0⟩:TOp)]).map TOp.row),.sl v6 3 1 (l5.map I),.os gc1]) hI (L.osJoin (K:=K) (i:=4) rfl rfl rfl ?_)
 intro c34 mo35 mn36 ma37
 exact L.to (D:=Cls w F [.obj pb0 (List.flatten [[v27],(zr svRow q31 l23).flatten,(zr (fzr B) (fun _=>[]) l24).flatten,[v32]]) 38,.ss (zs (svSd 40 3 TOp.row) q31 l23),.ss (zs sd0 (fun _=>[]) l24),.sl v32 40 3 (l25.map TOp.row),.sl (sv b19 1) 40 3 (([(⟨x10,4,0⟩:TOp)]).map TOp.row),.sl v6 3 1 (l5.map I),.os c34]) hI (L.nil (E.blockN (E.aJ ⟨c34,v27,l22,q28,(),(),l23,q31,l24,v32,l25,rfl,rfl,(mn36 f29),(ma37 f30),by rw [hg1];exact h⟩ (sI [0,1,2,3,6]))))
set_option maxRecDepth 100000 in
set_option maxHeartbeats 8000000 in
theorem W9a:∀ (n:Nat) (kI:(List TI)) (kA:(List (List TOp))) (kB:(List Bool)) (kD:(List TOp)) (a1:TOp) (pb0:Nat) (kH:Value) (kN:Nat→List Value) (kG:Nat→List Value) (kC:Value) (K:World→Prop) (w:World) (r:((List TI)×(List (List TOp))×(List Bool)×(List TOp))) (h:M9b n kI kA kB kD a1=some r) (F:List Nat) (hK:StbF K w F) (hA0_locks:Fz K [] kH 3 (zr TI.rowv kN kI)) (hD0_locks:FzA K [] (zs TI.sds kN kI)) (hc0:Cls w F [.obj pb0 (List.flatten [[kH],(zr svRow kG kA).flatten,(zr (fzr B) (fun _=>[]) kB).flatten,[kC]]) 38,.ss (zs (svSd 40 3 TOp.row) kG kA),.ss (zs sd0 (fun _=>[]) kB),.sl kC 40 3 (kD.map TOp.row)] w),DoesF Tryz.prog 9 [pt pb0 0,.agg #[.int .i64 a1.Tx,.int .i64 a1.Kind,.int .i64 a1.Item]] F w fun u m=>∃ c,∃ y1 z1 z2 y4,u=.tuple #[]∧Fz K c y1 3 (zr TI.rowv z1 r.1)∧FzA K c (zs TI.sds z1 r.1)∧m=[.obj pb0 (List.flatten [[y1],(zr svRow z2 r.2.1).flatten,(zr (fzr B) (fun _=>[]) r.2.2.1).flatten,[y4]]) 38,.ss (zs (svSd 40 3 TOp.row) z2 r.2.1),.ss (zs sd0 (fun _=>[]) r.2.2.1),.sl y4 40 3 (r.2.2.2.map TOp.row),.os c]:=by
 intro n
 induction n with
 | zero=>intro kI kA kB kD a1 pb0 kH kN kG kC K w r h F hK hA0_locks hD0_locks hc0;rw [M9b] at h;cases h
 | succ n ih =>
 intro kI kA kB kD a1 pb0 kH kN kG kC K w r h F hK hA0_locks hD0_locks hc0
 rw [M9b] at h
 generalize M9b n=rec at h ih
 rw [M9a] at h
 refine body (n:=99) (C:=Cls w F [.obj pb0 (List.flatten [[kH],(zr svRow kG kA).flatten,(zr (fzr B) (fun _=>[]) kB).flatten,[kC]]) 38,.ss (zs (svSd 40 3 TOp.row) kG kA),.ss (zs sd0 (fun _=>[]) kB),.sl kC 40 3 (kD.map TOp.row),.os []]) Tryz.func9 rfl rfl rfl hc0.osNil (sr (L.box rfl rfl ?_))
 intro b1
 refine ln (W.seqJ (fun gs D=>gs=[(0,pt pb0 0),(3,pt b1 0)]∧D=Cls w F [.obj b1 [.int .i64 a1.Tx,.int .i64 a1.Kind,.int .i64 a1.Item] 40,.obj pb0 (List.flatten [[kH],(zr svRow kG kA).flatten,(zr (fzr B) (fun _=>[]) kB).flatten,[kC]]) 38,.ss (zs (svSd 40 3 TOp.row) kG kA),.ss (zs sd0 (fun _=>[]) kB),.sl kC 40 3 (kD.map TOp.row),.os []]∧M9K1 a1 kI kA kB kD rec=some r) ?_ ?_)
 ·refine W.block (W.seq (W.quietC mixed (by kernel_rfl) (fun _ hw=>hw.drew) (fun hC=>(U.r 1 rfl (U.y rfl (Y.fieldP fd40_0 rfl) (U.y rfl (Y.loadP (i:=0) ag3 rfl rfl rfl) (U.r 1 rfl (U.y rfl (Y.fieldP fd38_2 rfl) (U.m (V:=fun _=>pt pb0 (13+a1.Tx.toNat*1)) h rfl (Y.indexAS (l:=kB) Tryz.underlying36 sz4 rfl rfl) (fun x99 ex99 h=>?_))))))))))
  obtain ⟨_,en100,h⟩:=bind1S h
  obtain ⟨_,en100⟩:=arrN_some en100
  refine U.iteB h rfl (Y.loadZg (si:=2) (ps:=13) (q:=1) (row:=(fzr B)) (vs:=(fun _=>[])) (j:=0) (pv:=.bool x99) ag4 rfl rfl rfl rfl (sl1 (a:=1) (p:=12) rfl (sl1 (a:=12) (p:=0) (zrN (nn:=12) (k:=1) (fun _ _=>rfl) en100) sl0)) (fun _ _=>rfl) (idxA_idx ex99) rfl) (fun c101 h=>?_) (fun c101 h=>?_)
  ·refine U.r 1 rfl (U.nil (E.thenN (W.condT rfl (W.ret (E.blockR (E.KSR (E.ret0 rfl (fun w1 hw=>?_))))))))
   cases h
   exact ⟨_,_,rfl,⟨[],kH,kN,_,_,rfl,hA0_locks.up,hD0_locks.up,rfl⟩,hw.s [1,2,3,4,5]⟩
  refine U.r 1 rfl (U.nil (E.thenN (W.condF rfl (W.seqJ (fun gs D=>∃ gb10,gs=[(0,pt pb0 0),(3,pt b1 0),(15,.bool gb10)]∧D=Cls w F [.obj b1 [.int .i64 a1.Tx,.int .i64 a1.Kind,.int .i64 a1.Item] 40,.obj pb0 (List.flatten [[kH],(zr svRow kG kA).flatten,(zr (fzr B) (fun _=>[]) kB).flatten,[kC]]) 38,.ss (zs (svSd 40 3 TOp.row) kG kA),.ss (zs sd0 (fun _=>[]) kB),.sl kC 40 3 (kD.map TOp.row),.os []]∧M9K3 kA a1 kI kB kD rec gb10=some r) ?_ ?_))))
  ·refine W.quietC mixed (by kernel_rfl) (fun _ hw=>hw.drew) (fun hC=>(U.r 1 rfl (U.y rfl (Y.fieldP fd40_0 rfl) (U.y rfl (Y.loadP (i:=0) ag3 rfl rfl rfl) (U.r 1 rfl (U.y rfl (Y.fieldP fd38_1 rfl) (U.m (V:=fun _=>pt pb0 (1+a1.Tx.toNat*1)) h rfl (Y.indexAS (l:=kA) Tryz.underlying35 sz22 rfl rfl) (fun x171 ex171 h=>(U.y rfl (Y.loadZg (si:=1) (ps:=1) (q:=1) (row:=svRow) (vs:=kG) (j:=0) (pv:=gv (kG a1.Tx.toNat) 0) ag22 rfl rfl rfl rfl (sl1 (a:=1) (p:=0) rfl sl0) (fun _ _=>rfl) (idxA_idx ex171) rfl) (U.y rfl (Y.lenM (g:=TOp.row) (l:=x171) Tryz.underlying22 rfl (fun w hw=>As.atZ (sds:=(svSd 40 3 TOp.row)) (vs:=kG) (j:=0) (c:=1) (hw.get (i:=2) rfl) (fun _ _=>rfl) (idxA_idx ex171) rfl)) (U.ite h rfl (Y.gtr rfl rfl) (fun c172 h=>?_) (fun c172 h=>?_))))))))))))
   ·exact U.r 1 rfl (U.nil (E.jJ ⟨true,rfl,rfl,h⟩ hI))
   exact U.r 1 rfl (U.nil (E.jJ ⟨false,rfl,rfl,h⟩ hI))
  rintro _ _ ⟨gb10,rfl,rfl,h⟩
  rw [M9K3] at h
  rcases gb10 with _ | _
  ·replace h:=iteF h
   refine W.condF rfl (sr (L.y rfl (Y.fieldP fd40_1 rfl) (L.y rfl (Y.loadP (i:=0) ag3 rfl rfl rfl) (L.ite h rfl (Y.geq rfl rfl) (fun c102 h=>?_) (fun c102 h=>?_)))))
   ·refine L.r 1 rfl (ln (W.condT rfl (W.seq (W.drawn2 (k:=11) (stC [[7,10],[10]] [Cls w F [.obj b1 [.int .i64 a1.Tx,.int .i64 a1.Kind,.int .i64 a1.Item] 40,.obj pb0 (List.flatten [[kH],(zr svRow kG kA).flatten,(zr (fzr B) (fun _=>[]) kB).flatten,[kC]]) 38,.ss (zs (svSd 40 3 TOp.row) kG kA),.ss (zs sd0 (fun _=>[]) kB),.sl kC 40 3 (kD.map TOp.row),.os []],Cls w F [.obj b1 [.int .i64 a1.Tx,.int .i64 a1.Kind,.int .i64 a1.Item] 40,.obj pb0 (List.flatten [[kH],(zr svRow kG kA).flatten,(zr (fzr B) (fun _=>[]) kB).flatten,[kC]]) 38,.ss (zs (svSd 40 3 TOp.row) kG kA),.ss (zs sd0 (fun _=>[]) kB),.os []]] (Cls w F [.obj b1 [.int .i64 a1.Tx,.int .i64 a1.Kind,.int .i64 a1.Item] 40,.ss (zs (svSd 40 3 TOp.row) kG kA),.ss (zs sd0 (fun _=>[]) kB),.os []])) rfl mixed (fun _ hw=>hw.drew) (Sc.now (by kernel_rfl) hI) (V2.zz [] (Zc.on' (Zc.on' (Zc.fin hI) (sI [0,2,3,4])) (sI [0,2,3,5])) (fun hz114=>(V2.r [0,1,2] (by kernel_rfl) rfl (V2.q 3 [] hz114 rfl rfl (Y.fieldP fd38_3 rfl) (V2.zz [10] (Zc.on' (Zc.at1 hI) (sI [0,1,2,3,5])) (fun hz115=>?_))))))))))
    obtain ⟨_,en116,h⟩:=bind1S h
    obtain ⟨_,en116⟩:=arrN_some en116
    refine V2.q 4 [10] hz115 rfl rfl (Y.loadG (q:=1) (si:=3) (ps:=25) (j:=0) (X:=[kC]) ag22 rfl rfl rfl rfl (sl1 (a:=1) (p:=24) rfl (sl1 (a:=12) (p:=12) (zrN (nn:=12) (k:=1) (fun _ _=>rfl) en100) (sl1 (a:=12) (p:=0) (zrN (nn:=12) (k:=1) (fun _ _=>rfl) en116) sl0))) rfl) (V2.q 5 [] hz114 rfl rfl (Y.loadPW (i:=0) ag40 sz40 rfl rfl rfl) (V2.eff (i:=6) (by kernel_rfl) rfl (L.litAgg rfl Tryz.underlying22 eL40 rfl rfl rfl ?_)))
    intro b117
    refine L.nil (E.toV2 (stC [[7,10],[10]] [Cls w F [.sl (sv b117 1) 40 3 (([a1]).map TOp.row),.obj b1 [.int .i64 a1.Tx,.int .i64 a1.Kind,.int .i64 a1.Item] 40,.obj pb0 (List.flatten [[kH],(zr svRow kG kA).flatten,(zr (fzr B) (fun _=>[]) kB).flatten,[kC]]) 38,.ss (zs (svSd 40 3 TOp.row) kG kA),.ss (zs sd0 (fun _=>[]) kB),.sl kC 40 3 (kD.map TOp.row),.os []],Cls w F [.sl (sv b117 1) 40 3 (([a1]).map TOp.row),.obj b1 [.int .i64 a1.Tx,.int .i64 a1.Kind,.int .i64 a1.Item] 40,.obj pb0 (List.flatten [[kH],(zr svRow kG kA).flatten,(zr (fzr B) (fun _=>[]) kB).flatten,[kC]]) 38,.ss (zs (svSd 40 3 TOp.row) kG kA),.ss (zs sd0 (fun _=>[]) kB),.os []]] (Cls w F [.sl (sv b117 1) 40 3 (([a1]).map TOp.row),.obj b1 [.int .i64 a1.Tx,.int .i64 a1.Kind,.int .i64 a1.Item] 40,.ss (zs (svSd 40 3 TOp.row) kG kA),.ss (zs sd0 (fun _=>[]) kB),.os []])) 6 (by kernel_rfl) (Sc.stay (sI [1,2,3,4,5,6]) (Sc.stay (sI [1,2,3,4,5]) (Sc.stayD (sI [1,2,3,4])))) (Sc.now (by kernel_rfl) hI) (V2.eff (i:=7) (by kernel_rfl) rfl (L.appM (i:=5) (g:=TOp.row) (l:=kD) (more:=[a1]) h rfl Tryz.underlying22 eL40 rfl rfl rfl (fun w hw=>As.at_ (hw.get (i:=0) rfl)) (plain_TOp _) rfl ?_)))
    intro v118 l119 el119 h
    refine L.nil (E.toV2 (stC [[10]] [Cls w F [.sl v118 40 3 (l119.map TOp.row),.sl (sv b117 1) 40 3 (([a1]).map TOp.row),.obj b1 [.int .i64 a1.Tx,.int .i64 a1.Kind,.int .i64 a1.Item] 40,.obj pb0 (List.flatten [[kH],(zr svRow kG kA).flatten,(zr (fzr B) (fun _=>[]) kB).flatten,[kC]]) 38,.ss (zs (svSd 40 3 TOp.row) kG kA),.ss (zs sd0 (fun _=>[]) kB),.os []]] (Cls w F [.sl v118 40 3 (l119.map TOp.row),.sl (sv b117 1) 40 3 (([a1]).map TOp.row),.obj b1 [.int .i64 a1.Tx,.int .i64 a1.Kind,.int .i64 a1.Item] 40,.ss (zs (svSd 40 3 TOp.row) kG kA),.ss (zs sd0 (fun _=>[]) kB),.os []])) 7 (by kernel_rfl) (Sc.past rfl (Sc.stay (sI [1,2,3,4,5,6]) (Sc.stayD (sI [1,2,3,4,5])))) (Sc.now (by kernel_rfl) hI) (V2.zz [] (Zc.on' (Zc.fin hI) (sI [0,1,2,4,5,6])) (fun hz120=>(V2.r [8] (by kernel_rfl) rfl (V2.q 9 [] hz120 rfl rfl (Y.fieldP fd38_3 rfl) (V2.eff (i:=10) (by kernel_rfl) rfl (L.storeGV (q:=3) (si:=3) (ps:=25) (j:=0) (X:=[kC]) sz22 rfl rfl rfl (fun _ hw=>(As.at_ (hw.get (i:=0) rfl)).one) rfl rfl (sl1 (a:=1) (p:=24) rfl (sl1 (a:=12) (p:=12) (zrN (nn:=12) (k:=1) (fun _ _=>rfl) en100) (sl1 (a:=12) (p:=0) (zrN (nn:=12) (k:=1) (fun _ _=>rfl) en116) sl0))) rfl (L.nil (E.toV2 (stC [] [] (Cls w F [.sl v118 40 3 (l119.map TOp.row),.sl (sv b117 1) 40 3 (([a1]).map TOp.row),.obj b1 [.int .i64 a1.Tx,.int .i64 a1.Kind,.int .i64 a1.Item] 40,.ss (zs (svSd 40 3 TOp.row) kG kA),.ss (zs sd0 (fun _=>[]) kB),.os []])) 10 (by kernel_rfl) (Sc.past rfl (Sc.stayD hI)) (Sc.atD (sI [0,1,2,4,5,6])) (V2.done (by kernel_rfl) (E.thenN (sr (L.r 1 rfl ?_)))))))))))))
    refine L.y rfl (Y.fieldP fd40_0 rfl) (L.y rfl (Y.loadP (i:=2) ag3 rfl rfl rfl) (L.to (D:=Cls w F [.obj pb0 (List.flatten [[kH],(zr svRow kG kA).flatten,(zr (fzr B) (fun _=>[]) kB).flatten,[v118]]) 38,.ss (zs (svSd 40 3 TOp.row) kG kA),.ss (zs sd0 (fun _=>[]) kB),.sl v118 40 3 (l119.map TOp.row),.sl (sv b117 1) 40 3 (([a1]).map TOp.row),.obj b1 [.int .i64 a1.Tx,.int .i64 a1.Kind,.int .i64 a1.Item] 40,.os []]) (sI [3,4,5,0,1,2,6]) ?_))
    obtain ⟨l121,l122,l123,l124,e125,h⟩:=bind4S h
    refine L.doesP (A:=[.obj pb0 (List.flatten [[kH],(zr svRow kG kA).flatten,(zr (fzr B) (fun _=>[]) kB).flatten,[v118]]) 38,.ss (zs (svSd 40 3 TOp.row) kG kA),.ss (zs sd0 (fun _=>[]) kB),.sl v118 40 3 (l119.map TOp.row)]) (M:=[.sl (sv b117 1) 40 3 (([a1]).map TOp.row),.obj b1 [.int .i64 a1.Tx,.int .i64 a1.Kind,.int .i64 a1.Item] 40,.os []]) rfl en13 rfl (fun w' hw=>W13 rec ih kI kA kB l119 a1.Tx pb0 kH kN kG v118 (Kn K _) w' _ e125 _ (hK.knF hw rfl) hA0_locks.up.tok hD0_locks.up.tok hw.lend) ?_
    rintro _ _ ⟨c132,v126,q127,q130,v131,rfl,f128,f129,rfl⟩
    refine L.to (D:=Cls w F [.obj pb0 (List.flatten [[v126],(zr svRow q130 l122).flatten,(zr (fzr B) (fun _=>[]) l123).flatten,[v131]]) 38,.ss (zs (svSd 40 3 TOp.row) q130 l122),.ss (zs sd0 (fun _=>[]) l123),.sl v131 40 3 (l124.map TOp.row),.os c132,.sl (sv b117 1) 40 3 (([a1]).map TOp.row),.obj b1 [.int .i64 a1.Tx,.int .i64 a1.Kind,.int .i64 a1.Item] 40,.os []]) hI (L.osJoin (K:=K) (i:=4) rfl rfl rfl ?_)
    intro c133 mo134 mn135 ma136
    refine L.to (D:=Cls w F [.obj pb0 (List.flatten [[v126],(zr svRow q130 l122).flatten,(zr (fzr B) (fun _=>[]) l123).flatten,[v131]]) 38,.ss (zs (svSd 40 3 TOp.row) q130 l122),.ss (zs sd0 (fun _=>[]) l123),.sl v131 40 3 (l124.map TOp.row),.sl (sv b117 1) 40 3 (([a1]).map TOp.row),.obj b1 [.int .i64 a1.Tx,.int .i64 a1.Kind,.int .i64 a1.Item] 40,.os c133]) hI (ln (W.ret (E.blockR (E.KSR (E.ret0 rfl (fun w1 hw=>?_))))))
    cases h
    exact ⟨_,_,rfl,⟨c133,v126,q127,_,_,rfl,(mn135 f128),(ma136 f129),rfl⟩,hw.s [0,1,2,3,6]⟩
   exact L.r 1 rfl (ln (W.condF rfl (W.skip (E.blockN (E.jJ ⟨rfl,rfl,h⟩ hI)))))
  replace h:=iteT h
  refine W.condT rfl (W.seq (W.drawn2 (k:=17) (stC [[12,16],[16]] [Cls w F [.obj b1 [.int .i64 a1.Tx,.int .i64 a1.Kind,.int .i64 a1.Item] 40,.obj pb0 (List.flatten [[kH],(zr svRow kG kA).flatten,(zr (fzr B) (fun _=>[]) kB).flatten,[kC]]) 38,.ss (zs (svSd 40 3 TOp.row) kG kA),.ss (zs sd0 (fun _=>[]) kB),.sl kC 40 3 (kD.map TOp.row),.os []],Cls w F [.obj b1 [.int .i64 a1.Tx,.int .i64 a1.Kind,.int .i64 a1.Item] 40,.obj pb0 (List.flatten [[kH],(zr svRow kG kA).flatten,(zr (fzr B) (fun _=>[]) kB).flatten,[kC]]) 38,.ss (zs sd0 (fun _=>[]) kB),.sl kC 40 3 (kD.map TOp.row),.os []]] (Cls w F [.obj b1 [.int .i64 a1.Tx,.int .i64 a1.Kind,.int .i64 a1.Item] 40,.ss (zs sd0 (fun _=>[]) kB),.sl kC 40 3 (kD.map TOp.row),.os []])) rfl mixed (fun _ hw=>hw.drew) (Sc.now (by kernel_rfl) hI) (V2.zz [] (Zc.on' (Zc.on' (Zc.fin hI) (sI [0,2,3,4])) (sI [0,3,4,5])) (fun hz160=>(V2.r [0] (by kernel_rfl) rfl (V2.q 1 [] hz160 rfl rfl (Y.fieldP fd40_0 rfl) (V2.q 2 [] hz160 rfl rfl (Y.loadP (i:=0) ag3 rfl rfl rfl) (V2.r [3] (by kernel_rfl) rfl (V2.q 4 [] hz160 rfl rfl (Y.fieldP fd40_0 rfl) (V2.q 5 [] hz160 rfl rfl (Y.loadP (i:=0) ag3 rfl rfl rfl) (V2.r [6] (by kernel_rfl) rfl (V2.q 7 [] hz160 rfl rfl (Y.fieldP fd38_1 rfl) (V2.zz [16] (Zc.on' (Zc.at1 hI) (sI [0,1,3,4,5])) (fun hz161=>(V2.m (i:=8) (V':=fun _=>pt pb0 (1+a1.Tx.toNat*1)) h (Nx2.of [16] (by kernel_rfl) rfl hz161) rfl rfl rfl (Y.indexAS (l:=kA) Tryz.underlying35 sz22 rfl rfl) (fun x162 ex162 h=>?_))))))))))))))))
  refine V2.q 9 [16] hz161 rfl rfl (Y.loadZg (si:=1) (ps:=1) (q:=1) (row:=svRow) (vs:=kG) (j:=0) (pv:=gv (kG a1.Tx.toNat) 0) ag22 rfl rfl rfl rfl (sl1 (a:=1) (p:=0) rfl sl0) (fun _ _=>rfl) (idxA_idx ex162) rfl) (V2.q 10 [] hz160 rfl rfl (Y.loadPW (i:=0) ag40 sz40 rfl rfl rfl) (V2.r [13] (by kernel_rfl) rfl (V2.q 14 [] hz160 rfl rfl (Y.fieldP fd38_1 rfl) (V2.eff (i:=11) (by kernel_rfl) rfl (L.litAgg rfl Tryz.underlying22 eL40 rfl rfl rfl ?_)))))
  intro b163
  refine L.nil (E.toV2 (stC [[12,16],[16]] [Cls w F [.sl (sv b163 1) 40 3 (([a1]).map TOp.row),.obj b1 [.int .i64 a1.Tx,.int .i64 a1.Kind,.int .i64 a1.Item] 40,.obj pb0 (List.flatten [[kH],(zr svRow kG kA).flatten,(zr (fzr B) (fun _=>[]) kB).flatten,[kC]]) 38,.ss (zs (svSd 40 3 TOp.row) kG kA),.ss (zs sd0 (fun _=>[]) kB),.sl kC 40 3 (kD.map TOp.row),.os []],Cls w F [.sl (sv b163 1) 40 3 (([a1]).map TOp.row),.obj b1 [.int .i64 a1.Tx,.int .i64 a1.Kind,.int .i64 a1.Item] 40,.obj pb0 (List.flatten [[kH],(zr svRow kG kA).flatten,(zr (fzr B) (fun _=>[]) kB).flatten,[kC]]) 38,.ss (zs sd0 (fun _=>[]) kB),.sl kC 40 3 (kD.map TOp.row),.os []]] (Cls w F [.sl (sv b163 1) 40 3 (([a1]).map TOp.row),.obj b1 [.int .i64 a1.Tx,.int .i64 a1.Kind,.int .i64 a1.Item] 40,.ss (zs sd0 (fun _=>[]) kB),.sl kC 40 3 (kD.map TOp.row),.os []])) 11 (by kernel_rfl) (Sc.stay (sI [1,2,3,4,5,6]) (Sc.stay (sI [1,2,3,4,5]) (Sc.stayD (sI [1,2,3,4])))) (Sc.now (by kernel_rfl) hI) (V2.eff (i:=12) (by kernel_rfl) rfl (L.ssOut (sds:=(svSd 40 3 TOp.row)) (vs:=kG) (s:=3) (j:=0) (c:=1) rfl (fun _ _=>rfl) (idxA_idx ex162) rfl (L.appM (i:=0) (g:=TOp.row) (l:=x162) (more:=[a1]) h rfl Tryz.underlying22 eL40 rfl rfl rfl (fun w hw=>As.at_ (hw.get (i:=1) rfl)) (plain_TOp _) rfl ?_))))
  intro v164 l165 el165 h
  refine L.nil (E.toV2 (stC [[16]] [Cls w F [.sl v164 40 3 (l165.map TOp.row),.sl (sv b163 1) 40 3 (([a1]).map TOp.row),.obj b1 [.int .i64 a1.Tx,.int .i64 a1.Kind,.int .i64 a1.Item] 40,.obj pb0 (List.flatten [[kH],(zr svRow kG kA).flatten,(zr (fzr B) (fun _=>[]) kB).flatten,[kC]]) 38,.ss (zs sd0 (fun _=>[]) kB),.sl kC 40 3 (kD.map TOp.row),.os []]] (Cls w F [.sl (sv b163 1) 40 3 (([a1]).map TOp.row),.obj b1 [.int .i64 a1.Tx,.int .i64 a1.Kind,.int .i64 a1.Item] 40,.ss (zs sd0 (fun _=>[]) kB),.sl kC 40 3 (kD.map TOp.row),.os []])) 12 (by kernel_rfl) (Sc.past rfl (Sc.stay (sI [1,2,3,4,5,6]) (Sc.stayD hI))) (Sc.now (by kernel_rfl) (sI [0,1,2,3,5,6,7])) (V2.zz [16] (Zc.at1 hI) (fun hz167=>(V2.m (i:=15) (V':=fun _=>pt pb0 (1+a1.Tx.toNat*1)) h (Nx2.of [16] (by kernel_rfl) rfl hz167) rfl rfl rfl (Y.indexAS (l:=kA) Tryz.underlying35 sz22 rfl rfl) (fun x168 ex168 h=>(V2.eff (i:=16) (by kernel_rfl) rfl (L.storeZSg (si:=1) (ps:=1) (row:=svRow) (sds:=(svSd 40 3 TOp.row)) (vs:=kG) (q:=3) (p:=0) (s:=4) (c:=1) (jj:=0) (u1:=l165) (v1:=[v164]) (j:=0) h sz22 rfl rfl rfl rfl rfl (sl1 (a:=1) (p:=0) rfl sl0) rfl rfl (.inr rfl) (fun _ _=>rfl) (fun _ _=>rfl) (idxA_idx ex168) rfl rfl rfl rfl ?_)))))))
  intro l169 q170 el169 h
  refine L.nil (E.toV2 (stC [] [] (Cls w F [.sl (sv b163 1) 40 3 (([a1]).map TOp.row),.obj b1 [.int .i64 a1.Tx,.int .i64 a1.Kind,.int .i64 a1.Item] 40,.ss (zs sd0 (fun _=>[]) kB),.sl kC 40 3 (kD.map TOp.row),.os []])) 16 (by kernel_rfl) (Sc.past rfl (Sc.stayD hI)) (Sc.atD (sI [0,1,4,5,6])) (V2.done (by kernel_rfl) (E.thenN (W.ret (E.blockR (E.KSR (E.ret0 rfl (fun w1 hw=>?_))))))))
  cases h
  exact ⟨_,_,rfl,⟨[],kH,kN,_,_,rfl,hA0_locks.up,hD0_locks.up,rfl⟩,hw.s [2,3,4,5,6]⟩
 rintro _ _ ⟨rfl,rfl,h⟩
 rw [M9K1] at h
 refine W.seqJ (fun gs D=>∃ gc1 gv2 gl3 gq4,∃ gu6 gu8:Unit,∃ gb9,gs=[(0,pt pb0 0),(3,pt b1 0),(4,gv2),(5,.bool gb9)]∧D=Cls w F [.obj b1 [.int .i64 a1.Tx,.int .i64 a1.Kind,.int .i64 a1.Item] 40,.obj pb0 (List.flatten [[kH],(zr svRow kG kA).flatten,(zr (fzr B) (fun _=>[]) kB).flatten,[kC]]) 38,.ss (zs (svSd 40 3 TOp.row) kG kA),.ss (zs sd0 (fun _=>[]) kB),.sl kC 40 3 (kD.map TOp.row),.os gc1]∧Fz K gc1 gv2 3 (zr TI.rowv gq4 gl3)∧FzA K gc1 (zs TI.sds gq4 gl3)∧M9K2 kA kB kD a1 rec gl3 gb9=some r) ?_ ?_
 ·refine W.drawn2 (k:=18) (stC [[10]] [Cls w F [.obj b1 [.int .i64 a1.Tx,.int .i64 a1.Kind,.int .i64 a1.Item] 40,.obj pb0 (List.flatten [[kH],(zr svRow kG kA).flatten,(zr (fzr B) (fun _=>[]) kB).flatten,[kC]]) 38,.ss (zs (svSd 40 3 TOp.row) kG kA),.ss (zs sd0 (fun _=>[]) kB),.sl kC 40 3 (kD.map TOp.row),.os []]] (Cls w F [.obj b1 [.int .i64 a1.Tx,.int .i64 a1.Kind,.int .i64 a1.Item] 40,.obj pb0 (List.flatten [[kH],(zr svRow kG kA).flatten,(zr (fzr B) (fun _=>[]) kB).flatten,[kC]]) 38,.ss (zs (svSd 40 3 TOp.row) kG kA),.ss (zs sd0 (fun _=>[]) kB),.sl kC 40 3 (kD.map TOp.row)])) rfl mixed (fun _ hw=>hw.drew) (Sc.now (by kernel_rfl) hI) (V2.zz [] (Zc.on' (Zc.fin hI) (sI [0,1,2,3,4])) (fun hz81=>(V2.r [0,1] (by kernel_rfl) rfl (V2.q 2 [] hz81 rfl rfl (Y.fieldP fd38_0 rfl) (V2.q 3 [] hz81 rfl rfl (Y.loadG (q:=1) (si:=0) (ps:=0) (j:=0) (X:=[kH]) ag34 rfl rfl rfl rfl sl0 rfl) (V2.q 4 [] hz81 rfl rfl (Y.fieldP fd40_0 rfl) (V2.q 5 [] hz81 rfl rfl (Y.loadP (i:=0) ag3 rfl rfl rfl) (V2.q 6 [] hz81 rfl rfl (Y.fieldP fd40_2 rfl) (V2.q 7 [] hz81 rfl rfl (Y.loadP (i:=0) ag3 rfl rfl rfl) (V2.q 8 [] hz81 rfl rfl (Y.loadPW (i:=0) ag40 sz40 rfl rfl rfl) (V2.eff (i:=9) (by kernel_rfl) rfl ?_)))))))))))
  obtain ⟨x82,e83,h⟩:=bind1S h
  refine L.y rfl (Y.does en15 rfl (fun w' hw=>(W15 a1 w' _ e83).mono (fun _ _ h=>h.1))) (L.nil (E.toV2 (stC [[10]] [Cls w F [.obj b1 [.int .i64 a1.Tx,.int .i64 a1.Kind,.int .i64 a1.Item] 40,.obj pb0 (List.flatten [[kH],(zr svRow kG kA).flatten,(zr (fzr B) (fun _=>[]) kB).flatten,[kC]]) 38,.ss (zs (svSd 40 3 TOp.row) kG kA),.ss (zs sd0 (fun _=>[]) kB),.sl kC 40 3 (kD.map TOp.row),.os []]] (Cls w F [.obj b1 [.int .i64 a1.Tx,.int .i64 a1.Kind,.int .i64 a1.Item] 40,.obj pb0 (List.flatten [[kH],(zr svRow kG kA).flatten,(zr (fzr B) (fun _=>[]) kB).flatten,[kC]]) 38,.ss (zs (svSd 40 3 TOp.row) kG kA),.ss (zs sd0 (fun _=>[]) kB),.sl kC 40 3 (kD.map TOp.row)])) 9 (by kernel_rfl) (Sc.stay hI (Sc.stayD hI)) (Sc.now (by kernel_rfl) hI) (V2.eff (i:=10) (by kernel_rfl) rfl ?_)))
  obtain ⟨l84,b89,x90,e91,h⟩:=bind3S h
  refine L.doesFP rfl en14 rfl rfl hK (fun w' hw hs=>W14 kI a1.Tx a1.Item x82 kH kN _ w' hs.f _ e91 hA0_locks.up.tok hD0_locks.up.tok) ?_
  rintro _ c92 c93 mo94 mn95 ma96 ⟨v85,q87,rfl,f86,f88⟩
  refine L.nil (E.toV2 (stC [] [] (Cls w F [.obj b1 [.int .i64 a1.Tx,.int .i64 a1.Kind,.int .i64 a1.Item] 40,.obj pb0 (List.flatten [[kH],(zr svRow kG kA).flatten,(zr (fzr B) (fun _=>[]) kB).flatten,[kC]]) 38,.ss (zs (svSd 40 3 TOp.row) kG kA),.ss (zs sd0 (fun _=>[]) kB),.sl kC 40 3 (kD.map TOp.row)])) 10 (by kernel_rfl) (Sc.past rfl (Sc.stayD hI)) (Sc.atD (sI [0,1,2,3,4])) (V2.zz [] (Zc.fin hI) (fun hz97=>(V2.r [11,12] (by kernel_rfl) rfl (V2.iteB (i:=13) h (Nx2.of [] (by kernel_rfl) rfl hz97) rfl rfl rfl (Y.extract rfl rfl) (fun c98 h=>?_) (fun c98 h=>?_))))))
  ·exact V2.r [14,15,16,17] (by kernel_rfl) rfl (V2.done (by kernel_rfl) (E.jJ ⟨c93,v85,l84,q87,(),(),true,rfl,rfl,(mn95 f86),(ma96 f88),h⟩ hI))
  exact V2.r [14,15,16,17] (by kernel_rfl) rfl (V2.done (by kernel_rfl) (E.jJ ⟨c93,v85,l84,q87,(),(),false,rfl,rfl,(mn95 f86),(ma96 f88),h⟩ hI))
 rintro _ _ ⟨gc1,gv2,gl3,gq4,gu6,gu8,gb9,rfl,rfl,hG5,hG7,h⟩
 rw [M9K2] at h
 rcases gb9 with _ | _
 ·replace h:=iteF h
  refine sr (L.r 3 rfl (L.y rfl (Y.fieldP fd38_0 rfl) (L.storeGV (q:=1) (si:=0) (ps:=0) (j:=0) (X:=[kH]) sz34 rfl rfl rfl (fun _ hw=>(hG5.clsP hK hw rfl).one) rfl rfl sl0 rfl (ln (W.seq (sr (L.r 1 rfl (ln (W.condF rfl ?_)))))))))
  refine W.skip (E.thenN (W.seq (W.drawn2 (k:=9) (stC [[8]] [Cls w F [.obj b1 [.int .i64 a1.Tx,.int .i64 a1.Kind,.int .i64 a1.Item] 40,.obj pb0 (List.flatten [[gv2],(zr svRow kG kA).flatten,(zr (fzr B) (fun _=>[]) kB).flatten,[kC]]) 38,.ss (zs (svSd 40 3 TOp.row) kG kA),.ss (zs sd0 (fun _=>[]) kB),.sl kC 40 3 (kD.map TOp.row),.os gc1]] (Cls w F [.obj b1 [.int .i64 a1.Tx,.int .i64 a1.Kind,.int .i64 a1.Item] 40,.ss (zs sd0 (fun _=>[]) kB),.sl kC 40 3 (kD.map TOp.row),.os gc1])) rfl mixed (fun _ hw=>hw.drew) (Sc.now (by kernel_rfl) hI) (V2.zz [] (Zc.on' (Zc.fin hI) (sI [0,3,4,5])) (fun hz21=>(V2.r [0] (by kernel_rfl) rfl (V2.q 1 [] hz21 rfl rfl (Y.fieldP fd40_0 rfl) (V2.q 2 [] hz21 rfl rfl (Y.loadP (i:=0) ag3 rfl rfl rfl) (V2.q 3 [] hz21 rfl rfl (Y.loadPW (i:=0) ag40 sz40 rfl rfl rfl) (V2.r [5] (by kernel_rfl) rfl (V2.q 6 [] hz21 rfl rfl (Y.fieldP fd38_1 rfl) (V2.eff (i:=4) (by kernel_rfl) rfl (L.litAgg rfl Tryz.underlying22 eL40 rfl rfl rfl ?_)))))))))))))
  intro b22
  refine L.nil (E.toV2 (stC [[8]] [Cls w F [.sl (sv b22 1) 40 3 (([a1]).map TOp.row),.obj b1 [.int .i64 a1.Tx,.int .i64 a1.Kind,.int .i64 a1.Item] 40,.obj pb0 (List.flatten [[gv2],(zr svRow kG kA).flatten,(zr (fzr B) (fun _=>[]) kB).flatten,[kC]]) 38,.ss (zs (svSd 40 3 TOp.row) kG kA),.ss (zs sd0 (fun _=>[]) kB),.sl kC 40 3 (kD.map TOp.row),.os gc1]] (Cls w F [.obj b1 [.int .i64 a1.Tx,.int .i64 a1.Kind,.int .i64 a1.Item] 40,.ss (zs sd0 (fun _=>[]) kB),.sl kC 40 3 (kD.map TOp.row),.os gc1])) 4 (by kernel_rfl) (Sc.stay (sI [1,2,3,4,5,6]) (Sc.stayD hI)) (Sc.now (by kernel_rfl) hI) (V2.zz [8] (Zc.at1 hI) (fun hz24=>(V2.m (i:=7) (V':=fun _=>pt pb0 (1+a1.Tx.toNat*1)) h (Nx2.of [8] (by kernel_rfl) rfl hz24) rfl rfl rfl (Y.indexAS (l:=kA) Tryz.underlying35 sz22 rfl rfl) (fun x25 ex25 h=>(V2.eff (i:=8) (by kernel_rfl) rfl (L.storeZSg (si:=1) (ps:=1) (row:=svRow) (sds:=(svSd 40 3 TOp.row)) (vs:=kG) (q:=2) (p:=0) (s:=3) (c:=1) (jj:=0) (u1:=[a1]) (v1:=[(sv b22 1)]) (j:=0) h sz22 rfl rfl rfl rfl rfl (sl1 (a:=1) (p:=0) rfl sl0) rfl rfl (.inl rfl) (fun _ _=>rfl) (fun _ _=>rfl) (idxA_idx ex25) rfl rfl rfl rfl ?_)))))))
  intro l26 q27 el26 h
  refine L.nil (E.toV2 (stC [] [] (Cls w F [.obj b1 [.int .i64 a1.Tx,.int .i64 a1.Kind,.int .i64 a1.Item] 40,.ss (zs sd0 (fun _=>[]) kB),.sl kC 40 3 (kD.map TOp.row),.os gc1])) 8 (by kernel_rfl) (Sc.past rfl (Sc.stayD hI)) (Sc.atD (sI [0,3,4,5])) (V2.done (by kernel_rfl) (E.thenN (W.region (L.r 1 rfl (L.to (D:=Cls w F [.obj pb0 (List.flatten [[gv2],(zr svRow q27 l26).flatten,(zr (fzr B) (fun _=>[]) kB).flatten,[kC]]) 38,.ss (zs (svSd 40 3 TOp.row) q27 l26),.ss (zs sd0 (fun _=>[]) kB),.sl kC 40 3 (kD.map TOp.row),.obj b1 [.int .i64 a1.Tx,.int .i64 a1.Kind,.int .i64 a1.Item] 40,.os gc1]) (sI [1,2,3,4,0,5]) ?_))))))
  obtain ⟨l28,l29,l30,l31,e32,h⟩:=bind4S h
  refine L.doesP (A:=[.obj pb0 (List.flatten [[gv2],(zr svRow q27 l26).flatten,(zr (fzr B) (fun _=>[]) kB).flatten,[kC]]) 38,.ss (zs (svSd 40 3 TOp.row) q27 l26),.ss (zs sd0 (fun _=>[]) kB),.sl kC 40 3 (kD.map TOp.row)]) (M:=[.obj b1 [.int .i64 a1.Tx,.int .i64 a1.Kind,.int .i64 a1.Item] 40,.os gc1]) rfl en16 rfl (fun w' hw=>W16 rec ih gl3 l26 kB kD pb0 gv2 gq4 q27 kC (Kn K _) w' _ e32 _ (hK.knF hw rfl) hG5.tok hG7.tok hw.lend) ?_
  rintro _ _ ⟨c39,v33,q34,q37,v38,rfl,f35,f36,rfl⟩
  refine L.to (D:=Cls w F [.obj pb0 (List.flatten [[v33],(zr svRow q37 l29).flatten,(zr (fzr B) (fun _=>[]) l30).flatten,[v38]]) 38,.ss (zs (svSd 40 3 TOp.row) q37 l29),.ss (zs sd0 (fun _=>[]) l30),.sl v38 40 3 (l31.map TOp.row),.os c39,.obj b1 [.int .i64 a1.Tx,.int .i64 a1.Kind,.int .i64 a1.Item] 40,.os gc1]) hI (L.osJoin (K:=K) (i:=4) rfl rfl rfl ?_)
  intro c40 mo41 mn42 ma43
  refine L.to (D:=Cls w F [.obj pb0 (List.flatten [[v33],(zr svRow q37 l29).flatten,(zr (fzr B) (fun _=>[]) l30).flatten,[v38]]) 38,.ss (zs (svSd 40 3 TOp.row) q37 l29),.ss (zs sd0 (fun _=>[]) l30),.sl v38 40 3 (l31.map TOp.row),.obj b1 [.int .i64 a1.Tx,.int .i64 a1.Kind,.int .i64 a1.Item] 40,.os c40]) hI (L.nil (E.end0 rfl (fun w1 hw=>?_)))
  cases h
  exact ⟨_,_,rfl,⟨c40,v33,q34,_,_,rfl,(mn42 f35),(ma43 f36),rfl⟩,hw.s [0,1,2,3,5]⟩
 replace h:=iteT h
 refine sr (L.r 3 rfl (L.y rfl (Y.fieldP fd38_0 rfl) (L.storeGV (q:=1) (si:=0) (ps:=0) (j:=0) (X:=[kH]) sz34 rfl rfl rfl (fun _ hw=>(hG5.clsP hK hw rfl).one) rfl rfl sl0 rfl (ln (W.seq (sr (L.r 1 rfl (ln (W.condT rfl ?_)))))))))
 refine W.seq (W.drawn2 (k:=11) (stC [[7,10],[10]] [Cls w F [.obj b1 [.int .i64 a1.Tx,.int .i64 a1.Kind,.int .i64 a1.Item] 40,.obj pb0 (List.flatten [[gv2],(zr svRow kG kA).flatten,(zr (fzr B) (fun _=>[]) kB).flatten,[kC]]) 38,.ss (zs (svSd 40 3 TOp.row) kG kA),.ss (zs sd0 (fun _=>[]) kB),.sl kC 40 3 (kD.map TOp.row),.os gc1],Cls w F [.obj b1 [.int .i64 a1.Tx,.int .i64 a1.Kind,.int .i64 a1.Item] 40,.obj pb0 (List.flatten [[gv2],(zr svRow kG kA).flatten,(zr (fzr B) (fun _=>[]) kB).flatten,[kC]]) 38,.ss (zs (svSd 40 3 TOp.row) kG kA),.ss (zs sd0 (fun _=>[]) kB),.os gc1]] (Cls w F [.obj b1 [.int .i64 a1.Tx,.int .i64 a1.Kind,.int .i64 a1.Item] 40,.ss (zs (svSd 40 3 TOp.row) kG kA),.ss (zs sd0 (fun _=>[]) kB),.os gc1])) rfl mixed (fun _ hw=>hw.drew) (Sc.now (by kernel_rfl) hI) (V2.zz [] (Zc.on' (Zc.on' (Zc.fin hI) (sI [0,2,3,4])) (sI [0,2,3,5])) (fun hz57=>(V2.r [0,1,2] (by kernel_rfl) rfl (V2.q 3 [] hz57 rfl rfl (Y.fieldP fd38_3 rfl) (V2.zz [10] (Zc.on' (Zc.at1 hI) (sI [0,1,2,3,5])) (fun hz58=>?_)))))))
 obtain ⟨_,en59,h⟩:=bind1S h
 obtain ⟨_,en59⟩:=arrN_some en59
 obtain ⟨_,en60,h⟩:=bind1S h
 obtain ⟨_,en60⟩:=arrN_some en60
 refine V2.q 4 [10] hz58 rfl rfl (Y.loadG (q:=1) (si:=3) (ps:=25) (j:=0) (X:=[kC]) ag22 rfl rfl rfl rfl (sl1 (a:=1) (p:=24) rfl (sl1 (a:=12) (p:=12) (zrN (nn:=12) (k:=1) (fun _ _=>rfl) en59) (sl1 (a:=12) (p:=0) (zrN (nn:=12) (k:=1) (fun _ _=>rfl) en60) sl0))) rfl) (V2.q 5 [] hz57 rfl rfl (Y.loadPW (i:=0) ag40 sz40 rfl rfl rfl) (V2.eff (i:=6) (by kernel_rfl) rfl (L.litAgg rfl Tryz.underlying22 eL40 rfl rfl rfl ?_)))
 intro b61
 refine L.nil (E.toV2 (stC [[7,10],[10]] [Cls w F [.sl (sv b61 1) 40 3 (([a1]).map TOp.row),.obj b1 [.int .i64 a1.Tx,.int .i64 a1.Kind,.int .i64 a1.Item] 40,.obj pb0 (List.flatten [[gv2],(zr svRow kG kA).flatten,(zr (fzr B) (fun _=>[]) kB).flatten,[kC]]) 38,.ss (zs (svSd 40 3 TOp.row) kG kA),.ss (zs sd0 (fun _=>[]) kB),.sl kC 40 3 (kD.map TOp.row),.os gc1],Cls w F [.sl (sv b61 1) 40 3 (([a1]).map TOp.row),.obj b1 [.int .i64 a1.Tx,.int .i64 a1.Kind,.int .i64 a1.Item] 40,.obj pb0 (List.flatten [[gv2],(zr svRow kG kA).flatten,(zr (fzr B) (fun _=>[]) kB).flatten,[kC]]) 38,.ss (zs (svSd 40 3 TOp.row) kG kA),.ss (zs sd0 (fun _=>[]) kB),.os gc1]] (Cls w F [.sl (sv b61 1) 40 3 (([a1]).map TOp.row),.obj b1 [.int .i64 a1.Tx,.int .i64 a1.Kind,.int .i64 a1.Item] 40,.ss (zs (svSd 40 3 TOp.row) kG kA),.ss (zs sd0 (fun _=>[]) kB),.os gc1])) 6 (by kernel_rfl) (Sc.stay (sI [1,2,3,4,5,6]) (Sc.stay (sI [1,2,3,4,5]) (Sc.stayD (sI [1,2,3,4])))) (Sc.now (by kernel_rfl) hI) (V2.eff (i:=7) (by kernel_rfl) rfl (L.appM (i:=5) (g:=TOp.row) (l:=kD) (more:=[a1]) h rfl Tryz.underlying22 eL40 rfl rfl rfl (fun w hw=>As.at_ (hw.get (i:=0) rfl)) (plain_TOp _) rfl ?_)))
 intro v62 l63 el63 h
 refine L.nil (E.toV2 (stC [[10]] [Cls w F [.sl v62 40 3 (l63.map TOp.row),.sl (sv b61 1) 40 3 (([a1]).map TOp.row),.obj b1 [.int .i64 a1.Tx,.int .i64 a1.Kind,.int .i64 a1.Item] 40,.obj pb0 (List.flatten [[gv2],(zr svRow kG kA).flatten,(zr (fzr B) (fun _=>[]) kB).flatten,[kC]]) 38,.ss (zs (svSd 40 3 TOp.row) kG kA),.ss (zs sd0 (fun _=>[]) kB),.os gc1]] (Cls w F [.sl v62 40 3 (l63.map TOp.row),.sl (sv b61 1) 40 3 (([a1]).map TOp.row),.obj b1 [.int .i64 a1.Tx,.int .i64 a1.Kind,.int .i64 a1.Item] 40,.ss (zs (svSd 40 3 TOp.row) kG kA),.ss (zs sd0 (fun _=>[]) kB),.os gc1])) 7 (by kernel_rfl) (Sc.past rfl (Sc.stay (sI [1,2,3,4,5,6]) (Sc.stayD (sI [1,2,3,4,5])))) (Sc.now (by kernel_rfl) hI) (V2.zz [] (Zc.on' (Zc.fin hI) (sI [0,1,2,4,5,6])) (fun hz64=>(V2.r [8] (by kernel_rfl) rfl (V2.q 9 [] hz64 rfl rfl (Y.fieldP fd38_3 rfl) (V2.eff (i:=10) (by kernel_rfl) rfl (L.storeGV (q:=3) (si:=3) (ps:=25) (j:=0) (X:=[kC]) sz22 rfl rfl rfl (fun _ hw=>(As.at_ (hw.get (i:=0) rfl)).one) rfl rfl (sl1 (a:=1) (p:=24) rfl (sl1 (a:=12) (p:=12) (zrN (nn:=12) (k:=1) (fun _ _=>rfl) en59) (sl1 (a:=12) (p:=0) (zrN (nn:=12) (k:=1) (fun _ _=>rfl) en60) sl0))) rfl (L.nil (E.toV2 (stC [] [] (Cls w F [.sl v62 40 3 (l63.map TOp.row),.sl (sv b61 1) 40 3 (([a1]).map TOp.row),.obj b1 [.int .i64 a1.Tx,.int .i64 a1.Kind,.int .i64 a1.Item] 40,.ss (zs (svSd 40 3 TOp.row) kG kA),.ss (zs sd0 (fun _=>[]) kB),.os gc1])) 10 (by kernel_rfl) (Sc.past rfl (Sc.stayD hI)) (Sc.atD (sI [0,1,2,4,5,6])) (V2.done (by kernel_rfl) (E.thenN (W.ret (E.thenR (E.ret0 rfl (fun w1 hw=>?_)))))))))))))))
 cases h
 exact ⟨_,_,rfl,⟨gc1,gv2,gq4,_,_,rfl,hG5,hG7,rfl⟩,hw.s [3,4,5,0,6]⟩
theorem W9 (kI:(List TI)) (kA:(List (List TOp))) (kB:(List Bool)) (kD:(List TOp)) (a1:TOp) (pb0:Nat) (kH:Value) (kN:Nat→List Value) (kG:Nat→List Value) (kC:Value) (K:World→Prop) (w:World) (r:((List TI)×(List (List TOp))×(List Bool)×(List TOp))) (h:M9 kI kA kB kD a1=some r) (F:List Nat) (hK:StbF K w F) (hA0_locks:Fz K [] kH 3 (zr TI.rowv kN kI)) (hD0_locks:FzA K [] (zs TI.sds kN kI)) (hc0:Cls w F [.obj pb0 (List.flatten [[kH],(zr svRow kG kA).flatten,(zr (fzr B) (fun _=>[]) kB).flatten,[kC]]) 38,.ss (zs (svSd 40 3 TOp.row) kG kA),.ss (zs sd0 (fun _=>[]) kB),.sl kC 40 3 (kD.map TOp.row)] w):DoesF Tryz.prog 9 [pt pb0 0,.agg #[.int .i64 a1.Tx,.int .i64 a1.Kind,.int .i64 a1.Item]] F w fun u m=>∃ c,∃ y1 z1 z2 y4,u=.tuple #[]∧Fz K c y1 3 (zr TI.rowv z1 r.1)∧FzA K c (zs TI.sds z1 r.1)∧m=[.obj pb0 (List.flatten [[y1],(zr svRow z2 r.2.1).flatten,(zr (fzr B) (fun _=>[]) r.2.2.1).flatten,[y4]]) 38,.ss (zs (svSd 40 3 TOp.row) z2 r.2.1),.ss (zs sd0 (fun _=>[]) r.2.2.1),.sl y4 40 3 (r.2.2.2.map TOp.row),.os c]:=W9a big kI kA kB kD a1 pb0 kH kN kG kC K w r h F hK hA0_locks hD0_locks hc0
set_option maxRecDepth 100000 in
set_option maxHeartbeats 8000000 in
theorem W4 (a0:(List TOp)) (u0:Value) (K:World→Prop) (w:World) (hK:StbF K w []) (r:(TPlayed×Int)) (h:M4 a0=some r) (hA0:Fz K [] u0 3 (a0.map TOp.row)):Does Tryz.prog 4 [u0] w fun u m=>∃ c,m=[.os c]∧∃ v0 v1 v2,u=.tuple #[.agg #[v0,v1,v2],.int .i64 r.2]∧Fz K c v0 3 (r.1.Run.map TOp.row)∧Fz K c v1 1 (r.1.Dead.map I)∧Fz K c v2 1 (r.1.Late.map I):=by
 rw [M4] at h
 refine body (n:=55) Tryz.func4 rfl rfl rfl (Cls.reflF w) (sr (L.alloc rfl ze25 ?_))
 intro b1
 refine L.r 1 rfl (ln (W.seq (sr (L.r 1 rfl ?_))))
 obtain ⟨x2,e3,h⟩:=bind1S h
 refine L.y rfl (Y.does en8 rfl (fun w' hw=>(W8 a0 u0 w' _ e3 (hA0.up.clsP hK hw rfl)).mono (fun _ _ h=>h.1))) (L.r 1 rfl (nsr (L.r 1 rfl (L.ite h rfl (Y.neq rfl rfl) (fun c4 h=>?_) (fun c4 h=>?_)))))
 ·refine ln (W.condT rfl (sr (L.y rfl (Y.build (cells:=#[.slice none 0 0,.slice none 0 0,.slice none 0 0]) rfl (by kernel_rfl)) (L.r 1 rfl (L.store (i:=0) (vs:=[.slice none 0 0,.slice none 0 0,.slice none 0 0]) sz25 rfl rfl rfl rfl (by simp [Value.oneCell',Value.cells,st,pt,el]) rfl nb (L.r 1 rfl (ln (W.ret (E.thenR (E.retR2 rfl (Rv.cellW (i:=0) ag25 sz25 rfl rfl rfl) (Rv.tmp rfl) (fun w1 hw=>?_)))))))))))
  cases h
  exact ⟨_,_,rfl,⟨[],rfl,(.slice none 0 0),(.slice none 0 0),(.slice none 0 0),rfl,Fz.nil,Fz.nil,Fz.nil⟩,hw.s [1]⟩
 refine ln (W.condF rfl (W.skip (E.thenN (sr (L.alloc rfl ze38 ?_)))))
 intro b5
 refine L.toSeg (S:=[[.slice none 0 0],(zr svRow (fun _=>[nilV]) (List.replicate 12 ([]:(List TOp)))).flatten,(zr (fzr B) (fun _=>[]) (List.replicate 12 (false:Bool))).flatten,[.slice none 0 0]]) rfl (L.ssNil (sds:=(svSd 40 3 TOp.row)) (vs:=(fun _=>[nilV])) (xs:=(List.replicate 12 ([]:(List TOp)))) (zs_repl (gall1 rfl rfl gall0) _) (L.ssNil (sds:=sd0) (vs:=(fun _=>[])) (xs:=(List.replicate 12 (false:Bool))) (zs_repl gall0 _) (ln (W.seqJ (fun gs D=>∃ gc1 gv2 gl3 gq4,∃ gu6 gu8:Unit,∃ gl9 gq10 gl11 gv12 gl13,gs=[(2,pt b1 0),(5,pt b5 0)]∧D=Cls w [] [.obj b5 (List.flatten [[gv2],(zr svRow gq10 gl9).flatten,(zr (fzr B) (fun _=>[]) gl11).flatten,[gv12]]) 38,.ss (zs (svSd 40 3 TOp.row) gq10 gl9),.ss (zs sd0 (fun _=>[]) gl11),.obj b1 [.slice none 0 0,.slice none 0 0,.slice none 0 0] 25,.sl gv12 40 3 (gl13.map TOp.row),.os gc1]∧Fz K gc1 gv2 3 (zr TI.rowv gq4 gl3)∧FzA K gc1 (zs TI.sds gq4 gl3)∧M4K1 gl3 gl9 gl11 gl13=some r) ?_ ?_))))
 ·refine sr (L.r 1 rfl (L.y rfl (Y.lenM (g:=TOp.row) (l:=a0) Tryz.underlying22 rfl (fun w' hw=>(hA0.up.clsP hK hw rfl))) (L.r 1 rfl (ln (W.block (W.nilSl 40 3 (W.loopJ (fun m gs D=>∃ gc23 gx24 gv25 gl26 gq27,∃ gu29 gu31:Unit,∃ gl32 gq33 gl34 gv35 gl36,gs=[(2,pt b1 0),(5,pt b5 0),(16,u0),(17,.int .i64 (a0.length:Int)),(18,.int .i64 gx24)]∧D=Cls w [] [.obj b5 (List.flatten [[gv25],(zr svRow gq33 gl32).flatten,(zr (fzr B) (fun _=>[]) gl34).flatten,[gv35]]) 38,.ss (zs (svSd 40 3 TOp.row) gq33 gl32),.ss (zs sd0 (fun _=>[]) gl34),.obj b1 [.slice none 0 0,.slice none 0 0,.slice none 0 0] 25,.sl gv35 40 3 (gl36.map TOp.row),.os gc23]∧Fz K gc23 gv25 3 (zr TI.rowv gq27 gl26)∧FzA K gc23 (zs TI.sds gq27 gl26)∧M4L2 a0 m gx24 gl26 gl32 gl34 gl36=some r) ⟨[],0,.slice none 0 0,[],(fun _=>[]),(),(),(List.replicate 12 ([]:(List TOp))),(fun _=>[nilV]),(List.replicate 12 (false:Bool)),.slice none 0 0,[],rfl,rfl,Fz.nil,FzA.nil,h⟩ ⟨rfl,rfl,rfl,rfl,rfl,trivial⟩ (sI [3,2,1,4,0,5]) ?_)))))))
  rintro m _ _ ⟨gc23,gx24,gv25,gl26,gq27,gu29,gu31,gl32,gq33,gl34,gv35,gl36,rfl,rfl,hG28,hG30,h⟩
  rcases m with _ | m
  ·rw [M4L2] at h;cases h
  rw [M4L2] at h
  generalize hg2:M4L2 a0 m=go2 at h
  rw [M4L2B] at h
  refine sr (L.ite h rfl (Y.lss rfl rfl) (fun c38 h=>?_) (fun c38 h=>?_))
  ·refine ln (W.seq (W.condT rfl (W.skip (E.thenN (W.seq (W.block (sr (L.m (V:=fun _=>el u0 (gx24.toNat*3)) h rfl (Y.indexM (g:=TOp.row) (l:=a0) Tryz.underlying22 sz40 rfl rfl (fun w' hw=>(hA0.up.clsP hK hw rfl))) (fun x39 ex39 h=>(L.y rfl (Y.loadEN (r:=[.int .i64 x39.Tx,.int .i64 x39.Kind,.int .i64 x39.Item]) ag40 sz40 rfl (fun w' hw=>(hA0.up.clsP hK hw rfl)) (idx_map ex39) rfl) (L.alloc rfl ze40 ?_)))))))))))
   intro b40
   refine L.store (i:=0) (vs:=[.int .i64 x39.Tx,.int .i64 x39.Kind,.int .i64 x39.Item]) sz40 rfl rfl rfl rfl (by simp [Value.oneCell',Value.cells,st,pt,el]) rfl nb (nr (L.y rfl (Y.loadPW (i:=0) ag40 sz40 rfl rfl rfl) (L.to (D:=Cls w [] [.obj b5 (List.flatten [[gv25],(zr svRow gq33 gl32).flatten,(zr (fzr B) (fun _=>[]) gl34).flatten,[gv35]]) 38,.ss (zs (svSd 40 3 TOp.row) gq33 gl32),.ss (zs sd0 (fun _=>[]) gl34),.sl gv35 40 3 (gl36.map TOp.row),.obj b40 [.int .i64 x39.Tx,.int .i64 x39.Kind,.int .i64 x39.Item] 40,.obj b1 [.slice none 0 0,.slice none 0 0,.slice none 0 0] 25,.os gc23]) (sI [1,2,3,5,0,4,6]) ?_)))
   obtain ⟨l41,l42,l43,l44,e45,h⟩:=bind4S h
   refine L.doesP (A:=[.obj b5 (List.flatten [[gv25],(zr svRow gq33 gl32).flatten,(zr (fzr B) (fun _=>[]) gl34).flatten,[gv35]]) 38,.ss (zs (svSd 40 3 TOp.row) gq33 gl32),.ss (zs sd0 (fun _=>[]) gl34),.sl gv35 40 3 (gl36.map TOp.row)]) (M:=[.obj b40 [.int .i64 x39.Tx,.int .i64 x39.Kind,.int .i64 x39.Item] 40,.obj b1 [.slice none 0 0,.slice none 0 0,.slice none 0 0] 25,.os gc23]) rfl en9 rfl (fun w' hw=>W9 gl26 gl32 gl34 gl36 x39 b5 gv25 gq27 gq33 gv35 (Kn K _) w' _ e45 _ (hK.knF hw rfl) hG28.tok hG30.tok hw.lend) ?_
   rintro _ _ ⟨c52,v46,q47,q50,v51,rfl,f48,f49,rfl⟩
   refine L.to (D:=Cls w [] [.obj b5 (List.flatten [[v46],(zr svRow q50 l42).flatten,(zr (fzr B) (fun _=>[]) l43).flatten,[v51]]) 38,.ss (zs (svSd 40 3 TOp.row) q50 l42),.ss (zs sd0 (fun _=>[]) l43),.sl v51 40 3 (l44.map TOp.row),.os c52,.obj b40 [.int .i64 x39.Tx,.int .i64 x39.Kind,.int .i64 x39.Item] 40,.obj b1 [.slice none 0 0,.slice none 0 0,.slice none 0 0] 25,.os gc23]) hI (L.osJoin (K:=K) (i:=4) rfl rfl rfl ?_)
   intro c53 mo54 mn55 ma56
   exact L.to (D:=Cls w [] [.obj b5 (List.flatten [[v46],(zr svRow q50 l42).flatten,(zr (fzr B) (fun _=>[]) l43).flatten,[v51]]) 38,.ss (zs (svSd 40 3 TOp.row) q50 l42),.ss (zs sd0 (fun _=>[]) l43),.sl v51 40 3 (l44.map TOp.row),.obj b40 [.int .i64 x39.Tx,.int .i64 x39.Kind,.int .i64 x39.Item] 40,.obj b1 [.slice none 0 0,.slice none 0 0,.slice none 0 0] 25,.os c53]) hI (L.nil (E.blockN (E.thenN (W.region (L.m (V:=fun x57=>.int .i64 x57) h rfl (Y.addM rfl rfl) (fun x57 ex57 h=>(L.r 1 rfl (L.nil (E.aJ ⟨c53,x57,v46,l41,q47,(),(),l42,q50,l43,v51,l44,rfl,rfl,(mn55 f48),(ma56 f49),by rw [hg2];exact h⟩ (sI [0,1,2,5,3,6]))))))))))
  exact ln (W.seq (W.condF rfl (W.exit (E.thenX (E.KLX (E.blockX (E.jJ ⟨gc23,gv25,gl26,gq27,(),(),gl32,gq33,gl34,gv35,gl36,rfl,rfl,hG28,hG30,h⟩ hI)))))))
 rintro _ _ ⟨gc1,gv2,gl3,gq4,gu6,gu8,gl9,gq10,gl11,gv12,gl13,rfl,rfl,hG5,hG7,h⟩
 rw [M4K1] at h
 refine sr (L.y rfl (Y.fieldP fd38_3 rfl) ?_)
 obtain ⟨_,en6,h⟩:=bind1S h
 obtain ⟨_,en6⟩:=arrN_some en6
 obtain ⟨_,en7,h⟩:=bind1S h
 obtain ⟨_,en7⟩:=arrN_some en7
 refine L.y rfl (Y.loadG (q:=0) (si:=3) (ps:=25) (j:=0) (X:=[gv12]) ag22 rfl rfl rfl rfl (sl1 (a:=1) (p:=24) rfl (sl1 (a:=12) (p:=12) (zrN (nn:=12) (k:=1) (fun _ _=>rfl) en6) (sl1 (a:=12) (p:=0) (zrN (nn:=12) (k:=1) (fun _ _=>rfl) en7) sl0))) rfl) (L.y rfl (Y.buildC (cells:=#[gv12,.slice none 0 0,.slice none 0 0]) rfl (fun w hw=>by rcases ((As.at_ (hw.get (i:=4) rfl))).shape with ⟨h0,_⟩ | ⟨_,_,h0,_,_⟩ <;> simp only [h0] <;> kernel_rfl)) (L.alloc rfl ze25 ?_))
 intro b8
 refine L.storeC (i:=0) sz25 rfl rfl rfl rfl (fun w hw=>(all1 (As.at_ (hw.get (i:=5) rfl)).one (all1 rfl (all1 rfl all0)))) rfl nb (ln (W.seqJ (fun gs D=>∃ gv14 gl15 gv16 gl17,gs=[(2,pt b1 0),(8,pt b8 0)]∧D=Cls w [] [.obj b8 [gv12,gv14,gv16] 25,.obj b1 [.slice none 0 0,.slice none 0 0,.slice none 0 0] 25,.sl gv12 40 3 (gl13.map TOp.row),.sl gv14 3 1 (gl15.map I),.sl gv16 3 1 (gl17.map I),.os gc1]∧M4K2 gl13 gl15 gl17=some r) ?_ ?_))
 ·refine sr (L.r 1 rfl (ln (W.block (W.nilSl 3 1 (W.nilSl 3 1 (W.loopJ (fun m gs D=>∃ gx18 gv19 gl20 gv21 gl22,gs=[(2,pt b1 0),(5,pt b5 0),(8,pt b8 0),(28,.int .i64 gx18)]∧D=Cls w [] [.obj b8 [gv12,gv19,gv21] 25,.obj b5 (List.flatten [[gv2],(zr svRow gq10 gl9).flatten,(zr (fzr B) (fun _=>[]) gl11).flatten,[gv12]]) 38,.ss (zs (svSd 40 3 TOp.row) gq10 gl9),.ss (zs sd0 (fun _=>[]) gl11),.obj b1 [.slice none 0 0,.slice none 0 0,.slice none 0 0] 25,.sl gv12 40 3 (gl13.map TOp.row),.sl gv19 3 1 (gl20.map I),.sl gv21 3 1 (gl22.map I),.os gc1]∧M4L1 gl11 gl9 gl13 m gx18 gl20 gl22=some r) ⟨0,.slice none 0 0,[],.slice none 0 0,[],rfl,rfl,h⟩ ⟨rfl,rfl,rfl,rfl,trivial⟩ (sI [2,3,4,5,6,7,1,0,8]) ?_))))))
  rintro m _ _ ⟨gx18,gv19,gl20,gv21,gl22,rfl,rfl,h⟩
  rcases m with _ | m
  ·rw [M4L1] at h;cases h
  rw [M4L1] at h
  generalize hg1:M4L1 gl11 gl9 gl13 m=go1 at h
  rw [M4L1B] at h
  refine sr (L.ite h rfl (Y.lss rfl rfl) (fun c18 h=>?_) (fun c18 h=>?_))
  ·refine ln (W.seq (W.condT rfl (W.skip (E.thenN (W.seq (W.block (sr (L.r 2 rfl (ln (W.seq ?_))))))))))
   refine sr (L.r 1 rfl (L.y rfl (Y.fieldP fd38_2 rfl) (L.m (V:=fun _=>pt b5 (13+gx18.toNat*1)) h rfl (Y.indexAS (l:=gl11) Tryz.underlying36 sz4 rfl rfl) (fun x19 ex19 h=>(L.iteB h rfl (Y.loadZg (si:=2) (ps:=13) (q:=1) (row:=(fzr B)) (vs:=(fun _=>[])) (j:=0) (pv:=.bool x19) ag4 rfl rfl rfl rfl (sl1 (a:=1) (p:=12) rfl (sl1 (a:=12) (p:=0) (zrN (nn:=12) (k:=1) (fun _ _=>rfl) en6) sl0)) (fun _ _=>rfl) (idxA_idx ex19) rfl) (fun c20 h=>?_) (fun c20 h=>?_))))))
   ·refine ln (W.condT rfl (W.region (L.y rfl (Y.fieldP fd25_1 rfl) (L.y rfl (Y.loadP (i:=0) ag23 rfl rfl rfl) (L.r 1 rfl (L.litOne rfl Tryz.underlying23 eL3 rfl rfl ?_))))))
    intro b21
    refine L.appM (i:=7) (g:=I) (l:=gl20) (more:=[gx18]) h rfl Tryz.underlying23 eL3 rfl rfl rfl (fun w hw=>As.at_ (hw.get (i:=0) rfl)) (plain_ints _) rfl ?_
    intro v22 l23 el23 h
    refine L.y rfl (Y.fieldP fd25_1 rfl) (L.storeV (i:=2) sz23 rfl rfl (fun _ hw=>(As.at_ (hw.get (i:=0) rfl)).one) rfl nb (nsr (L.r 1 rfl (L.y rfl (Y.fieldP fd38_1 rfl) (L.m (V:=fun _=>pt b5 (1+gx18.toNat*1)) h rfl (Y.indexAS (l:=gl9) Tryz.underlying35 sz22 rfl rfl) (fun x24 ex24 h=>(L.y rfl (Y.loadZg (si:=1) (ps:=1) (q:=3) (row:=svRow) (vs:=gq10) (j:=0) (pv:=gv (gq10 gx18.toNat) 0) ag22 rfl rfl rfl rfl (sl1 (a:=1) (p:=0) rfl sl0) (fun _ _=>rfl) (idxA_idx ex24) rfl) (L.y rfl (Y.lenM (g:=TOp.row) (l:=x24) Tryz.underlying22 rfl (fun w hw=>As.atZ (sds:=(svSd 40 3 TOp.row)) (vs:=gq10) (j:=0) (c:=1) (hw.get (i:=4) rfl) (fun _ _=>rfl) (idxA_idx ex24) rfl)) (L.ite h rfl (Y.gtr rfl rfl) (fun c25 h=>?_) (fun c25 h=>?_))))))))))
    ·refine ln (W.condT rfl (W.region (L.y rfl (Y.fieldP fd25_2 rfl) (L.y rfl (Y.loadP (i:=2) ag23 rfl rfl rfl) (L.r 1 rfl (L.litOne rfl Tryz.underlying23 eL3 rfl rfl ?_))))))
     intro b26
     refine L.appM (i:=9) (g:=I) (l:=gl22) (more:=[gx18]) h rfl Tryz.underlying23 eL3 rfl rfl rfl (fun w hw=>As.at_ (hw.get (i:=0) rfl)) (plain_ints _) rfl ?_
     intro v27 l28 el28 h
     exact L.y rfl (Y.fieldP fd25_2 rfl) (L.storeV (i:=4) sz23 rfl rfl (fun _ hw=>(As.at_ (hw.get (i:=0) rfl)).one) rfl nb (L.nil (E.blockN (E.thenN (W.region (L.m (V:=fun x29=>.int .i64 x29) h rfl (Y.addM rfl rfl) (fun x29 ex29 h=>(L.r 1 rfl (L.nil (E.aJ ⟨x29,v22,l23,v27,l28,rfl,rfl,by rw [hg1];exact h⟩ (sI [4,5,6,7,8,9,2,0,10])))))))))))
    exact ln (W.condF rfl (W.skip (E.blockN (E.thenN (W.region (L.m (V:=fun x30=>.int .i64 x30) h rfl (Y.addM rfl rfl) (fun x30 ex30 h=>(L.r 1 rfl (L.nil (E.aJ ⟨x30,v22,l23,gv21,gl22,rfl,rfl,by rw [hg1];exact h⟩ (sI [2,3,4,5,6,7,0,8,9])))))))))))
   refine ln (W.condF rfl (W.skip (E.thenN (sr (L.r 1 rfl (L.y rfl (Y.fieldP fd38_1 rfl) (L.m (V:=fun _=>pt b5 (1+gx18.toNat*1)) h rfl (Y.indexAS (l:=gl9) Tryz.underlying35 sz22 rfl rfl) (fun x31 ex31 h=>(L.y rfl (Y.loadZg (si:=1) (ps:=1) (q:=1) (row:=svRow) (vs:=gq10) (j:=0) (pv:=gv (gq10 gx18.toNat) 0) ag22 rfl rfl rfl rfl (sl1 (a:=1) (p:=0) rfl sl0) (fun _ _=>rfl) (idxA_idx ex31) rfl) (L.y rfl (Y.lenM (g:=TOp.row) (l:=x31) Tryz.underlying22 rfl (fun w hw=>As.atZ (sds:=(svSd 40 3 TOp.row)) (vs:=gq10) (j:=0) (c:=1) (hw.get (i:=2) rfl) (fun _ _=>rfl) (idxA_idx ex31) rfl)) (L.ite h rfl (Y.gtr rfl rfl) (fun c32 h=>?_) (fun c32 h=>?_))))))))))))
   ·refine ln (W.condT rfl (W.region (L.y rfl (Y.fieldP fd25_2 rfl) (L.y rfl (Y.loadP (i:=0) ag23 rfl rfl rfl) (L.r 1 rfl (L.litOne rfl Tryz.underlying23 eL3 rfl rfl ?_))))))
    intro b33
    refine L.appM (i:=8) (g:=I) (l:=gl22) (more:=[gx18]) h rfl Tryz.underlying23 eL3 rfl rfl rfl (fun w hw=>As.at_ (hw.get (i:=0) rfl)) (plain_ints _) rfl ?_
    intro v34 l35 el35 h
    exact L.y rfl (Y.fieldP fd25_2 rfl) (L.storeV (i:=2) sz23 rfl rfl (fun _ hw=>(As.at_ (hw.get (i:=0) rfl)).one) rfl nb (L.nil (E.blockN (E.thenN (W.region (L.m (V:=fun x36=>.int .i64 x36) h rfl (Y.addM rfl rfl) (fun x36 ex36 h=>(L.r 1 rfl (L.nil (E.aJ ⟨x36,gv19,gl20,v34,l35,rfl,rfl,by rw [hg1];exact h⟩ (sI [2,3,4,5,6,7,8,0,9])))))))))))
   exact ln (W.condF rfl (W.skip (E.blockN (E.thenN (W.region (L.m (V:=fun x37=>.int .i64 x37) h rfl (Y.addM rfl rfl) (fun x37 ex37 h=>(L.r 1 rfl (L.nil (E.aJ ⟨x37,gv19,gl20,gv21,gl22,rfl,rfl,by rw [hg1];exact h⟩ hI))))))))))
  exact ln (W.seq (W.condF rfl (W.exit (E.thenX (E.KLX (E.blockX (E.jJ ⟨gv19,gl20,gv21,gl22,rfl,rfl,h⟩ (sI [0,4,5,6,7,8]))))))))
 rintro _ _ ⟨gv14,gl15,gv16,gl17,rfl,rfl,h⟩
 rw [M4K2] at h
 refine sr (L.y rfl (Y.loadPW (i:=0) ag25 sz25 rfl rfl rfl) (L.storeC (i:=1) sz25 rfl rfl rfl rfl (fun w hw=>(all1 (As.at_ (hw.get (i:=2) rfl)).one (all1 (As.at_ (hw.get (i:=3) rfl)).one (all1 (As.at_ (hw.get (i:=4) rfl)).one all0)))) rfl nb (L.r 1 rfl (ln (W.ret (E.frz (i:=2) rfl rfl rfl ?_))))))
 intro c9 mo10 hf11
 refine E.frz (i:=2) rfl rfl rfl ?_
 intro c12 mo13 hf14
 refine E.frz (i:=2) rfl rfl rfl ?_
 intro c15 mo16 hf17
 refine E.retR2 rfl (Rv.cellW (i:=1) ag25 sz25 rfl rfl rfl) (Rv.tmp rfl) (fun w1 hw=>?_)
 cases h
 exact ⟨_,_,rfl,⟨c15,rfl,gv12,gv14,gv16,rfl,(((hf11 K).mo mo13).mo mo16),((hf14 K).mo mo16),(hf17 K)⟩,hw.s [2]⟩
set_option maxRecDepth 100000 in
set_option maxHeartbeats 8000000 in
theorem W5 (a0:(List TOp)) (u0:Value) (w:World) (r:Int) (h:M5 a0=some r) (hA0:At w u0 3 (a0.map TOp.row)):Does Tryz.prog 5 [u0] w fun u m=>u=.int .i64 r∧m=[]:=by
 rw [M5] at h
 refine body (n:=73) Tryz.func5 rfl rfl rfl (Cls.refl w) (sr (L.r 1 rfl (ln (W.seqJ (fun gs D=>gs=[(0,u0)]∧D=Cls w [] []∧M5K1 a0=some r) ?_ ?_))))
 ·refine sr (L.r 1 rfl (L.y rfl (Y.lenM (g:=TOp.row) (l:=a0) Tryz.underlying22 rfl (fun w' hw=>hA0.cls0 hw)) (L.ite h rfl (Y.gtr rfl rfl) (fun c21 h=>?_) (fun c21 h=>?_))))
  ·refine ln (W.condT rfl (sr (L.r 1 rfl (ln (W.ret (E.KSR (E.ret1 rfl rfl (fun w1 hw=>?_))))))))
   cases h
   exact ⟨_,_,rfl,⟨rfl,rfl⟩,hw⟩
  exact ln (W.condF rfl (W.skip (E.jJ ⟨rfl,rfl,h⟩ hI)))
 rintro _ _ ⟨rfl,rfl,h⟩
 rw [M5K1] at h
 refine W.seqJ (fun gs D=>gs=[]∧D=Cls w [] []∧M5K2=some r) ?_ ?_
 ·refine sr (L.r 1 rfl (L.y rfl (Y.lenM (g:=TOp.row) (l:=a0) Tryz.underlying22 rfl (fun w' hw=>hA0.cls0 hw)) (L.r 1 rfl (ln (W.block (W.loopJ (fun m gs D=>∃ gx1,gs=[(0,u0),(10,u0),(11,.int .i64 (a0.length:Int)),(12,.int .i64 gx1)]∧D=Cls w [] []∧M5L1 a0 m gx1=some r) ⟨0,rfl,rfl,h⟩ ⟨rfl,rfl,rfl,rfl,trivial⟩ hI ?_))))))
  rintro m _ _ ⟨gx1,rfl,rfl,h⟩
  rcases m with _ | m
  ·rw [M5L1] at h;cases h
  rw [M5L1] at h
  generalize hg1:M5L1 a0 m=go1 at h
  rw [M5L1B] at h
  refine sr (L.ite h rfl (Y.lss rfl rfl) (fun c1 h=>?_) (fun c1 h=>?_))
  ·refine ln (W.seq (W.condT rfl (W.skip (E.thenN (W.seqJ (fun gs D=>gs=[(0,u0),(10,u0),(11,.int .i64 (a0.length:Int)),(12,.int .i64 gx1)]∧D=Cls w [] []∧M5K3 gx1 go1=some r) ?_ ?_)))))
   ·refine W.block (sr (L.r 1 rfl (L.m (V:=fun _=>el u0 (gx1.toNat*3)) h rfl (Y.indexM (g:=TOp.row) (l:=a0) Tryz.underlying22 sz40 rfl rfl (fun w' hw=>hA0.cls0 hw)) (fun x3 ex3 h=>(L.y rfl (Y.loadEN (r:=[.int .i64 x3.Tx,.int .i64 x3.Kind,.int .i64 x3.Item]) ag40 sz40 rfl (fun w' hw=>hA0.cls0 hw) (idx_map ex3) rfl) (L.alloc rfl ze40 ?_))))))
    intro b4
    refine L.r 1 rfl (L.store (i:=0) (vs:=[.int .i64 x3.Tx,.int .i64 x3.Kind,.int .i64 x3.Item]) sz40 rfl rfl rfl rfl (by simp [Value.oneCell',Value.cells,st,pt,el]) rfl nb (ln (W.seqJ (fun gs D=>gs=[(0,u0),(3,.int .i64 gx1),(4,pt b4 0),(10,u0),(11,.int .i64 (a0.length:Int)),(12,.int .i64 gx1)]∧D=Cls w [] [.obj b4 [.int .i64 x3.Tx,.int .i64 x3.Kind,.int .i64 x3.Item] 40]∧M5K4 x3 a0 gx1 go1=some r) ?_ ?_)))
    ·refine sr (L.cutJ 8 (fun gs D=>∃ gb5,gs=[(0,u0),(3,.int .i64 gx1),(4,pt b4 0),(10,u0),(11,.int .i64 (a0.length:Int)),(12,.int .i64 gx1),(24,.bool gb5)]∧D=Cls w [] [.obj b4 [.int .i64 x3.Tx,.int .i64 x3.Kind,.int .i64 x3.Item] 40]∧M5K8 x3 a0 gx1 go1 gb5=some r) ?_ ?_)
     ·refine L.y rfl (Y.fieldP fd40_0 rfl) (L.y rfl (Y.loadP (i:=0) ag3 rfl rfl rfl) (L.ite h rfl (Y.lss rfl rfl) (fun c19 h=>?_) (fun c19 h=>?_)))
      ·exact L.r 5 rfl (L.nil (E.jJ ⟨true,rfl,rfl,h⟩ hI))
      refine L.r 1 rfl (L.take rfl (L.y rfl (Y.fieldP fd40_0 rfl) (L.take rfl (L.y rfl (Y.loadP (i:=0) ag3 rfl rfl rfl) (L.take rfl (L.ite h rfl (Y.gtr rfl rfl) (fun c20 h=>?_) (fun c20 h=>?_)))))))
      ·exact L.r 1 rfl (L.nil (E.jJ ⟨true,rfl,rfl,h⟩ hI))
      exact L.r 1 rfl (L.nil (E.jJ ⟨false,rfl,rfl,h⟩ hI))
     rintro _ _ ⟨gb5,rfl,rfl,h⟩
     rw [M5K8] at h
     rcases gb5 with _ | _
     ·replace h:=iteF h
      refine L.r 1 rfl (L.take rfl (L.y rfl (Y.fieldP fd40_2 rfl) (L.take rfl (L.y rfl (Y.loadP (i:=0) ag3 rfl rfl rfl) (L.take rfl (L.ite h rfl (Y.lss rfl rfl) (fun c17 h=>?_) (fun c17 h=>?_)))))))
      ·refine L.r 6 rfl (ln (W.condT rfl (sr (L.r 1 rfl (ln (W.ret (E.KSR (E.blockR (E.KSR (E.KLR ?_))))))))))
       refine E.blockR (E.KSR (E.ret1 rfl rfl (fun w1 hw=>?_)))
       cases h
       exact ⟨_,_,rfl,⟨rfl,rfl⟩,hw.s []⟩
      refine L.r 2 rfl (L.take rfl (L.y rfl (Y.fieldP fd40_2 rfl) (L.take rfl (L.y rfl (Y.loadP (i:=0) ag3 rfl rfl rfl) (L.take rfl (L.ite h rfl (Y.gtr rfl rfl) (fun c18 h=>?_) (fun c18 h=>?_)))))))
      ·refine L.r 1 rfl (ln (W.condT rfl (sr (L.r 1 rfl (ln (W.ret (E.KSR (E.blockR (E.KSR (E.KLR ?_))))))))))
       refine E.blockR (E.KSR (E.ret1 rfl rfl (fun w1 hw=>?_)))
       cases h
       exact ⟨_,_,rfl,⟨rfl,rfl⟩,hw.s []⟩
      exact L.r 1 rfl (ln (W.condF rfl (W.skip (E.jJ ⟨rfl,rfl,h⟩ hI))))
     replace h:=iteT h
     refine L.r 10 rfl (ln (W.condT rfl (sr (L.r 1 rfl (ln (W.ret (E.KSR (E.blockR (E.KSR (E.KLR ?_))))))))))
     refine E.blockR (E.KSR (E.ret1 rfl rfl (fun w1 hw=>?_)))
     cases h
     exact ⟨_,_,rfl,⟨rfl,rfl⟩,hw.s []⟩
    rintro _ _ ⟨rfl,rfl,h⟩
    rw [M5K4] at h
    refine W.seqJ (fun gs D=>gs=[(0,u0),(3,.int .i64 gx1),(4,pt b4 0),(10,u0),(11,.int .i64 (a0.length:Int)),(12,.int .i64 gx1)]∧D=Cls w [] [.obj b4 [.int .i64 x3.Tx,.int .i64 x3.Kind,.int .i64 x3.Item] 40]∧M5K5 a0 gx1 x3 go1=some r) ?_ ?_
    ·refine sr (L.cutJ 8 (fun gs D=>∃ gb3,gs=[(0,u0),(3,.int .i64 gx1),(4,pt b4 0),(10,u0),(11,.int .i64 (a0.length:Int)),(12,.int .i64 gx1),(42,.bool gb3)]∧D=Cls w [] [.obj b4 [.int .i64 x3.Tx,.int .i64 x3.Kind,.int .i64 x3.Item] 40]∧M5K6 x3 a0 gx1 go1 gb3=some r) ?_ ?_)
     ·refine L.y rfl (Y.fieldP fd40_1 rfl) (L.y rfl (Y.loadP (i:=0) ag3 rfl rfl rfl) (L.ite h rfl (Y.lss rfl rfl) (fun c15 h=>?_) (fun c15 h=>?_)))
      ·exact L.r 5 rfl (L.nil (E.jJ ⟨true,rfl,rfl,h⟩ hI))
      refine L.r 1 rfl (L.take rfl (L.y rfl (Y.fieldP fd40_1 rfl) (L.take rfl (L.y rfl (Y.loadP (i:=0) ag3 rfl rfl rfl) (L.take rfl (L.ite h rfl (Y.gtr rfl rfl) (fun c16 h=>?_) (fun c16 h=>?_)))))))
      ·exact L.r 1 rfl (L.nil (E.jJ ⟨true,rfl,rfl,h⟩ hI))
      exact L.r 1 rfl (L.nil (E.jJ ⟨false,rfl,rfl,h⟩ hI))
     rintro _ _ ⟨gb3,rfl,rfl,h⟩
     rw [M5K6] at h
     rcases gb3 with _ | _
     ·replace h:=iteF h
      refine L.cutJ 9 (fun gs D=>∃ gb4,gs=[(0,u0),(3,.int .i64 gx1),(4,pt b4 0),(10,u0),(11,.int .i64 (a0.length:Int)),(12,.int .i64 gx1),(43,.bool false),(51,.bool gb4)]∧D=Cls w [] [.obj b4 [.int .i64 x3.Tx,.int .i64 x3.Kind,.int .i64 x3.Item] 40]∧M5K7 a0 gx1 x3 go1 gb4=some r) ?_ ?_
      ·refine L.r 1 rfl (L.take rfl (L.y rfl (Y.fieldP fd40_1 rfl) (L.take rfl (L.y rfl (Y.loadP (i:=0) ag3 rfl rfl rfl) (L.take rfl (L.ite h rfl (Y.gtr rfl rfl) (fun c13 h=>?_) (fun c13 h=>?_)))))))
       ·refine L.r 1 rfl (L.take rfl (L.y rfl (Y.fieldP fd40_2 rfl) (L.take rfl (L.y rfl (Y.loadP (i:=0) ag3 rfl rfl rfl) (L.take rfl (L.ite h rfl (Y.neq rfl rfl) (fun c14 h=>?_) (fun c14 h=>?_)))))))
        ·exact L.r 1 rfl (L.nil (E.jJ ⟨true,rfl,rfl,h⟩ hI))
        exact L.r 1 rfl (L.nil (E.jJ ⟨false,rfl,rfl,h⟩ hI))
       exact L.r 5 rfl (L.nil (E.jJ ⟨false,rfl,rfl,h⟩ hI))
      rintro _ _ ⟨gb4,rfl,rfl,h⟩
      rw [M5K7] at h
      rcases gb4 with _ | _
      ·replace h:=iteF h
       exact L.r 1 rfl (ln (W.condF rfl (W.skip (E.jJ ⟨rfl,rfl,h⟩ hI))))
      replace h:=iteT h
      refine L.r 1 rfl (ln (W.condT rfl (sr (L.r 1 rfl (ln (W.ret (E.KSR (E.blockR (E.KSR (E.KLR ?_))))))))))
      refine E.blockR (E.KSR (E.ret1 rfl rfl (fun w1 hw=>?_)))
      cases h
      exact ⟨_,_,rfl,⟨rfl,rfl⟩,hw.s []⟩
     replace h:=iteT h
     refine L.r 10 rfl (ln (W.condT rfl (sr (L.r 1 rfl (ln (W.ret (E.KSR (E.blockR (E.KSR (E.KLR ?_))))))))))
     refine E.blockR (E.KSR (E.ret1 rfl rfl (fun w1 hw=>?_)))
     cases h
     exact ⟨_,_,rfl,⟨rfl,rfl⟩,hw.s []⟩
    rintro _ _ ⟨rfl,rfl,h⟩
    rw [M5K5] at h
    refine sr (L.r 2 rfl (L.m (V:=fun _=>cutv u0 gx1.toNat) h rfl (Y.cutM (g:=TOp.row) Tryz.underlying22 sz40 rfl rfl (fun w' hw=>hA0.cls0 hw)) (fun l5 el5 h=>(L.y rfl (Y.lenM (g:=TOp.row) (l:=l5) Tryz.underlying22 rfl (fun w' hw=>(hA0.cutM el5).cls0 hw)) (L.r 1 rfl (ln (W.block (W.loopJ (fun m gs D=>∃ gx2,gs=[(0,u0),(4,pt b4 0),(10,u0),(11,.int .i64 (a0.length:Int)),(12,.int .i64 gx1),(55,cutv u0 gx1.toNat),(56,.int .i64 (l5.length:Int)),(57,.int .i64 gx2)]∧D=Cls w [] [.obj b4 [.int .i64 x3.Tx,.int .i64 x3.Kind,.int .i64 x3.Item] 40]∧M5L2 l5 x3 gx1 go1 m gx2=some r) ⟨0,rfl,rfl,h⟩ ⟨rfl,rfl,rfl,rfl,rfl,rfl,rfl,rfl,trivial⟩ hI ?_))))))))
    rintro m _ _ ⟨gx2,rfl,rfl,h⟩
    rcases m with _ | m
    ·rw [M5L2] at h;cases h
    rw [M5L2] at h
    generalize hg2:M5L2 l5 x3 gx1 go1 m=go2 at h
    rw [M5L2B] at h
    refine sr (L.ite h rfl (Y.lss rfl rfl) (fun c6 h=>?_) (fun c6 h=>?_))
    ·refine ln (W.seq (W.condT rfl (W.skip (E.thenN (W.seq (W.block (sr (L.m (V:=fun _=>el (cutv u0 gx1.toNat) (gx2.toNat*3)) h rfl (Y.indexM (g:=TOp.row) (l:=l5) Tryz.underlying22 sz40 rfl rfl (fun w' hw=>(hA0.cutM el5).cls0 hw)) (fun x7 ex7 h=>(L.y rfl (Y.loadEN (r:=[.int .i64 x7.Tx,.int .i64 x7.Kind,.int .i64 x7.Item]) ag40 sz40 rfl (fun w' hw=>(hA0.cutM el5).cls0 hw) (idx_map ex7) rfl) (L.alloc rfl ze40 ?_)))))))))))
     intro b8
     refine L.store (i:=0) (vs:=[.int .i64 x7.Tx,.int .i64 x7.Kind,.int .i64 x7.Item]) sz40 rfl rfl rfl rfl (by simp [Value.oneCell',Value.cells,st,pt,el]) rfl nb (nsr (L.y rfl (Y.fieldP fd40_0 rfl) (L.y rfl (Y.loadP (i:=0) ag3 rfl rfl rfl) (L.y rfl (Y.fieldP fd40_0 rfl) (L.y rfl (Y.loadP (i:=1) ag3 rfl rfl rfl) (L.ite h rfl (Y.eql rfl rfl) (fun c9 h=>?_) (fun c9 h=>?_)))))))
     ·refine L.r 1 rfl (L.take rfl (L.y rfl (Y.fieldP fd40_1 rfl) (L.take rfl (L.y rfl (Y.loadP (i:=0) ag3 rfl rfl rfl) (L.take rfl (L.ite h rfl (Y.gtr rfl rfl) (fun c10 h=>?_) (fun c10 h=>?_)))))))
      ·refine L.r 1 rfl (ln (W.condT rfl (sr (L.r 1 rfl (ln (W.ret (E.blockR (E.thenR (E.KLR (E.blockR ?_))))))))))
       refine E.blockR (E.KSR (E.KLR (E.blockR (E.KSR (E.ret1 rfl rfl (fun w1 hw=>?_))))))
       cases h
       exact ⟨_,_,rfl,⟨rfl,rfl⟩,hw.s []⟩
      exact L.r 1 rfl (ln (W.condF rfl (W.skip (E.blockN (E.thenN (W.region (L.m (V:=fun x11=>.int .i64 x11) h rfl (Y.addM rfl rfl) (fun x11 ex11 h=>(L.r 1 rfl (L.nil (E.aJ ⟨x11,rfl,rfl,by rw [hg2];exact h⟩ (sI [1]))))))))))))
     exact L.r 5 rfl (ln (W.condF rfl (W.skip (E.blockN (E.thenN (W.region (L.m (V:=fun x12=>.int .i64 x12) h rfl (Y.addM rfl rfl) (fun x12 ex12 h=>(L.r 1 rfl (L.nil (E.aJ ⟨x12,rfl,rfl,by rw [hg2];exact h⟩ (sI [1]))))))))))))
    exact ln (W.seq (W.condF rfl (W.exit (E.thenX (E.KLX (E.blockX (E.blockN (E.jJ ⟨rfl,rfl,h⟩ (sI [])))))))))
   rintro _ _ ⟨rfl,rfl,h⟩
   rw [M5K3] at h
   exact W.region (L.m (V:=fun x2=>.int .i64 x2) h rfl (Y.addM rfl rfl) (fun x2 ex2 h=>(L.r 1 rfl (L.nil (E.aJ ⟨x2,rfl,rfl,by rw [hg1];exact h⟩ hI)))))
  exact ln (W.seq (W.condF rfl (W.exit (E.thenX (E.KLX (E.blockX (E.joinJ ⟨rfl,rfl,h⟩ trivial hI)))))))
 rintro _ _ ⟨rfl,rfl,h⟩
 rw [M5K2] at h
 refine sr (L.r 1 rfl (ln (W.ret (E.ret1 rfl rfl (fun w1 hw=>?_)))))
 cases h
 exact ⟨_,_,rfl,⟨rfl,rfl⟩,hw⟩
set_option maxRecDepth 100000 in
set_option maxHeartbeats 8000000 in
theorem W10 (a0:(List TOp)) (a1:(List TOp)) (u0:Value) (u1:Value) (w:World) (r:Bool) (h:M10 a0 a1=some r) (hA0:At w u0 3 (a0.map TOp.row)) (hA1:At w u1 3 (a1.map TOp.row)):Does Tryz.prog 10 [u0,u1] w fun u m=>u=.bool r∧m=[]:=by
 rw [M10] at h
 refine body (n:=26) Tryz.func10 rfl rfl rfl (Cls.refl w) (sr (L.r 1 rfl (ln (W.seqJ (fun gs D=>gs=[(0,u0),(1,u1)]∧D=Cls w [] []∧M10K1 a0 a1=some r) ?_ ?_))))
 ·refine sr (L.r 1 rfl (L.y rfl (Y.lenM (g:=TOp.row) (l:=a0) Tryz.underlying22 rfl (fun w' hw=>hA0.cls0 hw)) (L.r 1 rfl (L.y rfl (Y.lenM (g:=TOp.row) (l:=a1) Tryz.underlying22 rfl (fun w' hw=>hA1.cls0 hw)) (L.ite h rfl (Y.neq rfl rfl) (fun c6 h=>?_) (fun c6 h=>?_))))))
  ·refine ln (W.condT rfl (sr (L.r 1 rfl (ln (W.ret (E.KSR (E.ret1 rfl rfl (fun w1 hw=>?_))))))))
   cases h
   exact ⟨_,_,rfl,⟨rfl,rfl⟩,hw⟩
  exact ln (W.condF rfl (W.skip (E.jJ ⟨rfl,rfl,h⟩ hI)))
 rintro _ _ ⟨rfl,rfl,h⟩
 rw [M10K1] at h
 refine W.seqJ (fun gs D=>gs=[]∧D=Cls w [] []∧M10K2=some r) ?_ ?_
 ·refine sr (L.r 1 rfl (L.y rfl (Y.lenM (g:=TOp.row) (l:=a0) Tryz.underlying22 rfl (fun w' hw=>hA0.cls0 hw)) (L.r 1 rfl (ln (W.block (W.loopJ (fun m gs D=>∃ gx1,gs=[(0,u0),(1,u1),(12,.int .i64 (a0.length:Int)),(13,.int .i64 gx1)]∧D=Cls w [] []∧M10L1 a0 a1 m gx1=some r) ⟨0,rfl,rfl,h⟩ ⟨rfl,rfl,rfl,rfl,trivial⟩ hI ?_))))))
  rintro m _ _ ⟨gx1,rfl,rfl,h⟩
  rcases m with _ | m
  ·rw [M10L1] at h;cases h
  rw [M10L1] at h
  generalize hg1:M10L1 a0 a1 m=go1 at h
  rw [M10L1B] at h
  refine sr (L.ite h rfl (Y.lss rfl rfl) (fun c1 h=>?_) (fun c1 h=>?_))
  ·refine ln (W.seq (W.condT rfl (W.skip (E.thenN (W.seq (W.block (sr (L.r 2 rfl (ln (W.seq ?_))))))))))
   refine W.quietC mixed (by kernel_rfl) (fun _ hw=>hw.drew) (fun hC=>(U.r 2 rfl (U.m (V:=fun _=>el u0 (gx1.toNat*3)) h rfl (Y.indexM (g:=TOp.row) (l:=a0) Tryz.underlying22 sz40 rfl rfl (fun w' hw=>hA0.cls0 hw)) (fun x2 ex2 h=>(U.y rfl (Y.loadEN (r:=[.int .i64 x2.Tx,.int .i64 x2.Kind,.int .i64 x2.Item]) ag40 sz40 rfl (fun w' hw=>hA0.cls0 hw) (idx_map ex2) rfl) (U.r 2 rfl (U.m (V:=fun _=>el u1 (gx1.toNat*3)) h rfl (Y.indexM (g:=TOp.row) (l:=a1) Tryz.underlying22 sz40 rfl rfl (fun w' hw=>hA1.cls0 hw)) (fun x3 ex3 h=>(U.y rfl (Y.loadEN (r:=[.int .i64 x3.Tx,.int .i64 x3.Kind,.int .i64 x3.Item]) ag40 sz40 rfl (fun w' hw=>hA1.cls0 hw) (idx_map ex3) rfl) (U.ite h rfl (Y.neqA (row:=TOp.row) (a:=x2) (b:=x3) eg40 ag40 (sh40 _) (sh40 _) (inj40 _ _) rfl rfl) (fun c4 h=>?_) (fun c4 h=>?_)))))))))))
   ·refine U.nil (E.thenN (W.condT rfl (sr (L.r 1 rfl (ln (W.ret (E.blockR (E.thenR (E.KLR (E.blockR (E.KSR ?_)))))))))))
    refine E.ret1 rfl rfl (fun w1 hw=>?_)
    cases h
    exact ⟨_,_,rfl,⟨rfl,rfl⟩,hw⟩
   exact U.nil (E.thenN (W.condF rfl (W.skip (E.blockN (E.thenN (W.region (L.m (V:=fun x5=>.int .i64 x5) h rfl (Y.addM rfl rfl) (fun x5 ex5 h=>(L.r 1 rfl (L.nil (E.aJ ⟨x5,rfl,rfl,by rw [hg1];exact h⟩ hI)))))))))))
  exact ln (W.seq (W.condF rfl (W.exit (E.thenX (E.KLX (E.blockX (E.joinJ ⟨rfl,rfl,h⟩ trivial hI)))))))
 rintro _ _ ⟨rfl,rfl,h⟩
 rw [M10K2] at h
 refine sr (L.r 1 rfl (ln (W.ret (E.ret1 rfl rfl (fun w1 hw=>?_)))))
 cases h
 exact ⟨_,_,rfl,⟨rfl,rfl⟩,hw⟩
set_option maxRecDepth 100000 in
set_option maxHeartbeats 8000000 in
theorem W11 (a0:(List Int)) (a1:(List Int)) (u0:Value) (u1:Value) (w:World) (r:Bool) (h:M11 a0 a1=some r) (hA0:At w u0 1 (a0.map I)) (hA1:At w u1 1 (a1.map I)):Does Tryz.prog 11 [u0,u1] w fun u m=>u=.bool r∧m=[]:=by
 rw [M11] at h
 refine body (n:=26) Tryz.func11 rfl rfl rfl (Cls.refl w) (sr (L.r 1 rfl (ln (W.seqJ (fun gs D=>gs=[(0,u0),(1,u1)]∧D=Cls w [] []∧M11K1 a0 a1=some r) ?_ ?_))))
 ·refine sr (L.r 1 rfl (L.y rfl (Y.lenM (g:=I) (l:=a0) Tryz.underlying23 rfl (fun w' hw=>hA0.cls0 hw)) (L.r 1 rfl (L.y rfl (Y.lenM (g:=I) (l:=a1) Tryz.underlying23 rfl (fun w' hw=>hA1.cls0 hw)) (L.ite h rfl (Y.neq rfl rfl) (fun c6 h=>?_) (fun c6 h=>?_))))))
  ·refine ln (W.condT rfl (sr (L.r 1 rfl (ln (W.ret (E.KSR (E.ret1 rfl rfl (fun w1 hw=>?_))))))))
   cases h
   exact ⟨_,_,rfl,⟨rfl,rfl⟩,hw⟩
  exact ln (W.condF rfl (W.skip (E.jJ ⟨rfl,rfl,h⟩ hI)))
 rintro _ _ ⟨rfl,rfl,h⟩
 rw [M11K1] at h
 refine W.seqJ (fun gs D=>gs=[]∧D=Cls w [] []∧M11K2=some r) ?_ ?_
 ·refine sr (L.r 1 rfl (L.y rfl (Y.lenM (g:=I) (l:=a0) Tryz.underlying23 rfl (fun w' hw=>hA0.cls0 hw)) (L.r 1 rfl (ln (W.block (W.loopJ (fun m gs D=>∃ gx1,gs=[(0,u0),(1,u1),(12,.int .i64 (a0.length:Int)),(13,.int .i64 gx1)]∧D=Cls w [] []∧M11L1 a0 a1 m gx1=some r) ⟨0,rfl,rfl,h⟩ ⟨rfl,rfl,rfl,rfl,trivial⟩ hI ?_))))))
  rintro m _ _ ⟨gx1,rfl,rfl,h⟩
  rcases m with _ | m
  ·rw [M11L1] at h;cases h
  rw [M11L1] at h
  generalize hg1:M11L1 a0 a1 m=go1 at h
  rw [M11L1B] at h
  refine sr (L.ite h rfl (Y.lss rfl rfl) (fun c1 h=>?_) (fun c1 h=>?_))
  ·refine ln (W.seq (W.condT rfl (W.skip (E.thenN (W.seq (W.block (sr (L.r 2 rfl (ln (W.seq ?_))))))))))
   refine W.quietC mixed (by kernel_rfl) (fun _ hw=>hw.drew) (fun hC=>(U.r 2 rfl (U.m (V:=fun _=>el u0 (gx1.toNat*1)) h rfl (Y.indexM (g:=I) (l:=a0) Tryz.underlying23 sz3 rfl rfl (fun w' hw=>hA0.cls0 hw)) (fun x2 ex2 h=>(U.y rfl (Y.loadE1 (u:=.int .i64 x2) ag3 rfl (fun w' hw=>hA0.cls0 hw) (idx_map ex2)) (U.r 2 rfl (U.m (V:=fun _=>el u1 (gx1.toNat*1)) h rfl (Y.indexM (g:=I) (l:=a1) Tryz.underlying23 sz3 rfl rfl (fun w' hw=>hA1.cls0 hw)) (fun x3 ex3 h=>(U.y rfl (Y.loadE1 (u:=.int .i64 x3) ag3 rfl (fun w' hw=>hA1.cls0 hw) (idx_map ex3)) (U.ite h rfl (Y.neq rfl rfl) (fun c4 h=>?_) (fun c4 h=>?_)))))))))))
   ·refine U.nil (E.thenN (W.condT rfl (sr (L.r 1 rfl (ln (W.ret (E.blockR (E.thenR (E.KLR (E.blockR (E.KSR ?_)))))))))))
    refine E.ret1 rfl rfl (fun w1 hw=>?_)
    cases h
    exact ⟨_,_,rfl,⟨rfl,rfl⟩,hw⟩
   exact U.nil (E.thenN (W.condF rfl (W.skip (E.blockN (E.thenN (W.region (L.m (V:=fun x5=>.int .i64 x5) h rfl (Y.addM rfl rfl) (fun x5 ex5 h=>(L.r 1 rfl (L.nil (E.aJ ⟨x5,rfl,rfl,by rw [hg1];exact h⟩ hI)))))))))))
  exact ln (W.seq (W.condF rfl (W.exit (E.thenX (E.KLX (E.blockX (E.joinJ ⟨rfl,rfl,h⟩ trivial hI)))))))
 rintro _ _ ⟨rfl,rfl,h⟩
 rw [M11K2] at h
 refine sr (L.r 1 rfl (ln (W.ret (E.ret1 rfl rfl (fun w1 hw=>?_)))))
 cases h
 exact ⟨_,_,rfl,⟨rfl,rfl⟩,hw⟩
set_option maxRecDepth 100000 in
set_option maxHeartbeats 8000000 in
theorem W6 (a0:TPlayed) (a1:TPlayed) (u0_0:Value) (u0_1:Value) (u0_2:Value) (u1_3:Value) (u1_4:Value) (u1_5:Value) (w:World) (r:Bool) (h:M6 a0 a1=some r) (hA0_0:At w u0_0 3 (a0.Run.map TOp.row)) (hA0_1:At w u0_1 1 (a0.Dead.map I)) (hA0_2:At w u0_2 1 (a0.Late.map I)) (hA1_3:At w u1_3 3 (a1.Run.map TOp.row)) (hA1_4:At w u1_4 1 (a1.Dead.map I)) (hA1_5:At w u1_5 1 (a1.Late.map I)):Does Tryz.prog 6 [.agg #[u0_0,u0_1,u0_2],.agg #[u1_3,u1_4,u1_5]] w fun u m=>u=.bool r∧m=[]:=by
 rw [M6] at h
 refine body (n:=24) Tryz.func6 rfl rfl rfl (Cls.refl w) (sr (L.box rfl rfl ?_))
 intro b1
 refine L.box rfl rfl ?_
 intro b2
 refine L.r 1 rfl (nsr (L.cutJ 12 (fun gs D=>∃ gb1,gs=[(2,pt b1 0),(3,pt b2 0),(16,.bool gb1)]∧D=Cls w [] [.obj b2 [u1_3,u1_4,u1_5] 25,.obj b1 [u0_0,u0_1,u0_2] 25]∧M6K1 a0 a1 gb1=some r) ?_ ?_))
 ·refine L.y rfl (Y.fieldP fd25_0 rfl) (L.y rfl (Y.loadP (i:=1) ag22 rfl rfl rfl) (L.y rfl (Y.fieldP fd25_0 rfl) (L.y rfl (Y.loadP (i:=0) ag22 rfl rfl rfl) ?_)))
  obtain ⟨b5,e6,h⟩:=bind1S h
  refine L.y rfl (Y.does en10 rfl (fun w' hw=>(W10 a0.Run a1.Run u0_0 u1_3 w' _ e6 (hA0_0.cls0 hw) (hA1_3.cls0 hw)).mono (fun _ _ h=>h.1))) ?_
  rcases b5 with _ | _
  ·replace h:=iteF h
   exact L.r 7 rfl (L.nil (E.jJ ⟨false,rfl,rfl,h⟩ hI))
  replace h:=iteT h
  refine L.r 1 rfl (L.take rfl (L.y rfl (Y.fieldP fd25_1 rfl) (L.take rfl (L.y rfl (Y.loadP (i:=1) ag23 rfl rfl rfl) (L.take rfl (L.y rfl (Y.fieldP fd25_1 rfl) (L.take rfl (L.y rfl (Y.loadP (i:=0) ag23 rfl rfl rfl) (L.take rfl ?_)))))))))
  obtain ⟨b7,e8,h⟩:=bind1S h
  refine L.y rfl (Y.does en11 rfl (fun w' hw=>(W11 a0.Dead a1.Dead u0_1 u1_4 w' _ e8 (hA0_1.cls0 hw) (hA1_4.cls0 hw)).mono (fun _ _ h=>h.1))) ?_
  rcases b7 with _ | _
  ·replace h:=iteF h
   exact L.r 1 rfl (L.nil (E.jJ ⟨false,rfl,rfl,h⟩ hI))
  replace h:=iteT h
  exact L.r 1 rfl (L.nil (E.jJ ⟨true,rfl,rfl,h⟩ hI))
 rintro _ _ ⟨gb1,rfl,rfl,h⟩
 rw [M6K1] at h
 rcases gb1 with _ | _
 ·replace h:=iteF h
  refine L.r 8 rfl (ln (W.ret (E.ret1 rfl rfl (fun w1 hw=>?_))))
  cases h
  exact ⟨_,_,rfl,⟨rfl,rfl⟩,hw.s []⟩
 replace h:=iteT h
 refine L.r 1 rfl (L.take rfl (L.y rfl (Y.fieldP fd25_2 rfl) (L.take rfl (L.y rfl (Y.loadP (i:=1) ag23 rfl rfl rfl) (L.take rfl (L.y rfl (Y.fieldP fd25_2 rfl) (L.take rfl (L.y rfl (Y.loadP (i:=0) ag23 rfl rfl rfl) (L.take rfl ?_)))))))))
 obtain ⟨b3,e4,h⟩:=bind1S h
 refine L.y rfl (Y.does en11 rfl (fun w' hw=>(W11 a0.Late a1.Late u0_2 u1_5 w' _ e4 (hA0_2.cls0 hw) (hA1_5.cls0 hw)).mono (fun _ _ h=>h.1))) (L.r 2 rfl (ln (W.ret (E.ret1 rfl rfl (fun w1 hw=>?_)))))
 cases h
 exact ⟨_,_,rfl,⟨rfl,rfl⟩,hw.s []⟩
set_option maxRecDepth 100000 in
set_option maxHeartbeats 8000000 in
theorem W40 (a0:(List TL)) (a1:Int) (u0:Value) (w:World) (r:Int) (h:M40 a0 a1=some r) (hA0:At w u0 2 (a0.map TL.row)):Does Tryz.prog 40 [u0,.int .i64 a1] w fun u m=>u=.int .i64 r∧m=[]:=by
 rw [M40] at h
 refine body (n:=20) Tryz.func40 rfl rfl rfl (Cls.refl w) (sr (L.r 1 rfl (ln (W.seqJ (fun gs D=>gs=[]∧D=Cls w [] []∧M40K1=some r) ?_ ?_))))
 ·refine sr (L.r 1 rfl (L.y rfl (Y.lenM (g:=TL.row) (l:=a0) Tryz.underlying63 rfl (fun w' hw=>hA0.cls0 hw)) (L.r 1 rfl (ln (W.block (W.loopJ (fun m gs D=>∃ gx1,gs=[(1,.int .i64 a1),(7,u0),(8,.int .i64 (a0.length:Int)),(9,.int .i64 gx1)]∧D=Cls w [] []∧M40L1 a0 a1 m gx1=some r) ⟨0,rfl,rfl,h⟩ ⟨rfl,rfl,rfl,rfl,trivial⟩ hI ?_))))))
  rintro m _ _ ⟨gx1,rfl,rfl,h⟩
  rcases m with _ | m
  ·rw [M40L1] at h;cases h
  rw [M40L1] at h
  generalize hg1:M40L1 a0 a1 m=go1 at h
  rw [M40L1B] at h
  refine sr (L.ite h rfl (Y.lss rfl rfl) (fun c1 h=>?_) (fun c1 h=>?_))
  ·refine ln (W.seq (W.condT rfl (W.skip (E.thenN (W.seq (W.block (sr (L.m (V:=fun _=>el u0 (gx1.toNat*2)) h rfl (Y.indexM (g:=TL.row) (l:=a0) Tryz.underlying63 sz68 rfl rfl (fun w' hw=>hA0.cls0 hw)) (fun x2 ex2 h=>(L.y rfl (Y.loadEN (r:=[.int .i64 x2.Tx,.int .i64 x2.Mode]) ag68 sz68 rfl (fun w' hw=>hA0.cls0 hw) (idx_map ex2) rfl) (L.alloc rfl ze68 ?_)))))))))))
   intro b3
   refine L.store (i:=0) (vs:=[.int .i64 x2.Tx,.int .i64 x2.Mode]) sz68 rfl rfl rfl rfl (by simp [Value.oneCell',Value.cells,st,pt,el]) rfl nb (nsr (L.y rfl (Y.fieldP fd68_0 rfl) (L.y rfl (Y.loadP (i:=0) ag3 rfl rfl rfl) (L.r 1 rfl (L.ite h rfl (Y.eql rfl rfl) (fun c4 h=>?_) (fun c4 h=>?_))))))
   ·refine ln (W.condT rfl (sr (L.y rfl (Y.fieldP fd68_1 rfl) (L.y rfl (Y.loadP (i:=0) ag3 rfl rfl rfl) (L.r 1 rfl (ln (W.ret (E.blockR (E.thenR (E.KLR ?_))))))))))
    refine E.blockR (E.KSR (E.ret1 rfl rfl (fun w1 hw=>?_)))
    cases h
    exact ⟨_,_,rfl,⟨rfl,rfl⟩,hw.s []⟩
   exact ln (W.condF rfl (W.skip (E.blockN (E.thenN (W.region (L.m (V:=fun x5=>.int .i64 x5) h rfl (Y.addM rfl rfl) (fun x5 ex5 h=>(L.r 1 rfl (L.nil (E.aJ ⟨x5,rfl,rfl,by rw [hg1];exact h⟩ (sI [])))))))))))
  exact ln (W.seq (W.condF rfl (W.exit (E.thenX (E.KLX (E.blockX (E.joinJ ⟨rfl,rfl,h⟩ trivial hI)))))))
 rintro _ _ ⟨rfl,rfl,h⟩
 rw [M40K1] at h
 refine sr (L.r 1 rfl (ln (W.ret (E.ret1 rfl rfl (fun w1 hw=>?_)))))
 cases h
 exact ⟨_,_,rfl,⟨rfl,rfl⟩,hw⟩
set_option maxRecDepth 100000 in
set_option maxHeartbeats 8000000 in
theorem W49 (a0:Int) (a1:Int) (w:World) (r:Bool) (h:M49 a0 a1=some r):Does Tryz.prog 49 [.int .i64 a0,.int .i64 a1] w fun u m=>u=.bool r∧m=[]:=by
 rw [M49] at h
 refine body (n:=26) Tryz.func49 rfl rfl rfl (Cls.refl w) (sr (L.r 1 rfl (ln (W.seq (sr (L.r 2 rfl (L.y rfl (Y.min2 rfl rfl) (ln (W.block ?_)))))))))
 refine sr (L.ite h rfl (Y.eql rfl rfl) (fun c1 h=>?_) (fun c1 h=>?_))
 ·refine L.r 1 rfl (ln (W.condT rfl (sr (L.r 2 rfl (L.y rfl (Y.max2 rfl rfl) (L.y rfl (Y.neq rfl rfl) (L.r 1 rfl (ln (W.ret (E.blockR ?_))))))))))
  refine E.thenR (E.ret1 rfl rfl (fun w1 hw=>?_))
  cases h
  exact ⟨_,_,rfl,⟨rfl,rfl⟩,hw⟩
 refine L.r 1 rfl (ln (W.condF rfl (sr (L.ite h rfl (Y.eql rfl rfl) (fun c2 h=>?_) (fun c2 h=>?_)))))
 ·refine L.r 1 rfl (ln (W.condT rfl (sr (L.r 2 rfl (L.y rfl (Y.max2 rfl rfl) (L.y rfl (Y.eql rfl rfl) (L.r 1 rfl (ln (W.ret (E.blockR ?_))))))))))
  refine E.thenR (E.ret1 rfl rfl (fun w1 hw=>?_))
  cases h
  exact ⟨_,_,rfl,⟨rfl,rfl⟩,hw⟩
 refine L.r 1 rfl (ln (W.condF rfl (sr (L.ite h rfl (Y.eql rfl rfl) (fun c3 h=>?_) (fun c3 h=>?_)))))
 ·refine L.r 1 rfl (ln (W.condT rfl (sr (L.r 2 rfl (L.y rfl (Y.max2 rfl rfl) (L.y rfl (Y.eql rfl rfl) (L.r 1 rfl (ln (W.ret (E.blockR ?_))))))))))
  refine E.thenR (E.ret1 rfl rfl (fun w1 hw=>?_))
  cases h
  exact ⟨_,_,rfl,⟨rfl,rfl⟩,hw⟩
 refine L.r 1 rfl (ln (W.condF rfl (W.skip (E.blockN (E.thenN (sr (L.r 1 rfl (ln (W.ret (E.ret1 rfl rfl (fun w1 hw=>?_)))))))))))
 cases h
 exact ⟨_,_,rfl,⟨rfl,rfl⟩,hw⟩
set_option maxRecDepth 100000 in
set_option maxHeartbeats 8000000 in
theorem W73 (a0:Int) (a1:Int) (w:World) (r:Int) (h:M73 a0 a1=some r):Does Tryz.prog 73 [.int .i64 a0,.int .i64 a1] w fun u m=>u=.int .i64 r∧m=[]:=by
 rw [M73] at h
 refine body (n:=37) Tryz.func73 rfl rfl rfl (Cls.refl w) (sr (L.r 1 rfl (nsr (L.r 1 rfl (ln (W.seqJ (fun gs D=>∃ gx1,gs=[(5,.int .i64 gx1)]∧D=Cls w [] []∧M73K1 gx1=some r) ?_ ?_))))))
 ·refine sr (L.r 1 rfl (ln (W.block (W.loopJ (fun m gs D=>∃ gx3 gx4,gs=[(0,.int .i64 a0),(1,.int .i64 a1),(5,.int .i64 gx3),(6,.int .i64 gx4)]∧D=Cls w [] []∧M73L1 a0 a1 m gx3 gx4=some r) ⟨5,5,rfl,rfl,h⟩ ⟨rfl,rfl,rfl,rfl,trivial⟩ hI ?_))))
  rintro m _ _ ⟨gx3,gx4,rfl,rfl,h⟩
  rcases m with _ | m
  ·rw [M73L1] at h;cases h
  rw [M73L1] at h
  generalize hg1:M73L1 a0 a1 m=go1 at h
  rw [M73L1B] at h
  refine W.seqJ (fun gs D=>gs=[(0,.int .i64 a0),(1,.int .i64 a1),(5,.int .i64 gx3),(6,.int .i64 gx4)]∧D=Cls w [] []∧M73K2 gx4 a0 a1 go1 gx3=some r) ?_ ?_
  ·refine sr (L.r 1 rfl (L.ite h rfl (Y.geq rfl rfl) (fun c12 h=>?_) (fun c12 h=>?_)))
   ·exact ln (W.condT rfl (W.skip (E.jJ ⟨rfl,rfl,h⟩ hI)))
   exact ln (W.condF rfl (W.exit (E.KSX (E.KLX (E.blockX (E.jJ ⟨gx3,rfl,rfl,h⟩ hI))))))
  rintro _ _ ⟨rfl,rfl,h⟩
  rw [M73K2] at h
  refine W.seqJ (fun gs D=>∃ gx5,gs=[(0,.int .i64 a0),(1,.int .i64 a1),(5,.int .i64 gx5),(6,.int .i64 gx4)]∧D=Cls w [] []∧M73K3 gx4 go1 gx5=some r) ?_ ?_
  ·refine W.block (sr (L.r 1 rfl (ln (W.seqJ (fun gs D=>∃ gb6,gs=[(0,.int .i64 a0),(1,.int .i64 a1),(5,.int .i64 gx3),(6,.int .i64 gx4),(7,.bool gb6)]∧D=Cls w [] []∧M73K4 gx4 go1 gx3 gb6=some r) ?_ ?_))))
   ·refine sr (L.r 1 rfl (ln (W.block (W.loopJ (fun m gs D=>∃ gb7 gx8,gs=[(0,.int .i64 a0),(1,.int .i64 a1),(5,.int .i64 gx3),(6,.int .i64 gx4),(7,.bool gb7),(8,.int .i64 gx8)]∧D=Cls w [] []∧M73L2 gx4 a0 a1 go1 gx3 m gb7 gx8=some r) ⟨true,1,rfl,rfl,h⟩ ⟨rfl,rfl,rfl,rfl,rfl,rfl,trivial⟩ hI ?_))))
    rintro m _ _ ⟨gb7,gx8,rfl,rfl,h⟩
    rcases m with _ | m
    ·rw [M73L2] at h;cases h
    rw [M73L2] at h
    generalize hg2:M73L2 gx4 a0 a1 go1 gx3 m=go2 at h
    rw [M73L2B] at h
    refine W.seqJ (fun gs D=>gs=[(0,.int .i64 a0),(1,.int .i64 a1),(5,.int .i64 gx3),(6,.int .i64 gx4),(7,.bool gb7),(8,.int .i64 gx8)]∧D=Cls w [] []∧M73K5 gb7 gx4 gx8 a0 a1 go2=some r) ?_ ?_
    ·refine sr (L.r 1 rfl (L.ite h rfl (Y.leq rfl rfl) (fun c11 h=>?_) (fun c11 h=>?_)))
     ·exact ln (W.condT rfl (W.skip (E.jJ ⟨rfl,rfl,h⟩ hI)))
     exact ln (W.condF rfl (W.exit (E.KSX (E.KLX (E.blockX (E.jJ ⟨gb7,rfl,rfl,h⟩ hI))))))
    rintro _ _ ⟨rfl,rfl,h⟩
    rw [M73K5] at h
    refine W.seq (W.block (W.region (L.cutJ 17 (fun gs D=>∃ gb9,gs=[(0,.int .i64 a0),(1,.int .i64 a1),(5,.int .i64 gx3),(6,.int .i64 gx4),(8,.int .i64 gx8),(33,.bool gb9)]∧D=Cls w [] []∧M73K6 gx8 go2 gb9=some r) ?_ ?_)))
    ·refine L.iteB h rfl (Y.move rfl) (fun c4 h=>?_) (fun c4 h=>?_)
     ·refine L.r 3 rfl (L.take rfl ?_)
      obtain ⟨b5,e6,h⟩:=bind1S h
      refine L.y rfl (Y.does en49 rfl (fun w' hw=>(W49 gx4 gx8 w' _ e6).mono (fun _ _ h=>h.1))) ?_
      rcases b5 with _ | _
      ·replace h:=iteF h
       exact L.take rfl (L.y rfl (Y.not rfl) (L.r 11 rfl (L.nil (E.jJ ⟨true,rfl,rfl,h⟩ hI))))
      replace h:=iteT h
      refine L.take rfl (L.y rfl (Y.not rfl) (L.r 3 rfl (L.take rfl ?_)))
      obtain ⟨b7,e8,h⟩:=bind1S h
      refine L.y rfl (Y.does en49 rfl (fun w' hw=>(W49 a0 gx8 w' _ e8).mono (fun _ _ h=>h.1))) ?_
      rcases b7 with _ | _
      ·replace h:=iteF h
       exact L.r 7 rfl (L.nil (E.jJ ⟨false,rfl,rfl,h⟩ hI))
      replace h:=iteT h
      refine L.r 3 rfl (L.take rfl ?_)
      obtain ⟨b9,e10,h⟩:=bind1S h
      refine L.y rfl (Y.does en49 rfl (fun w' hw=>(W49 a1 gx8 w' _ e10).mono (fun _ _ h=>h.1))) ?_
      rcases b9 with _ | _
      ·replace h:=iteF h
       exact L.r 3 rfl (L.nil (E.jJ ⟨false,rfl,rfl,h⟩ hI))
      replace h:=iteT h
      exact L.r 3 rfl (L.nil (E.jJ ⟨true,rfl,rfl,h⟩ hI))
     exact L.r 16 rfl (L.nil (E.jJ ⟨false,rfl,rfl,h⟩ hI))
    rintro _ _ ⟨gb9,rfl,rfl,h⟩
    rw [M73K6] at h
    rcases gb9 with _ | _
    ·replace h:=iteF h
     exact L.r 1 rfl (L.nil (E.blockN (E.thenN (W.region (L.r 1 rfl (L.m (V:=fun x2=>.int .i64 x2) h rfl (Y.addM rfl rfl) (fun x2 ex2 h=>(L.r 1 rfl (L.nil (E.aJ ⟨false,x2,rfl,rfl,by rw [hg2];exact h⟩ hI))))))))))
    replace h:=iteT h
    exact L.r 1 rfl (L.nil (E.blockN (E.thenN (W.region (L.r 1 rfl (L.m (V:=fun x3=>.int .i64 x3) h rfl (Y.addM rfl rfl) (fun x3 ex3 h=>(L.r 1 rfl (L.nil (E.aJ ⟨true,x3,rfl,rfl,by rw [hg2];exact h⟩ hI))))))))))
   rintro _ _ ⟨gb6,rfl,rfl,h⟩
   rw [M73K4] at h
   rcases gb6 with _ | _
   ·replace h:=iteF h
    exact sr (L.r 1 rfl (ln (W.condF rfl (W.skip (E.blockN (E.jJ ⟨gx3,rfl,rfl,h⟩ hI))))))
   replace h:=iteT h
   exact sr (L.r 1 rfl (ln (W.condT rfl (W.region (L.r 2 rfl (L.nil (E.blockN (E.jJ ⟨gx4,rfl,rfl,h⟩ hI))))))))
  rintro _ _ ⟨gx5,rfl,rfl,h⟩
  rw [M73K3] at h
  exact W.region (L.r 1 rfl (L.m (V:=fun x1=>.int .i64 x1) h rfl (Y.subM rfl rfl) (fun x1 ex1 h=>(L.r 1 rfl (L.nil (E.aJ ⟨gx5,x1,rfl,rfl,by rw [hg1];exact h⟩ hI))))))
 rintro _ _ ⟨gx1,rfl,rfl,h⟩
 rw [M73K1] at h
 refine sr (L.r 2 rfl (ln (W.ret (E.ret1 rfl rfl (fun w1 hw=>?_)))))
 cases h
 exact ⟨_,_,rfl,⟨rfl,rfl⟩,hw⟩
set_option maxRecDepth 100000 in
set_option maxHeartbeats 8000000 in
theorem W50 (a0:TI) (a1:TL) (u0_0:Value) (u0_1:Value) (w:World) (r:Int) (h:M50 a0 a1=some r) (hA0_0:At w u0_0 2 (a0.Held.map TL.row)) (hA0_1:At w u0_1 2 (a0.Queue.map TL.row)):Does Tryz.prog 50 [.agg #[.int .i64 a0.Item,u0_0,u0_1],.agg #[.int .i64 a1.Tx,.int .i64 a1.Mode]] w fun u m=>u=.int .i64 r∧m=[]:=by
 rw [M50] at h
 refine body (n:=19) Tryz.func50 rfl rfl rfl (Cls.refl w) (sr (L.box rfl rfl ?_))
 intro b1
 refine L.box rfl rfl ?_
 intro b2
 refine L.r 1 rfl (ln (W.seq (sr (L.y rfl (Y.fieldP fd65_1 rfl) (L.y rfl (Y.loadP (i:=1) ag63 rfl rfl rfl) (L.y rfl (Y.fieldP fd68_0 rfl) (L.y rfl (Y.loadP (i:=0) ag3 rfl rfl rfl) ?_)))))))
 obtain ⟨x3,e4,h⟩:=bind1S h
 refine L.y rfl (Y.does en40 rfl (fun w' hw=>(W40 a0.Held a1.Tx u0_0 w' _ e4 (hA0_0.cls0 hw)).mono (fun _ _ h=>h.1))) (L.r 1 rfl (nsr (L.r 1 rfl (L.ite h rfl (Y.gtr rfl rfl) (fun c5 h=>?_) (fun c5 h=>?_)))))
 ·refine ln (W.condT rfl (sr (L.r 1 rfl (L.y rfl (Y.fieldP fd68_1 rfl) (L.y rfl (Y.loadP (i:=0) ag3 rfl rfl rfl) ?_)))))
  obtain ⟨x6,e7,h⟩:=bind1S h
  refine L.y rfl (Y.does en73 rfl (fun w' hw=>(W73 x3 a1.Mode w' _ e7).mono (fun _ _ h=>h.1))) (L.r 1 rfl (ln (W.ret (E.thenR (E.ret1 rfl rfl (fun w1 hw=>?_))))))
  cases h
  exact ⟨_,_,rfl,⟨rfl,rfl⟩,hw.s []⟩
 refine ln (W.condF rfl (W.skip (E.thenN (sr (L.y rfl (Y.fieldP fd68_1 rfl) (L.y rfl (Y.loadP (i:=0) ag3 rfl rfl rfl) (L.r 1 rfl (ln (W.ret (E.ret1 rfl rfl (fun w1 hw=>?_)))))))))))
 cases h
 exact ⟨_,_,rfl,⟨rfl,rfl⟩,hw.s []⟩
set_option maxRecDepth 100000 in
set_option maxHeartbeats 8000000 in
theorem W68 (a0:TI) (a1:TL) (u0_0:Value) (u0_1:Value) (w:World) (r:Bool) (h:M68 a0 a1=some r) (hA0_0:At w u0_0 2 (a0.Held.map TL.row)) (hA0_1:At w u0_1 2 (a0.Queue.map TL.row)):Does Tryz.prog 68 [.agg #[.int .i64 a0.Item,u0_0,u0_1],.agg #[.int .i64 a1.Tx,.int .i64 a1.Mode]] w fun u m=>u=.bool r∧m=[]:=by
 rw [M68] at h
 refine body (n:=29) Tryz.func68 rfl rfl rfl (Cls.refl w) (sr (L.box rfl rfl ?_))
 intro b1
 refine L.box rfl rfl ?_
 intro b2
 refine L.r 1 rfl (ln (W.seqJ (fun gs D=>gs=[]∧D=Cls w [] []∧M68K1=some r) ?_ ?_))
 ·refine sr (L.y rfl (Y.fieldP fd65_1 rfl) (L.y rfl (Y.loadP (i:=1) ag63 rfl rfl rfl) (L.y rfl (Y.lenM (g:=TL.row) (l:=a0.Held) Tryz.underlying63 rfl (fun w' hw=>hA0_0.cls0 hw)) (L.r 1 rfl (ln (W.block (W.loopJ (fun m gs D=>∃ gx1,gs=[(2,pt b1 0),(3,pt b2 0),(8,u0_0),(9,.int .i64 (a0.Held.length:Int)),(10,.int .i64 gx1)]∧D=Cls w [] [.obj b2 [.int .i64 a1.Tx,.int .i64 a1.Mode] 68,.obj b1 [.int .i64 a0.Item,u0_0,u0_1] 65]∧M68L1 a0 a1 m gx1=some r) ⟨0,rfl,rfl,h⟩ ⟨rfl,rfl,rfl,rfl,rfl,trivial⟩ hI ?_)))))))
  rintro m _ _ ⟨gx1,rfl,rfl,h⟩
  rcases m with _ | m
  ·rw [M68L1] at h;cases h
  rw [M68L1] at h
  generalize hg1:M68L1 a0 a1 m=go1 at h
  rw [M68L1B] at h
  refine sr (L.ite h rfl (Y.lss rfl rfl) (fun c3 h=>?_) (fun c3 h=>?_))
  ·refine ln (W.seq (W.condT rfl (W.skip (E.thenN (W.seq (W.block (sr (L.m (V:=fun _=>el u0_0 (gx1.toNat*2)) h rfl (Y.indexM (g:=TL.row) (l:=a0.Held) Tryz.underlying63 sz68 rfl rfl (fun w' hw=>hA0_0.cls0 hw)) (fun x4 ex4 h=>(L.y rfl (Y.loadEN (r:=[.int .i64 x4.Tx,.int .i64 x4.Mode]) ag68 sz68 rfl (fun w' hw=>hA0_0.cls0 hw) (idx_map ex4) rfl) (L.alloc rfl ze68 ?_)))))))))))
   intro b5
   refine L.store (i:=0) (vs:=[.int .i64 x4.Tx,.int .i64 x4.Mode]) sz68 rfl rfl rfl rfl (by simp [Value.oneCell',Value.cells,st,pt,el]) rfl nb (ln (W.seq (W.quietC mixed (by kernel_rfl) (fun _ hw=>hw.drew) (fun hC=>(U.y rfl (Y.fieldP fd68_0 rfl) (U.y rfl (Y.loadP (i:=0) ag3 rfl rfl rfl) (U.y rfl (Y.fieldP fd68_0 rfl) (U.y rfl (Y.loadP (i:=1) ag3 rfl rfl rfl) (U.ite h rfl (Y.neq rfl rfl) (fun c6 h=>?_) (fun c6 h=>?_))))))))))
   ·refine U.r 1 rfl (U.take rfl (U.y rfl (Y.loadPW (i:=2) ag65 sz65 rfl rfl rfl) (U.take rfl (U.y rfl (Y.loadPW (i:=1) ag68 sz68 rfl rfl rfl) (U.take rfl ?_)))))
    obtain ⟨x7,e8,h⟩:=bind1S h
    refine U.y rfl (Y.does en50 rfl (fun w' hw=>(W50 a0 a1 u0_0 u0_1 w' _ e8 (hA0_0.cls0 hw) (hA0_1.cls0 hw)).mono (fun _ _ h=>h.1))) (U.take rfl (U.y rfl (Y.fieldP fd68_1 rfl) (U.take rfl (U.y rfl (Y.loadP (i:=0) ag3 rfl rfl rfl) (U.take rfl ?_)))))
    obtain ⟨b9,e10,h⟩:=bind1S h
    refine U.y rfl (Y.does en49 rfl (fun w' hw=>(W49 x7 x4.Mode w' _ e10).mono (fun _ _ h=>h.1))) ?_
    rcases b9 with _ | _
    ·replace h:=iteF h
     refine U.take rfl (U.y rfl (Y.not rfl) (U.r 1 rfl (U.nil (E.thenN (W.condT rfl (sr (L.r 1 rfl (ln (W.ret (E.blockR (E.thenR ?_)))))))))))
     refine E.KLR (E.blockR (E.KSR (E.ret1 rfl rfl (fun w1 hw=>?_))))
     cases h
     exact ⟨_,_,rfl,⟨rfl,rfl⟩,hw.s []⟩
    replace h:=iteT h
    exact U.take rfl (U.y rfl (Y.not rfl) (U.r 1 rfl (U.nil (E.thenN (W.condF rfl (W.skip (E.blockN (E.thenN (W.region (L.m (V:=fun x11=>.int .i64 x11) h rfl (Y.addM rfl rfl) (fun x11 ex11 h=>(L.r 1 rfl (L.nil (E.aJ ⟨x11,rfl,rfl,by rw [hg1];exact h⟩ (sI [1,2])))))))))))))))
   exact U.r 9 rfl (U.nil (E.thenN (W.condF rfl (W.skip (E.blockN (E.thenN (W.region (L.m (V:=fun x12=>.int .i64 x12) h rfl (Y.addM rfl rfl) (fun x12 ex12 h=>(L.r 1 rfl (L.nil (E.aJ ⟨x12,rfl,rfl,by rw [hg1];exact h⟩ (sI [1,2])))))))))))))
  exact ln (W.seq (W.condF rfl (W.exit (E.thenX (E.KLX (E.blockX (E.joinJ ⟨rfl,rfl,h⟩ trivial (sI []))))))))
 rintro _ _ ⟨rfl,rfl,h⟩
 rw [M68K1] at h
 refine sr (L.r 1 rfl (ln (W.ret (E.ret1 rfl rfl (fun w1 hw=>?_)))))
 cases h
 exact ⟨_,_,rfl,⟨rfl,rfl⟩,hw⟩
set_option maxRecDepth 100000 in
set_option maxHeartbeats 8000000 in
theorem W69 (a0:TI) (a1:TL) (u0_0:Value) (u0_1:Value) (K:World→Prop) (w:World) (hK:StbF K w []) (r:TI) (h:M69 a0 a1=some r) (hA0_0:Fz K [] u0_0 2 (a0.Held.map TL.row)) (hA0_1:Fz K [] u0_1 2 (a0.Queue.map TL.row)):Does Tryz.prog 69 [.agg #[.int .i64 a0.Item,u0_0,u0_1],.agg #[.int .i64 a1.Tx,.int .i64 a1.Mode]] w fun u m=>∃ c,m=[.os c]∧∃ v0 v1,u=.agg #[.int .i64 r.Item,v0,v1]∧Fz K c v0 2 (r.Held.map TL.row)∧Fz K c v1 2 (r.Queue.map TL.row):=by
 rw [M69] at h
 refine body (n:=54) Tryz.func69 rfl rfl rfl (Cls.reflF w) (sr (L.box rfl rfl ?_))
 intro b1
 refine L.box rfl rfl ?_
 intro b2
 refine L.alloc rfl ze65 ?_
 intro b3
 refine nsr (L.y rfl (Y.loadPW (i:=2) ag65 sz65 rfl rfl rfl) (L.y rfl (Y.loadPW (i:=1) ag68 sz68 rfl rfl rfl) ?_))
 obtain ⟨x4,e5,h⟩:=bind1S h
 refine L.y rfl (Y.does en50 rfl (fun w' hw=>(W50 a0 a1 u0_0 u0_1 w' _ e5 (hA0_0.up.clsP hK hw rfl) (hA0_1.up.clsP hK hw rfl)).mono (fun _ _ h=>h.1))) (L.r 1 rfl (nsr (L.y rfl (Y.fieldP fd65_0 rfl) (L.y rfl (Y.loadP (i:=2) ag3 rfl rfl rfl) (L.y rfl (Y.fieldP fd65_2 rfl) (L.y rfl (Y.loadP (i:=2) ag63 rfl rfl rfl) (L.y rfl (Y.buildC (cells:=#[.int .i64 a0.Item,.slice none 0 0,u0_1]) rfl (fun w hw=>by rcases ((hA0_1.up.clsP hK hw rfl)).shape with ⟨h0,_⟩ | ⟨_,_,h0,_,_⟩ <;> simp only [h0] <;> kernel_rfl)) (L.alloc rfl ze65 ?_))))))))
 intro b6
 refine L.storeC (i:=0) sz65 rfl rfl rfl rfl (fun w hw=>(all1 rfl (all1 rfl (all1 (hA0_1.up.clsP hK hw rfl).one all0)))) rfl nb (ln (W.seqJ (fun gs D=>∃ gv1 gl2,gs=[(2,pt b1 0),(3,pt b2 0),(4,pt b3 0),(5,.int .i64 x4),(6,pt b6 0)]∧D=Cls w [] [.obj b6 [.int .i64 a0.Item,gv1,u0_1] 65,.obj b3 [.int .i64 0,.slice none 0 0,.slice none 0 0] 65,.obj b2 [.int .i64 a1.Tx,.int .i64 a1.Mode] 68,.obj b1 [.int .i64 a0.Item,u0_0,u0_1] 65,.sl gv1 68 2 (gl2.map TL.row),.os []]∧M69K1 a0 a1 x4 gl2=some r) ?_ ?_))
 ·refine sr (L.y rfl (Y.fieldP fd65_1 rfl) (L.y rfl (Y.loadP (i:=3) ag63 rfl rfl rfl) (L.y rfl (Y.lenM (g:=TL.row) (l:=a0.Held) Tryz.underlying63 rfl (fun w' hw=>(hA0_0.up.clsP hK hw rfl))) (L.r 1 rfl (ln (W.block (W.nilSl 68 2 (W.loopJ (fun m gs D=>∃ gx3 gv4 gl5,gs=[(2,pt b1 0),(3,pt b2 0),(4,pt b3 0),(5,.int .i64 x4),(6,pt b6 0),(18,u0_0),(19,.int .i64 (a0.Held.length:Int)),(20,.int .i64 gx3)]∧D=Cls w [] [.obj b6 [.int .i64 a0.Item,gv4,u0_1] 65,.obj b3 [.int .i64 0,.slice none 0 0,.slice none 0 0] 65,.obj b2 [.int .i64 a1.Tx,.int .i64 a1.Mode] 68,.obj b1 [.int .i64 a0.Item,u0_0,u0_1] 65,.sl gv4 68 2 (gl5.map TL.row),.os []]∧M69L1 a0 a1 x4 m gx3 gl5=some r) ⟨0,.slice none 0 0,[],rfl,rfl,h⟩ ⟨rfl,rfl,rfl,rfl,rfl,rfl,rfl,rfl,trivial⟩ (sI [1,2,3,4,0,5]) ?_))))))))
  rintro m _ _ ⟨gx3,gv4,gl5,rfl,rfl,h⟩
  rcases m with _ | m
  ·rw [M69L1] at h;cases h
  rw [M69L1] at h
  generalize hg1:M69L1 a0 a1 x4 m=go1 at h
  rw [M69L1B] at h
  refine sr (L.ite h rfl (Y.lss rfl rfl) (fun c19 h=>?_) (fun c19 h=>?_))
  ·refine ln (W.seq (W.condT rfl (W.skip (E.thenN (W.seq (W.block (sr (L.m (V:=fun _=>el u0_0 (gx3.toNat*2)) h rfl (Y.indexM (g:=TL.row) (l:=a0.Held) Tryz.underlying63 sz68 rfl rfl (fun w' hw=>(hA0_0.up.clsP hK hw rfl))) (fun x20 ex20 h=>(L.y rfl (Y.loadEN (r:=[.int .i64 x20.Tx,.int .i64 x20.Mode]) ag68 sz68 rfl (fun w' hw=>(hA0_0.up.clsP hK hw rfl)) (idx_map ex20) rfl) (L.alloc rfl ze68 ?_)))))))))))
   intro b21
   refine L.store (i:=0) (vs:=[.int .i64 x20.Tx,.int .i64 x20.Mode]) sz68 rfl rfl rfl rfl (by simp [Value.oneCell',Value.cells,st,pt,el]) rfl nb (ln (W.seqJ (fun gs D=>∃ gx6,gs=[(2,pt b1 0),(3,pt b2 0),(4,pt b3 0),(5,.int .i64 x4),(6,pt b6 0),(8,pt b21 0),(18,u0_0),(19,.int .i64 (a0.Held.length:Int)),(20,.int .i64 gx3)]∧D=Cls w [] [.obj b21 [.int .i64 x20.Tx,.int .i64 gx6] 68,.obj b6 [.int .i64 a0.Item,gv4,u0_1] 65,.obj b3 [.int .i64 0,.slice none 0 0,.slice none 0 0] 65,.obj b2 [.int .i64 a1.Tx,.int .i64 a1.Mode] 68,.obj b1 [.int .i64 a0.Item,u0_0,u0_1] 65,.sl gv4 68 2 (gl5.map TL.row),.os []]∧M69K2 gl5 x20 gx3 go1 gx6=some r) ?_ ?_))
   ·refine sr (L.y rfl (Y.fieldP fd68_0 rfl) (L.y rfl (Y.loadP (i:=0) ag3 rfl rfl rfl) (L.y rfl (Y.fieldP fd68_0 rfl) (L.y rfl (Y.loadP (i:=3) ag3 rfl rfl rfl) (L.ite h rfl (Y.eql rfl rfl) (fun c26 h=>?_) (fun c26 h=>?_))))))
    ·exact ln (W.condT rfl (W.region (L.r 1 rfl (L.y rfl (Y.fieldP fd68_1 rfl) (L.store (i:=0) (vs:=[.int .i64 x4]) sz3 rfl rfl rfl rfl (by simp [Value.oneCell',Value.cells,st,pt,el]) rfl nb (L.nil (E.jJ ⟨x4,rfl,rfl,h⟩ hI)))))))
    exact ln (W.condF rfl (W.skip (E.jJ ⟨x20.Mode,rfl,rfl,h⟩ hI)))
   rintro _ _ ⟨gx6,rfl,rfl,h⟩
   rw [M69K2] at h
   refine W.region (L.y rfl (Y.fieldP fd65_1 rfl) (L.y rfl (Y.loadP (i:=1) ag63 rfl rfl rfl) (L.y rfl (Y.loadPW (i:=0) ag68 sz68 rfl rfl rfl) (L.litAgg rfl Tryz.underlying63 eL68 rfl rfl rfl ?_))))
   intro b22
   refine L.appM (i:=6) (g:=TL.row) (l:=gl5) (more:=[(⟨x20.Tx,gx6⟩:TL)]) h rfl Tryz.underlying63 eL68 rfl rfl rfl (fun w hw=>As.at_ (hw.get (i:=0) rfl)) (plain_TLock _) rfl ?_
   intro v23 l24 el24 h
   exact L.y rfl (Y.fieldP fd65_1 rfl) (L.storeV (i:=3) sz63 rfl rfl (fun _ hw=>(As.at_ (hw.get (i:=0) rfl)).one) rfl nb (L.nil (E.blockN (E.thenN (W.region (L.m (V:=fun x25=>.int .i64 x25) h rfl (Y.addM rfl rfl) (fun x25 ex25 h=>(L.r 1 rfl (L.nil (E.aJ ⟨x25,v23,l24,rfl,rfl,by rw [hg1];exact h⟩ (sI [3,4,5,6,0,7])))))))))))
  exact ln (W.seq (W.condF rfl (W.exit (E.thenX (E.KLX (E.blockX (E.jJ ⟨gv4,gl5,rfl,rfl,h⟩ hI)))))))
 rintro _ _ ⟨gv1,gl2,rfl,rfl,h⟩
 rw [M69K1] at h
 refine W.seq (sr (L.y rfl (Y.fieldP fd65_1 rfl) (L.y rfl (Y.loadP (i:=3) ag63 rfl rfl rfl) (L.y rfl (Y.fieldP fd68_0 rfl) (L.y rfl (Y.loadP (i:=2) ag3 rfl rfl rfl) ?_)))))
 obtain ⟨x7,e8,h⟩:=bind1S h
 refine L.y rfl (Y.does en40 rfl (fun w' hw=>(W40 a0.Held a1.Tx u0_0 w' _ e8 (hA0_0.up.clsP hK hw rfl)).mono (fun _ _ h=>h.1))) (L.ite h rfl (Y.eql rfl rfl) (fun c9 h=>?_) (fun c9 h=>?_))
 ·refine ln (W.condT rfl (W.region (L.y rfl (Y.fieldP fd65_1 rfl) (L.y rfl (Y.loadP (i:=0) ag63 rfl rfl rfl) (L.y rfl (Y.fieldP fd68_0 rfl) (L.y rfl (Y.loadP (i:=2) ag3 rfl rfl rfl) (L.r 1 rfl (L.y rfl (Y.build (cells:=#[.int .i64 a1.Tx,.int .i64 x4]) rfl (by kernel_rfl)) (L.litAgg rfl Tryz.underlying63 eL68 rfl rfl rfl ?_)))))))))
  intro b10
  refine L.appM (i:=5) (g:=TL.row) (l:=gl2) (more:=[(⟨a1.Tx,x4⟩:TL)]) h rfl Tryz.underlying63 eL68 rfl rfl rfl (fun w hw=>As.at_ (hw.get (i:=0) rfl)) (plain_TLock _) rfl ?_
  intro v11 l12 el12 h
  refine L.y rfl (Y.fieldP fd65_1 rfl) (L.storeV (i:=2) sz63 rfl rfl (fun _ hw=>(As.at_ (hw.get (i:=0) rfl)).one) rfl nb (nsr (L.y rfl (Y.loadPW (i:=2) ag65 sz65 rfl rfl rfl) (L.storeC (i:=3) sz65 rfl rfl rfl rfl (fun w hw=>(all1 rfl (all1 (As.at_ (hw.get (i:=0) rfl)).one (all1 (hA0_1.up.clsP hK hw rfl).one all0)))) rfl nb (ln (W.ret (E.frz (i:=0) rfl rfl rfl ?_)))))))
  intro c13 mo14 hf15
  refine E.retR1 rfl (Rv.cellW (i:=2) ag65 sz65 rfl rfl rfl) (fun w1 hw=>?_)
  cases h
  exact ⟨_,_,rfl,⟨c13,rfl,v11,u0_1,rfl,(hf15 K),hA0_1.up⟩,hw.s [5]⟩
 refine ln (W.condF rfl (W.skip (E.thenN (sr (L.y rfl (Y.loadPW (i:=0) ag65 sz65 rfl rfl rfl) (L.storeC (i:=1) sz65 rfl rfl rfl rfl (fun w hw=>(all1 rfl (all1 (As.at_ (hw.get (i:=4) rfl)).one (all1 (hA0_1.up.clsP hK hw rfl).one all0)))) rfl nb (ln (W.ret (E.frz (i:=4) rfl rfl rfl ?_)))))))))
 intro c16 mo17 hf18
 refine E.retR1 rfl (Rv.cellW (i:=1) ag65 sz65 rfl rfl rfl) (fun w1 hw=>?_)
 cases h
 exact ⟨_,_,rfl,⟨c16,rfl,gv1,u0_1,rfl,(hf18 K),hA0_1.up⟩,hw.s [4]⟩
end Go.Proofs.YtlecphianicdhaaGreat
