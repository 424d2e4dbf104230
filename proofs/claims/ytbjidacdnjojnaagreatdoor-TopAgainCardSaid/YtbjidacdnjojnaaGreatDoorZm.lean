import Derived.Test.YtbjidacdnjojnaaGreatDoorZl
import Derived.Test.YtbjidacdnjojnaaGreatDoorZa
import Derived.SizedLaws
import Derived.Test.YtbjidacdnjojnaaGreatDoorRows
import Derived.Test.YtbjidacdnjojnaaGreatDoorChecked
import Derived.WalkKit
import Derived.ProofKit
import Derived.OpenShut
set_option linter.unusedVariables false
set_option linter.unusedSimpArgs false
section
namespace Go.Proofs.YtbjidacdnjojnaaGreatDoor
open Go.S
theorem qjJ (a:Int):∃ r,M8 a 4=some r∧0≤r∧r < 4:=by
 have h1:=Int.tmod_lt_of_pos a (show (0:Int) < 4 by decide)
 have h2 : -4 < a.tmod 4:=by
  have:=Int.lt_tmod_of_pos a (show (0:Int) < 4 by decide)
  omega
 have h3:=Int.tmod_lt_of_pos (a.tmod 4+4) (show (0:Int) < 4 by decide)
 have h4:=Int.tmod_nonneg 4 (show 0≤a.tmod 4+4 by omega)
 refine ⟨(a.tmod 4+4).tmod 4,?_,h4,h3⟩
 rw [M8,if_neg (by decide),qe2,if_pos (by decide),qa,qo (by omega) (by omega),qa,qe2,if_pos (by decide),qa]
theorem MOk.erase {m:Pairs} (h:MOk m) (j:Nat):MOk (m.eraseIdx j):=by
 have hs:=List.eraseIdx_sublist m j
 exact ⟨h.n.sublist (hs.map _),fun q hq=>h.k q (hs.subset hq)⟩
theorem vA:∀ (m:Pairs) (v:SS) (j:Nat) (x:Int×List UInt8),MOk m→m[j]?=some x→xf (v.set x.1.toNat x.2) (m.eraseIdx j)=xf v m
 | [],v,j,x,_,h=>by simp at h
 | q :: m,v,0,x,_,h=>by
  simp only [List.getElem?_cons_zero,Option.some.injEq] at h
  subst h
  rfl
 | q :: m,v,j+1,x,hm,h=>by
  simp only [List.getElem?_cons_succ] at h
  have hn:(q.1 :: m.map (·.1)).Nodup:=by simpa using hm.n
  have hm':MOk m:=⟨(List.nodup_cons.1 hn).2,fun r hr=>hm.k r (List.mem_cons_of_mem _ hr)⟩
  have hxm:=List.mem_of_getElem? h
  have hne:q.1≠x.1:=fun e=>(List.nodup_cons.1 hn).1 (by rw [e];exact List.mem_map.2 ⟨x,hxm,rfl⟩)
  have hq:=hm.k q List.mem_cons_self
  have hx:=hm'.k x hxm
  have ih:=vA m (v.set q.1.toNat q.2) j x hm' h
  show xf ((v.set x.1.toNat x.2).set q.1.toNat q.2) (m.eraseIdx j)=xf (v.set q.1.toNat q.2) m
  rw [List.set_comm _ _ (by omega)]
  exact ih
section
variable {N z:Nat} {p s a2:Int}
theorem qcT {sure:SS} (hz:z=N / 2) (hz2:2≤z) (hsl:sure.length=20) {c:Int} (hc:c≤100):∀ (r i:Nat),(i:Int)+r=c→∀ n,r < n→∀ D T G,qjx N z D T G p sure→s < T.length→qgk c p s sure n (i:Int) D T G=some true:=by
 intro r
 induction r with
 | zero =>
  intro i hi n hn D T G h hs
  obtain ⟨n,rfl⟩:=Nat.exists_eq_add_one.2 hn
  rw [qgk,qgj,if_neg (by omega),qjw]
 | succ r ih =>
  intro i hi n hn D T G h hs
  obtain ⟨n,rfl⟩:=Nat.exists_eq_add_one.2 (show 0 < n by omega)
  obtain ⟨D1,e1,h1⟩:=qiv h hz hz2 hsl []
  rw [qgk,qgj,if_pos (by omega),e1,qa,xn hs,qa]
  rcases h1 with ⟨D',G',g⟩ | ⟨D',S',G',g,gv,gg⟩
  ·rw [g,qN,if_pos rfl]
  ·rw [g,qN,if_neg (by decide),if_neg (by simp),if_neg (by omega),qs hsl,qa,gv,qa,qs hsl,qa,qa,if_neg (by simp),qR i (by omega),qa]
   exact ih (i+1) (by push_cast;omega) n (by omega) _ _ _ gg (by simp;omega)
theorem qeD {D:List TDisk} {T:List TStore} {G:List TLog} {X:List Ttx} {sure maybe_:SS} {f:Bool} {wrote:qaV} {i:Nat} (h:Inv N z D T G X p s sure wrote i) (hz:z=N / 2) (hz2:2≤z):qji a2 p s D T G X sure maybe_ f wrote=some true:=by
 obtain ⟨r,h1,h2,h3⟩:=qjJ a2
 rw [qji,h1,qa,qo (by omega) (by omega),qa]
 exact qcT hz hz2 h.sl (by omega) (1+r).toNat 0 (by simp;omega) big (by rw [qy];omega) D T G h.good h.sIn
abbrev Go2:=Int→List TDisk→List TStore→List TLog→List Ttx→SS→SS→Bool→qaV→Option Bool
section
variable {go:Go2} {D:List TDisk} {T:List TStore} {G:List TLog} {X:List Ttx} {sure maybe_:SS} {f:Bool} {wrote:qaV} {i:Nat}
theorem qbE {e:Int} {v:SS} (hi:i≤5000000000000) (hm:maybe_.length=20) (hv:v.length=20)
  (hgo:∀ mb fl,mb.length=20→go ((i+1:Nat):Int) D T G X (if e=0 then v else sure) mb fl wrote=some true) :
  qh4 e (i:Int) go D T G X wrote maybe_ f sure v=some true:=by
 have k10:∀ mb fl,mb.length=20→kn (i:Int) go e D T G X wrote (if e=0 then v else sure) mb fl=some true:=by
  intro mb fl h
  rw [kn,qbQ,qR i (by omega),qa]
  exact hgo mb fl h
 rw [qh4]
 by_cases c0:e=0
 ·rw [if_pos c0,qs hv,qa,qa]
  rw [if_pos c0] at k10
  exact k10 _ _ hm
 ·rw [if_neg c0] at k10
  rw [if_neg c0]
  have kk:=k10 _ f hm
  by_cases d1:e=12
  ·rw [if_pos d1];exact kk
  rw [if_neg d1]
  by_cases d2:e=6
  ·rw [if_pos d2];exact kk
  rw [if_neg d2]
  by_cases d3:e=8
  ·rw [if_pos d3];exact kk
  rw [if_neg d3]
  by_cases d4:e=2
  ·rw [if_pos d4];exact kk
  rw [if_neg d4]
  by_cases d5:e=1
  ·rw [if_pos d5];exact kk
  rw [if_neg d5,qs hm,qa]
  by_cases d6:f=true
  ·rw [if_pos d6];exact kk
  ·rw [if_neg d6,qs hv,qa,qa]
   exact k10 _ _ hv
theorem qfY {e:Int}:∀ (n:Nat) (m:Pairs) (v:SS),m.length < n→MOk m→v.length=20→qh4 e (i:Int) go D T G X wrote maybe_ f sure (xf v m)=some true→qgh e (i:Int) go D T G X wrote maybe_ f sure n m v=some true:=by
 intro n
 induction n with
 | zero=>intro m v h;exact absurd h (Nat.not_lt_zero _)
 | succ n ih =>
  intro m v hn hm hv hk
  rw [qgh,qh1]
  unfold qjn
  by_cases c:m=[]
  ·subst c
   rw [qhn]
   exact hk
  ·refine qiE c fun j x hx=>?_
   have hxm:=List.mem_of_getElem? hx
   obtain ⟨h0,h1⟩:=hm.k x hxm
   obtain ⟨y,hy1,hy2⟩:=jL hv h0 h1
   show (qb (ze 20 v x.1) fun _=>qb (upd v x.1 x.2) fun l171=>qgh e (i:Int) go D T G X wrote maybe_ f sure n (m.eraseIdx j) l171)=some true
   rw [hy1,qa,qu hy2,qa]
   have hj:=(List.getElem?_eq_some_iff.1 hx).1
   refine ih _ _ ?_ (hm.erase j) (by simpa using hv) (by rw [vA m v j x hm hx];exact hk)
   rw [List.length_eraseIdx_of_lt hj]
   omega
theorem qbD (x:TDeed) (h:Inv N z D T G X p s sure wrote i) (hi:i≤5000000000000) (hm:maybe_.length=20)
  (hgo:∀ D T G X sure mb fl wrote,Inv N z D T G X p s sure wrote (i+1)→mb.length=20→go ((i+1:Nat):Int) D T G X sure mb fl wrote=some true) (b:Bool) (hb:b=true↔x.Wish.Kind=1) :
  qin s x T X (i:Int) go D G sure maybe_ f wrote b=some true:=by
 have k3:∀ e t D T G X sure mb fl wrote,Inv N z D T G X p s sure wrote (i+1)→mb.length=20→qbQ (i:Int) go e t D T G X sure mb fl wrote=some true:=by
  intro e t D T G X sure mb fl wrote h1 h2
  rw [qbQ,qR i (by omega),qa]
  exact hgo _ _ _ _ _ _ _ _ h1 h2
 have k8:∀ b,qik s x D T X G sure wrote (i:Int) go maybe_ f b=some true:=by
  intro b
  rw [qik]
  cases b with
  | true =>
   rw [if_pos rfl]
   obtain ⟨D',T',X',G',e,g,g0,g1⟩:=qcL h hi x.Wish.Tx
   have hsl:=h.sl
   rw [g,qN,qs hsl,qa,qs (by simp),qa,qa]
   cases hw:qV wrote x.Wish.Tx with
   | none =>
    rw [qdI,qy,qh3,qh2]
    refine qbE hi hm hsl fun mb fl hmb=>?_
    by_cases c:e=0
    ·obtain ⟨m,hm',_⟩:=g0 c
     rw [hw] at hm';cases hm'
    ·rw [if_neg c];exact hgo _ _ _ _ _ _ _ _ (g1 c) hmb
   | some m =>
    have hmk:=h.wk _ m hw
    rw [qdH]
    refine qfY big m sure ?_ hmk hsl ?_
    ·have:=jr 20 (m.map (·.1)) hmk.n (fun y hy=>by
      obtain ⟨q,hq,rfl⟩:=List.mem_map.1 hy
      exact hmk.k q hq)
     rw [List.length_map] at this
     rw [qy];omega
    ·refine qbE hi hm (by rw [xI];exact hsl) fun mb fl hmb=>?_
     by_cases c:e=0
     ·obtain ⟨m',hm',hinv⟩:=g0 c
      rw [hw,Option.some.injEq] at hm'
      subst hm'
      rw [if_pos c];exact hgo _ _ _ _ _ _ _ _ hinv hmb
     ·rw [if_neg c];exact hgo _ _ _ _ _ _ _ _ (g1 c) hmb
  | false =>
   rw [if_neg (by simp)]
   split
   ·obtain ⟨T',e,g,g1⟩:=qd5 h x.Wish.Tx
    rw [g,qg]
    exact k3 _ _ _ _ _ _ _ _ _ _ g1 hm
   ·split
    ·obtain ⟨D',T',G',e,g,g1⟩:=qfB h
     rw [g,xb]
     exact k3 _ _ _ _ _ _ _ _ _ _ g1 hm
    ·rw [qjv]
     exact k3 _ _ _ _ _ _ _ _ _ _ h.more hm
 have k7:∀ b,qil s x T X wrote (i:Int) go D G sure maybe_ f b=some true:=by
  intro b
  rw [qil]
  cases b with
  | true =>
   rw [if_pos rfl]
   obtain ⟨X',e,g,g0,g1⟩:=qd3 h x.Wish.Tx x.Wish.Item x.Wish.Text
   rw [g,qg]
   by_cases c:e=0
   ·obtain ⟨m,hm',hinv⟩:=g0 c
    rw [if_pos c,hm',qa]
    exact k3 _ _ _ _ _ _ _ _ _ _ hinv hm
   ·rw [if_neg c]
    exact k3 _ _ _ _ _ _ _ _ _ _ (g1 c) hm
  | false =>
   rw [if_neg (by simp)]
   split <;> exact k8 _
 have k6:∀ b,qim s x T X (i:Int) go D G sure maybe_ f wrote b=some true:=by
  intro b
  rw [qim]
  cases b with
  | true =>
   rw [if_pos rfl]
   obtain ⟨X',t,e,g,g1⟩:=qfD h x.Wish.Tx x.Wish.Item
   rw [g,ql]
   exact k3 _ _ _ _ _ _ _ _ _ _ g1 hm
  | false =>
   rw [if_neg (by simp)]
   split <;> exact k7 _
 rw [qin]
 cases b with
 | true =>
  rw [if_pos rfl]
  obtain ⟨T',X',e,g,g0,g1⟩:=qd4 h x.Wish.Tx
  rw [g,ql]
  by_cases c:e=0
  ·rw [if_pos c];exact k3 _ _ _ _ _ _ _ _ _ _ (g0 c) hm
  ·rw [if_neg c];exact k3 _ _ _ _ _ _ _ _ _ _ (g1 c) hm
 | false =>
  rw [if_neg (by simp)]
  split <;> exact k6 _
end
theorem qaU (hz:z=N / 2) (hz2:2≤z) (l:List TDeed) (hl:l.length≤5000000000000):∀ (r i:Nat),i+r=l.length→∀ n,r < n→∀ D T G X sure mb f wrote,Inv N z D T G X p s sure wrote i→mb.length=20→qe5 l s a2 p n (i:Int) D T G X sure mb f wrote=some true:=by
 intro r
 induction r with
 | zero =>
  intro i hi n hn D T G X sure mb f wrote h hm
  obtain ⟨n,rfl⟩:=Nat.exists_eq_add_one.2 hn
  rw [qe5,qgi,if_neg (by omega)]
  exact qeD h hz hz2
 | succ r ih =>
  intro i hi n hn D T G X sure mb f wrote h hm
  obtain ⟨n,rfl⟩:=Nat.exists_eq_add_one.2 (show 0 < n by omega)
  have h1:i < l.length:=by omega
  have hgo:∀ D T G X sure mb fl wrote,Inv N z D T G X p s sure wrote (i+1)→mb.length=20→qe5 l s a2 p n ((i+1:Nat):Int) D T G X sure mb fl wrote=some true:=fun D T G X sure mb fl wrote h hm=>ih (i+1) (by omega) n (by omega) D T G X sure mb fl wrote h hm
  rw [qe5,qgi,if_pos (by omega),qM h1,qa]
  split
  ·split
   ·rename_i c
    exact qbD l[i] h (by omega) hm hgo true (by simp [c])
   ·rename_i c
    exact qbD l[i] h (by omega) hm hgo false (by simp [c])
  ·rw [qR i (by omega),qa]
   exact hgo _ _ _ _ _ _ _ _ h.more hm
end
theorem qcS (n:Int) (l:List TDeed) (times:Int) (hl:l.length≤5000000000000):M3 n l times=some true:=by
 obtain ⟨D,T,X,G,hw,a1,a2,a3⟩:=qe9
 rw [M3,hw,qN,if_pos rfl]
 rcases qdJ (X:=X) n a1 a2 a3 with ⟨l1,l2,l3,x,y,g⟩ | ⟨N,z,D',T',G',p,s,g,hz,hz2,h⟩
 ·rw [g,vU,if_neg (by simp)]
 ·rw [g,vU,if_pos rfl]
  exact qaU hz hz2 l hl l.length 0 (by omega) big (by rw [qy];omega) D' T' G' X _ _ false [] h (by simp)
end Go.Proofs.YtbjidacdnjojnaaGreatDoor
end
section
namespace Go.S
open Go.ChangeShapes Go.WideShapes Go.ChangeAt Go.RowKit
def Rz (P:Program) (w:World) (t:TypeId) (cs:List Value):Prop :=
 ∃ (H:Type) (enc:TypeId×Value→H) (fuel:Nat) (held:Bool) (base:Nat) (x:DataW H×List MemPlace),DataW.trod enc P w base (fun _=>true) held fuel t cs=some x∧∀ n∈x.1.weights P t,n≤reachBytes
section
variable {P:Program} {w:World} {t:TypeId} {cs:List Value}
theorem Rz.rd (h:Rz P w t cs):Rd P w t cs:=by
 obtain ⟨H,enc,fuel,held,base,x,h,_⟩:=h
 exact ⟨H,enc,fuel,held,base,x,h⟩
theorem Rz.of {H:Type} {enc:TypeId×Value→H} {v:Value} {d:DataW H} {ps:List MemPlace} {ts:List TypeId} {ds:List (DataW H)} (h:DataW.Trod enc P w 0 (fun _=>true) true t v d ps) (hz:(DataW.weightsEach P ts ds).all (·≤reachBytes)=true) (j:Nat) (ht:ts[j]?=some t) (hd:ds[j]?=some d):Rz P w t v.cells.toList:=by
 obtain ⟨fuel,hf⟩:=h
 refine ⟨H,enc,fuel,true,0,_,hf,fun n hn=>?_⟩
 have:=List.all_eq_true.1 hz n (DataW.weights_mem_each ht hd n hn)
 simpa using this
theorem kD {H:Type} {e:TypeId}:∀ {l:List (DataW H)} {d:DataW H},d∈l→∀ n∈d.weights P e,n∈DataW.weightsAll P e l
 | d0 :: l,d,h,n,hn=>by
  simp only [DataW.weightsAll,List.mem_append]
  rcases List.mem_cons.1 h with rfl | h
  ·exact Or.inl hn
  ·exact Or.inr (kD h n hn)
theorem Rz.str (ht:P.underlying t=some .string) (h:Rz P w t cs):∃ l,cs=[st l]∧l.length≤reachBytes:=by
 obtain ⟨H,enc,fuel,held,base,x,h,hz⟩:=h
 obtain ⟨s,h1,h2,_⟩:=DataW.trod_string ht h
 refine ⟨s.data.toList,by rw [h1];rfl,hz _ ?_⟩
 rw [h2]
 simp [DataW.weights]
theorem Rz.slice {e:TypeId} {k:Nat} (ht:P.underlying t=some (.slice e)) (hk:P.cellsOf e=k) (h:Rz P w t cs):∃ v rows,cs=[v]∧At w v k rows∧(∀ r∈rows,Rz P w e r)∧rows.length*P.bytesOf e≤reachBytes:=by
 subst hk
 obtain ⟨H,enc,fuel,held,base,x,h,hz⟩:=h
 rcases Go.Deep.open_slice ht h with ⟨rfl,_⟩ | ⟨a,len,cap,m,n,D,Pl,rfl,hb,hl,hm,hmm,hx,hi⟩
 ·exact ⟨_,[],rfl,At.nil w _,by simp,by simp⟩
 ·have hm':m=cap:=by simpa using hmm
  subst hm'
  rw [hx] at hz
  simp only [DataW.weights,ht] at hz
  have hrow:∀ i:Fin len,∃ cs',w.cells? base (a.add (i.val*P.cellsOf e)) (P.cellsOf e)=some cs'∧Rz P w e cs':=fun i=>by
   obtain ⟨cs',h1,h2⟩:=hi i.val (by omega)
   refine ⟨cs',h1,H,enc,n,held,base,_,h2,fun q hq=>hz q ?_⟩
   refine List.mem_cons_of_mem _ (List.mem_append_left _ (kD (d:=D i.val) ?_ q hq))
   exact List.mem_map.2 ⟨i.val,List.mem_range.2 i.isLt,rfl⟩
  let rows:=List.ofFn fun i:Fin len=>Classical.choose (hrow i)
  have hlen:rows.length=len:=List.length_ofFn
  have hget:∀ (i:Nat) (r:List Value),rows[i]?=some r→w.cells? base (a.add (i*P.cellsOf e)) (P.cellsOf e)=some r∧Rz P w e r:=by
   intro i r hr
   obtain ⟨hlt,he⟩:=List.getElem?_eq_some_iff.1 hr
   have hil:i < len:=by omega
   have hs:=Classical.choose_spec (hrow ⟨i,hil⟩)
   have:r=Classical.choose (hrow ⟨i,hil⟩):=by rw [← he];simp [rows]
   rw [this];exact hs
  refine ⟨_,rows,rfl,⟨.inr ⟨a,m,by rw [hlen],by omega,hm⟩,fun r hr=>?_,fun i r j x hr hx=>?_⟩,fun r hr=>?_,?_⟩
  ·obtain ⟨i,hi'⟩:=List.getElem?_of_mem hr
   exact (World.cells?_some (hget i r hi').1).2.1
  ·obtain ⟨_,h2,h3⟩:=World.cells?_some (hget i r hr).1
   have hj:=(List.getElem?_eq_some_iff.1 hx).1
   rw [← add_add]
   exact (h3 j (by omega)).trans hx
  ·obtain ⟨i,hi'⟩:=List.getElem?_of_mem hr
   exact (hget i r hi').2
  ·have:=hz _ (List.mem_cons_self ..)
   simp only [List.length_map,List.length_range] at this
   rw [hlen]
   refine Nat.le_trans (Nat.mul_le_mul_right _ ?_) this
   omega
theorem Rz.fld {fs:Array Field} (ht:P.underlying t=some (.struct fs)) (h:Rz P w t cs) (i:Nat) (u:TypeId) (o c:Nat) (hi:(fs[i]?).map (fun f=>(f.type,f.offset))=some (u,o)) (hc:P.cellsOf u=c):Rz P w u ((cs.drop o).take c):=by
 cases hf:fs[i]? with
 | none=>rw [hf] at hi;cases hi
 | some f =>
  rw [hf] at hi
  simp only [Option.map_some,Option.some.injEq,Prod.mk.injEq] at hi
  obtain ⟨rfl,rfl⟩:=hi
  subst hc
  obtain ⟨H,enc,fuel,held,base,x,h,hz⟩:=h
  obtain ⟨xs,n,_,hxx,hl,hx,hfs⟩:=DataW.trod_struct ht h
  have h1:=hfs i f hf
  have hil:i < xs.length:=by rw [hx];exact (Array.getElem?_eq_some_iff.1 hf).1
  rw [List.getElem?_eq_getElem hil] at h1
  refine ⟨H,enc,n,held,base,_,h1,fun q hq=>hz q ?_⟩
  rw [hxx]
  simp only [DataW.weights,ht]
  refine DataW.weights_mem_each (j:=i) (t:=f.type) (d:=xs[i].1) ?_ ?_ q hq
  ·rw [List.getElem?_map]
   simp [hf]
  ·rw [List.getElem?_map,List.getElem?_eq_getElem hil]
   rfl
end
end Go.S
end
section
namespace Go.Proofs.YtbjidacdnjojnaaGreatDoor.topAgain
open Go.ChangeShapes Go.WideShapes Go.ChangeAt Go.RowKit Go.Proofs.YtbjidacdnjojnaaGreatDoor
set_option maxRecDepth 100000
set_option maxHeartbeats 8000000
theorem j1:OpenClaim.wf (OpenSpec.ofChange Rows.topAgainSpec) Rows.topAgainRow=true:=by kernel_rfl
theorem j2:laidOutB Tryz.pinned.checked.prog=true:=by kernel_rfl
theorem j3:mapsRowed Tryz.pinned.checked.prog=true:=by kernel_rfl
theorem j4:(Tryz.f3.params.all fun x=>Tryz.pinned.checked.prog.readableRec x)=true:=by kernel_rfl
theorem j5:namedTie Tryz.pinned.checked.prog Rows.topAgainRow.named Rows.topAgainSpec.vars=true:=by kernel_rfl
theorem j6:(Rows.topAgainRow.stops == [])=true:=by kernel_rfl
theorem j7:(Tryz.pinned.checked.prog.stops == [])=true:=by kernel_rfl
theorem j8:(Rows.topAgainRow.knobs == [])=true:=by kernel_rfl
theorem j9:(Tryz.pinned.checked.prog.stopKnobs == [])=true:=by kernel_rfl
theorem j10:(Rows.topAgainRow.inPlace == Tryz.pinned.checked.prog.inPlace 3)=true:=by kernel_rfl
theorem j11:(Rows.topAgainRow.unfollowed == Tryz.pinned.checked.prog.unfollowed 3)=true:=by kernel_rfl
theorem j12:(Rows.topAgainRow.recurses == Tryz.pinned.checked.prog.recurses 3)=true:=by kernel_rfl
theorem j13:(Rows.topAgainRow.named == Tryz.pinned.checked.prog.varsNamed 3)=true:=by kernel_rfl
theorem j14:(Rows.topAgainRow.maps == (Tryz.f3.params.toList++Rows.topAgainSpec.plain.varTypes Tryz.pinned.checked.prog).any fun x=>Tryz.pinned.checked.prog.mapsRec x)=true:=by kernel_rfl
theorem j15:(Rows.topAgainRow.ifaces == (Tryz.f3.params.toList++Rows.topAgainSpec.plain.varTypes Tryz.pinned.checked.prog).any fun x=>Tryz.pinned.checked.prog.ifacesRec x)=true:=by kernel_rfl
theorem j16:(Rows.topAgainRow.mapsOut == Tryz.pinned.checked.prog.mapsAmong Tryz.f3.resultTypes.toList)=true:=by kernel_rfl
theorem j17:(Rows.topAgainRow.loops == (Tryz.f3.params.toList++Rows.topAgainSpec.plain.varTypes Tryz.pinned.checked.prog).any fun x=>Tryz.pinned.checked.prog.loopsFrom x)=true:=by kernel_rfl
theorem j18:(Rows.topAgainRow.wideKeys == (Tryz.f3.params.toList++Rows.topAgainSpec.plain.varTypes Tryz.pinned.checked.prog++Tryz.f3.resultTypes.toList).any fun x=>Tryz.pinned.checked.prog.wideKeysFrom x)=true:=by kernel_rfl
theorem j19:(Rows.topAgainSpec.vars.all fun x=>Tryz.pinned.checked.prog.varReadable x)=true:=by kernel_rfl
theorem j20:(Tryz.f3.resultTypes.all fun t=>Tryz.pinned.checked.prog.readableRec t && decide (t < Tryz.pinned.checked.prog.types.size))=true:=by kernel_rfl
theorem j21:(Rows.topAgainRow.ifacesOut == Tryz.f3.resultTypes.toList.any fun x=>Tryz.pinned.checked.prog.ifacesRec x)=true:=by kernel_rfl
theorem j22:(Rows.topAgainRow.loopsOut == Tryz.f3.resultTypes.toList.any fun x=>Tryz.pinned.checked.prog.loopsFrom x)=true:=by kernel_rfl
theorem j23:(Rows.topAgainRow.plainKeys == Tryz.pinned.checked.prog.plainKeys)=true:=by kernel_rfl
theorem j24:Rows.topAgainRow.shortTexts.isNone=true:=by kernel_rfl
theorem j25:Tryz.pinned.checked.prog.stopsHeard=true:=by kernel_rfl
theorem j26:Tryz.pinned.checked.prog.mayEnter=true:=by kernel_rfl
theorem j27:(Rows.topAgainRow.lifted == Tryz.pinned.checked.prog.liftsFinal)=true:=by kernel_rfl
theorem j28:(Tryz.pinned.checked.prog.make == some Rows.topAgainRow.make)=true:=by kernel_rfl
theorem j29:(Rows.topAgainRow.kinds == (if Rows.topAgainRow.domain.isEmpty then [] else Tryz.f3.params.toList.map fun t=>match Tryz.pinned.checked.prog.underlying t with | some (.int k)=>some k | _=>none))=true:=by kernel_rfl
theorem j30:(Rows.topAgainRow.pinned == Rows.topAgainRow.pinnedBy)=true:=by kernel_rfl
theorem j31:(Rows.topAgainRow.veiled == (Tryz.f3.params.toList++Rows.topAgainSpec.plain.varTypes Tryz.pinned.checked.prog++Tryz.f3.resultTypes.toList).any fun x=>Tryz.pinned.checked.prog.veiledRec x)=true:=by kernel_rfl
theorem j32:Rows.topAgainRow.veiledFits Tryz.pinned.checked.prog Tryz.f3.params.toList (Tryz.f3.params.toList++Rows.topAgainSpec.plain.varTypes Tryz.pinned.checked.prog++Tryz.f3.resultTypes.toList)=true:=by kernel_rfl
theorem closed:joinedFacts Tryz.pinned.checked.prog 3 Tryz.f3 Rows.topAgainSpec Rows.topAgainRow=true:=by
 unfold joinedFacts
 simp only [Bool.and_eq_true]
 exact ⟨⟨⟨⟨⟨⟨⟨⟨⟨⟨⟨⟨⟨⟨⟨⟨⟨⟨⟨⟨⟨⟨⟨⟨⟨⟨⟨⟨⟨⟨⟨j1,j2⟩,j3⟩,j4⟩,j5⟩,j6⟩,j7⟩,j8⟩,j9⟩,j10⟩,j11⟩,j12⟩,j13⟩,j14⟩,j15⟩,j16⟩,j17⟩,j18⟩,j19⟩,j20⟩,j21⟩,j22⟩,j23⟩,j24⟩,j25⟩,j26⟩,j27⟩,j28⟩,j29⟩,j30⟩,j31⟩,j32⟩
end Go.Proofs.YtbjidacdnjojnaaGreatDoor.topAgain
end
