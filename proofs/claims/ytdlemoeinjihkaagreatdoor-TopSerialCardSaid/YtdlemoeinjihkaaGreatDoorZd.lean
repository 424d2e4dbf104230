import Derived.Test.YtdlemoeinjihkaaGreatDoorZc
section
namespace Go.S
variable {dR:Dr}
open Go.Sort Go.Proofs
set_option linter.unusedVariables false
set_option linter.unusedSimpArgs false
def qO {α:Type} (cf:α→α→Int) (z:List α):Prop:=z.Pairwise fun x y=>ltOf cf y x=false
open Classical in
noncomputable def kD {α ρ:Type} (cf:α→α→Int) (l:List α) (F:List α→Option ρ):Option ρ :=
 if h:l.length < 4611686018427387904∧∃ r,∀ z:List α,z.Perm l→qO cf z→F z=some r then some (Classical.choose h.2) else none
theorem qbe {α ρ:Type} {cf:α→α→Int} {l:List α} {F:List α→Option ρ} {r:ρ} (h:kD cf l F=some r):l.length < 4611686018427387904∧∀ z:List α,z.Perm l→qO cf z→F z=some r:=by
 unfold kD at h
 split at h
 ·rename_i hc
  simp only [Option.some.injEq] at h
  exact ⟨hc.1,h ▸ Classical.choose_spec hc.2⟩
 ·cases h
theorem xF {α:Type} {cf:α→α→Int} (hS:SWO (ltOf cf)) (l:List α):qO cf (xE cf l):=by
 unfold qO xE
 refine (List.pairwise_mergeSort (le:=fun x y=>!(ltOf cf) y x) ?_ ?_ l).imp ?_
 ·intro a b c h1 h2
  simp only [Bool.not_eq_true'] at h1 h2 ⊢
  exact hS.ntrans c b a h2 h1
 ·intro a b
  cases h:(ltOf cf) b a with
  | false=>simp
  | true=>simp [hS.asymmA h]
 ·intro a b h
  simpa using h
theorem qeI {α ρ:Type} {cf:α→α→Int} {l:List α} {F:List α→Option ρ} {r:ρ} (hS:SWO (ltOf cf)) (hl:l.length < 4611686018427387904) (h:∀ z:List α,z.Perm l→qO cf z→F z=some r):kD cf l F=some r:=by
 have hc:l.length < 4611686018427387904∧∃ r,∀ z:List α,z.Perm l→qO cf z→F z=some r:=⟨hl,r,h⟩
 unfold kD
 rw [dif_pos hc]
 have h1:=Classical.choose_spec hc.2 (xE cf l) (by unfold xE;exact List.mergeSort_perm _ _) (xF hS l)
 rw [h _ (by unfold xE;exact List.mergeSort_perm _ _) (xF hS l)] at h1
 exact h1.symm
structure qg7 (P:Program) (f:FuncId) (k:Nat):Prop where
 some':∀ {α:Type} [Inhabited α] (enc:α→List Value),(∀ x,(enc x).length=k)→(∀ x,∀ v∈enc x,v.oneCell'=true)→∀ (cf:α→α→Int),SWO (ltOf cf)→∀ (g:Nat) (cb:Array Value) (blk off cap:Nat) (d:Array α) (w:World),(∀ args w,(callFunc g args).run P w=.ok (.enter g args) w) →
  CmpLays P g cb enc k cf blk off d.size w→HoldsK enc k w blk off d→blk < w.heap.size→d.size < 4611686018427387904 →
  Calls P f #[.slice (some ⟨blk,off,none⟩) d.size cap,.func (.func g) #[] cb] w fun e w'=>e=.returned (.tuple #[])∧∃ d' n os,PermIn 0 d.size d d'∧SortedIn (ltOf cf) 0 d.size d'∧w'=sortWorldK enc k w blk off n d' os
 none':∀ (p:Option Addr) (cap:Nat) (fv:Value) (w:World),Calls P f #[.slice p 0 cap,fv] w fun e w'=>e=.returned (.tuple #[])∧w'=w
section
variable {P:Program} {Q:Exit→Act→World→Prop} {n:Nat} {fs:Fr} {t:TypeId} {ops:Array Oper} {rest:List Oper} {d:Nat} {pos:String} {af:Array Edge}
variable {w0:World} {own:List Nat} {m:List As} {x y:Operand} {e:TypeId} {i k:Nat} {v:Value} {f g:FuncId} {ts:Array TypeId}
theorem Cls.sortedA {α:Type} [Inhabited α] {enc:α→List Value} {l:List α} {cf:α→α→Int} {w:World} (h:Cls w0 own m w) (hm:m[i]?=some (.sl v e k (l.map enc))) (hS:qg7 P f k) (hk:∀ x,(enc x).length=k) (h1c:∀ x,∀ u∈enc x,u.oneCell'=true) (hO:SWO (ltOf cf))
  (he:jx P g=true) (hC:∀ x y w' (l':List α),l'.length=l.length→Cls w0 own (m.set i (.sl v e k (l'.map enc))) w'→@Does qfl P g [.agg (enc x).toArray,.agg (enc y).toArray] w' fun u m=>u=.int .i64 (cf x y)) (hl:l.length < 4611686018427387904) :
  Calls P f #[v,.func (.func g) #[] #[]] w fun en w'=>en=.returned (.tuple #[])∧∃ l':List α,l'.Perm l∧qO cf l'∧Cls w0 own (m.set i (.sl v e k (l'.map enc))) w':=by
 obtain ⟨hr,hln,h3⟩:=h.get hm
 rcases h3 with ⟨rfl,hn⟩ | ⟨b,cap,cur,rfl,hg,hh,hnc,hcm,hcs,htk⟩
 ·have h0:l=[]:=by simpa using hn
  subst h0
  refine Calls.mono (hS.none' none 0 _ w) ?_
  rintro en w' ⟨rfl,rfl⟩
  refine ⟨rfl,[],List.Perm.refl _,List.Pairwise.nil,?_⟩
  rw [zJ hm]
  exact h
 ·rw [List.length_map] at htk hnc
  have hgl:b < w.heap.size:=(Array.getElem?_eq_some_iff.1 hh).1
  have hfl:=jd hk l.toArray
  have hcap:l.length*k≤cap*k:=Nat.mul_le_mul_right k hnc
  rw [List.length_map]
  rw [List.length_map] at hC
  have key:∀ (q:Nat) (os:Array Obj) (l':List α),l'.length=l.length→Cls w0 own (m.set i (.sl (.slice (some ⟨b,0,none⟩) l.length cap) e k (l'.map enc))) (sortWorldK enc k w b 0 q l'.toArray os):=by
   intro q os l' hlen
   have hfl2:=jd hk l'.toArray
   refine Cls.grown ?_ os
   refine h.turn hm (by rw [List.length_map];rfl) rfl rfl rfl (by simp [putRowK,Go.Sort.putRow,Go.Sort.mapBlock,Sort.ahead]) (Nat.le_add_right _ _) (fun j hj=>?_) ⟨fun r hr=>?_,?_⟩
   ·have hne:j≠b:=by
     intro hjb
     exact hj (by simp [As.foot,Value.ownBlock,hjb])
    simp [putRowK,Go.Sort.putRow,Go.Sort.mapBlock,Sort.ahead,Array.getElem?_modify,Ne.symm hne]
   ·obtain ⟨z,_,rfl⟩:=List.mem_map.1 hr;exact hk z
   ·rw [List.length_map,hlen]
    refine ⟨?_,.inr ⟨b,cap,putCells id 0 (flatK enc k l'.toArray) cur,rfl,hg,?_,hnc,hcm,by simp [putCells,hcs],?_⟩⟩
    ·rw [qG _ (fun r hr=>by obtain ⟨z,_,rfl⟩:=List.mem_map.1 hr;exact hk z),List.length_map,hlen]
    ·simp [putRowK,Go.Sort.putRow,Go.Sort.mapBlock,Sort.ahead,Array.getElem?_modify,hh,onCells]
    ·rw [← hfl2]
     apply List.ext_getElem?
     intro j
     by_cases c:j < l.length*k
     ·have h2:j < (flatK enc k l'.toArray).size:=by rw [size_flatK,List.size_toArray,hlen];exact c
      rw [List.getElem?_take_of_lt c,Array.getElem?_toList,Array.getElem?_toList,Array.getElem?_eq_getElem h2]
      simp only [putCells,Array.getElem?_mapIdx,Nat.zero_le,true_and,Nat.zero_add,Nat.sub_zero,id]
      rw [Array.getElem?_eq_getElem (show j < cur.size by omega)]
      simp only [Option.map_some,if_pos h2]
      rw [getElem!_pos _ j h2]
     ·rw [List.getElem?_take_eq_none (by omega),List.getElem?_eq_none (by simp [hlen];omega)]
  have hH:HoldsK enc k w b 0 l.toArray:=by
   intro j hj
   rw [size_flatK] at hj
   have hj':j < l.length*k:=by simpa using hj
   refine ⟨?_,by simp [World.frozen?,hh]⟩
   have h1:(cur.toList.take (l.length*k))[j]?=(flatK enc k l.toArray).toList[j]?:=by rw [htk,hfl]
   rw [List.getElem?_take_of_lt hj',Array.getElem?_toList,Array.getElem?_toList] at h1
   have h2:j < (flatK enc k l.toArray).size:=by rw [size_flatK];exact hj
   simp only [World.cell?,hh,Nat.zero_add,Option.isSome_none,Bool.false_eq_true,if_false,id]
   rw [h1,Array.getElem?_eq_getElem h2,getElem!_pos _ j h2]
  have hcmp:CmpLays P g #[] enc k cf b 0 l.toArray.size w:=by
   intro q os dk hdk x y
   have hk':=key q os dk.toList (by simpa using hdk)
   rw [Array.toArray_toList] at hk'
   have h1:=hC x y _ dk.toList (by simpa using hdk) hk'
   unfold Does at h1
   refine Calls.mono h1 ?_
   rintro en w' ⟨u,m',rfl,rfl,hc⟩
   exact ⟨rfl,hc.grown_of⟩
  have hcall:=hS.some' enc hk h1c cf hO g #[] b 0 cap l.toArray w (fun args w=>xY he args w) hcmp hH hgl (by simpa using hl)
  rw [List.size_toArray] at hcall
  refine Calls.mono hcall ?_
  rintro en w' ⟨rfl,d',q,os,hP,hSo,rfl⟩
  obtain ⟨hsz,_,hperm⟩:=hP
  have hsz':d'.size=l.length:=by simpa using hsz
  refine ⟨rfl,d'.toList,?_,?_,?_⟩
  ·have e1:d'.extract 0 l.length=d':=by rw [← hsz'];exact Array.extract_size
   have e2:l.toArray.extract 0 l.length=l.toArray:=by
    have:l.length=l.toArray.size:=by simp
    rw [this];exact Array.extract_size
   rw [e1,e2] at hperm
   exact hperm
  ·unfold qO
   rw [List.pairwise_iff_getElem]
   intro i j hi hj hij
   have hi':i < d'.size:=by simpa using hi
   have hj':j < d'.size:=by simpa using hj
   have:=hSo i j (Nat.zero_le _) hij (by omega)
   rw [getElem!_pos d' j hj',getElem!_pos d' i hi'] at this
   simpa using this
  ·have:=key q os d'.toList (by simpa using hsz')
   rwa [Array.toArray_toList] at this
def prz {β:Type} (q:Nat→List Value):List β→List (β×List Value)
 | []=>[]
 | x :: l=>(x,q 0) :: prz (fun i=>q (i+1)) l
section
variable {β:Type} {rw':β→List Value→List Value} {sds:β→List Value→List Sd}
theorem qbT:∀ (q:Nat→List Value) (l:List β),(prz q l).map Prod.fst=l
 | _,[]=>rfl
 | q,x :: l=>by rw [prz,List.map_cons,qbT]
theorem qfZ:∀ (q:Nat→List Value) (l:List β),zr rw' q l=(prz q l).map fun p=>rw' p.1 p.2
 | _,[]=>rfl
 | q,x :: l=>by rw [prz,List.map_cons,zr,qfZ]
theorem qfY:∀ (q:Nat→List Value) (l:List β),zs sds q l=(prz q l).flatMap fun p=>sds p.1 p.2
 | _,[]=>rfl
 | q,x :: l=>by rw [prz,List.flatMap_cons,zs,qfY]
def goz (L:List (β×List Value)):Nat→List Value:=fun i=>((L[i]?).map Prod.snd).getD []
theorem qbS:∀ L:List (β×List Value),prz (goz L) (L.map Prod.fst)=L
 | []=>rfl
 | p :: L=>by
  rw [List.map_cons,prz]
  have h1:(fun i=>goz (p :: L) (i+1))=goz L:=by funext i;simp [goz]
  rw [h1,qbS]
  rfl
theorem qma (L:List (β×List Value)):zr rw' (goz L) (L.map Prod.fst)=L.map fun p=>rw' p.1 p.2:=by rw [qfZ,qbS]
theorem ql8 (L:List (β×List Value)):zs sds (goz L) (L.map Prod.fst)=L.flatMap fun p=>sds p.1 p.2:=by rw [qfY,qbS]
theorem L.sortAz {ρ:Type} {r:ρ} {F:List β→Option ρ} {K:World→Prop} {c:List Ob} {q:Nat→List Value} {l:List β} {cf:β→β→Int} (h:kD cf l F=some r) (hS:qg7 P f k) (hlen:∀ z v,(rw' z v).length=k) (hp:PlZ rw' sds) (hO:SWO (ltOf cf))
  (hg:jx P g=true) (hK:StbF K w0 own) (hl0:m.getLast?=some (.os c)) (h1:FzA K c (zs sds q l))
  (hC:∀ x v y u w,(∀ d∈sds x v,At w d.v d.k d.rows)→(∀ d∈sds y u,At w d.v d.k d.rows)→@Does qfl P g [.agg (rw' x v).toArray,.agg (rw' y u).toArray] w fun z _=>z=.int .i64 (cf x y))
  (hd:Nat.blt d n=true) (he:jx P f=true) (hx:val fs x=some v) (hy:val fs y=some (.func (.func g) #[] #[])) (hm:m[i]?=some (.sl v e k (zr rw' q l))) (hil:Nat.blt (i+1) m.length=true)
  (next:∀ z q',z.Perm l→qO cf z→F z=some r→FzA K c (zs sds q' z)→L P ops Q n (Cls w0 own (m.set i (.sl v e k (zr rw' q' z)))) rest ((d,.tuple #[]) :: fs)) :
  L P ops Q n (Cls w0 own m) (⟨some d,.call ⟨.value (.func f),#[x,y],ts⟩,t,pos,af,none⟩ :: rest) fs:=by
 obtain ⟨hl,hall⟩:=qbe h
 have hil':i+1 < m.length:=by simpa [Nat.blt_eq] using hil
 intro ac w hs hw
 have hrun:(execOp ac.eval ⟨some d,.call ⟨.value (.func f),#[x,y],ts⟩,t,pos,af,none⟩).run P w=.ok (.enter f #[v,.func (.func g) #[] #[]]) w:=xI (xs:=[x,y]) (vs:=[v,.func (.func g) #[] #[]]) he (by simp [vals,hx,hy]) hs w (some d)
 simp only [wpList,Region.wanted,if_true]
 refine .inl ?_
 unfold Oper.wp
 rw [hrun]
 by_cases h0:l=[]
 ·subst h0
  obtain ⟨hr,hln,h3⟩:=hw.get hm
  have hv:∃ p cap,v=.slice p 0 cap:=by
   rcases h3 with ⟨rfl,_⟩ | ⟨b,cap,cur,rfl,_⟩
   ·exact ⟨_,_,rfl⟩
   ·exact ⟨_,_,rfl⟩
  obtain ⟨p,cap,rfl⟩:=hv
  refine Calls.mono (hS.none' p cap _ w) ?_
  rintro en w' ⟨rfl,rfl⟩
  refine next [] q (List.Perm.refl _) List.Pairwise.nil (hall [] (List.Perm.refl _) List.Pairwise.nil) h1 _ w' (hs.put hd _) ?_
  rw [zJ hm]
  exact hw
 ·have hL:prz q l≠[]:=by
   intro hc
   apply h0
   rw [← qbT q l,hc]
   rfl
  generalize hLe:prz q l=L0 at *
  have hfst:L0.map Prod.fst=l:=by rw [← hLe,qbT]
  have hzr:zr rw' q l=L0.map fun p=>rw' p.1 p.2:=by rw [qfZ,hLe]
  have hzs:zs sds q l=L0.flatMap fun p=>sds p.1 p.2:=by rw [qfY,hLe]
  haveI:Inhabited {p // p∈L0}:=⟨⟨L0.head hL,List.head_mem hL⟩⟩
  have hrow:∀ X:List {p // p∈L0},(X.map fun x=>rw' x.1.1 x.1.2)=(X.map Subtype.val).map fun p=>rw' p.1 p.2:=fun X=>by rw [List.map_map];rfl
  have hm':m[i]?=some (.sl v e k (L0.attach.map fun x=>rw' x.1.1 x.1.2)):=by rw [hm,hzr,hrow,List.attach_map_subtype_val]
  have hmem:∀ p∈L0,∀ dd∈sds p.1 p.2,dd∈zs sds q l:=fun p hp dd hdd=>by rw [hzs];exact List.mem_flatMap.2 ⟨p,hp,hdd⟩
  have hlast:∀ A:As,(m.set i A).getLast?=some (.os c):=by
   intro A
   rw [List.getLast?_eq_getElem?] at hl0 ⊢
   rw [List.length_set,List.getElem?_set_ne (by omega)]
   exact hl0
  have h1c:∀ x:{p // p∈L0},∀ u∈rw' x.1.1 x.1.2,u.oneCell'=true:=fun x=>hp _ _ fun dd hdd=>(h1.onesP hK hw hl0) dd (hmem x.1 x.2 dd hdd)
  have hSW:SWO (ltOf fun x y:{p // p∈L0}=>cf x.1.1 y.1.1):=⟨fun x=>hO.irrefl _,fun x y z=>hO.trans _ _ _,fun x y z=>hO.ntrans _ _ _⟩
  refine Calls.mono (hw.sortedA (l:=L0.attach) (enc:=fun x=>rw' x.1.1 x.1.2) (cf:=fun x y=>cf x.1.1 y.1.1) hm' hS (fun x=>hlen _ _) h1c hSW hg (fun x y w' l' _ hw'=>?_) (by rw [List.length_attach,← List.length_map (f:=Prod.fst),hfst];exact hl)) ?_
  ·have hat:=h1.clsP hK hw' (hlast _)
   exact hC _ _ _ _ w' (fun dd hdd=>hat dd (hmem x.1 x.2 dd hdd)) (fun dd hdd=>hat dd (hmem y.1 y.2 dd hdd))
  ·rintro en w' ⟨rfl,X,hpX,hsX,hcl⟩
   have hpL:(X.map Subtype.val).Perm L0:=(hpX.map Subtype.val).trans (by rw [List.attach_map_subtype_val])
   have hpz:((X.map Subtype.val).map Prod.fst).Perm l:=by
    have:=hpL.map Prod.fst
    rwa [hfst] at this
   have hsz:qO cf ((X.map Subtype.val).map Prod.fst):=by
    unfold qO at hsX ⊢
    rw [List.pairwise_map,List.pairwise_map]
    exact hsX
   refine next _ (goz (X.map Subtype.val)) hpz hsz (hall _ hpz hsz) ?_ _ w' (hs.put hd _) ?_
   ·intro dd hdd
    rw [ql8] at hdd
    obtain ⟨p,hp1,hp2⟩:=List.mem_flatMap.1 hdd
    exact h1 dd (hmem p (hpL.mem_iff.1 hp1) dd hp2)
   ·rw [qma,← hrow]
    exact hcl
end
end
end Go.S
end
