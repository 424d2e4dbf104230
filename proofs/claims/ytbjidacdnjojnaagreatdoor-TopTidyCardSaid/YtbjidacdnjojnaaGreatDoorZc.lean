import Derived.Test.YtbjidacdnjojnaaGreatDoorZb
import Derived.Maps.RangeRun
import Derived.LaidEqlPtr
import Derived.Laws.IdiomRangeMap
set_option linter.unusedVariables false
set_option linter.unusedSimpArgs false
section
namespace Go.S
def nxt {α ρ:Type} [DecidableEq ρ] (l:List α) (A:Option ρ) (B:α→List α→Option ρ):Option ρ:=match l with
 | []=>A
 | p :: q=>if (List.range (q.length+1)).all (fun j=>match (p :: q)[j]? with
   | some x=>decide (B x ((p :: q).eraseIdx j)=B p q)
   | none=>true)=true then B p q else none
section
variable {α ρ:Type} [DecidableEq ρ] {l:List α} {A:Option ρ} {B:α→List α→Option ρ} {r:ρ}
@[simp] theorem qhq:nxt [] A B=A:=rfl
theorem qfs (h:nxt l A B=some r):(l=[]→A=some r)∧∀ (j:Nat) x,l[j]?=some x→B x (l.eraseIdx j)=some r:=by
 cases l with
 | nil=>exact ⟨fun _=>h,fun j x hx=>by simp at hx⟩
 | cons p q =>
  refine ⟨fun h=>(by cases h),fun j x hx=>?_⟩
  unfold nxt at h
  simp only at h
  split at h
  ·rename_i hall
   have hj:=(List.getElem?_eq_some_iff.1 hx).1
   have:=List.all_eq_true.1 hall j (List.mem_range.2 (by simpa using hj))
   rw [hx] at this
   simp only [decide_eq_true_eq] at this
   rw [this];exact h
  ·cases h
def qjL {α ρ:Type} [DecidableEq ρ] (l:List (Int×α)) (A:Option ρ) (B:Int→α→List (Int×α)→Option ρ):Option ρ:=nxt l A fun p q=>B p.1 p.2 q
theorem qiI (hl:l≠[]) (hB:∀ (j:Nat) x,l[j]?=some x→B x (l.eraseIdx j)=some r):nxt l A B=some r:=by
 cases l with
 | nil=>exact absurd rfl hl
 | cons p q =>
  have h0:=hB 0 p rfl
  simp only [List.eraseIdx_zero,List.tail_cons] at h0
  unfold nxt
  simp only
  rw [if_pos,h0]
  refine List.all_eq_true.2 fun j hj=>?_
  cases hx:(p :: q)[j]? with
  | none=>rfl
  | some x=>simp only [decide_eq_true_eq];rw [hB j x hx,h0]
end
section
variable {P:Program} {Q:Exit→Act→World→Prop} {n:Nat} {fs:Fr} {C:World→Prop} {t:TypeId} {ops:Array Oper} {rest:List Oper} {d:Nat} {pos:String} {af:Array Edge}
variable {w0:World} {own:List Nat} {m:List As} {x y z:Operand} {kt et tx:TypeId} {i b:Nat} {l left:List (Int×Value)} {a:Int} {v:Value}
def qkF (a:Int):Value→Bool
 | .int .i64 b=>decide (b=a)
 | _=>false
theorem Cls.range {w:World} (h:Cls w0 own m w) (hm:m[i]?=some (.mp b l)) {es:Array MapEntry} {clock:Nat} (hb:w.heap[b]?=some (.map es clock)):Cls w0 own (.mi b w.heap.size l l none :: m.eraseIdx i) (w.alloc (.mapIter (some b) clock #[] clock)):=by
 have hbl:b < w.heap.size:=(Array.getElem?_eq_some_iff.1 hb).1
 have hk:∀ k,k < w.heap.size→(w.alloc (.mapIter (some b) clock #[] clock)).heap[k]?=w.heap[k]?:=fun k hk=>RowKit.Below.heap_alloc w _ k hk
 have hp:=ke hm
 refine ⟨h.os,h.tape,h.output,h.dr,Nat.le_trans h.size (by simp),fun k hk' ho=>?_,?_,fun y hy=>?_⟩
 ·rw [hk k (Nat.lt_of_lt_of_le hk' h.size),h.old k hk' ho]
 ·have h1:(w.heap.size :: m.flatMap As.foot).Nodup:=List.nodup_cons.2 ⟨fun hb=>Nat.lt_irrefl _ (h.foot_lt _ hb),h.nodup⟩
  refine List.Perm.nodup (List.Perm.trans (List.Perm.cons _ hp.symm) ?_) h1
  simp only [As.foot,List.flatMap_cons,List.cons_append,List.nil_append]
  exact List.Perm.swap ..
 ·rcases List.mem_cons.1 hy with rfl | hy
  ·obtain ⟨es',clock',hb',hst,he⟩:=h.get hm
   rw [hb] at hb'
   obtain ⟨rfl,rfl⟩:es=es'∧clock=clock':=by simpa using hb'
   refine ⟨⟨es,clock,clock,clock,#[],by rw [hk b hbl];exact hb,hst,he,?_,hst.1,Nat.le_refl _,Nat.le_refl _,?_⟩,fun c hc=>?_⟩
   ·show (w.heap.push _)[w.heap.size]?=_
    simp
   ·exact ⟨by rw [List.filter_eq_self.2 (fun e _=>by simp)];exact he,fun _ h=>by cases h⟩
   ·simp only [As.foot,List.mem_cons,List.not_mem_nil,or_false] at hc
    rcases hc with rfl | rfl
    ·exact (h.mine _ (List.mem_of_getElem? hm)).2 _ (by simp [As.foot])
    ·exact .inl h.size
  ·have hy':=List.mem_of_mem_eraseIdx hy
   exact ⟨As.holds_congr (h.mine y hy').1 fun b hb=>hk b (As.holds_lt (h.mine y hy').1 b hb),(h.mine y hy').2⟩
theorem L.range0 (hd:Nat.blt d n=true) (hu:P.underlying tx=some (.map kt et)) (hx:val fs x=some (.map (some b))) (hm:m[i]?=some (.mp b l))
  (next:∀ r,L P ops Q n (Cls w0 own (.mi b r l l none :: m.eraseIdx i)) rest ((d,pt r 0) :: fs)):L P ops Q n (Cls w0 own m) (⟨some d,.range tx x,t,pos,af,none⟩ :: rest) fs :=
 L.fresh (val':=fun r=>pt r 0) hd (fun a w hs hw=>by
  obtain ⟨es,clock,hb,hst,he⟩:=hw.get hm
  refine ⟨w.heap.size,_,?_,hw.range hm hb⟩
  simp only [execOp,hs.eval hx]
  simp [run_range_map w tx kt et b es clock hu hb,pt]) next
theorem Cls.miMp {w:World} (h:Cls w0 own m w) {r:Nat} {cur:Option (Int×Value)} (hi:m[i]?=some (.mi b r l left cur)):Cls w0 own (m.set i (.mp b l)) w:=by
 have hp:=jU (y:=.mp b l) hi
 simp only [As.foot,List.cons_append,List.nil_append] at hp
 have hp':=(List.perm_cons b).1 hp
 refine h.re (fun c hc=>hp'.mem_iff.1 (List.mem_cons_of_mem _ hc)) (List.nodup_cons.1 (hp'.nodup_iff.2 h.nodup)).2 fun y hy=>?_
 rcases List.mem_or_eq_of_mem_set hy with hy | rfl
 ·exact (h.mine y hy).1
 ·obtain ⟨es,clock,_,_,_,h1,h2,h3,_⟩:=h.get hi
  exact ⟨es,clock,h1,h2,h3⟩
theorem Cls.miNone {w:World} (h:Cls w0 own m w) {r:Nat} {cur:Option (Int×Value)} (hi:m[i]?=some (.mi b r l left cur)):Cls w0 own (m.set i (.mi b r l left none)) w:=by
 obtain ⟨es,clock,since,last,seen,h1,h2,h3,h4,h5,h6,h7,h8,_⟩:=h.get hi
 exact h.turn hi rfl rfl rfl rfl rfl (Nat.le_refl _) (fun _ _=>rfl) ⟨es,clock,since,last,seen,h1,h2,h3,h4,h5,h6,h7,h8,fun _ h=>by cases h⟩
theorem kZ {es:List MapEntry} (hn:(es.map (·.born)).Nodup) {j:Nat} {e:MapEntry} (h:es[j]?=some e):es.filter (fun x=>!(x.born == e.born))=es.eraseIdx j:=by
 induction es generalizing j with
 | nil=>simp at h
 | cons c es ih =>
  rw [List.map_cons,List.nodup_cons] at hn
  cases j with
  | zero =>
   simp only [List.getElem?_cons_zero,Option.some.injEq] at h
   subst h
   have:es.filter (fun x=>!(x.born == c.born))=es:=List.filter_eq_self.2 fun p hp=>by
    have:p.born≠c.born:=fun e=>hn.1 (List.mem_map.2 ⟨p,hp,e⟩)
    simp [this]
   simp [this]
  | succ j =>
   simp only [List.getElem?_cons_succ] at h
   have hc:c.born≠e.born:=fun e'=>hn.1 (List.mem_map.2 ⟨_,List.mem_of_getElem? h,e'.symm⟩)
   simp [hc,ih hn.2 h]
theorem qax {w:World} {r:Nat} {cur:Option (Int×Value)} (ty:TypeId) (h:Cls w0 own m w) (hi:m[i]?=some (.mi b r l left cur)) :
  (left=[]∧(Instr.next (.pointer (some ⟨r,0,none⟩)) false ty).run P w=.ok (.tuple #[.bool false]) w) ∨
  ∃ (j:Nat) (k:Int) (v:Value) (w':World),left[j]?=some (k,v)∧(Instr.next (.pointer (some ⟨r,0,none⟩)) false ty).run P w=.ok (.tuple #[.bool true,.int .i64 k,v]) w'∧Cls w0 own (m.set i (.mi b r l (left.eraseIdx j) (some (k,v)))) w':=by
 obtain ⟨es,clock,since,last,seen,hb,hst,he,hr,hold,hsl,hsc,hleft,_⟩:=h.get hi
 have hlf:(leftOf es seen).toList=es.toList.filter fun e=>!seen.contains e.born:=by unfold leftOf;rw [Array.toList_filter]
 have hbr:b≠r:=by rintro rfl;rw [hb] at hr;cases hr
 rcases run_next_at (P:=P) w ty r b since last seen es clock hr hb hold hsl with ⟨h1,h2⟩ | ⟨e,hel,w1,hw1,h2⟩
 ·refine .inl ⟨?_,h2⟩
  have:(es.toList.filter fun e=>!seen.contains e.born)=[]:=by rw [← hlf];simpa using h1
  rw [this] at hleft
  simpa using hleft.symm
 ·rw [hlf] at hel
  obtain ⟨j,hj⟩:=List.getElem?_of_mem hel
  have hlj:(left.map kvp)[j]?=some (e.key,e.val):=by rw [← hleft,List.getElem?_map,hj];rfl
  rw [List.getElem?_map] at hlj
  cases hp:left[j]? with
  | none=>rw [hp] at hlj;cases hlj
  | some p =>
   rw [hp] at hlj
   simp only [Option.map_some,Option.some.injEq,kvp,Prod.mk.injEq] at hlj
   obtain ⟨e1,e2⟩:=hlj
   have hcl:Cls w0 own m w1:=by
    rcases hw1 with rfl | rfl
    ·exact h
    ·exact h.drew
   have hb1:w1.heap[b]?=some (.map es clock):=by rcases hw1 with rfl | rfl <;> exact hb
   have hrl:r < w1.heap.size:=by
    have:w1.heap[r]?=some (.mapIter (some b) since seen last):=by rcases hw1 with rfl | rfl <;> exact hr
    exact (Array.getElem?_eq_some_iff.1 this).1
   refine .inr ⟨j,p.1,p.2,ChangeMaps.setBlock w1 r (.mapIter (some b) since (seen.push e.born) clock),hp,by rw [h2,← e1,← e2],hcl.turn hi rfl rfl rfl rfl (by simp [ChangeMaps.setBlock]) (Nat.le_refl _) (fun k hk=>?_) ?_⟩
   ·simp only [As.foot,List.mem_cons,List.not_mem_nil,or_false,not_or] at hk
    exact Array.getElem?_setIfInBounds_ne (Ne.symm hk.2)
   ·refine ⟨es,clock,since,clock,seen.push e.born,?_,hst,he,by simp [ChangeMaps.setBlock,hrl],hold,hsc,hsc,?_,fun q hq=>⟨rfl,e,(List.mem_filter.1 hel).1,by cases hq;rw [kvp,e1,e2],by simp⟩⟩
    ·show (w1.heap.setIfInBounds r _)[b]?=_
     rw [Array.getElem?_setIfInBounds_ne (Ne.symm hbr)];exact hb1
    ·have hnf:((es.toList.filter fun e=>!seen.contains e.born).map (·.born)).Nodup:=(List.filter_sublist.map _).nodup hst.2.1
     have hfe:=kZ hnf hj
     rw [List.filter_filter] at hfe
     have e3:(es.toList.filter fun x=>!(seen.push e.born).contains x.born)=es.toList.filter (fun x=>!(x.born == e.born) && !seen.contains x.born):=by
      apply List.filter_congr
      intro x _
      rw [contains_push]
      cases seen.contains x.born <;> cases (x.born == e.born) <;> rfl
     rw [e3,hfe,ChangeMaps.map_eraseIdx,hleft,ChangeMaps.map_eraseIdx]
section
variable {α ρ:Type} {g:α→Value} {lm left:List (Int×α)} [DecidableEq ρ] {A:Option ρ} {B:Int→α→List (Int×α)→Option ρ} {r:ρ} {rr:Nat}
theorem L.rangeM (hd:Nat.blt d n=true) (hu:P.underlying tx=some (.map kt et)) (hx:val fs x=some (.map (some b))) (hm:m[i]?=some (.mp b (zP g lm)))
  (next:∀ rr,L P ops Q n (Cls w0 own (.mi b rr (zP g lm) (zP g lm) none :: m.eraseIdx i)) rest ((d,pt rr 0) :: fs)):L P ops Q n (Cls w0 own m) (⟨some d,.range tx x,t,pos,af,none⟩ :: rest) fs:=L.range0 hd hu hx hm next
theorem L.nextM (h:qjL left A B=some r) (hd:Nat.blt d n=true) (hx:val fs x=some (pt rr 0)) {cur:Option (Int×Value)} (hm:m[i]?=some (.mi b rr (zP g lm) (zP g left) cur))
  (k1:A=some r→L P ops Q n (Cls w0 own (m.set i (.mp b (zP g lm)))) rest ((d,.tuple #[.bool false]) :: fs))
  (k2:∀ k v q,B k v q=some r→L P ops Q n (Cls w0 own (m.set i (.mi b rr (zP g lm) (zP g q) (some (k,g v))))) rest ((d,.tuple #[.bool true,.int .i64 k,g v]) :: fs)) :
  L P ops Q n (Cls w0 own m) (⟨some d,.next x false,t,pos,af,none⟩ :: rest) fs:=by
 obtain ⟨hA,hB⟩:=qfs h
 intro a w hs hw
 simp only [wpList,Region.wanted,if_true]
 refine .inl ?_
 unfold Oper.wp
 simp only [execOp,hs.eval hx,pt]
 rcases qax (P:=P) t hw hm with ⟨h1,h2⟩ | ⟨j,k,v,w',h1,h2,h3⟩
 ·have hl:left=[]:=by simpa [zP] using h1
  simp only [Sem.run_bind,h2,Result.andThen,Sem.run_pure,Oper.upon]
  exact k1 (hA hl) _ _ (hs.put hd _) (hw.miMp hm)
 ·simp only [zP,List.getElem?_map] at h1
  cases hp:left[j]? with
  | none=>rw [hp] at h1;cases h1
  | some p =>
   rw [hp] at h1
   simp only [Option.map_some,Option.some.injEq,Prod.mk.injEq] at h1
   obtain ⟨rfl,rfl⟩:=h1
   simp only [Sem.run_bind,h2,Result.andThen,Sem.run_pure,Oper.upon]
   refine k2 p.1 p.2 (left.eraseIdx j) (hB j p hp) _ _ (hs.put hd _) ?_
   rw [show zP g (left.eraseIdx j)=(zP g left).eraseIdx j from ChangeMaps.map_eraseIdx ..]
   exact h3
theorem Y.entryM {k0:Int} {v0:α} {left':List (Int×Value)} (hx:val fs x=some (pt rr 0)) (hm:m[i]?=some (.mi b rr (zP g lm) left' (some (k0,g v0)))):Y P (.entry x) t n fs (Cls w0 own m) (.tuple #[.int .i64 k0,g v0]) :=
 Y.of fun d pos af g' s w hs hw=>by
  obtain ⟨es,clock,since,last,seen,hb,hst,he,hr,hold,hsl,hsc,hleft,hcur⟩:=hw.get hm
  obtain ⟨hlast,e,hem,hek,hback⟩:=hcur _ rfl
  subst hlast
  have hf:es.find? (·.born == e.born)=some e:=by rw [← Array.find?_toList];exact find_born e es.toList hst.2.1 hem
  simp only [kvp,Prod.mk.injEq] at hek
  simp only [execOp,hs.eval hx,pt]
  simp [Instr.entry,getObj,Sem.run,hr,hb,hback,hf,Result.andThen,hek.1,hek.2]
end
end
section
variable {P:Program} {n:Nat} {fs:Fr} {C:World→Prop} {t:TypeId} {x y:Operand} {tx te:TypeId} {α:Type} {row:α→List Value} {l:List α} {k len:Nat} {ik:IntKind} {a:Int}
theorem Y.idxArr1 {u:α} {p:Value} (hu:P.underlying tx=some (.array len te)) (ha:zb P te false=true) (hs:szB P te 1=true) (hx:val fs x=some (.agg (l.map row).flatten.toArray)) (hy:val fs y=some (.int ik a)) (hlen:∀ z,(row z).length=1) (hr:za len l a=some u) (hp:row u=[p]) :
  Y P (.index tx x y) t n fs C p :=
 Y.of fun d pos af g s w hs' hw=>by
  obtain ⟨h0,h1,h2⟩:=qm (qt hr)
  have h3:=wA hr
  have hf:(l.map row).flatten[a.toNat*1+0]?=some p:=zh _ _ _ _ _ (by intro r hr';obtain ⟨z,_,rfl⟩:=List.mem_map.1 hr';exact hlen z) (by rw [List.getElem?_map,h2];rfl) (by rw [hp];rfl)
  simp only [Nat.mul_one,Nat.add_zero] at hf
  simp only [execOp,hs'.eval hx,hs'.eval hy]
  simp [Instr.index,asIntOf,run_underlying hu,h0,h3,part,xy ha,qA hs,hf]
end
end Go.S
end
section
namespace Go.S
def qld {κ α:Type} [DecidableEq κ] (l:List (κ×α)) (k:κ) (z:α):α:=match l.find? (fun p=>decide (p.1=k)) with
 | some p=>p.2
 | none=>z
def qkE {κ α:Type} [DecidableEq κ] (l:List (κ×α)) (k:κ):Bool:=l.any fun p=>decide (p.1=k)
def qlb {κ α:Type} [DecidableEq κ] (l:List (κ×α)) (k:κ) (v:α):List (κ×α):=if qkE l k=true then l.map (fun p=>if p.1=k then (k,v) else p) else l++[(k,v)]
def qlc {κ α:Type} (K:κ→Value) (g:α→Value) (l:List (κ×α)):List (Value×Value):=l.map fun p=>(K p.1,g p.2)
def qk7 {κ α ρ:Type} [DecidableEq ρ] (l:List (κ×α)) (A:Option ρ) (B:κ→α→List (κ×α)→Option ρ):Option ρ:=nxt l A fun p q=>B p.1 p.2 q
section
variable {κ α:Type} [DecidableEq κ] {l:List (κ×α)} {k a:κ} {v z:α}
end
structure qlj (P:Program) (kt:TypeId) {κ:Type} (row:κ→List Value):Prop where
 un:∃ fs,P.underlying kt=some (.struct fs)
 ag:zb P kt true=true
 sh:∀ x,shB P 5 kt (row x)=true
 inj:∀ x y,row x=row y→x=y
 chk:∀ x (e:Bool) (w:World),(Instr.checkKey e 10000 kt (VA row x)).run P w=.ok () w
 ints:∀ x,∀ v∈row x,∃ k a,v=.int k a
section
variable {P:Program} {κ:Type} {row:κ→List Value} {kt:TypeId}
variable [DecidableEq κ]
end
section
variable {P:Program} {Q:Exit→Act→World→Prop} {n:Nat} {fs:Fr} {C:World→Prop} {t:TypeId} {ops:Array Oper} {rest:List Oper} {d:Nat} {pos:String} {af:Array Edge}
variable {w0:World} {own:List Nat} {m:List As} {x y z:Operand} {kt et tx:TypeId} {i b:Nat} {l left:List (Value×Value)}
structure Mpq (w:World) (b:Nat) (l:List (Value×Value)) (es:Array MapEntry) (clock:Nat):Prop where
 here:w.heap[b]?=some (.map es clock)
 st:MapKept.Stamped es clock
 kv:es.toList.map (fun e=>(e.key,e.val))=l
def qk9:As→Option (Nat×List (Value×Value))
 | .mq b l=>some (b,l)
 | .mqi b _ l _ _=>some (b,l)
 | _=>none
section gen
variable {κ:Type} {row:κ→List Value} {α:Type} {g:α→Value} {lm:List (κ×α)} {z0 v0:α} {a:κ}
variable [DecidableEq κ]
end gen
section
variable {κ α ρ:Type} {K:κ→Value} {g:α→Value} {lm left:List (κ×α)} [DecidableEq ρ] {A:Option ρ} {B:κ→α→List (κ×α)→Option ρ} {r:ρ} {rr:Nat}
end
end
end Go.S
end
section
namespace Go.S
def VP (g:Nat→Nat) (i:Int):Value:=if i < 0 then .pointer none else pt (g i.toNat) 0
def PR (g:Nat→Nat) (i:Int):List Value:=[VP g i]
def emp:As:=.ss []
def qz (L:List As):Res where
 foot:=L.flatMap As.foot
 holds:=fun w=>∀ x∈L,x.holds w
 congr:=fun h hb x hx=>As.holds_congr (h x hx) fun b hbx=>hb b (List.mem_flatMap.2 ⟨x,hx,hbx⟩)
 lt:=fun h b hb=>by
  obtain ⟨x,hx,hbx⟩:=List.mem_flatMap.1 hb
  exact As.holds_lt (h x hx) b hbx
section lists
variable {α:Type} {row row':α→List Value→List Value} {e:TypeId} {sub sub':α→List Value→List As}
def thg (row:α→List Value→List Value) (sub:α→List Value→List As) (e:TypeId) (b:Nat) (v:List Value) (x:α):List As:=.obj b (row x v) e :: sub x v
def zT (row:α→List Value→List Value) (sub:α→List Value→List As) (e:TypeId):(Nat→Nat)→(Nat→List Value)→List α→List As
 | _,_,[]=>[]
 | g,gh,x :: l=>.any (qz (thg row sub e (g 0) (gh 0) x)) :: zT row sub e (fun i=>g (i+1)) (fun i=>gh (i+1)) l
def hol (hs:List Nat) (L:List As):List As:=(List.range L.length).map fun i=>if i∈hs then emp else (L[i]?).getD emp
def arn (row:α→List Value→List Value) (sub:α→List Value→List As) (e:TypeId) (g:Nat→Nat) (gh:Nat→List Value) (l:List α) (hs:List Nat):As:=.any (qz (hol hs (zT row sub e g gh l)))
theorem kB:∀ (g:Nat→Nat) (gh:Nat→List Value) (l:List α),(zT row sub e g gh l).length=l.length
 | _,_,[]=>rfl
 | g,gh,x :: l=>by simp [zT,kB _ _ l]
theorem qgw:∀ (g:Nat→Nat) (gh:Nat→List Value) (l:List α) (i:Nat) (x:α),l[i]?=some x→(zT row sub e g gh l)[i]?=some (.any (qz (thg row sub e (g i) (gh i) x)))
 | _,_,[],i,x,h=>by simp at h
 | g,gh,y :: l,0,x,h=>by
  simp only [List.getElem?_cons_zero,Option.some.injEq] at h
  subst h
  simp [zT]
 | g,gh,y :: l,i+1,x,h=>by
  simp only [List.getElem?_cons_succ] at h
  simpa [zT] using qgw (fun i=>g (i+1)) (fun i=>gh (i+1)) l i x h
theorem qgv:∀ (g:Nat→Nat) (gh:Nat→List Value) (l:List α) (i:Nat) (y:α) (v:List Value),zT row sub e g (xY gh i v) (l.set i y)=(zT row sub e g gh l).set i (.any (qz (thg row sub e (g i) v y)))
 | _,_,[],_,_,_=>rfl
 | g,gh,x :: l,0,y,v=>by
  simp only [List.set_cons_zero,zT]
  have h1:xY gh 0 v 0=v:=by simp [xY]
  have h2:(fun i=>xY gh 0 v (i+1))=fun i=>gh (i+1):=by funext i;simp [xY]
  rw [h1,h2]
 | g,gh,x :: l,i+1,y,v=>by
  simp only [List.set_cons_succ,zT]
  have h1:xY gh (i+1) v 0=gh 0:=by simp [xY]
  have h2:(fun j=>xY gh (i+1) v (j+1))=xY (fun j=>gh (j+1)) i v:=by funext j;simp [xY]
  rw [h1,h2,qgv]
theorem qee (gh:Nat→List Value) (i:Nat):xY gh i (gh i)=gh:=by
 funext q
 unfold xY
 split
 ·rename_i h;rw [h]
 ·rfl
theorem qgx:∀ (g:Nat→Nat) (gh:Nat→List Value) (b:Nat) (v:List Value) (l:List α) (x:α),zT row sub e (qdb g l.length b) (qfJ gh (fun _=>v) l.length) (l++[x])=zT row sub e g gh l++[.any (qz (thg row sub e b v x))]
 | g,gh,b,v,[],x=>by simp [zT,qiR,qiV]
 | g,gh,b,v,y :: l,x=>by
  rw [List.cons_append,List.length_cons,zT,qiQ,qhK,qiU,qhO,qgx _ _ b v l x]
  rfl
theorem wb:∀ (g:Nat→Nat) (gh:Nat→List Value) (l:List α),(∀ x∈l,∀ v,row x v=row' x v∧sub x v=sub' x v)→zT row sub e g gh l=zT row' sub' e g gh l
 | _,_,[],_=>rfl
 | g,gh,x :: l,h=>by
  have h1:=h x List.mem_cons_self (gh 0)
  rw [zT,zT,thg,thg,h1.1,h1.2,wb _ _ l fun z hz=>h z (List.mem_cons_of_mem _ hz)]
theorem xB (hs:List Nat) (L:List As) (i:Nat):(hol hs L)[i]?=if i < L.length then some (if i∈hs then emp else (L[i]?).getD emp) else none:=by
 unfold hol
 by_cases c:i < L.length
 ·rw [List.getElem?_map,List.getElem?_range c,if_pos c];rfl
 ·rw [List.getElem?_eq_none (by simp;omega),if_neg c]
theorem jM (hs:List Nat) (L:List As):(hol hs L).length=L.length:=by simp [hol]
theorem qiP {hs:List Nat} {L:List As} {i:Nat} {A:As} (h:L[i]?=some A) (hn:i ∉ hs):(hol hs L)[i]?=some A:=by
 rw [xB,if_pos (List.getElem?_eq_some_iff.1 h).1,if_neg hn,h];rfl
theorem qhH {hs hs':List Nat} {L:List As} {i:Nat} (h:∀ q,q∈hs'↔q=i∨q∈hs):(hol hs L).set i emp=hol hs' L:=by
 apply List.ext_getElem?
 intro q
 rw [List.getElem?_set,xB,xB,jM]
 by_cases c:i=q
 ·subst c
  by_cases c2:i < L.length
  ·rw [if_pos rfl,if_pos c2,if_pos c2,if_pos ((h i).2 (.inl rfl))]
  ·rw [if_pos rfl,if_neg c2,if_neg c2]
 ·rw [if_neg c]
  by_cases c2:q < L.length
  ·rw [if_pos c2,if_pos c2]
   by_cases c3:q∈hs
   ·rw [if_pos c3,if_pos ((h q).2 (.inr c3))]
   ·rw [if_neg c3,if_neg fun h'=>((h q).1 h').elim (fun e=>c e.symm) c3]
  ·rw [if_neg c2,if_neg c2]
theorem qiO {hs hs':List Nat} {L:List As} {i:Nat} {A:As} (h:∀ q,q∈hs'↔q=i∨q∈hs) (hn:i ∉ hs):(hol hs' L).set i A=hol hs (L.set i A):=by
 apply List.ext_getElem?
 intro q
 rw [List.getElem?_set,xB,xB,jM,List.length_set,List.getElem?_set]
 by_cases c:i=q
 ·subst c
  by_cases c2:i < L.length
  ·simp [c2,hn]
  ·rw [if_pos rfl,if_neg c2,if_neg c2]
 ·rw [if_neg c,if_neg c]
  by_cases c2:q < L.length
  ·rw [if_pos c2,if_pos c2]
   by_cases c3:q∈hs
   ·rw [if_pos c3,if_pos ((h q).2 (.inr c3))]
   ·rw [if_neg c3,if_neg fun h'=>((h q).1 h').elim (fun e=>c e.symm) c3]
  ·rw [if_neg c2,if_neg c2]
theorem qhI {hs:List Nat} {L:List As} {A:As} (h:∀ i∈hs,i < L.length):hol hs (L++[A])=hol hs L++[A]:=by
 apply List.ext_getElem?
 intro q
 have hl:=jM hs L
 rw [xB,List.length_append,List.length_singleton]
 by_cases c:q < L.length
 ·rw [if_pos (by omega),List.getElem?_append_left c,List.getElem?_append_left (by omega),xB,if_pos c]
 ·rw [List.getElem?_append_right (l₁:=hol hs L) (by omega),hl]
  by_cases c2:q=L.length
  ·subst c2
   rw [if_pos (by omega),if_neg fun hq=>absurd (h _ hq) (by omega),List.getElem?_append_right (Nat.le_refl _),Nat.sub_self];rfl
  ·rw [if_neg (by omega),List.getElem?_eq_none (by simp;omega)]
end lists
def Gr (g:Nat→Nat) (n:Nat) (g':Nat→Nat) (n':Nat):Prop:=n≤n'∧∀ i,i < n→g' i=g i
theorem Gr.refl (g:Nat→Nat) (n:Nat):Gr g n g n:=⟨Nat.le_refl _,fun _ _=>rfl⟩
theorem Gr.trans {g g' g2:Nat→Nat} {n n' n2:Nat} (h:Gr g n g' n') (h':Gr g' n' g2 n2):Gr g n g2 n2:=⟨Nat.le_trans h.1 h'.1,fun i hi=>(h'.2 i (Nat.lt_of_lt_of_le hi h.1)).trans (h.2 i hi)⟩
theorem Gr.upd {α:Type} {g g':Nat→Nat} {n:Nat} {l z:List α} {a:Int} {x:α} (h:Gr g n g' l.length) (hu:upd l a x=some z):Gr g n g' z.length:=by
 rw [(jh hu).2.2,List.length_set];exact h
theorem qf3 {g g':Nat→Nat} {n n':Nat} {x:Int} (h:Gr g n g' n') (hx:x < n):VP g x=VP g' x:=by
 unfold VP
 split
 ·rfl
 ·rw [h.2 _ (by omega)]
theorem qf5 {g g':Nat→Nat} {n n':Nat} {l:List Int} (h:Gr g n g' n') (hx:∀ x∈l,x < n):l.map (PR g)=l.map (PR g'):=List.map_congr_left fun x hm=>by rw [PR,PR,qf3 h (hx x hm)]
theorem wy {α:Type} {l:List α} {x:α} {q:Int} {u:α} (h:idx l q=some u):idx (l++[x]) q=some u:=by
 obtain ⟨h0,h1,h2⟩:=qm h
 unfold idx
 rw [if_pos h0,List.getElem?_append_left (by omega),h2]
def ck (p:Prop) [Decidable p]:Option Unit:=if p then some () else none
theorem qH {p:Prop} [Decidable p] {u:Unit} (h:ck p=some u):p:=by
 unfold ck at h
 split at h
 ·assumption
 ·cases h
@[simp] theorem xn {p:Prop} [Decidable p] (h:p):ck p=some ():=if_pos h
def qcD {α:Type} (l:List α) (x:α):Option (Int×List α):=some ((l.length:Int),l++[x])
theorem jG {g:Nat→Nat} (l:List Int):Plain (l.map (PR g)):=by
 intro r hr u hu
 obtain ⟨x,_,rfl⟩:=List.mem_map.1 hr
 simp only [PR,List.mem_singleton] at hu
 subst hu
 unfold VP
 split <;> rfl
theorem qbD (g:Nat→Nat) (i:Int):VP g i=.pointer none∨∃ ad,VP g i=.pointer (some ad):=by
 unfold VP
 split
 ·exact .inl rfl
 ·exact .inr ⟨_,rfl⟩
theorem qbC (g:Nat→Nat) (i:Int):(VP g i).oneCell'=true:=by unfold VP;split <;> rfl
theorem zG (g:Nat→Nat) (i:Int):(VP g i).cells=#[VP g i]:=by unfold VP;split <;> rfl
section
variable {P:Program} {Q:Exit→Act→World→Prop} {n:Nat} {C:World→Prop} {fs:Fr} {t:TypeId} {ops:Array Oper} {rest:List Oper} {d:Nat} {pos:String} {af:Array Edge}
variable {w0 w w':World} {own:List Nat} {m m':List As} {x y z:Operand} {e te tx ty:TypeId} {i j k kk q p s c jj jc o:Nat} {v u V:Value} {b:Nat}
variable {α ρ:Type} {r:ρ} {row:α→List Value→List Value} {sub:α→List Value→List As} {g:Nat→Nat} {gh:Nat→List Value} {l:List α} {a:Int} {u0 u1:α} {f:List α→Option ρ} {hs hs':List Nat}
theorem qaT (h:0≤a):VP g a=pt (g a.toNat) 0:=if_neg (by omega)
theorem Y.apNil (hx:val fs x=some (VP g a)) (h:idx l a=some u0):Y P (.nilCheck x) t n fs C (pt (g a.toNat) 0):=by
 rw [qaT (qm h).1] at hx
 exact Y.nilCheck hx
theorem V2.apNil {ops:Array Oper} {S:Array Bool→World→Prop} {C Z:World→Prop} {listed:Array Bool} {g0:Option (Nat×Bool)} (hn:Nx2 ops S Z listed i ⟨some d,.nilCheck x,t,pos,af,g0⟩) (hg:xM ops fs g0=true) (hd:Nat.blt d n=true) (hx:val fs x=some (VP g a)) (h:idx l a=some u0)
  (next:V2 P ops Q n S (listed.setIfInBounds i true) k C ((d,pt (g a.toNat) 0) :: fs)):V2 P ops Q n S listed (k+1) C fs:=by
 rw [qaT (qm h).1] at hx
 exact V2.nilc hn hg hd hx next
theorem Y.eqlAN {e:TypeId} (hu:P.underlying tx=some (.pointer e)) (hx:val fs x=some (VP g a)) (hy:val fs y=some (.pointer none)):Y P (.binOp .eql tx x y ty) t n fs C (.bool (decide (a < 0))):=by
 by_cases c:a < 0
 ·have h1:VP g a=.pointer none:=if_pos c
  rw [h1] at hx
  rw [decide_eq_true c]
  exact Y.eqlP (p:=none) hu hx hy
 ·rw [qaT (by omega)] at hx
  rw [decide_eq_false c]
  exact Y.eqlP (p:=some ⟨g a.toNat,0,none⟩) hu hx hy
theorem Y.neqAN {e:TypeId} (hu:P.underlying tx=some (.pointer e)) (hx:val fs x=some (VP g a)) (hy:val fs y=some (.pointer none)):Y P (.binOp .neq tx x y ty) t n fs C (.bool (decide (0≤a))):=by
 by_cases c:a < 0
 ·have h1:VP g a=.pointer none:=if_pos c
  rw [h1] at hx
  rw [decide_eq_false (by omega)]
  exact Y.neqP (p:=none) hu hx hy
 ·rw [qaT (by omega)] at hx
  rw [decide_eq_true (by omega)]
  exact Y.neqP (p:=some ⟨g a.toNat,0,none⟩) hu hx hy
theorem qa6 {L:List As} {A:As} {K:Nat} (h:L[K]?=some A):((A :: L.set K emp).flatMap As.foot).Perm (L.flatMap As.foot):=by
 induction L generalizing K with
 | nil=>simp at h
 | cons z L ih =>
  cases K with
  | zero =>
   simp only [List.getElem?_cons_zero,Option.some.injEq] at h
   subst h
   simp [emp,As.foot]
  | succ K =>
   simp only [List.getElem?_cons_succ] at h
   have:=ih h
   rw [List.set_cons_succ]
   simp only [List.flatMap_cons] at this ⊢
   refine List.Perm.trans ?_ (List.Perm.append_left _ this)
   rw [← List.append_assoc,← List.append_assoc]
   exact List.Perm.append_right _ List.perm_append_comm
theorem qeu (w:World):emp.holds w:=fun d hd=>by cases hd
theorem Cls.out {L:List As} {A:As} {K:Nat} (hw:Cls w0 own (.any (qz L) :: m) w) (hK:L[K]?=some A):Cls w0 own (A :: .any (qz (L.set K emp)) :: m) w:=by
 have hall:∀ x∈L,x.holds w:=(hw.mine _ List.mem_cons_self).1
 refine hw.rePerm ?_ fun x hx=>?_
 ·simp only [List.flatMap_cons]
  rw [← List.append_assoc]
  exact List.Perm.append_right _ (by have:=qa6 hK;simp only [List.flatMap_cons] at this;exact this)
 ·rcases List.mem_cons.1 hx with rfl | hx
  ·exact hall _ (List.mem_of_getElem? hK)
  ·rcases List.mem_cons.1 hx with rfl | hx
   ·intro y hy
    rcases List.mem_or_eq_of_mem_set hy with h2 | rfl
    ·exact hall y h2
    ·exact qeu w
   ·exact (hw.mine x (List.mem_cons_of_mem _ hx)).1
theorem Cls.into {L:List As} {A:As} {K:Nat} (hw:Cls w0 own (A :: .any (qz L) :: m) w) (hK:L[K]?=some emp):Cls w0 own (.any (qz (L.set K A)) :: m) w:=by
 have hall:∀ x∈L,x.holds w:=(hw.mine (.any (qz L)) (by simp)).1
 have hKl:=(List.getElem?_eq_some_iff.1 hK).1
 have hKA:(L.set K A)[K]?=some A:=by rw [List.getElem?_set_self hKl]
 have hback:(L.set K A).set K emp=L:=by
  rw [List.set_set]
  apply List.ext_getElem?
  intro q
  rw [List.getElem?_set]
  by_cases c:K=q
  ·subst c;rw [if_pos rfl,if_pos hKl,hK]
  ·rw [if_neg c]
 refine hw.rePerm ?_ fun x hx=>?_
 ·have h1:=qa6 hKA
  rw [hback] at h1
  simp only [List.flatMap_cons] at h1 ⊢
  rw [← List.append_assoc]
  exact List.Perm.append_right _ h1.symm
 ·rcases List.mem_cons.1 hx with rfl | hx
  ·intro y hy
   rcases List.mem_or_eq_of_mem_set hy with h2 | rfl
   ·exact hall y h2
   ·exact (hw.mine y List.mem_cons_self).1
  ·exact (hw.mine x (by simp [hx])).1
theorem Cls.spread {S:List As} (hw:Cls w0 own (.any (qz S) :: m) w):Cls w0 own (S++m) w:=by
 refine hw.rePerm ?_ fun x hx=>?_
 ·rw [List.flatMap_append,List.flatMap_cons];exact List.Perm.refl _
 ·rcases List.mem_append.1 hx with h | h
  ·exact (hw.mine _ List.mem_cons_self).1 x h
  ·exact (hw.mine x (List.mem_cons_of_mem _ h)).1
theorem Cls.gather {S:List As} (hw:Cls w0 own (S++m) w):Cls w0 own (.any (qz S) :: m) w:=by
 refine hw.rePerm ?_ fun x hx=>?_
 ·rw [List.flatMap_append,List.flatMap_cons];exact List.Perm.refl _
 ·rcases List.mem_cons.1 hx with rfl | h
  ·exact fun y hy=>(hw.mine y (List.mem_append_left _ hy)).1
  ·exact (hw.mine x (List.mem_append_right _ h)).1
theorem Cls.arOpen (hw:Cls w0 own m w) (hm:m[p]?=some (arn row sub e g gh l hs)) (hi:idx l a=some u0) (hn:a.toNat ∉ hs) :
  Cls w0 own (thg row sub e (g a.toNat) (gh a.toNat) u0++arn row sub e g gh l (a.toNat :: hs) :: m.eraseIdx p) w:=by
 obtain ⟨hpl,hpe⟩:=List.getElem?_eq_some_iff.1 hm
 have h1:=hw.perm (qK m p _ hm).symm
 have h2:=h1.out (qiP (qgw g gh l _ _ (qm hi).2.2) hn)
 have h3:=h2.spread
 rwa [qhH (hs':=a.toNat :: hs) fun q=>by simp] at h3
theorem Cls.arShut0 {zz:List α} {vs':List Value} (is:List Nat) (hw:Cls w0 own m w) (hz:upd l a u1=some zz) (hn:is.Nodup) (hm:is.map (m[·]?)=((thg row sub e (g a.toNat) vs' u1)++arn row sub e g gh l hs' :: m').map some) (hh:∀ q,q∈hs'↔q=a.toNat∨q∈hs) (hq:a.toNat ∉ hs) :
  Cls w0 own (arn row sub e g (xY gh a.toNat vs') zz hs :: m') w:=by
 have h1:=(hw.sel is hn hm).gather
 have hlt:a.toNat < l.length:=by have:=jh hz;omega
 have h2:=h1.into (K:=a.toNat) (by rw [xB,kB,if_pos hlt,if_pos ((hh _).2 (.inl rfl))])
 rw [qiO hh hq,← qgv,← (jh hz).2.2] at h2
 exact h2
theorem Cls.arShut (is:List Nat) (hw:Cls w0 own m w) (hi:idx l a=some u0) (hn:is.Nodup) (hm:is.map (m[·]?)=((thg row sub e (g a.toNat) (gh a.toNat) u0)++arn row sub e g gh l hs' :: m').map some) (hh:∀ q,q∈hs'↔q=a.toNat∨q∈hs) (hq:a.toNat ∉ hs) :
  Cls w0 own (arn row sub e g gh l hs :: m') w:=by
 have h0:=qm hi
 have h1:=Cls.arShut0 (zz:=l) is hw (show upd l a u0=some l by unfold upd;rw [if_pos ⟨h0.1,h0.2.1⟩,kp h0.2.2]) hn hm hh hq
 rwa [qee] at h1
theorem L.arClose {zz:List α} {vs':List Value} (is:List Nat) (hz:upd l a u1=some zz) (hn:is.Nodup) (hm:is.map (m[·]?)=((thg row sub e (g a.toNat) vs' u1)++arn row sub e g gh l hs' :: m').map some) (hh:∀ q,q∈hs'↔q=a.toNat∨q∈hs) (hq:a.toNat ∉ hs)
  {ll:List Oper} (next:∀ gh',L P ops Q n (Cls w0 own (arn row sub e g gh' zz hs :: m')) ll fs):L P ops Q n (Cls w0 own m) ll fs:=fun ac w hs hw=>next _ ac w hs (hw.arShut0 is hz hn hm hh hq)
theorem W.arClose {zz:List α} {vs':List Value} (is:List Nat) (hz:upd l a u1=some zz) (hn:is.Nodup) (hm:is.map (m[·]?)=((thg row sub e (g a.toNat) vs' u1)++arn row sub e g gh l hs' :: m').map some) (hh:∀ q,q∈hs'↔q=a.toNat∨q∈hs) (hq:a.toNat ∉ hs)
  {ll:Code} (next:∀ gh',W P Q n (Cls w0 own (arn row sub e g gh' zz hs :: m')) ll fs):W P Q n (Cls w0 own m) ll fs:=fun ac w hs hw=>next _ ac w hs (hw.arShut0 is hz hn hm hh hq)
theorem E.arClose {zz:List α} {vs':List Value} (is:List Nat) (hz:upd l a u1=some zz) (hn:is.Nodup) (hm:is.map (m[·]?)=((thg row sub e (g a.toNat) vs' u1)++arn row sub e g gh l hs' :: m').map some) (hh:∀ q,q∈hs'↔q=a.toNat∨q∈hs) (hq:a.toNat ∉ hs)
  {ll:Exit} (next:∀ gh',E ll Q n (Cls w0 own (arn row sub e g gh' zz hs :: m')) fs):E ll Q n (Cls w0 own m) fs:=fun ac w hs hw=>next _ ac w hs (hw.arShut0 is hz hn hm hh hq)
theorem E.to {C D:World→Prop} {x:Exit} (hd:∀ w,C w→D w) (h:E x Q n D fs):E x Q n C fs:=fun a w hs hc=>h a w hs (hd w hc)
theorem Cls.arNew {rowg:(Nat→Nat)→α→List Value→List Value} {subg:(Nat→Nat)→α→List Value→List As} {vs':List Value} (is:List Nat) (hw:Cls w0 own m w) (hn:is.Nodup) (hm:is.map (m[·]?)=((thg (rowg g) (subg g) e b vs' u1)++arn (rowg g) (subg g) e g gh l hs :: m').map some) (hh:∀ q∈hs,q < l.length)
  (hc:∀ g',(∀ i,i < l.length→g' i=g i)→∀ x∈l++[u1],∀ v,rowg g x v=rowg g' x v∧subg g x v=subg g' x v) :
  ∃ g' gh',Gr g l.length g' (l++[u1]).length∧pt b 0=VP g' (l.length:Int)∧Cls w0 own (arn (rowg g') (subg g') e g' gh' (l++[u1]) hs :: m') w:=by
 have hg:∀ i,i < l.length→qdb g l.length b i=g i:=fun i hi=>by simp [qdb,hi]
 refine ⟨qdb g l.length b,qfJ gh (fun _=>vs') l.length,⟨by simp,hg⟩,?_,?_⟩
 ·rw [qaT (by omega)];simp [qdb]
 ·have h1:=(hw.sel is hn hm).gather
  unfold arn
  rw [← wb _ _ _ (hc _ hg),qgx,qhI (by rw [kB];exact hh)]
  have hperm:((hol hs (zT (rowg g) (subg g) e g gh l)++[As.any (qz (thg (rowg g) (subg g) e b vs' u1))]).flatMap As.foot).Perm ((As.any (qz (thg (rowg g) (subg g) e b vs' u1)) :: hol hs (zT (rowg g) (subg g) e g gh l)).flatMap As.foot) :=
   (List.perm_append_comm).flatMap_right _
  refine h1.rePerm ?_ fun x hx=>?_
  ·simp only [List.flatMap_cons] at hperm ⊢
   rw [← List.append_assoc]
   exact List.Perm.append_right _ hperm
  ·rcases List.mem_cons.1 hx with rfl | hx
   ·intro y hy
    rcases List.mem_append.1 hy with h | h
    ·exact (h1.mine (arn (rowg g) (subg g) e g gh l hs) (by simp)).1 y h
    ·rw [List.mem_singleton.1 h];exact (h1.mine _ List.mem_cons_self).1
   ·exact (h1.mine x (by simp [hx])).1
theorem L.arNew {rowg:(Nat→Nat)→α→List Value→List Value} {subg:(Nat→Nat)→α→List Value→List As} {vs':List Value} {F:Int→List α→Option ρ} (is:List Nat) (h:qI (qcD l u1) F=some r) (hn:is.Nodup) (hm:is.map (m[·]?)=((thg (rowg g) (subg g) e b vs' u1)++arn (rowg g) (subg g) e g gh l hs :: m').map some) (hh:∀ q∈hs,q < l.length)
  (hc:∀ g',(∀ i,i < l.length→g' i=g i)→∀ x∈l++[u1],∀ v,rowg g x v=rowg g' x v∧subg g x v=subg g' x v) {ll:List Oper}
  (next:∀ g' gh' x z,F x z=some r→Gr g l.length g' z.length→pt b 0=VP g' x→(∀ {q:Int} {u:α},idx l q=some u→idx z q=some u)→L P ops Q n (Cls w0 own (arn (rowg g') (subg g') e g' gh' z hs :: m')) ll fs):L P ops Q n (Cls w0 own m) ll fs:=by
 intro ac w hs hw
 obtain ⟨g',gh',h1,h2,h3⟩:=hw.arNew is hn hm hh hc
 exact next g' gh' _ _ h h1 h2 wy ac w hs h3
theorem E.arNew {rowg:(Nat→Nat)→α→List Value→List Value} {subg:(Nat→Nat)→α→List Value→List As} {vs':List Value} {F:Int→List α→Option ρ} (is:List Nat) (h:qI (qcD l u1) F=some r) (hn:is.Nodup) (hm:is.map (m[·]?)=((thg (rowg g) (subg g) e b vs' u1)++arn (rowg g) (subg g) e g gh l hs :: m').map some) (hh:∀ q∈hs,q < l.length)
  (hc:∀ g',(∀ i,i < l.length→g' i=g i)→∀ x∈l++[u1],∀ v,rowg g x v=rowg g' x v∧subg g x v=subg g' x v) {ll:Exit}
  (next:∀ g' gh' x z,F x z=some r→Gr g l.length g' z.length→pt b 0=VP g' x→(∀ {q:Int} {u:α},idx l q=some u→idx z q=some u)→E ll Q n (Cls w0 own (arn (rowg g') (subg g') e g' gh' z hs :: m')) fs):E ll Q n (Cls w0 own m) fs:=by
 intro ac w hs hw
 obtain ⟨g',gh',h1,h2,h3⟩:=hw.arNew is hn hm hh hc
 exact next g' gh' _ _ h h1 h2 wy ac w hs h3
theorem qe4 {β γ:Type} {l':List β} {l2:List γ} {c:Int} {v1:β} {v2:γ} (hne:a≠c) (ha:idx l' a=some v1) (hb:idx l2 c=some v2) (ht:a.toNat ∉ hs):a.toNat ∉ c.toNat :: hs:=by
 have h1:=(qm ha).1
 have h2:=(qm hb).1
 rw [List.mem_cons,not_or]
 exact ⟨by omega,ht⟩
theorem qeE {row':α→List Value→List Value} {sub':α→List Value→List As} (h:∀ x∈l,∀ v,row x v=row' x v∧sub x v=sub' x v):arn row sub e g gh l hs=arn row' sub' e g gh l hs:=by
 unfold arn
 rw [wb _ _ _ h]
theorem Cls.ar0 (hw:Cls w0 own m w) (row:α→List Value→List Value) (sub:α→List Value→List As) (e:TypeId) (g:Nat→Nat) (gh:Nat→List Value):Cls w0 own (arn row sub e g gh ([]:List α) [] :: m) w:=by
 have:Cls w0 own ([]++m) w:=hw
 exact this.gather
end
end Go.S
end
section
namespace Go.S
section
variable {v v':Value} {e:TypeId} {k:Nat} {rows rows' more:List (List Value)} {w0 w w':World} {own:List Nat} {m:List As} {i:Nat}
theorem tlHolds.drop (h:tlHolds w v e k rows) (l:Nat) (hl:l≤rows.length):tlHolds w (zQ v l k) e k (rows.drop l):=by
 obtain ⟨h1,h3⟩:=h
 refine ⟨fun r hr=>h1 r (List.mem_of_mem_drop hr),?_⟩
 rcases h3 with ⟨rfl,rfl⟩ | ⟨g,off,cap,cur,rfl,hg,hn,hc,hs,ht⟩
 ·exact .inl ⟨by simp [zQ],by simp⟩
 ·by_cases hz:cap - l=0
  ·have hl2:rows.length - l=0:=by omega
   refine .inr ⟨g,off,0,cur,by simp [zQ,hz],hg,by simp;omega,by simp [maxLen],by omega,?_⟩
   rw [List.length_drop,hl2]
   simp [List.drop_eq_nil_of_le (show rows.length≤l by omega)]
  ·refine .inr ⟨g,off+l*k,cap - l,cur,by simp [zQ,hz,Addr.add_lit],hg,by simp;omega,by omega,?_,?_⟩
   ·have:cap*k=l*k+(cap - l)*k:=by rw [← Nat.add_mul];congr 1;omega
    omega
   ·rw [List.length_drop]
    have e1:(rows.drop l).flatten=rows.flatten.drop (l*k):=by
     have h4:rows.flatten=(rows.take l).flatten++(rows.drop l).flatten:=by rw [← List.flatten_append,List.take_append_drop]
     have h5:(rows.take l).flatten.length=l*k:=by
      rw [zn _ (fun r hr=>h1 r (List.mem_of_mem_take hr)),List.length_take,Nat.min_eq_left hl]
     rw [h4,← h5,List.drop_left]
    rw [e1,← ht,List.drop_take,List.drop_drop,Nat.sub_mul]
end
section
variable {P:Program} {v v':Value} {e:TypeId} {k:Nat} {rows rows' more:List (List Value)} {w:World}
end
section
variable {P:Program} {Q:Exit→Act→World→Prop} {n:Nat} {fs:Fr} {t:TypeId} {ops:Array Oper} {rest:List Oper} {d:Nat} {pos:String} {af:Array Edge}
variable {w0:World} {own:List Nat} {m:List As} {x y:Operand} {e tx:TypeId} {i k by':Nat} {v u:Value}
end
end Go.S
end
section
namespace Go.S
def qjZ {α0 α1 α2 α3 α4 α5 α6 α7 α8 ρ:Type} (o:Option (α0×α1×α2×α3×α4×α5×α6×α7×α8)) (f:α0→α1→α2→α3→α4→α5→α6→α7→α8→Option ρ):Option ρ:=match o with
 | some (x0,x1,x2,x3,x4,x5,x6,x7,x8)=>f x0 x1 x2 x3 x4 x5 x6 x7 x8
 | none=>none
@[simp] theorem qij {α0 α1 α2 α3 α4 α5 α6 α7 α8 ρ:Type} (x0:α0) (x1:α1) (x2:α2) (x3:α3) (x4:α4) (x5:α5) (x6:α6) (x7:α7) (x8:α8) (f:α0→α1→α2→α3→α4→α5→α6→α7→α8→Option ρ):qjZ (some (x0,x1,x2,x3,x4,x5,x6,x7,x8)) f=f x0 x1 x2 x3 x4 x5 x6 x7 x8:=rfl
def qjb {α0 α1 α2 α3 α4 α5 α6 α7 α8 α9 ρ:Type} (o:Option (α0×α1×α2×α3×α4×α5×α6×α7×α8×α9)) (f:α0→α1→α2→α3→α4→α5→α6→α7→α8→α9→Option ρ):Option ρ:=match o with
 | some (x0,x1,x2,x3,x4,x5,x6,x7,x8,x9)=>f x0 x1 x2 x3 x4 x5 x6 x7 x8 x9
 | none=>none
@[simp] theorem qh0 {α0 α1 α2 α3 α4 α5 α6 α7 α8 α9 ρ:Type} (x0:α0) (x1:α1) (x2:α2) (x3:α3) (x4:α4) (x5:α5) (x6:α6) (x7:α7) (x8:α8) (x9:α9) (f:α0→α1→α2→α3→α4→α5→α6→α7→α8→α9→Option ρ):qjb (some (x0,x1,x2,x3,x4,x5,x6,x7,x8,x9)) f=f x0 x1 x2 x3 x4 x5 x6 x7 x8 x9:=rfl
def qja {α β ρ:Type} (o:Option (α ⊕ β)) (f:α→Option ρ) (g:β→Option ρ):Option ρ:=match o with
 | some (.inl x)=>f x
 | some (.inr y)=>g y
 | none=>none
@[simp] theorem qi9 {α β ρ:Type} (x:α) (f:α→Option ρ) (g:β→Option ρ):qja (some (.inl x)) f g=f x:=rfl
@[simp] theorem qi8 {α β ρ:Type} (y:β) (f:α→Option ρ) (g:β→Option ρ):qja (some (.inr y)) f g=g y:=rfl
section
variable {v:Value} {k:Nat} {rows:List (List Value)} {w0 w w':World} {own F:List Nat} {m A M:List As}
theorem StbF.cls0 (h:StbF (fun w=>At w v k rows) w F) (hw:Cls w F m w'):At w' v k rows:=h w' hw.os hw.tape hw.output hw.size hw.old
theorem At.lendS (h:At w0 v k rows) (hw:Cls w0 [] (A++M) w'):StbF (fun w=>At w v k rows) w' (A.flatMap As.foot):=fun w'' h1 h2 h3 h4 h5=>by
 refine ⟨h.shape,h.len,fun i r j x q1 q2=>?_⟩
 have hx:=h.cell i r j x q1 q2
 have hlt:=World.block_lt_of_cell? w0 _ hx
 rw [World.cell?_of_block (w:=w0)]
 ·exact hx
 ·rw [h5 _ (Nat.lt_of_lt_of_le hlt hw.size) (hw.lent_no hlt (by simp)),hw.old _ hlt (by simp)]
end
end Go.S
end
section
namespace Go.S
theorem sl0 {S:List (List Value)}:(S.take 0).flatten.length=0:=by simp
theorem sl1 {X:List Value} {S:List (List Value)} {i a p:Nat} (h:X.length=a) (hs:(S.take i).flatten.length=p):((X :: S).take (i+1)).flatten.length=a+p:=by
 rw [List.take_succ_cons,List.flatten_cons,List.length_append,h,hs]
theorem wo:∀ {S:List (List Value)} {i p q:Nat} {X:List Value} {v:Value},S[i]?=some X→(S.take i).flatten.length=p→X[q]?=some v→S.flatten[p+q]?=some v
 | [],i,p,q,X,v,hS,_,_=>by simp at hS
 | Y :: S,0,p,q,X,v,hS,hp,hv=>by
  simp only [List.getElem?_cons_zero,Option.some.injEq] at hS
  subst hS
  simp only [List.take_zero,List.flatten_nil,List.length_nil] at hp
  subst hp
  rw [Nat.zero_add,List.flatten_cons,List.getElem?_append_left (List.getElem?_eq_some_iff.1 hv).1]
  exact hv
 | Y :: S,i+1,p,q,X,v,hS,hp,hv=>by
  simp only [List.getElem?_cons_succ] at hS
  rw [List.take_succ_cons,List.flatten_cons,List.length_append] at hp
  rw [List.flatten_cons,List.getElem?_append_right (by omega),show p+q - Y.length=(S.take i).flatten.length+q by omega]
  exact wo hS rfl hv
theorem jH:∀ (vals:List Value) (A B:List Value) (q:Nat),over (A++B) (A.length+q) vals=A++over B q vals
 | [],A,B,q=>rfl
 | v :: vals,A,B,q=>by
  rw [over,over,List.set_append_right _ _ (by omega),show A.length+q - A.length=q by omega,Nat.add_assoc]
  exact jH vals A _ (q+1)
theorem kM:∀ (vals:List Value) (A B:List Value) (q:Nat),q+vals.length≤A.length→over (A++B) q vals=over A q vals++B
 | [],A,B,q,_=>rfl
 | v :: vals,A,B,q,h=>by
  simp only [List.length_cons] at h
  rw [over,over,List.set_append_left _ _ (by omega)]
  exact kM vals _ B (q+1) (by rw [List.length_set];omega)
theorem kq:∀ {S:List (List Value)} {i p q:Nat} {X vals:List Value},S[i]?=some X→(S.take i).flatten.length=p→q+vals.length≤X.length→over S.flatten (p+q) vals=(S.set i (over X q vals)).flatten
 | [],i,p,q,X,vals,hS,_,_=>by simp at hS
 | Y :: S,0,p,q,X,vals,hS,hp,hv=>by
  simp only [List.getElem?_cons_zero,Option.some.injEq] at hS
  subst hS
  simp only [List.take_zero,List.flatten_nil,List.length_nil] at hp
  subst hp
  rw [Nat.zero_add,List.flatten_cons,kM _ _ _ _ hv]
  rfl
 | Y :: S,i+1,p,q,X,vals,hS,hp,hv=>by
  simp only [List.getElem?_cons_succ] at hS
  rw [List.take_succ_cons,List.flatten_cons,List.length_append] at hp
  rw [List.flatten_cons,show p+q=Y.length+((S.take i).flatten.length+q) by omega,jH,kq hS rfl hv]
  rfl
theorem wn:∀ {S:List (List Value)} {i p:Nat} {X:List Value},S[i]?=some X→(S.take i).flatten.length=p→p+X.length≤S.flatten.length
 | [],i,p,X,hS,_=>by simp at hS
 | Y :: S,0,p,X,hS,hp=>by
  simp only [List.getElem?_cons_zero,Option.some.injEq] at hS
  subst hS
  simp only [List.take_zero,List.flatten_nil,List.length_nil] at hp
  subst hp
  rw [List.flatten_cons,List.length_append];omega
 | Y :: S,i+1,p,X,hS,hp=>by
  simp only [List.getElem?_cons_succ] at hS
  rw [List.take_succ_cons,List.flatten_cons,List.length_append] at hp
  have:=wn hS rfl
  rw [List.flatten_cons,List.length_append];omega
section
variable {P:Program} {Q:Exit→Act→World→Prop} {n:Nat} {C:World→Prop} {fs:Fr} {t:TypeId} {ops:Array Oper} {rest:List Oper} {d:Nat} {pos:String} {af:Array Edge}
variable {w0 w:World} {own:List Nat} {m:List As} {x y:Operand} {e te tx ty:TypeId} {i j k kk by' p q s c jj b si ps nn:Nat} {v u:Value} {o:Nat} {vals X:List Value} {S:List (List Value)}
variable {α ρ:Type} {r:ρ} {row:α→List Value→List Value} {sds:α→List Value→List Sd} {vs:Nat→List Value} {l:List α} {a:Int} {u0 u1:α} {f:List α→Option ρ}
theorem zrN (hlen:∀ z v,(row z v).length=k) (hl:l.length=nn):(zr row vs l).flatten.length=nn*k:=by rw [qdh hlen,hl]
theorem Y.indexAS {len:Nat} {ik:IntKind} (hu:P.underlying tx=some (.array len e)) (hsz:szB P e k=true) (hx:val fs x=some (pt b o)) (hy:val fs y=some (.int ik a)) (z:α) (hr:za len l a=some z) :
  Y P (.indexAddr tx x y) t n fs C (pt b (o+a.toNat*k)):=Y.indexP hu hsz hx hy (qm (qt hr)).1 (wA hr)
theorem L.toSeg {S:List (List Value)} {cs:List Value} {ll:List Oper} (hc:cs=S.flatten) (next:L P ops Q n (Cls w0 own (.obj b S.flatten e :: m)) ll fs):L P ops Q n (Cls w0 own (.obj b cs e :: m)) ll fs:=by
 subst hc;exact next
theorem L.ssNil {ll:List Oper} {xs:List α} (hn:∀ d∈zs sds vs xs,d.v=.slice none 0 0∧d.rows=[]) (next:L P ops Q n (Cls w0 own (.ss (zs sds vs xs) :: m)) ll fs):L P ops Q n (Cls w0 own m) ll fs :=
 L.to (fun w hw=>hw.ssNew hn) next
theorem Y.loadG (ha:zb P te false=true) (hx:val fs x=some (pt b o)) (ho:o=ps+j) (hm:m[q]?=some (.obj b S.flatten e)) (hS:S[si]?=some X) (hp:(S.take si).flatten.length=ps) (hv:X[j]?=some v) :
  Y P (.load te x) t n fs (Cls w0 own m) v:=by
 subst ho
 exact Y.loadP ha hx hm (wo hS hp hv)
theorem L.storeG (hs:szB P te kk=true) (hx:val fs x=some (pt b o)) (ho:o=ps+j) (hy:val fs y=some u) (hu:u.cells.toList=vals) (hk:vals.length=kk) (h1:∀ u∈vals,u.oneCell'=true) (hm:m[q]?=some (.obj b S.flatten e))
  (hS:S[si]?=some X) (hp:(S.take si).flatten.length=ps) (hj:Nat.ble (j+kk) X.length=true) (next:L P ops Q n (Cls w0 own (m.set q (.obj b (S.set si (over X j vals)).flatten e))) rest fs) :
  L P ops Q n (Cls w0 own m) (⟨none,.store te x y,t,pos,af,none⟩ :: rest) fs:=by
 subst ho
 have hj':j+kk≤X.length:=by simpa using hj
 have h2:=wn hS hp
 refine L.store hs hx hy hu hk h1 hm (by omega) ?_
 rwa [kq hS hp (by omega)]
theorem Y.loadZg (ha:zb P te false=true) (hx:val fs x=some (pt b o)) (ho:o=ps+a.toNat*k+j) (hm:m[q]?=some (.obj b S.flatten e)) (hS:S[si]?=some (zr row vs l).flatten) (hp:(S.take si).flatten.length=ps) (hlen:∀ z v,(row z v).length=k) (hr:idx l a=some u0) {pv:Value} (hpv:(row u0 (vs a.toNat))[j]?=some pv) :
  Y P (.load te x) t n fs (Cls w0 own m) pv:=by
 subst ho
 have h1:=qg6 hlen hr hpv
 have h2:=wo hS hp h1
 rw [Nat.zero_add,← Nat.add_assoc] at h2
 exact Y.loadP ha hx hm h2
theorem qaF (hlen:∀ z v,(row z v).length=k) (hr:idx l a=some u0) {v1:List Value} (hj:j+vals.length≤k) (hrow:over (row u0 (vs a.toNat)) j vals=row u1 v1) (hS:S[si]?=some (zr row vs l).flatten) (hp:(S.take si).flatten.length=ps) :
  over S.flatten (ps+a.toNat*k+j) vals=(S.set si (zr row (xY vs a.toNat v1) (l.set a.toNat u1)).flatten).flatten:=by
 have hi:=qm hr
 have hib:(a.toNat+1)*k≤l.length*k:=Nat.mul_le_mul_right k (by omega)
 rw [Nat.succ_mul] at hib
 rw [← qhm hlen hr hj hrow,show ps+a.toNat*k+j=ps+(0+a.toNat*k+j) by omega]
 exact kq hS hp (by rw [qdh hlen];omega)
theorem qav (hlen:∀ z v,(row z v).length=k) (hr:idx l a=some u0) (hj:j+kk≤k) (hS:S[si]?=some (zr row vs l).flatten) (hp:(S.take si).flatten.length=ps):ps+a.toNat*k+j+kk≤S.flatten.length:=by
 have hi:=qm hr
 have hib:(a.toNat+1)*k≤l.length*k:=Nat.mul_le_mul_right k (by omega)
 rw [Nat.succ_mul] at hib
 have h2:=wn hS hp
 rw [qdh hlen] at h2
 omega
theorem qg5 (hc:∀ z v,(sds z v).length=c) (hr:idx l a=some u0) (hsd:sds u1 (vs a.toNat)=sds u0 (vs a.toNat)):zs sds vs (l.set a.toNat u1)=zs sds vs l:=by
 have hi:=qm hr
 by_cases h0:0 < c
 ·have h2:=qdg hc vs l a.toNat 0 u0 u1 (vs a.toNat) ((sds u0 (vs a.toNat))[0]'(by rw [hc];exact h0)) hi.2.2 h0 (by rw [hsd,List.set_getElem_self])
  rw [yT] at h2
  have h3:=vw hc vs l a.toNat 0 u0 hi.2.2 h0
  rw [List.getElem?_eq_getElem (l:=sds u0 (vs a.toNat)) (by rw [hc];exact h0)] at h3
  obtain ⟨h4,h5⟩:=List.getElem?_eq_some_iff.1 h3
  rw [h2,← h5,List.set_getElem_self]
 ·have h6:∀ (vs:Nat→List Value) (xs:List α),zs sds vs xs=[]:=by
   intro vs xs
   induction xs generalizing vs with
   | nil=>rfl
   | cons y ys ih =>
    rw [zs,ih,List.append_nil]
    exact List.eq_nil_of_length_eq_zero (by rw [hc];omega)
  rw [h6,h6]
theorem L.storeZg (h:qb (upd l a u1) f=some r) (hs:szB P te kk=true) (hx:val fs x=some (pt b o)) (ho:o=ps+a.toNat*k+j) (hy:val fs y=some u) (hu:u.cells.toList=vals) (hk:vals.length=kk) (h1:∀ u∈vals,u.oneCell'=true)
  (hm:m[q]?=some (.obj b S.flatten e)) (hS:S[si]?=some (zr row vs l).flatten) (hp:(S.take si).flatten.length=ps) (hms:m[s]?=some (.ss (zs sds vs l))) (hlen:∀ z v,(row z v).length=k) (hr:idx l a=some u0) (hj:Nat.ble (j+kk) k=true) (hrow:over (row u0 (vs a.toNat)) j vals=row u1 (vs a.toNat))
  (hc:∀ z v,(sds z v).length=c) (hsd:sds u1 (vs a.toNat)=sds u0 (vs a.toNat)) (next:∀ z,z=l.set a.toNat u1→f z=some r→L P ops Q n (Cls w0 own ((m.set q (.obj b (S.set si (zr row vs z).flatten).flatten e)).set s (.ss (zs sds vs z)))) rest fs) :
  L P ops Q n (Cls w0 own m) (⟨none,.store te x y,t,pos,af,none⟩ :: rest) fs:=by
 subst ho
 have hj':j+kk≤k:=by simpa using hj
 refine L.store hs hx hy hu hk h1 hm (qav hlen hr hj' hS hp) ?_
 rw [qaF hlen hr (by omega) hrow hS hp,yT]
 have hn:=next _ rfl (ji h rfl)
 have hne:q≠s:=by
  rintro rfl
  rw [hm] at hms
  cases hms
 rwa [qg5 hc hr hsd,kp (m:=m.set q _) (by rw [List.getElem?_set_ne hne];exact hms)] at hn
theorem L.storeZSg (h:qb (upd l a u1) f=some r) (hs:szB P te 1=true) (hx:val fs x=some (pt b o)) (ho:o=ps+a.toNat*k+j) (hy:val fs y=some v) {e':TypeId} {k' jj:Nat} {rows:List (List Value)} {L0:List Sd} {v1:List Value}
  (hm:m[q]?=some (.obj b S.flatten e)) (hS:S[si]?=some (zr row vs l).flatten) (hp0:(S.take si).flatten.length=ps) (hp:m[p]?=some (.sl v e' k' rows)) (hms:m[s]?=some (.ss L0)) (hL:L0=zs sds vs l∨L0=(zs sds vs l).set (a.toNat*c+jj) (Sd.nil 0 0)) (hlen:∀ z v,(row z v).length=k) (hc:∀ z v,(sds z v).length=c) (hr:idx l a=some u0) (hj:Nat.ble (j+1) k=true)
  (hrow:over (row u0 (vs a.toNat)) j [v]=row u1 v1) (hjj:Nat.blt jj c=true) (hsd:sds u1 v1=(sds u0 (vs a.toNat)).set jj ⟨v,e',k',rows⟩)
  (next:∀ z vs',z=l.set a.toNat u1→f z=some r→L P ops Q n (Cls w0 own (((m.set q (.obj b (S.set si (zr row vs' z).flatten).flatten e)).set s (.ss (zs sds vs' z))).eraseIdx p)) rest fs) :
  L P ops Q n (Cls w0 own m) (⟨none,.store te x y,t,pos,af,none⟩ :: rest) fs:=by
 subst ho
 have hj':j+1≤k:=by simpa using hj
 have hjj':jj < c:=by simpa [Nat.blt_eq] using hjj
 refine L.storeV hs hx hy (fun w hw=>(As.at_ (hw.get hp)).one) hm (qav hlen hr hj' hS hp0) ?_
 rw [qaF hlen hr hj' hrow hS hp0]
 refine L.to (fun w hw=>?_) (next _ (xY vs a.toNat v1) rfl (ji h rfl))
 have hqs:q≠s:=by rintro rfl;rw [hm] at hms;cases hms
 have hqp:q≠p:=by rintro rfl;rw [hm] at hp;cases hp
 exact hw.zsPut (by rw [List.getElem?_set_ne hqp];exact hp) (by rw [List.getElem?_set_ne hqs];exact hms) hL hc hr hjj' hsd
end
end Go.S
end
section
namespace Go.S
def fzr {α:Type} (g:α→List Value) (x:α) (_:List Value):List Value:=g x
def sd0 {α:Type} (_:α) (_:List Value):List Sd:=[]
section
variable {K:World→Prop} {c c' c2:List Ob} {v u:Value} {k:Nat} {rows:List (List Value)} {w0 w w':World} {own:List Nat} {m m' A A' M:List As} {e:TypeId} {i j s:Nat}
end
section
variable {K:World→Prop} {c c' c2:List Ob} {P:Program} {Q:Exit→Act→World→Prop} {n:Nat} {fs:Fr} {t:TypeId} {ops:Array Oper} {rest:List Oper} {d:Nat} {pos:String} {af:Array Edge}
variable {w0 w:World} {own:List Nat} {m A M:List As} {x y z:Operand} {e te tx ty:TypeId} {i j k kk by' p q s b si ps o:Nat} {v u:Value} {X:List Value} {S:List (List Value)}
theorem L.storeGV (hs:szB P te 1=true) (hx:val fs x=some (pt b o)) (ho:o=ps+j) (hy:val fs y=some u) (h1:∀ w,Cls w0 own m w→u.oneCell'=true) (hm:m[q]?=some (.obj b S.flatten e))
  (hS:S[si]?=some X) (hp:(S.take si).flatten.length=ps) (hj:Nat.ble (j+1) X.length=true) (next:L P ops Q n (Cls w0 own (m.set q (.obj b (S.set si (over X j [u])).flatten e))) rest fs) :
  L P ops Q n (Cls w0 own m) (⟨none,.store te x y,t,pos,af,none⟩ :: rest) fs:=fun a w hsl hw =>
 L.storeG hs hx ho hy (vf (h1 w hw)) rfl (by simpa using h1 w hw) hm hS hp hj next a w hsl hw
end
end Go.S
end
section
namespace Go.S
def qk (vs:List Value) (n:Nat):Nat→List Value:=fun i=>[gv vs (n+i)]
def ghl (gh:Nat→List Value) (n:Nat):List Value:=(List.range n).map fun i=>gv (gh i) 0
theorem qbq (pre:List Value) (gh:Nat→List Value) (n k i:Nat) (hk:pre.length=k) (hi:i < n):gv (qk (pre++ghl gh n) k i) 0=gv (gh i) 0:=by
 subst hk
 simp [qk,gv,ghl,hi]
theorem qiv {α:Type}:∀ (l:List α) (g g':Nat→List Value),(∀ i,i < l.length→gv (g i) 0=gv (g' i) 0)→zr qi g l=zr qi g' l
 | [],_,_,_=>rfl
 | x :: l,g,g',h=>by
  have h0:=h 0 (by simp)
  rw [zr,zr,qi,qi,h0,qiv l _ _ fun i hi=>h (i+1) (by simpa using hi)]
theorem qiu {α:Type} {e:TypeId} {k:Nat} {row:α→List Value}:∀ (l:List (List α)) (g g':Nat→List Value),(∀ i,i < l.length→gv (g i) 0=gv (g' i) 0)→zs (qq e k row) g l=zs (qq e k row) g' l
 | [],_,_,_=>rfl
 | x :: l,g,g',h=>by
  have h0:=h 0 (by simp)
  rw [zs,zs,qq,qq,h0,qiu l _ _ fun i hi=>h (i+1) (by simpa using hi)]
theorem zK {α:Type} (pre:List Value) (gh:Nat→List Value) (k:Nat) (l:List α) (hk:pre.length=k):zr qi (qk (pre++ghl gh l.length) k) l=zr qi gh l:=qiv l _ _ fun i hi=>qbq pre gh _ k i hk hi
theorem zJ {α:Type} {e:TypeId} {c:Nat} {row:α→List Value} (pre:List Value) (gh:Nat→List Value) (k:Nat) (l:List (List α)) (hk:pre.length=k):zs (qq e c row) (qk (pre++ghl gh l.length) k) l=zs (qq e c row) gh l:=qiu l _ _ fun i hi=>qbq pre gh _ k i hk hi
theorem Gr.len {g g':Nat→Nat} {n n' k:Nat} (h:Gr g n g' n') (hk:k=n'):Gr g n g' k:=hk ▸ h
theorem qa1 {g g':Nat→Nat} {n n':Nat} (h:Gr g n g' n'):∀ (l:List Int) (v:Nat→List Value),(∀ x∈l,x < n)→zr (fzr (PR g)) v l=zr (fzr (PR g')) v l
 | [],_,_=>rfl
 | x :: l,v,hx=>by
  rw [zr,zr,fzr,fzr,PR,PR,qf3 h (hx x List.mem_cons_self),qa1 h l _ fun y hy=>hx y (List.mem_cons_of_mem _ hy)]
section
variable {P:Program} {tx e ty t:TypeId} {n:Nat} {fs:Fr} {x y:Operand} {w0:World} {own:List Nat} {m:List As} {α:Type} {row:α→List Value→List Value} {sub:α→List Value→List As} {g:Nat→Nat} {gh:Nat→List Value} {l:List α} {p:Nat} {a b:Int} {u0 u1:α} {k:TypeId}
theorem Cls.arNe {w:World} (hw:Cls w0 own m w) (hm:m[p]?=some (arn row sub k g gh l [])) (ha:idx l a=some u0) (hb:idx l b=some u1) (hne:a≠b):g a.toNat≠g b.toNat:=by
 have h1:=hw.arOpen hm ha List.not_mem_nil
 have hp:(thg row sub k (g a.toNat) (gh a.toNat) u0++arn row sub k g gh l [a.toNat] :: m.eraseIdx p)[(thg row sub k (g a.toNat) (gh a.toNat) u0).length]?=some (arn row sub k g gh l [a.toNat]):=by
  rw [List.getElem?_append_right (Nat.le_refl _),Nat.sub_self];rfl
 have hab:b.toNat ∉ [a.toNat]:=by
  have:=(qm ha).1
  have:=(qm hb).1
  simp only [List.mem_singleton]
  omega
 have h2:=h1.arOpen hp hb hab
 intro hg
 have h3:=h2.nodup
 rw [hg] at h3
 simp only [thg,List.cons_append,List.flatMap_cons,As.foot] at h3
 have h4:=(List.nodup_append.1 h3).2.2 (g b.toNat) (List.mem_singleton.2 rfl) (g b.toNat)
 refine h4 ?_ rfl
 simp only [List.flatMap_append,List.mem_append]
 right
 rw [List.length_cons,List.eraseIdx_cons_succ]
 simp [As.foot]
theorem Cls.arAt {w:World} (hw:Cls w0 own m w) (hm:m[p]?=some (arn row sub k g gh l [])) (ha:idx l a=some u0):w.heap[g a.toNat]?=some (.cells (row u0 (gh a.toNat)).toArray k (0,0)) :=
 ((hw.arOpen hm ha List.not_mem_nil).mine (.obj (g a.toNat) (row u0 (gh a.toNat)) k) (by simp [thg])).1
def qjH (P:Program) (e:TypeId):Bool:=match P.info? e with
 | some j=>Nat.blt 0 j.size
 | none=>false
theorem Y.eqlAA (hu:P.underlying tx=some (.pointer e)) (hz:qjH P e=true) (hx:val fs x=some (VP g a)) (hy:val fs y=some (VP g b)) (hm:m[p]?=some (arn row sub k g gh l [])) (ha:idx l a=some u0) (hb:idx l b=some u1) :
  Y P (.binOp .eql tx x y ty) t n fs (Cls w0 own m) (.bool (decide (a=b))):=by
 have h0:=(qm ha).1
 have h1:=(qm hb).1
 rw [qaT h0] at hx
 rw [qaT h1] at hy
 unfold qjH at hz
 cases hj:P.info? e with
 | none=>rw [hj] at hz;cases hz
 | some j =>
  rw [hj] at hz
  have hz':j.size≠0:=by
   have:0 < j.size:=by simpa [Nat.blt_eq] using hz
   omega
  refine Y.of fun d pos af gd s w hs hw=>?_
  have hg:(eqGuard .eql tx x y (pt (g a.toNat) 0) (pt (g b.toNat) 0)).run P w=.ok () w:=by simp [eqGuard,pt]
  simp only [execOp,hs.eval hx,hs.eval hy]
  by_cases c:a=b
  ·subst c
   rw [decide_eq_true rfl]
   simp [hg]
   simp [pt,run_eql_ptr_same w _ hu hj]
  ·rw [decide_eq_false c]
   have hne:=hw.arNe hm ha hb c
   simp [hg]
   simp [pt,run_eql_ptr_other w hu hj hz' (a:=⟨g a.toNat,0,none⟩) (b:=⟨g b.toNat,0,none⟩) (fun h=>hne (congrArg Addr.block h)) (hw.arAt hm ha) (hw.arAt hm hb)]
end
end Go.S
end
section
namespace Go.S
def qaI (f:Int→Value) (a:Int) (v:Value):Int→Value:=fun q=>if q=a then v else f q
section
variable {α:Type} {us:Int→Value} {l:List (Int×List α)} {a:Int} {x x1:List α} {v:Value} {e:TypeId} {k:Nat} {row:α→List Value}
def qo {β:Type} (us:Int→Value) (l:List (Int×β)):List (Int×Value):=l.map fun p=>(p.1,us p.1)
def qk8 (us:Int→Value) (e:TypeId) (k:Nat) (row:α→List Value) (l:List (Int×List α)):List Sd:=l.map fun p=>⟨us p.1,e,k,p.2.map row⟩
def ze (l:List (Int×List α)) (a:Int):Option (List α):=(l.find? fun p=>decide (p.1=a)).map (·.2)
def qht {β:Type} (us:Int→Value) (l:List (Int×β)) (a:Int):Value:=xP (qo us l) a (.slice none 0 0)
theorem xa (h:ze l a=some x):(a,x)∈l:=by
 unfold ze at h
 cases hf:l.find? (fun p=>decide (p.1=a)) with
 | none=>simp [hf] at h
 | some p =>
  simp only [hf,Option.map_some,Option.some.injEq] at h
  have h1:=List.mem_of_find?_eq_some hf
  have h2:p.1=a:=by simpa using List.find?_some hf
  rw [← h,← h2]
  exact h1
theorem qcF (h:(a,x)∈l):qht us l a=us a:=by
 have h1:(qo us l).find? (fun p=>decide (p.1=a))=some (a,us a):=by
  unfold qo
  rw [List.find?_map]
  have e1:((fun p:Int×Value=>decide (p.1=a)) ∘ fun p:Int×List α=>(p.1,us p.1))=fun p=>decide (p.1=a):=rfl
  rw [e1]
  cases hf:l.find? (fun p=>decide (p.1=a)) with
  | none=>exact absurd (List.find?_eq_none.1 hf _ h) (by simp)
  | some p =>
   have h2:p.1=a:=by simpa using List.find?_some hf
   simp only [Option.map_some,h2]
 unfold qht xP
 rw [h1]
theorem qcH:kS (qo us l) a=kS l a:=by simp only [kS,qo,List.any_map];rfl
theorem qcE:qU (qo us l) a v=qo (qaI us a v) (qU l a x1):=by
 unfold qU
 rw [qcH]
 split
 ·unfold qo
  rw [List.map_map,List.map_map]
  refine List.map_congr_left fun p _=>?_
  simp only [Function.comp]
  by_cases c:p.1=a
  ·simp [c,qaI]
  ·simp [c,qaI]
 ·rename_i hn
  unfold qo
  rw [List.map_append]
  congr 1
  ·refine List.map_congr_left fun p hp=>?_
   have:p.1≠a:=fun c=>hn (List.any_eq_true.2 ⟨p,hp,by simp [c]⟩)
   simp [qaI,this]
  ·simp [qaI]
theorem qaJ:∀ {l:List (Int×List α)},(l.map (·.1)).Nodup→(a,x)∈l→l.Perm ((a,x) :: je l a)
 | [],_,h=>by cases h
 | p :: l,hn,h=>by
  rw [List.map_cons,List.nodup_cons] at hn
  rcases List.mem_cons.1 h with h1 | h1
  ·subst h1
   have:je ((a,x) :: l) a=l:=by
    unfold je
    simp only [List.filter_cons,decide_true,Bool.not_true,Bool.false_eq_true,if_false]
    refine List.filter_eq_self.2 fun p hp=>?_
    have:p.1≠a:=fun c=>hn.1 (List.mem_map.2 ⟨p,hp,c⟩)
    simp [this]
   rw [this]
  ·have hp:p.1≠a:=fun c=>hn.1 (List.mem_map.2 ⟨_,h1,c.symm⟩)
   have:je (p :: l) a=p :: je l a:=by
    unfold je
    simp [hp]
   rw [this]
   exact (List.Perm.cons p (qaJ hn.2 h1)).trans (List.Perm.swap ..)
theorem qdQ (hn:(l.map (·.1)).Nodup):(qU l a x1).Perm ((a,x1) :: je l a):=by
 unfold qU
 split
 ·rename_i hh
  obtain ⟨p,hp,hpa⟩:=List.any_eq_true.1 hh
  have hpa':p.1=a:=by simpa using hpa
  have h1:l.Perm ((a,p.2) :: je l a):=qaJ hn (by rw [← hpa'];exact hp)
  refine (h1.map _).trans ?_
  rw [List.map_cons]
  simp only [if_true]
  refine List.Perm.cons _ ?_
  have:(je l a).map (fun p=>if p.1=a then (a,x1) else p)=je l a:=by
   conv=>rhs;rw [← List.map_id (je l a)]
   refine List.map_congr_left fun q hq=>?_
   have:=(List.mem_filter.1 hq).2
   have:q.1≠a:=by simpa using this
   simp [this]
  rw [this]
 ·rename_i hh
  have:je l a=l:=List.filter_eq_self.2 fun p hp=>by
   have:p.1≠a:=fun c=>hh (List.any_eq_true.2 ⟨p,hp,by simp [c]⟩)
   simp [this]
  rw [this]
  exact List.perm_append_comm
end
section
variable {α:Type} {us:Int→Value} {l:List (Int×List α)} {a:Int} {x1:List α} {v:Value} {e:TypeId} {k:Nat} {row:α→List Value} {w0 w:World} {own:List Nat} {m:List As} {i j p b:Nat} {L0 L1:List Sd}
theorem Cls.msKeys (hw:Cls w0 own m w) (hm:m[i]?=some (.mp b (qo us l))):(l.map (·.1)).Nodup:=by
 obtain ⟨es,clock,hb,hst,he⟩:=hw.get hm
 have:=jI hst he
 simpa [qo,List.map_map,Function.comp_def] using this
theorem zM {x y:As} (hj:m[j]?=some x):(m.set j y).Perm (y :: m.eraseIdx j):=by
 obtain ⟨h1,h2⟩:=List.getElem?_eq_some_iff.1 hj
 have:=yG (m.set j y) j (by simpa using h1)
 rwa [List.getElem_set_self,List.eraseIdx_set_eq] at this
end
section
variable {P:Program} {Q:Exit→Act→World→Prop} {n:Nat} {fs:Fr} {C:World→Prop} {t:TypeId} {ops:Array Oper} {rest:List Oper} {d:Nat} {pos:String} {af:Array Edge}
variable {α ρ:Type} {r:ρ} {us:Int→Value} {l:List (Int×List α)} {a:Int} {x1:List α} {F:List α→Option ρ} {row:α→List Value} {w0 w:World} {own:List Nat} {m:List As} {x y kv:Operand} {kt et tx e:TypeId} {i j p k b:Nat} {v:Value} {L0:List Sd}
end
end Go.S
end
section
namespace Go.S
theorem qe7 {α:Type} {row:α→List Value}:∀ (l:List α) (vs:Nat→List Value),zr (fzr row) vs l=l.map row
 | [],_=>rfl
 | x :: l,vs=>by rw [zr,qe7 l,List.map_cons];rfl
theorem qZ {α:Type}:∀ (l:List α) (vs:Nat→List Value),zs sd0 vs l=[]
 | [],_=>rfl
 | x :: l,vs=>by rw [zs,qZ l];rfl
theorem StbF.nil {k:Nat} {w:World} {F:List Nat}:StbF (fun w=>At w (.slice none 0 0) k []) w F:=fun w' _ _ _ _ _=>At.nil w' k
def wJ (l:List Int) (n:Nat):Bool:=l.all fun k=>decide (k < (n:Int))
theorem vY {l:List Int} {n:Nat} (h:wJ l n=true):∀ k∈l,k < (n:Int):=fun k hk=>by simpa using List.all_eq_true.1 h k hk
def Tl {β:Type} (g0 g:Nat→List Value) (l0 l:List β) (p:Int):Prop:=∀ j:Nat,p≤j→gv (g j) 0=gv (g0 j) 0∧l[j]?=l0[j]?
theorem Tl.refl {β:Type} (g:Nat→List Value) (l:List β) (p:Int):Tl g g l l p:=fun _ _=>⟨rfl,rfl⟩
theorem Tl.mono {β:Type} {g0 g:Nat→List Value} {l0 l:List β} {p p':Int} (h:Tl g0 g l0 l p) (hp:p≤p'):Tl g0 g l0 l p':=fun j hj=>h j (Int.le_trans hp hj)
theorem Tl.put {β:Type} {g0 g g2:Nat→List Value} {l0 l z:List β} {p p' a:Int} {y:β} (h:Tl g0 g l0 l p) (hu:upd l a y=some z) (hg:∀ j:Nat,j≠a.toNat→g2 j=g j) (h1:p≤p') (h2:a < p'):Tl g0 g2 l0 z p':=by
 intro j hj
 obtain ⟨h3,h4,rfl⟩:=jh hu
 have hne:j≠a.toNat:=by omega
 obtain ⟨h5,h6⟩:=h j (by omega)
 rw [hg j hne,List.getElem?_set_ne (Ne.symm hne)]
 exact ⟨h5,h6⟩
theorem Tl.idx {β:Type} {g0 g:Nat→List Value} {l0 l:List β} {p a:Int} {x:β} (h:Tl g0 g l0 l p) (hp:p≤a) (hi:idx l0 a=some x):idx l a=some x:=by
 obtain ⟨h0,_,h2⟩:=qm hi
 have h3:=(h a.toNat (by omega)).2
 unfold S.idx
 rw [if_pos h0,h3,h2]
theorem Tl.gv {β:Type} {g0 g:Nat→List Value} {l0 l:List β} {p a:Int} {x:β} (h:Tl g0 g l0 l p) (hp:p≤a) (hi:S.idx l0 a=some x):S.gv (g a.toNat) 0=S.gv (g0 a.toNat) 0:=by
 obtain ⟨h0,_,_⟩:=qm hi
 exact (h a.toNat (by omega)).1
theorem fl0:([]:List (List Value)).flatten.length=0:=rfl
theorem fl1 {X:List Value} {S:List (List Value)} {a p:Nat} (h:X.length=a) (hs:S.flatten.length=p):(X :: S).flatten.length=a+p:=by rw [List.flatten_cons,List.length_append,h,hs]
theorem xk:∀ u∈([]:List (List Value)).flatten,u.oneCell'=true:=by simp
theorem qG {X:List Value} {S:List (List Value)} (h:∀ u∈X,u.oneCell'=true) (hs:∀ u∈S.flatten,u.oneCell'=true):∀ u∈(X :: S).flatten,u.oneCell'=true:=by
 intro u hu
 rw [List.flatten_cons] at hu
 rcases List.mem_append.1 hu with h1 | h1
 ·exact h u h1
 ·exact hs u h1
theorem vX {α:Type} {row:α→List Value} {vs:Nat→List Value} {l:List α} (h:Plain (l.map row)):∀ u∈(zr (fzr row) vs l).flatten,u.oneCell'=true:=by
 intro u hu
 rw [qe7] at hu
 obtain ⟨r,hr,hur⟩:=List.mem_flatten.1 hu
 exact h r hr u hur
section
variable {P:Program} {Q:Exit→Act→World→Prop} {n:Nat} {C:World→Prop} {fs:Fr} {t:TypeId} {ops:Array Oper} {rest:List Oper} {d:Nat} {pos:String} {af:Array Edge}
variable {w0 w:World} {own:List Nat} {m:List As} {x y:Operand} {e te tx ty:TypeId} {i j k kk p q s c jj b si ps nn len:Nat} {v u:Value} {o:Nat} {vals X:List Value} {S A B B' D:List (List Value)} {ik:IntKind}
variable {α ρ:Type} {r:ρ} {row:α→List Value→List Value} {sds:α→List Value→List Sd} {vs vs':Nat→List Value} {l:List α} {a:Int} {u0 u1:α} {f:List α→Option ρ}
theorem Y.loadGA (ha:zb P te true=true) (hs:szB P te nn=true) (hx:val fs x=some (pt b ps)) (hm:m[q]?=some (.obj b S.flatten e)) (hS:S[si]?=some X) (hp:(S.take si).flatten.length=ps) (hl:X.length=nn) :
  Y P (.load te x) t n fs (Cls w0 own m) (.agg X.toArray):=Y.loadPN ha hs hx hm hl fun j u hu=>wo hS hp hu
theorem Y.loadGF {β:Type} {rw':β→List Value} {lb:List β} (ha:zb P te true=true) (hs:szB P te nn=true) (hx:val fs x=some (pt b ps)) (hm:m[q]?=some (.obj b S.flatten e)) (hS:S[si]?=some (zr (fzr rw') vs lb).flatten) (hp:(S.take si).flatten.length=ps) (hl:(zr (fzr rw') vs lb).flatten.length=nn) :
  Y P (.load te x) t n fs (Cls w0 own m) (.agg (lb.map rw').flatten.toArray):=by
 have:=Y.loadGA (t:=t) (n:=n) (w0:=w0) (own:=own) ha hs hx hm hS hp hl
 rwa [qe7] at this
theorem Y.idxZr1 {β:Type} {lb:List β} {z:β} (hu:P.underlying tx=some (.array len te)) (ha:zb P te false=true) (hs:szB P te 1=true) (hx:val fs x=some (.agg (zr qi vs lb).flatten.toArray)) (hy:val fs y=some (.int ik a)) (hr:za len lb a=some z) :
  Y P (.index tx x y) t n fs C (gv (vs a.toNat) 0) :=
 Y.of fun d pos af g s w hs' hw=>by
  obtain ⟨h0,h1,h2⟩:=qm (qt hr)
  have h3:=wA hr
  have hf:(zr qi vs lb).flatten[a.toNat*1+0]?=some (gv (vs a.toNat) 0):=zh _ _ _ _ _ (fun r hr'=>yq (row:=qi) (k:=1) (fun _ _=>rfl) _ _ r hr') (yp qi vs lb _ _ h2) rfl
  simp only [Nat.mul_one,Nat.add_zero] at hf
  simp only [execOp,hs'.eval hx,hs'.eval hy]
  simp [Instr.index,asIntOf,run_underlying hu,h0,h3,part,xy ha,qA hs,hf]
theorem Y.idxZrT {β:Type} {lb lb':List β} {z:β} {p0:Int} (hT:Tl vs vs' lb lb' p0) (hp:p0≤a) (hu:P.underlying tx=some (.array len te)) (ha:zb P te false=true) (hs:szB P te 1=true) (hx:val fs x=some (.agg (zr qi vs lb).flatten.toArray)) (hy:val fs y=some (.int ik a)) (hr:za len lb a=some z) :
  Y P (.index tx x y) t n fs C (gv (vs' a.toNat) 0):=by
 rw [hT.gv hp (qt hr)]
 exact Y.idxZr1 hu ha hs hx hy hr
theorem L.storeZSgT (h:qb (upd l a u1) f=some r) (hs:szB P te 1=true) (hx:val fs x=some (pt b o)) (ho:o=ps+a.toNat*k+j) (hy:val fs y=some v) {e':TypeId} {k' jj:Nat} {rows:List (List Value)} {L0:List Sd} {v1:List Value}
  (hm:m[q]?=some (.obj b S.flatten e)) (hS:S[si]?=some (zr row vs l).flatten) (hp0:(S.take si).flatten.length=ps) (hp:m[p]?=some (.sl v e' k' rows)) (hms:m[s]?=some (.ss L0)) (hL:L0=zs sds vs l∨L0=(zs sds vs l).set (a.toNat*c+jj) (Sd.nil 0 0)) (hlen:∀ z v,(row z v).length=k) (hc:∀ z v,(sds z v).length=c) (hr:idx l a=some u0) (hj:Nat.ble (j+1) k=true)
  (hrow:over (row u0 (vs a.toNat)) j [v]=row u1 v1) (hjj:Nat.blt jj c=true) (hsd:sds u1 v1=(sds u0 (vs a.toNat)).set jj ⟨v,e',k',rows⟩)
  (next:∀ z vs',upd l a u1=some z→(∀ j:Nat,j≠a.toNat→vs' j=vs j)→f z=some r→L P ops Q n (Cls w0 own (((m.set q (.obj b (S.set si (zr row vs' z).flatten).flatten e)).set s (.ss (zs sds vs' z))).eraseIdx p)) rest fs) :
  L P ops Q n (Cls w0 own m) (⟨none,.store te x y,t,pos,af,none⟩ :: rest) fs:=by
 subst ho
 have hj':j+1≤k:=by simpa using hj
 have hjj':jj < c:=by simpa [Nat.blt_eq] using hjj
 have hi:=qm hr
 refine L.storeV hs hx hy (fun w hw=>(As.at_ (hw.get hp)).one) hm (qav hlen hr hj' hS hp0) ?_
 rw [qaF hlen hr hj' hrow hS hp0]
 have hu1:upd l a u1=some (l.set a.toNat u1):=by unfold upd;rw [if_pos ⟨hi.1,hi.2.1⟩]
 refine L.to (fun w hw=>?_) (next _ (xY vs a.toNat v1) hu1 (fun j hj=>by simp [xY,hj]) (ji h rfl))
 have hqs:q≠s:=by rintro rfl;rw [hm] at hms;cases hms
 have hqp:q≠p:=by rintro rfl;rw [hm] at hp;cases hp
 exact hw.zsPut (by rw [List.getElem?_set_ne hqp];exact hp) (by rw [List.getElem?_set_ne hqs];exact hms) hL hc hr hjj' hsd
theorem L.storeGA {β:Type} {rw':β→List Value} {lb lb':List β} (hs:szB P te nn=true) (hx:val fs x=some (pt b ps)) (hy:val fs y=some (.agg (lb'.map rw').flatten.toArray)) (hpl:Plain (lb'.map rw')) (hm:m[q]?=some (.obj b S.flatten e)) (hS:S[si]?=some (zr (fzr rw') vs lb).flatten) (hp:(S.take si).flatten.length=ps)
  (hl:(zr (fzr rw') vs lb).flatten.length=nn) (hl':(zr (fzr rw') vs lb').flatten.length=nn) (next:L P ops Q n (Cls w0 own (m.set q (.obj b (S.set si (zr (fzr rw') vs lb').flatten).flatten e))) rest fs) :
  L P ops Q n (Cls w0 own m) (⟨none,.store te x y,t,pos,af,none⟩ :: rest) fs:=by
 rw [← qe7 (vs:=vs)] at hy
 have h2:=wn hS hp
 refine L.store (vs:=(zr (fzr rw') vs lb').flatten) hs hx hy (by simp [Value.cells]) hl' (vX hpl) hm (by omega) ?_
 have h3:=kq (q:=0) (vals:=(zr (fzr rw') vs lb').flatten) hS hp (by omega)
 rw [Nat.add_zero] at h3
 rw [h3]
 have:=jq (zr (fzr rw') vs lb').flatten (zr (fzr rw') vs lb).flatten [] (by rw [hl,hl'])
 simp only [List.nil_append,List.length_nil] at this
 rw [this]
 exact next
theorem qhh {A B D:List (List Value)} {v:Value} (h:B.flatten[j]?=some v):(A++B++D).flatten[A.flatten.length+j]?=some v:=by
 rw [List.append_assoc,List.flatten_append,List.flatten_append,List.getElem?_append_right (Nat.le_add_right _ _),Nat.add_sub_cancel_left,List.getElem?_append_left (List.getElem?_eq_some_iff.1 h).1]
 exact h
theorem Y.loadSR (A B D:List (List Value)) (ha:zb P te true=true) (hs:szB P te nn=true) (hx:val fs x=some (pt b ps)) (hm:m[q]?=some (.obj b (A++B++D).flatten e)) (hp:A.flatten.length=ps) (hl:B.flatten.length=nn):Y P (.load te x) t n fs (Cls w0 own m) (.agg B.flatten.toArray):=by
 subst hp
 exact Y.loadPN ha hs hx hm hl fun j u hu=>qhh hu
theorem qfq {A B B' D:List (List Value)} (hl:B'.flatten.length=B.flatten.length):over (A++B++D).flatten A.flatten.length B'.flatten=(A++B'++D).flatten:=by
 rw [List.append_assoc,List.flatten_append,List.flatten_append]
 have h1:=jH B'.flatten A.flatten (B.flatten++D.flatten) 0
 rw [Nat.add_zero] at h1
 rw [h1,kM _ _ _ _ (by omega)]
 have:=jq B'.flatten B.flatten [] hl
 simp only [List.nil_append,List.length_nil] at this
 rw [this,List.append_assoc,List.flatten_append,List.flatten_append]
theorem L.storeSR (A B B' D:List (List Value)) (hs:szB P te nn=true) (hx:val fs x=some (pt b ps)) (hy:val fs y=some (.agg B'.flatten.toArray)) (hall:∀ u∈B'.flatten,u.oneCell'=true) (hm:m[q]?=some (.obj b (A++B++D).flatten e)) (hp:A.flatten.length=ps) (hl:B.flatten.length=nn) (hl':B'.flatten.length=nn)
  (next:L P ops Q n (Cls w0 own (m.set q (.obj b (A++B'++D).flatten e))) rest fs):L P ops Q n (Cls w0 own m) (⟨none,.store te x y,t,pos,af,none⟩ :: rest) fs:=by
 refine L.store (vs:=B'.flatten) hs hx hy (by simp [Value.cells]) hl' hall hm (by simp only [List.append_assoc,List.flatten_append,List.length_append];omega) ?_
 subst hp
 rw [qfq (hl'.trans hl.symm)]
 exact next
theorem W.rounds {c:Code} (k:Nat) (h:W P (Exit.then (Code.rounds P c Q k) Q) n C c fs):W P Q n C (.loop c) fs:=fun a w hs hc=>wp_loop_rounds (k+1) (by rw [rounds_succ];exact h a w hs hc)
theorem E.rounds {c:Code} {k:Nat} (h:W P (Exit.then (Code.rounds P c Q k) Q) n C c fs):E .normal (Exit.then (Code.rounds P c Q (k+1)) Q) n C fs:=fun a w hs hc=>by
 show Code.rounds P c Q (k+1) a w
 rw [rounds_succ]
 exact h a w hs hc
theorem E.retR4 {fn:Func} {R:Ending→World→Prop} {x1 x2 x3 x4:ResultVar} {v1 v2 v3 v4:Value} (hr:fn.results=#[x1,x2,x3,x4]) (h1:Rv P fs C x1 v1) (h2:Rv P fs C x2 v2) (h3:Rv P fs C x3 v3) (h4:Rv P fs C x4 v4) (h:∀ w,C w→R (.returned (.tuple #[v1,v2,v3,v4])) w):E .ret (bodyPost P fn R) n C fs:=by
 intro a w hs hc
 refine bodyPost_ret (v:=.tuple #[v1,v2,v3,v4]) ?_ hs.defers (h w hc)
 have e1:=h1.run hs hc
 have e2:=h2.run hs hc
 have e3:=h3.run hs hc
 have e4:=h4.run hs hc
 rw [jF,hr]
 simp [e1,e2,e3,e4]
theorem E.ret4 {fn:Func} {R:Ending→World→Prop} {x1 x2 x3 x4:Tmp} {v1 v2 v3 v4:Value} (hr:fn.results=#[.tmp x1,.tmp x2,.tmp x3,.tmp x4]) (h1:look fs x1=some v1) (h2:look fs x2=some v2) (h3:look fs x3=some v3) (h4:look fs x4=some v4) (h:∀ w,C w→R (.returned (.tuple #[v1,v2,v3,v4])) w):E .ret (bodyPost P fn R) n C fs :=
 E.retR4 hr (Rv.tmp h1) (Rv.tmp h2) (Rv.tmp h3) (Rv.tmp h4) h
end
section
variable {P:Program} {Q:Exit→Act→World→Prop} {n:Nat} {fs:Fr} {w0:World} {own:List Nat} {m m':List As} {α ρ:Type} {r:ρ} {e:TypeId} {g:Nat→Nat} {gh:Nat→List Value} {l:List α} {u1:α} {hs:List Nat} {b:Nat}
theorem W.arNew {rowg:(Nat→Nat)→α→List Value→List Value} {subg:(Nat→Nat)→α→List Value→List As} {vs':List Value} {F:Int→List α→Option ρ} (is:List Nat) (h:qI (qcD l u1) F=some r) (hn:is.Nodup) (hm:is.map (m[·]?)=((thg (rowg g) (subg g) e b vs' u1)++arn (rowg g) (subg g) e g gh l hs :: m').map some) (hh:∀ q∈hs,q < l.length)
  (hc:∀ g',(∀ i,i < l.length→g' i=g i)→∀ x∈l++[u1],∀ v,rowg g x v=rowg g' x v∧subg g x v=subg g' x v) {ll:Code}
  (next:∀ g' gh' x z,F x z=some r→Gr g l.length g' z.length→pt b 0=VP g' x→(∀ {q:Int} {u:α},idx l q=some u→idx z q=some u)→W P Q n (Cls w0 own (arn (rowg g') (subg g') e g' gh' z hs :: m')) ll fs):W P Q n (Cls w0 own m) ll fs:=by
 intro ac w hs hw
 obtain ⟨g',gh',h1,h2,h3⟩:=hw.arNew is hn hm hh hc
 exact next g' gh' _ _ h h1 h2 wy ac w hs h3
end
end Go.S
end
section
namespace Go.S
def mmV (us:Int→Nat) (k:Int):Value:=.map (some (us k))
def xr (us:Int→Nat) (a:Int) (b:Nat):Int→Nat:=fun q=>if q=a then b else us q
def mms {β:Type} (g:β→Value) (us:Int→Nat) (l:List (Int×List (Int×β))):List As:=l.map fun p=>.mp (us p.1) (zP g p.2)
def qjm {α ρ:Type} (o:Option α) (A:Option ρ) (B:α→Option ρ):Option ρ:=match o with
 | none=>A
 | some x=>B x
@[simp] theorem qdK {α ρ:Type} (A:Option ρ) (B:α→Option ρ):qjm none A B=A:=rfl
@[simp] theorem qdJ {α ρ:Type} (x:α) (A:Option ρ) (B:α→Option ρ):qjm (some x) A B=B x:=rfl
theorem qjK {α ρ:Type} {o:Option α} {A:Option ρ} {B:α→Option ρ} {r:ρ} (h:qjm o A B=some r):(o=none∧A=some r)∨∃ x,o=some x∧B x=some r:=by
 cases o with
 | none=>exact .inl ⟨rfl,h⟩
 | some x=>exact .inr ⟨x,rfl,h⟩
section
variable {β:Type} {g:β→Value} {us:Int→Nat} {l:List (Int×List (Int×β))} {a:Int} {x x1:List (Int×β)} {b:Nat}
theorem qhv:(fun k=>mmV (xr us a b) k)=qaI (mmV us) a (.map (some b)):=by
 funext q
 simp only [mmV,xr,qaI]
 split <;> rfl
theorem qbi (hn:(l.map (·.1)).Nodup) (h:(a,x)∈l):(mms g us l).Perm (.mp (us a) (zP g x) :: mms g us (je l a)):=(qaJ hn h).map _
theorem qdT (hn:(l.map (·.1)).Nodup):(mms g (xr us a b) (qU l a x1)).Perm (.mp b (zP g x1) :: mms g us (je l a)):=by
 refine ((qdQ hn).map _).trans ?_
 rw [List.map_cons]
 simp only [xr,if_true]
 refine List.Perm.cons _ ?_
 unfold mms
 rw [show (je l a).map (fun p=>As.mp (if p.1=a then b else us p.1) (zP g p.2))=(je l a).map (fun p=>.mp (us p.1) (zP g p.2)) from List.map_congr_left fun q hq=>by
  have:=(List.mem_filter.1 hq).2
  have:q.1≠a:=by simpa using this
  simp [this]]
theorem qhu:(mms g us (je l a)).Sublist (mms g us l):=List.filter_sublist.map _
end
section
variable {w0 w:World} {own:List Nat} {m:List As} {L0 L1:List As} {A:As}
theorem Cls.rPerm (hw:Cls w0 own (.any (qz L0) :: m) w) (hp:L1.Perm L0):Cls w0 own (.any (qz L1) :: m) w:=by
 refine hw.rePerm ?_ fun z hz=>?_
 ·simp only [List.flatMap_cons,As.foot,qz]
  exact List.Perm.append_right _ (hp.flatMap_right _)
 ·rcases List.mem_cons.1 hz with rfl | hz
  ·exact fun y hy=>(hw.mine (.any (qz L0)) (by simp)).1 y (hp.mem_iff.1 hy)
  ·exact (hw.mine z (by simp [hz])).1
theorem Cls.rSub (hw:Cls w0 own (.any (qz L0) :: m) w) (hp:L1.Sublist L0):Cls w0 own (.any (qz L1) :: m) w:=by
 have hs:(L1.flatMap As.foot).Sublist (L0.flatMap As.foot):=jZ hp
 have hs2:((As.any (qz L1) :: m).flatMap As.foot).Sublist ((As.any (qz L0) :: m).flatMap As.foot):=by
  simp only [List.flatMap_cons,As.foot,qz]
  exact List.Sublist.append hs (List.Sublist.refl _)
 refine hw.re (fun b hb=>hs2.subset hb) (hw.nodup.sublist hs2) fun z hz=>?_
 rcases List.mem_cons.1 hz with rfl | hz
 ·exact fun y hy=>(hw.mine (.any (qz L0)) (by simp)).1 y (hp.subset hy)
 ·exact (hw.mine z (by simp [hz])).1
theorem Cls.rTake (hw:Cls w0 own (.any (qz (A :: L0)) :: m) w):Cls w0 own (A :: .any (qz L0) :: m) w:=by
 refine hw.rePerm ?_ fun z hz=>?_
 ·simp only [List.flatMap_cons,As.foot,qz,List.append_assoc]
  exact List.Perm.refl _
 ·rcases List.mem_cons.1 hz with rfl | hz
  ·exact (hw.mine (.any (qz (z :: L0))) (by simp)).1 z (by simp)
  ·rcases List.mem_cons.1 hz with rfl | hz
   ·exact fun y hy=>(hw.mine (.any (qz (A :: L0))) (by simp)).1 y (by simp [hy])
   ·exact (hw.mine z (by simp [hz])).1
theorem Cls.rGive (hw:Cls w0 own (A :: .any (qz L0) :: m) w):Cls w0 own (.any (qz (A :: L0)) :: m) w:=by
 refine hw.rePerm ?_ fun z hz=>?_
 ·simp only [List.flatMap_cons,As.foot,qz,List.append_assoc]
  exact List.Perm.refl _
 ·rcases List.mem_cons.1 hz with rfl | hz
  ·intro y hy
   rcases List.mem_cons.1 hy with rfl | hy
   ·exact (hw.mine y (by simp)).1
   ·exact (hw.mine (.any (qz L0)) (by simp)).1 y hy
  ·exact (hw.mine z (by simp [hz])).1
end
section
variable {P:Program} {Q:Exit→Act→World→Prop} {n:Nat} {fs:Fr} {C:World→Prop} {t:TypeId} {ops:Array Oper} {rest:List Oper} {d:Nat} {pos:String} {af:Array Edge}
variable {β ρ:Type} {r:ρ} {g:β→Value} {us:Int→Nat} {l:List (Int×List (Int×β))} {a c:Int} {x1:List (Int×β)} {v0:β} {F:List (Int×β)→Option ρ} {w0 w:World} {own:List Nat} {m:List As} {x y kv:Operand} {kt et tx e:TypeId} {i j p b:Nat} {v:Value} {L0:List As}
theorem Cls.rSet (hw:Cls w0 own m w) (hj:m[j]?=some (.any (qz L0))) {L1:List As} (hp:L1.Sublist L0):Cls w0 own (m.set j (.any (qz L1))) w :=
 (((hw.perm (qK m j _ hj).symm)).rSub hp).perm (zM hj)
theorem L.mmNew (g:β→Value) (us:Int→Nat) (hd:Nat.blt d n=true) (next:∀ b,L P ops Q n (Cls w0 own (.mp b (qo (mmV us) ([]:List (Int×List (Int×β)))) :: .any (qz (mms g us [])) :: m)) rest ((d,.map (some b)) :: fs)):L P ops Q n (Cls w0 own m) (⟨some d,.makeMap tx none,t,pos,af,none⟩ :: rest) fs :=
 L.makeMap hd fun b=>L.to (fun w hw=>by
  have h1:Cls w0 own (([]:List As)++(.mp b [] :: m)) w:=hw
  exact (h1.gather).perm (List.Perm.swap ..)) (next b)
theorem Y.mmLook (hu:P.underlying tx=some (.map kt et)) (hk:P.underlying kt=some (.int .i64)) (hz:((P.info? et).bind fun i=>i.zero)=some (.map none)) (hx:val fs x=some (.map (some b))) (hy:val fs y=some (.int .i64 a)) (hm:m[i]?=some (.mp b (qo (mmV us) l))) :
  Y P (.lookup tx x y false) t n fs (Cls w0 own m) (xP (qo (mmV us) l) a (.map none)) :=
 Y.lookup0 (t:=t) (n:=n) (w0:=w0) (own:=own) hu hk hz hx hy hm rfl
theorem qaK {α:Type} {l:List (Int×List α)} {us:Int→Nat} (h:ze l a=none):xP (qo (mmV us) l) a (.map none)=.map none:=by
 unfold ze at h
 have h1:l.find? (fun p=>decide (p.1=a))=none:=by simpa using h
 unfold xP qo
 rw [List.find?_map]
 have e1:((fun p:Int×Value=>decide (p.1=a)) ∘ fun p:Int×List α=>(p.1,mmV us p.1))=fun p=>decide (p.1=a):=rfl
 rw [e1,h1];rfl
theorem kR {α:Type} {l:List (Int×List α)} {us:Int→Nat} {x:List α} (h:ze l a=some x):xP (qo (mmV us) l) a (.map none)=.map (some (us a)):=by
 have h1:=qcF (us:=mmV us) (xa h)
 unfold qht xP at h1
 unfold xP
 cases hf:(qo (mmV us) l).find? (fun p=>decide (p.1=a)) with
 | none=>rw [hf] at h1;cases h1
 | some p=>rw [hf] at h1;exact h1
theorem Cls.mmOut (hw:Cls w0 own m w) (h:ze l a=some x1) (hm:m[i]?=some (.mp b (qo (mmV us) l))) (hj:m[j]?=some (.any (qz (mms g us l)))):Cls w0 own (.mp (us a) (zP g x1) :: m.set j (.any (qz (mms g us (je l a))))) w:=by
 have hn:=Cls.msKeys (us:=mmV us) hw hm
 have h2:=(hw.perm (qK m j _ hj).symm).rPerm (qbi hn (xa h)).symm
 exact h2.rTake.perm (List.Perm.cons _ (zM hj))
theorem Cls.mmBack (hw:Cls w0 own m w) (h:ze l a=some x1) (hm:m[i]?=some (.mp b (qo (mmV us) l))) (hp:m[p]?=some (.mp (us a) (zP g x1))) (hj:(m.eraseIdx p)[j]?=some (.any (qz (mms g us (je l a))))) :
  Cls w0 own ((m.eraseIdx p).set j (.any (qz (mms g us l)))) w:=by
 have hn:=Cls.msKeys (us:=mmV us) hw hm
 have h1:=hw.perm (qK m p _ hp).symm
 have h2:=h1.perm (List.Perm.cons _ (qK _ j _ hj)).symm
 exact (h2.rGive.rPerm (qbi hn (xa h))).perm (zM hj)
theorem L.mmPut (hu:P.underlying tx=some (.map kt et)) (hk:P.underlying kt=some (.int .i64)) (hx:val fs x=some (.map (some b))) (hy:val fs y=some (.int .i64 a)) {b':Nat} (hz:val fs kv=some (.map (some b'))) (hm:m[i]?=some (.mp b (qo (mmV us) l))) (hj:m[j]?=some (.any (qz (mms g us l))))
  (hp:m[p]?=some (.mp b' (zP g x1))) (hip:Nat.beq i p=false) (next:∀ us',L P ops Q n (Cls w0 own (((m.set i (.mp b (qo (mmV us') (qU l a x1)))).set j (.any (qz (mms g us' (qU l a x1))))).eraseIdx p)) rest fs):L P ops Q n (Cls w0 own m) (⟨none,.mapUpdate tx x y kv,t,pos,af,none⟩ :: rest) fs:=by
 have hij:i≠j:=by rintro rfl;rw [hm] at hj;cases hj
 have hip:i≠p:=Nat.ne_of_beq_eq_false hip
 have hjp:j≠p:=by rintro rfl;rw [hj] at hp;cases hp
 intro ac w hs hw0
 have hn:=Cls.msKeys (us:=mmV us) hw0 hm
 have hw:=hw0.rSet hj (L1:=mms g us (je l a)) qhu
 refine L.mapSet0 (l:=qo (mmV us) l) hu hk hx hy hz (by rw [List.getElem?_set_ne (Ne.symm hij)];exact hm) (L.to (fun w hw=>?_) (next (xr us a b'))) ac w hs hw
 have e0:qU (qo (mmV us) l) a (.map (some b'))=qo (mmV (xr us a b')) (qU l a x1):=by rw [qcE (x1:=x1),← qhv]
 rw [e0] at hw
 have hj2:((m.set j (.any (qz (mms g us (je l a))))).set i (.mp b (qo (mmV (xr us a b')) (qU l a x1))))[j]?=some (.any (qz (mms g us (je l a)))):=by
  rw [List.getElem?_set_ne hij,List.getElem?_set_self (List.getElem?_eq_some_iff.1 hj).1]
 have hp2:((m.set j (.any (qz (mms g us (je l a))))).set i (.mp b (qo (mmV (xr us a b')) (qU l a x1))))[p]?=some (.mp b' (zP g x1)):=by
  rw [List.getElem?_set_ne hip,List.getElem?_set_ne hjp];exact hp
 generalize hm':(m.set j (.any (qz (mms g us (je l a))))).set i (.mp b (qo (mmV (xr us a b')) (qU l a x1)))=m' at hw hj2 hp2
 have e1:(m.set i (.mp b (qo (mmV (xr us a b')) (qU l a x1)))).set j (.any (qz (mms g (xr us a b') (qU l a x1))))=m'.set j (.any (qz (mms g (xr us a b') (qU l a x1)))):=by
  rw [← hm',List.set_comm _ _ (Ne.symm hij),List.set_set,List.set_comm _ _ hij]
 rw [e1]
 have g1:=hw.perm (qK m' j _ hj2).symm
 have hmem:As.mp b' (zP g x1)∈m'.eraseIdx j:=by
  rcases List.mem_cons.1 ((qK m' j _ hj2).mem_iff.1 (List.mem_of_getElem? hp2)) with h | h
  ·cases h
  ·exact h
 obtain ⟨q,hq⟩:=List.getElem?_of_mem hmem
 have hqe:((m'.set j (.any (qz (mms g (xr us a b') (qU l a x1))))).eraseIdx p).Perm (.any (qz (mms g (xr us a b') (qU l a x1))) :: (m'.eraseIdx j).eraseIdx q):=by
  have h6:=qK (m'.set j (.any (qz (mms g (xr us a b') (qU l a x1))))) p (.mp b' (zP g x1)) (by rw [List.getElem?_set_ne hjp];exact hp2)
  have h7:=(zM (y:=.any (qz (mms g (xr us a b') (qU l a x1)))) hj2).trans (List.Perm.cons _ (qK _ q _ hq))
  exact List.Perm.cons_inv (h6.symm.trans (h7.trans (List.Perm.swap ..)))
 have g3:Cls w0 own (.mp b' (zP g x1) :: .any (qz (mms g us (je l a))) :: (m'.eraseIdx j).eraseIdx q) w:=g1.perm ((List.Perm.swap ..).trans (List.Perm.cons _ (qK _ q _ hq).symm))
 exact ((Cls.rGive g3).rPerm (qdT hn)).perm hqe
theorem qcG:xr us a (us a)=us:=by
 funext q
 unfold xr
 split
 ·rename_i h;rw [h]
 ·rfl
theorem qd2 {γ:Type} {l:List (Int×γ)} {a:Int} {z:γ} {u:γ} (h:(a,u)∈l):(qU l a z).map (·.1)=l.map (·.1):=by
 unfold qU
 rw [if_pos (show kS l a=true from List.any_eq_true.2 ⟨(a,u),h,by simp⟩),List.map_map]
 refine List.map_congr_left fun p _=>?_
 simp only [Function.comp]
 split
 ·rename_i h;exact h.symm
 ·rfl
theorem L.mmUpd (h:qb (ze l a) F=some r) (hu:P.underlying tx=some (.map kt et)) (hk:P.underlying kt=some (.int .i64)) (hx:val fs x=some (xP (qo (mmV us) l) a (.map none))) (hy:val fs y=some (.int .i64 c)) (hz:val fs kv=some (g v0)) (hm:m[i]?=some (.mp b (qo (mmV us) l))) (hj:m[j]?=some (.any (qz (mms g us l))))
  (next:∀ x,ze l a=some x→F x=some r→L P ops Q n (Cls w0 own ((m.set i (.mp b (qo (mmV us) (qU l a (qU x c v0))))).set j (.any (qz (mms g us (qU l a (qU x c v0))))))) rest fs):L P ops Q n (Cls w0 own m) (⟨none,.mapUpdate tx x y kv,t,pos,af,none⟩ :: rest) fs:=by
 obtain ⟨x0,hx0,h⟩:=qd h
 have hij:i≠j:=by rintro rfl;rw [hm] at hj;cases hj
 rw [kR hx0] at hx
 intro ac w hs hw0
 have hn:=Cls.msKeys (us:=mmV us) hw0 hm
 have hw:=hw0.mmOut hx0 hm hj
 have hij2:(m.set j (.any (qz (mms g us (je l a)))))[i]?=some (.mp b (qo (mmV us) l)):=by rw [List.getElem?_set_ne (Ne.symm hij)];exact hm
 refine L.mapSet (i:=0) (g:=g) (lm:=x0) (v0:=v0) hu hk hx hy hz rfl (L.to (fun w hw=>?_) (next x0 hx0 h)) ac w hs hw
 rw [List.set_cons_zero] at hw
 have hmem:=xa hx0
 have e2:qo (mmV us) (qU l a (qU x0 c v0))=qo (mmV us) l:=by
  have h1:=qd2 (z:=qU x0 c v0) hmem
  have h2:∀ (q:List (Int×List (Int×β))),qo (mmV us) q=(q.map (·.1)).map fun k=>(k,mmV us k):=fun q=>by simp [qo,List.map_map,Function.comp_def]
  rw [h2,h2,h1]
 rw [e2,kp (m:=m) hm]
 have hj3:(m.set j (.any (qz (mms g us (je l a)))))[j]?=some (.any (qz (mms g us (je l a)))):=List.getElem?_set_self (List.getElem?_eq_some_iff.1 hj).1
 have g1:=hw.perm (List.Perm.cons _ (qK _ j _ hj3)).symm
 have g2:=(Cls.rGive g1).rPerm (L1:=mms g us (qU l a (qU x0 c v0))) (by
  have:=qdT (g:=g) (us:=us) (a:=a) (b:=us a) (x1:=qU x0 c v0) hn
  rwa [qcG] at this)
 have h5:=zM (y:=.any (qz (mms g us (qU l a (qU x0 c v0))))) hj3
 rw [List.set_set] at h5
 exact g2.perm h5
def qaH (r:Nat):Res where
 foot:=[r]
 holds:=fun w=>w.heap[r]?=some (.mapIter none 0 #[] 0)
 congr:=fun h hb=>by rw [hb _ (by simp)];exact h
 lt:=fun h b hb=>by
  rw [List.mem_singleton] at hb
  subst hb
  exact (Array.getElem?_eq_some_iff.1 h).1
theorem Cls.nilRange (h:Cls w0 own m w):Cls w0 own (.any (qaH w.heap.size) :: m) (w.alloc (.mapIter none 0 #[] 0)):=by
 have hk:∀ k,k < w.heap.size→(w.alloc (.mapIter none 0 #[] 0)).heap[k]?=w.heap[k]?:=fun k hk=>RowKit.Below.heap_alloc w _ k hk
 refine ⟨h.os,h.tape,h.output,h.dr,Nat.le_trans h.size (by simp),fun k hk' ho=>?_,?_,fun y hy=>?_⟩
 ·rw [hk k (Nat.lt_of_lt_of_le hk' h.size),h.old k hk' ho]
 ·simp only [List.flatMap_cons,As.foot,qaH,List.singleton_append,List.nodup_cons]
  exact ⟨fun hb=>Nat.lt_irrefl _ (h.foot_lt _ hb),h.nodup⟩
 ·rcases List.mem_cons.1 hy with rfl | hy
  ·refine ⟨?_,fun c hc=>?_⟩
   ·show (w.heap.push _)[w.heap.size]?=_
    simp
   ·simp only [As.foot,qaH,List.mem_singleton] at hc
    subst hc
    exact .inl h.size
  ·exact ⟨As.holds_congr (h.mine y hy).1 fun b hb=>hk b (As.holds_lt (h.mine y hy).1 b hb),(h.mine y hy).2⟩
theorem L.rangeNil (hd:Nat.blt d n=true) (hu:P.underlying tx=some (.map kt et)) (hx:val fs x=some (.map none)) (next:∀ rr,L P ops Q n (Cls w0 own (.any (qaH rr) :: m)) rest ((d,pt rr 0) :: fs)):L P ops Q n (Cls w0 own m) (⟨some d,.range tx x,t,pos,af,none⟩ :: rest) fs :=
 L.fresh (val':=fun r=>pt r 0) hd (fun a w hs hw=>by
  refine ⟨w.heap.size,_,?_,hw.nilRange⟩
  simp only [execOp,hs.eval hx]
  simp [run_range_nilMap w tx kt et hu,pt]) next
theorem Y.nextNil {rr:Nat} (hx:val fs x=some (pt rr 0)) (hm:m[i]?=some (.any (qaH rr))):Y P (.next x false) t n fs (Cls w0 own m) (.tuple #[.bool false]) :=
 Y.of fun d pos af gd s w hs hw=>by
  have hb:w.heap[rr]?=some (.mapIter none 0 #[] 0):=hw.get hm
  simp only [execOp,hs.eval hx,pt]
  have:(Instr.next (.pointer (some ⟨rr,0,none⟩)) false t).run P w=.ok (.tuple #[.bool false]) w:=by
   simp only [Instr.next,getObj,Sem.run_bind,Sem.run,hb,Result.andThen]
   rfl
  simp [this]
end
end Go.S
end
