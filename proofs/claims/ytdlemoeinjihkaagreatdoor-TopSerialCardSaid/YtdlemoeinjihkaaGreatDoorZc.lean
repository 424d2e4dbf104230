import Derived.Test.YtdlemoeinjihkaaGreatDoorZb
import Derived.Sort.OwnSortedInts
import Derived.Lib.SlicesCompact
import Derived.Maps.RangeRun
import Derived.LaidEqlPtr
import Derived.Shelf.SlSortCmp.NoneTotal
import Derived.Lib.ItoaNum
import Derived.Lib.LaidTab
set_option linter.unusedVariables false
set_option linter.unusedSimpArgs false
section
namespace Go.S
variable {dR:Dr}
def qci {α0 α1 α2 α3 ρ:Type} (o:Option (α0×α1×α2×α3)) (f:α0→α1→α2→α3→Option ρ):Option ρ:=match o with
 | some (x0,x1,x2,x3)=>f x0 x1 x2 x3
 | none=>none
@[simp] theorem w5 {α0 α1 α2 α3 ρ:Type} (x0:α0) (x1:α1) (x2:α2) (x3:α3) (f:α0→α1→α2→α3→Option ρ):qci (some (x0,x1,x2,x3)) f=f x0 x1 x2 x3:=rfl
theorem qbc {α0 α1 α2 α3 ρ:Type} {o:Option (α0×α1×α2×α3)} {f:α0→α1→α2→α3→Option ρ} {r:ρ} (h:qci o f=some r):∃ x0 x1 x2 x3,o=some (x0,x1,x2,x3)∧f x0 x1 x2 x3=some r:=by
 cases o with
 | none=>cases h
 | some z=>obtain ⟨x0,x1,x2,x3⟩:=z;exact ⟨x0,x1,x2,x3,rfl,h⟩
def yN {α0 α1 α2 α3 α4 ρ:Type} (o:Option (α0×α1×α2×α3×α4)) (f:α0→α1→α2→α3→α4→Option ρ):Option ρ:=match o with
 | some (x0,x1,x2,x3,x4)=>f x0 x1 x2 x3 x4
 | none=>none
@[simp] theorem w4 {α0 α1 α2 α3 α4 ρ:Type} (x0:α0) (x1:α1) (x2:α2) (x3:α3) (x4:α4) (f:α0→α1→α2→α3→α4→Option ρ):yN (some (x0,x1,x2,x3,x4)) f=f x0 x1 x2 x3 x4:=rfl
theorem vY {α0 α1 α2 α3 α4 ρ:Type} {o:Option (α0×α1×α2×α3×α4)} {f:α0→α1→α2→α3→α4→Option ρ} {r:ρ} (h:yN o f=some r):∃ x0 x1 x2 x3 x4,o=some (x0,x1,x2,x3,x4)∧f x0 x1 x2 x3 x4=some r:=by
 cases o with
 | none=>cases h
 | some z=>obtain ⟨x0,x1,x2,x3,x4⟩:=z;exact ⟨x0,x1,x2,x3,x4,rfl,h⟩
def qiV {α0 α1 α2 α3 α4 α5 ρ:Type} (o:Option (α0×α1×α2×α3×α4×α5)) (f:α0→α1→α2→α3→α4→α5→Option ρ):Option ρ:=match o with
 | some (x0,x1,x2,x3,x4,x5)=>f x0 x1 x2 x3 x4 x5
 | none=>none
@[simp] theorem qeH {α0 α1 α2 α3 α4 α5 ρ:Type} (x0:α0) (x1:α1) (x2:α2) (x3:α3) (x4:α4) (x5:α5) (f:α0→α1→α2→α3→α4→α5→Option ρ):qiV (some (x0,x1,x2,x3,x4,x5)) f=f x0 x1 x2 x3 x4 x5:=rfl
theorem qjZ {α0 α1 α2 α3 α4 α5 ρ:Type} {o:Option (α0×α1×α2×α3×α4×α5)} {f:α0→α1→α2→α3→α4→α5→Option ρ} {r:ρ} (h:qiV o f=some r):∃ x0 x1 x2 x3 x4 x5,o=some (x0,x1,x2,x3,x4,x5)∧f x0 x1 x2 x3 x4 x5=some r:=by
 cases o with
 | none=>cases h
 | some z=>obtain ⟨x0,x1,x2,x3,x4,x5⟩:=z;exact ⟨x0,x1,x2,x3,x4,x5,rfl,h⟩
def qow {α0 α1 α2 α3 α4 α5 α6 ρ:Type} (o:Option (α0×α1×α2×α3×α4×α5×α6)) (f:α0→α1→α2→α3→α4→α5→α6→Option ρ):Option ρ:=match o with
 | some (x0,x1,x2,x3,x4,x5,x6)=>f x0 x1 x2 x3 x4 x5 x6
 | none=>none
@[simp] theorem qlZ {α0 α1 α2 α3 α4 α5 α6 ρ:Type} (x0:α0) (x1:α1) (x2:α2) (x3:α3) (x4:α4) (x5:α5) (x6:α6) (f:α0→α1→α2→α3→α4→α5→α6→Option ρ):qow (some (x0,x1,x2,x3,x4,x5,x6)) f=f x0 x1 x2 x3 x4 x5 x6:=rfl
def qov {α0 α1 α2 α3 α4 α5 α6 α7 ρ:Type} (o:Option (α0×α1×α2×α3×α4×α5×α6×α7)) (f:α0→α1→α2→α3→α4→α5→α6→α7→Option ρ):Option ρ:=match o with
 | some (x0,x1,x2,x3,x4,x5,x6,x7)=>f x0 x1 x2 x3 x4 x5 x6 x7
 | none=>none
@[simp] theorem qlY {α0 α1 α2 α3 α4 α5 α6 α7 ρ:Type} (x0:α0) (x1:α1) (x2:α2) (x3:α3) (x4:α4) (x5:α5) (x6:α6) (x7:α7) (f:α0→α1→α2→α3→α4→α5→α6→α7→Option ρ):qov (some (x0,x1,x2,x3,x4,x5,x6,x7)) f=f x0 x1 x2 x3 x4 x5 x6 x7:=rfl
def StbF (K:World→Prop) (w:World) (F:List Nat):Prop:=∀ w',w'.os=w.os→w'.tape=w.tape→w'.output=w.output→w.heap.size≤w'.heap.size→(∀ k,k < w.heap.size→k ∉ F→w'.heap[k]?=w.heap[k]?)→K w'
section
variable {K:World→Prop} {c c':List Ob} {v u:Value} {k:Nat} {rows:List (List Value)} {w0 w w':World} {own:List Nat} {m m' A A' M:List As} {e:TypeId} {i j s:Nat}
theorem Stb.f (h:Stb K w):StbF K w []:=fun w' h1 h2 h3 h4 h5=>h w' ⟨h1,h2,h3,h4,fun q hq=>h5 q hq (by simp)⟩
theorem Fz.clsP (h:Fz K c v k rows) (hK:StbF K w0 own) (hw:Cls w0 own m w) (hl:m.getLast?=some (.os c)):At w v k rows :=
 h w (hK w hw.os hw.tape hw.output hw.size hw.old) (hw.mine _ (List.mem_of_getLast? hl)).1
theorem FzA.clsP {L:List Sd} (h:FzA K c L) (hK:StbF K w0 own) (hw:Cls w0 own m w) (hl:m.getLast?=some (.os c)):∀ d∈L,At w d.v d.k d.rows:=fun d hd=>(h d hd).clsP hK hw hl
theorem FzA.onesP {L0:List Sd} (h:FzA K c L0) (hK:StbF K w0 own) (hw:Cls w0 own m w) (hl:m.getLast?=some (.os c)):∀ d∈L0,d.v.oneCell'=true:=fun d hd=>((h d hd).clsP hK hw hl).one
theorem Cls.lent_no (hw:Cls w0 own (A++M) w) {q:Nat} (hq:q < w0.heap.size) (ho:q ∉ own):q ∉ A.flatMap As.foot:=by
 intro h
 obtain ⟨x,hx,hb⟩:=List.mem_flatMap.1 h
 rcases (hw.mine x (List.mem_append_left _ hx)).2 q hb with h1 | h1
 ·omega
 ·exact ho h1
theorem StbF.lend (hK:StbF K w0 own) (hw:Cls w0 own (A++M) w):StbF K w (A.flatMap As.foot):=fun w' h1 h2 h3 h4 h5 =>
 hK w' (h1.trans hw.os) (h2.trans hw.tape) (h3.trans hw.output) (Nat.le_trans hw.size h4) fun q hq ho=>by
  rw [h5 q (Nat.lt_of_lt_of_le hq hw.size) (hw.lent_no hq ho),hw.old q hq ho]
theorem StbF.kn (hK:StbF K w0 own) (hw:Cls w0 own m w) (hl:m.getLast?=some (.os c)):Stb (Kn K c) w:=by
 have hm:As.os c∈m:=List.mem_of_getLast? hl
 intro w' hb
 refine ⟨hK w' (hb.os.trans hw.os) (hb.tape.trans hw.tape) (hb.output.trans hw.output) (Nat.le_trans hw.size hb.size) fun q hq ho=>?_,fun o ho=>?_⟩
 ·rw [hb.block q (Nat.lt_of_lt_of_le hq hw.size),hw.old q hq ho]
 ·have h2:=(hw.mine _ hm).1 o ho
  rw [hb.block o.b (Array.getElem?_eq_some_iff.1 h2).1,h2]
theorem Cls.lend (hw:Cls w0 own (A++M) w):Cls w (A.flatMap As.foot) A w:=by
 have hn:=hw.nodup
 rw [List.flatMap_append,List.nodup_append] at hn
 exact ⟨rfl,rfl,rfl,DR.refl _,Nat.le_refl _,fun _ _ _=>rfl,hn.1,fun x hx=>⟨(hw.mine x (List.mem_append_left _ hx)).1,fun b hb=>.inr (List.mem_flatMap.2 ⟨x,hx,hb⟩)⟩⟩
theorem Cls.back (hw:Cls w0 own (A++M) w) (h:Cls w (A.flatMap As.foot) A' w'):Cls w0 own (A'++M) w':=by
 have hn:=hw.nodup
 rw [List.flatMap_append,List.nodup_append] at hn
 have hM:∀ b∈M.flatMap As.foot,b < w.heap.size∧b ∉ A.flatMap As.foot:=fun b hb =>
  ⟨hw.foot_lt b (by rw [List.flatMap_append];exact List.mem_append_right _ hb),fun ha=>hn.2.2 b ha b hb rfl⟩
 refine ⟨h.os.trans hw.os,h.tape.trans hw.tape,h.output.trans hw.output,DR.trans hw.dr h.dr,Nat.le_trans hw.size h.size,fun q hq ho=>?_,?_,fun x hx=>?_⟩
 ·rw [h.old q (Nat.lt_of_lt_of_le hq hw.size) (hw.lent_no hq ho),hw.old q hq ho]
 ·rw [List.flatMap_append,List.nodup_append]
  refine ⟨h.nodup,hn.2.1,fun a ha b hb hab=>?_⟩
  subst hab
  obtain ⟨h1,h2⟩:=hM a hb
  obtain ⟨x,hx,hax⟩:=List.mem_flatMap.1 ha
  rcases (h.mine x hx).2 a hax with h3 | h3
  ·omega
  ·exact h2 h3
 ·rcases List.mem_append.1 hx with hx | hx
  ·refine ⟨(h.mine x hx).1,fun b hb=>?_⟩
   rcases (h.mine x hx).2 b hb with h3 | h3
   ·exact .inl (Nat.le_trans hw.size h3)
   ·obtain ⟨y,hy,hby⟩:=List.mem_flatMap.1 h3
    exact (hw.mine y (List.mem_append_left _ hy)).2 b hby
  ·have hxm:=hw.mine x (List.mem_append_right _ hx)
   refine ⟨As.holds_congr hxm.1 fun b hb=>?_,hxm.2⟩
   obtain ⟨h1,h2⟩:=hM b (List.mem_flatMap.2 ⟨x,hx,hb⟩)
   exact h.old b h1 h2
end
def zu [Dr] (P:Program) (f:FuncId) (vs:List Value) (F:List Nat) (w:World) (R:Value→List As→Prop):Prop:=Calls P f vs.toArray w fun e w'=>∃ v m,e=.returned v∧R v m∧Cls w F m w'
section
variable {K:World→Prop} {c c':List Ob} {P:Program} {Q:Exit→Act→World→Prop} {n:Nat} {fs:Fr} {t:TypeId} {ops:Array Oper} {rest:List Oper} {d:Nat} {pos:String} {af:Array Edge}
variable {w0 w:World} {own:List Nat} {m A M:List As} {x y z:Operand} {e te tx ty:TypeId} {i j k kk by' p q s b:Nat} {v u:Value} {rows:List (List Value)}
theorem L.doesP {f:FuncId} {xs:List Operand} {ts:Array TypeId} {vs:List Value} {R:Value→List As→Prop} (hd:Nat.blt d n=true) (he:jx P f=true) (hx:vals fs xs=some vs)
  (hc:∀ w,Cls w0 own (A++M) w→zu P f vs (A.flatMap As.foot) w R) (next:∀ v m',R v m'→L P ops Q n (Cls w0 own (m'++M)) rest ((d,v) :: fs)):L P ops Q n (Cls w0 own (A++M)) (⟨some d,.call ⟨.value (.func f),xs.toArray,ts⟩,t,pos,af,none⟩ :: rest) fs:=by
 refine L.call (R:=fun v w'=>∃ m',R v m'∧Cls w0 own (m'++M) w') hd he hx (fun w hw=>Calls.mono (hc w hw) ?_) fun v=>L.ex fun m'=>?_
 ·rintro e w' ⟨v,m',rfl,hv,hcl⟩
  exact ⟨v,rfl,m',hv,hw.back hcl⟩
 ·rintro a w hs ⟨hr,hcl⟩
  exact next v m' hr a w hs hcl
theorem L.doesFP {f:FuncId} {xs:List Operand} {ts:Array TypeId} {vs:List Value} {R:List Ob→Value→Prop} (hd:Nat.blt d n=true) (he:jx P f=true) (hx:vals fs xs=some vs) (hl:m.getLast?=some (.os c)) (hK:StbF K w0 own)
  (hc:∀ w1,Cls w0 own m w1→Stb (Kn K c) w1→Does P f vs w1 fun u m'=>∃ c2,m'=[.os c2]∧R c2 u)
  (next:∀ u c2 c',Mo c c'→(∀ {v k rows},Fz (Kn K c) c2 v k rows→Fz K c' v k rows)→(∀ {L0},FzA (Kn K c) c2 L0→FzA K c' L0)→R c2 u→L P ops Q n (Cls w0 own (m.dropLast++[.os c'])) rest ((d,u) :: fs)) :
  L P ops Q n (Cls w0 own m) (⟨some d,.call ⟨.value (.func f),xs.toArray,ts⟩,t,pos,af,none⟩ :: rest) fs:=by
 refine L.does hd he hx (fun w hw=>hc w hw (hK.kn hw hl)) ?_
 rintro u m' ⟨c2,rfl,hr⟩
 have key:∀ {v k rows},Fz (Kn K c) c2 v k rows→Fz K (c2++c) v k rows:=fun h w hk hh=>h w ⟨hk,fun o ho=>hh o (List.mem_append_right _ ho)⟩ fun o ho=>hh o (List.mem_append_left _ ho)
 refine L.to (fun w hw=>?_) (next u c2 (c2++c) Mo.app1 key (fun h d hd=>key (h d hd)) hr)
 have hne:m≠[]:=by rintro rfl;cases hl
 have h5:=List.dropLast_concat_getLast hne
 rw [List.getLast?_eq_some_getLast hne] at hl
 rw [Option.some.inj hl] at h5
 rw [← h5] at hw
 refine hw.rePerm ?_ fun z hz=>?_
 ·simp only [List.flatMap_append,List.flatMap_cons,List.flatMap_nil,List.append_nil,List.singleton_append,As.foot,List.map_append]
  rw [← List.append_assoc,← List.append_assoc]
  exact List.Perm.append_right _ List.perm_append_comm
 ·rcases List.mem_append.1 hz with h1 | h1
  ·exact (hw.mine z (by simp [h1])).1
  ·simp only [List.mem_singleton] at h1
   subst h1
   intro o ho
   rcases List.mem_append.1 ho with h2 | h2
   ·exact (hw.mine (.os c2) (by simp)).1 o h2
   ·exact (hw.mine (.os c) (by simp)).1 o h2
variable {α ρ:Type} {r:ρ} {row:α→List Value→List Value} {sds:α→List Value→List Sd} {vs vs2:Nat→List Value} {l l2:List α} {a:Int} {u0 u1:α} {f:List α→Option ρ}
end
end Go.S
end
section
namespace Go.S
variable {dR:Dr}
open Go.Sort
def srt (l:List Int):List Int:=l.mergeSort fun x y=>decide (x≤y)
def qby (l:List Int):Option (List Int):=if l.length < 4611686018427387904 then some (srt l) else none
theorem qei {l r:List Int} (h:qby l=some r):l.length < 4611686018427387904∧r=srt l:=by
 unfold qby at h
 split at h
 ·simp only [Option.some.injEq] at h;exact ⟨by assumption,h.symm⟩
 ·cases h
structure qlx (P:Program) (f:FuncId):Prop where
 some':∀ (blk off cap:Nat) (zs:List Int) (w:World),Go.Sort.Holds (Value.int .i64) w blk off zs.toArray→blk < w.heap.size→zs.length < 4611686018427387904 →
  Calls P f #[.slice (some ⟨blk,off,none⟩) zs.length cap] w fun e w'=>e=.returned (.tuple #[])∧∃ n os,w'=grow (Go.Sort.putRow (Value.int .i64) (Sort.ahead w n) blk off (zs.mergeSort fun x y=>decide (x≤y)).toArray) os
 none':∀ (p:Option Addr) (cap:Nat) (w:World),Calls P f #[.slice p 0 cap] w fun e w'=>e=.returned (.tuple #[])∧w'=w
theorem xK:∀ l:List Int,(l.map I).flatten=l.map (Value.int .i64)
 | []=>rfl
 | x :: l=>by simp only [List.map_cons,List.flatten_cons,xK l];rfl
section
variable {P:Program} {Q:Exit→Act→World→Prop} {n:Nat} {fs:Fr} {t:TypeId} {ops:Array Oper} {rest:List Oper} {d:Nat} {pos:String} {af:Array Edge}
variable {w0:World} {own:List Nat} {m:List As} {x:Operand} {e:TypeId} {i:Nat} {v:Value} {l:List Int} {f:FuncId} {ts:Array TypeId}
theorem xe (l:List Int):(srt l).length=l.length:=by unfold srt;exact List.length_mergeSort l
theorem Cls.grown {w:World} (h:Cls w0 own m w) (os:Array Obj):Cls w0 own m (grow w os):=by
 have h':Cls w [] [] (grow w os):=⟨rfl,rfl,rfl,DR.refl w,by simp [grow],fun k hk _=>heap_grow_old w os hk,by simp,fun x hx=>by cases hx⟩
 have:=h.call h'
 simpa using this
theorem Cls.sorted {w:World} (h:Cls w0 own m w) (hm:m[i]?=some (.sl v e 1 (l.map I))) (hS:qlx P f) (hl:l.length < 4611686018427387904) :
  Calls P f #[v] w fun en w'=>en=.returned (.tuple #[])∧Cls w0 own (m.set i (.sl v e 1 ((srt l).map I))) w':=by
 obtain ⟨hr,hln,h3⟩:=h.get hm
 rcases h3 with ⟨rfl,hn⟩ | ⟨g,cap,cur,rfl,hg,hh,hnc,hcm,hcs,htk⟩
 ·have h0:l=[]:=by simpa using hn
  subst h0
  refine Calls.mono (hS.none' none 0 w) ?_
  rintro en w' ⟨rfl,rfl⟩
  refine ⟨rfl,?_⟩
  have:(As.sl (.slice none 0 0) e 1 ((srt []).map I))=As.sl (.slice none 0 0) e 1 (([]:List Int).map I):=by simp [srt]
  rw [this]
  obtain ⟨h1,h2⟩:=List.getElem?_eq_some_iff.1 hm
  rw [← h2,List.set_getElem_self]
  exact h
 ·rw [List.length_map,Nat.mul_one,xK] at htk
  rw [List.length_map] at hnc
  have hgl:g < w.heap.size:=(Array.getElem?_eq_some_iff.1 hh).1
  rw [List.length_map]
  refine Calls.mono (hS.some' g 0 cap l w (holds_of_blockI hh htk) hgl hl) ?_
  rintro en w' ⟨rfl,q,os,rfl⟩
  refine ⟨rfl,Cls.grown ?_ os⟩
  have hsz:cur.size=cap*1:=hcs
  refine h.turn hm rfl rfl rfl rfl (by simp) (Nat.le_add_right _ _) (fun k hk=>?_) ⟨fun r hr=>?_,?_⟩
  ·have:=(grownBy_sortedI (w:=w) (g:=g) (n:=q) (os:=#[]) (srt l).toArray)
   rw [grow_empty] at this
   have hne:k≠g:=by
    intro hkg
    exact hk (by simp [As.foot,Value.ownBlock,hkg])
   simp [Go.Sort.putRow,Go.Sort.mapBlock,Sort.ahead,Array.getElem?_modify,Ne.symm hne]
  ·obtain ⟨z,_,rfl⟩:=List.mem_map.1 hr;rfl
  ·have:=ownsRow_sortedI (w:=w) (base:=0) (g:=g) (cap:=cap) (n:=q) (e:=e) (os:=#[]) (cur:=cur) (ss:=l) (ts:=srt l) (xe l) (Nat.zero_le _) hh hnc hcm hsz
   rw [grow_empty] at this
   rw [List.length_map,xK,xe]
   exact this
theorem L.sortMD {ρ:Type} {r:ρ} {F:List Int→Option ρ} (h:qb (qby l) F=some r) (hS:qlx P f) (hd:Nat.blt d n=true) (he:jx P f=true) (hx:val fs x=some v) (hm:m[i]?=some (.sl v e 1 (l.map I)))
  (next:∀ z,qby l=some z→F z=some r→L P ops Q n (Cls w0 own (m.set i (.sl v e 1 (z.map I)))) rest ((d,.tuple #[]) :: fs)):L P ops Q n (Cls w0 own m) (⟨some d,.call ⟨.value (.func f),#[x],ts⟩,t,pos,af,none⟩ :: rest) fs:=by
 obtain ⟨z,hz,h⟩:=qc h
 obtain ⟨hl,rfl⟩:=qei hz
 intro a w hs hw
 have hrun:(execOp a.eval ⟨some d,.call ⟨.value (.func f),#[x],ts⟩,t,pos,af,none⟩).run P w=.ok (.enter f #[v]) w:=xI (xs:=[x]) (vs:=[v]) he (by simp [vals,hx]) hs w (some d)
 simp only [wpList,Region.wanted,if_true]
 refine .inl ?_
 unfold Oper.wp
 rw [hrun]
 refine (hw.sorted hm hS hl).mono ?_
 rintro en w' ⟨rfl,hc⟩
 exact next _ hz h _ w' (hs.put hd _) hc
end
end Go.S
end
section
namespace Go.S
variable {dR:Dr}
open Go.Sort
def xT (l:List Int):Option (List Int):=if l.length < 4611686018427387904 then some (Lib.compact l) else none
theorem yn {l r:List Int} (h:xT l=some r):l.length < 4611686018427387904∧r=Lib.compact l:=by
 unfold xT at h
 split at h
 ·simp only [Option.some.injEq] at h;exact ⟨by assumption,h.symm⟩
 ·cases h
structure qlK (P:Program) (f:FuncId):Prop where
 some':∀ (blk off cap:Nat) (zs:List Int) (w:World),Go.Sort.Holds (Value.int .i64) w blk off zs.toArray→zs.length≤9223372036854775807→zs.length≤cap →
  Calls P f #[.slice (some ⟨blk,off,none⟩) zs.length cap] w fun e w'=>e=.returned (.slice (some ⟨blk,off,none⟩) (Lib.compact zs).length cap)∧∃ q,w'=Go.Sort.putRow (Value.int .i64) (Sort.ahead w q) blk off (Lib.compact zs++List.replicate (zs.length - (Lib.compact zs).length) 0).toArray
 none':∀ (p:Option Addr) (cap:Nat) (w:World),Calls P f #[.slice p 0 cap] w fun e w'=>e=.returned (.slice p 0 cap)∧w'=w
theorem vV (l:List Int):(Lib.compact l).length≤l.length:=by
 unfold Lib.compact Lib.compactUpTo
 rw [List.length_map]
 exact Nat.le_trans (List.length_filter_le _ _) (by simp)
theorem qch (l:List Int) (x:Int):x∈Lib.compact l↔x∈l:=by
 unfold Lib.compact Lib.compactUpTo
 simp only [List.mem_map,List.mem_filter,List.mem_range]
 constructor
 ·rintro ⟨j,⟨hj,_⟩,rfl⟩
  have:l.toArray[j]! = l[j]:=by simp [hj]
  rw [this];exact List.getElem_mem hj
 ·intro hx
  obtain ⟨j,hj,rfl⟩:=List.getElem_of_mem hx
  induction j with
  | zero=>exact ⟨0,⟨hj,by simp [Lib.keeps]⟩,by simp [hj]⟩
  | succ j ih =>
   by_cases h:l[j+1]=l[j]
   ·rw [h];exact ih (by omega) (List.getElem_mem _)
   ·exact ⟨j+1,⟨hj,by simp [Lib.keeps,hj,show j < l.length by omega,h]⟩,by simp [hj]⟩
section
variable {P:Program} {Q:Exit→Act→World→Prop} {n:Nat} {fs:Fr} {t:TypeId} {ops:Array Oper} {rest:List Oper} {d:Nat} {pos:String} {af:Array Edge}
variable {w0:World} {own:List Nat} {m:List As} {x:Operand} {e:TypeId} {i:Nat} {v:Value} {l:List Int} {f:FuncId} {ts:Array TypeId}
theorem Cls.compacted {w:World} (h:Cls w0 own m w) (hm:m[i]?=some (.sl v e 1 (l.map I))) (hS:qlK P f) (hl:l.length < 4611686018427387904) :
  Calls P f #[v] w fun en w'=>∃ v',en=.returned v'∧Cls w0 own (m.set i (.sl v' e 1 ((Lib.compact l).map I))) w':=by
 obtain ⟨hr,hln,h3⟩:=h.get hm
 rcases h3 with ⟨rfl,hn⟩ | ⟨g,cap,cur,rfl,hg,hh,hnc,hcm,hcs,htk⟩
 ·have h0:l=[]:=by simpa using hn
  subst h0
  refine Calls.mono (hS.none' none 0 w) ?_
  rintro en w' ⟨rfl,rfl⟩
  refine ⟨_,rfl,?_⟩
  have:(As.sl (.slice none 0 0) e 1 ((Lib.compact ([]:List Int)).map I))=As.sl (.slice none 0 0) e 1 (([]:List Int).map I):=by simp [Lib.compact,Lib.compactUpTo]
  rw [this,zJ hm]
  exact h
 ·rw [List.length_map,Nat.mul_one,xK] at htk
  rw [List.length_map] at hnc
  have hgl:g < w.heap.size:=(Array.getElem?_eq_some_iff.1 hh).1
  have hcl:=vV l
  rw [List.length_map]
  refine Calls.mono (hS.some' g 0 cap l w (holds_of_blockI hh htk) (by omega) hnc) ?_
  rintro en w' ⟨rfl,q,rfl⟩
  refine ⟨_,rfl,?_⟩
  have hsz:cur.size=cap*1:=hcs
  generalize hts:(Lib.compact l++List.replicate (l.length - (Lib.compact l).length) 0)=ts0
  have htl:ts0.length=l.length:=by rw [← hts];simp;omega
  have ho:=ownsRow_sortedI (w:=w) (base:=0) (g:=g) (cap:=cap) (n:=q) (e:=e) (os:=#[]) (cur:=cur) (ss:=l) (ts:=ts0) htl (Nat.zero_le _) hh hnc hcm hsz
  rw [grow_empty] at ho
  refine h.turn hm rfl rfl rfl rfl (by simp) (Nat.le_add_right _ _) (fun k hk=>?_) ⟨fun r hr=>?_,?_⟩
  ·have hne:k≠g:=by
    intro hkg
    exact hk (by simp [As.foot,Value.ownBlock,hkg])
   simp [Go.Sort.putRow,Go.Sort.mapBlock,Sort.ahead,Array.getElem?_modify,Ne.symm hne]
  ·obtain ⟨z,_,rfl⟩:=List.mem_map.1 hr;rfl
  ·rw [List.length_map,xK]
   obtain ⟨h1,h2⟩:=ho
   rcases h2 with ⟨h4,_⟩ | ⟨g',cap',cur',h4,h5,h6,h7,h8,h9,h10⟩
   ·cases h4
   ·cases h4
    refine ⟨by simp,.inr ⟨_,_,cur',rfl,h5,h6,Nat.le_trans hcl h7,h8,h9,?_⟩⟩
    rw [Nat.mul_one] at h10 ⊢
    have h11:(cur'.toList.take l.length).take (Lib.compact l).length=(ts0.map (Value.int .i64)).take (Lib.compact l).length:=by rw [h10]
    rw [List.take_take,Nat.min_eq_left hcl] at h11
    rw [h11,← hts,List.map_append,List.take_left' (by simp)]
theorem L.compactMD {ρ:Type} {r:ρ} {F:List Int→Option ρ} (h:qb (xT l) F=some r) (hS:qlK P f) (hd:Nat.blt d n=true) (he:jx P f=true) (hx:val fs x=some v) (hm:m[i]?=some (.sl v e 1 (l.map I)))
  (next:∀ v' z,xT l=some z→F z=some r→L P ops Q n (Cls w0 own (m.set i (.sl v' e 1 (z.map I)))) rest ((d,v') :: fs)):L P ops Q n (Cls w0 own m) (⟨some d,.call ⟨.value (.func f),#[x],ts⟩,t,pos,af,none⟩ :: rest) fs:=by
 obtain ⟨z,hz,h⟩:=qc h
 obtain ⟨hl,rfl⟩:=yn hz
 intro a w hs hw
 have hrun:(execOp a.eval ⟨some d,.call ⟨.value (.func f),#[x],ts⟩,t,pos,af,none⟩).run P w=.ok (.enter f #[v]) w:=xI (xs:=[x]) (vs:=[v]) he (by simp [vals,hx]) hs w (some d)
 simp only [wpList,Region.wanted,if_true]
 refine .inl ?_
 unfold Oper.wp
 rw [hrun]
 refine (hw.compacted hm hS hl).mono ?_
 rintro en w' ⟨v',rfl,hc⟩
 exact next v' _ hz h _ w' (hs.put hd _) hc
end
end Go.S
end
section
namespace Go.S
variable {dR:Dr}
open Go.Sort
def qpW (l:List Int) (i j:Int):Option (List Int):=if 0≤i∧i < j∧j≤l.length∧l.length < 4611686018427387904 then some (l.take i.toNat++l.drop j.toNat) else none
def qqc (P:Program) (f:FuncId):Prop :=
 ∀ (blk off cap i j:Nat) (zs:List Int) (w:World),Go.Sort.Holds (Value.int .i64) w blk off zs.toArray→zs.length≤cap→cap≤9223372036854775807→i≤j→j≤zs.length →
  Calls P f #[.slice (some ⟨blk,off,none⟩) zs.length cap,.int .i64 i,.int .i64 j] w fun e w'=>e=.returned (.slice (some ⟨blk,off,none⟩) (zs.length - (j - i)) cap)∧∃ q,w'=Go.Sort.putRow (Value.int .i64) (Sort.ahead w q) blk off (zs.take i++zs.drop j++List.replicate (j - i) 0).toArray
section
variable {P:Program} {Q:Exit→Act→World→Prop} {n:Nat} {fs:Fr} {t:TypeId} {ops:Array Oper} {rest:List Oper} {d:Nat} {pos:String} {af:Array Edge}
variable {w0:World} {own:List Nat} {m:List As} {x y z:Operand} {e:TypeId} {i:Nat} {v:Value} {l:List Int} {f:FuncId} {ts:Array TypeId} {a b:Int}
end
end Go.S
end
section
namespace Go.S
variable {dR:Dr}
section lists
variable {α:Type} {row:α→List Value} {e:TypeId}
def zp (g:Nat→Nat):List α→List (List Value)
 | []=>[]
 | _ :: l=>[pt (g 0) 0] :: zp (fun i=>g (i+1)) l
def zo (row:α→List Value) (e:TypeId) (g:Nat→Nat):List α→List Ob
 | []=>[]
 | x :: l=>⟨g 0,row x,e⟩ :: zo row e (fun i=>g (i+1)) l
def qfk (g:Nat→Nat) (n b:Nat):Nat→Nat:=fun q=>if q < n then g q else b
theorem qmN (g:Nat→Nat) (b:Nat):qfk g 0 b=fun _=>b:=by funext q;simp [qfk]
theorem qmM (g:Nat→Nat) (n b:Nat):qfk g (n+1) b 0=g 0:=by simp [qfk]
theorem qk6 (g:Nat→Nat) (n b:Nat):(fun i=>qfk g (n+1) b (i+1))=qfk (fun i=>g (i+1)) n b:=by
 funext i
 simp only [qfk]
 by_cases h:i < n
 ·rw [if_pos (by omega),if_pos h]
 ·rw [if_neg (by omega),if_neg h]
end lists
section
variable {P:Program} {Q:Exit→Act→World→Prop} {n:Nat} {C:World→Prop} {fs:Fr} {t:TypeId} {ops:Array Oper} {rest:List Oper} {d:Nat} {pos:String} {af:Array Edge}
variable {w0 w:World} {own:List Nat} {m:List As} {x y:Operand} {e te tx ty:TypeId} {i j k kk by' p q s c:Nat} {v u V:Value} {o b:Nat}
variable {α ρ:Type} {r:ρ} {row:α→List Value} {g:Nat→Nat} {l:List α} {a:Int} {u0 u1:α} {f:List α→Option ρ}
theorem qf9:∀ (l:List Ob) (i:Nat) (o o':Ob),l[i]?=some o→o'.b=o.b→(l.set i o').map Ob.b=l.map Ob.b
 | [],i,o,o',h,_=>by simp at h
 | z :: l,0,o,o',h,hb=>by
  simp only [List.getElem?_cons_zero,Option.some.injEq] at h
  subst h
  simp [hb]
 | z :: l,i+1,o,o',h,hb=>by
  simp only [List.getElem?_cons_succ] at h
  simp [qf9 l i o o' h hb]
theorem qaR {β:Type}:∀ (l:List β) (i j:Nat) (x:β),l.Nodup→l[i]?=some x→l[j]?=some x→i=j
 | [],i,j,x,_,h,_=>by simp at h
 | z :: l,0,0,x,_,_,_=>rfl
 | z :: l,0,j+1,x,hn,h1,h2=>by
  simp only [List.getElem?_cons_zero,Option.some.injEq] at h1
  subst h1
  exact absurd (List.mem_of_getElem? (by simpa using h2)) (List.nodup_cons.1 hn).1
 | z :: l,i+1,0,x,hn,h1,h2=>by
  simp only [List.getElem?_cons_zero,Option.some.injEq] at h2
  subst h2
  exact absurd (List.mem_of_getElem? (by simpa using h1)) (List.nodup_cons.1 hn).1
 | z :: l,i+1,j+1,x,hn,h1,h2=>by
  simp only [List.getElem?_cons_succ] at h1 h2
  rw [qaR l i j x (List.nodup_cons.1 hn).2 h1 h2]
theorem jb:∀ {m:List As} {x:As},(m.flatMap As.foot).Nodup→x∈m→x.foot.Nodup
 | [],x,_,h=>by cases h
 | y :: m,x,hn,h=>by
  rw [List.flatMap_cons,List.nodup_append] at hn
  rcases List.mem_cons.1 h with rfl | h
  ·exact hn.1
  ·exact jb hn.2.1 h
theorem Cls.osPut {w w':World} {L0:List Ob} {o:Ob} {c':List Value} (h:Cls w0 own m w) (hm:m[q]?=some (.os L0)) (hi:L0[i]?=some o) (ht:Turned w w' o.b) (hb:w'.heap[o.b]?=some (.cells c'.toArray o.e (0,0))) :
  Cls w0 own (m.set q (.os (L0.set i ⟨o.b,c',o.e⟩))) w':=by
 have hmem:(As.os L0)∈m:=List.mem_of_getElem? hm
 have hnd:(L0.map Ob.b).Nodup:=jb h.nodup hmem
 have hh:(As.os L0).holds w:=h.get hm
 refine h.turn hm (qf9 L0 i o _ hi rfl) ht.os ht.tape ht.output ht.size (Nat.le_of_eq ht.drawn.symm) (fun k hk=>ht.rest k fun hkb=>hk ?_) ?_
 ·rw [hkb];exact List.mem_map.2 ⟨o,List.mem_of_getElem? hi,rfl⟩
 ·intro z hz
  obtain ⟨j,hj⟩:=List.getElem?_of_mem hz
  rw [List.getElem?_set] at hj
  split at hj
  ·split at hj
   ·simp only [Option.some.injEq] at hj
    subst hj
    exact hb
   ·cases hj
  ·rename_i hij
   have hne:z.b≠o.b:=fun hzb=>hij (qaR (L0.map Ob.b) i j o.b hnd (by rw [List.getElem?_map,hi];rfl) (by rw [List.getElem?_map,hj,← hzb];rfl))
   rw [ht.rest _ hne]
   exact hh z (List.mem_of_getElem? hj)
theorem Cls.obCell {L0:List Ob} {o:Ob} {pv:Value} (h:Cls w0 own m w) (hm:m[q]?=some (.os L0)) (hi:L0[i]?=some o) (hv:o.c[j]?=some pv):w.cell? ⟨o.b,j,none⟩=some pv:=by
 have hh:(As.os L0).holds w:=h.get hm
 have hb:=hh o (List.mem_of_getElem? hi)
 simp [World.cell?,hb,hv]
theorem Cls.os0 (h:Cls w0 own m w):Cls w0 own (.os [] :: m) w:=by
 refine h.rePerm (by simp [As.foot]) fun z hz=>?_
 rcases List.mem_cons.1 hz with rfl | hz
 ·intro o ho;cases ho
 ·exact (h.mine z hz).1
theorem Cls.osJoin {L0:List Ob} {cs:List Value} (h:Cls w0 own (.os L0 :: .obj b cs e :: m) w):Cls w0 own (.os (L0++[⟨b,cs,e⟩]) :: m) w:=by
 refine h.rePerm ?_ fun z hz=>?_
 ·simp [As.foot]
 ·rcases List.mem_cons.1 hz with rfl | hz
  ·intro o ho
   rcases List.mem_append.1 ho with ho | ho
   ·exact (h.mine (.os L0) (by simp)).1 o ho
   ·simp only [List.mem_singleton] at ho
    subst ho
    exact (h.mine (.obj b cs e) (by simp)).1
  ·exact (h.mine z (by simp [hz])).1
def VF (x:Int):Value:=.func (.func x.toNat) #[] #[]
end
end Go.S
end
section
namespace Go.S
variable {dR:Dr}
def nxt {α ρ:Type} [DecidableEq ρ] (l:List α) (A:Option ρ) (B:α→List α→Option ρ):Option ρ:=match l with
 | []=>A
 | p :: q=>if (List.range (q.length+1)).all (fun j=>match (p :: q)[j]? with
   | some x=>decide (B x ((p :: q).eraseIdx j)=B p q)
   | none=>true)=true then B p q else none
section
variable {α ρ:Type} [DecidableEq ρ] {l:List α} {A:Option ρ} {B:α→List α→Option ρ} {r:ρ}
@[simp] theorem qoj:nxt [] A B=A:=rfl
def qpX {α ρ:Type} [DecidableEq ρ] (l:List (Int×α)) (A:Option ρ) (B:Int→α→List (Int×α)→Option ρ):Option ρ:=nxt l A fun p q=>B p.1 p.2 q
end
section
variable {P:Program} {Q:Exit→Act→World→Prop} {n:Nat} {fs:Fr} {C:World→Prop} {t:TypeId} {ops:Array Oper} {rest:List Oper} {d:Nat} {pos:String} {af:Array Edge}
variable {w0:World} {own:List Nat} {m:List As} {x y z:Operand} {kt et tx:TypeId} {i b:Nat} {l left:List (Int×Value)} {a:Int} {v:Value}
def qpA (a:Int):Value→Bool
 | .int .i64 b=>decide (b=a)
 | _=>false
section
variable {α ρ:Type} {g:α→Value} {lm left:List (Int×α)} [DecidableEq ρ] {A:Option ρ} {B:Int→α→List (Int×α)→Option ρ} {r:ρ} {rr:Nat}
end
end
section
variable {P:Program} {n:Nat} {fs:Fr} {C:World→Prop} {t:TypeId} {x y:Operand} {tx te:TypeId} {α:Type} {row:α→List Value} {l:List α} {k len:Nat} {ik:IntKind} {a:Int}
theorem Y.idxArr1 {u:α} {p:Value} (hu:P.underlying tx=some (.array len te)) (ha:qM P te false=true) (hs:szB P te 1=true) (hx:val fs x=some (.agg (l.map row).flatten.toArray)) (hy:val fs y=some (.int ik a)) (hlen:∀ z,(row z).length=1) (hr:zD len l a=some u) (hp:row u=[p]) :
  Y P (.index tx x y) t n fs C p :=
 Y.of fun d pos af g s w hs' hw=>by
  obtain ⟨h0,h1,h2⟩:=qe (qg hr)
  have h3:=yH hr
  have hf:(l.map row).flatten[a.toNat*1+0]?=some p:=qJ _ _ _ _ _ (by intro r hr';obtain ⟨z,_,rfl⟩:=List.mem_map.1 hr';exact hlen z) (by rw [List.getElem?_map,h2];rfl) (by rw [hp];rfl)
  simp only [Nat.mul_one,Nat.add_zero] at hf
  simp only [execOp,hs'.eval hx,hs'.eval hy]
  simp [Instr.index,asIntOf,run_underlying hu,h0,h3,part,xG ha,qn hs,hf]
end
end Go.S
end
section
namespace Go.S
variable {dR:Dr}
def vi {κ α:Type} [DecidableEq κ] (l:List (κ×α)) (k:κ) (z:α):α:=match l.find? (fun p=>decide (p.1=k)) with
 | some p=>p.2
 | none=>z
def qkW {κ α:Type} [DecidableEq κ] (l:List (κ×α)) (k:κ):Bool:=l.any fun p=>decide (p.1=k)
def qbw {κ α:Type} [DecidableEq κ] (l:List (κ×α)) (k:κ) (v:α):List (κ×α):=if qkW l k=true then l.map (fun p=>if p.1=k then (k,v) else p) else l++[(k,v)]
def qav {κ α:Type} (K:κ→Value) (g:α→Value) (l:List (κ×α)):List (Value×Value):=l.map fun p=>(K p.1,g p.2)
def qpY {κ α ρ:Type} [DecidableEq ρ] (l:List (κ×α)) (A:Option ρ) (B:κ→α→List (κ×α)→Option ρ):Option ρ:=nxt l A fun p q=>B p.1 p.2 q
section
variable {κ α:Type} [DecidableEq κ] {l:List (κ×α)} {k a:κ} {v z:α}
theorem qcQ:qkW l k=true↔∃ p∈l,p.1=k:=by simp [qkW]
theorem qkX (hn:(l.map (·.1)).Nodup) {j:Nat} (h:l[j]?=some (a,v)):vi l a z=v:=by
 have hm:=List.mem_of_getElem? h
 unfold vi
 cases hf:l.find? (fun p=>decide (p.1=a)) with
 | none =>
  have:=List.find?_eq_none.1 hf (a,v) hm
  simp at this
 | some p =>
  have hp:=List.mem_of_find?_eq_some hf
  have hpa:p.1=a:=by simpa using List.find?_some hf
  have:∀ (l:List (κ×α)),(l.map (·.1)).Nodup→∀ p q:κ×α,p∈l→q∈l→p.1=q.1→p=q:=by
   intro l
   induction l with
   | nil=>intro _ p q hp;cases hp
   | cons c l ih =>
    intro hn p q hp hq hpq
    rw [List.map_cons,List.nodup_cons] at hn
    rcases List.mem_cons.1 hp with e1 | hp' <;> rcases List.mem_cons.1 hq with e2 | hq'
    ·rw [e1,e2]
    ·exact absurd (List.mem_map.2 ⟨q,hq',by rw [← hpq,e1]⟩) hn.1
    ·exact absurd (List.mem_map.2 ⟨p,hp',by rw [hpq,e2]⟩) hn.1
    ·exact ih hn.2 p q hp' hq' hpq
  rw [this l hn p (a,v) hp hm hpa]
theorem qgm (h:∀ p∈l,p.1≠a):vi l a z=z:=by
 unfold vi
 rw [List.find?_eq_none.2 (fun p hp=>by simpa using h p hp)]
theorem qkV (hn:(l.map (·.1)).Nodup) {j:Nat} {u:α} (h:l[j]?=some (a,u)):qbw l a v=l.set j (a,v):=by
 have hm:=List.mem_of_getElem? h
 unfold qbw
 rw [if_pos (qcQ.2 ⟨_,hm,rfl⟩)]
 have:∀ (l:List (κ×α)) (j:Nat),(l.map (·.1)).Nodup→l[j]?=some (a,u)→l.map (fun p=>if p.1=a then (a,v) else p)=l.set j (a,v):=by
  intro l
  induction l with
  | nil=>intro j _ h;simp at h
  | cons c l ih =>
   intro j hn h
   rw [List.map_cons,List.nodup_cons] at hn
   cases j with
   | zero =>
    simp only [List.getElem?_cons_zero,Option.some.injEq] at h
    subst h
    have:l.map (fun p=>if p.1=a then (a,v) else p)=l:=by
     rw [List.map_congr_left (g:=id) (fun p hp=>?_)]
     ·simp
     ·have:p.1≠a:=fun e=>hn.1 (List.mem_map.2 ⟨p,hp,e⟩)
      simp [this]
    simp [this]
   | succ j =>
    simp only [List.getElem?_cons_succ] at h
    have hc:c.1≠a:=fun e=>hn.1 (List.mem_map.2 ⟨_,List.mem_of_getElem? h,e.symm⟩)
    simp [hc,ih j hn.2 h]
 exact this l j hn h
theorem qgl (h:∀ p∈l,p.1≠a):qkW l a=false:=by
 cases hh:qkW l a with
 | false=>rfl
 | true =>
  obtain ⟨p,hp,e⟩:=qcQ.1 hh
  exact absurd e (h p hp)
end
structure qp9 (P:Program) (kt:TypeId) {κ:Type} (row:κ→List Value):Prop where
 un:∃ fs,P.underlying kt=some (.struct fs)
 ag:qM P kt true=true
 sh:∀ x,shB P 5 kt (row x)=true
 inj:∀ x y,row x=row y→x=y
 chk:∀ x (e:Bool) (w:World),(Instr.checkKey e 10000 kt (VA row x)).run P w=.ok () w
 ints:∀ x,∀ v∈row x,∃ k a,v=.int k a
section
variable {P:Program} {κ:Type} {row:κ→List Value} {kt:TypeId}
variable [DecidableEq κ]
end
section
variable {P:Program} {Q:Exit→Act→World→Prop} {n:Nat} {fs:Fr} {C:World→Prop} {t:TypeId} {ops:Array Oper} {rest:List Oper} {d:Nat} {pos:String} {af:Array Edge}
variable {w0:World} {own:List Nat} {m:List As} {x y z:Operand} {kt et tx:TypeId} {i b:Nat} {l left:List (Value×Value)}
theorem L.makeMapq (hd:Nat.blt d n=true) (next:∀ b,L P ops Q n (Cls w0 own (.mq b [] :: m)) rest ((d,.map (some b)) :: fs)):L P ops Q n (Cls w0 own m) (⟨some d,.makeMap tx none,t,pos,af,none⟩ :: rest) fs :=
 L.fresh (val':=fun b=>.map (some b)) hd (fun a w hs hw=>by
  refine ⟨w.heap.size,_,?_,hw.allocO (.map #[] 0) (.mq w.heap.size []) rfl ⟨#[],0,?_,MapKept.stamped_empty 0,rfl⟩⟩
  ·simp only [execOp,Option.map_none]
   rfl
  ·show (w.heap.push _)[w.heap.size]?=_
   simp) next
structure Mpq (w:World) (b:Nat) (l:List (Value×Value)) (es:Array MapEntry) (clock:Nat):Prop where
 here:w.heap[b]?=some (.map es clock)
 st:MapKept.Stamped es clock
 kv:es.toList.map (fun e=>(e.key,e.val))=l
def qp0:As→Option (Nat×List (Value×Value))
 | .mq b l=>some (b,l)
 | .mqi b _ l _ _=>some (b,l)
 | _=>none
section gen
variable {κ:Type} {row:κ→List Value} {α:Type} {g:α→Value} {lm:List (κ×α)} {z0 v0:α} {a:κ}
variable [DecidableEq κ]
end gen
section
variable {κ α ρ:Type} {K:κ→Value} {g:α→Value} {lm left:List (κ×α)} [DecidableEq ρ] {A:Option ρ} {B:κ→α→List (κ×α)→Option ρ} {r:ρ} {rr:Nat}
end
end
end Go.S
end
section
namespace Go.S
variable {dR:Dr}
def VP (g:Nat→Nat) (i:Int):Value:=if i < 0 then .pointer none else pt (g i.toNat) 0
def PR (g:Nat→Nat) (i:Int):List Value:=[VP g i]
def emp:As:=.ss []
def qdc (L:List As):Res where
 foot:=L.flatMap As.foot
 holds:=fun w=>∀ x∈L,x.holds w
 congr:=fun h hb x hx=>As.holds_congr (h x hx) fun b hbx=>hb b (List.mem_flatMap.2 ⟨x,hx,hbx⟩)
 lt:=fun h b hb=>by
  obtain ⟨x,hx,hbx⟩:=List.mem_flatMap.1 hb
  exact As.holds_lt (h x hx) b hbx
section lists
variable {α:Type} {row row':α→List Value→List Value} {e:TypeId} {sub sub':α→List Value→List As}
def thg (row:α→List Value→List Value) (sub:α→List Value→List As) (e:TypeId) (b:Nat) (v:List Value) (x:α):List As:=.obj b (row x v) e :: sub x v
def zT (row:α→List Value→List Value) (sub:α→List Value→List As) (e:TypeId):(Nat→Nat)→(Nat→List Value)→List α→List As
 | _,_,[]=>[]
 | g,gh,x :: l=>.any (qdc (thg row sub e (g 0) (gh 0) x)) :: zT row sub e (fun i=>g (i+1)) (fun i=>gh (i+1)) l
def hol (hs:List Nat) (L:List As):List As:=(List.range L.length).map fun i=>if i∈hs then emp else (L[i]?).getD emp
def arn (row:α→List Value→List Value) (sub:α→List Value→List As) (e:TypeId) (g:Nat→Nat) (gh:Nat→List Value) (l:List α) (hs:List Nat):As:=.any (qdc (hol hs (zT row sub e g gh l)))
theorem vo:∀ (g:Nat→Nat) (gh:Nat→List Value) (l:List α),(zT row sub e g gh l).length=l.length
 | _,_,[]=>rfl
 | g,gh,x :: l=>by simp [zT,vo _ _ l]
theorem qjx:∀ (g:Nat→Nat) (gh:Nat→List Value) (l:List α) (i:Nat) (x:α),l[i]?=some x→(zT row sub e g gh l)[i]?=some (.any (qdc (thg row sub e (g i) (gh i) x)))
 | _,_,[],i,x,h=>by simp at h
 | g,gh,y :: l,0,x,h=>by
  simp only [List.getElem?_cons_zero,Option.some.injEq] at h
  subst h
  simp [zT]
 | g,gh,y :: l,i+1,x,h=>by
  simp only [List.getElem?_cons_succ] at h
  simpa [zT] using qjx (fun i=>g (i+1)) (fun i=>gh (i+1)) l i x h
theorem qjw:∀ (g:Nat→Nat) (gh:Nat→List Value) (l:List α) (i:Nat) (y:α) (v:List Value),zT row sub e g (xM gh i v) (l.set i y)=(zT row sub e g gh l).set i (.any (qdc (thg row sub e (g i) v y)))
 | _,_,[],_,_,_=>rfl
 | g,gh,x :: l,0,y,v=>by
  simp only [List.set_cons_zero,zT]
  have h1:xM gh 0 v 0=v:=by simp [xM]
  have h2:(fun i=>xM gh 0 v (i+1))=fun i=>gh (i+1):=by funext i;simp [xM]
  rw [h1,h2]
 | g,gh,x :: l,i+1,y,v=>by
  simp only [List.set_cons_succ,zT]
  have h1:xM gh (i+1) v 0=gh 0:=by simp [xM]
  have h2:(fun j=>xM gh (i+1) v (j+1))=xM (fun j=>gh (j+1)) i v:=by funext j;simp [xM]
  rw [h1,h2,qjw]
theorem qgr (gh:Nat→List Value) (i:Nat):xM gh i (gh i)=gh:=by
 funext q
 unfold xM
 split
 ·rename_i h;rw [h]
 ·rfl
theorem qjy:∀ (g:Nat→Nat) (gh:Nat→List Value) (b:Nat) (v:List Value) (l:List α) (x:α),zT row sub e (qfk g l.length b) (qeF gh (fun _=>v) l.length) (l++[x])=zT row sub e g gh l++[.any (qdc (thg row sub e b v x))]
 | g,gh,b,v,[],x=>by simp [zT,qmN,qgv]
 | g,gh,b,v,y :: l,x=>by
  rw [List.cons_append,List.length_cons,zT,qmM,qk6,qgu,qb6,qjy _ _ b v l x]
  rfl
theorem ym:∀ (g:Nat→Nat) (gh:Nat→List Value) (l:List α),(∀ x∈l,∀ v,row x v=row' x v∧sub x v=sub' x v)→zT row sub e g gh l=zT row' sub' e g gh l
 | _,_,[],_=>rfl
 | g,gh,x :: l,h=>by
  have h1:=h x List.mem_cons_self (gh 0)
  rw [zT,zT,thg,thg,h1.1,h1.2,ym _ _ l fun z hz=>h z (List.mem_cons_of_mem _ hz)]
theorem xL (hs:List Nat) (L:List As) (i:Nat):(hol hs L)[i]?=if i < L.length then some (if i∈hs then emp else (L[i]?).getD emp) else none:=by
 unfold hol
 by_cases c:i < L.length
 ·rw [List.getElem?_map,List.getElem?_range c,if_pos c];rfl
 ·rw [List.getElem?_eq_none (by simp;omega),if_neg c]
theorem kw (hs:List Nat) (L:List As):(hol hs L).length=L.length:=by simp [hol]
theorem qmL {hs:List Nat} {L:List As} {i:Nat} {A:As} (h:L[i]?=some A) (hn:i ∉ hs):(hol hs L)[i]?=some A:=by
 rw [xL,if_pos (List.getElem?_eq_some_iff.1 h).1,if_neg hn,h];rfl
theorem qk2 {hs hs':List Nat} {L:List As} {i:Nat} (h:∀ q,q∈hs'↔q=i∨q∈hs):(hol hs L).set i emp=hol hs' L:=by
 apply List.ext_getElem?
 intro q
 rw [List.getElem?_set,xL,xL,kw]
 by_cases c:i=q
 ·subst c
  by_cases c2:i < L.length
  ·rw [if_pos rfl,if_pos c2,if_pos c2,if_pos ((h i).2 (.inl rfl))]
  ·rw [if_pos rfl,if_neg c2,if_neg c2]
 ·rw [if_neg c]
  by_cases c2:q < L.length
  ·rw [if_pos c2,if_pos c2]
   by_cases c3:q∈hs
   ·rw [if_pos c3,if_pos ((h q).2 (.inr c3))]
   ·rw [if_neg c3,if_neg fun h'=>((h q).1 h').elim (fun e=>c e.symm) c3]
  ·rw [if_neg c2,if_neg c2]
theorem qmK {hs hs':List Nat} {L:List As} {i:Nat} {A:As} (h:∀ q,q∈hs'↔q=i∨q∈hs) (hn:i ∉ hs):(hol hs' L).set i A=hol hs (L.set i A):=by
 apply List.ext_getElem?
 intro q
 rw [List.getElem?_set,xL,xL,kw,List.length_set,List.getElem?_set]
 by_cases c:i=q
 ·subst c
  by_cases c2:i < L.length
  ·simp [c2,hn]
  ·rw [if_pos rfl,if_neg c2,if_neg c2]
 ·rw [if_neg c,if_neg c]
  by_cases c2:q < L.length
  ·rw [if_pos c2,if_pos c2]
   by_cases c3:q∈hs
   ·rw [if_pos c3,if_pos ((h q).2 (.inr c3))]
   ·rw [if_neg c3,if_neg fun h'=>((h q).1 h').elim (fun e=>c e.symm) c3]
  ·rw [if_neg c2,if_neg c2]
theorem qk3 {hs:List Nat} {L:List As} {A:As} (h:∀ i∈hs,i < L.length):hol hs (L++[A])=hol hs L++[A]:=by
 apply List.ext_getElem?
 intro q
 have hl:=kw hs L
 rw [xL,List.length_append,List.length_singleton]
 by_cases c:q < L.length
 ·rw [if_pos (by omega),List.getElem?_append_left c,List.getElem?_append_left (by omega),xL,if_pos c]
 ·rw [List.getElem?_append_right (l₁:=hol hs L) (by omega),hl]
  by_cases c2:q=L.length
  ·subst c2
   rw [if_pos (by omega),if_neg fun hq=>absurd (h _ hq) (by omega),List.getElem?_append_right (Nat.le_refl _),Nat.sub_self];rfl
  ·rw [if_neg (by omega),List.getElem?_eq_none (by simp;omega)]
end lists
def Gr (g:Nat→Nat) (n:Nat) (g':Nat→Nat) (n':Nat):Prop:=n≤n'∧∀ i,i < n→g' i=g i
theorem Gr.refl (g:Nat→Nat) (n:Nat):Gr g n g n:=⟨Nat.le_refl _,fun _ _=>rfl⟩
theorem Gr.trans {g g' g2:Nat→Nat} {n n' n2:Nat} (h:Gr g n g' n') (h':Gr g' n' g2 n2):Gr g n g2 n2:=⟨Nat.le_trans h.1 h'.1,fun i hi=>(h'.2 i (Nat.lt_of_lt_of_le hi h.1)).trans (h.2 i hi)⟩
theorem Gr.upd {α:Type} {g g':Nat→Nat} {n:Nat} {l z:List α} {a:Int} {x:α} (h:Gr g n g' l.length) (hu:upd l a x=some z):Gr g n g' z.length:=by
 rw [(jA hu).2.2,List.length_set];exact h
theorem qlw {g g':Nat→Nat} {n n':Nat} {x:Int} (h:Gr g n g' n') (hx:x < n):VP g x=VP g' x:=by
 unfold VP
 split
 ·rfl
 ·rw [h.2 _ (by omega)]
theorem qi3 {g g':Nat→Nat} {n n':Nat} {l:List Int} (h:Gr g n g' n') (hx:∀ x∈l,x < n):l.map (PR g)=l.map (PR g'):=List.map_congr_left fun x hm=>by rw [PR,PR,qlw h (hx x hm)]
theorem yG {α:Type} {l:List α} {x:α} {q:Int} {u:α} (h:idx l q=some u):idx (l++[x]) q=some u:=by
 obtain ⟨h0,h1,h2⟩:=qe h
 unfold idx
 rw [if_pos h0,List.getElem?_append_left (by omega),h2]
def ck (p:Prop) [Decidable p]:Option Unit:=if p then some () else none
theorem qz {p:Prop} [Decidable p] {u:Unit} (h:ck p=some u):p:=by
 unfold ck at h
 split at h
 ·assumption
 ·cases h
@[simp] theorem qjX {p:Prop} [Decidable p] (h:p):ck p=some ():=if_pos h
def qiA {α:Type} (l:List α) (x:α):Option (Int×List α):=some ((l.length:Int),l++[x])
theorem kj {g:Nat→Nat} (l:List Int):Plain (l.map (PR g)):=by
 intro r hr u hu
 obtain ⟨x,_,rfl⟩:=List.mem_map.1 hr
 simp only [PR,List.mem_singleton] at hu
 subst hu
 unfold VP
 split <;> rfl
theorem qi1 (g:Nat→Nat) (i:Int):VP g i=.pointer none∨∃ ad,VP g i=.pointer (some ad):=by
 unfold VP
 split
 ·exact .inl rfl
 ·exact .inr ⟨_,rfl⟩
theorem qdd (g:Nat→Nat) (i:Int):(VP g i).oneCell'=true:=by unfold VP;split <;> rfl
theorem zL (g:Nat→Nat) (i:Int):(VP g i).cells=#[VP g i]:=by unfold VP;split <;> rfl
section
variable {P:Program} {Q:Exit→Act→World→Prop} {n:Nat} {C:World→Prop} {fs:Fr} {t:TypeId} {ops:Array Oper} {rest:List Oper} {d:Nat} {pos:String} {af:Array Edge}
variable {w0 w w':World} {own:List Nat} {m m':List As} {x y z:Operand} {e te tx ty:TypeId} {i j k kk q p s c jj jc o:Nat} {v u V:Value} {b:Nat}
variable {α ρ:Type} {r:ρ} {row:α→List Value→List Value} {sub:α→List Value→List As} {g:Nat→Nat} {gh:Nat→List Value} {l:List α} {a:Int} {u0 u1:α} {f:List α→Option ρ} {hs hs':List Nat}
theorem qck (h:0≤a):VP g a=pt (g a.toNat) 0:=if_neg (by omega)
theorem Y.apNil (hx:val fs x=some (VP g a)) (h:idx l a=some u0):Y P (.nilCheck x) t n fs C (pt (g a.toNat) 0):=by
 rw [qck (qe h).1] at hx
 exact Y.nilCheck hx
theorem V2.apNil {ops:Array Oper} {S:Array Bool→World→Prop} {C Z:World→Prop} {listed:Array Bool} {g0:Option (Nat×Bool)} (hn:Nx2 ops S Z listed i ⟨some d,.nilCheck x,t,pos,af,g0⟩) (hg:jg ops fs g0=true) (hd:Nat.blt d n=true) (hx:val fs x=some (VP g a)) (h:idx l a=some u0)
  (next:V2 P ops Q n S (listed.setIfInBounds i true) k C ((d,pt (g a.toNat) 0) :: fs)):V2 P ops Q n S listed (k+1) C fs:=by
 rw [qck (qe h).1] at hx
 exact V2.nilc hn hg hd hx next
theorem Y.eqlAN {e:TypeId} (hu:P.underlying tx=some (.pointer e)) (hx:val fs x=some (VP g a)) (hy:val fs y=some (.pointer none)):Y P (.binOp .eql tx x y ty) t n fs C (.bool (decide (a < 0))):=by
 by_cases c:a < 0
 ·have h1:VP g a=.pointer none:=if_pos c
  rw [h1] at hx
  rw [decide_eq_true c]
  exact Y.eqlP (p:=none) hu hx hy
 ·rw [qck (by omega)] at hx
  rw [decide_eq_false c]
  exact Y.eqlP (p:=some ⟨g a.toNat,0,none⟩) hu hx hy
theorem Y.neqAN {e:TypeId} (hu:P.underlying tx=some (.pointer e)) (hx:val fs x=some (VP g a)) (hy:val fs y=some (.pointer none)):Y P (.binOp .neq tx x y ty) t n fs C (.bool (decide (0≤a))):=by
 by_cases c:a < 0
 ·have h1:VP g a=.pointer none:=if_pos c
  rw [h1] at hx
  rw [decide_eq_false (by omega)]
  exact Y.neqP (p:=none) hu hx hy
 ·rw [qck (by omega)] at hx
  rw [decide_eq_true (by omega)]
  exact Y.neqP (p:=some ⟨g a.toNat,0,none⟩) hu hx hy
theorem qcG {L:List As} {A:As} {K:Nat} (h:L[K]?=some A):((A :: L.set K emp).flatMap As.foot).Perm (L.flatMap As.foot):=by
 induction L generalizing K with
 | nil=>simp at h
 | cons z L ih =>
  cases K with
  | zero =>
   simp only [List.getElem?_cons_zero,Option.some.injEq] at h
   subst h
   simp [emp,As.foot]
  | succ K =>
   simp only [List.getElem?_cons_succ] at h
   have:=ih h
   rw [List.set_cons_succ]
   simp only [List.flatMap_cons] at this ⊢
   refine List.Perm.trans ?_ (List.Perm.append_left _ this)
   rw [← List.append_assoc,← List.append_assoc]
   exact List.Perm.append_right _ List.perm_append_comm
theorem qgG (w:World):emp.holds w:=fun d hd=>by cases hd
theorem Cls.out {L:List As} {A:As} {K:Nat} (hw:Cls w0 own (.any (qdc L) :: m) w) (hK:L[K]?=some A):Cls w0 own (A :: .any (qdc (L.set K emp)) :: m) w:=by
 have hall:∀ x∈L,x.holds w:=(hw.mine _ List.mem_cons_self).1
 refine hw.rePerm ?_ fun x hx=>?_
 ·simp only [List.flatMap_cons]
  rw [← List.append_assoc]
  exact List.Perm.append_right _ (by have:=qcG hK;simp only [List.flatMap_cons] at this;exact this)
 ·rcases List.mem_cons.1 hx with rfl | hx
  ·exact hall _ (List.mem_of_getElem? hK)
  ·rcases List.mem_cons.1 hx with rfl | hx
   ·intro y hy
    rcases List.mem_or_eq_of_mem_set hy with h2 | rfl
    ·exact hall y h2
    ·exact qgG w
   ·exact (hw.mine x (List.mem_cons_of_mem _ hx)).1
theorem Cls.into {L:List As} {A:As} {K:Nat} (hw:Cls w0 own (A :: .any (qdc L) :: m) w) (hK:L[K]?=some emp):Cls w0 own (.any (qdc (L.set K A)) :: m) w:=by
 have hall:∀ x∈L,x.holds w:=(hw.mine (.any (qdc L)) (by simp)).1
 have hKl:=(List.getElem?_eq_some_iff.1 hK).1
 have hKA:(L.set K A)[K]?=some A:=by rw [List.getElem?_set_self hKl]
 have hback:(L.set K A).set K emp=L:=by
  rw [List.set_set]
  apply List.ext_getElem?
  intro q
  rw [List.getElem?_set]
  by_cases c:K=q
  ·subst c;rw [if_pos rfl,if_pos hKl,hK]
  ·rw [if_neg c]
 refine hw.rePerm ?_ fun x hx=>?_
 ·have h1:=qcG hKA
  rw [hback] at h1
  simp only [List.flatMap_cons] at h1 ⊢
  rw [← List.append_assoc]
  exact List.Perm.append_right _ h1.symm
 ·rcases List.mem_cons.1 hx with rfl | hx
  ·intro y hy
   rcases List.mem_or_eq_of_mem_set hy with h2 | rfl
   ·exact hall y h2
   ·exact (hw.mine y List.mem_cons_self).1
  ·exact (hw.mine x (by simp [hx])).1
theorem Cls.spread {S:List As} (hw:Cls w0 own (.any (qdc S) :: m) w):Cls w0 own (S++m) w:=by
 refine hw.rePerm ?_ fun x hx=>?_
 ·rw [List.flatMap_append,List.flatMap_cons];exact List.Perm.refl _
 ·rcases List.mem_append.1 hx with h | h
  ·exact (hw.mine _ List.mem_cons_self).1 x h
  ·exact (hw.mine x (List.mem_cons_of_mem _ h)).1
theorem Cls.gather {S:List As} (hw:Cls w0 own (S++m) w):Cls w0 own (.any (qdc S) :: m) w:=by
 refine hw.rePerm ?_ fun x hx=>?_
 ·rw [List.flatMap_append,List.flatMap_cons];exact List.Perm.refl _
 ·rcases List.mem_cons.1 hx with rfl | h
  ·exact fun y hy=>(hw.mine y (List.mem_append_left _ hy)).1
  ·exact (hw.mine x (List.mem_append_right _ h)).1
theorem Cls.arOpen (hw:Cls w0 own m w) (hm:m[p]?=some (arn row sub e g gh l hs)) (hi:idx l a=some u0) (hn:a.toNat ∉ hs) :
  Cls w0 own (thg row sub e (g a.toNat) (gh a.toNat) u0++arn row sub e g gh l (a.toNat :: hs) :: m.eraseIdx p) w:=by
 obtain ⟨hpl,hpe⟩:=List.getElem?_eq_some_iff.1 hm
 have h1:=hw.perm (kC m p _ hm).symm
 have h2:=h1.out (qmL (qjx g gh l _ _ (qe hi).2.2) hn)
 have h3:=h2.spread
 rwa [qk2 (hs':=a.toNat :: hs) fun q=>by simp] at h3
theorem Cls.arShut0 {zz:List α} {vs':List Value} (is:List Nat) (hw:Cls w0 own m w) (hz:upd l a u1=some zz) (hn:is.Nodup) (hm:is.map (m[·]?)=((thg row sub e (g a.toNat) vs' u1)++arn row sub e g gh l hs' :: m').map some) (hh:∀ q,q∈hs'↔q=a.toNat∨q∈hs) (hq:a.toNat ∉ hs) :
  Cls w0 own (arn row sub e g (xM gh a.toNat vs') zz hs :: m') w:=by
 have h1:=(hw.sel is hn hm).gather
 have hlt:a.toNat < l.length:=by have:=jA hz;omega
 have h2:=h1.into (K:=a.toNat) (by rw [xL,vo,if_pos hlt,if_pos ((hh _).2 (.inl rfl))])
 rw [qmK hh hq,← qjw,← (jA hz).2.2] at h2
 exact h2
theorem Cls.arShut (is:List Nat) (hw:Cls w0 own m w) (hi:idx l a=some u0) (hn:is.Nodup) (hm:is.map (m[·]?)=((thg row sub e (g a.toNat) (gh a.toNat) u0)++arn row sub e g gh l hs' :: m').map some) (hh:∀ q,q∈hs'↔q=a.toNat∨q∈hs) (hq:a.toNat ∉ hs) :
  Cls w0 own (arn row sub e g gh l hs :: m') w:=by
 have h0:=qe hi
 have h1:=Cls.arShut0 (zz:=l) is hw (show upd l a u0=some l by unfold upd;rw [if_pos ⟨h0.1,h0.2.1⟩,zJ h0.2.2]) hn hm hh hq
 rwa [qgr] at h1
theorem L.arClose {zz:List α} {vs':List Value} (is:List Nat) (hz:upd l a u1=some zz) (hn:is.Nodup) (hm:is.map (m[·]?)=((thg row sub e (g a.toNat) vs' u1)++arn row sub e g gh l hs' :: m').map some) (hh:∀ q,q∈hs'↔q=a.toNat∨q∈hs) (hq:a.toNat ∉ hs)
  {ll:List Oper} (next:∀ gh',L P ops Q n (Cls w0 own (arn row sub e g gh' zz hs :: m')) ll fs):L P ops Q n (Cls w0 own m) ll fs:=fun ac w hs hw=>next _ ac w hs (hw.arShut0 is hz hn hm hh hq)
theorem W.arClose {zz:List α} {vs':List Value} (is:List Nat) (hz:upd l a u1=some zz) (hn:is.Nodup) (hm:is.map (m[·]?)=((thg row sub e (g a.toNat) vs' u1)++arn row sub e g gh l hs' :: m').map some) (hh:∀ q,q∈hs'↔q=a.toNat∨q∈hs) (hq:a.toNat ∉ hs)
  {ll:Code} (next:∀ gh',W P Q n (Cls w0 own (arn row sub e g gh' zz hs :: m')) ll fs):W P Q n (Cls w0 own m) ll fs:=fun ac w hs hw=>next _ ac w hs (hw.arShut0 is hz hn hm hh hq)
theorem E.arClose {zz:List α} {vs':List Value} (is:List Nat) (hz:upd l a u1=some zz) (hn:is.Nodup) (hm:is.map (m[·]?)=((thg row sub e (g a.toNat) vs' u1)++arn row sub e g gh l hs' :: m').map some) (hh:∀ q,q∈hs'↔q=a.toNat∨q∈hs) (hq:a.toNat ∉ hs)
  {ll:Exit} (next:∀ gh',E ll Q n (Cls w0 own (arn row sub e g gh' zz hs :: m')) fs):E ll Q n (Cls w0 own m) fs:=fun ac w hs hw=>next _ ac w hs (hw.arShut0 is hz hn hm hh hq)
theorem E.to {C D:World→Prop} {x:Exit} (hd:∀ w,C w→D w) (h:E x Q n D fs):E x Q n C fs:=fun a w hs hc=>h a w hs (hd w hc)
theorem Cls.arNew {rowg:(Nat→Nat)→α→List Value→List Value} {subg:(Nat→Nat)→α→List Value→List As} {vs':List Value} (is:List Nat) (hw:Cls w0 own m w) (hn:is.Nodup) (hm:is.map (m[·]?)=((thg (rowg g) (subg g) e b vs' u1)++arn (rowg g) (subg g) e g gh l hs :: m').map some) (hh:∀ q∈hs,q < l.length)
  (hc:∀ g',(∀ i,i < l.length→g' i=g i)→∀ x∈l++[u1],∀ v,rowg g x v=rowg g' x v∧subg g x v=subg g' x v) :
  ∃ g' gh',Gr g l.length g' (l++[u1]).length∧pt b 0=VP g' (l.length:Int)∧Cls w0 own (arn (rowg g') (subg g') e g' gh' (l++[u1]) hs :: m') w:=by
 have hg:∀ i,i < l.length→qfk g l.length b i=g i:=fun i hi=>by simp [qfk,hi]
 refine ⟨qfk g l.length b,qeF gh (fun _=>vs') l.length,⟨by simp,hg⟩,?_,?_⟩
 ·rw [qck (by omega)];simp [qfk]
 ·have h1:=(hw.sel is hn hm).gather
  unfold arn
  rw [← ym _ _ _ (hc _ hg),qjy,qk3 (by rw [vo];exact hh)]
  have hperm:((hol hs (zT (rowg g) (subg g) e g gh l)++[As.any (qdc (thg (rowg g) (subg g) e b vs' u1))]).flatMap As.foot).Perm ((As.any (qdc (thg (rowg g) (subg g) e b vs' u1)) :: hol hs (zT (rowg g) (subg g) e g gh l)).flatMap As.foot) :=
   (List.perm_append_comm).flatMap_right _
  refine h1.rePerm ?_ fun x hx=>?_
  ·simp only [List.flatMap_cons] at hperm ⊢
   rw [← List.append_assoc]
   exact List.Perm.append_right _ hperm
  ·rcases List.mem_cons.1 hx with rfl | hx
   ·intro y hy
    rcases List.mem_append.1 hy with h | h
    ·exact (h1.mine (arn (rowg g) (subg g) e g gh l hs) (by simp)).1 y h
    ·rw [List.mem_singleton.1 h];exact (h1.mine _ List.mem_cons_self).1
   ·exact (h1.mine x (by simp [hx])).1
theorem L.arNew {rowg:(Nat→Nat)→α→List Value→List Value} {subg:(Nat→Nat)→α→List Value→List As} {vs':List Value} {F:Int→List α→Option ρ} (is:List Nat) (h:qB (qiA l u1) F=some r) (hn:is.Nodup) (hm:is.map (m[·]?)=((thg (rowg g) (subg g) e b vs' u1)++arn (rowg g) (subg g) e g gh l hs :: m').map some) (hh:∀ q∈hs,q < l.length)
  (hc:∀ g',(∀ i,i < l.length→g' i=g i)→∀ x∈l++[u1],∀ v,rowg g x v=rowg g' x v∧subg g x v=subg g' x v) {ll:List Oper}
  (next:∀ g' gh' x z,F x z=some r→Gr g l.length g' z.length→pt b 0=VP g' x→(∀ {q:Int} {u:α},idx l q=some u→idx z q=some u)→L P ops Q n (Cls w0 own (arn (rowg g') (subg g') e g' gh' z hs :: m')) ll fs):L P ops Q n (Cls w0 own m) ll fs:=by
 intro ac w hs hw
 obtain ⟨g',gh',h1,h2,h3⟩:=hw.arNew is hn hm hh hc
 exact next g' gh' _ _ h h1 h2 yG ac w hs h3
theorem E.arNew {rowg:(Nat→Nat)→α→List Value→List Value} {subg:(Nat→Nat)→α→List Value→List As} {vs':List Value} {F:Int→List α→Option ρ} (is:List Nat) (h:qB (qiA l u1) F=some r) (hn:is.Nodup) (hm:is.map (m[·]?)=((thg (rowg g) (subg g) e b vs' u1)++arn (rowg g) (subg g) e g gh l hs :: m').map some) (hh:∀ q∈hs,q < l.length)
  (hc:∀ g',(∀ i,i < l.length→g' i=g i)→∀ x∈l++[u1],∀ v,rowg g x v=rowg g' x v∧subg g x v=subg g' x v) {ll:Exit}
  (next:∀ g' gh' x z,F x z=some r→Gr g l.length g' z.length→pt b 0=VP g' x→(∀ {q:Int} {u:α},idx l q=some u→idx z q=some u)→E ll Q n (Cls w0 own (arn (rowg g') (subg g') e g' gh' z hs :: m')) fs):E ll Q n (Cls w0 own m) fs:=by
 intro ac w hs hw
 obtain ⟨g',gh',h1,h2,h3⟩:=hw.arNew is hn hm hh hc
 exact next g' gh' _ _ h h1 h2 yG ac w hs h3
theorem qhV {β γ:Type} {l':List β} {l2:List γ} {c:Int} {v1:β} {v2:γ} (hne:a≠c) (ha:idx l' a=some v1) (hb:idx l2 c=some v2) (ht:a.toNat ∉ hs):a.toNat ∉ c.toNat :: hs:=by
 have h1:=(qe ha).1
 have h2:=(qe hb).1
 rw [List.mem_cons,not_or]
 exact ⟨by omega,ht⟩
theorem qg1 {row':α→List Value→List Value} {sub':α→List Value→List As} (h:∀ x∈l,∀ v,row x v=row' x v∧sub x v=sub' x v):arn row sub e g gh l hs=arn row' sub' e g gh l hs:=by
 unfold arn
 rw [ym _ _ _ h]
theorem Cls.ar0 (hw:Cls w0 own m w) (row:α→List Value→List Value) (sub:α→List Value→List As) (e:TypeId) (g:Nat→Nat) (gh:Nat→List Value):Cls w0 own (arn row sub e g gh ([]:List α) [] :: m) w:=by
 have:Cls w0 own ([]++m) w:=hw
 exact this.gather
end
end Go.S
end
section
namespace Go.S
variable {dR:Dr}
section
variable {v v':Value} {e:TypeId} {k:Nat} {rows rows' more:List (List Value)} {w0 w w':World} {own:List Nat} {m:List As} {i:Nat}
theorem tlHolds.at (h:tlHolds w v e k rows):At w v k rows:=by
 obtain ⟨h1,h3⟩:=h
 refine ⟨?_,h1,fun i r j x hr hx=>?_⟩
 ·rcases h3 with ⟨rfl,h0⟩ | ⟨g,off,cap,cur,rfl,_,hn,hc,_⟩
  ·exact .inl ⟨rfl,h0⟩
  ·exact .inr ⟨_,cap,rfl,hn,hc⟩
 ·have hf:=qJ rows i j r x h1 hr hx
  rcases h3 with ⟨rfl,h0⟩ | ⟨g,off,cap,cur,rfl,hg,hn,hc,hs,ht⟩
  ·subst h0
   simp at hr
  ·have hj:i*k+j < rows.length*k:=by
    have:=(List.getElem?_eq_some_iff.1 hf).1
    rw [qG _ h1] at this
    exact this
   rw [← ht,List.getElem?_take_of_lt hj,List.getElem?_drop] at hf
   show (World.cell? w (Addr.add ⟨g,off,none⟩ (i*k+j)))=some x
   rw [Addr.add_lit]
   simp only [World.cell?,hg,Option.isSome_none,Bool.false_eq_true,if_false]
   rw [Array.getElem?_toList] at hf
   exact hf
theorem tlHolds.drop (h:tlHolds w v e k rows) (l:Nat) (hl:l≤rows.length):tlHolds w (zq v l k) e k (rows.drop l):=by
 obtain ⟨h1,h3⟩:=h
 refine ⟨fun r hr=>h1 r (List.mem_of_mem_drop hr),?_⟩
 rcases h3 with ⟨rfl,rfl⟩ | ⟨g,off,cap,cur,rfl,hg,hn,hc,hs,ht⟩
 ·exact .inl ⟨by simp [zq],by simp⟩
 ·by_cases hz:cap - l=0
  ·have hl2:rows.length - l=0:=by omega
   refine .inr ⟨g,off,0,cur,by simp [zq,hz],hg,by simp;omega,by simp [maxLen],by omega,?_⟩
   rw [List.length_drop,hl2]
   simp [List.drop_eq_nil_of_le (show rows.length≤l by omega)]
  ·refine .inr ⟨g,off+l*k,cap - l,cur,by simp [zq,hz,Addr.add_lit],hg,by simp;omega,by omega,?_,?_⟩
   ·have:cap*k=l*k+(cap - l)*k:=by rw [← Nat.add_mul];congr 1;omega
    omega
   ·rw [List.length_drop]
    have e1:(rows.drop l).flatten=rows.flatten.drop (l*k):=by
     have h4:rows.flatten=(rows.take l).flatten++(rows.drop l).flatten:=by rw [← List.flatten_append,List.take_append_drop]
     have h5:(rows.take l).flatten.length=l*k:=by
      rw [qG _ (fun r hr=>h1 r (List.mem_of_mem_take hr)),List.length_take,Nat.min_eq_left hl]
     rw [h4,← h5,List.drop_left]
    rw [e1,← ht,List.drop_take,List.drop_drop,Nat.sub_mul]
end
section
variable {P:Program} {v v':Value} {e:TypeId} {k:Nat} {rows rows' more:List (List Value)} {w:World}
end
section
variable {P:Program} {Q:Exit→Act→World→Prop} {n:Nat} {fs:Fr} {t:TypeId} {ops:Array Oper} {rest:List Oper} {d:Nat} {pos:String} {af:Array Edge}
variable {w0:World} {own:List Nat} {m:List As} {x y:Operand} {e tx:TypeId} {i k by':Nat} {v u:Value}
end
end Go.S
end
section
namespace Go.S
variable {dR:Dr}
def qou {α0 α1 α2 α3 α4 α5 α6 α7 α8 ρ:Type} (o:Option (α0×α1×α2×α3×α4×α5×α6×α7×α8)) (f:α0→α1→α2→α3→α4→α5→α6→α7→α8→Option ρ):Option ρ:=match o with
 | some (x0,x1,x2,x3,x4,x5,x6,x7,x8)=>f x0 x1 x2 x3 x4 x5 x6 x7 x8
 | none=>none
@[simp] theorem qlX {α0 α1 α2 α3 α4 α5 α6 α7 α8 ρ:Type} (x0:α0) (x1:α1) (x2:α2) (x3:α3) (x4:α4) (x5:α5) (x6:α6) (x7:α7) (x8:α8) (f:α0→α1→α2→α3→α4→α5→α6→α7→α8→Option ρ):qou (some (x0,x1,x2,x3,x4,x5,x6,x7,x8)) f=f x0 x1 x2 x3 x4 x5 x6 x7 x8:=rfl
def qm5 {α0 α1 α2 α3 α4 α5 α6 α7 α8 α9 ρ:Type} (o:Option (α0×α1×α2×α3×α4×α5×α6×α7×α8×α9)) (f:α0→α1→α2→α3→α4→α5→α6→α7→α8→α9→Option ρ):Option ρ:=match o with
 | some (x0,x1,x2,x3,x4,x5,x6,x7,x8,x9)=>f x0 x1 x2 x3 x4 x5 x6 x7 x8 x9
 | none=>none
@[simp] theorem qlo {α0 α1 α2 α3 α4 α5 α6 α7 α8 α9 ρ:Type} (x0:α0) (x1:α1) (x2:α2) (x3:α3) (x4:α4) (x5:α5) (x6:α6) (x7:α7) (x8:α8) (x9:α9) (f:α0→α1→α2→α3→α4→α5→α6→α7→α8→α9→Option ρ):qm5 (some (x0,x1,x2,x3,x4,x5,x6,x7,x8,x9)) f=f x0 x1 x2 x3 x4 x5 x6 x7 x8 x9:=rfl
def qm4 {α β ρ:Type} (o:Option (α ⊕ β)) (f:α→Option ρ) (g:β→Option ρ):Option ρ:=match o with
 | some (.inl x)=>f x
 | some (.inr y)=>g y
 | none=>none
@[simp] theorem qm3 {α β ρ:Type} (x:α) (f:α→Option ρ) (g:β→Option ρ):qm4 (some (.inl x)) f g=f x:=rfl
@[simp] theorem qm2 {α β ρ:Type} (y:β) (f:α→Option ρ) (g:β→Option ρ):qm4 (some (.inr y)) f g=g y:=rfl
section
variable {v:Value} {k:Nat} {rows:List (List Value)} {w0 w w':World} {own F:List Nat} {m A M:List As}
theorem StbF.cls0 (h:StbF (fun w=>At w v k rows) w F) (hw:Cls w F m w'):At w' v k rows:=h w' hw.os hw.tape hw.output hw.size hw.old
end
end Go.S
end
section
namespace Go.S
variable {dR:Dr}
theorem sl0 {S:List (List Value)}:(S.take 0).flatten.length=0:=by simp
theorem sl1 {X:List Value} {S:List (List Value)} {i a p:Nat} (h:X.length=a) (hs:(S.take i).flatten.length=p):((X :: S).take (i+1)).flatten.length=a+p:=by
 rw [List.take_succ_cons,List.flatten_cons,List.length_append,h,hs]
theorem yz:∀ {S:List (List Value)} {i p q:Nat} {X:List Value} {v:Value},S[i]?=some X→(S.take i).flatten.length=p→X[q]?=some v→S.flatten[p+q]?=some v
 | [],i,p,q,X,v,hS,_,_=>by simp at hS
 | Y :: S,0,p,q,X,v,hS,hp,hv=>by
  simp only [List.getElem?_cons_zero,Option.some.injEq] at hS
  subst hS
  simp only [List.take_zero,List.flatten_nil,List.length_nil] at hp
  subst hp
  rw [Nat.zero_add,List.flatten_cons,List.getElem?_append_left (List.getElem?_eq_some_iff.1 hv).1]
  exact hv
 | Y :: S,i+1,p,q,X,v,hS,hp,hv=>by
  simp only [List.getElem?_cons_succ] at hS
  rw [List.take_succ_cons,List.flatten_cons,List.length_append] at hp
  rw [List.flatten_cons,List.getElem?_append_right (by omega),show p+q - Y.length=(S.take i).flatten.length+q by omega]
  exact yz hS rfl hv
theorem kl:∀ (vals:List Value) (A B:List Value) (q:Nat),over (A++B) (A.length+q) vals=A++over B q vals
 | [],A,B,q=>rfl
 | v :: vals,A,B,q=>by
  rw [over,over,List.set_append_right _ _ (by omega),show A.length+q - A.length=q by omega,Nat.add_assoc]
  exact kl vals A _ (q+1)
theorem vI:∀ (vals:List Value) (A B:List Value) (q:Nat),q+vals.length≤A.length→over (A++B) q vals=over A q vals++B
 | [],A,B,q,_=>rfl
 | v :: vals,A,B,q,h=>by
  simp only [List.length_cons] at h
  rw [over,over,List.set_append_left _ _ (by omega)]
  exact vI vals _ B (q+1) (by rw [List.length_set];omega)
theorem yx:∀ {S:List (List Value)} {i p q:Nat} {X vals:List Value},S[i]?=some X→(S.take i).flatten.length=p→q+vals.length≤X.length→over S.flatten (p+q) vals=(S.set i (over X q vals)).flatten
 | [],i,p,q,X,vals,hS,_,_=>by simp at hS
 | Y :: S,0,p,q,X,vals,hS,hp,hv=>by
  simp only [List.getElem?_cons_zero,Option.some.injEq] at hS
  subst hS
  simp only [List.take_zero,List.flatten_nil,List.length_nil] at hp
  subst hp
  rw [Nat.zero_add,List.flatten_cons,vI _ _ _ _ hv]
  rfl
 | Y :: S,i+1,p,q,X,vals,hS,hp,hv=>by
  simp only [List.getElem?_cons_succ] at hS
  rw [List.take_succ_cons,List.flatten_cons,List.length_append] at hp
  rw [List.flatten_cons,show p+q=Y.length+((S.take i).flatten.length+q) by omega,kl,yx hS rfl hv]
  rfl
theorem qbL:∀ {S:List (List Value)} {i p:Nat} {X:List Value},S[i]?=some X→(S.take i).flatten.length=p→p+X.length≤S.flatten.length
 | [],i,p,X,hS,_=>by simp at hS
 | Y :: S,0,p,X,hS,hp=>by
  simp only [List.getElem?_cons_zero,Option.some.injEq] at hS
  subst hS
  simp only [List.take_zero,List.flatten_nil,List.length_nil] at hp
  subst hp
  rw [List.flatten_cons,List.length_append];omega
 | Y :: S,i+1,p,X,hS,hp=>by
  simp only [List.getElem?_cons_succ] at hS
  rw [List.take_succ_cons,List.flatten_cons,List.length_append] at hp
  have:=qbL hS rfl
  rw [List.flatten_cons,List.length_append];omega
section
variable {P:Program} {Q:Exit→Act→World→Prop} {n:Nat} {C:World→Prop} {fs:Fr} {t:TypeId} {ops:Array Oper} {rest:List Oper} {d:Nat} {pos:String} {af:Array Edge}
variable {w0 w:World} {own:List Nat} {m:List As} {x y:Operand} {e te tx ty:TypeId} {i j k kk by' p q s c jj b si ps nn:Nat} {v u:Value} {o:Nat} {vals X:List Value} {S:List (List Value)}
variable {α ρ:Type} {r:ρ} {row:α→List Value→List Value} {sds:α→List Value→List Sd} {vs:Nat→List Value} {l:List α} {a:Int} {u0 u1:α} {f:List α→Option ρ}
theorem zrN (hlen:∀ z v,(row z v).length=k) (hl:l.length=nn):(zr row vs l).flatten.length=nn*k:=by rw [qaw hlen,hl]
theorem Y.indexAS {len:Nat} {ik:IntKind} (hu:P.underlying tx=some (.array len e)) (hsz:szB P e k=true) (hx:val fs x=some (pt b o)) (hy:val fs y=some (.int ik a)) (z:α) (hr:zD len l a=some z) :
  Y P (.indexAddr tx x y) t n fs C (pt b (o+a.toNat*k)):=Y.indexP hu hsz hx hy (qe (qg hr)).1 (yH hr)
theorem L.toSeg {S:List (List Value)} {cs:List Value} {ll:List Oper} (hc:cs=S.flatten) (next:L P ops Q n (Cls w0 own (.obj b S.flatten e :: m)) ll fs):L P ops Q n (Cls w0 own (.obj b cs e :: m)) ll fs:=by
 subst hc;exact next
theorem L.ssNil {ll:List Oper} {xs:List α} (hn:∀ d∈zs sds vs xs,d.v=.slice none 0 0∧d.rows=[]) (next:L P ops Q n (Cls w0 own (.ss (zs sds vs xs) :: m)) ll fs):L P ops Q n (Cls w0 own m) ll fs :=
 L.to (fun w hw=>hw.ssNew hn) next
theorem Y.loadG (ha:qM P te false=true) (hx:val fs x=some (pt b o)) (ho:o=ps+j) (hm:m[q]?=some (.obj b S.flatten e)) (hS:S[si]?=some X) (hp:(S.take si).flatten.length=ps) (hv:X[j]?=some v) :
  Y P (.load te x) t n fs (Cls w0 own m) v:=by
 subst ho
 exact Y.loadP ha hx hm (yz hS hp hv)
theorem L.storeG (hs:szB P te kk=true) (hx:val fs x=some (pt b o)) (ho:o=ps+j) (hy:val fs y=some u) (hu:u.cells.toList=vals) (hk:vals.length=kk) (h1:∀ u∈vals,u.oneCell'=true) (hm:m[q]?=some (.obj b S.flatten e))
  (hS:S[si]?=some X) (hp:(S.take si).flatten.length=ps) (hj:Nat.ble (j+kk) X.length=true) (next:L P ops Q n (Cls w0 own (m.set q (.obj b (S.set si (over X j vals)).flatten e))) rest fs) :
  L P ops Q n (Cls w0 own m) (⟨none,.store te x y,t,pos,af,none⟩ :: rest) fs:=by
 subst ho
 have hj':j+kk≤X.length:=by simpa using hj
 have h2:=qbL hS hp
 refine L.store hs hx hy hu hk h1 hm (by omega) ?_
 rwa [yx hS hp (by omega)]
theorem Y.loadZg (ha:qM P te false=true) (hx:val fs x=some (pt b o)) (ho:o=ps+a.toNat*k+j) (hm:m[q]?=some (.obj b S.flatten e)) (hS:S[si]?=some (zr row vs l).flatten) (hp:(S.take si).flatten.length=ps) (hlen:∀ z v,(row z v).length=k) (hr:idx l a=some u0) {pv:Value} (hpv:(row u0 (vs a.toNat))[j]?=some pv) :
  Y P (.load te x) t n fs (Cls w0 own m) pv:=by
 subst ho
 have h1:=qfr hlen hr hpv
 have h2:=yz hS hp h1
 rw [Nat.zero_add,← Nat.add_assoc] at h2
 exact Y.loadP ha hx hm h2
theorem qbW (hlen:∀ z v,(row z v).length=k) (hr:idx l a=some u0) {v1:List Value} (hj:j+vals.length≤k) (hrow:over (row u0 (vs a.toNat)) j vals=row u1 v1) (hS:S[si]?=some (zr row vs l).flatten) (hp:(S.take si).flatten.length=ps) :
  over S.flatten (ps+a.toNat*k+j) vals=(S.set si (zr row (xM vs a.toNat v1) (l.set a.toNat u1)).flatten).flatten:=by
 have hi:=qe hr
 have hib:(a.toNat+1)*k≤l.length*k:=Nat.mul_le_mul_right k (by omega)
 rw [Nat.succ_mul] at hib
 rw [← qf5 hlen hr hj hrow,show ps+a.toNat*k+j=ps+(0+a.toNat*k+j) by omega]
 exact yx hS hp (by rw [qaw hlen];omega)
theorem qbM (hlen:∀ z v,(row z v).length=k) (hr:idx l a=some u0) (hj:j+kk≤k) (hS:S[si]?=some (zr row vs l).flatten) (hp:(S.take si).flatten.length=ps):ps+a.toNat*k+j+kk≤S.flatten.length:=by
 have hi:=qe hr
 have hib:(a.toNat+1)*k≤l.length*k:=Nat.mul_le_mul_right k (by omega)
 rw [Nat.succ_mul] at hib
 have h2:=qbL hS hp
 rw [qaw hlen] at h2
 omega
theorem qkj (hc:∀ z v,(sds z v).length=c) (hr:idx l a=some u0) (hsd:sds u1 (vs a.toNat)=sds u0 (vs a.toNat)):zs sds vs (l.set a.toNat u1)=zs sds vs l:=by
 have hi:=qe hr
 by_cases h0:0 < c
 ·have h2:=qcr hc vs l a.toNat 0 u0 u1 (vs a.toNat) ((sds u0 (vs a.toNat))[0]'(by rw [hc];exact h0)) hi.2.2 h0 (by rw [hsd,List.set_getElem_self])
  rw [jI] at h2
  have h3:=vm hc vs l a.toNat 0 u0 hi.2.2 h0
  rw [List.getElem?_eq_getElem (l:=sds u0 (vs a.toNat)) (by rw [hc];exact h0)] at h3
  obtain ⟨h4,h5⟩:=List.getElem?_eq_some_iff.1 h3
  rw [h2,← h5,List.set_getElem_self]
 ·have h6:∀ (vs:Nat→List Value) (xs:List α),zs sds vs xs=[]:=by
   intro vs xs
   induction xs generalizing vs with
   | nil=>rfl
   | cons y ys ih =>
    rw [zs,ih,List.append_nil]
    exact List.eq_nil_of_length_eq_zero (by rw [hc];omega)
  rw [h6,h6]
theorem L.storeZg (h:qb (upd l a u1) f=some r) (hs:szB P te kk=true) (hx:val fs x=some (pt b o)) (ho:o=ps+a.toNat*k+j) (hy:val fs y=some u) (hu:u.cells.toList=vals) (hk:vals.length=kk) (h1:∀ u∈vals,u.oneCell'=true)
  (hm:m[q]?=some (.obj b S.flatten e)) (hS:S[si]?=some (zr row vs l).flatten) (hp:(S.take si).flatten.length=ps) (hms:m[s]?=some (.ss (zs sds vs l))) (hlen:∀ z v,(row z v).length=k) (hr:idx l a=some u0) (hj:Nat.ble (j+kk) k=true) (hrow:over (row u0 (vs a.toNat)) j vals=row u1 (vs a.toNat))
  (hc:∀ z v,(sds z v).length=c) (hsd:sds u1 (vs a.toNat)=sds u0 (vs a.toNat)) (next:∀ z,z=l.set a.toNat u1→f z=some r→L P ops Q n (Cls w0 own ((m.set q (.obj b (S.set si (zr row vs z).flatten).flatten e)).set s (.ss (zs sds vs z)))) rest fs) :
  L P ops Q n (Cls w0 own m) (⟨none,.store te x y,t,pos,af,none⟩ :: rest) fs:=by
 subst ho
 have hj':j+kk≤k:=by simpa using hj
 refine L.store hs hx hy hu hk h1 hm (qbM hlen hr hj' hS hp) ?_
 rw [qbW hlen hr (by omega) hrow hS hp,jI]
 have hn:=next _ rfl (zR h rfl)
 have hne:q≠s:=by
  rintro rfl
  rw [hm] at hms
  cases hms
 rwa [qkj hc hr hsd,zJ (m:=m.set q _) (by rw [List.getElem?_set_ne hne];exact hms)] at hn
theorem L.storeZSg (h:qb (upd l a u1) f=some r) (hs:szB P te 1=true) (hx:val fs x=some (pt b o)) (ho:o=ps+a.toNat*k+j) (hy:val fs y=some v) {e':TypeId} {k' jj:Nat} {rows:List (List Value)} {L0:List Sd} {v1:List Value}
  (hm:m[q]?=some (.obj b S.flatten e)) (hS:S[si]?=some (zr row vs l).flatten) (hp0:(S.take si).flatten.length=ps) (hp:m[p]?=some (.sl v e' k' rows)) (hms:m[s]?=some (.ss L0)) (hL:L0=zs sds vs l∨L0=(zs sds vs l).set (a.toNat*c+jj) (Sd.nil 0 0)) (hlen:∀ z v,(row z v).length=k) (hc:∀ z v,(sds z v).length=c) (hr:idx l a=some u0) (hj:Nat.ble (j+1) k=true)
  (hrow:over (row u0 (vs a.toNat)) j [v]=row u1 v1) (hjj:Nat.blt jj c=true) (hsd:sds u1 v1=(sds u0 (vs a.toNat)).set jj ⟨v,e',k',rows⟩)
  (next:∀ z vs',z=l.set a.toNat u1→f z=some r→L P ops Q n (Cls w0 own (((m.set q (.obj b (S.set si (zr row vs' z).flatten).flatten e)).set s (.ss (zs sds vs' z))).eraseIdx p)) rest fs) :
  L P ops Q n (Cls w0 own m) (⟨none,.store te x y,t,pos,af,none⟩ :: rest) fs:=by
 subst ho
 have hj':j+1≤k:=by simpa using hj
 have hjj':jj < c:=by simpa [Nat.blt_eq] using hjj
 refine L.storeV hs hx hy (fun w hw=>(As.at_ (hw.get hp)).one) hm (qbM hlen hr hj' hS hp0) ?_
 rw [qbW hlen hr hj' hrow hS hp0]
 refine L.to (fun w hw=>?_) (next _ (xM vs a.toNat v1) rfl (zR h rfl))
 have hqs:q≠s:=by rintro rfl;rw [hm] at hms;cases hms
 have hqp:q≠p:=by rintro rfl;rw [hm] at hp;cases hp
 exact hw.zsPut (by rw [List.getElem?_set_ne hqp];exact hp) (by rw [List.getElem?_set_ne hqs];exact hms) hL hc hr hjj' hsd
end
end Go.S
end
section
namespace Go.S
variable {dR:Dr}
def fzr {α:Type} (g:α→List Value) (x:α) (_:List Value):List Value:=g x
def sd0 {α:Type} (_:α) (_:List Value):List Sd:=[]
section
variable {K:World→Prop} {c c' c2:List Ob} {v u:Value} {k:Nat} {rows:List (List Value)} {w0 w w':World} {own:List Nat} {m m' A A' M:List As} {e:TypeId} {i j s:Nat}
theorem Cls.osJoinI (hw:Cls w0 own m w) (hi:m[i]?=some (.os c2)) (hl:m.getLast?=some (.os c)) (hn:Nat.blt (i+1) m.length=true):Cls w0 own ((m.eraseIdx i).dropLast++[.os (c2++c)]) w:=by
 have h1:Cls w0 own (.os c2 :: .os c :: (m.eraseIdx i).dropLast) w:=hw.perm (vd hi hl hn).1.symm
 have h2:Cls w0 own (.os (c2++c) :: (m.eraseIdx i).dropLast) w:=by
  refine h1.rePerm (by simp [As.foot]) fun z hz=>?_
  rcases List.mem_cons.1 hz with rfl | hz
  ·intro o ho
   rcases List.mem_append.1 ho with h | h
   ·exact (h1.mine (.os c2) (by simp)).1 o h
   ·exact (h1.mine (.os c) (by simp)).1 o h
  ·exact (h1.mine z (by simp [hz])).1
 exact h2.perm List.perm_append_comm
end
section
variable {K:World→Prop} {c c' c2:List Ob} {P:Program} {Q:Exit→Act→World→Prop} {n:Nat} {fs:Fr} {t:TypeId} {ops:Array Oper} {rest:List Oper} {d:Nat} {pos:String} {af:Array Edge}
variable {w0 w:World} {own:List Nat} {m A M:List As} {x y z:Operand} {e te tx ty:TypeId} {i j k kk by' p q s b si ps o:Nat} {v u:Value} {X:List Value} {S:List (List Value)}
theorem L.osJoin {ll:List Oper} (hi:m[i]?=some (.os c2)) (hl:m.getLast?=some (.os c)) (hn:Nat.blt (i+1) m.length=true)
  (next:∀ c',Mo c c'→(∀ {v k rows},Fz (Kn K c) c2 v k rows→Fz K c' v k rows)→(∀ {L0},FzA (Kn K c) c2 L0→FzA K c' L0)→L P ops Q n (Cls w0 own ((m.eraseIdx i).dropLast++[.os c'])) ll fs):L P ops Q n (Cls w0 own m) ll fs:=by
 have key:∀ {v k rows},Fz (Kn K c) c2 v k rows→Fz K (c2++c) v k rows:=fun h w hk hh=>h w ⟨hk,fun o ho=>hh o (List.mem_append_right _ ho)⟩ fun o ho=>hh o (List.mem_append_left _ ho)
 exact L.to (fun w hw=>hw.osJoinI hi hl hn) (next (c2++c) Mo.app1 key fun h d hd=>key (h d hd))
theorem L.storeGV (hs:szB P te 1=true) (hx:val fs x=some (pt b o)) (ho:o=ps+j) (hy:val fs y=some u) (h1:∀ w,Cls w0 own m w→u.oneCell'=true) (hm:m[q]?=some (.obj b S.flatten e))
  (hS:S[si]?=some X) (hp:(S.take si).flatten.length=ps) (hj:Nat.ble (j+1) X.length=true) (next:L P ops Q n (Cls w0 own (m.set q (.obj b (S.set si (over X j [u])).flatten e))) rest fs) :
  L P ops Q n (Cls w0 own m) (⟨none,.store te x y,t,pos,af,none⟩ :: rest) fs:=fun a w hsl hw =>
 L.storeG hs hx ho hy (jL (h1 w hw)) rfl (by simpa using h1 w hw) hm hS hp hj next a w hsl hw
end
end Go.S
end
section
namespace Go.S
variable {dR:Dr}
def qV (vs:List Value) (n:Nat):Nat→List Value:=fun i=>[gv vs (n+i)]
def ghl (gh:Nat→List Value) (n:Nat):List Value:=(List.range n).map fun i=>gv (gh i) 0
theorem qcW (pre:List Value) (gh:Nat→List Value) (n k i:Nat) (hk:pre.length=k) (hi:i < n):gv (qV (pre++ghl gh n) k i) 0=gv (gh i) 0:=by
 subst hk
 simp [qV,gv,ghl,hi]
theorem ql9 {α:Type}:∀ (l:List α) (g g':Nat→List Value),(∀ i,i < l.length→gv (g i) 0=gv (g' i) 0)→zr qh g l=zr qh g' l
 | [],_,_,_=>rfl
 | x :: l,g,g',h=>by
  have h0:=h 0 (by simp)
  rw [zr,zr,qh,qh,h0,ql9 l _ _ fun i hi=>h (i+1) (by simpa using hi)]
theorem ql7 {α:Type} {e:TypeId} {k:Nat} {row:α→List Value}:∀ (l:List (List α)) (g g':Nat→List Value),(∀ i,i < l.length→gv (g i) 0=gv (g' i) 0)→zs (qF e k row) g l=zs (qF e k row) g' l
 | [],_,_,_=>rfl
 | x :: l,g,g',h=>by
  have h0:=h 0 (by simp)
  rw [zs,zs,qF,qF,h0,ql7 l _ _ fun i hi=>h (i+1) (by simpa using hi)]
theorem xz {α:Type} (pre:List Value) (gh:Nat→List Value) (k:Nat) (l:List α) (hk:pre.length=k):zr qh (qV (pre++ghl gh l.length) k) l=zr qh gh l:=ql9 l _ _ fun i hi=>qcW pre gh _ k i hk hi
theorem xy {α:Type} {e:TypeId} {c:Nat} {row:α→List Value} (pre:List Value) (gh:Nat→List Value) (k:Nat) (l:List (List α)) (hk:pre.length=k):zs (qF e c row) (qV (pre++ghl gh l.length) k) l=zs (qF e c row) gh l:=ql7 l _ _ fun i hi=>qcW pre gh _ k i hk hi
theorem Gr.len {g g':Nat→Nat} {n n' k:Nat} (h:Gr g n g' n') (hk:k=n'):Gr g n g' k:=hk ▸ h
theorem qct {g g':Nat→Nat} {n n':Nat} (h:Gr g n g' n'):∀ (l:List Int) (v:Nat→List Value),(∀ x∈l,x < n)→zr (fzr (PR g)) v l=zr (fzr (PR g')) v l
 | [],_,_=>rfl
 | x :: l,v,hx=>by
  rw [zr,zr,fzr,fzr,PR,PR,qlw h (hx x List.mem_cons_self),qct h l _ fun y hy=>hx y (List.mem_cons_of_mem _ hy)]
section
variable {P:Program} {tx e ty t:TypeId} {n:Nat} {fs:Fr} {x y:Operand} {w0:World} {own:List Nat} {m:List As} {α:Type} {row:α→List Value→List Value} {sub:α→List Value→List As} {g:Nat→Nat} {gh:Nat→List Value} {l:List α} {p:Nat} {a b:Int} {u0 u1:α} {k:TypeId}
theorem Cls.arNe {w:World} (hw:Cls w0 own m w) (hm:m[p]?=some (arn row sub k g gh l [])) (ha:idx l a=some u0) (hb:idx l b=some u1) (hne:a≠b):g a.toNat≠g b.toNat:=by
 have h1:=hw.arOpen hm ha List.not_mem_nil
 have hp:(thg row sub k (g a.toNat) (gh a.toNat) u0++arn row sub k g gh l [a.toNat] :: m.eraseIdx p)[(thg row sub k (g a.toNat) (gh a.toNat) u0).length]?=some (arn row sub k g gh l [a.toNat]):=by
  rw [List.getElem?_append_right (Nat.le_refl _),Nat.sub_self];rfl
 have hab:b.toNat ∉ [a.toNat]:=by
  have:=(qe ha).1
  have:=(qe hb).1
  simp only [List.mem_singleton]
  omega
 have h2:=h1.arOpen hp hb hab
 intro hg
 have h3:=h2.nodup
 rw [hg] at h3
 simp only [thg,List.cons_append,List.flatMap_cons,As.foot] at h3
 have h4:=(List.nodup_append.1 h3).2.2 (g b.toNat) (List.mem_singleton.2 rfl) (g b.toNat)
 refine h4 ?_ rfl
 simp only [List.flatMap_append,List.mem_append]
 right
 rw [List.length_cons,List.eraseIdx_cons_succ]
 simp [As.foot]
theorem Cls.arAt {w:World} (hw:Cls w0 own m w) (hm:m[p]?=some (arn row sub k g gh l [])) (ha:idx l a=some u0):w.heap[g a.toNat]?=some (.cells (row u0 (gh a.toNat)).toArray k (0,0)) :=
 ((hw.arOpen hm ha List.not_mem_nil).mine (.obj (g a.toNat) (row u0 (gh a.toNat)) k) (by simp [thg])).1
def qob (P:Program) (e:TypeId):Bool:=match P.info? e with
 | some j=>Nat.blt 0 j.size
 | none=>false
theorem Y.eqlAA (hu:P.underlying tx=some (.pointer e)) (hz:qob P e=true) (hx:val fs x=some (VP g a)) (hy:val fs y=some (VP g b)) (hm:m[p]?=some (arn row sub k g gh l [])) (ha:idx l a=some u0) (hb:idx l b=some u1) :
  Y P (.binOp .eql tx x y ty) t n fs (Cls w0 own m) (.bool (decide (a=b))):=by
 have h0:=(qe ha).1
 have h1:=(qe hb).1
 rw [qck h0] at hx
 rw [qck h1] at hy
 unfold qob at hz
 cases hj:P.info? e with
 | none=>rw [hj] at hz;cases hz
 | some j =>
  rw [hj] at hz
  have hz':j.size≠0:=by
   have:0 < j.size:=by simpa [Nat.blt_eq] using hz
   omega
  refine Y.of fun d pos af gd s w hs hw=>?_
  have hg:(eqGuard .eql tx x y (pt (g a.toNat) 0) (pt (g b.toNat) 0)).run P w=.ok () w:=by simp [eqGuard,pt]
  simp only [execOp,hs.eval hx,hs.eval hy]
  by_cases c:a=b
  ·subst c
   rw [decide_eq_true rfl]
   simp [hg]
   simp [pt,run_eql_ptr_same w _ hu hj]
  ·rw [decide_eq_false c]
   have hne:=hw.arNe hm ha hb c
   simp [hg]
   simp [pt,run_eql_ptr_other w hu hj hz' (a:=⟨g a.toNat,0,none⟩) (b:=⟨g b.toNat,0,none⟩) (fun h=>hne (congrArg Addr.block h)) (hw.arAt hm ha) (hw.arAt hm hb)]
end
end Go.S
end
section
namespace Go.S
variable {dR:Dr}
def qpw (f:Int→Value) (a:Int) (v:Value):Int→Value:=fun q=>if q=a then v else f q
section
variable {α:Type} {us:Int→Value} {l:List (Int×List α)} {a:Int} {x x1:List α} {v:Value} {e:TypeId} {k:Nat} {row:α→List Value}
def qok {β:Type} (us:Int→Value) (l:List (Int×β)):List (Int×Value):=l.map fun p=>(p.1,us p.1)
def qpZ (us:Int→Value) (e:TypeId) (k:Nat) (row:α→List Value) (l:List (Int×List α)):List Sd:=l.map fun p=>⟨us p.1,e,k,p.2.map row⟩
def qpy (l:List (Int×List α)) (a:Int):Option (List α):=(l.find? fun p=>decide (p.1=a)).map (·.2)
def qpx {β:Type} (us:Int→Value) (l:List (Int×β)) (a:Int):Value:=ko (qok us l) a (.slice none 0 0)
end
section
variable {α:Type} {us:Int→Value} {l:List (Int×List α)} {a:Int} {x1:List α} {v:Value} {e:TypeId} {k:Nat} {row:α→List Value} {w0 w:World} {own:List Nat} {m:List As} {i j p b:Nat} {L0 L1:List Sd}
end
section
variable {P:Program} {Q:Exit→Act→World→Prop} {n:Nat} {fs:Fr} {C:World→Prop} {t:TypeId} {ops:Array Oper} {rest:List Oper} {d:Nat} {pos:String} {af:Array Edge}
variable {α ρ:Type} {r:ρ} {us:Int→Value} {l:List (Int×List α)} {a:Int} {x1:List α} {F:List α→Option ρ} {row:α→List Value} {w0 w:World} {own:List Nat} {m:List As} {x y kv:Operand} {kt et tx e:TypeId} {i j p k b:Nat} {v:Value} {L0:List Sd}
end
end Go.S
end
section
namespace Go.S
variable {dR:Dr}
theorem qkl {α:Type} {row:α→List Value}:∀ (l:List α) (vs:Nat→List Value),zr (fzr row) vs l=l.map row
 | [],_=>rfl
 | x :: l,vs=>by rw [zr,qkl l,List.map_cons];rfl
theorem zj {α:Type}:∀ (l:List α) (vs:Nat→List Value),zs sd0 vs l=[]
 | [],_=>rfl
 | x :: l,vs=>by rw [zs,zj l];rfl
theorem StbF.nil {k:Nat} {w:World} {F:List Nat}:StbF (fun w=>At w (.slice none 0 0) k []) w F:=fun w' _ _ _ _ _=>At.nil w' k
def qlr (l:List Int) (n:Nat):Bool:=l.all fun k=>decide (k < (n:Int))
theorem w8 {l:List Int} {n:Nat} (h:qlr l n=true):∀ k∈l,k < (n:Int):=fun k hk=>by simpa using List.all_eq_true.1 h k hk
def Tl {β:Type} (g0 g:Nat→List Value) (l0 l:List β) (p:Int):Prop:=∀ j:Nat,p≤j→gv (g j) 0=gv (g0 j) 0∧l[j]?=l0[j]?
theorem Tl.refl {β:Type} (g:Nat→List Value) (l:List β) (p:Int):Tl g g l l p:=fun _ _=>⟨rfl,rfl⟩
theorem Tl.mono {β:Type} {g0 g:Nat→List Value} {l0 l:List β} {p p':Int} (h:Tl g0 g l0 l p) (hp:p≤p'):Tl g0 g l0 l p':=fun j hj=>h j (Int.le_trans hp hj)
theorem Tl.put {β:Type} {g0 g g2:Nat→List Value} {l0 l z:List β} {p p' a:Int} {y:β} (h:Tl g0 g l0 l p) (hu:upd l a y=some z) (hg:∀ j:Nat,j≠a.toNat→g2 j=g j) (h1:p≤p') (h2:a < p'):Tl g0 g2 l0 z p':=by
 intro j hj
 obtain ⟨h3,h4,rfl⟩:=jA hu
 have hne:j≠a.toNat:=by omega
 obtain ⟨h5,h6⟩:=h j (by omega)
 rw [hg j hne,List.getElem?_set_ne (Ne.symm hne)]
 exact ⟨h5,h6⟩
theorem Tl.idx {β:Type} {g0 g:Nat→List Value} {l0 l:List β} {p a:Int} {x:β} (h:Tl g0 g l0 l p) (hp:p≤a) (hi:idx l0 a=some x):idx l a=some x:=by
 obtain ⟨h0,_,h2⟩:=qe hi
 have h3:=(h a.toNat (by omega)).2
 unfold S.idx
 rw [if_pos h0,h3,h2]
theorem Tl.gv {β:Type} {g0 g:Nat→List Value} {l0 l:List β} {p a:Int} {x:β} (h:Tl g0 g l0 l p) (hp:p≤a) (hi:S.idx l0 a=some x):S.gv (g a.toNat) 0=S.gv (g0 a.toNat) 0:=by
 obtain ⟨h0,_,_⟩:=qe hi
 exact (h a.toNat (by omega)).1
theorem fl0:([]:List (List Value)).flatten.length=0:=rfl
theorem fl1 {X:List Value} {S:List (List Value)} {a p:Nat} (h:X.length=a) (hs:S.flatten.length=p):(X :: S).flatten.length=a+p:=by rw [List.flatten_cons,List.length_append,h,hs]
theorem xt:∀ u∈([]:List (List Value)).flatten,u.oneCell'=true:=by simp
theorem qw {X:List Value} {S:List (List Value)} (h:∀ u∈X,u.oneCell'=true) (hs:∀ u∈S.flatten,u.oneCell'=true):∀ u∈(X :: S).flatten,u.oneCell'=true:=by
 intro u hu
 rw [List.flatten_cons] at hu
 rcases List.mem_append.1 hu with h1 | h1
 ·exact h u h1
 ·exact hs u h1
theorem yP {α:Type} {row:α→List Value} {vs:Nat→List Value} {l:List α} (h:Plain (l.map row)):∀ u∈(zr (fzr row) vs l).flatten,u.oneCell'=true:=by
 intro u hu
 rw [qkl] at hu
 obtain ⟨r,hr,hur⟩:=List.mem_flatten.1 hu
 exact h r hr u hur
section
variable {P:Program} {Q:Exit→Act→World→Prop} {n:Nat} {C:World→Prop} {fs:Fr} {t:TypeId} {ops:Array Oper} {rest:List Oper} {d:Nat} {pos:String} {af:Array Edge}
variable {w0 w:World} {own:List Nat} {m:List As} {x y:Operand} {e te tx ty:TypeId} {i j k kk p q s c jj b si ps nn len:Nat} {v u:Value} {o:Nat} {vals X:List Value} {S A B B' D:List (List Value)} {ik:IntKind}
variable {α ρ:Type} {r:ρ} {row:α→List Value→List Value} {sds:α→List Value→List Sd} {vs vs':Nat→List Value} {l:List α} {a:Int} {u0 u1:α} {f:List α→Option ρ}
theorem Y.loadGA (ha:qM P te true=true) (hs:szB P te nn=true) (hx:val fs x=some (pt b ps)) (hm:m[q]?=some (.obj b S.flatten e)) (hS:S[si]?=some X) (hp:(S.take si).flatten.length=ps) (hl:X.length=nn) :
  Y P (.load te x) t n fs (Cls w0 own m) (.agg X.toArray):=Y.loadPN ha hs hx hm hl fun j u hu=>yz hS hp hu
theorem Y.loadGF {β:Type} {rw':β→List Value} {lb:List β} (ha:qM P te true=true) (hs:szB P te nn=true) (hx:val fs x=some (pt b ps)) (hm:m[q]?=some (.obj b S.flatten e)) (hS:S[si]?=some (zr (fzr rw') vs lb).flatten) (hp:(S.take si).flatten.length=ps) (hl:(zr (fzr rw') vs lb).flatten.length=nn) :
  Y P (.load te x) t n fs (Cls w0 own m) (.agg (lb.map rw').flatten.toArray):=by
 have:=Y.loadGA (dR:=dR) (t:=t) (n:=n) (w0:=w0) (own:=own) ha hs hx hm hS hp hl
 rwa [qkl] at this
theorem Y.idxZr1 {β:Type} {lb:List β} {z:β} (hu:P.underlying tx=some (.array len te)) (ha:qM P te false=true) (hs:szB P te 1=true) (hx:val fs x=some (.agg (zr qh vs lb).flatten.toArray)) (hy:val fs y=some (.int ik a)) (hr:zD len lb a=some z) :
  Y P (.index tx x y) t n fs C (gv (vs a.toNat) 0) :=
 Y.of fun d pos af g s w hs' hw=>by
  obtain ⟨h0,h1,h2⟩:=qe (qg hr)
  have h3:=yH hr
  have hf:(zr qh vs lb).flatten[a.toNat*1+0]?=some (gv (vs a.toNat) 0):=qJ _ _ _ _ _ (fun r hr'=>qax (row:=qh) (k:=1) (fun _ _=>rfl) _ _ r hr') (vn qh vs lb _ _ h2) rfl
  simp only [Nat.mul_one,Nat.add_zero] at hf
  simp only [execOp,hs'.eval hx,hs'.eval hy]
  simp [Instr.index,asIntOf,run_underlying hu,h0,h3,part,xG ha,qn hs,hf]
theorem Y.idxZrT {β:Type} {lb lb':List β} {z:β} {p0:Int} (hT:Tl vs vs' lb lb' p0) (hp:p0≤a) (hu:P.underlying tx=some (.array len te)) (ha:qM P te false=true) (hs:szB P te 1=true) (hx:val fs x=some (.agg (zr qh vs lb).flatten.toArray)) (hy:val fs y=some (.int ik a)) (hr:zD len lb a=some z) :
  Y P (.index tx x y) t n fs C (gv (vs' a.toNat) 0):=by
 rw [hT.gv hp (qg hr)]
 exact Y.idxZr1 hu ha hs hx hy hr
theorem L.storeZSgT (h:qb (upd l a u1) f=some r) (hs:szB P te 1=true) (hx:val fs x=some (pt b o)) (ho:o=ps+a.toNat*k+j) (hy:val fs y=some v) {e':TypeId} {k' jj:Nat} {rows:List (List Value)} {L0:List Sd} {v1:List Value}
  (hm:m[q]?=some (.obj b S.flatten e)) (hS:S[si]?=some (zr row vs l).flatten) (hp0:(S.take si).flatten.length=ps) (hp:m[p]?=some (.sl v e' k' rows)) (hms:m[s]?=some (.ss L0)) (hL:L0=zs sds vs l∨L0=(zs sds vs l).set (a.toNat*c+jj) (Sd.nil 0 0)) (hlen:∀ z v,(row z v).length=k) (hc:∀ z v,(sds z v).length=c) (hr:idx l a=some u0) (hj:Nat.ble (j+1) k=true)
  (hrow:over (row u0 (vs a.toNat)) j [v]=row u1 v1) (hjj:Nat.blt jj c=true) (hsd:sds u1 v1=(sds u0 (vs a.toNat)).set jj ⟨v,e',k',rows⟩)
  (next:∀ z vs',upd l a u1=some z→(∀ j:Nat,j≠a.toNat→vs' j=vs j)→f z=some r→L P ops Q n (Cls w0 own (((m.set q (.obj b (S.set si (zr row vs' z).flatten).flatten e)).set s (.ss (zs sds vs' z))).eraseIdx p)) rest fs) :
  L P ops Q n (Cls w0 own m) (⟨none,.store te x y,t,pos,af,none⟩ :: rest) fs:=by
 subst ho
 have hj':j+1≤k:=by simpa using hj
 have hjj':jj < c:=by simpa [Nat.blt_eq] using hjj
 have hi:=qe hr
 refine L.storeV hs hx hy (fun w hw=>(As.at_ (hw.get hp)).one) hm (qbM hlen hr hj' hS hp0) ?_
 rw [qbW hlen hr hj' hrow hS hp0]
 have hu1:upd l a u1=some (l.set a.toNat u1):=by unfold upd;rw [if_pos ⟨hi.1,hi.2.1⟩]
 refine L.to (fun w hw=>?_) (next _ (xM vs a.toNat v1) hu1 (fun j hj=>by simp [xM,hj]) (zR h rfl))
 have hqs:q≠s:=by rintro rfl;rw [hm] at hms;cases hms
 have hqp:q≠p:=by rintro rfl;rw [hm] at hp;cases hp
 exact hw.zsPut (by rw [List.getElem?_set_ne hqp];exact hp) (by rw [List.getElem?_set_ne hqs];exact hms) hL hc hr hjj' hsd
theorem qkD {A B D:List (List Value)} {v:Value} (h:B.flatten[j]?=some v):(A++B++D).flatten[A.flatten.length+j]?=some v:=by
 rw [List.append_assoc,List.flatten_append,List.flatten_append,List.getElem?_append_right (Nat.le_add_right _ _),Nat.add_sub_cancel_left,List.getElem?_append_left (List.getElem?_eq_some_iff.1 h).1]
 exact h
theorem Y.loadSR (A B D:List (List Value)) (ha:qM P te true=true) (hs:szB P te nn=true) (hx:val fs x=some (pt b ps)) (hm:m[q]?=some (.obj b (A++B++D).flatten e)) (hp:A.flatten.length=ps) (hl:B.flatten.length=nn):Y P (.load te x) t n fs (Cls w0 own m) (.agg B.flatten.toArray):=by
 subst hp
 exact Y.loadPN ha hs hx hm hl fun j u hu=>qkD hu
theorem qiv {A B B' D:List (List Value)} (hl:B'.flatten.length=B.flatten.length):over (A++B++D).flatten A.flatten.length B'.flatten=(A++B'++D).flatten:=by
 rw [List.append_assoc,List.flatten_append,List.flatten_append]
 have h1:=kl B'.flatten A.flatten (B.flatten++D.flatten) 0
 rw [Nat.add_zero] at h1
 rw [h1,vI _ _ _ _ (by omega)]
 have:=ve B'.flatten B.flatten [] hl
 simp only [List.nil_append,List.length_nil] at this
 rw [this,List.append_assoc,List.flatten_append,List.flatten_append]
theorem L.storeSR (A B B' D:List (List Value)) (hs:szB P te nn=true) (hx:val fs x=some (pt b ps)) (hy:val fs y=some (.agg B'.flatten.toArray)) (hall:∀ u∈B'.flatten,u.oneCell'=true) (hm:m[q]?=some (.obj b (A++B++D).flatten e)) (hp:A.flatten.length=ps) (hl:B.flatten.length=nn) (hl':B'.flatten.length=nn)
  (next:L P ops Q n (Cls w0 own (m.set q (.obj b (A++B'++D).flatten e))) rest fs):L P ops Q n (Cls w0 own m) (⟨none,.store te x y,t,pos,af,none⟩ :: rest) fs:=by
 refine L.store (vs:=B'.flatten) hs hx hy (by simp [Value.cells]) hl' hall hm (by simp only [List.append_assoc,List.flatten_append,List.length_append];omega) ?_
 subst hp
 rw [qiv (hl'.trans hl.symm)]
 exact next
theorem W.rounds {c:Code} (k:Nat) (h:W P (Exit.then (Code.rounds P c Q k) Q) n C c fs):W P Q n C (.loop c) fs:=fun a w hs hc=>wp_loop_rounds (k+1) (by rw [rounds_succ];exact h a w hs hc)
theorem E.rounds {c:Code} {k:Nat} (h:W P (Exit.then (Code.rounds P c Q k) Q) n C c fs):E .normal (Exit.then (Code.rounds P c Q (k+1)) Q) n C fs:=fun a w hs hc=>by
 show Code.rounds P c Q (k+1) a w
 rw [rounds_succ]
 exact h a w hs hc
theorem E.retR4 {fn:Func} {R:Ending→World→Prop} {x1 x2 x3 x4:ResultVar} {v1 v2 v3 v4:Value} (hr:fn.results=#[x1,x2,x3,x4]) (h1:Rv P fs C x1 v1) (h2:Rv P fs C x2 v2) (h3:Rv P fs C x3 v3) (h4:Rv P fs C x4 v4) (h:∀ w,C w→R (.returned (.tuple #[v1,v2,v3,v4])) w):E .ret (bodyPost P fn R) n C fs:=by
 intro a w hs hc
 refine bodyPost_ret (v:=.tuple #[v1,v2,v3,v4]) ?_ hs.defers (h w hc)
 have e1:=h1.run hs hc
 have e2:=h2.run hs hc
 have e3:=h3.run hs hc
 have e4:=h4.run hs hc
 rw [kg,hr]
 simp [e1,e2,e3,e4]
theorem E.ret4 {fn:Func} {R:Ending→World→Prop} {x1 x2 x3 x4:Tmp} {v1 v2 v3 v4:Value} (hr:fn.results=#[.tmp x1,.tmp x2,.tmp x3,.tmp x4]) (h1:look fs x1=some v1) (h2:look fs x2=some v2) (h3:look fs x3=some v3) (h4:look fs x4=some v4) (h:∀ w,C w→R (.returned (.tuple #[v1,v2,v3,v4])) w):E .ret (bodyPost P fn R) n C fs :=
 E.retR4 hr (Rv.tmp h1) (Rv.tmp h2) (Rv.tmp h3) (Rv.tmp h4) h
end
section
variable {P:Program} {Q:Exit→Act→World→Prop} {n:Nat} {fs:Fr} {w0:World} {own:List Nat} {m m':List As} {α ρ:Type} {r:ρ} {e:TypeId} {g:Nat→Nat} {gh:Nat→List Value} {l:List α} {u1:α} {hs:List Nat} {b:Nat}
theorem W.arNew {rowg:(Nat→Nat)→α→List Value→List Value} {subg:(Nat→Nat)→α→List Value→List As} {vs':List Value} {F:Int→List α→Option ρ} (is:List Nat) (h:qB (qiA l u1) F=some r) (hn:is.Nodup) (hm:is.map (m[·]?)=((thg (rowg g) (subg g) e b vs' u1)++arn (rowg g) (subg g) e g gh l hs :: m').map some) (hh:∀ q∈hs,q < l.length)
  (hc:∀ g',(∀ i,i < l.length→g' i=g i)→∀ x∈l++[u1],∀ v,rowg g x v=rowg g' x v∧subg g x v=subg g' x v) {ll:Code}
  (next:∀ g' gh' x z,F x z=some r→Gr g l.length g' z.length→pt b 0=VP g' x→(∀ {q:Int} {u:α},idx l q=some u→idx z q=some u)→W P Q n (Cls w0 own (arn (rowg g') (subg g') e g' gh' z hs :: m')) ll fs):W P Q n (Cls w0 own m) ll fs:=by
 intro ac w hs hw
 obtain ⟨g',gh',h1,h2,h3⟩:=hw.arNew is hn hm hh hc
 exact next g' gh' _ _ h h1 h2 yG ac w hs h3
end
end Go.S
end
section
namespace Go.S
variable {dR:Dr}
open Go.Sort Go.Proofs
def xE {α:Type} (cf:α→α→Int) (l:List α):List α:=l.mergeSort fun x y=>!(ltOf cf) y x
def wF {α:Type} (cf:α→α→Int) (l:List α):Option (List α):=if l.length < 4611686018427387904 then some (xE cf l) else none
theorem qbx {α:Type} {cf:α→α→Int} {l r:List α} (h:wF cf l=some r):l.length < 4611686018427387904∧r=xE cf l:=by
 unfold wF at h
 split at h
 ·simp only [Option.some.injEq] at h;exact ⟨by assumption,h.symm⟩
 ·cases h
theorem vB {α:Type} (cf:α→α→Int) (l:List α):(xE cf l).length=l.length:=by unfold xE;exact List.length_mergeSort l
structure qg6 {α:Type} [Inhabited α] (P:Program) (f:FuncId) (enc:α→List Value) (k:Nat):Prop where
 some':∀ (cf:α→α→Int),SWO (ltOf cf)→(∀ x y,(ltOf cf) x y=false→(ltOf cf) y x=false→x=y)→∀ (g:Nat) (cb:Array Value) (blk off cap:Nat) (d:Array α) (w:World),(∀ args w,(callFunc g args).run P w=.ok (.enter g args) w) →
  CmpLays P g cb enc k cf blk off d.size w→HoldsK enc k w blk off d→blk < w.heap.size→d.size < 4611686018427387904 →
  Calls P f #[.slice (some ⟨blk,off,none⟩) d.size cap,.func (.func g) #[] cb] w fun e w'=>e=.returned (.tuple #[])∧∃ n os,w'=sortWorldK enc k w blk off n (d.toList.mergeSort fun x y=>!(ltOf cf) y x).toArray os
 none':∀ (p:Option Addr) (cap:Nat) (fv:Value) (w:World),Calls P f #[.slice p 0 cap,fv] w fun e w'=>e=.returned (.tuple #[])∧w'=w
theorem Cls.grown_of {w w':World} {m:List As} (h : @Cls qfl w [] m w'):∃ q os,w'=grow (w.drewN q) os:=by
 refine ⟨w'.drawn - w.drawn,w'.heap.extract w.heap.size w'.heap.size,?_⟩
 have hd:=@Cls.dr qfl _ _ _ _ h trivial
 have h1:=@Cls.os qfl _ _ _ _ h
 have h2:=@Cls.tape qfl _ _ _ _ h
 have h3:=@Cls.output qfl _ _ _ _ h
 have hh:w'.heap=w.heap++w'.heap.extract w.heap.size w'.heap.size:=by
  apply Array.ext_getElem?
  intro i
  by_cases c:i < w.heap.size
  ·rw [Array.getElem?_append_left c,(@Cls.old qfl _ _ _ _ h) i c (by simp)]
  ·rw [Array.getElem?_append_right (by omega),Array.getElem?_extract]
   by_cases c2:i < w'.heap.size
   ·rw [if_pos (by omega),show w.heap.size+(i - w.heap.size)=i by omega]
   ·rw [if_neg (by omega),Array.getElem?_eq_none (by omega)]
 cases w'
 cases w
 simp only [grow,World.drewN] at *
 subst h1 h2 h3
 simp only [World.mk.injEq,true_and,and_true]
 exact ⟨hh,by omega⟩
section
variable {α:Type} [Inhabited α] {enc:α→List Value} {k:Nat}
theorem jd (hk:∀ x,(enc x).length=k) (d:Array α):(flatK enc k d).toList=(d.toList.map enc).flatten:=by
 have hl:∀ r∈d.toList.map enc,r.length=k:=by
  intro r hr
  obtain ⟨x,_,rfl⟩:=List.mem_map.1 hr
  exact hk x
 have hfl:(d.toList.map enc).flatten.length=d.size*k:=by rw [qG _ hl];simp
 apply List.ext_getElem?
 intro t
 by_cases c:t < d.size*k
 ·have k0:0 < k:=by
   rcases Nat.eq_zero_or_pos k with h | h
   ·subst h;simp at c
   ·exact h
  have hi:t / k < d.size:=(Nat.div_lt_iff_lt_mul k0).2 c
  have hj:t % k < k:=Nat.mod_lt _ k0
  have hx:(d.toList.map enc)[t / k]?=some (enc d[t / k]!):=by simp [hi]
  have hlen:t % k < (enc d[t / k]!).length:=by rw [hk];exact hj
  have h1:=qJ _ (t / k) (t % k) _ ((enc d[t / k]!)[t % k]!) hl hx (by rw [List.getElem?_eq_getElem hlen];simp [hlen])
  rw [Nat.div_add_mod' t k] at h1
  rw [h1]
  have h2:t < (flatK enc k d).size:=by rw [size_flatK];exact c
  have h3:=get_flatK enc k d t c
  rw [getElem!_pos _ t h2] at h3
  rw [Array.getElem?_toList,Array.getElem?_eq_getElem h2,h3]
 ·rw [List.getElem?_eq_none (by simp;omega),List.getElem?_eq_none (by rw [hfl];omega)]
end
section
variable {P:Program} {Q:Exit→Act→World→Prop} {n:Nat} {fs:Fr} {t:TypeId} {ops:Array Oper} {rest:List Oper} {d:Nat} {pos:String} {af:Array Edge}
variable {w0:World} {own:List Nat} {m:List As} {x y:Operand} {e:TypeId} {i k:Nat} {v:Value} {f g:FuncId} {ts:Array TypeId}
variable {α:Type} [Inhabited α] {enc:α→List Value} {l:List α} {cf:α→α→Int}
theorem Cls.sortedF {w:World} (h:Cls w0 own m w) (hm:m[i]?=some (.sl v e k (l.map enc))) (hS:qg6 P f enc k) (hk:∀ x,(enc x).length=k) (hO:SWO (ltOf cf)) (hT:∀ x y,(ltOf cf) x y=false→(ltOf cf) y x=false→x=y)
  (he:jx P g=true) (hC:∀ x y w,@Does qfl P g [.agg (enc x).toArray,.agg (enc y).toArray] w fun u m=>u=.int .i64 (cf x y)) (hl:l.length < 4611686018427387904) :
  Calls P f #[v,.func (.func g) #[] #[]] w fun en w'=>en=.returned (.tuple #[])∧Cls w0 own (m.set i (.sl v e k ((xE cf l).map enc))) w':=by
 obtain ⟨hr,hln,h3⟩:=h.get hm
 rcases h3 with ⟨rfl,hn⟩ | ⟨b,cap,cur,rfl,hg,hh,hnc,hcm,hcs,htk⟩
 ·have h0:l=[]:=by simpa using hn
  subst h0
  refine Calls.mono (hS.none' none 0 _ w) ?_
  rintro en w' ⟨rfl,rfl⟩
  refine ⟨rfl,?_⟩
  have:(As.sl (.slice none 0 0) e k ((xE cf []).map enc))=As.sl (.slice none 0 0) e k (([]:List α).map enc):=by simp [xE]
  rw [this,zJ hm]
  exact h
 ·rw [List.length_map] at htk hnc
  have hgl:b < w.heap.size:=(Array.getElem?_eq_some_iff.1 hh).1
  have hfl:=jd hk l.toArray
  have hcap:l.length*k≤cap*k:=Nat.mul_le_mul_right k hnc
  rw [List.length_map]
  have hH:HoldsK enc k w b 0 l.toArray:=by
   intro j hj
   rw [size_flatK] at hj
   have hj':j < l.length*k:=by simpa using hj
   refine ⟨?_,by simp [World.frozen?,hh]⟩
   have h1:(cur.toList.take (l.length*k))[j]?=(flatK enc k l.toArray).toList[j]?:=by rw [htk,hfl]
   rw [List.getElem?_take_of_lt hj',Array.getElem?_toList,Array.getElem?_toList] at h1
   have h2:j < (flatK enc k l.toArray).size:=by rw [size_flatK];exact hj
   simp only [World.cell?,hh,Nat.zero_add,Option.isSome_none,Bool.false_eq_true,if_false,id]
   rw [h1,Array.getElem?_eq_getElem h2,getElem!_pos _ j h2]
  have hcmp:CmpLays P g #[] enc k cf b 0 l.toArray.size w:=by
   intro q os dk hdk x y
   have h1:=hC x y (sortWorldK enc k w b 0 q dk os)
   unfold Does at h1
   refine Calls.mono h1 ?_
   rintro en w' ⟨u,m',rfl,rfl,hc⟩
   exact ⟨rfl,hc.grown_of⟩
  have hcall:=hS.some' cf hO hT g #[] b 0 cap l.toArray w (fun args w=>xY he args w) hcmp hH hgl (by simpa using hl)
  rw [List.size_toArray] at hcall
  refine Calls.mono hcall ?_
  rintro en w' ⟨rfl,q,os,rfl⟩
  refine ⟨rfl,Cls.grown ?_ os⟩
  have hsl:(l.toArray.toList.mergeSort fun x y=>!(ltOf cf) y x)=xE cf l:=rfl
  rw [hsl]
  have hlen:=vB cf l
  have hfl2:=jd hk (xE cf l).toArray
  refine h.turn hm rfl rfl rfl rfl (by simp [putRowK,Go.Sort.putRow,Go.Sort.mapBlock,Sort.ahead]) (Nat.le_add_right _ _) (fun j hj=>?_) ⟨fun r hr=>?_,?_⟩
  ·have hne:j≠b:=by
    intro hjb
    exact hj (by simp [As.foot,Value.ownBlock,hjb])
   simp [putRowK,Go.Sort.putRow,Go.Sort.mapBlock,Sort.ahead,Array.getElem?_modify,Ne.symm hne]
  ·obtain ⟨z,_,rfl⟩:=List.mem_map.1 hr;exact hk z
  ·rw [List.length_map,hlen]
   refine ⟨?_,.inr ⟨b,cap,putCells id 0 (flatK enc k (xE cf l).toArray) cur,rfl,hg,?_,hnc,hcm,by simp [putCells,hcs],?_⟩⟩
   ·rw [qG _ (fun r hr=>by obtain ⟨z,_,rfl⟩:=List.mem_map.1 hr;exact hk z),List.length_map,hlen]
   ·simp [putRowK,Go.Sort.putRow,Go.Sort.mapBlock,Sort.ahead,Array.getElem?_modify,hh,onCells]
   ·rw [← hfl2]
    apply List.ext_getElem?
    intro j
    by_cases c:j < l.length*k
    ·have h2:j < (flatK enc k (xE cf l).toArray).size:=by rw [size_flatK,List.size_toArray,hlen];exact c
     rw [List.getElem?_take_of_lt c,Array.getElem?_toList,Array.getElem?_toList,Array.getElem?_eq_getElem h2]
     simp only [putCells,Array.getElem?_mapIdx,Nat.zero_le,true_and,Nat.zero_add,Nat.sub_zero,id]
     rw [Array.getElem?_eq_getElem (show j < cur.size by omega)]
     simp only [Option.map_some,if_pos h2]
     rw [getElem!_pos _ j h2]
    ·rw [List.getElem?_take_eq_none (by omega),List.getElem?_eq_none (by simp [hlen];omega)]
theorem L.sortFMD {ρ:Type} {r:ρ} {F:List α→Option ρ} (h:qb (wF cf l) F=some r) (hS:qg6 P f enc k) (hk:∀ x,(enc x).length=k) (hO:SWO (ltOf cf)) (hT:∀ x y,(ltOf cf) x y=false→(ltOf cf) y x=false→x=y)
  (hg:jx P g=true) (hC:∀ x y w,@Does qfl P g [.agg (enc x).toArray,.agg (enc y).toArray] w fun u m=>u=.int .i64 (cf x y)) (hd:Nat.blt d n=true) (he:jx P f=true) (hx:val fs x=some v) (hy:val fs y=some (.func (.func g) #[] #[])) (hm:m[i]?=some (.sl v e k (l.map enc)))
  (next:∀ z,wF cf l=some z→F z=some r→L P ops Q n (Cls w0 own (m.set i (.sl v e k (z.map enc)))) rest ((d,.tuple #[]) :: fs)):L P ops Q n (Cls w0 own m) (⟨some d,.call ⟨.value (.func f),#[x,y],ts⟩,t,pos,af,none⟩ :: rest) fs:=by
 obtain ⟨z,hz,h⟩:=qc h
 obtain ⟨hl,rfl⟩:=qbx hz
 intro a w hs hw
 have hrun:(execOp a.eval ⟨some d,.call ⟨.value (.func f),#[x,y],ts⟩,t,pos,af,none⟩).run P w=.ok (.enter f #[v,.func (.func g) #[] #[]]) w:=xI (xs:=[x,y]) (vs:=[v,.func (.func g) #[] #[]]) he (by simp [vals,hx,hy]) hs w (some d)
 simp only [wpList,Region.wanted,if_true]
 refine .inl ?_
 unfold Oper.wp
 rw [hrun]
 refine (hw.sortedF hm hS hk hO hT hg hC hl).mono ?_
 rintro en w' ⟨rfl,hc⟩
 exact next _ hz h _ w' (hs.put hd _) hc
end
end Go.S
end
section
namespace Go.S
variable {dR:Dr}
def qek (n:Int):Option (List UInt8):=if -9223372036854775808≤n∧n≤9223372036854775807 then some (Lib.itoa n) else none
theorem qej {n:Int} {r:List UInt8} (h:qek n=some r):(-9223372036854775808≤n∧n≤9223372036854775807)∧r=Lib.itoa n:=by
 unfold qek at h
 split at h
 ·rename_i h1
  exact ⟨h1,(Option.some.inj h).symm⟩
 ·cases h
theorem Cls.tab {P:Program} {w0 w:World} {m:List As} {name:String} {k:IntKind} {zs:List Int} (h:Cls w0 [] m w) (hT:Lib.TabIs P w0 name k zs):Lib.TabIs P w name k zs:=by
 unfold Lib.TabIs World.var? at *
 cases hg:P.globalNamed name with
 | none=>rw [hg] at hT;cases hT
 | some g =>
  rw [hg] at hT
  simp only [Option.bind_some] at hT ⊢
  have hlt:g < w0.heap.size:=by
   rcases Nat.lt_or_ge g w0.heap.size with h1 | h1
   ·exact h1
   ·rw [Array.getElem?_eq_none h1] at hT;cases hT
  rw [h.old g hlt (by simp)]
  exact hT
end Go.S
end
section
namespace Go.S
variable {dR:Dr}
section
variable {P:Program} {kt:TypeId}
theorem wT (a:List UInt8):∀ (es:List MapEntry) (i:Nat),(∀ e∈es,∃ y,e.key=st y) →
  (Instr.findNow .string (st a) es i=some none∧∀ e∈es,e.key≠st a)∨∃ j e,Instr.findNow .string (st a) es i=some (some (i+j,e.val))∧es[j]?=some e∧e.key=st a
 | [],i,_=>.inl ⟨rfl,by simp⟩
 | e :: es,i,hk=>by
  obtain ⟨y,hy⟩:=hk e (List.mem_cons_self ..)
  have hs:Instr.sameNow .string (st a) e.key=some (decide (a=y)):=by
   rw [hy]
   show some ((ByteArray.mk a.toArray) == (ByteArray.mk y.toArray))=_
   have:((ByteArray.mk a.toArray) == (ByteArray.mk y.toArray))=(a.toArray == y.toArray):=rfl
   rw [this]
   by_cases c:a=y
   ·subst c;simp
   ·simp [c]
  by_cases c:a=y
  ·refine .inr ⟨0,e,?_,rfl,by rw [hy,c]⟩
   rw [decide_eq_true c] at hs
   simp [Instr.findNow,hs]
  ·rw [decide_eq_false c] at hs
   have hne:e.key≠st a:=fun q=>c (qcD.1 (by rw [← q,hy]))
   rcases wT a es (i+1) (fun e he=>hk e (List.mem_cons_of_mem _ he)) with ⟨h1,h2⟩ | ⟨j,e',h1,h2,h3⟩
   ·refine .inl ⟨by simp [Instr.findNow,hs,h1],fun e' he'=>?_⟩
    rcases List.mem_cons.1 he' with q | q
    ·rw [q];exact hne
    ·exact h2 e' q
   ·exact .inr ⟨j+1,e',by simp [Instr.findNow,hs,h1,Nat.add_assoc,Nat.add_comm 1 j],by simpa using h2,h3⟩
theorem qeG (hu:P.underlying kt=some .string) (a:List UInt8) (w:World) (es:List MapEntry) (hk:∀ e∈es,∃ y,e.key=st y) :
  ((Instr.findKey kt (st a) es).run P w=.ok none w∧∀ e∈es,e.key≠st a)∨∃ j e,(Instr.findKey kt (st a) es).run P w=.ok (some (j,e.val)) w∧es[j]?=some e∧e.key=st a:=by
 rcases wT a es 0 hk with ⟨h1,h2⟩ | ⟨j,e,h1,h2,h3⟩
 ·exact .inl ⟨by simp [Instr.findKey,run_underlying hu,h1],h2⟩
 ·exact .inr ⟨j,e,by simp [Instr.findKey,run_underlying hu,h1],h2,h3⟩
theorem qc9 (hu:P.underlying kt=some .string) (a:List UInt8) (e:Bool) (w:World):(Instr.checkKey e 10000 kt (st a)).run P w=.ok () w:=by
 have:(Instr.checkKey e (9999+1) kt (st a)).run P w=.ok () w:=by
  unfold Instr.checkKey
  simp [run_underlying hu,st]
 exact this
theorem qil (a:List UInt8) (w:World):(Instr.keyThatStays (st a) (st a)).run P w=.ok (st a) w:=by
 have:Instr.sameBits 10000 (st a) (st a)=true:=by
  show ((ByteArray.mk a.toArray) == (ByteArray.mk a.toArray))=true
  show (a.toArray == a.toArray)=true
  simp
 simp [Instr.keyThatStays,this]
end
section
variable {P:Program} {Q:Exit→Act→World→Prop} {n:Nat} {fs:Fr} {C:World→Prop} {t:TypeId} {ops:Array Oper} {rest:List Oper} {d:Nat} {pos:String} {af:Array Edge}
variable {w0:World} {own:List Nat} {m:List As} {x y z:Operand} {kt et tx:TypeId} {i b:Nat}
variable {α:Type} {g:α→Value} {lm:List (List UInt8×α)} {z0 v0:α} {a:List UInt8}
theorem qn5 {es:Array MapEntry} (he:es.toList.map (fun e=>(e.key,e.val))=qav st g lm):∀ e∈es.toList,∃ y,e.key=st y:=by
 intro e hm
 have:(e.key,e.val)∈es.toList.map (fun e=>(e.key,e.val)):=List.mem_map.2 ⟨e,hm,rfl⟩
 rw [he] at this
 obtain ⟨p,_,hp⟩:=List.mem_map.1 this
 exact ⟨p.1,(Prod.mk.inj hp).1.symm⟩
theorem vC {es:Array MapEntry} {clock:Nat} (hs:MapKept.Stamped es clock) (he:es.toList.map (fun e=>(e.key,e.val))=qav st g lm):(lm.map (·.1)).Nodup:=by
 have h1:es.toList.map (·.key)=(lm.map (·.1)).map st:=by
  have:=congrArg (List.map Prod.fst) he
  simpa [List.map_map,qav,Function.comp_def] using this
 have h2:=hs.2.2
 rw [h1] at h2
 exact jp _ _ h2
theorem wM (w:World) (hu:P.underlying kt=some .string) {es:Array MapEntry} (he:es.toList.map (fun e=>(e.key,e.val))=qav st g lm) (a:List UInt8) :
  ((Instr.findKey kt (st a) es.toList).run P w=.ok none w∧(∀ p∈lm,p.1≠a)∧∀ e∈es.toList,e.key≠st a)∨∃ j v e,(Instr.findKey kt (st a) es.toList).run P w=.ok (some (j,g v)) w∧lm[j]?=some (a,v)∧es[j]?=some e∧e.key=st a:=by
 rcases qeG hu a w es.toList (qn5 he) with ⟨h1,h2⟩ | ⟨j,e,h1,h2,h3⟩
 ·refine .inl ⟨h1,fun p hp heq=>?_,h2⟩
  have:(st p.1,g p.2)∈es.toList.map (fun e=>(e.key,e.val)):=by rw [he];exact List.mem_map.2 ⟨p,hp,rfl⟩
  obtain ⟨e,hem,hee⟩:=List.mem_map.1 this
  exact h2 e hem (by rw [(Prod.mk.inj hee).1,heq])
 ·have hj:(qav st g lm)[j]?=some (e.key,e.val):=by rw [← he,List.getElem?_map,h2];rfl
  rw [qav,List.getElem?_map] at hj
  cases hp:lm[j]? with
  | none=>rw [hp] at hj;cases hj
  | some p =>
   rw [hp] at hj
   simp only [Option.map_some,Option.some.injEq,Prod.mk.injEq] at hj
   obtain ⟨e1,e2⟩:=hj
   have hpa:p.1=a:=qcD.1 (by rw [e1,h3])
   exact .inr ⟨j,p.2,e,by rw [h1,e2],by rw [hp,← hpa],by simpa using h2,h3⟩
theorem Y.lookupMk (hu:P.underlying tx=some (.map kt et)) (hk:P.underlying kt=some .string) (hz:((P.info? et).bind fun i=>i.zero)=some (g z0)) (hx:val fs x=some (.map (some b))) (hy:val fs y=some (st a)) (hm:m[i]?=some (.mq b (qav st g lm))) :
  Y P (.lookup tx x y false) t n fs (Cls w0 own m) (g (vi lm a z0)) :=
 Y.of fun d pos af g' s w hs hw=>by
  obtain ⟨es,clock,hb,hst,he⟩:=hw.get hm
  simp only [execOp,hs.eval hx,hs.eval hy]
  rcases wM (P:=P) w hk he a with ⟨h1,h2,_⟩ | ⟨j,v,e,h1,h2,_⟩
  ·simp [Instr.lookup,run_underlying hu,MapKept.run_getObj_map hb,qc9 hk,h1,wO hz,qgm h2]
  ·simp [Instr.lookup,run_underlying hu,MapKept.run_getObj_map hb,qc9 hk,h1,qkX (vC hst he) h2]
theorem L.mapSetk {kv:Operand} (hu:P.underlying tx=some (.map kt et)) (hk:P.underlying kt=some .string) (hx:val fs x=some (.map (some b))) (hy:val fs y=some (st a)) (hz:val fs kv=some (g v0)) (hm:m[i]?=some (.mq b (qav st g lm)))
  (next:L P ops Q n (Cls w0 own (m.set i (.mq b (qav st g (qbw lm a v0))))) rest fs):L P ops Q n (Cls w0 own m) (⟨none,.mapUpdate tx x y kv,t,pos,af,none⟩ :: rest) fs :=
 L.runsNone (fun s w hs hw=>by
  obtain ⟨es,clock,hb,hst,he⟩:=hw.get hm
  have hn:=vC hst he
  have hbl:b < w.heap.size:=(Array.getElem?_eq_some_iff.1 hb).1
  have turned:∀ (o:Obj),(As.mq b (qav st g (qbw lm a v0))).holds { w with heap:=w.heap.setIfInBounds b o }→Cls w0 own (m.set i (.mq b (qav st g (qbw lm a v0)))) { w with heap:=w.heap.setIfInBounds b o }:=fun o ho =>
   hw.turn hm rfl rfl rfl rfl (by simp) (Nat.le_refl _) (fun k hk=>by simp only [As.foot,List.mem_singleton] at hk;exact Array.getElem?_setIfInBounds_ne (Ne.symm hk)) ho
  simp only [execOp,hs.eval hx,hs.eval hy,hs.eval hz]
  rcases wM (P:=P) w hk he a with ⟨h1,h2,h2'⟩ | ⟨j,u,e,h1,h2,hes,hek⟩
  ·refine ⟨_,by simp [Instr.mapUpdate,run_underlying hu,MapKept.run_getObj_map hb,qc9 hk,h1,MapKept.run_setObj_map _ hb],turned (.map (es.push { key:=st a,val:=g v0,born:=clock }) (clock+1)) ?_⟩
   refine ⟨es.push { key:=st a,val:=g v0,born:=clock },clock+1,by simp [hbl],MapKept.stamped_push hst h2',?_⟩
   unfold qbw
   rw [if_neg (by rw [qgl h2];simp)]
   simp [he,qav]
  ·refine ⟨_,by simp [Instr.mapUpdate,run_underlying hu,MapKept.run_getObj_map hb,qc9 hk,h1,hes,hek,qil,MapKept.run_setObj_map _ hb],turned (.map (es.modify j fun e=>{ e with key:=st a,val:=g v0 }) clock) ?_⟩
   refine ⟨es.modify j fun e=>{ e with key:=st a,val:=g v0 },clock,by simp [hbl],MapKept.stamped_modify hst _ _ (fun _ _=>rfl) (fun e' _ he'=>?_),?_⟩
   ·rw [hes,Option.some.injEq] at he';rw [← he',hek]
   ·rw [qkV hn h2,qav,List.map_set,← qav,← he]
    apply List.ext_getElem?
    intro q
    simp only [Array.toList_modify,List.getElem?_map,List.getElem?_modify,List.getElem?_set,List.length_map,Array.length_toList]
    by_cases hq:j=q
    ·subst hq
     have hlt:=(Array.getElem?_eq_some_iff.1 hes).1
     simp [hes,hlt]
    ·simp [hq]) next
end
end Go.S
end
section
namespace Go.S
variable {dR:Dr}
open Go.Sort Go.Proofs
def qop {α:Type} (cf:α→α→Int) (l:List α):Prop:=l.Pairwise fun x y=>ltOf cf x y=true∨ltOf cf y x=true
instance {α:Type} (cf:α→α→Int) (l:List α):Decidable (qop cf l):=inferInstanceAs (Decidable (List.Pairwise _ _))
def qoP {α:Type} (cf:α→α→Int) (l:List α):Option (List α):=if l.length < 4611686018427387904∧qop cf l then some (xE cf l) else none
structure qo8 {α:Type} [Inhabited α] (P:Program) (f:FuncId) (enc:α→List Value) (k:Nat):Prop where
 some':∀ (cf:α→α→Int),SWO (ltOf cf)→∀ (g:Nat) (cb:Array Value) (blk off cap:Nat) (d:Array α) (w:World),(∀ args w,(callFunc g args).run P w=.ok (.enter g args) w) →
  CmpLays P g cb enc k cf blk off d.size w→HoldsK enc k w blk off d→blk < w.heap.size→d.size < 4611686018427387904→qop cf d.toList →
  Calls P f #[.slice (some ⟨blk,off,none⟩) d.size cap,.func (.func g) #[] cb] w fun e w'=>e=.returned (.tuple #[])∧∃ n os,w'=sortWorldK enc k w blk off n (d.toList.mergeSort fun x y=>!(ltOf cf) y x).toArray os
 none':∀ (p:Option Addr) (cap:Nat) (fv:Value) (w:World),Calls P f #[.slice p 0 cap,fv] w fun e w'=>e=.returned (.tuple #[])∧w'=w
section
variable {P:Program} {Q:Exit→Act→World→Prop} {n:Nat} {fs:Fr} {t:TypeId} {ops:Array Oper} {rest:List Oper} {d:Nat} {pos:String} {af:Array Edge}
variable {w0:World} {own:List Nat} {m:List As} {x y:Operand} {e:TypeId} {i k:Nat} {v:Value} {f g:FuncId} {ts:Array TypeId}
variable {α:Type} [Inhabited α] {enc:α→List Value} {l:List α} {cf:α→α→Int}
end
end Go.S
end
section
namespace Go.S
variable {dR:Dr}
section
variable {v v' u:Value} {e:TypeId} {k:Nat} {rows rows' more:List (List Value)} {w0 w w':World} {own:List Nat} {m:List As} {i b:Nat}
theorem At.block {g n c:Nat} (h:At w (.slice (some ⟨g,0,none⟩) n c) k rows) (hb:w'.heap[g]?=w.heap[g]?):At w' (.slice (some ⟨g,0,none⟩) n c) k rows:=by
 refine ⟨h.shape,h.len,fun i r j x h1 h2=>?_⟩
 have hx:=h.cell i r j x h1 h2
 have hblk:((adr (.slice (some ⟨g,0,none⟩) n c)).add (i*k+j)).block=g:=by
  simp only [adr];unfold Addr.add;split <;> rfl
 rw [World.cell?_of_block (w:=w)]
 ·exact hx
 ·rw [hblk];exact hb
theorem At.prefix {g n c n' c':Nat} {r1:List (List Value)} (h:At w (.slice (some ⟨g,0,none⟩) n c) k rows) (h0:At w' (.slice (some ⟨g,0,none⟩) n' c') k r1) (hp:r1 <+: rows):At w (.slice (some ⟨g,0,none⟩) n' c') k r1:=by
 obtain ⟨q,rfl⟩:=hp
 refine ⟨h0.shape,h0.len,fun i r j x h1 h2=>?_⟩
 have:=h.cell i r j x (by rw [List.getElem?_append_left (List.getElem?_eq_some_iff.1 h1).1];exact h1) h2
 exact this
theorem slHolds.at (h:slHolds w v e k rows):At w v k rows:=As.at_ (e:=e) h
structure TsH (F:List Nat) (us:Int→Value) (e:TypeId) (k:Nat) (tl:List (Int×List (List Value))) (V:List Sd) (w:World):Prop where
 bl:∀ b∈F,∃ cur e',w.heap[b]?=some (.cells cur e' (0,0))
 sl:∀ p∈tl,slHolds w (us p.1) e k p.2
 inF:∀ p∈tl,∀ b,(us p.1).ownBlock=some b→b∈F
 kn:(tl.map (·.1)).Nodup
 apart:∀ p∈tl,∀ q∈tl,p.1≠q.1→∀ b,(us p.1).ownBlock=some b→(us q.1).ownBlock≠some b
 vw:∀ d∈V,At w d.v d.k d.rows
 vb:∀ d∈V,(d.v=.slice none 0 0∧d.rows=[])∨∃ g n c,d.v=.slice (some ⟨g,0,none⟩) n c∧g∈F∧d.k=k∧∀ p∈tl,(us p.1).ownBlock=some g→d.rows <+: p.2
variable {F F':List Nat} {us:Int→Value} {tl:List (Int×List (List Value))} {V:List Sd}
theorem At.nilv (h:At w (.slice none 0 0) k rows):At w' (.slice none 0 0) k rows:=by
 rcases h.shape with ⟨_,h0⟩ | ⟨a,cap,h0,_⟩
 ·subst h0;exact At.nil w' k
 ·cases h0
theorem TsH.congr (h:TsH F us e k tl V w) (hb:∀ b∈F,w'.heap[b]?=w.heap[b]?):TsH F us e k tl V w':=by
 refine ⟨fun b hF=>?_,fun p hp=>?_,h.inF,h.kn,h.apart,fun d hd=>?_,h.vb⟩
 ·rw [hb b hF];exact h.bl b hF
 ·exact xl (h.sl p hp) fun b hbo=>hb b (h.inF p hp b (by simpa using hbo))
 ·rcases h.vb d hd with ⟨h1,h2⟩ | ⟨g,n,c,h1,hg,_⟩
  ·have:=h.vw d hd
   rw [h1] at this ⊢
   exact this.nilv
  ·have:=h.vw d hd
   rw [h1] at this ⊢
   exact this.block (hb g hg)
def zA [Dr] (F:List Nat) (us:Int→Value) (e:TypeId) (k:Nat) (tl:List (Int×List (List Value))) (V:List Sd):Res where
 foot:=F
 holds:=TsH F us e k tl V
 congr:=fun h hb=>h.congr hb
 lt:=fun h b hb=>by
  obtain ⟨cur,e',hh⟩:=h.bl b hb
  exact (Array.getElem?_eq_some_iff.1 hh).1
theorem Cls.anyGrew {z z':Res} (h:Cls w0 own (.any z :: m) w) (hdr:w.drawn≤w'.drawn) (row:Option Nat) (hg:w.grownBy w' row) (hrow:∀ b,row=some b→b∈z.foot) (hf:∀ b∈z'.foot,b∈z.foot∨w.heap.size≤b) (hn:z'.foot.Nodup) (hy:z'.holds w') :
  Cls w0 own (.any z' :: m) w':=by
 have hnd:=h.nodup
 rw [List.flatMap_cons,List.nodup_append] at hnd
 obtain ⟨hn1,hn2,hn3⟩:=hnd
 have hz:=h.mine (.any z) (List.mem_cons_self ..)
 have hm:=h.sublist (List.sublist_cons_self _ _)
 refine ⟨hg.os.trans h.os,hg.tape.trans h.tape,hg.output.trans h.output,h.dr.trans (.of hdr),Nat.le_trans h.size hg.size,fun q hq ho=>?_,?_,fun x hx=>?_⟩
 ·rw [hg.block q (Nat.lt_of_lt_of_le hq h.size),h.old q hq ho]
  intro hv
  rcases hz.2 q (hrow q hv.symm) with h1 | h1
  ·omega
  ·exact ho h1
 ·rw [List.flatMap_cons,List.nodup_append]
  refine ⟨hn,hn2,fun a ha b hb heq=>?_⟩
  subst heq
  rcases hf a ha with h1 | h1
  ·exact hn3 a h1 a hb rfl
  ·have:=hm.foot_lt a hb
   omega
 ·rcases List.mem_cons.1 hx with rfl | hx
  ·refine ⟨hy,fun b hb=>?_⟩
   rcases hf b hb with h1 | h1
   ·exact hz.2 b h1
   ·exact .inl (Nat.le_trans h.size h1)
  ·have hxm:=h.mine x (List.mem_cons_of_mem _ hx)
   refine ⟨As.holds_congr hxm.1 fun b hb=>?_,hxm.2⟩
   refine hg.block b (As.holds_lt hxm.1 b hb) fun heq=>?_
   exact hn3 b (hrow b heq.symm) b (List.mem_flatMap.2 ⟨x,hx,hb⟩) rfl
end
section
variable {P:Program} {v v':Value} {e:TypeId} {k:Nat} {rows rows' more:List (List Value)} {w:World}
theorem vD {t ty:TypeId} {i:TypeInfo} {z:Value} {bytes:Nat} (ht:P.underlying t=some (.slice e)) (hi:P.info? e=some i) (hz:i.zero=some z) (hsize:i.size=k) (hby:i.bytes=bytes) (hzs:z.cells.size=k) (hsz:0 < k)
  (h:slHolds w v e k rows) (a:Addr) (c:Nat) (hmore:∀ r∈more,r.length=k) (hnews:∀ j u,more.flatten[j]?=some u→w.cell? (a.add j)=some u) (h1:∀ u∈more.flatten,u.oneCell'=true) (h63:rows.length+more.length≤maxLen) (hbytes:(rows.length+more.length)*bytes≤140737488355328) :
  ∃ v' w',(Builtin.append_ #[t,t] ty #[v,.slice (some a) more.length c]).run P w=.ok v' w'∧slHolds w' v' e k (rows++more)∧w.grownBy w' v.ownBlock∧(v'.ownBlock=v.ownBlock∨(v'.ownBlock=some w.heap.size∧w.grownBy w' none)):=by
 have hl:more.flatten.length=more.length*k:=qG _ hmore
 have hlr:rows.flatten.length=rows.length*k:=qG _ h.1
 have hall:∀ r∈rows++more,r.length=k:=fun r hr=>(List.mem_append.1 hr).elim (h.1 r) (hmore r)
 have hlen:(rows++more).length=rows.length+more.length:=List.length_append
 have hsl:∀ {w':World} {v':Value},w'.ownsRow 0 e k v' (rows.length+more.length) (rows.flatten++more.flatten)→slHolds w' v' e k (rows++more):=fun hw'=>⟨hall,by rw [hlen,List.flatten_append];exact hw'⟩
 obtain ⟨h1r,hown⟩:=h
 by_cases hroom:∃ g cap cur,v=.slice (some ⟨g,0,none⟩) rows.length cap∧w.heap[g]?=some (.cells cur e (0,0))∧cap < rows.length+more.length∧cap≤maxLen
 ·obtain ⟨g,cap,cur,rfl,hg,hr,hcm⟩:=hroom
  have holds:∀ j u,rows.flatten[j]?=some u→w.cell? ((⟨g,0,none⟩:Addr).add j)=some u:=hown.cells (g:=g) rfl
  subst hsize hby
  have hrun:=run_append_grow (P:=P) w t ty e i z ht hi hz ⟨g,0,none⟩ rows.length cap rows.flatten hlr holds a more.length c more.flatten hl hnews (by omega) (by simp only [maxLen] at h63;omega) (growslice_fits (by omega) hbytes)
  have hge:=grownCap_ge w (rows.length+more.length) cap e
  have hcm2:grownCap w (rows.length+more.length) cap e≤maxLen:=grownCap_le_maxLen w (rows.length+more.length) cap e h63
  refine ⟨_,_,hrun,hsl ⟨by simp [hlr,hl,Nat.add_mul],.inr ⟨w.heap.size,_,_,rfl,Nat.zero_le _,heap_alloc_new w.drew _,hge,hcm2,?_,?_⟩⟩,⟨rfl,rfl,rfl,by simp,fun k hk _=>heap_alloc_old w.drew _ hk⟩,.inr ⟨rfl,⟨rfl,rfl,rfl,by simp,fun k hk _=>heap_alloc_old w.drew _ hk⟩⟩⟩
  ·simp only [Array.size_append,List.size_toArray,size_zeroCells,hzs,hlr,hl,← Nat.add_mul]
   congr 1
   omega
  ·simp only [Array.toList_append,List.append_assoc]
   rw [← List.append_assoc,show (rows.length+more.length)*i.size=(rows.flatten++more.flatten).length by rw [List.length_append,hlr,hl,Nat.add_mul]]
   exact List.take_left
 ·obtain ⟨v',w',g1,g2,g3,_,g5⟩:=run_append_own_at (P:=P) w 0 t ty e i z k bytes ht hi hz hsize hby hzs hsz v rows.length rows.flatten hown a more.length c more.flatten hl hnews h1 h63 hbytes (Nat.zero_le _)
  rcases hown.2 with ⟨rfl,h0⟩ | ⟨g,cap,cur,rfl,_,hg,hnc,hcm,hcs,htk⟩
  ·refine ⟨v',w',g1,hsl g2,g3,?_⟩
   rcases g5 with h5 | h5
   ·exact .inl h5
   ·exact .inr ⟨h5,g3⟩
  ·have hle:rows.length+more.length≤cap:=by
    by_cases c:rows.length+more.length≤cap
    ·exact c
    ·exact absurd ⟨g,cap,cur,rfl,hg,by omega,hcm⟩ hroom
   have hfit:rows.length*i.size+more.flatten.length≤cur.size:=by subst hsize;rw [hl,hcs,← Nat.add_mul];exact Nat.mul_le_mul_right _ hle
   have hr:=run_append_room (P:=P) w t ty e i ht hi g rows.length cap cur hg a more.length c more.flatten (by rw [hsize];exact hl) hnews h1 hle hfit
   rw [hr] at g1
   injection g1 with g1a g1b
   exact ⟨v',w',by rw [hr,g1a,g1b],hsl g2,g3,.inl (by rw [← g1a];rfl)⟩
end
def yI (f:Int→Value) (a:Int) (v:Value):Int→Value:=fun q=>if q=a then v else f q
def qgZ (f:Int→Nat) (a:Int) (v:Nat):Int→Nat:=fun q=>if q=a then v else f q
theorem qX (f:Int→Value) (a:Int) (v:Value):yI f a v a=v:=by simp [yI]
theorem qL {f:Int→Value} {a q:Int} {v:Value} (h:q≠a):yI f a v q=f q:=by simp [yI,h]
theorem qgY (f:Int→Nat) (a:Int) (v:Nat):qgZ f a v a=v:=by simp [qgZ]
theorem qgX {f:Int→Nat} {a q:Int} {v:Nat} (h:q≠a):qgZ f a v q=f q:=by simp [qgZ,h]
section
variable {α:Type}
def vu (ks:List Int) (a:Int):Option Unit:=if a∈ks then some () else none
def zZ (tl:List (Int×List α)) (a:Int):Option (List α):=(tl.find? fun p=>decide (p.1=a)).map (·.2)
def vt (tl:List (Int×List α)) (a:Int) (z:List α):List (Int×List α):=tl.map fun p=>if p.1=a then (a,z) else p
def tsAdd (ks:List Int) (tl:List (Int×List α)) (a:Int):Option (List Int×List (Int×List α)):=if a∈ks∨a∈tl.map (·.1) then none else some (ks++[a],tl++[(a,[])])
def qC (row:α→List Value) (tl:List (Int×List α)):List (Int×List (List Value)):=tl.map fun p=>(p.1,p.2.map row)
def tk (ks:List Int):List (Int×Option Int):=ks.map fun a=>(a,some a)
def VT (bs:Int→Nat):Option Int→Value
 | none=>.pointer none
 | some a=>pt (bs a) 0
def zv (bs:Int→Nat) (us:Int→Value) (e:TypeId) (ks:List Int):List Ob:=ks.map fun q=>⟨bs q,[.int .i64 q,us q],e⟩
theorem xU {ks:List Int} {a:Int} {x:Unit} (h:vu ks a=some x):a∈ks:=by
 unfold vu at h
 split at h
 ·assumption
 ·cases h
theorem jV {tl:List (Int×List α)} {a:Int} {x:List α} (h:zZ tl a=some x):(a,x)∈tl:=by
 unfold zZ at h
 cases hf:tl.find? (fun p=>decide (p.1=a)) with
 | none=>simp [hf] at h
 | some p =>
  simp only [hf,Option.map_some,Option.some.injEq] at h
  have h1:=List.mem_of_find?_eq_some hf
  have h2:p.1=a:=by simpa using List.find?_some hf
  rw [← h,← h2]
  exact h1
theorem qep {ks:List Int} {tl:List (Int×List α)} {a:Int} {z:List Int×List (Int×List α)} (h:tsAdd ks tl a=some z):a ∉ ks∧a ∉ tl.map (·.1)∧z=(ks++[a],tl++[(a,[])]):=by
 unfold tsAdd at h
 split at h
 ·cases h
 ·rename_i hc
  simp only [Option.some.injEq] at h
  exact ⟨fun c=>hc (.inl c),fun c=>hc (.inr c),h.symm⟩
theorem qgf (ks:List Int) (a:Int):ko (tk ks) a none=if a∈ks then some a else none:=by
 unfold ko tk
 rw [List.find?_map]
 have e1:((fun p:Int×Option Int=>decide (p.1=a)) ∘ fun q:Int=>(q,some q))=fun q=>decide (q=a):=rfl
 rw [e1]
 cases hf:ks.find? (fun q=>decide (q=a)) with
 | none =>
  have:=List.find?_eq_none.1 hf
  rw [if_neg fun hm=>by simpa using this a hm]
  rfl
 | some q =>
  have h1:=List.mem_of_find?_eq_some hf
  have h2:q=a:=by simpa using List.find?_some hf
  rw [if_pos (h2 ▸ h1),h2]
  rfl
end
section
variable {v v' u:Value} {e e2:TypeId} {k:Nat} {rows rows' more:List (List Value)} {w0 w w':World} {own:List Nat} {m:List As} {i b mb:Nat}
variable {F F':List Nat} {us:Int→Value} {tl:List (Int×List (List Value))} {V:List Sd} {bs:Int→Nat} {ks:List Int} {a:Int} {x:List (List Value)}
theorem qcR {β:Type}:∀ {tl:List (Int×β)},(tl.map (·.1)).Nodup→∀ p∈tl,∀ q∈tl,p.1=q.1→p=q
 | [],_,p,hp,_,_,_=>by cases hp
 | c :: l,hn,p,hp,q,hq,hpq=>by
  rw [List.map_cons,List.nodup_cons] at hn
  rcases List.mem_cons.1 hp with rfl | hp' <;> rcases List.mem_cons.1 hq with rfl | hq'
  ·rfl
  ·exact absurd (List.mem_map.2 ⟨q,hq',hpq.symm⟩) hn.1
  ·exact absurd (List.mem_map.2 ⟨p,hp',hpq⟩) hn.1
  ·exact qcR hn.2 p hp' q hq' hpq
theorem yB {β:Type} (tl:List (Int×β)) (a:Int) (z:β):(tl.map fun p=>if p.1=a then (a,z) else p).map (·.1)=tl.map (·.1):=by
 rw [List.map_map]
 refine List.map_congr_left fun p _=>?_
 simp only [Function.comp]
 split
 ·rename_i h;exact h.symm
 ·rfl
theorem slHolds.slice {g:Nat} (h:slHolds w v e k rows) (hb:v.ownBlock=some g):∃ c,v=.slice (some ⟨g,0,none⟩) rows.length c∧∃ cur,w.heap[g]?=some (.cells cur e (0,0)):=by
 rcases h.2.2 with ⟨rfl,_⟩ | ⟨g',cap,cur,rfl,_,hh,_⟩
 ·cases hb
 ·simp only [Value.ownBlock,Option.some.injEq] at hb
  subst hb
  exact ⟨cap,rfl,cur,hh⟩
theorem TsH.put (h:TsH F us e k tl V w) (hn:F.Nodup) (hx:(a,x)∈tl) (hu:slHolds w' v' e k (x++more)) (hg:w.grownBy w' (us a).ownBlock) (hb:v'.ownBlock=(us a).ownBlock∨(v'.ownBlock=some w.heap.size∧w.grownBy w' none)) :
  ∃ F',F'.Nodup∧(∀ b∈F',b∈F∨w.heap.size≤b)∧TsH F' (yI us a v') e k (tl.map fun p=>if p.1=a then (a,x++more) else p) V w':=by
 have hlt:∀ b∈F,b < w.heap.size:=fun b hb=>by
  obtain ⟨cur,e',hh⟩:=h.bl b hb
  exact (Array.getElem?_eq_some_iff.1 hh).1
 have hold:∀ p∈tl,p.1≠a→slHolds w' (us p.1) e k p.2:=by
  intro p hp hpa
  refine xl (h.sl p hp) fun b hbo=>?_
  have hbo':(us p.1).ownBlock=some b:=by simpa using hbo
  exact hg.block b (hlt b (h.inF p hp b hbo')) fun e=>h.apart p hp (a,x) hx hpa b hbo' e.symm
 have hkeys:∀ p∈(tl.map fun p=>if p.1=a then (a,x++more) else p),(p=(a,x++more))∨(p∈tl∧p.1≠a):=by
  intro p hp
  obtain ⟨q,hq,rfl⟩:=List.mem_map.1 hp
  by_cases c:q.1=a
  ·simp [c]
  ·simp [c,hq]
 have hsl:∀ p∈(tl.map fun p=>if p.1=a then (a,x++more) else p),slHolds w' (yI us a v' p.1) e k p.2:=by
  intro p hp
  rcases hkeys p hp with rfl | ⟨h1,h2⟩
  ·rw [qX];exact hu
  ·rw [qL h2];exact hold p h1 h2
 rcases hb with hb | ⟨hb,hg'⟩
 ·refine ⟨F,hn,fun b hb=>.inl hb,⟨fun b hbF=>?_,hsl,fun p hp b hpb=>?_,by rw [yB];exact h.kn,fun p hp q hq hpq b hpb hqb=>?_,fun d hd=>?_,fun d hd=>?_⟩⟩
  ·by_cases c:some b=(us a).ownBlock
   ·obtain ⟨c',_,cur,hh⟩:=hu.slice (g:=b) (by rw [hb,← c])
    exact ⟨cur,e,hh⟩
   ·rw [hg.block b (hlt b hbF) c];exact h.bl b hbF
  ·rcases hkeys p hp with rfl | ⟨h1,h2⟩
   ·rw [qX,hb] at hpb;exact h.inF (a,x) hx b hpb
   ·rw [qL h2] at hpb;exact h.inF p h1 b hpb
  ·rcases hkeys p hp with rfl | ⟨h1,h2⟩ <;> rcases hkeys q hq with rfl | ⟨h3,h4⟩
   ·exact hpq rfl
   ·rw [qX,hb] at hpb;rw [qL h4] at hqb;exact h.apart (a,x) hx q h3 hpq b hpb hqb
   ·rw [qL h2] at hpb;rw [qX,hb] at hqb;exact h.apart p h1 (a,x) hx hpq b hpb hqb
   ·rw [qL h2] at hpb;rw [qL h4] at hqb;exact h.apart p h1 q h3 hpq b hpb hqb
  ·have hd0:=h.vw d hd
   rcases h.vb d hd with ⟨h1,h2⟩ | ⟨g,n,c,h1,hgF,hdk,hpre⟩
   ·rw [h1] at hd0 ⊢;exact hd0.nilv
   ·rw [h1] at hd0 ⊢
    by_cases hc:some g=(us a).ownBlock
    ·obtain ⟨c',hv',_⟩:=hu.slice (g:=g) (by rw [hb,← hc])
     have h5:=hu.at
     rw [hv'] at h5
     rw [hdk] at hd0 ⊢
     exact h5.prefix hd0 ((hpre (a,x) hx hc.symm).trans (List.prefix_append ..))
    ·exact hd0.block (hg.block g (hlt g hgF) hc)
  ·rcases h.vb d hd with h1 | ⟨g,n,c,h1,hgF,hdk,hpre⟩
   ·exact .inl h1
   ·refine .inr ⟨g,n,c,h1,hgF,hdk,fun p hp hpg=>?_⟩
    rcases hkeys p hp with rfl | ⟨h3,h4⟩
    ·rw [qX,hb] at hpg;exact (hpre (a,x) hx hpg).trans (List.prefix_append ..)
    ·rw [qL h4] at hpg;exact hpre p h3 hpg
 ·have hnew:w.heap.size ∉ F:=fun hc=>Nat.lt_irrefl _ (hlt _ hc)
  have hst:∀ b∈F,w'.heap[b]?=w.heap[b]?:=fun b hbF=>hg'.block b (hlt b hbF) (by simp)
  refine ⟨w.heap.size :: F,List.nodup_cons.2 ⟨hnew,hn⟩,fun b hb=>?_,⟨fun b hbF=>?_,hsl,fun p hp b hpb=>?_,by rw [yB];exact h.kn,fun p hp q hq hpq b hpb hqb=>?_,fun d hd=>?_,fun d hd=>?_⟩⟩
  ·rcases List.mem_cons.1 hb with rfl | hb
   ·exact .inr (Nat.le_refl _)
   ·exact .inl hb
  ·rcases List.mem_cons.1 hbF with rfl | hbF
   ·obtain ⟨c',_,cur,hh⟩:=hu.slice hb
    exact ⟨cur,e,hh⟩
   ·rw [hst b hbF];exact h.bl b hbF
  ·rcases hkeys p hp with rfl | ⟨h1,h2⟩
   ·rw [qX,hb] at hpb
    injection hpb with hpb
    exact hpb ▸ List.mem_cons_self
   ·rw [qL h2] at hpb;exact List.mem_cons_of_mem _ (h.inF p h1 b hpb)
  ·rcases hkeys p hp with rfl | ⟨h1,h2⟩ <;> rcases hkeys q hq with rfl | ⟨h3,h4⟩
   ·exact hpq rfl
   ·rw [qX,hb] at hpb;rw [qL h4] at hqb
    injection hpb with hpb
    exact hnew (hpb ▸ h.inF q h3 b hqb)
   ·rw [qL h2] at hpb;rw [qX,hb] at hqb
    injection hqb with hqb
    exact hnew (hqb ▸ h.inF p h1 b hpb)
   ·rw [qL h2] at hpb;rw [qL h4] at hqb;exact h.apart p h1 q h3 hpq b hpb hqb
  ·have hd0:=h.vw d hd
   rcases h.vb d hd with ⟨h1,h2⟩ | ⟨g,n,c,h1,hgF,hdk,hpre⟩
   ·rw [h1] at hd0 ⊢;exact hd0.nilv
   ·rw [h1] at hd0 ⊢;exact hd0.block (hst g hgF)
  ·rcases h.vb d hd with h1 | ⟨g,n,c,h1,hgF,hdk,hpre⟩
   ·exact .inl h1
   ·refine .inr ⟨g,n,c,h1,List.mem_cons_of_mem _ hgF,hdk,fun p hp hpg=>?_⟩
    rcases hkeys p hp with rfl | ⟨h3,h4⟩
    ·rw [qX,hb] at hpg
     injection hpg with hpg
     exact absurd (hpg ▸ hgF) hnew
    ·rw [qL h4] at hpg;exact hpre p h3 hpg
theorem TsH.add (h:TsH F us e k tl V w) (ha:a ∉ tl.map (·.1)):TsH F (yI us a xn) e k (tl++[(a,[])]) V w:=by
 have hne:∀ p∈tl,p.1≠a:=fun p hp c=>ha (List.mem_map.2 ⟨p,hp,c⟩)
 have hk:∀ p∈tl++[(a,([]:List (List Value)))],p=(a,[])∨p∈tl∧p.1≠a:=by
  intro p hp
  rcases List.mem_append.1 hp with h1 | h1
  ·exact .inr ⟨h1,hne p h1⟩
  ·exact .inl (by simpa using h1)
 refine ⟨h.bl,fun p hp=>?_,fun p hp b hpb=>?_,?_,fun p hp q hq hpq b hpb hqb=>?_,h.vw,fun d hd=>?_⟩
 ·rcases hk p hp with rfl | ⟨h1,h2⟩
  ·rw [qX];exact zO w e k
  ·rw [qL h2];exact h.sl p h1
 ·rcases hk p hp with rfl | ⟨h1,h2⟩
  ·rw [qX] at hpb;cases hpb
  ·rw [qL h2] at hpb;exact h.inF p h1 b hpb
 ·rw [List.map_append,List.map_cons,List.map_nil,List.nodup_append]
  exact ⟨h.kn,by simp,fun x hx y hy hxy=>by
   simp only [List.mem_singleton] at hy
   subst hy;subst hxy
   exact ha hx⟩
 ·rcases hk p hp with rfl | ⟨h1,h2⟩
  ·rw [qX] at hpb;cases hpb
  ·rcases hk q hq with rfl | ⟨h3,h4⟩
   ·rw [qX] at hqb;cases hqb
   ·rw [qL h2] at hpb;rw [qL h4] at hqb;exact h.apart p h1 q h3 hpq b hpb hqb
 ·rcases h.vb d hd with h1 | ⟨g,n,c,h1,hgF,hdk,hpre⟩
  ·exact .inl h1
  ·refine .inr ⟨g,n,c,h1,hgF,hdk,fun p hp hpg=>?_⟩
   rcases hk p hp with rfl | ⟨h3,h4⟩
   ·rw [qX] at hpg;cases hpg
   ·rw [qL h4] at hpg;exact hpre p h3 hpg
theorem TsH.view (h:TsH F us e k tl V w) (hx:(a,x)∈tl) (e':TypeId):TsH F us e k tl (V++[⟨us a,e',k,x⟩]) w:=by
 have hs:=h.sl (a,x) hx
 refine ⟨h.bl,h.sl,h.inF,h.kn,h.apart,fun d hd=>?_,fun d hd=>?_⟩
 ·rcases List.mem_append.1 hd with h1 | h1
  ·exact h.vw d h1
  ·simp only [List.mem_singleton] at h1
   subst h1
   exact hs.at
 ·rcases List.mem_append.1 hd with h1 | h1
  ·exact h.vb d h1
  ·simp only [List.mem_singleton] at h1
   subst h1
   cases ho:(us a).ownBlock with
   | none =>
    rcases hs.2.2 with ⟨h2,h3⟩ | ⟨g',cap,cur,h2,_⟩
    ·exact .inl ⟨h2,List.length_eq_zero_iff.1 h3⟩
    ·simp only at h2
     rw [h2] at ho;cases ho
   | some g =>
    obtain ⟨c,h2,_⟩:=hs.slice ho
    refine .inr ⟨g,_,c,h2,h.inF (a,x) hx g ho,rfl,fun p hp hpg=>?_⟩
    by_cases hpa:p.1=a
    ·rw [qcR h.kn p hp (a,x) hx hpa]
     exact List.prefix_refl _
    ·exact absurd ho (h.apart p hp (a,x) hx hpa g hpg)
theorem Cls.tsFrz0 {c:List Ob} (hw:Cls w0 own (.any (zA F us e k tl V) :: .os c :: m) w):∃ c',Mo c c'∧(∀ K,FzA K c' V)∧Cls w0 own (.os c' :: m) w:=by
 have hx:TsH F us e k tl V w:=(hw.mine (.any (zA F us e k tl V)) (by simp)).1
 have ho:=(hw.mine (.os c) (by simp)).1
 have key:∀ F:List Nat,(∀ b∈F,∃ cur e',w.heap[b]?=some (.cells cur e' (0,0)))→∃ L:List Ob,L.map Ob.b=F∧∀ o∈L,w.heap[o.b]?=some (.cells o.c.toArray o.e (0,0)):=by
  intro F
  induction F with
  | nil=>intro _;exact ⟨[],rfl,fun o ho=>by cases ho⟩
  | cons b F ih =>
   intro h
   obtain ⟨L,h1,h2⟩:=ih fun b hb=>h b (List.mem_cons_of_mem _ hb)
   obtain ⟨cur,e',hh⟩:=h b List.mem_cons_self
   refine ⟨⟨b,cur.toList,e'⟩ :: L,by simp [h1],fun o ho=>?_⟩
   rcases List.mem_cons.1 ho with rfl | ho
   ·exact hh
   ·exact h2 o ho
 obtain ⟨L,h1,h2⟩:=key F hx.bl
 refine ⟨L++c,Mo.app1,fun K d hd w' _ hc=>?_,?_⟩
 ·have hd0:=hx.vw d hd
  rcases hx.vb d hd with ⟨h3,h4⟩ | ⟨g,n,cc,h3,hgF,_⟩
  ·rw [h3] at hd0 ⊢;exact hd0.nilv
  ·rw [h3] at hd0 ⊢
   refine hd0.block ?_
   rw [← h1] at hgF
   obtain ⟨o,ho1,rfl⟩:=List.mem_map.1 hgF
   rw [hc o (List.mem_append_left _ ho1),h2 o ho1]
 ·refine hw.rePerm ?_ fun z hz=>?_
  ·have e1:(As.os (L++c)).foot=F++c.map Ob.b:=by simp only [As.foot,List.map_append,h1]
   simp only [List.flatMap_cons,e1,List.append_assoc]
   exact List.Perm.refl _
  ·rcases List.mem_cons.1 hz with rfl | hz
   ·intro o ho'
    rcases List.mem_append.1 ho' with h5 | h5
    ·exact h2 o h5
    ·exact ho o h5
   ·exact (hw.mine z (by simp [hz])).1
theorem Cls.tsFrz {c:List Ob} (hw:Cls w0 own m w) (hi:m[i]?=some (.any (zA F us e k tl V))) (hl:m.getLast?=some (.os c)) (hn:Nat.blt (i+1) m.length=true) :
  ∃ c',Mo c c'∧(∀ K,FzA K c' V)∧Cls w0 own ((m.eraseIdx i).dropLast++[.os c']) w:=by
 obtain ⟨c',h1,h2,h3⟩:=(hw.perm (vd hi hl hn).1.symm).tsFrz0
 exact ⟨c',h1,h2,h3.perm List.perm_append_comm⟩
theorem Cls.tsNew (hw:Cls w0 own m w) (us:Int→Value) (e:TypeId) (k:Nat):Cls w0 own (.any (zA [] us e k [] []) :: m) w:=by
 refine hw.rePerm (by simp [As.foot,zA]) fun z hz=>?_
 rcases List.mem_cons.1 hz with rfl | hz
 ·exact show TsH [] us e k [] [] w from ⟨(fun b hb=>nomatch hb),(fun p hp=>nomatch hp),(fun p hp=>nomatch hp),by simp,(fun p hp=>nomatch hp),(fun d hd=>nomatch hd),(fun d hd=>nomatch hd)⟩
 ·exact (hw.mine z hz).1
theorem Cls.anyTo {z z':Res} (hw:Cls w0 own m w) (hm:m[i]?=some (.any z)) (hf:z'.foot=z.foot) (hy:z'.holds w):Cls w0 own (m.set i (.any z')) w :=
 hw.turn hm hf rfl rfl rfl rfl (Nat.le_refl _) (fun _ _=>rfl) hy
end
section
variable {P:Program} {Q:Exit→Act→World→Prop} {n:Nat} {fs:Fr} {t:TypeId} {ops:Array Oper} {rest:List Oper} {d:Nat} {pos:String} {af:Array Edge} {C:World→Prop}
variable {w0:World} {own:List Nat} {m:List As} {xo yo zo':Operand} {i j q b mb k by' kk:Nat} {v u:Value} {e e2 e3 e' tx ty te kt et:TypeId}
variable {α β ρ:Type} {r:ρ} {row:α→List Value} {F:List Nat} {us:Int→Value} {bs:Int→Nat} {ks:List Int} {tl:List (Int×List α)} {V:List Sd} {a:Int} {x more:List α}
theorem L.tsNew {ll:List Oper} (row:α→List Value) (us:Int→Value) (bs:Int→Nat) (e e2:TypeId) (k:Nat) (h:L P ops Q n (Cls w0 own (.any (zA [] us e k (qC row []) []) :: .os (zv bs us e2 []) :: m)) ll fs):L P ops Q n (Cls w0 own m) ll fs :=
 fun ac w hs hw=>h ac w hs (hw.os0.tsNew us e k)
theorem Y.eqlVT {o:Option Int} (hu:P.underlying tx=some (.pointer e)) (hx:val fs xo=some (VT bs o)) (hy:val fs yo=some (.pointer none)):Y P (.binOp .eql tx xo yo ty) t n fs C (.bool o.isNone):=by
 cases o with
 | none=>exact Y.eqlP (p:=none) hu hx hy
 | some a=>exact Y.eqlP (p:=some ⟨bs a,0,none⟩) hu hx hy
theorem qfz (ha:a∈ks):(⟨bs a,[.int .i64 a,us a],e2⟩:Ob)∈zv bs us e2 ks:=List.mem_map.2 ⟨a,ha,rfl⟩
theorem wI {w:World} (hw:Cls w0 own m w) (hm:m[q]?=some (.os (zv bs us e2 ks))) (ha:a∈ks) {jj:Nat} {pv:Value} (hp:([.int .i64 a,us a]:List Value)[jj]?=some pv):w.cell? ⟨bs a,jj,none⟩=some pv:=by
 obtain ⟨i0,hi⟩:=List.getElem?_of_mem (qfz (bs:=bs) (us:=us) (e2:=e2) ha)
 exact hw.obCell hm hi hp
theorem Y.tsLook {q0:As} (hu:P.underlying tx=some (.map kt et)) (hk:P.underlying kt=some (.int .i64)) (hz:((P.info? et).bind fun i=>i.zero)=some (.pointer none)) (hx:val fs xo=some (.map (some mb))) (hy:val fs yo=some (.int .i64 a)) (hm:m[i]?=some q0) (hq:qmx q0=some (mb,km (VT bs) (tk ks))) (z:Unit) (h:vu ks a=some z) :
  Y P (.lookup tx xo yo false) t n fs (Cls w0 own m) (pt (bs a) 0):=by
 have:=Y.lookupM (dR:=dR) (t:=t) (n:=n) (w0:=w0) (own:=own) (z0:=none) (g:=VT bs) hu hk hz hx hy hm hq
 rw [qgf,if_pos (xU h)] at this
 exact this
theorem Y.tsLoad (ha:qM P te false=true) (hx:val fs xo=some (pt (bs a) (0+1))) (hm:m[q]?=some (.os (zv bs us e2 ks))) {z:Unit} (h:vu ks a=some z):Y P (.load te xo) t n fs (Cls w0 own m) (us a) :=
 Y.load1 ha hx fun _ hw=>wI hw hm (xU h) rfl
theorem Y.tsLoadW (ha:qM P te true=true) (hs:szB P te 2=true) (hx:val fs xo=some (pt (bs a) 0)) (hm:m[q]?=some (.os (zv bs us e2 ks))) {z:Unit} (h:vu ks a=some z):Y P (.load te xo) t n fs (Cls w0 own m) (.agg #[.int .i64 a,us a]) :=
 Y.loadN (vs:=[.int .i64 a,us a]) ha hs hx rfl fun _ hw i u hu=>by rw [Addr.add_lit,Nat.zero_add];exact wI hw hm (xU h) hu
theorem qpp {w:World} (hw:Cls w0 own m w) (hm:m[i]?=some (.any (zA F us e k (qC row tl) V))) (h:zZ tl a=some x):At w (us a) k (x.map row):=by
 have h1:TsH F us e k (qC row tl) V w:=hw.get hm
 exact (h1.sl (a,x.map row) (List.mem_map.2 ⟨(a,x),jV h,rfl⟩)).at
theorem qfA {vv:Value} (ha:a ∉ ks):zv (qgZ bs a b) (yI us a vv) e2 (ks++[a])=zv bs us e2 ks++[⟨b,[.int .i64 a,vv],e2⟩]:=by
 unfold zv
 rw [List.map_append,List.map_cons,List.map_nil,qgY,qX]
 congr 1
 refine List.map_congr_left fun p hp=>?_
 have:p≠a:=fun c=>ha (c ▸ hp)
 rw [qgX this,qL this]
theorem qiB (ha:a ∉ ks):qaS (km (VT bs) (tk ks)) a (pt b 0)=km (VT (qgZ bs a b)) (tk (ks++[a])):=by
 have h1:qge (km (VT bs) (tk ks)) a=false:=by
  rw [qaT]
  cases hc:qge (tk ks) a with
  | false=>rfl
  | true =>
   obtain ⟨p,hp,hpa⟩:=jG.1 hc
   obtain ⟨q,hq,rfl⟩:=List.mem_map.1 hp
   exact absurd (hpa ▸ hq) ha
 unfold qaS
 rw [h1,if_neg (by simp)]
 unfold km tk
 rw [List.map_append,List.map_append,List.map_map,List.map_map]
 congr 1
 ·refine List.map_congr_left fun p hp=>?_
  have:p≠a:=fun c=>ha (c ▸ hp)
  simp only [Function.comp,VT,qgX this]
 ·simp [VT,qgY]
theorem L.tsAdd {f:List Int→List (Int×List α)→Option ρ} (h:qB (tsAdd ks tl a) f=some r) (hu:P.underlying tx=some (.map kt et)) (hk:P.underlying kt=some (.int .i64)) (hx:val fs xo=some (.map (some mb))) (hy:val fs yo=some (.int .i64 a)) (hz:val fs zo'=some (pt b 0))
  (next:∀ ks' tl' bs' us',tsAdd ks tl a=some (ks',tl')→f ks' tl'=some r→L P ops Q n (Cls w0 own (.mp mb (km (VT bs') (tk ks')) :: .os (zv bs' us' e2 ks') :: .any (zA F us' e k (qC row tl') V) :: m)) rest fs) :
  L P ops Q n (Cls w0 own (.obj b [.int .i64 a,.slice none 0 0] e2 :: .mp mb (km (VT bs) (tk ks)) :: .os (zv bs us e2 ks) :: .any (zA F us e k (qC row tl) V) :: m)) (⟨none,.mapUpdate tx xo yo zo',t,pos,af,none⟩ :: rest) fs:=by
 obtain ⟨ks',tl',hz',h⟩:=qt h
 obtain ⟨h1,h2,h3⟩:=qep hz'
 simp only [Prod.mk.injEq] at h3
 obtain ⟨rfl,rfl⟩:=h3
 refine L.mapSet0 (i:=1) hu hk hx hy hz rfl ?_
 refine L.to (fun w hw=>?_) (next _ _ (qgZ bs a b) (yI us a xn) hz' h)
 rw [qiB h1] at hw
 have h5:Cls w0 own (.os (zv bs us e2 ks) :: .obj b [.int .i64 a,.slice none 0 0] e2 :: .mp mb (km (VT (qgZ bs a b)) (tk (ks++[a]))) :: .any (zA F us e k (qC row tl) V) :: m) w:=hw.perm (by
  show List.Perm _ (As.obj b [.int .i64 a,.slice none 0 0] e2 :: As.mp mb (km (VT (qgZ bs a b)) (tk (ks++[a]))) :: As.os (zv bs us e2 ks) :: As.any (zA F us e k (qC row tl) V) :: m)
  exact (List.Perm.swap ..).trans (List.Perm.cons _ (List.Perm.swap ..)))
 have h6:=h5.osJoin
 rw [← qfA (us:=us) (bs:=bs) (vv:=.slice none 0 0) h1] at h6
 have h7:=h6.perm (List.Perm.swap ..) (m':=.mp mb (km (VT (qgZ bs a b)) (tk (ks++[a]))) :: .os (zv (qgZ bs a b) (yI us a xn) e2 (ks++[a])) :: .any (zA F us e k (qC row tl) V) :: m)
 have h8:TsH F us e k (qC row tl) V w:=h7.get (i:=2) rfl
 have h9:=h8.add (a:=a) (by unfold qC;rw [List.map_map];exact h2)
 have e1:qC row (tl++[(a,[])])=qC row tl++[(a,[])]:=by simp [qC]
 rw [e1]
 exact h7.anyTo (i:=2) (z':=zA F (yI us a xn) e k (qC row tl++[(a,[])]) V) rfl rfl h9
theorem L.tsApp {f:List α→Option ρ} (h:qb (app x more) f=some r) (hgx:zZ tl a=some x) (hd:Nat.blt d n=true) (hu:P.underlying tx=some (.slice e)) (he:ze P e k by'=true) (hx:val fs xo=some (us a)) (hy:val fs yo=some u)
  (hm:m[i]?=some (.any (zA F us e k (qC row tl) V))) (hB:∀ w,Cls w0 own m w→At w u k (more.map row)) (hp:Plain (more.map row)) (hb:Nat.ble by' 56=true)
  (next:∀ v' F' z,app x more=some z→f z=some r→L P ops Q n (Cls w0 own (.any (zA F' (yI us a v') e k (qC row (vt tl a z)) V) :: m.eraseIdx i)) rest ((d,v') :: fs)) :
  L P ops Q n (Cls w0 own m) (⟨some d,.call ⟨.builtin .append,#[xo,yo],#[tx,tx]⟩,t,pos,af,none⟩ :: rest) fs:=by
 obtain ⟨z,hz,h⟩:=qc h
 obtain ⟨rfl,hl⟩:=yO hz
 have hb':by'≤56:=by simpa using hb
 have hl1:(x.map row).length+(more.map row).length≤maxLen:=by simp only [List.length_map];unfold maxLen;omega
 have hl2:((x.map row).length+(more.map row).length)*by'≤140737488355328:=by
  simp only [List.length_map]
  calc (x.length+more.length)*by'≤2513169434916*56:=Nat.mul_le_mul hl hb'
   _≤_:=by decide
 refine L.runs (R:=fun v' w'=>∃ F',Cls w0 own (.any (zA F' (yI us a v') e k (qC row (vt tl a (x++more))) V) :: m.eraseIdx i) w') hd (fun ac w hs hw=>?_) (fun v'=>?_)
 ·obtain ⟨inf,z0,hi,hz0,hsz,hby,hzs,hk⟩:=xf he
  have hts:TsH F us e k (qC row tl) V w:=hw.get hm
  have hmem:(a,x.map row)∈qC row tl:=List.mem_map.2 ⟨(a,x),jV hgx,rfl⟩
  have hown:=hts.sl _ hmem
  have hBw:=hB w hw
  have key:∃ v' w',(Builtin.append_ #[tx,tx] t #[us a,u]).run P w=.ok v' w'∧slHolds w' v' e k (x.map row++more.map row)∧w.grownBy w' (us a).ownBlock∧(v'.ownBlock=(us a).ownBlock∨(v'.ownBlock=some w.heap.size∧w.grownBy w' none)):=by
   rcases hBw.shape with ⟨rfl,h0⟩ | ⟨ad,cap,rfl,_,_⟩
   ·refine ⟨us a,w,zU 0 tx t e k hu (by simp [szB,hi,hsz]) hown.2,by rw [h0,List.append_nil];exact hown,⟨rfl,rfl,rfl,Nat.le_refl _,fun _ _ _=>rfl⟩,.inl rfl⟩
   ·exact vD (P:=P) hu hi hz0 hsz hby hzs hk hown ad cap hBw.len (by simpa [adr] using hBw.flat_cell hk)
     (fun u' hu'=>by obtain ⟨r,hr,hur⟩:=List.mem_flatten.1 hu';exact hp r hr u' hur) hl1 hl2
  obtain ⟨v',w',g1,g2,g3,g4⟩:=key
  refine ⟨v',w',?_,?_⟩
  ·simp only [execOp,resolve,List.map_toArray,List.map_cons,List.map_nil,hs.eval hx,hs.eval hy]
   simp [invoke,builtin,g1]
  ·have hn:F.Nodup:=jb hw.nodup (List.mem_of_getElem? hm)
   obtain ⟨F',hn',hF',hts'⟩:=hts.put hn hmem g2 g3 g4
   refine ⟨F',?_⟩
   have e1:qC row (vt tl a (x++more))=(qC row tl).map fun p=>if p.1=a then (a,x.map row++more.map row) else p:=by
    unfold qC vt
    rw [List.map_map,List.map_map]
    refine List.map_congr_left fun p _=>?_
    simp only [Function.comp]
    by_cases c:p.1=a <;> simp [c]
   rw [e1]
   obtain ⟨hil,hie⟩:=List.getElem?_eq_some_iff.1 hm
   have hp2:m.Perm (.any (zA F us e k (qC row tl) V) :: m.eraseIdx i):=by
    have:=vH m i hil
    rwa [hie] at this
   refine (hw.perm hp2.symm).anyGrew (z':=zA F' (yI us a v') e k _ V) (qaL _ g1) (us a).ownBlock g3 (fun b hb=>hts.inF _ hmem b hb) hF' hn' hts'
 ·refine L.ex fun F'=>?_
  exact next v' F' _ hz h
theorem qaC {x z:List α} (h:zZ tl a=some x):zZ (vt tl a z) a=some z:=by
 unfold zZ vt at *
 induction tl with
 | nil=>simp at h
 | cons p l ih =>
  rw [List.map_cons]
  by_cases c:p.1=a
  ·simp [c]
  ·simp only [List.find?_cons,c,if_false,decide_false] at h ⊢
   exact ih h
theorem L.tsStore {x:List α} {us':Int→Value} (hs:szB P te 1=true) (hx:val fs xo=some (pt (bs a) (0+1))) (hy:val fs yo=some v) (hm:m[q]?=some (.os (zv bs us e2 ks))) (hm2:m[i]?=some (.any (zA F (yI us' a v) e k (qC row tl) V))) {z:Unit} (hk:vu ks a=some z) (hg:zZ tl a=some x)
  (next:L P ops Q n (Cls w0 own (m.set q (.os (zv bs (yI us a v) e2 ks)))) rest fs):L P ops Q n (Cls w0 own m) (⟨none,.store te xo yo,t,pos,af,none⟩ :: rest) fs:=by
 refine L.runsNone (D:=Cls w0 own (m.set q (.os (zv bs (yI us a v) e2 ks)))) (fun ac w hs' hw=>?_) next
 have hat:=qpp hw hm2 hg
 rw [qX] at hat
 have h1:v.oneCell'=true:=hat.one
 have hu:v.cells=#[v]:=At.cells1 hat
 have hmem:=xU hk
 obtain ⟨i0,hi0⟩:=List.getElem?_of_mem hmem
 have h0:(zv bs us e2 ks)[i0]?=some ⟨bs a,[.int .i64 a,us a],e2⟩:=by unfold zv;rw [List.getElem?_map,hi0];rfl
 have hh:(As.os (zv bs us e2 ks)).holds w:=hw.get hm
 have hb:=hh _ (List.mem_of_getElem? h0)
 obtain ⟨w',h2,h3,h4⟩:=qQ (P:=P) (bs a) e2 1 [v] 0 [.int .i64 a,us a] w hb (by simp) (by simpa using h1)
 refine ⟨w',?_,?_⟩
 ·simp only [execOp,hs'.eval hx,hs'.eval hy]
  simp [Instr.storeAt,Instr.sureAddr,pt,storeVar,qn hs,hu,h2]
 ·have h5:=hw.osPut hm h0 h4 h3
  have hnd:((zv bs us e2 ks).map Ob.b).Nodup:=jb hw.nodup (List.mem_of_getElem? hm)
  have hkn:ks.Nodup:=by
   unfold zv at hnd
   rw [List.map_map] at hnd
   exact List.Pairwise.of_map _ (fun a b hab=>fun c=>hab (by rw [c])) hnd
  have e1:(zv bs us e2 ks).set i0 ⟨bs a,over [.int .i64 a,us a] (1+0) [v],e2⟩=zv bs (yI us a v) e2 ks:=by
   apply List.ext_getElem?
   intro j
   rw [List.getElem?_set]
   unfold zv
   simp only [List.getElem?_map,List.length_map]
   by_cases c:i0=j
   ·subst c
    have hlt:=(List.getElem?_eq_some_iff.1 hi0).1
    rw [if_pos rfl,if_pos hlt,hi0]
    simp [over,qX]
   ·rw [if_neg c]
    cases hj:ks[j]? with
    | none=>rfl
    | some p =>
     have hpa:p≠a:=by
      rintro rfl
      obtain ⟨l1,e1⟩:=List.getElem?_eq_some_iff.1 hi0
      obtain ⟨l2,e2⟩:=List.getElem?_eq_some_iff.1 hj
      exact c ((List.getElem_inj (h₀:=l1) (h₁:=l2) hkn).1 (by rw [e1,e2]))
     simp [qL hpa]
  rw [e1] at h5
  exact h5
theorem L.tsOut {f:List β→Option ρ} {rw':β→List Value→List Value} {sds:β→List Value→List Sd} {gh:Nat→List Value} {l:List β} {y1:β} (h:qb (app l [y1]) f=some r) (hgx:zZ tl a=some x) (hd:Nat.blt d n=true) (hu:P.underlying tx=some (.slice e3)) (he:ze P e3 kk by'=true) (hx:val fs xo=some v) (hy:val fs yo=some u)
  (hv:m[i]?=some (.sl v e3 kk (zr rw' gh l))) (hlit:m[j]?=some (.sl u e3 kk [rw' y1 [us a]])) (hm:m[q]?=some (.any (zA F us e k (qC row tl) (zs sds gh l)))) (hiq:i≠q) (hjq:j≠q) (hs:sds y1 [us a]=[⟨us a,e',k,x.map row⟩]) (hone:(us a).oneCell'=true→∀ u∈rw' y1 [us a],u.oneCell'=true) (hb:Nat.ble by' 56=true)
  (next:∀ v' gh' z,app l [y1]=some z→f z=some r→L P ops Q n (Cls w0 own (.sl v' e3 kk (zr rw' gh' z) :: (m.set q (.any (zA F us e k (qC row tl) (zs sds gh' z)))).eraseIdx i)) rest ((d,v') :: fs)) :
  L P ops Q n (Cls w0 own m) (⟨some d,.call ⟨.builtin .append,#[xo,yo],#[tx,tx]⟩,t,pos,af,none⟩ :: rest) fs:=by
 obtain ⟨z,hz,h⟩:=qc h
 obtain ⟨rfl,hl⟩:=yO hz
 have hb':by'≤56:=by simpa using hb
 have hz2:=qjv rw' gh (fun _=>[us a]) l [y1]
 have hs2:=qju sds gh (fun _=>[us a]) l [y1]
 have e1:zr rw' (fun _=>[us a]) [y1]=[rw' y1 [us a]]:=rfl
 have e2:zs sds (fun _=>[us a]) [y1]=[⟨us a,e',k,x.map row⟩]:=by simp only [zs,hs,List.append_nil]
 rw [e1] at hz2
 rw [e2] at hs2
 intro ac w hsl hw
 have hts:TsH F us e k (qC row tl) (zs sds gh l) w:=hw.get hm
 have hmem:(a,x.map row)∈qC row tl:=List.mem_map.2 ⟨(a,x),jV hgx,rfl⟩
 have h1:=hw.anyTo (z':=zA F us e k (qC row tl) (zs sds (qeF gh (fun _=>[us a]) l.length) (l++[y1]))) hm rfl (by rw [hs2];exact hts.view hmem e')
 have hoc:=((hts.sl _ hmem).at).one
 refine L.append (i:=i) (m:=m.set q (.any (zA F us e k (qC row tl) (zs sds (qeF gh (fun _=>[us a]) l.length) (l++[y1]))))) (more:=[rw' y1 [us a]]) hd hu he hx hy (by rw [List.getElem?_set_ne hiq.symm];exact hv) (fun w' hw'=>As.at_ (e:=e3) (hw'.get (i:=j) (by rw [List.getElem?_set_ne hjq.symm];exact hlit))) ?_ ?_ ?_ (fun v'=>?_) ac w hsl h1
 ·exact Plain.one (hone hoc)
 ·rw [xa];simp only [List.length_singleton] at *;unfold maxLen;omega
 ·rw [xa]
  simp only [List.length_singleton] at *
  calc (l.length+1)*by'≤2513169434916*56:=Nat.mul_le_mul hl hb'
   _≤_:=by decide
 ·rw [← hz2]
  exact next v' _ _ hz h
theorem L.tsFrz {ll:List Oper} {tl:List (Int×List (List Value))} {c:List Ob} (hi:m[i]?=some (.any (zA F us e k tl V))) (hl:m.getLast?=some (.os c)) (hn:Nat.blt (i+1) m.length=true) (next:∀ c',Mo c c'→(∀ K,FzA K c' V)→L P ops Q n (Cls w0 own ((m.eraseIdx i).dropLast++[.os c'])) ll fs):L P ops Q n (Cls w0 own m) ll fs:=by
 intro ac w hs hw
 obtain ⟨c',h1,h2,h3⟩:=hw.tsFrz hi hl hn
 exact next c' h1 h2 ac w hs h3
end
end Go.S
end
