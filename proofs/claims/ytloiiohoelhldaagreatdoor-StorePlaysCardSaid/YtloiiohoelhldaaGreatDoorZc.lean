import Derived.Test.YtloiiohoelhldaaGreatDoorZb
import Derived.LaidEqlPtr
import Derived.Laws.IdiomRangeMap
set_option linter.unusedVariables false
set_option linter.unusedSimpArgs false
section
namespace Go.S
def qoT{κ α:Type}[DecidableEq κ](l:List (κ×α))(k:κ)(z:α):α:=match l.find? (fun p=>decide (p.1=k)) with
 | some p=>p.2
 | none=>z
def qop{κ α:Type}[DecidableEq κ](l:List (κ×α))(k:κ):Bool:=l.any fun p=>decide (p.1=k)
def qoR{κ α:Type}[DecidableEq κ](l:List (κ×α))(k:κ)(v:α):List (κ×α):=if qop l k=true then l.map (fun p=>if p.1=k then(k,v) else p) else l++[(k,v)]
def qoS{κ α:Type}(K:κ→Value)(g:α→Value)(l:List (κ×α)):List (Value×Value):=l.map fun p=>(K p.1,g p.2)
def qoM{κ α ρ:Type}[DecidableEq ρ](l:List (κ×α))(A:Option ρ)(B:κ→α→List (κ×α)→Option ρ):Option ρ:=nxt l A fun p q=>B p.1 p.2 q
section
variable{κ α:Type}[DecidableEq κ]{l:List (κ×α)}{k a:κ}{v z:α}
end
structure KeyT(P:Program)(kt:TypeId){κ:Type}(row:κ→List Value):Prop where
 un:∃fs,P.underlying kt=some (.struct fs)
 ag:qP P kt true=true
 sh:∀x,shB P 5 kt (row x)=true
 inj:∀x y,row x=row y→x=y
 chk:∀x (e:Bool) (w:World),(Instr.checkKey e 10000 kt (VA row x)).run P w=.ok () w
 ints:∀x,∀v∈row x,∃k a,v=.int k a
theorem qa9(n:Nat)(l:List Value)(h:∀v∈l,∃k a,v=.int k a):Instr.sameBits (n+1) (.agg l.toArray) (.agg l.toArray)=true:=by
 unfold Instr.sameBits
 have:(l.zip l).all (fun x=>Instr.sameBits n x.1 x.2)=true:=by
  rw[List.all_eq_true]
  intro p hp
  have h1:p.1=p.2∧p.1∈l:=by
   clear h
   induction l with
   | nil=>cases hp
   | cons c l ih =>
    rw[List.zip_cons_cons]at hp
    rcases List.mem_cons.1 hp with e|e
    ·rw[e];exact⟨rfl,List.mem_cons_self ..⟩
    ·exact⟨(ih e).1,List.mem_cons_of_mem _ (ih e).2⟩
  obtain⟨k,a,e⟩:=h p.1 h1.2
  rw[←h1.1,e]
  cases n<;>simp[Instr.sameBits]
 simpa using this
section
variable{P:Program}{κ:Type}{row:κ→List Value}{kt:TypeId}
theorem KeyT.stays(h:KeyT P kt row)(x:κ)(w:World):(Instr.keyThatStays (VA row x) (VA row x)).run P w=.ok (VA row x) w:=by
 have:=qa9 9999 (row x) (h.ints x)
 simp[Instr.keyThatStays,VA,show(10000:Nat)=9999+1 from rfl,this]
variable[DecidableEq κ]
end
section
variable{P:Program}{Q:Exit→Act→World→Prop}{n:Nat}{fs:Fr}{C:World→Prop}{t:TypeId}{ops:Array Oper}{rest:List Oper}{d:Nat}{pos:String}{af:Array Edge}
variable{w0:World}{own:List Nat}{m:List As}{x y z:Operand}{kt et tx:TypeId}{i b:Nat}{l left:List (Value×Value)}
structure Mpq(w:World)(b:Nat)(l:List (Value×Value))(es:Array MapEntry)(clock:Nat):Prop where
 here:w.heap[b]?=some (.map es clock)
 st:MapKept.Stamped es clock
 kv:es.toList.map (fun e=>(e.key,e.val))=l
def qoO:As→Option (Nat×List (Value×Value))
 | .mq b l=>some (b,l)
 | .mqi b _ l _ _=>some (b,l)
 | _=>none
section gen
variable{κ:Type}{row:κ→List Value}{α:Type}{g:α→Value}{lm:List (κ×α)}{z0 v0:α}{a:κ}
variable[DecidableEq κ]
end gen
section
variable{κ α ρ:Type}{K:κ→Value}{g:α→Value}{lm left:List (κ×α)}[DecidableEq ρ]{A:Option ρ}{B:κ→α→List (κ×α)→Option ρ}{r:ρ}{rr:Nat}
end
end
end Go.S
end
section
namespace Go.S
def VP(g:Nat→Nat)(i:Int):Value:=if i<0 then .pointer none else pt (g i.toNat) 0
def PR(g:Nat→Nat)(i:Int):List Value:=[VP g i]
def emp:As:=.ss []
def qeN(L:List As):Res where
 foot:=L.flatMap As.foot
 holds:=fun w=>∀x∈L,x.holds w
 congr:=fun h hb x hx=>As.holds_congr (h x hx) fun b hbx=>hb b (List.mem_flatMap.2 ⟨x,hx,hbx⟩)
 lt:=fun h b hb=>by
  obtain⟨x,hx,hbx⟩:=List.mem_flatMap.1 hb
  exact As.holds_lt (h x hx) b hbx
section lists
variable{α:Type}{row row':α→List Value→List Value}{e:TypeId}{sub sub':α→List Value→List As}
def thg(row:α→List Value→List Value)(sub:α→List Value→List As)(e:TypeId)(b:Nat)(v:List Value)(x:α):List As:=.obj b (row x v) e::sub x v
def zT(row:α→List Value→List Value)(sub:α→List Value→List As)(e:TypeId):(Nat→Nat)→(Nat→List Value)→List α→List As
 | _,_,[]=>[]
 | g,gh,x::l=>.any (qeN (thg row sub e (g 0) (gh 0) x))::zT row sub e (fun i=>g (i+1)) (fun i=>gh (i+1)) l
def hol(hs:List Nat)(L:List As):List As:=(List.range L.length).map fun i=>if i∈hs then emp else(L[i]?).getD emp
def arn(row:α→List Value→List Value)(sub:α→List Value→List As)(e:TypeId)(g:Nat→Nat)(gh:Nat→List Value)(l:List α)(hs:List Nat):As:=.any (qeN (hol hs (zT row sub e g gh l)))
theorem w9:∀(g:Nat→Nat) (gh:Nat→List Value) (l:List α),(zT row sub e g gh l).length=l.length
 | _,_,[]=>rfl
 | g,gh,x::l=>by simp[zT,w9 _ _ l]
theorem qjI:∀(g:Nat→Nat) (gh:Nat→List Value) (l:List α) (i:Nat) (x:α),l[i]?=some x→(zT row sub e g gh l)[i]?=some (.any (qeN (thg row sub e (g i) (gh i) x)))
 | _,_,[],i,x,h=>by simp at h
 | g,gh,y::l,0,x,h=>by
  simp only[List.getElem?_cons_zero,Option.some.injEq]at h
  subst h
  simp[zT]
 | g,gh,y::l,i+1,x,h=>by
  simp only[List.getElem?_cons_succ]at h
  simpa [zT]using qjI (fun i=>g (i+1)) (fun i=>gh (i+1)) l i x h
theorem qjH:∀(g:Nat→Nat) (gh:Nat→List Value) (l:List α) (i:Nat) (y:α) (v:List Value),zT row sub e g (vi gh i v) (l.set i y)=(zT row sub e g gh l).set i (.any (qeN (thg row sub e (g i) v y)))
 | _,_,[],_,_,_=>rfl
 | g,gh,x::l,0,y,v=>by
  simp only[List.set_cons_zero,zT]
  have h1:vi gh 0 v 0=v:=by simp[vi]
  have h2:(fun i=>vi gh 0 v (i+1))=fun i=>gh (i+1):=by funext i;simp[vi]
  rw[h1,h2]
 | g,gh,x::l,i+1,y,v=>by
  simp only[List.set_cons_succ,zT]
  have h1:vi gh (i+1) v 0=gh 0:=by simp[vi]
  have h2:(fun j=>vi gh (i+1) v (j+1))=vi (fun j=>gh (j+1)) i v:=by funext j;simp[vi]
  rw[h1,h2,qjH]
theorem qhk(gh:Nat→List Value)(i:Nat):vi gh i (gh i)=gh:=by
 funext q
 unfold vi
 split
 ·rename_i h;rw[h]
 ·rfl
theorem qjJ:∀(g:Nat→Nat) (gh:Nat→List Value) (b:Nat) (v:List Value) (l:List α) (x:α),zT row sub e (qgv g l.length b) (qiV gh (fun _=>v) l.length) (l++[x])=zT row sub e g gh l++[.any (qeN (thg row sub e b v x))]
 | g,gh,b,v,[],x=>by simp[zT,qmd,qmh]
 | g,gh,b,v,y::l,x=>by
  rw[List.cons_append,List.length_cons,zT,qmc,qkY,qmg,qkZ,qjJ _ _ b v l x]
  rfl
theorem qaX:∀(g:Nat→Nat) (gh:Nat→List Value) (l:List α),(∀x∈l,∀v,row x v=row' x v∧sub x v=sub' x v)→zT row sub e g gh l=zT row' sub' e g gh l
 | _,_,[],_=>rfl
 | g,gh,x::l,h=>by
  have h1:=h x List.mem_cons_self (gh 0)
  rw[zT,zT,thg,thg,h1.1,h1.2,qaX _ _ l fun z hz=>h z (List.mem_cons_of_mem _ hz)]
theorem jy(hs:List Nat)(L:List As)(i:Nat):(hol hs L)[i]?=if i<L.length then some (if i∈hs then emp else(L[i]?).getD emp) else none:=by
 unfold hol
 by_cases c:i<L.length
 ·rw[List.getElem?_map,List.getElem?_range c,if_pos c];rfl
 ·rw[List.getElem?_eq_none (by simp;omega),if_neg c]
theorem wm(hs:List Nat)(L:List As):(hol hs L).length=L.length:=by simp[hol]
theorem qmb{hs:List Nat}{L:List As}{i:Nat}{A:As}(h:L[i]?=some A)(hn:i∉hs):(hol hs L)[i]?=some A:=by
 rw[jy,if_pos (List.getElem?_eq_some_iff.1 h).1,if_neg hn,h];rfl
theorem qkV{hs hs':List Nat}{L:List As}{i:Nat}(h:∀q,q∈hs'↔q=i∨q∈hs):(hol hs L).set i emp=hol hs' L:=by
 apply List.ext_getElem?
 intro q
 rw[List.getElem?_set,jy,jy,wm]
 by_cases c:i=q
 ·subst c
  by_cases c2:i<L.length
  ·rw[if_pos rfl,if_pos c2,if_pos c2,if_pos ((h i).2 (.inl rfl))]
  ·rw[if_pos rfl,if_neg c2,if_neg c2]
 ·rw[if_neg c]
  by_cases c2:q<L.length
  ·rw[if_pos c2,if_pos c2]
   by_cases c3:q∈hs
   ·rw[if_pos c3,if_pos ((h q).2 (.inr c3))]
   ·rw[if_neg c3,if_neg fun h'=>((h q).1 h').elim (fun e=>c e.symm) c3]
  ·rw[if_neg c2,if_neg c2]
theorem qma{hs hs':List Nat}{L:List As}{i:Nat}{A:As}(h:∀q,q∈hs'↔q=i∨q∈hs)(hn:i∉hs):(hol hs' L).set i A=hol hs (L.set i A):=by
 apply List.ext_getElem?
 intro q
 rw[List.getElem?_set,jy,jy,wm,List.length_set,List.getElem?_set]
 by_cases c:i=q
 ·subst c
  by_cases c2:i<L.length
  ·simp[c2,hn]
  ·rw[if_pos rfl,if_neg c2,if_neg c2]
 ·rw[if_neg c,if_neg c]
  by_cases c2:q<L.length
  ·rw[if_pos c2,if_pos c2]
   by_cases c3:q∈hs
   ·rw[if_pos c3,if_pos ((h q).2 (.inr c3))]
   ·rw[if_neg c3,if_neg fun h'=>((h q).1 h').elim (fun e=>c e.symm) c3]
  ·rw[if_neg c2,if_neg c2]
theorem qkW{hs:List Nat}{L:List As}{A:As}(h:∀i∈hs,i<L.length):hol hs (L++[A])=hol hs L++[A]:=by
 apply List.ext_getElem?
 intro q
 have hl:=wm hs L
 rw[jy,List.length_append,List.length_singleton]
 by_cases c:q<L.length
 ·rw[if_pos (by omega),List.getElem?_append_left c,List.getElem?_append_left (by omega),jy,if_pos c]
 ·rw[List.getElem?_append_right (l₁:=hol hs L) (by omega),hl]
  by_cases c2:q=L.length
  ·subst c2
   rw[if_pos (by omega),if_neg fun hq=>absurd (h _ hq) (by omega),List.getElem?_append_right (Nat.le_refl _),Nat.sub_self];rfl
  ·rw[if_neg (by omega),List.getElem?_eq_none (by simp;omega)]
end lists
def Gr(g:Nat→Nat)(n:Nat)(g':Nat→Nat)(n':Nat):Prop:=n≤n'∧∀i,i<n→g' i=g i
theorem Gr.refl(g:Nat→Nat)(n:Nat):Gr g n g n:=⟨Nat.le_refl _,fun _ _=>rfl⟩
theorem Gr.trans{g g' g2:Nat→Nat}{n n' n2:Nat}(h:Gr g n g' n')(h':Gr g' n' g2 n2):Gr g n g2 n2:=⟨Nat.le_trans h.1 h'.1,fun i hi=>(h'.2 i (Nat.lt_of_lt_of_le hi h.1)).trans (h.2 i hi)⟩
theorem Gr.upd{α:Type}{g g':Nat→Nat}{n:Nat}{l z:List α}{a:Int}{x:α}(h:Gr g n g' l.length)(hu:upd l a x=some z):Gr g n g' z.length:=by
 rw[(vq hu).2.2,List.length_set];exact h
theorem qjd{g g':Nat→Nat}{n n':Nat}{x:Int}(h:Gr g n g' n')(hx:x<n):VP g x=VP g' x:=by
 unfold VP
 split
 ·rfl
 ·rw[h.2 _ (by omega)]
theorem qf5{g g':Nat→Nat}{n n':Nat}{l:List Int}(h:Gr g n g' n')(hx:∀x∈l,x<n):l.map (PR g)=l.map (PR g'):=List.map_congr_left fun x hm=>by rw[PR,PR,qjd h (hx x hm)]
theorem qbk{α:Type}{l:List α}{x:α}{q:Int}{u:α}(h:idx l q=some u):idx (l++[x]) q=some u:=by
 obtain⟨h0,h1,h2⟩:=qf h
 unfold idx
 rw[if_pos h0,List.getElem?_append_left (by omega),h2]
def ck(p:Prop)[Decidable p]:Option Unit:=if p then some () else none
theorem qw{p:Prop}[Decidable p]{u:Unit}(h:ck p=some u):p:=by
 unfold ck at h
 split at h
 ·assumption
 ·cases h
@[simp] theorem zf{p:Prop}[Decidable p](h:p):ck p=some ():=if_pos h
def qal{α:Type}(l:List α)(x:α):Option (Int×List α):=some ((l.length:Int),l++[x])
theorem jt{g:Nat→Nat}(l:List Int):Plain (l.map (PR g)):=by
 intro r hr u hu
 obtain⟨x,_,rfl⟩:=List.mem_map.1 hr
 simp only[PR,List.mem_singleton]at hu
 subst hu
 unfold VP
 split<;>rfl
theorem qeO(g:Nat→Nat)(i:Int):VP g i=.pointer none∨∃ad,VP g i=.pointer (some ad):=by
 unfold VP
 split
 ·exact .inl rfl
 ·exact .inr ⟨_,rfl⟩
theorem qcZ(g:Nat→Nat)(i:Int):(VP g i).oneCell'=true:=by unfold VP;split<;>rfl
theorem qL(g:Nat→Nat)(i:Int):(VP g i).cells=#[VP g i]:=by unfold VP;split<;>rfl
section
variable{P:Program}{Q:Exit→Act→World→Prop}{n:Nat}{C:World→Prop}{fs:Fr}{t:TypeId}{ops:Array Oper}{rest:List Oper}{d:Nat}{pos:String}{af:Array Edge}
variable{w0 w w':World}{own:List Nat}{m m':List As}{x y z:Operand}{e te tx ty:TypeId}{i j k kk q p s c jj jc o:Nat}{v u V:Value}{b:Nat}
variable{α ρ:Type}{r:ρ}{row:α→List Value→List Value}{sub:α→List Value→List As}{g:Nat→Nat}{gh:Nat→List Value}{l:List α}{a:Int}{u0 u1:α}{f:List α→Option ρ}{hs hs':List Nat}
theorem qbw(h:0≤a):VP g a=pt (g a.toNat) 0:=if_neg (by omega)
theorem aQ(hx:val fs x=some (VP g a))(h:idx l a=some u0):Y P (.nilCheck x) t n fs C (pt (g a.toNat) 0):=by
 rw[qbw (qf h).1]at hx
 exact cK hx
theorem ee{ops:Array Oper}{S:Array Bool→World→Prop}{C Z:World→Prop}{listed:Array Bool}{g0:Option (Nat×Bool)}(hn:Nx2 ops S Z listed i ⟨some d,.nilCheck x,t,pos,af,g0⟩)(hg:jk ops fs g0=true)(hd:Nat.blt d n=true)(hx:val fs x=some (VP g a))(h:idx l a=some u0)
  (next:V2 P ops Q n S (listed.setIfInBounds i true) k C ((d,pt (g a.toNat) 0)::fs)):V2 P ops Q n S listed (k+1) C fs:=by
 rw[qbw (qf h).1]at hx
 exact dM hn hg hd hx next
theorem cD{e:TypeId}(hu:P.underlying tx=some (.pointer e))(hx:val fs x=some (VP g a))(hy:val fs y=some (.pointer none)):Y P (.binOp .eql tx x y ty) t n fs C (.bool (decide (a<0))):=by
 by_cases c:a<0
 ·have h1:VP g a=.pointer none:=if_pos c
  rw[h1]at hx
  rw[decide_eq_true c]
  exact eE (p:=none) hu hx hy
 ·rw[qbw (by omega)]at hx
  rw[decide_eq_false c]
  exact eE (p:=some ⟨g a.toNat,0,none⟩) hu hx hy
theorem cW{e:TypeId}(hu:P.underlying tx=some (.pointer e))(hx:val fs x=some (VP g a))(hy:val fs y=some (.pointer none)):Y P (.binOp .neq tx x y ty) t n fs C (.bool (decide (0≤a))):=by
 by_cases c:a<0
 ·have h1:VP g a=.pointer none:=if_pos c
  rw[h1]at hx
  rw[decide_eq_false (by omega)]
  exact eB (p:=none) hu hx hy
 ·rw[qbw (by omega)]at hx
  rw[decide_eq_true (by omega)]
  exact eB (p:=some ⟨g a.toNat,0,none⟩) hu hx hy
theorem qem{L:List As}{A:As}{K:Nat}(h:L[K]?=some A):((A::L.set K emp).flatMap As.foot).Perm (L.flatMap As.foot):=by
 induction L generalizing K with
 | nil=>simp at h
 | cons z L ih =>
  cases K with
  | zero =>
   simp only[List.getElem?_cons_zero,Option.some.injEq]at h
   subst h
   simp[emp,As.foot]
  | succ K =>
   simp only[List.getElem?_cons_succ]at h
   have:=ih h
   rw[List.set_cons_succ]
   simp only[List.flatMap_cons]at this ⊢
   refine List.Perm.trans ?_ (List.Perm.append_left _ this)
   rw[←List.append_assoc,←List.append_assoc]
   exact List.Perm.append_right _ List.perm_append_comm
theorem qhx(w:World):emp.holds w:=fun d hd=>by cases hd
theorem Cls.out{L:List As}{A:As}{K:Nat}(hw:Cls w0 own (.any (qeN L)::m) w)(hK:L[K]?=some A):Cls w0 own (A::.any (qeN (L.set K emp))::m) w:=by
 have hall:∀x∈L,x.holds w:=(hw.mine _ List.mem_cons_self).1
 refine hw.rePerm ?_ fun x hx=>?_
 ·simp only[List.flatMap_cons]
  rw[←List.append_assoc]
  exact List.Perm.append_right _ (by have:=qem hK;simp only[List.flatMap_cons]at this;exact this)
 ·rcases List.mem_cons.1 hx with rfl|hx
  ·exact hall _ (List.mem_of_getElem? hK)
  ·rcases List.mem_cons.1 hx with rfl|hx
   ·intro y hy
    rcases List.mem_or_eq_of_mem_set hy with h2|rfl
    ·exact hall y h2
    ·exact qhx w
   ·exact(hw.mine x (List.mem_cons_of_mem _ hx)).1
theorem Cls.into{L:List As}{A:As}{K:Nat}(hw:Cls w0 own (A::.any (qeN L)::m) w)(hK:L[K]?=some emp):Cls w0 own (.any (qeN (L.set K A))::m) w:=by
 have hall:∀x∈L,x.holds w:=(hw.mine (.any (qeN L)) (by simp)).1
 have hKl:=(List.getElem?_eq_some_iff.1 hK).1
 have hKA:(L.set K A)[K]?=some A:=by rw[List.getElem?_set_self hKl]
 have hback:(L.set K A).set K emp=L:=by
  rw[List.set_set]
  apply List.ext_getElem?
  intro q
  rw[List.getElem?_set]
  by_cases c:K=q
  ·subst c;rw[if_pos rfl,if_pos hKl,hK]
  ·rw[if_neg c]
 refine hw.rePerm ?_ fun x hx=>?_
 ·have h1:=qem hKA
  rw[hback]at h1
  simp only[List.flatMap_cons]at h1 ⊢
  rw[←List.append_assoc]
  exact List.Perm.append_right _ h1.symm
 ·rcases List.mem_cons.1 hx with rfl|hx
  ·intro y hy
   rcases List.mem_or_eq_of_mem_set hy with h2|rfl
   ·exact hall y h2
   ·exact(hw.mine y List.mem_cons_self).1
  ·exact(hw.mine x (by simp[hx])).1
theorem Cls.spread{S:List As}(hw:Cls w0 own (.any (qeN S)::m) w):Cls w0 own (S++m) w:=by
 refine hw.rePerm ?_ fun x hx=>?_
 ·rw[List.flatMap_append,List.flatMap_cons];exact List.Perm.refl _
 ·rcases List.mem_append.1 hx with h|h
  ·exact(hw.mine _ List.mem_cons_self).1 x h
  ·exact(hw.mine x (List.mem_cons_of_mem _ h)).1
theorem Cls.gather{S:List As}(hw:Cls w0 own (S++m) w):Cls w0 own (.any (qeN S)::m) w:=by
 refine hw.rePerm ?_ fun x hx=>?_
 ·rw[List.flatMap_append,List.flatMap_cons];exact List.Perm.refl _
 ·rcases List.mem_cons.1 hx with rfl|h
  ·exact fun y hy=>(hw.mine y (List.mem_append_left _ hy)).1
  ·exact(hw.mine x (List.mem_append_right _ h)).1
theorem Cls.arOpen(hw:Cls w0 own m w)(hm:m[p]?=some (arn row sub e g gh l hs))(hi:idx l a=some u0)(hn:a.toNat∉hs) :
  Cls w0 own (thg row sub e (g a.toNat) (gh a.toNat) u0++arn row sub e g gh l (a.toNat::hs)::m.eraseIdx p) w:=by
 obtain⟨hpl,hpe⟩:=List.getElem?_eq_some_iff.1 hm
 have h1:=hw.perm (wt m p _ hm).symm
 have h2:=h1.out (qmb (qjI g gh l _ _ (qf hi).2.2) hn)
 have h3:=h2.spread
 rwa [qkV (hs':=a.toNat::hs) fun q=>by simp]at h3
theorem Cls.arShut0{zz:List α}{vs':List Value}(is:List Nat)(hw:Cls w0 own m w)(hz:upd l a u1=some zz)(hn:is.Nodup)(hm:is.map (m[·]?)=((thg row sub e (g a.toNat) vs' u1)++arn row sub e g gh l hs'::m').map some)(hh:∀q,q∈hs'↔q=a.toNat∨q∈hs)(hq:a.toNat∉hs) :
  Cls w0 own (arn row sub e g (vi gh a.toNat vs') zz hs::m') w:=by
 have h1:=(hw.sel is hn hm).gather
 have hlt:a.toNat<l.length:=by have:=vq hz;omega
 have h2:=h1.into (K:=a.toNat) (by rw[jy,w9,if_pos hlt,if_pos ((hh _).2 (.inl rfl))])
 rw[qma hh hq,←qjH,←(vq hz).2.2]at h2
 exact h2
theorem Cls.arShut(is:List Nat)(hw:Cls w0 own m w)(hi:idx l a=some u0)(hn:is.Nodup)(hm:is.map (m[·]?)=((thg row sub e (g a.toNat) (gh a.toNat) u0)++arn row sub e g gh l hs'::m').map some)(hh:∀q,q∈hs'↔q=a.toNat∨q∈hs)(hq:a.toNat∉hs) :
  Cls w0 own (arn row sub e g gh l hs::m') w:=by
 have h0:=qf hi
 have h1:=Cls.arShut0 (zz:=l) is hw (show upd l a u0=some l by unfold upd;rw[if_pos ⟨h0.1,h0.2.1⟩,qel h0.2.2]) hn hm hh hq
 rwa [qhk]at h1
theorem dV{zz:List α}{vs':List Value}(is:List Nat)(hz:upd l a u1=some zz)(hn:is.Nodup)(hm:is.map (m[·]?)=((thg row sub e (g a.toNat) vs' u1)++arn row sub e g gh l hs'::m').map some)(hh:∀q,q∈hs'↔q=a.toNat∨q∈hs)(hq:a.toNat∉hs)
  {ll:List Oper} (next:∀gh',L P ops Q n (Cls w0 own (arn row sub e g gh' zz hs::m')) ll fs):L P ops Q n (Cls w0 own m) ll fs:=fun ac w hs hw=>next _ ac w hs (hw.arShut0 is hz hn hm hh hq)
theorem dL{zz:List α}{vs':List Value}(is:List Nat)(hz:upd l a u1=some zz)(hn:is.Nodup)(hm:is.map (m[·]?)=((thg row sub e (g a.toNat) vs' u1)++arn row sub e g gh l hs'::m').map some)(hh:∀q,q∈hs'↔q=a.toNat∨q∈hs)(hq:a.toNat∉hs)
  {ll:Code} (next:∀gh',W P Q n (Cls w0 own (arn row sub e g gh' zz hs::m')) ll fs):W P Q n (Cls w0 own m) ll fs:=fun ac w hs hw=>next _ ac w hs (hw.arShut0 is hz hn hm hh hq)
theorem dX{zz:List α}{vs':List Value}(is:List Nat)(hz:upd l a u1=some zz)(hn:is.Nodup)(hm:is.map (m[·]?)=((thg row sub e (g a.toNat) vs' u1)++arn row sub e g gh l hs'::m').map some)(hh:∀q,q∈hs'↔q=a.toNat∨q∈hs)(hq:a.toNat∉hs)
  {ll:Exit} (next:∀gh',E ll Q n (Cls w0 own (arn row sub e g gh' zz hs::m')) fs):E ll Q n (Cls w0 own m) fs:=fun ac w hs hw=>next _ ac w hs (hw.arShut0 is hz hn hm hh hq)
theorem az{C D:World→Prop}{x:Exit}(hd:∀w,C w→D w)(h:E x Q n D fs):E x Q n C fs:=fun a w hs hc=>h a w hs (hd w hc)
theorem Cls.arNew{rowg:(Nat→Nat)→α→List Value→List Value}{subg:(Nat→Nat)→α→List Value→List As}{vs':List Value}(is:List Nat)(hw:Cls w0 own m w)(hn:is.Nodup)(hm:is.map (m[·]?)=((thg (rowg g) (subg g) e b vs' u1)++arn (rowg g) (subg g) e g gh l hs::m').map some)(hh:∀q∈hs,q<l.length)
  (hc:∀g',(∀i,i<l.length→g' i=g i)→∀x∈l++[u1],∀v,rowg g x v=rowg g' x v∧subg g x v=subg g' x v) :
  ∃g' gh',Gr g l.length g' (l++[u1]).length∧pt b 0=VP g' (l.length:Int)∧Cls w0 own (arn (rowg g') (subg g') e g' gh' (l++[u1]) hs::m') w:=by
 have hg:∀i,i<l.length→qgv g l.length b i=g i:=fun i hi=>by simp[qgv,hi]
 refine⟨qgv g l.length b,qiV gh (fun _=>vs') l.length,⟨by simp,hg⟩,?_,?_⟩
 ·rw[qbw (by omega)];simp[qgv]
 ·have h1:=(hw.sel is hn hm).gather
  unfold arn
  rw[←qaX _ _ _ (hc _ hg),qjJ,qkW (by rw[w9];exact hh)]
  have hperm:((hol hs (zT (rowg g) (subg g) e g gh l)++[As.any (qeN (thg (rowg g) (subg g) e b vs' u1))]).flatMap As.foot).Perm ((As.any (qeN (thg (rowg g) (subg g) e b vs' u1))::hol hs (zT (rowg g) (subg g) e g gh l)).flatMap As.foot):=
   (List.perm_append_comm).flatMap_right _
  refine h1.rePerm ?_ fun x hx=>?_
  ·simp only[List.flatMap_cons]at hperm ⊢
   rw[←List.append_assoc]
   exact List.Perm.append_right _ hperm
  ·rcases List.mem_cons.1 hx with rfl|hx
   ·intro y hy
    rcases List.mem_append.1 hy with h|h
    ·exact(h1.mine (arn (rowg g) (subg g) e g gh l hs) (by simp)).1 y h
    ·rw[List.mem_singleton.1 h];exact(h1.mine _ List.mem_cons_self).1
   ·exact(h1.mine x (by simp[hx])).1
theorem L.arNew{rowg:(Nat→Nat)→α→List Value→List Value}{subg:(Nat→Nat)→α→List Value→List As}{vs':List Value}{F:Int→List α→Option ρ}(is:List Nat)(h:qo (qal l u1) F=some r)(hn:is.Nodup)(hm:is.map (m[·]?)=((thg (rowg g) (subg g) e b vs' u1)++arn (rowg g) (subg g) e g gh l hs::m').map some)(hh:∀q∈hs,q<l.length)
  (hc:∀g',(∀i,i<l.length→g' i=g i)→∀x∈l++[u1],∀v,rowg g x v=rowg g' x v∧subg g x v=subg g' x v) {ll:List Oper}
  (next:∀g' gh' x z,F x z=some r→Gr g l.length g' z.length→pt b 0=VP g' x→(∀{q:Int} {u:α},idx l q=some u→idx z q=some u)→L P ops Q n (Cls w0 own (arn (rowg g') (subg g') e g' gh' z hs::m')) ll fs):L P ops Q n (Cls w0 own m) ll fs:=by
 intro ac w hs hw
 obtain⟨g',gh',h1,h2,h3⟩:=hw.arNew is hn hm hh hc
 exact next g' gh' _ _ h h1 h2 qbk ac w hs h3
theorem E.arNew{rowg:(Nat→Nat)→α→List Value→List Value}{subg:(Nat→Nat)→α→List Value→List As}{vs':List Value}{F:Int→List α→Option ρ}(is:List Nat)(h:qo (qal l u1) F=some r)(hn:is.Nodup)(hm:is.map (m[·]?)=((thg (rowg g) (subg g) e b vs' u1)++arn (rowg g) (subg g) e g gh l hs::m').map some)(hh:∀q∈hs,q<l.length)
  (hc:∀g',(∀i,i<l.length→g' i=g i)→∀x∈l++[u1],∀v,rowg g x v=rowg g' x v∧subg g x v=subg g' x v) {ll:Exit}
  (next:∀g' gh' x z,F x z=some r→Gr g l.length g' z.length→pt b 0=VP g' x→(∀{q:Int} {u:α},idx l q=some u→idx z q=some u)→E ll Q n (Cls w0 own (arn (rowg g') (subg g') e g' gh' z hs::m')) fs):E ll Q n (Cls w0 own m) fs:=by
 intro ac w hs hw
 obtain⟨g',gh',h1,h2,h3⟩:=hw.arNew is hn hm hh hc
 exact next g' gh' _ _ h h1 h2 qbk ac w hs h3
theorem qdw{β γ:Type}{l':List β}{l2:List γ}{c:Int}{v1:β}{v2:γ}(hne:a≠c)(ha:idx l' a=some v1)(hb:idx l2 c=some v2)(ht:a.toNat∉hs):a.toNat∉c.toNat::hs:=by
 have h1:=(qf ha).1
 have h2:=(qf hb).1
 rw[List.mem_cons,not_or]
 exact⟨by omega,ht⟩
theorem qaL{row':α→List Value→List Value}{sub':α→List Value→List As}(h:∀x∈l,∀v,row x v=row' x v∧sub x v=sub' x v):arn row sub e g gh l hs=arn row' sub' e g gh l hs:=by
 unfold arn
 rw[qaX _ _ _ h]
theorem Cls.ar0(hw:Cls w0 own m w)(row:α→List Value→List Value)(sub:α→List Value→List As)(e:TypeId)(g:Nat→Nat)(gh:Nat→List Value):Cls w0 own (arn row sub e g gh ([]:List α) []::m) w:=by
 have:Cls w0 own ([]++m) w:=hw
 exact this.gather
end
end Go.S
end
section
namespace Go.S
section
variable{v v':Value}{e:TypeId}{k:Nat}{rows rows' more:List (List Value)}{w0 w w':World}{own:List Nat}{m:List As}{i:Nat}
theorem tlHolds.at(h:tlHolds w v e k rows):At w v k rows:=by
 obtain⟨h1,h3⟩:=h
 refine⟨?_,h1,fun i r j x hr hx=>?_⟩
 ·rcases h3 with⟨rfl,h0⟩|⟨g,off,cap,cur,rfl,_,hn,hc,_⟩
  ·exact .inl ⟨rfl,h0⟩
  ·exact .inr ⟨_,cap,rfl,hn,hc⟩
 ·have hf:=qR rows i j r x h1 hr hx
  rcases h3 with⟨rfl,h0⟩|⟨g,off,cap,cur,rfl,hg,hn,hc,hs,ht⟩
  ·subst h0
   simp at hr
  ·have hj:i*k+j<rows.length*k:=by
    have:=(List.getElem?_eq_some_iff.1 hf).1
    rw[za _ h1]at this
    exact this
   rw[←ht,List.getElem?_take_of_lt hj,List.getElem?_drop]at hf
   show(World.cell? w (Addr.add ⟨g,off,none⟩ (i*k+j)))=some x
   rw[Addr.add_lit]
   simp only[World.cell?,hg,Option.isSome_none,Bool.false_eq_true,if_false]
   rw[Array.getElem?_toList]at hf
   exact hf
theorem tlHolds.drop(h:tlHolds w v e k rows)(l:Nat)(hl:l≤rows.length):tlHolds w (zh v l k) e k (rows.drop l):=by
 obtain⟨h1,h3⟩:=h
 refine⟨fun r hr=>h1 r (List.mem_of_mem_drop hr),?_⟩
 rcases h3 with⟨rfl,rfl⟩|⟨g,off,cap,cur,rfl,hg,hn,hc,hs,ht⟩
 ·exact .inl ⟨by simp[zh],by simp⟩
 ·by_cases hz:cap-l=0
  ·have hl2:rows.length-l=0:=by omega
   refine .inr ⟨g,off,0,cur,by simp[zh,hz],hg,by simp;omega,by simp[maxLen],by omega,?_⟩
   rw[List.length_drop,hl2]
   simp[List.drop_eq_nil_of_le (show rows.length≤l by omega)]
  ·refine .inr ⟨g,off+l*k,cap-l,cur,by simp[zh,hz,Addr.add_lit],hg,by simp;omega,by omega,?_,?_⟩
   ·have:cap*k=l*k+(cap-l)*k:=by rw[←Nat.add_mul];congr 1;omega
    omega
   ·rw[List.length_drop]
    have e1:(rows.drop l).flatten=rows.flatten.drop (l*k):=by
     have h4:rows.flatten=(rows.take l).flatten++(rows.drop l).flatten:=by rw[←List.flatten_append,List.take_append_drop]
     have h5:(rows.take l).flatten.length=l*k:=by
      rw[za _ (fun r hr=>h1 r (List.mem_of_mem_take hr)),List.length_take,Nat.min_eq_left hl]
     rw[h4,←h5,List.drop_left]
    rw[e1,←ht,List.drop_take,List.drop_drop,Nat.sub_mul]
end
section
variable{P:Program}{v v':Value}{e:TypeId}{k:Nat}{rows rows' more:List (List Value)}{w:World}
end
section
variable{P:Program}{Q:Exit→Act→World→Prop}{n:Nat}{fs:Fr}{t:TypeId}{ops:Array Oper}{rest:List Oper}{d:Nat}{pos:String}{af:Array Edge}
variable{w0:World}{own:List Nat}{m:List As}{x y:Operand}{e tx:TypeId}{i k by':Nat}{v u:Value}
end
end Go.S
end
section
namespace Go.S
def qnv{α0 α1 α2 α3 α4 α5 α6 α7 α8 ρ:Type}(o:Option (α0×α1×α2×α3×α4×α5×α6×α7×α8))(f:α0→α1→α2→α3→α4→α5→α6→α7→α8→Option ρ):Option ρ:=match o with
 | some (x0,x1,x2,x3,x4,x5,x6,x7,x8)=>f x0 x1 x2 x3 x4 x5 x6 x7 x8
 | none=>none
@[simp] theorem qlr{α0 α1 α2 α3 α4 α5 α6 α7 α8 ρ:Type}(x0:α0)(x1:α1)(x2:α2)(x3:α3)(x4:α4)(x5:α5)(x6:α6)(x7:α7)(x8:α8)(f:α0→α1→α2→α3→α4→α5→α6→α7→α8→Option ρ):qnv (some (x0,x1,x2,x3,x4,x5,x6,x7,x8)) f=f x0 x1 x2 x3 x4 x5 x6 x7 x8:=rfl
def qmx{α0 α1 α2 α3 α4 α5 α6 α7 α8 α9 ρ:Type}(o:Option (α0×α1×α2×α3×α4×α5×α6×α7×α8×α9))(f:α0→α1→α2→α3→α4→α5→α6→α7→α8→α9→Option ρ):Option ρ:=match o with
 | some (x0,x1,x2,x3,x4,x5,x6,x7,x8,x9)=>f x0 x1 x2 x3 x4 x5 x6 x7 x8 x9
 | none=>none
@[simp] theorem qlb{α0 α1 α2 α3 α4 α5 α6 α7 α8 α9 ρ:Type}(x0:α0)(x1:α1)(x2:α2)(x3:α3)(x4:α4)(x5:α5)(x6:α6)(x7:α7)(x8:α8)(x9:α9)(f:α0→α1→α2→α3→α4→α5→α6→α7→α8→α9→Option ρ):qmx (some (x0,x1,x2,x3,x4,x5,x6,x7,x8,x9)) f=f x0 x1 x2 x3 x4 x5 x6 x7 x8 x9:=rfl
def qms{α β ρ:Type}(o:Option (α ⊕ β))(f:α→Option ρ)(g:β→Option ρ):Option ρ:=match o with
 | some (.inl x)=>f x
 | some (.inr y)=>g y
 | none=>none
@[simp] theorem qmr{α β ρ:Type}(x:α)(f:α→Option ρ)(g:β→Option ρ):qms (some (.inl x)) f g=f x:=rfl
@[simp] theorem qmq{α β ρ:Type}(y:β)(f:α→Option ρ)(g:β→Option ρ):qms (some (.inr y)) f g=g y:=rfl
section
variable{v:Value}{k:Nat}{rows:List (List Value)}{w0 w w':World}{own F:List Nat}{m A M:List As}
theorem StbF.cls0(h:StbF (fun w=>At w v k rows) w F)(hw:Cls w F m w'):At w' v k rows:=h w' hw.os hw.tape hw.output hw.size hw.old
theorem At.lendS(h:At w0 v k rows)(hw:Cls w0 [] (A++M) w'):StbF (fun w=>At w v k rows) w' (A.flatMap As.foot):=fun w'' h1 h2 h3 h4 h5=>by
 refine⟨h.shape,h.len,fun i r j x q1 q2=>?_⟩
 have hx:=h.cell i r j x q1 q2
 have hlt:=World.block_lt_of_cell? w0 _ hx
 rw[World.cell?_of_block (w:=w0)]
 ·exact hx
 ·rw[h5 _ (Nat.lt_of_lt_of_le hlt hw.size) (hw.lent_no hlt (by simp)),hw.old _ hlt (by simp)]
end
end Go.S
end
section
namespace Go.S
theorem sl0{S:List (List Value)}:(S.take 0).flatten.length=0:=by simp
theorem qa8:∀{S:List (List Value)} {i p q:Nat} {X:List Value} {v:Value},S[i]?=some X→(S.take i).flatten.length=p→X[q]?=some v→S.flatten[p+q]?=some v
 | [],i,p,q,X,v,hS,_,_=>by simp at hS
 | Y::S,0,p,q,X,v,hS,hp,hv=>by
  simp only[List.getElem?_cons_zero,Option.some.injEq]at hS
  subst hS
  simp only[List.take_zero,List.flatten_nil,List.length_nil]at hp
  subst hp
  rw[Nat.zero_add,List.flatten_cons,List.getElem?_append_left (List.getElem?_eq_some_iff.1 hv).1]
  exact hv
 | Y::S,i+1,p,q,X,v,hS,hp,hv=>by
  simp only[List.getElem?_cons_succ]at hS
  rw[List.take_succ_cons,List.flatten_cons,List.length_append]at hp
  rw[List.flatten_cons,List.getElem?_append_right (by omega),show p+q-Y.length=(S.take i).flatten.length+q by omega]
  exact qa8 hS rfl hv
theorem wg:∀(vals:List Value) (A B:List Value) (q:Nat),over (A++B) (A.length+q) vals=A++over B q vals
 | [],A,B,q=>rfl
 | v::vals,A,B,q=>by
  rw[over,over,List.set_append_right _ _ (by omega),show A.length+q-A.length=q by omega,Nat.add_assoc]
  exact wg vals A _ (q+1)
theorem yl:∀(vals:List Value) (A B:List Value) (q:Nat),q+vals.length≤A.length→over (A++B) q vals=over A q vals++B
 | [],A,B,q,_=>rfl
 | v::vals,A,B,q,h=>by
  simp only[List.length_cons]at h
  rw[over,over,List.set_append_left _ _ (by omega)]
  exact yl vals _ B (q+1) (by rw[List.length_set];omega)
theorem wU:∀{S:List (List Value)} {i p q:Nat} {X vals:List Value},S[i]?=some X→(S.take i).flatten.length=p→q+vals.length≤X.length→over S.flatten (p+q) vals=(S.set i (over X q vals)).flatten
 | [],i,p,q,X,vals,hS,_,_=>by simp at hS
 | Y::S,0,p,q,X,vals,hS,hp,hv=>by
  simp only[List.getElem?_cons_zero,Option.some.injEq]at hS
  subst hS
  simp only[List.take_zero,List.flatten_nil,List.length_nil]at hp
  subst hp
  rw[Nat.zero_add,List.flatten_cons,yl _ _ _ _ hv]
  rfl
 | Y::S,i+1,p,q,X,vals,hS,hp,hv=>by
  simp only[List.getElem?_cons_succ]at hS
  rw[List.take_succ_cons,List.flatten_cons,List.length_append]at hp
  rw[List.flatten_cons,show p+q=Y.length+((S.take i).flatten.length+q) by omega,wg,wU hS rfl hv]
  rfl
theorem qa7:∀{S:List (List Value)} {i p:Nat} {X:List Value},S[i]?=some X→(S.take i).flatten.length=p→p+X.length≤S.flatten.length
 | [],i,p,X,hS,_=>by simp at hS
 | Y::S,0,p,X,hS,hp=>by
  simp only[List.getElem?_cons_zero,Option.some.injEq]at hS
  subst hS
  simp only[List.take_zero,List.flatten_nil,List.length_nil]at hp
  subst hp
  rw[List.flatten_cons,List.length_append];omega
 | Y::S,i+1,p,X,hS,hp=>by
  simp only[List.getElem?_cons_succ]at hS
  rw[List.take_succ_cons,List.flatten_cons,List.length_append]at hp
  have:=qa7 hS rfl
  rw[List.flatten_cons,List.length_append];omega
section
variable{P:Program}{Q:Exit→Act→World→Prop}{n:Nat}{C:World→Prop}{fs:Fr}{t:TypeId}{ops:Array Oper}{rest:List Oper}{d:Nat}{pos:String}{af:Array Edge}
variable{w0 w:World}{own:List Nat}{m:List As}{x y:Operand}{e te tx ty:TypeId}{i j k kk by' p q s c jj b si ps nn:Nat}{v u:Value}{o:Nat}{vals X:List Value}{S:List (List Value)}
variable{α ρ:Type}{r:ρ}{row:α→List Value→List Value}{sds:α→List Value→List Sd}{vs:Nat→List Value}{l:List α}{a:Int}{u0 u1:α}{f:List α→Option ρ}
theorem zrN(hlen:∀z v,(row z v).length=k)(hl:l.length=nn):(zr row vs l).flatten.length=nn*k:=by rw[qee hlen,hl]
theorem aR{len:Nat}{ik:IntKind}(hu:P.underlying tx=some (.array len e))(hsz:szB P e k=true)(hx:val fs x=some (pt b o))(hy:val fs y=some (.int ik a))(z:α)(hr:zd len l a=some z) :
  Y P (.indexAddr tx x y) t n fs C (pt b (o+a.toNat*k)):=bI hu hsz hx hy (qf (qm hr)).1 (qbl hr)
theorem bM{S:List (List Value)}{cs:List Value}{ll:List Oper}(hc:cs=S.flatten)(next:L P ops Q n (Cls w0 own (.obj b S.flatten e::m)) ll fs):L P ops Q n (Cls w0 own (.obj b cs e::m)) ll fs:=by
 subst hc;exact next
theorem bD{ll:List Oper}{xs:List α}(hn:∀d∈zs sds vs xs,d.v=.slice none 0 0∧d.rows=[])(next:L P ops Q n (Cls w0 own (.ss (zs sds vs xs)::m)) ll fs):L P ops Q n (Cls w0 own m) ll fs:=
 aj (fun w hw=>hw.ssNew hn) next
theorem al(ha:qP P te false=true)(hx:val fs x=some (pt b o))(ho:o=ps+j)(hm:m[q]?=some (.obj b S.flatten e))(hS:S[si]?=some X)(hp:(S.take si).flatten.length=ps)(hv:X[j]?=some v) :
  Y P (.load te x) t n fs (Cls w0 own m) v:=by
 subst ho
 exact am ha hx hm (qa8 hS hp hv)
theorem aW(hs:szB P te kk=true)(hx:val fs x=some (pt b o))(ho:o=ps+j)(hy:val fs y=some u)(hu:u.cells.toList=vals)(hk:vals.length=kk)(h1:∀u∈vals,u.oneCell'=true)(hm:m[q]?=some (.obj b S.flatten e))
  (hS:S[si]?=some X) (hp:(S.take si).flatten.length=ps) (hj:Nat.ble (j+kk) X.length=true) (next:L P ops Q n (Cls w0 own (m.set q (.obj b (S.set si (over X j vals)).flatten e))) rest fs) :
  L P ops Q n (Cls w0 own m) (⟨none,.store te x y,t,pos,af,none⟩::rest) fs:=by
 subst ho
 have hj':j+kk≤X.length:=by simpa using hj
 have h2:=qa7 hS hp
 refine bS hs hx hy hu hk h1 hm (by omega) ?_
 rwa [wU hS hp (by omega)]
theorem bF(ha:qP P te false=true)(hx:val fs x=some (pt b o))(ho:o=ps+a.toNat*k+j)(hm:m[q]?=some (.obj b S.flatten e))(hS:S[si]?=some (zr row vs l).flatten)(hp:(S.take si).flatten.length=ps)(hlen:∀z v,(row z v).length=k)(hr:idx l a=some u0){pv:Value}(hpv:(row u0 (vs a.toNat))[j]?=some pv) :
  Y P (.load te x) t n fs (Cls w0 own m) pv:=by
 subst ho
 have h1:=qkn hlen hr hpv
 have h2:=qa8 hS hp h1
 rw[Nat.zero_add,←Nat.add_assoc]at h2
 exact am ha hx hm h2
theorem qdI(hlen:∀z v,(row z v).length=k)(hr:idx l a=some u0){v1:List Value}(hj:j+vals.length≤k)(hrow:over (row u0 (vs a.toNat)) j vals=row u1 v1)(hS:S[si]?=some (zr row vs l).flatten)(hp:(S.take si).flatten.length=ps) :
  over S.flatten (ps+a.toNat*k+j) vals=(S.set si (zr row (vi vs a.toNat v1) (l.set a.toNat u1)).flatten).flatten:=by
 have hi:=qf hr
 have hib:(a.toNat+1)*k≤l.length*k:=Nat.mul_le_mul_right k (by omega)
 rw[Nat.succ_mul]at hib
 rw[←qkH hlen hr hj hrow,show ps+a.toNat*k+j=ps+(0+a.toNat*k+j) by omega]
 exact wU hS hp (by rw[qee hlen];omega)
theorem qdB(hlen:∀z v,(row z v).length=k)(hr:idx l a=some u0)(hj:j+kk≤k)(hS:S[si]?=some (zr row vs l).flatten)(hp:(S.take si).flatten.length=ps):ps+a.toNat*k+j+kk≤S.flatten.length:=by
 have hi:=qf hr
 have hib:(a.toNat+1)*k≤l.length*k:=Nat.mul_le_mul_right k (by omega)
 rw[Nat.succ_mul]at hib
 have h2:=qa7 hS hp
 rw[qee hlen]at h2
 omega
theorem qkm(hc:∀z v,(sds z v).length=c)(hr:idx l a=some u0)(hsd:sds u1 (vs a.toNat)=sds u0 (vs a.toNat)):zs sds vs (l.set a.toNat u1)=zs sds vs l:=by
 have hi:=qf hr
 by_cases h0:0<c
 ·have h2:=qgB hc vs l a.toNat 0 u0 u1 (vs a.toNat) ((sds u0 (vs a.toNat))[0]'(by rw[hc];exact h0)) hi.2.2 h0 (by rw[hsd,List.set_getElem_self])
  rw[qcF]at h2
  have h3:=qax hc vs l a.toNat 0 u0 hi.2.2 h0
  rw[List.getElem?_eq_getElem (l:=sds u0 (vs a.toNat)) (by rw[hc];exact h0)]at h3
  obtain⟨h4,h5⟩:=List.getElem?_eq_some_iff.1 h3
  rw[h2,←h5,List.set_getElem_self]
 ·have h6:∀(vs:Nat→List Value) (xs:List α),zs sds vs xs=[]:=by
   intro vs xs
   induction xs generalizing vs with
   | nil=>rfl
   | cons y ys ih =>
    rw[zs,ih,List.append_nil]
    exact List.eq_nil_of_length_eq_zero (by rw[hc];omega)
  rw[h6,h6]
theorem bG(h:qb (upd l a u1) f=some r)(hs:szB P te kk=true)(hx:val fs x=some (pt b o))(ho:o=ps+a.toNat*k+j)(hy:val fs y=some u)(hu:u.cells.toList=vals)(hk:vals.length=kk)(h1:∀u∈vals,u.oneCell'=true)
  (hm:m[q]?=some (.obj b S.flatten e)) (hS:S[si]?=some (zr row vs l).flatten) (hp:(S.take si).flatten.length=ps) (hms:m[s]?=some (.ss (zs sds vs l))) (hlen:∀z v,(row z v).length=k) (hr:idx l a=some u0) (hj:Nat.ble (j+kk) k=true) (hrow:over (row u0 (vs a.toNat)) j vals=row u1 (vs a.toNat))
  (hc:∀z v,(sds z v).length=c) (hsd:sds u1 (vs a.toNat)=sds u0 (vs a.toNat)) (next:∀z,z=l.set a.toNat u1→f z=some r→L P ops Q n (Cls w0 own ((m.set q (.obj b (S.set si (zr row vs z).flatten).flatten e)).set s (.ss (zs sds vs z)))) rest fs) :
  L P ops Q n (Cls w0 own m) (⟨none,.store te x y,t,pos,af,none⟩::rest) fs:=by
 subst ho
 have hj':j+kk≤k:=by simpa using hj
 refine bS hs hx hy hu hk h1 hm (qdB hlen hr hj' hS hp) ?_
 rw[qdI hlen hr (by omega) hrow hS hp,qcF]
 have hn:=next _ rfl (vr h rfl)
 have hne:q≠s:=by
  rintro rfl
  rw[hm]at hms
  cases hms
 rwa [qkm hc hr hsd,qel (m:=m.set q _) (by rw[List.getElem?_set_ne hne];exact hms)]at hn
theorem cF(h:qb (upd l a u1) f=some r)(hs:szB P te 1=true)(hx:val fs x=some (pt b o))(ho:o=ps+a.toNat*k+j)(hy:val fs y=some v){e':TypeId}{k' jj:Nat}{rows:List (List Value)}{L0:List Sd}{v1:List Value}
  (hm:m[q]?=some (.obj b S.flatten e)) (hS:S[si]?=some (zr row vs l).flatten) (hp0:(S.take si).flatten.length=ps) (hp:m[p]?=some (.sl v e' k' rows)) (hms:m[s]?=some (.ss L0)) (hL:L0=zs sds vs l∨L0=(zs sds vs l).set (a.toNat*c+jj) (Sd.nil 0 0)) (hlen:∀z v,(row z v).length=k) (hc:∀z v,(sds z v).length=c) (hr:idx l a=some u0) (hj:Nat.ble (j+1) k=true)
  (hrow:over (row u0 (vs a.toNat)) j [v]=row u1 v1) (hjj:Nat.blt jj c=true) (hsd:sds u1 v1=(sds u0 (vs a.toNat)).set jj ⟨v,e',k',rows⟩)
  (next:∀z vs',z=l.set a.toNat u1→f z=some r→L P ops Q n (Cls w0 own (((m.set q (.obj b (S.set si (zr row vs' z).flatten).flatten e)).set s (.ss (zs sds vs' z))).eraseIdx p)) rest fs) :
  L P ops Q n (Cls w0 own m) (⟨none,.store te x y,t,pos,af,none⟩::rest) fs:=by
 subst ho
 have hj':j+1≤k:=by simpa using hj
 have hjj':jj<c:=by simpa [Nat.blt_eq]using hjj
 refine bq hs hx hy (fun w hw=>(As.at_ (hw.get hp)).one) hm (qdB hlen hr hj' hS hp0) ?_
 rw[qdI hlen hr hj' hrow hS hp0]
 refine aj (fun w hw=>?_) (next _ (vi vs a.toNat v1) rfl (vr h rfl))
 have hqs:q≠s:=by rintro rfl;rw[hm]at hms;cases hms
 have hqp:q≠p:=by rintro rfl;rw[hm]at hp;cases hp
 exact hw.zsPut (by rw[List.getElem?_set_ne hqp];exact hp) (by rw[List.getElem?_set_ne hqs];exact hms) hL hc hr hjj' hsd
end
end Go.S
end
section
namespace Go.S
def fzr{α:Type}(g:α→List Value)(x:α)(_:List Value):List Value:=g x
def sd0{α:Type}(_:α)(_:List Value):List Sd:=[]
section
variable{K:World→Prop}{c c' c2:List Ob}{v u:Value}{k:Nat}{rows:List (List Value)}{w0 w w':World}{own:List Nat}{m m' A A' M:List As}{e:TypeId}{i j s:Nat}
end
section
variable{K:World→Prop}{c c' c2:List Ob}{P:Program}{Q:Exit→Act→World→Prop}{n:Nat}{fs:Fr}{t:TypeId}{ops:Array Oper}{rest:List Oper}{d:Nat}{pos:String}{af:Array Edge}
variable{w0 w:World}{own:List Nat}{m A M:List As}{x y z:Operand}{e te tx ty:TypeId}{i j k kk by' p q s b si ps o:Nat}{v u:Value}{X:List Value}{S:List (List Value)}
theorem bP(hs:szB P te 1=true)(hx:val fs x=some (pt b o))(ho:o=ps+j)(hy:val fs y=some u)(h1:∀w,Cls w0 own m w→u.oneCell'=true)(hm:m[q]?=some (.obj b S.flatten e))
  (hS:S[si]?=some X) (hp:(S.take si).flatten.length=ps) (hj:Nat.ble (j+1) X.length=true) (next:L P ops Q n (Cls w0 own (m.set q (.obj b (S.set si (over X j [u])).flatten e))) rest fs) :
  L P ops Q n (Cls w0 own m) (⟨none,.store te x y,t,pos,af,none⟩::rest) fs:=fun a w hsl hw =>
 aW hs hx ho hy (qab (h1 w hw)) rfl (by simpa using h1 w hw) hm hS hp hj next a w hsl hw
end
end Go.S
end
section
namespace Go.S
def qN(vs:List Value)(n:Nat):Nat→List Value:=fun i=>[gv vs (n+i)]
def ghl(gh:Nat→List Value)(n:Nat):List Value:=(List.range n).map fun i=>gv (gh i) 0
theorem qeA(pre:List Value)(gh:Nat→List Value)(n k i:Nat)(hk:pre.length=k)(hi:i<n):gv (qN (pre++ghl gh n) k i) 0=gv (gh i) 0:=by
 subst hk
 simp[qN,gv,ghl,hi]
theorem qlI{α:Type}:∀(l:List α) (g g':Nat→List Value),(∀i,i<l.length→gv (g i) 0=gv (g' i) 0)→zr qn g l=zr qn g' l
 | [],_,_,_=>rfl
 | x::l,g,g',h=>by
  have h0:=h 0 (by simp)
  rw[zr,zr,qn,qn,h0,qlI l _ _ fun i hi=>h (i+1) (by simpa using hi)]
theorem qlH{α:Type}{e:TypeId}{k:Nat}{row:α→List Value}:∀(l:List (List α)) (g g':Nat→List Value),(∀i,i<l.length→gv (g i) 0=gv (g' i) 0)→zs (zv e k row) g l=zs (zv e k row) g' l
 | [],_,_,_=>rfl
 | x::l,g,g',h=>by
  have h0:=h 0 (by simp)
  rw[zs,zs,zv,zv,h0,qlH l _ _ fun i hi=>h (i+1) (by simpa using hi)]
theorem xr{α:Type}(pre:List Value)(gh:Nat→List Value)(k:Nat)(l:List α)(hk:pre.length=k):zr qn (qN (pre++ghl gh l.length) k) l=zr qn gh l:=qlI l _ _ fun i hi=>qeA pre gh _ k i hk hi
theorem xq{α:Type}{e:TypeId}{c:Nat}{row:α→List Value}(pre:List Value)(gh:Nat→List Value)(k:Nat)(l:List (List α))(hk:pre.length=k):zs (zv e c row) (qN (pre++ghl gh l.length) k) l=zs (zv e c row) gh l:=qlH l _ _ fun i hi=>qeA pre gh _ k i hk hi
theorem Gr.len{g g':Nat→Nat}{n n' k:Nat}(h:Gr g n g' n')(hk:k=n'):Gr g n g' k:=hk▸h
theorem qcg{g g':Nat→Nat}{n n':Nat}(h:Gr g n g' n'):∀(l:List Int) (v:Nat→List Value),(∀x∈l,x<n)→zr (fzr (PR g)) v l=zr (fzr (PR g')) v l
 | [],_,_=>rfl
 | x::l,v,hx=>by
  rw[zr,zr,fzr,fzr,PR,PR,qjd h (hx x List.mem_cons_self),qcg h l _ fun y hy=>hx y (List.mem_cons_of_mem _ hy)]
section
variable{P:Program}{tx e ty t:TypeId}{n:Nat}{fs:Fr}{x y:Operand}{w0:World}{own:List Nat}{m:List As}{α:Type}{row:α→List Value→List Value}{sub:α→List Value→List As}{g:Nat→Nat}{gh:Nat→List Value}{l:List α}{p:Nat}{a b:Int}{u0 u1:α}{k:TypeId}
theorem Cls.arNe{w:World}(hw:Cls w0 own m w)(hm:m[p]?=some (arn row sub k g gh l []))(ha:idx l a=some u0)(hb:idx l b=some u1)(hne:a≠b):g a.toNat≠g b.toNat:=by
 have h1:=hw.arOpen hm ha List.not_mem_nil
 have hp:(thg row sub k (g a.toNat) (gh a.toNat) u0++arn row sub k g gh l [a.toNat]::m.eraseIdx p)[(thg row sub k (g a.toNat) (gh a.toNat) u0).length]?=some (arn row sub k g gh l [a.toNat]):=by
  rw[List.getElem?_append_right (Nat.le_refl _),Nat.sub_self];rfl
 have hab:b.toNat∉[a.toNat]:=by
  have:=(qf ha).1
  have:=(qf hb).1
  simp only[List.mem_singleton]
  omega
 have h2:=h1.arOpen hp hb hab
 intro hg
 have h3:=h2.nodup
 rw[hg]at h3
 simp only[thg,List.cons_append,List.flatMap_cons,As.foot]at h3
 have h4:=(List.nodup_append.1 h3).2.2 (g b.toNat) (List.mem_singleton.2 rfl) (g b.toNat)
 refine h4 ?_ rfl
 simp only[List.flatMap_append,List.mem_append]
 right
 rw[List.length_cons,List.eraseIdx_cons_succ]
 simp[As.foot]
theorem Cls.arAt{w:World}(hw:Cls w0 own m w)(hm:m[p]?=some (arn row sub k g gh l []))(ha:idx l a=some u0):w.heap[g a.toNat]?=some (.cells (row u0 (gh a.toNat)).toArray k (0,0)):=
 ((hw.arOpen hm ha List.not_mem_nil).mine (.obj (g a.toNat) (row u0 (gh a.toNat)) k) (by simp[thg])).1
def qlp(P:Program)(e:TypeId):Bool:=match P.info? e with
 | some j=>Nat.blt 0 j.size
 | none=>false
theorem cf(hu:P.underlying tx=some (.pointer e))(hz:qlp P e=true)(hx:val fs x=some (VP g a))(hy:val fs y=some (VP g b))(hm:m[p]?=some (arn row sub k g gh l []))(ha:idx l a=some u0)(hb:idx l b=some u1) :
  Y P (.binOp .eql tx x y ty) t n fs (Cls w0 own m) (.bool (decide (a=b))):=by
 have h0:=(qf ha).1
 have h1:=(qf hb).1
 rw[qbw h0]at hx
 rw[qbw h1]at hy
 unfold qlp at hz
 cases hj:P.info? e with
 | none=>rw[hj]at hz;cases hz
 | some j =>
  rw[hj]at hz
  have hz':j.size≠0:=by
   have:0<j.size:=by simpa [Nat.blt_eq]using hz
   omega
  refine bE fun d pos af gd s w hs hw=>?_
  have hg:(eqGuard .eql tx x y (pt (g a.toNat) 0) (pt (g b.toNat) 0)).run P w=.ok () w:=by simp[eqGuard,pt]
  simp only[execOp,hs.eval hx,hs.eval hy]
  by_cases c:a=b
  ·subst c
   rw[decide_eq_true rfl]
   simp[hg]
   simp[pt,run_eql_ptr_same w _ hu hj]
  ·rw[decide_eq_false c]
   have hne:=hw.arNe hm ha hb c
   simp[hg]
   simp[pt,run_eql_ptr_other w hu hj hz' (a:=⟨g a.toNat,0,none⟩) (b:=⟨g b.toNat,0,none⟩) (fun h=>hne (congrArg Addr.block h)) (hw.arAt hm ha) (hw.arAt hm hb)]
end
end Go.S
end
section
namespace Go.S
def qoj(f:Int→Value)(a:Int)(v:Value):Int→Value:=fun q=>if q=a then v else f q
section
variable{α:Type}{us:Int→Value}{l:List (Int×List α)}{a:Int}{x x1:List α}{v:Value}{e:TypeId}{k:Nat}{row:α→List Value}
def qno{β:Type}(us:Int→Value)(l:List (Int×β)):List (Int×Value):=l.map fun p=>(p.1,us p.1)
def qoN(us:Int→Value)(e:TypeId)(k:Nat)(row:α→List Value)(l:List (Int×List α)):List Sd:=l.map fun p=>⟨us p.1,e,k,p.2.map row⟩
def qol(l:List (Int×List α))(a:Int):Option (List α):=(l.find? fun p=>decide (p.1=a)).map (·.2)
def qok{β:Type}(us:Int→Value)(l:List (Int×β))(a:Int):Value:=ju (qno us l) a (.slice none 0 0)
end
section
variable{α:Type}{us:Int→Value}{l:List (Int×List α)}{a:Int}{x1:List α}{v:Value}{e:TypeId}{k:Nat}{row:α→List Value}{w0 w:World}{own:List Nat}{m:List As}{i j p b:Nat}{L0 L1:List Sd}
end
section
variable{P:Program}{Q:Exit→Act→World→Prop}{n:Nat}{fs:Fr}{C:World→Prop}{t:TypeId}{ops:Array Oper}{rest:List Oper}{d:Nat}{pos:String}{af:Array Edge}
variable{α ρ:Type}{r:ρ}{us:Int→Value}{l:List (Int×List α)}{a:Int}{x1:List α}{F:List α→Option ρ}{row:α→List Value}{w0 w:World}{own:List Nat}{m:List As}{x y kv:Operand}{kt et tx e:TypeId}{i j p k b:Nat}{v:Value}{L0:List Sd}
end
end Go.S
end
section
namespace Go.S
theorem qir{α:Type}{row:α→List Value}:∀(l:List α) (vs:Nat→List Value),zr (fzr row) vs l=l.map row
 | [],_=>rfl
 | x::l,vs=>by rw[zr,qir l,List.map_cons];rfl
theorem qX{α:Type}:∀(l:List α) (vs:Nat→List Value),zs sd0 vs l=[]
 | [],_=>rfl
 | x::l,vs=>by rw[zs,qX l];rfl
theorem StbF.nil{k:Nat}{w:World}{F:List Nat}:StbF (fun w=>At w (.slice none 0 0) k []) w F:=fun w' _ _ _ _ _=>At.nil w' k
def qdZ(l:List Int)(n:Nat):Bool:=l.all fun k=>decide (k<(n:Int))
theorem qaO{l:List Int}{n:Nat}(h:qdZ l n=true):∀k∈l,k<(n:Int):=fun k hk=>by simpa using List.all_eq_true.1 h k hk
def Tl{β:Type}(g0 g:Nat→List Value)(l0 l:List β)(p:Int):Prop:=∀j:Nat,p≤j→gv (g j) 0=gv (g0 j) 0∧l[j]?=l0[j]?
theorem Tl.refl{β:Type}(g:Nat→List Value)(l:List β)(p:Int):Tl g g l l p:=fun _ _=>⟨rfl,rfl⟩
theorem Tl.mono{β:Type}{g0 g:Nat→List Value}{l0 l:List β}{p p':Int}(h:Tl g0 g l0 l p)(hp:p≤p'):Tl g0 g l0 l p':=fun j hj=>h j (Int.le_trans hp hj)
theorem Tl.put{β:Type}{g0 g g2:Nat→List Value}{l0 l z:List β}{p p' a:Int}{y:β}(h:Tl g0 g l0 l p)(hu:upd l a y=some z)(hg:∀j:Nat,j≠a.toNat→g2 j=g j)(h1:p≤p')(h2:a<p'):Tl g0 g2 l0 z p':=by
 intro j hj
 obtain⟨h3,h4,rfl⟩:=vq hu
 have hne:j≠a.toNat:=by omega
 obtain⟨h5,h6⟩:=h j (by omega)
 rw[hg j hne,List.getElem?_set_ne (Ne.symm hne)]
 exact⟨h5,h6⟩
theorem Tl.idx{β:Type}{g0 g:Nat→List Value}{l0 l:List β}{p a:Int}{x:β}(h:Tl g0 g l0 l p)(hp:p≤a)(hi:idx l0 a=some x):idx l a=some x:=by
 obtain⟨h0,_,h2⟩:=qf hi
 have h3:=(h a.toNat (by omega)).2
 unfold S.idx
 rw[if_pos h0,h3,h2]
theorem Tl.gv{β:Type}{g0 g:Nat→List Value}{l0 l:List β}{p a:Int}{x:β}(h:Tl g0 g l0 l p)(hp:p≤a)(hi:S.idx l0 a=some x):S.gv (g a.toNat) 0=S.gv (g0 a.toNat) 0:=by
 obtain⟨h0,_,_⟩:=qf hi
 exact(h a.toNat (by omega)).1
theorem fl0:([]:List (List Value)).flatten.length=0:=rfl
theorem je:∀u∈([]:List (List Value)).flatten,u.oneCell'=true:=by simp
theorem qA{X:List Value}{S:List (List Value)}(h:∀u∈X,u.oneCell'=true)(hs:∀u∈S.flatten,u.oneCell'=true):∀u∈(X::S).flatten,u.oneCell'=true:=by
 intro u hu
 rw[List.flatten_cons]at hu
 rcases List.mem_append.1 hu with h1|h1
 ·exact h u h1
 ·exact hs u h1
theorem qaN{α:Type}{row:α→List Value}{vs:Nat→List Value}{l:List α}(h:Plain (l.map row)):∀u∈(zr (fzr row) vs l).flatten,u.oneCell'=true:=by
 intro u hu
 rw[qir]at hu
 obtain⟨r,hr,hur⟩:=List.mem_flatten.1 hu
 exact h r hr u hur
section
variable{P:Program}{Q:Exit→Act→World→Prop}{n:Nat}{C:World→Prop}{fs:Fr}{t:TypeId}{ops:Array Oper}{rest:List Oper}{d:Nat}{pos:String}{af:Array Edge}
variable{w0 w:World}{own:List Nat}{m:List As}{x y:Operand}{e te tx ty:TypeId}{i j k kk p q s c jj b si ps nn len:Nat}{v u:Value}{o:Nat}{vals X:List Value}{S A B B' D:List (List Value)}{ik:IntKind}
variable{α ρ:Type}{r:ρ}{row:α→List Value→List Value}{sds:α→List Value→List Sd}{vs vs':Nat→List Value}{l:List α}{a:Int}{u0 u1:α}{f:List α→Option ρ}
theorem cO(ha:qP P te true=true)(hs:szB P te nn=true)(hx:val fs x=some (pt b ps))(hm:m[q]?=some (.obj b S.flatten e))(hS:S[si]?=some X)(hp:(S.take si).flatten.length=ps)(hl:X.length=nn) :
  Y P (.load te x) t n fs (Cls w0 own m) (.agg X.toArray):=cv ha hs hx hm hl fun j u hu=>qa8 hS hp hu
theorem dh{β:Type}{rw':β→List Value}{lb:List β}(ha:qP P te true=true)(hs:szB P te nn=true)(hx:val fs x=some (pt b ps))(hm:m[q]?=some (.obj b S.flatten e))(hS:S[si]?=some (zr (fzr rw') vs lb).flatten)(hp:(S.take si).flatten.length=ps)(hl:(zr (fzr rw') vs lb).flatten.length=nn) :
  Y P (.load te x) t n fs (Cls w0 own m) (.agg (lb.map rw').flatten.toArray):=by
 have:=cO (t:=t) (n:=n) (w0:=w0) (own:=own) ha hs hx hm hS hp hl
 rwa [qir]at this
theorem dj{β:Type}{lb:List β}{z:β}(hu:P.underlying tx=some (.array len te))(ha:qP P te false=true)(hs:szB P te 1=true)(hx:val fs x=some (.agg (zr qn vs lb).flatten.toArray))(hy:val fs y=some (.int ik a))(hr:zd len lb a=some z) :
  Y P (.index tx x y) t n fs C (gv (vs a.toNat) 0):=
 bE fun d pos af g s w hs' hw=>by
  obtain⟨h0,h1,h2⟩:=qf (qm hr)
  have h3:=qbl hr
  have hf:(zr qn vs lb).flatten[a.toNat*1+0]?=some (gv (vs a.toNat) 0):=qR _ _ _ _ _ (fun r hr'=>qcf (row:=qn) (k:=1) (fun _ _=>rfl) _ _ r hr') (qce qn vs lb _ _ h2) rfl
  simp only[Nat.mul_one,Nat.add_zero]at hf
  simp only[execOp,hs'.eval hx,hs'.eval hy]
  simp[Instr.index,asIntOf,run_underlying hu,h0,h3,part,jr ha,qt hs,hf]
theorem d8{β:Type}{lb lb':List β}{z:β}{p0:Int}(hT:Tl vs vs' lb lb' p0)(hp:p0≤a)(hu:P.underlying tx=some (.array len te))(ha:qP P te false=true)(hs:szB P te 1=true)(hx:val fs x=some (.agg (zr qn vs lb).flatten.toArray))(hy:val fs y=some (.int ik a))(hr:zd len lb a=some z) :
  Y P (.index tx x y) t n fs C (gv (vs' a.toNat) 0):=by
 rw[hT.gv hp (qm hr)]
 exact dj hu ha hs hx hy hr
theorem db(h:qb (upd l a u1) f=some r)(hs:szB P te 1=true)(hx:val fs x=some (pt b o))(ho:o=ps+a.toNat*k+j)(hy:val fs y=some v){e':TypeId}{k' jj:Nat}{rows:List (List Value)}{L0:List Sd}{v1:List Value}
  (hm:m[q]?=some (.obj b S.flatten e)) (hS:S[si]?=some (zr row vs l).flatten) (hp0:(S.take si).flatten.length=ps) (hp:m[p]?=some (.sl v e' k' rows)) (hms:m[s]?=some (.ss L0)) (hL:L0=zs sds vs l∨L0=(zs sds vs l).set (a.toNat*c+jj) (Sd.nil 0 0)) (hlen:∀z v,(row z v).length=k) (hc:∀z v,(sds z v).length=c) (hr:idx l a=some u0) (hj:Nat.ble (j+1) k=true)
  (hrow:over (row u0 (vs a.toNat)) j [v]=row u1 v1) (hjj:Nat.blt jj c=true) (hsd:sds u1 v1=(sds u0 (vs a.toNat)).set jj ⟨v,e',k',rows⟩)
  (next:∀z vs',upd l a u1=some z→(∀j:Nat,j≠a.toNat→vs' j=vs j)→f z=some r→L P ops Q n (Cls w0 own (((m.set q (.obj b (S.set si (zr row vs' z).flatten).flatten e)).set s (.ss (zs sds vs' z))).eraseIdx p)) rest fs) :
  L P ops Q n (Cls w0 own m) (⟨none,.store te x y,t,pos,af,none⟩::rest) fs:=by
 subst ho
 have hj':j+1≤k:=by simpa using hj
 have hjj':jj<c:=by simpa [Nat.blt_eq]using hjj
 have hi:=qf hr
 refine bq hs hx hy (fun w hw=>(As.at_ (hw.get hp)).one) hm (qdB hlen hr hj' hS hp0) ?_
 rw[qdI hlen hr hj' hrow hS hp0]
 have hu1:upd l a u1=some (l.set a.toNat u1):=by unfold upd;rw[if_pos ⟨hi.1,hi.2.1⟩]
 refine aj (fun w hw=>?_) (next _ (vi vs a.toNat v1) hu1 (fun j hj=>by simp[vi,hj]) (vr h rfl))
 have hqs:q≠s:=by rintro rfl;rw[hm]at hms;cases hms
 have hqp:q≠p:=by rintro rfl;rw[hm]at hp;cases hp
 exact hw.zsPut (by rw[List.getElem?_set_ne hqp];exact hp) (by rw[List.getElem?_set_ne hqs];exact hms) hL hc hr hjj' hsd
theorem dR{β:Type}{rw':β→List Value}{lb lb':List β}(hs:szB P te nn=true)(hx:val fs x=some (pt b ps))(hy:val fs y=some (.agg (lb'.map rw').flatten.toArray))(hpl:Plain (lb'.map rw'))(hm:m[q]?=some (.obj b S.flatten e))(hS:S[si]?=some (zr (fzr rw') vs lb).flatten)(hp:(S.take si).flatten.length=ps)
  (hl:(zr (fzr rw') vs lb).flatten.length=nn) (hl':(zr (fzr rw') vs lb').flatten.length=nn) (next:L P ops Q n (Cls w0 own (m.set q (.obj b (S.set si (zr (fzr rw') vs lb').flatten).flatten e))) rest fs) :
  L P ops Q n (Cls w0 own m) (⟨none,.store te x y,t,pos,af,none⟩::rest) fs:=by
 rw[←qir (vs:=vs)]at hy
 have h2:=qa7 hS hp
 refine bS (vs:=(zr (fzr rw') vs lb').flatten) hs hx hy (by simp[Value.cells]) hl' (qaN hpl) hm (by omega) ?_
 have h3:=wU (q:=0) (vals:=(zr (fzr rw') vs lb').flatten) hS hp (by omega)
 rw[Nat.add_zero]at h3
 rw[h3]
 have:=vy (zr (fzr rw') vs lb').flatten (zr (fzr rw') vs lb).flatten [] (by rw[hl,hl'])
 simp only[List.nil_append,List.length_nil]at this
 rw[this]
 exact next
theorem qkw{A B D:List (List Value)}{v:Value}(h:B.flatten[j]?=some v):(A++B++D).flatten[A.flatten.length+j]?=some v:=by
 rw[List.append_assoc,List.flatten_append,List.flatten_append,List.getElem?_append_right (Nat.le_add_right _ _),Nat.add_sub_cancel_left,List.getElem?_append_left (List.getElem?_eq_some_iff.1 h).1]
 exact h
theorem bx(A B D:List (List Value))(ha:qP P te true=true)(hs:szB P te nn=true)(hx:val fs x=some (pt b ps))(hm:m[q]?=some (.obj b (A++B++D).flatten e))(hp:A.flatten.length=ps)(hl:B.flatten.length=nn):Y P (.load te x) t n fs (Cls w0 own m) (.agg B.flatten.toArray):=by
 subst hp
 exact cv ha hs hx hm hl fun j u hu=>qkw hu
theorem qiL{A B B' D:List (List Value)}(hl:B'.flatten.length=B.flatten.length):over (A++B++D).flatten A.flatten.length B'.flatten=(A++B'++D).flatten:=by
 rw[List.append_assoc,List.flatten_append,List.flatten_append]
 have h1:=wg B'.flatten A.flatten (B.flatten++D.flatten) 0
 rw[Nat.add_zero]at h1
 rw[h1,yl _ _ _ _ (by omega)]
 have:=vy B'.flatten B.flatten [] hl
 simp only[List.nil_append,List.length_nil]at this
 rw[this,List.append_assoc,List.flatten_append,List.flatten_append]
theorem ba(A B B' D:List (List Value))(hs:szB P te nn=true)(hx:val fs x=some (pt b ps))(hy:val fs y=some (.agg B'.flatten.toArray))(hall:∀u∈B'.flatten,u.oneCell'=true)(hm:m[q]?=some (.obj b (A++B++D).flatten e))(hp:A.flatten.length=ps)(hl:B.flatten.length=nn)(hl':B'.flatten.length=nn)
  (next:L P ops Q n (Cls w0 own (m.set q (.obj b (A++B'++D).flatten e))) rest fs):L P ops Q n (Cls w0 own m) (⟨none,.store te x y,t,pos,af,none⟩::rest) fs:=by
 refine bS (vs:=B'.flatten) hs hx hy (by simp[Value.cells]) hl' hall hm (by simp only[List.append_assoc,List.flatten_append,List.length_append];omega) ?_
 subst hp
 rw[qiL (hl'.trans hl.symm)]
 exact next
theorem ec{c:Code}(k:Nat)(h:W P (Exit.then (Code.rounds P c Q k) Q) n C c fs):W P Q n C (.loop c) fs:=fun a w hs hc=>wp_loop_rounds (k+1) (by rw[rounds_succ];exact h a w hs hc)
theorem dv{c:Code}{k:Nat}(h:W P (Exit.then (Code.rounds P c Q k) Q) n C c fs):E .normal (Exit.then (Code.rounds P c Q (k+1)) Q) n C fs:=fun a w hs hc=>by
 show Code.rounds P c Q (k+1) a w
 rw[rounds_succ]
 exact h a w hs hc
theorem bT{fn:Func}{R:Ending→World→Prop}{x1 x2 x3 x4:ResultVar}{v1 v2 v3 v4:Value}(hr:fn.results=#[x1,x2,x3,x4])(h1:Rv P fs C x1 v1)(h2:Rv P fs C x2 v2)(h3:Rv P fs C x3 v3)(h4:Rv P fs C x4 v4)(h:∀w,C w→R (.returned (.tuple #[v1,v2,v3,v4])) w):E .ret (bodyPost P fn R) n C fs:=by
 intro a w hs hc
 refine bodyPost_ret (v:=.tuple #[v1,v2,v3,v4]) ?_ hs.defers (h w hc)
 have e1:=h1.run hs hc
 have e2:=h2.run hs hc
 have e3:=h3.run hs hc
 have e4:=h4.run hs hc
 rw[we,hr]
 simp[e1,e2,e3,e4]
theorem cV{fn:Func}{R:Ending→World→Prop}{x1 x2 x3 x4:Tmp}{v1 v2 v3 v4:Value}(hr:fn.results=#[.tmp x1,.tmp x2,.tmp x3,.tmp x4])(h1:look fs x1=some v1)(h2:look fs x2=some v2)(h3:look fs x3=some v3)(h4:look fs x4=some v4)(h:∀w,C w→R (.returned (.tuple #[v1,v2,v3,v4])) w):E .ret (bodyPost P fn R) n C fs:=
 bT hr (aL h1) (aL h2) (aL h3) (aL h4) h
end
section
variable{P:Program}{Q:Exit→Act→World→Prop}{n:Nat}{fs:Fr}{w0:World}{own:List Nat}{m m':List As}{α ρ:Type}{r:ρ}{e:TypeId}{g:Nat→Nat}{gh:Nat→List Value}{l:List α}{u1:α}{hs:List Nat}{b:Nat}
theorem W.arNew{rowg:(Nat→Nat)→α→List Value→List Value}{subg:(Nat→Nat)→α→List Value→List As}{vs':List Value}{F:Int→List α→Option ρ}(is:List Nat)(h:qo (qal l u1) F=some r)(hn:is.Nodup)(hm:is.map (m[·]?)=((thg (rowg g) (subg g) e b vs' u1)++arn (rowg g) (subg g) e g gh l hs::m').map some)(hh:∀q∈hs,q<l.length)
  (hc:∀g',(∀i,i<l.length→g' i=g i)→∀x∈l++[u1],∀v,rowg g x v=rowg g' x v∧subg g x v=subg g' x v) {ll:Code}
  (next:∀g' gh' x z,F x z=some r→Gr g l.length g' z.length→pt b 0=VP g' x→(∀{q:Int} {u:α},idx l q=some u→idx z q=some u)→W P Q n (Cls w0 own (arn (rowg g') (subg g') e g' gh' z hs::m')) ll fs):W P Q n (Cls w0 own m) ll fs:=by
 intro ac w hs hw
 obtain⟨g',gh',h1,h2,h3⟩:=hw.arNew is hn hm hh hc
 exact next g' gh' _ _ h h1 h2 qbk ac w hs h3
end
end Go.S
end
section
namespace Go.S
def mmV(us:Int→Nat)(k:Int):Value:=.map (some (us k))
def qom(us:Int→Nat)(a:Int)(b:Nat):Int→Nat:=fun q=>if q=a then b else us q
def mms{β:Type}(g:β→Value)(us:Int→Nat)(l:List (Int×List (Int×β))):List As:=l.map fun p=>.mp (us p.1) (zw g p.2)
def qnR{α ρ:Type}(o:Option α)(A:Option ρ)(B:α→Option ρ):Option ρ:=match o with
 | none=>A
 | some x=>B x
@[simp] theorem ql0{α ρ:Type}(A:Option ρ)(B:α→Option ρ):qnR none A B=A:=rfl
@[simp] theorem qlZ{α ρ:Type}(x:α)(A:Option ρ)(B:α→Option ρ):qnR (some x) A B=B x:=rfl
section
variable{β:Type}{g:β→Value}{us:Int→Nat}{l:List (Int×List (Int×β))}{a:Int}{x x1:List (Int×β)}{b:Nat}
end
section
variable{w0 w:World}{own:List Nat}{m:List As}{L0 L1:List As}{A:As}
end
section
variable{P:Program}{Q:Exit→Act→World→Prop}{n:Nat}{fs:Fr}{C:World→Prop}{t:TypeId}{ops:Array Oper}{rest:List Oper}{d:Nat}{pos:String}{af:Array Edge}
variable{β ρ:Type}{r:ρ}{g:β→Value}{us:Int→Nat}{l:List (Int×List (Int×β))}{a c:Int}{x1:List (Int×β)}{v0:β}{F:List (Int×β)→Option ρ}{w0 w:World}{own:List Nat}{m:List As}{x y kv:Operand}{kt et tx e:TypeId}{i j p b:Nat}{v:Value}{L0:List As}
def qog(r:Nat):Res where
 foot:=[r]
 holds:=fun w=>w.heap[r]?=some (.mapIter none 0 #[] 0)
 congr:=fun h hb=>by rw[hb _ (by simp)];exact h
 lt:=fun h b hb=>by
  rw[List.mem_singleton]at hb
  subst hb
  exact(Array.getElem?_eq_some_iff.1 h).1
end
end Go.S
end
section
namespace Go.S
def nope:As:=.any ⟨[],fun _=>False,fun h _=>h,fun h=>h.elim⟩
def mpo{α:Type}(g:α→Value)(v:Value)(o:Option (List (Int×α))):As:=match v with
 | .map none=>match o with
  | none=>emp
  | some _=>nope
 | .map (some b)=>match o with
  | some l=>.mp b (zw g l)
  | none=>nope
 | _=>nope
def moL{α:Type}(o:Option (List (Int×α))):List (Int×α):=o.getD []
section
variable{P:Program}{Q:Exit→Act→World→Prop}{n:Nat}{fs:Fr}{C:World→Prop}{t:TypeId}{ops:Array Oper}{rest:List Oper}{d:Nat}{pos:String}{af:Array Edge}
variable{α:Type}{g:α→Value}{o:Option (List (Int×α))}{l:List (Int×α)}{w0 w:World}{own:List Nat}{m:List As}{x y:Operand}{kt et tx:TypeId}{i b:Nat}{v:Value}{a:Int}{z0:α}
theorem qa6{β:Type}{m:List β}{i:Nat}{x:β}(h:m[i]?=some x):m.set i x=m:=by
 obtain⟨hi,rfl⟩:=List.getElem?_eq_some_iff.1 h
 exact List.set_getElem_self hi
theorem qbf(h:nope.holds w):False:=h
theorem qg7(h:(mpo g v o).holds w):(v=.map none∧o=none)∨∃b l,v=.map (some b)∧o=some l:=by
 unfold mpo at h
 split at h
 ·split at h
  ·exact .inl ⟨rfl,rfl⟩
  ·exact(qbf h).elim
 ·split at h
  ·exact .inr ⟨_,_,rfl,rfl⟩
  ·exact(qbf h).elim
 ·exact(qbf h).elim
theorem Cls.emp(h:Cls w0 own m w):Cls w0 own (emp::m) w:=by
 refine⟨h.os,h.tape,h.output,h.dr,h.size,h.old,?_,fun y hy=>?_⟩
 ·exact h.nodup
 ·rcases List.mem_cons.1 hy with rfl|hy
  ·exact⟨fun d hd=>by simp at hd,fun b hb=>by simp[S.emp,As.foot]at hb⟩
  ·exact h.mine y hy
theorem Cls.mpoGet(h:Cls w0 own m w)(hm:m[i]?=some (mpo g v o)):(v=.map none∧o=none)∨∃b l,v=.map (some b)∧o=some l:=qg7 (h.get hm)
theorem Cls.mpoOut(h:Cls w0 own m w)(hm:m[i]?=some (mpo g v o))(hv:v=.map (some b))(ho:o=some l):Cls w0 own (m.set i (.mp b (zw g l))) w:=by
 subst hv ho
 rw[show m.set i (As.mp b (zw g l))=m from qa6 hm];exact h
theorem Cls.mpoBack(h:Cls w0 own m w)(hm:m[i]?=some (.mp b (zw g l)))(hv:v=.map (some b))(ho:o=some l):Cls w0 own (m.set i (mpo g v o)) w:=by
 subst hv ho
 rw[show m.set i (mpo g (Value.map (some b)) (some l))=m from qa6 hm];exact h
theorem L.mpoOut{ll:List Oper}(ho:o=some l)(hm:m[i]?=some (mpo g v o))(next:∀b,v=.map (some b)→L P ops Q n (Cls w0 own (m.set i (.mp b (zw g l)))) ll fs):L P ops Q n (Cls w0 own m) ll fs:=by
 intro ac w hs hw
 rcases hw.mpoGet hm with⟨_,h⟩|⟨b,l',hv,h⟩
 ·rw[ho]at h;cases h
 ·exact next b hv ac w hs (hw.mpoOut hm hv ho)
theorem cX(hu:P.underlying tx=some (.map kt et))(hk:P.underlying kt=some (.int .i64))(hz:((P.info? et).bind fun i=>i.zero)=some (g z0))(hx:val fs x=some (.map none))(hy:val fs y=some (.int .i64 a)) :
  Y P (.lookup tx x y true) t n fs C (.tuple #[g z0,.bool false]):=
 bE fun d pos af gd s w hs hw=>by
  simp only[execOp,hs.eval hx,hs.eval hy]
  rcases vB (P:=P) (l:=[]) (es:=#[]) w hk rfl a with⟨h1,_,_⟩|⟨j,u,e,h1,h2,_⟩
  ·have h1':(Instr.findKey kt (.int .i64 a) []).run P w=.ok none w:=h1
   simp[Instr.lookup,run_underlying hu,MapKept.run_checkKey hk (show MapKept.IsKey (.int .i64) (.int .i64 a) from rfl),h1',wd hz]
  ·simp at h2
theorem b0(hu:P.underlying tx=some (.map kt et))(hk:P.underlying kt=some (.int .i64))(hz:((P.info? et).bind fun i=>i.zero)=some (g z0))(hx:val fs x=some v)(hy:val fs y=some (.int .i64 a))(hm:m[i]?=some (mpo g v o)) :
  Y P (.lookup tx x y true) t n fs (Cls w0 own m) (.tuple #[g (ju (moL o) a z0),.bool (vp (moL o) a)]):=by
 intro d pos af gd s w hs hw
 rcases hw.mpoGet hm with⟨rfl,rfl⟩|⟨b,l,rfl,rfl⟩
 ·exact cX (P:=P) (t:=t) (n:=n) hu hk hz hx hy d pos af gd s w hs hw
 ·exact dw (P:=P) (t:=t) (n:=n) (w0:=w0) (own:=own) (g:=g) (z0:=z0) hu hk hz hx hy hm rfl d pos af gd s w hs hw
theorem dI(hu:P.underlying tx=some (.map kt et))(hx:val fs x=some (.map none)):Y P (.call ⟨.builtin .len,#[x],#[tx]⟩) t n fs C (.int .i64 0):=
 bE fun d pos af gd s w hs hw=>by
  simp only[execOp,resolve,List.map_toArray,List.map_cons,List.map_nil,hs.eval hx]
  simp[invoke,builtin,Builtin.len_,run_underlying hu,goInt]
theorem fh(hu:P.underlying tx=some (.map kt et))(hx:val fs x=some v)(hm:m[i]?=some (mpo g v o)):Y P (.call ⟨.builtin .len,#[x],#[tx]⟩) t n fs (Cls w0 own m) (.int .i64 (moL o).length):=by
 intro d pos af gd s w hs hw
 rcases hw.mpoGet hm with⟨rfl,rfl⟩|⟨b,l,rfl,rfl⟩
 ·exact dI (P:=P) (t:=t) (n:=n) hu hx d pos af gd s w hs hw
 ·exact d6 (P:=P) (t:=t) (n:=n) (w0:=w0) (own:=own) (g:=g) (lm:=l) hu hx hm rfl d pos af gd s w hs hw
theorem qcn{tp te:TypeId}{j:TypeInfo}(w:World)(a:Addr)(hp:P.underlying tp=some (.pointer te))(hte:P.info? te=some j):(binOp .neq tp (.pointer (some a)) (.pointer (some a))).run P w=.ok (.bool false) w:=by
 have h:∀d:Nat,(Op.equalIn (d+1) tp (.pointer (some a)) (.pointer (some a))).run P w=.ok true w:=fun d=>by
  simp[Op.equalIn,run_underlying hp,sizeOf,typeInfo,hte,run_sameAddr_same]
 simp only[binOp]
 simp[Op.equal,Op.maxDepth,h 9999]
theorem qba{tp te:TypeId}{j:TypeInfo}(w:World){a b:Addr}{ca cb:Array Value}{ta tb:TypeId}(hp:P.underlying tp=some (.pointer te))(hte:P.info? te=some j)(hsz:j.size≠0)
  (hne:a≠b) (ha:w.heap[a.block]?=some (.cells ca ta (0,0))) (hb:w.heap[b.block]?=some (.cells cb tb (0,0))):(binOp .neq tp (.pointer (some a)) (.pointer (some b))).run P w=.ok (.bool true) w:=by
 have h:∀d:Nat,(Op.equalIn (d+1) tp (.pointer (some a)) (.pointer (some b))).run P w=.ok false w:=fun d=>by
  simp[Op.equalIn,run_underlying hp,sizeOf,typeInfo,hte,hsz,run_sameAddr_other w hne ha hb]
 simp only[binOp]
 simp[Op.equal,Op.maxDepth,h 9999]
theorem eM{e ty k:TypeId}{row:α→List Value→List Value}{sub:α→List Value→List As}{g:Nat→Nat}{gh:Nat→List Value}{l:List α}{p:Nat}{a b:Int}{u0 u1:α}(hu:P.underlying tx=some (.pointer e))(hz:qlp P e=true)(hx:val fs x=some (VP g a))(hy:val fs y=some (VP g b))(hm:m[p]?=some (arn row sub k g gh l []))(ha:idx l a=some u0)(hb:idx l b=some u1) :
  Y P (.binOp .neq tx x y ty) t n fs (Cls w0 own m) (.bool (decide (a≠b))):=by
 have h0:=(qf ha).1
 have h1:=(qf hb).1
 rw[qbw h0]at hx
 rw[qbw h1]at hy
 unfold qlp at hz
 cases hj:P.info? e with
 | none=>rw[hj]at hz;cases hz
 | some j =>
  rw[hj]at hz
  have hz':j.size≠0:=by
   have:0<j.size:=by simpa [Nat.blt_eq]using hz
   omega
  refine bE fun d pos af gd s w hs hw=>?_
  have hg:(eqGuard .neq tx x y (pt (g a.toNat) 0) (pt (g b.toNat) 0)).run P w=.ok () w:=by simp[eqGuard,pt]
  simp only[execOp,hs.eval hx,hs.eval hy]
  by_cases c:a=b
  ·subst c
   rw[decide_eq_false (by simp)]
   simp[hg]
   simp[pt,qcn w _ hu hj]
  ·rw[decide_eq_true c]
   have hne:=hw.arNe hm ha hb c
   simp[hg]
   simp[pt,qba w hu hj hz' (a:=⟨g a.toNat,0,none⟩) (b:=⟨g b.toNat,0,none⟩) (fun h=>hne (congrArg Addr.block h)) (hw.arAt hm ha) (hw.arAt hm hb)]
end
end Go.S
end
