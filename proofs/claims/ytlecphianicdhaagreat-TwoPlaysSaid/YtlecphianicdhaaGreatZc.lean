import Derived.Test.YtlecphianicdhaaGreatZb
import Derived.Sort.OwnSortedInts
import Derived.Lib.SlicesCompact
import Derived.Shelf.SlSortCmp.NoneTotal
import Derived.Maps.RangeRun
section
namespace Go.S
set_option linter.unusedVariables false
set_option linter.unusedSimpArgs false
def held (c:List Ob) (w:World):Prop:=∀ o∈c,w.heap[o.b]?=some (.cells o.c.toArray o.e (0,0))
def Fz (K:World→Prop) (c:List Ob) (v:Value) (k:Nat) (rows:List (List Value)):Prop:=∀ w,K w→held c w→At w v k rows
def Stb (K:World→Prop) (w:World):Prop:=∀ w',RowKit.Below w.heap.size w w'→K w'
def Kn (K:World→Prop) (c:List Ob) (w:World):Prop:=K w∧held c w
def Mo (c c':List Ob):Prop:=∀ w,held c' w→held c w
section
variable {K:World→Prop} {c c':List Ob} {v u:Value} {k:Nat} {rows:List (List Value)} {w0 w w':World} {own:List Nat} {m:List As} {e:TypeId} {i j s:Nat}
theorem Fz.up (h:Fz K [] v k rows):Fz K c v k rows:=fun w hk _=>h w hk (by intro o ho;cases ho)
theorem Fz.mo (h:Fz K c v k rows) (hm:Mo c c'):Fz K c' v k rows:=fun w hk hc=>h w hk (hm w hc)
theorem Fz.tok (h:Fz K c v k rows):Fz (Kn K c) [] v k rows:=fun w hk _=>h w hk.1 hk.2
theorem Fz.nil:Fz K c (.slice none 0 0) k []:=fun w _ _=>At.nil w k
section
variable {α:Type} {g:α→List Value} {l z:List α} {lo hi:Int}
theorem Fz.cutM (hA:Fz K c v k (l.map g)) (h:cut l 0 hi=some z):Fz K c (cutv v hi.toNat) k (z.map g):=fun w hk hc=>(hA w hk hc).cutM h
theorem Fz.dropM (hA:Fz K c v k (l.map g)) (h:cut l lo l.length=some z):Fz K c (dropv v lo.toNat k) k (z.map g):=fun w hk hc=>(hA w hk hc).dropM h
end
def FzA (K:World→Prop) (c:List Ob) (L:List Sd):Prop:=∀ d∈L,Fz K c d.v d.k d.rows
theorem FzA.up {L:List Sd} (h:FzA K [] L):FzA K c L:=fun d hd=>(h d hd).up
theorem FzA.mo {L:List Sd} (h:FzA K c L) (hm:Mo c c'):FzA K c' L:=fun d hd=>(h d hd).mo hm
theorem FzA.tok {L:List Sd} (h:FzA K c L):FzA (Kn K c) [] L:=fun d hd=>(h d hd).tok
theorem FzA.nil:FzA K c []:=fun d hd=>by cases hd
theorem FzA.cons {d:Sd} {L:List Sd} (h:Fz K c d.v d.k d.rows) (hL:FzA K c L):FzA K c (d :: L):=List.forall_mem_cons.2 ⟨h,hL⟩
theorem FzA.app {L L':List Sd} (h:FzA K c L) (h':FzA K c L'):FzA K c (L++L'):=fun d hd=>by
 rcases List.mem_append.1 hd with h1 | h1
 ·exact h d h1
 ·exact h' d h1
theorem FzA.at {α:Type} {sds:α→List Value→List Sd} {vs:Nat→List Value} {l:List α} {a:Int} {u0:α} (hd:FzA K c (zs sds vs l)) {nl:Nat} (hc:∀ z v,(sds z v).length=nl) (hr:idx l a=some u0) (hj:(sds u0 (vs a.toNat))[j]?=some ⟨v,e,k,rows⟩):Fz K c v k rows:=fun w hk hh =>
 zAt (fun d hd'=>hd d hd' w hk hh) hc hr hj
theorem Stb.kn (hK:Stb K w0) (hw:Cls w0 [] m w) (hl:m.getLast?=some (.os c)):Stb (Kn K c) w:=by
 have hm:As.os c∈m:=List.mem_of_getLast? hl
 intro w' hb
 have h1:=hw.below
 refine ⟨hK w' ⟨hb.os.trans h1.os,hb.tape.trans h1.tape,hb.output.trans h1.output,Nat.le_trans h1.size hb.size,fun q hq=>?_⟩,fun o ho=>?_⟩
 ·rw [hb.block q (Nat.lt_of_lt_of_le hq h1.size),h1.block q hq]
 ·have h2:=(hw.mine _ hm).1 o ho
  rw [hb.block o.b (Array.getElem?_eq_some_iff.1 h2).1,h2]
theorem Mo.refl:Mo c c:=fun _ h=>h
theorem Mo.app1 {c2:List Ob}:Mo c (c2++c):=fun _ h o ho=>h o (List.mem_append_right _ ho)
theorem Mo.trans {c1 c2 c3:List Ob} (h:Mo c1 c2) (h':Mo c2 c3):Mo c1 c3:=fun w hw=>h w (h' w hw)
theorem Cls.frz0 (hw:Cls w0 own (.sl v e k rows :: .os c :: m) w):∃ c',Mo c c'∧(∀ K,Fz K c' v k rows)∧Cls w0 own (.os c' :: m) w:=by
 have hx:=(hw.mine (.sl v e k rows) (by simp)).1
 have ho:=(hw.mine (.os c) (by simp)).1
 obtain ⟨h1,h2,h3⟩:=hx
 rcases h3 with ⟨rfl,h0⟩ | ⟨g,cap,cur,rfl,hg,hh,r⟩
 ·obtain rfl:rows=[]:=List.length_eq_zero_iff.1 h0
  exact ⟨c,Mo.refl,fun K=>Fz.nil,hw.sublist (List.sublist_cons_self _ _)⟩
 ·refine ⟨⟨g,cur.toList,e⟩ :: c,fun w' h o ho=>h o (List.mem_cons_of_mem _ ho),fun K w' _ hc=>?_,?_⟩
  ·have h5:w'.heap[g]?=w.heap[g]?:=by
    have:=hc ⟨g,cur.toList,e⟩ (by simp)
    rw [this,hh]
   exact As.at_ (As.holds_congr (x:=.sl _ e k rows) ⟨h1,h2,.inr ⟨g,cap,cur,rfl,hg,hh,r⟩⟩ fun b hb=>by
    simp only [As.foot,Value.ownBlock,Option.toList_some,List.mem_singleton] at hb
    rw [hb];exact h5)
  ·refine hw.rePerm ?_ fun z hz=>?_
   ·simp only [List.flatMap_cons,As.foot,Value.ownBlock,Option.toList_some,List.map_cons,List.singleton_append,List.cons_append,List.nil_append]
    exact List.Perm.refl _
   ·rcases List.mem_cons.1 hz with rfl | hz
    ·intro o ho'
     rcases List.mem_cons.1 ho' with rfl | ho'
     ·exact hh
     ·exact ho o ho'
    ·exact (hw.mine z (by simp [hz])).1
theorem Cls.frzS0:∀ {L:List Sd} {c:List Ob},Cls w0 own (.ss L :: .os c :: m) w→∃ c',Mo c c'∧(∀ K,FzA K c' L)∧Cls w0 own (.os c' :: m) w
 | [],c,hw=>⟨c,Mo.refl,fun K=>FzA.nil,hw.sublist (List.sublist_cons_self _ _)⟩
 | ⟨v,e,k,rows⟩ :: L,c,hw=>by
  have h1:Cls w0 own (.sl v e k rows :: .os c :: .ss L :: m) w:=by
   refine hw.rePerm ?_ fun z hz=>?_
   ·simp only [List.flatMap_cons]
    show (Sd.foot ⟨v,e,k,rows⟩++((As.os c).foot++((As.ss L).foot++_))).Perm ((Sd.foot ⟨v,e,k,rows⟩++L.flatMap Sd.foot)++((As.os c).foot++_))
    rw [List.append_assoc]
    refine List.Perm.append_left _ ?_
    rw [← List.append_assoc,← List.append_assoc]
    exact List.Perm.append_right _ List.perm_append_comm
   ·rcases List.mem_cons.1 hz with rfl | hz
    ·exact (hw.mine (.ss (⟨v,e,k,rows⟩ :: L)) (by simp)).1 _ (List.mem_cons_self ..)
    ·rcases List.mem_cons.1 hz with rfl | hz
     ·exact (hw.mine (.os c) (by simp)).1
     ·rcases List.mem_cons.1 hz with rfl | hz
      ·intro d hd
       exact (hw.mine (.ss (⟨v,e,k,rows⟩ :: L)) (by simp)).1 d (List.mem_cons_of_mem _ hd)
      ·exact (hw.mine z (by simp [hz])).1
  obtain ⟨c1,hm1,hf1,h2⟩:=h1.frz0
  obtain ⟨c2,hm2,hf2,h3⟩:=Cls.frzS0 (h2.perm (List.Perm.swap ..))
  exact ⟨c2,hm1.trans hm2,fun K=>FzA.cons ((hf1 K).mo hm2) (hf2 K),h3⟩
theorem perm_two {m:List As} {i:Nat} {x y:As} (hi:m[i]?=some x) (hl:m.getLast?=some y) (hn:Nat.blt (i+1) m.length=true):m.Perm (x :: y :: (m.eraseIdx i).dropLast)∧(m.eraseIdx i).getLast?=some y:=by
 have hn':i+1 < m.length:=by simpa [Nat.blt_eq] using hn
 obtain ⟨h1,h2⟩:=List.getElem?_eq_some_iff.1 hi
 have hp:m.Perm (x :: m.eraseIdx i):=by
  have:=perm_head m i h1
  rwa [h2] at this
 have hl2:(m.eraseIdx i).getLast?=some y:=by
  rw [List.getLast?_eq_getElem?] at hl ⊢
  rw [List.length_eraseIdx_of_lt h1,List.getElem?_eraseIdx_of_ge (by omega)]
  rwa [show m.length - 1 - 1+1=m.length - 1 by omega]
 refine ⟨hp.trans (List.Perm.cons x ?_),hl2⟩
 have hne:m.eraseIdx i≠[]:=by
  intro h0
  rw [h0] at hl2
  cases hl2
 have h5:=List.dropLast_concat_getLast hne
 have h6:(m.eraseIdx i).getLast hne=y:=by
  rw [List.getLast?_eq_some_getLast hne] at hl2
  exact Option.some.inj hl2
 rw [h6] at h5
 calc (m.eraseIdx i).Perm ((m.eraseIdx i).dropLast++[y]):=by rw [h5]
  _ |>.Perm (y :: (m.eraseIdx i).dropLast):=List.perm_append_comm
theorem Cls.frz (hw:Cls w0 own m w) (hi:m[i]?=some (.sl v e k rows)) (hl:m.getLast?=some (.os c)) (hn:Nat.blt (i+1) m.length=true) :
  ∃ c',Mo c c'∧(∀ K,Fz K c' v k rows)∧Cls w0 own ((m.eraseIdx i).dropLast++[.os c']) w:=by
 obtain ⟨c',h1,h2,h3⟩:=(hw.perm (perm_two hi hl hn).1.symm).frz0
 exact ⟨c',h1,h2,h3.perm List.perm_append_comm⟩
theorem Cls.frzS {L:List Sd} (hw:Cls w0 own m w) (hi:m[i]?=some (.ss L)) (hl:m.getLast?=some (.os c)) (hn:Nat.blt (i+1) m.length=true) :
  ∃ c',Mo c c'∧(∀ K,FzA K c' L)∧Cls w0 own ((m.eraseIdx i).dropLast++[.os c']) w:=by
 obtain ⟨c',h1,h2,h3⟩:=(hw.perm (perm_two hi hl hn).1.symm).frzS0
 exact ⟨c',h1,h2,h3.perm List.perm_append_comm⟩
end
section
variable {K:World→Prop} {c c':List Ob} {P:Program} {Q:Exit→Act→World→Prop} {n:Nat} {C:World→Prop} {fs:Fr} {t:TypeId} {ops:Array Oper} {rest:List Oper} {d:Nat} {pos:String} {af:Array Edge}
variable {w0 w:World} {own:List Nat} {m:List As} {x y z:Operand} {e te tx ty:TypeId} {i j k kk by' p q s b:Nat} {v u:Value} {rows:List (List Value)}
theorem L.frz {ll:List Oper} (hi:m[i]?=some (.sl v e k rows)) (hl:m.getLast?=some (.os c)) (hn:Nat.blt (i+1) m.length=true) (next:∀ c',Mo c c'→(∀ K,Fz K c' v k rows)→L P ops Q n (Cls w0 own ((m.eraseIdx i).dropLast++[.os c'])) ll fs):L P ops Q n (Cls w0 own m) ll fs:=by
 intro a w hs hw
 obtain ⟨c',h1,h2,h3⟩:=hw.frz hi hl hn
 exact next c' h1 h2 a w hs h3
theorem W.frz {ll:Code} (hi:m[i]?=some (.sl v e k rows)) (hl:m.getLast?=some (.os c)) (hn:Nat.blt (i+1) m.length=true) (next:∀ c',Mo c c'→(∀ K,Fz K c' v k rows)→W P Q n (Cls w0 own ((m.eraseIdx i).dropLast++[.os c'])) ll fs):W P Q n (Cls w0 own m) ll fs:=by
 intro a w hs hw
 obtain ⟨c',h1,h2,h3⟩:=hw.frz hi hl hn
 exact next c' h1 h2 a w hs h3
theorem E.frz {ex:Exit} (hi:m[i]?=some (.sl v e k rows)) (hl:m.getLast?=some (.os c)) (hn:Nat.blt (i+1) m.length=true) (next:∀ c',Mo c c'→(∀ K,Fz K c' v k rows)→E ex Q n (Cls w0 own ((m.eraseIdx i).dropLast++[.os c'])) fs):E ex Q n (Cls w0 own m) fs:=by
 intro a w hs hw
 obtain ⟨c',h1,h2,h3⟩:=hw.frz hi hl hn
 exact next c' h1 h2 a w hs h3
theorem L.frzS {ll:List Oper} {L0:List Sd} (hi:m[i]?=some (.ss L0)) (hl:m.getLast?=some (.os c)) (hn:Nat.blt (i+1) m.length=true) (next:∀ c',Mo c c'→(∀ K,FzA K c' L0)→L P ops Q n (Cls w0 own ((m.eraseIdx i).dropLast++[.os c'])) ll fs):L P ops Q n (Cls w0 own m) ll fs:=by
 intro a w hs hw
 obtain ⟨c',h1,h2,h3⟩:=hw.frzS hi hl hn
 exact next c' h1 h2 a w hs h3
theorem W.frzS {ll:Code} {L0:List Sd} (hi:m[i]?=some (.ss L0)) (hl:m.getLast?=some (.os c)) (hn:Nat.blt (i+1) m.length=true) (next:∀ c',Mo c c'→(∀ K,FzA K c' L0)→W P Q n (Cls w0 own ((m.eraseIdx i).dropLast++[.os c'])) ll fs):W P Q n (Cls w0 own m) ll fs:=by
 intro a w hs hw
 obtain ⟨c',h1,h2,h3⟩:=hw.frzS hi hl hn
 exact next c' h1 h2 a w hs h3
theorem E.frzS {ex:Exit} {L0:List Sd} (hi:m[i]?=some (.ss L0)) (hl:m.getLast?=some (.os c)) (hn:Nat.blt (i+1) m.length=true) (next:∀ c',Mo c c'→(∀ K,FzA K c' L0)→E ex Q n (Cls w0 own ((m.eraseIdx i).dropLast++[.os c'])) fs):E ex Q n (Cls w0 own m) fs:=by
 intro a w hs hw
 obtain ⟨c',h1,h2,h3⟩:=hw.frzS hi hl hn
 exact next c' h1 h2 a w hs h3
theorem Cls.reflF (w:World):Cls w [] [.os []] w:=⟨rfl,rfl,rfl,DR.refl _,Nat.le_refl _,fun _ _ _=>rfl,by simp [As.foot],fun x hx=>by
 simp only [List.mem_singleton] at hx
 subst hx
 exact ⟨(fun o ho=>nomatch ho),(fun b hb=>by simp [As.foot] at hb)⟩⟩
variable {α ρ:Type} {r:ρ} {row:α→List Value→List Value} {sds:α→List Value→List Sd} {vs vs2:Nat→List Value} {l l2:List α} {a:Int} {u0 u1:α} {f:List α→Option ρ}
def PlZ (row:α→List Value→List Value) (sds:α→List Value→List Sd):Prop:=∀ x v,(∀ d∈sds x v,d.v.oneCell'=true)→∀ u∈row x v,u.oneCell'=true
theorem plain_zr (hp:PlZ row sds):∀ {vs:Nat→List Value} {l:List α},(∀ d∈zs sds vs l,d.v.oneCell'=true)→Plain (zr row vs l)
 | vs,[],_=>by intro r hr;cases hr
 | vs,x :: l,h=>by
  intro r hr
  rcases List.mem_cons.1 hr with rfl | hr
  ·exact hp x (vs 0) fun d hd=>h d (List.mem_append_left _ hd)
  ·exact plain_zr hp (vs:=fun i=>vs (i+1)) (l:=l) (fun d hd=>h d (List.mem_append_right _ hd)) r hr
def Sd.as (d:Sd):As:=.sl d.v d.e d.k d.rows
theorem Cls.gath:∀ {ds:List Sd} {m:List As},Cls w0 own (ds.map Sd.as++m) w→Cls w0 own (.ss ds :: m) w
 | [],m,h=>h.ss0
 | d :: ds,m,h=>by
  have h1:Cls w0 own (ds.map Sd.as++(d.as :: m)) w:=h.perm (by simp)
  have h2:=Cls.gath (ds:=ds) h1
  exact (h2.perm (List.Perm.swap ..)).ssCons
theorem L.gath {ll:List Oper} (ds:List Sd) (h:L P ops Q n (Cls w0 own (.ss ds :: m)) ll fs):L P ops Q n (Cls w0 own (ds.map Sd.as++m)) ll fs:=L.to (fun _ hw=>hw.gath) h
structure Rw (k:Nat) where
 r:List Value
 len:r.length=k
 one:∀ u∈r,u.oneCell'=true
theorem rw_of:∀ {rows:List (List Value)},(∀ r∈rows,r.length=k)→Plain rows→∃ q:List (Rw k),rows=q.map Rw.r
 | [],_,_=>⟨[],rfl⟩
 | r :: rows,h1,h2=>by
  obtain ⟨q,hq⟩:=rw_of (fun r hr=>h1 r (List.mem_cons_of_mem _ hr)) (fun r hr=>h2 r (List.mem_cons_of_mem _ hr))
  have e1:=h1 r (List.mem_cons_self ..)
  have e2:=h2 r (List.mem_cons_self ..)
  exact ⟨⟨r,e1,e2⟩ :: q,by simp [← hq]⟩
def gtake (vs:Nat→List Value) (n:Nat):Nat→List Value:=vs
theorem zr_take:∀ (vs:Nat→List Value) (l:List α) (n:Nat),zr row vs (l.take n)=(zr row vs l).take n
 | vs,[],n=>by simp [zr]
 | vs,x :: l,0=>by simp [zr]
 | vs,x :: l,n+1=>by simp only [List.take_succ_cons,zr];rw [zr_take]
theorem zr_drop:∀ (vs:Nat→List Value) (l:List α) (n:Nat),zr row (fun q=>vs (q+n)) (l.drop n)=(zr row vs l).drop n
 | vs,[],n=>by simp [zr]
 | vs,x :: l,0=>rfl
 | vs,x :: l,n+1=>by
  simp only [List.drop_succ_cons,zr]
  rw [← zr_drop (fun q=>vs (q+1)) l n]
  rfl
theorem zs_take:∀ (vs:Nat→List Value) (l:List α) (n:Nat),∀ d∈zs sds vs (l.take n),d∈zs sds vs l
 | vs,[],n,d,h=>by simp [zs] at h
 | vs,x :: l,0,d,h=>by simp [zs] at h
 | vs,x :: l,n+1,d,h=>by
  simp only [List.take_succ_cons,zs,List.mem_append] at h ⊢
  rcases h with h | h
  ·exact .inl h
  ·exact .inr (zs_take _ l n d h)
theorem zs_drop:∀ (vs:Nat→List Value) (l:List α) (n:Nat),∀ d∈zs sds (fun q=>vs (q+n)) (l.drop n),d∈zs sds vs l
 | vs,[],n,d,h=>by simp [zs] at h
 | vs,x :: l,0,d,h=>h
 | vs,x :: l,n+1,d,h=>by
  simp only [List.drop_succ_cons,zs,List.mem_append] at h ⊢
  refine .inr (zs_drop (fun q=>vs (q+1)) l n d ?_)
  have e1:(fun q=>vs (q+(n+1)))=fun q=>(fun q=>vs (q+1)) (q+n):=by
   funext q
   show vs (q+(n+1))=vs (q+n+1)
   rw [Nat.add_assoc]
  rwa [e1] at h
theorem zs_mem_take {vs:Nat→List Value} {l:List α} {A:Nat}:FzA K c (zs sds vs l)→FzA K c (zs sds vs (l.take A)):=fun h d hd=>h d (zs_take _ _ _ d hd)
theorem zs_mem_drop {vs:Nat→List Value} {l:List α} {A:Nat}:FzA K c (zs sds vs l)→FzA K c (zs sds (fun q=>vs (q+A)) (l.drop A)):=fun h d hd=>h d (zs_drop _ _ _ d hd)
def zsd {α:Type} (sds:α→List Value→List Sd) (vs:Nat→List Value) (l:List α) (j:Nat):List Sd:=zs sds (fun q=>vs (q+j)) (l.drop j)
theorem zs_dropF:∀ (vs:Nat→List Value) (l:List α) (n:Nat),(zs sds (fun q=>vs (q+n)) (l.drop n)).Sublist (zs sds vs l)
 | vs,[],n=>by simp [zs]
 | vs,x :: l,0=>List.Sublist.refl _
 | vs,x :: l,n+1=>by
  simp only [List.drop_succ_cons,zs]
  have:=zs_dropF (fun q=>vs (q+1)) l n
  have e1:(fun q=>vs (q+(n+1)))=fun q=>(fun q=>vs (q+1)) (q+n):=by
   funext q
   show vs (q+(n+1))=vs (q+n+1)
   rw [Nat.add_assoc]
  rw [e1]
  exact this.trans (List.sublist_append_right _ _)
theorem zsd_sub {j j':Nat} (h:j≤j'):(zsd sds vs l j').Sublist (zsd sds vs l j):=by
 have:=zs_dropF (sds:=sds) (fun q=>vs (q+j)) (l.drop j) (j' - j)
 unfold zsd
 rw [List.drop_drop,show j+(j' - j)=j' by omega] at this
 have e1:(fun q=>vs (q+j'))=fun q=>(fun q=>vs (q+j)) (q+(j' - j)):=by
  funext q
  show vs (q+j')=vs (q+(j' - j)+j)
  rw [show q+(j' - j)+j=q+j' by omega]
 rw [e1]
 exact this
theorem Cls.ssSubl {L0 L1:List Sd} (hw:Cls w0 own m w) (hm:m[s]?=some (.ss L0)) (hs:L1.Sublist L0):Cls w0 own (m.set s (.ss L1)) w :=
 hw.ssLess hm (fun b hb=>by
  obtain ⟨d,hd,hb⟩:=List.mem_flatMap.1 hb
  exact List.mem_flatMap.2 ⟨d,hs.subset hd,hb⟩) (fun hn=>hn.sublist (by
   clear hn hm
   induction hs with
   | slnil=>simp
   | cons a _ ih=>simp only [List.flatMap_cons];exact ih.trans (List.sublist_append_right _ _)
   | cons_cons a _ ih=>simp only [List.flatMap_cons];exact List.Sublist.append (List.Sublist.refl _) ih)) (fun hh d hd=>hh d (hs.subset hd))
theorem Cls.ungath:∀ {ds L0:List Sd} {m:List As},Cls w0 own (.ss (ds++L0) :: m) w→Cls w0 own (ds.map Sd.as++(.ss L0 :: m)) w
 | [],L0,m,h=>h
 | ⟨v,e,k,rows⟩ :: ds,L0,m,h=>by
  have h1:Cls w0 own (.ss (ds++L0) :: .sl v e k rows :: m) w:=by
   refine h.rePerm ?_ fun z hz=>?_
   ·simp only [List.flatMap_cons]
    show ((As.ss (ds++L0)).foot++(Sd.foot ⟨v,e,k,rows⟩++_)).Perm ((Sd.foot ⟨v,e,k,rows⟩++(ds++L0).flatMap Sd.foot)++_)
    rw [← List.append_assoc]
    exact List.Perm.append_right _ List.perm_append_comm
   ·have hh:=(h.mine (.ss (⟨v,e,k,rows⟩ :: ds++L0)) (by simp)).1
    rcases List.mem_cons.1 hz with rfl | hz
    ·exact fun d hd=>hh d (List.mem_cons_of_mem _ hd)
    ·rcases List.mem_cons.1 hz with rfl | hz
     ·exact hh _ (List.mem_cons_self ..)
     ·exact (h.mine z (by simp [hz])).1
  have h2:=Cls.ungath h1
  refine h2.perm ?_
  rw [List.map_cons,List.cons_append]
  show (As.sl v e k rows :: (ds.map Sd.as++As.ss L0 :: m)).Perm (ds.map Sd.as++(As.ss L0 :: As.sl v e k rows :: m))
  refine List.Perm.trans ?_ (List.Perm.append_left _ (List.Perm.swap ..))
  exact List.perm_middle.symm
theorem L.ssPop {ll:List Oper} {j:Nat} (hm:m[s]?=some (.ss (zsd sds vs l j))) (hr:idx l a=some u0) (hj:j≤a.toNat)
  (next:L P ops Q n (Cls w0 own ((sds u0 (vs a.toNat)).map Sd.as++(.ss (zsd sds vs l (a+1:Int).toNat) :: m.eraseIdx s))) ll fs):L P ops Q n (Cls w0 own m) ll fs:=by
 refine L.to (fun w hw=>?_) next
 obtain ⟨h0,h1,h2⟩:=idx_some hr
 rw [show (a+1:Int).toNat=a.toNat+1 by omega]
 have hd:zsd sds vs l a.toNat=sds u0 (vs a.toNat)++zsd sds vs l (a.toNat+1):=by
  obtain ⟨h3,h4⟩:=List.getElem?_eq_some_iff.1 h2
  unfold zsd
  rw [List.drop_eq_getElem_cons h3,h4,zs]
  simp only [Nat.zero_add]
  congr 2
  funext q
  rw [show q+1+a.toNat=q+(a.toNat+1) by omega]
 have hw1:=hw.ssSubl hm (zsd_sub (sds:=sds) (vs:=vs) (l:=l) hj)
 rw [hd] at hw1
 have hsl:=(List.getElem?_eq_some_iff.1 hm).1
 have hp:=perm_head (m.set s (.ss (sds u0 (vs a.toNat)++zsd sds vs l (a.toNat+1)))) s (by simpa using hsl)
 rw [List.getElem_set_self,eraseIdx_set_self] at hp
 exact (hw1.perm hp.symm).ungath
theorem L.frmLe {ll:List Oper} {j j':Nat} (hm:m[s]?=some (.ss (zsd sds vs l j))) (hj:j≤j') (next:L P ops Q n (Cls w0 own (m.set s (.ss (zsd sds vs l j')))) ll fs):L P ops Q n (Cls w0 own m) ll fs:=L.to (fun w hw=>hw.ssSubl hm (zsd_sub hj)) next
theorem W.frmLe {ll:Code} {j j':Nat} (hm:m[s]?=some (.ss (zsd sds vs l j))) (hj:j≤j') (next:W P Q n (Cls w0 own (m.set s (.ss (zsd sds vs l j')))) ll fs):W P Q n (Cls w0 own m) ll fs:=W.to (fun w hw=>hw.ssSubl hm (zsd_sub hj)) next
theorem E.frmLe {ex:Exit} {j j':Nat} (hm:m[s]?=some (.ss (zsd sds vs l j))) (hj:j≤j') (next:E ex Q n (Cls w0 own (m.set s (.ss (zsd sds vs l j')))) fs):E ex Q n (Cls w0 own m) fs:=fun a w hs hw=>next a w hs (hw.ssSubl hm (zsd_sub hj))
theorem As.ssOne {L0:List Sd} (h:(As.ss L0).holds w):∀ d∈L0,d.v.oneCell'=true:=fun d hd=>(As.at_ (e:=d.e) (h d hd)).one
theorem plz_sv {β:Type} {e':TypeId} {k':Nat} {g:β→List Value}:PlZ svRow (svSd e' k' g):=by
 intro x v h u hu
 simp only [svRow,List.mem_singleton] at hu
 subst hu
 exact h ⟨gv v 0,e',k',x.map g⟩ (by simp [svSd])
theorem Y.index2R {len b:Nat} {ik:IntKind} {a1:Int} (hu:P.underlying tx=some (.array len e)) (hsz:szB P e 1=true) (hx:val fs x=some (pt b (0+a.toNat*len))) (hy:val fs y=some (.int ik a1)) (h0:0≤a∧a < ((q:Nat):Int)) (z:Unit) (hr:rng len a1=some z) :
  Y P (.indexAddr tx x y) t n fs C (pt b (0+(a*(len:Nat)+a1).toNat*1)):=by
 obtain ⟨h1,h2⟩:=rng_some hr
 have he:(a*(len:Nat)+a1).toNat=a.toNat*len+a1.toNat:=by
  obtain ⟨a',rfl⟩:=Int.eq_ofNat_of_zero_le h0.1
  obtain ⟨b',rfl⟩:=Int.eq_ofNat_of_zero_le h1
  have:((a':Int)*(len:Nat)+(b':Int))=((a'*len+b':Nat):Int):=by simp
  rw [this,Int.toNat_natCast,Int.toNat_natCast,Int.toNat_natCast]
 rw [he,Nat.mul_one,← Nat.add_assoc,← Nat.mul_one a1.toNat]
 exact Y.indexP hu hsz hx hy h1 h2
theorem L.cutT {β:Type} {g:β→List Value} {lb zb:List β} {hi:Int} {ll:List Oper} (h:Go.S.cut lb 0 hi=some zb) (hm:m[i]?=some (.sl v e k (lb.map g))) (next:L P ops Q n (Cls w0 own (m.set i (.sl (cutv v hi.toNat) e k (zb.map g)))) ll fs):L P ops Q n (Cls w0 own m) ll fs:=by
 obtain ⟨_,h1,h2,rfl⟩:=cut_some h
 refine L.to (fun w hw=>?_) next
 by_cases h0:lb=[]
 ·subst h0
  have h3:hi=0:=by simp at h2;omega
  subst h3
  rcases (hw.get hm).2.2 with ⟨rfl,_⟩ | ⟨g',cap,cur,rfl,_⟩
  ·have:m.set i (.sl (.slice none 0 0) e k [])=m:=by
    obtain ⟨h4,h5⟩:=List.getElem?_eq_some_iff.1 hm
    exact (by rw [← show m[i]=As.sl (.slice none 0 0) e k [] from h5,List.set_getElem_self])
   simp only [List.drop_zero,List.take_nil,List.map_nil]
   show Cls w0 own (m.set i (.sl (.slice none 0 0) e k [])) w
   rw [this];exact hw
  ·have:=hw.shrink (N':=0) hm (Nat.zero_le _)
   simpa [rv,cutv] using this
 ·obtain ⟨g',cap,rfl,hc,_⟩:=hw.row hm (by intro hn;exact h0 (List.map_eq_nil_iff.1 hn))
  have:=hw.shrink (N':=hi.toNat) hm (by rw [List.length_map];omega)
  rw [← List.map_take] at this
  simpa [rv,cutv] using this
theorem run_append_types {tA tB:TypeId} {eA eB:TypeId} (hA:P.underlying tA=some (.slice eA)) (hB:P.underlying tB=some (.slice eB)) (hs:szB P eA k=true) (ty:TypeId) (ad:Option Addr) (l c:Nat) (u:Value) (w:World):(Builtin.append_ #[tA,tB] ty #[.slice ad l c,u]).run P w=(Builtin.append_ #[tA,tA] ty #[.slice ad l c,u]).run P w:=by
 simp [Builtin.append_,run_underlying hA,run_underlying hB,run_sizeOf hs]
theorem L.append2 {rows more:List (List Value)} {ty:TypeId} {e2:TypeId} (hd:Nat.blt d n=true) (hu:P.underlying tx=some (.slice e)) (hu2:P.underlying ty=some (.slice e2)) (he:elemB P e k by'=true) (hx:val fs x=some v) (hy:val fs y=some u)
  (hm:m[i]?=some (.sl v e k rows)) (hB:∀ w,Cls w0 own m w→At w u k more) (hp:Plain more) (hl:rows.length+more.length≤maxLen) (hb:(rows.length+more.length)*by'≤140737488355328)
  (next:∀ v',L P ops Q n (Cls w0 own (.sl v' e k (rows++more) :: m.eraseIdx i)) rest ((d,v') :: fs)) :
  L P ops Q n (Cls w0 own m) (⟨some d,.call ⟨.builtin .append,#[x,y],#[tx,ty]⟩,t,pos,af,none⟩ :: rest) fs:=by
 refine L.runs (R:=fun v' w'=>Cls w0 own (.sl v' e k (rows++more) :: m.eraseIdx i) w') hd (fun a w hs hw=>?_) next
 obtain ⟨inf,z,hi,hz,hsz,hby,hzs,hk⟩:=elemB_out he
 have hown:=hw.get hm
 have hBw:=hB w hw
 have key:∃ v' w',(Builtin.append_ #[tx,tx] t #[v,u]).run P w=.ok v' w'∧w'.ownsRow 0 e k v' (rows.length+more.length) (rows.flatten++more.flatten)∧w.grownBy w' v.ownBlock∧(v'.ownBlock=v.ownBlock∨v'.ownBlock=some w.heap.size):=by
  rcases hBw.shape with ⟨rfl,rfl⟩ | ⟨ad,cap,rfl,_,_⟩
  ·refine ⟨v,w,run_append_nil_src 0 tx t e k hu (by simp [szB,hi,hsz]) hown.2,by simpa using hown.2,⟨rfl,rfl,rfl,Nat.le_refl _,fun _ _ _=>rfl⟩,.inl rfl⟩
  ·obtain ⟨v',w',h1,h2,h3,_,h5⟩:=run_append_own_at (P:=P) w 0 tx t e inf z k by' hu hi hz hsz hby hzs hk v rows.length rows.flatten hown.2 ad more.length cap more.flatten hBw.flat
    (by simpa [adr] using hBw.flat_cell hk) (fun u' hu'=>by obtain ⟨r,hr,hur⟩:=List.mem_flatten.1 hu';exact hp r hr u' hur) hl hb (Nat.zero_le _)
   exact ⟨v',w',h1,h2,h3,h5⟩
 obtain ⟨v',w',h1,h2,h3,h4⟩:=key
 refine ⟨v',w',?_,hw.grew hm (run_drawn _ h1) h3 h4 ⟨?_,by simpa using h2⟩⟩
 ·have hsh:∃ ad l c,v=.slice ad l c:=by
   rcases (As.at_ (hw.get hm)).shape with ⟨rfl,_⟩ | ⟨ad,cap,rfl,_⟩ <;> exact ⟨_,_,_,rfl⟩
  obtain ⟨ad,l,c,hv⟩:=hsh
  simp only [execOp,resolve,List.map_toArray,List.map_cons,List.map_nil,hs.eval hx,hs.eval hy]
  rw [hv] at h1 ⊢
  rw [← run_append_types hu hu2 (k:=k) (by simp [szB,hi,hsz])] at h1
  simp [invoke,builtin,h1]
 ·intro r hr
  rcases List.mem_append.1 hr with hr | hr
  ·exact hown.1 r hr
  ·exact hBw.len r hr
end
end Go.S
end
section
namespace Go.S
set_option linter.unusedVariables false
set_option linter.unusedSimpArgs false
def bind4 {α0 α1 α2 α3 ρ:Type} (o:Option (α0×α1×α2×α3)) (f:α0→α1→α2→α3→Option ρ):Option ρ:=match o with
 | some (x0,x1,x2,x3)=>f x0 x1 x2 x3
 | none=>none
@[simp] theorem bind4_some {α0 α1 α2 α3 ρ:Type} (x0:α0) (x1:α1) (x2:α2) (x3:α3) (f:α0→α1→α2→α3→Option ρ):bind4 (some (x0,x1,x2,x3)) f=f x0 x1 x2 x3:=rfl
theorem bind4S {α0 α1 α2 α3 ρ:Type} {o:Option (α0×α1×α2×α3)} {f:α0→α1→α2→α3→Option ρ} {r:ρ} (h:bind4 o f=some r):∃ x0 x1 x2 x3,o=some (x0,x1,x2,x3)∧f x0 x1 x2 x3=some r:=by
 cases o with
 | none=>cases h
 | some z=>obtain ⟨x0,x1,x2,x3⟩:=z;exact ⟨x0,x1,x2,x3,rfl,h⟩
def bind5 {α0 α1 α2 α3 α4 ρ:Type} (o:Option (α0×α1×α2×α3×α4)) (f:α0→α1→α2→α3→α4→Option ρ):Option ρ:=match o with
 | some (x0,x1,x2,x3,x4)=>f x0 x1 x2 x3 x4
 | none=>none
@[simp] theorem bind5_some {α0 α1 α2 α3 α4 ρ:Type} (x0:α0) (x1:α1) (x2:α2) (x3:α3) (x4:α4) (f:α0→α1→α2→α3→α4→Option ρ):bind5 (some (x0,x1,x2,x3,x4)) f=f x0 x1 x2 x3 x4:=rfl
theorem bind5S {α0 α1 α2 α3 α4 ρ:Type} {o:Option (α0×α1×α2×α3×α4)} {f:α0→α1→α2→α3→α4→Option ρ} {r:ρ} (h:bind5 o f=some r):∃ x0 x1 x2 x3 x4,o=some (x0,x1,x2,x3,x4)∧f x0 x1 x2 x3 x4=some r:=by
 cases o with
 | none=>cases h
 | some z=>obtain ⟨x0,x1,x2,x3,x4⟩:=z;exact ⟨x0,x1,x2,x3,x4,rfl,h⟩
def bind6 {α0 α1 α2 α3 α4 α5 ρ:Type} (o:Option (α0×α1×α2×α3×α4×α5)) (f:α0→α1→α2→α3→α4→α5→Option ρ):Option ρ:=match o with
 | some (x0,x1,x2,x3,x4,x5)=>f x0 x1 x2 x3 x4 x5
 | none=>none
@[simp] theorem bind6_some {α0 α1 α2 α3 α4 α5 ρ:Type} (x0:α0) (x1:α1) (x2:α2) (x3:α3) (x4:α4) (x5:α5) (f:α0→α1→α2→α3→α4→α5→Option ρ):bind6 (some (x0,x1,x2,x3,x4,x5)) f=f x0 x1 x2 x3 x4 x5:=rfl
def bind7 {α0 α1 α2 α3 α4 α5 α6 ρ:Type} (o:Option (α0×α1×α2×α3×α4×α5×α6)) (f:α0→α1→α2→α3→α4→α5→α6→Option ρ):Option ρ:=match o with
 | some (x0,x1,x2,x3,x4,x5,x6)=>f x0 x1 x2 x3 x4 x5 x6
 | none=>none
@[simp] theorem bind7_some {α0 α1 α2 α3 α4 α5 α6 ρ:Type} (x0:α0) (x1:α1) (x2:α2) (x3:α3) (x4:α4) (x5:α5) (x6:α6) (f:α0→α1→α2→α3→α4→α5→α6→Option ρ):bind7 (some (x0,x1,x2,x3,x4,x5,x6)) f=f x0 x1 x2 x3 x4 x5 x6:=rfl
def bind8 {α0 α1 α2 α3 α4 α5 α6 α7 ρ:Type} (o:Option (α0×α1×α2×α3×α4×α5×α6×α7)) (f:α0→α1→α2→α3→α4→α5→α6→α7→Option ρ):Option ρ:=match o with
 | some (x0,x1,x2,x3,x4,x5,x6,x7)=>f x0 x1 x2 x3 x4 x5 x6 x7
 | none=>none
@[simp] theorem bind8_some {α0 α1 α2 α3 α4 α5 α6 α7 ρ:Type} (x0:α0) (x1:α1) (x2:α2) (x3:α3) (x4:α4) (x5:α5) (x6:α6) (x7:α7) (f:α0→α1→α2→α3→α4→α5→α6→α7→Option ρ):bind8 (some (x0,x1,x2,x3,x4,x5,x6,x7)) f=f x0 x1 x2 x3 x4 x5 x6 x7:=rfl
def StbF (K:World→Prop) (w:World) (F:List Nat):Prop:=∀ w',w'.os=w.os→w'.tape=w.tape→w'.output=w.output→w.heap.size≤w'.heap.size→(∀ k,k < w.heap.size→k ∉ F→w'.heap[k]?=w.heap[k]?)→K w'
section
variable {K:World→Prop} {c c':List Ob} {v u:Value} {k:Nat} {rows:List (List Value)} {w0 w w':World} {own:List Nat} {m m' A A' M:List As} {e:TypeId} {i j s:Nat}
theorem Stb.f (h:Stb K w):StbF K w []:=fun w' h1 h2 h3 h4 h5=>h w' ⟨h1,h2,h3,h4,fun q hq=>h5 q hq (by simp)⟩
theorem Fz.clsP (h:Fz K c v k rows) (hK:StbF K w0 own) (hw:Cls w0 own m w) (hl:m.getLast?=some (.os c)):At w v k rows :=
 h w (hK w hw.os hw.tape hw.output hw.size hw.old) (hw.mine _ (List.mem_of_getLast? hl)).1
theorem FzA.clsP {L:List Sd} (h:FzA K c L) (hK:StbF K w0 own) (hw:Cls w0 own m w) (hl:m.getLast?=some (.os c)):∀ d∈L,At w d.v d.k d.rows:=fun d hd=>(h d hd).clsP hK hw hl
theorem FzA.onesP {L0:List Sd} (h:FzA K c L0) (hK:StbF K w0 own) (hw:Cls w0 own m w) (hl:m.getLast?=some (.os c)):∀ d∈L0,d.v.oneCell'=true:=fun d hd=>((h d hd).clsP hK hw hl).one
theorem Cls.lent_no (hw:Cls w0 own (A++M) w) {q:Nat} (hq:q < w0.heap.size) (ho:q ∉ own):q ∉ A.flatMap As.foot:=by
 intro h
 obtain ⟨x,hx,hb⟩:=List.mem_flatMap.1 h
 rcases (hw.mine x (List.mem_append_left _ hx)).2 q hb with h1 | h1
 ·omega
 ·exact ho h1
theorem StbF.lend (hK:StbF K w0 own) (hw:Cls w0 own (A++M) w):StbF K w (A.flatMap As.foot):=fun w' h1 h2 h3 h4 h5 =>
 hK w' (h1.trans hw.os) (h2.trans hw.tape) (h3.trans hw.output) (Nat.le_trans hw.size h4) fun q hq ho=>by
  rw [h5 q (Nat.lt_of_lt_of_le hq hw.size) (hw.lent_no hq ho),hw.old q hq ho]
theorem StbF.kn (hK:StbF K w0 own) (hw:Cls w0 own m w) (hl:m.getLast?=some (.os c)):Stb (Kn K c) w:=by
 have hm:As.os c∈m:=List.mem_of_getLast? hl
 intro w' hb
 refine ⟨hK w' (hb.os.trans hw.os) (hb.tape.trans hw.tape) (hb.output.trans hw.output) (Nat.le_trans hw.size hb.size) fun q hq ho=>?_,fun o ho=>?_⟩
 ·rw [hb.block q (Nat.lt_of_lt_of_le hq hw.size),hw.old q hq ho]
 ·have h2:=(hw.mine _ hm).1 o ho
  rw [hb.block o.b (Array.getElem?_eq_some_iff.1 h2).1,h2]
theorem Cls.lend (hw:Cls w0 own (A++M) w):Cls w (A.flatMap As.foot) A w:=by
 have hn:=hw.nodup
 rw [List.flatMap_append,List.nodup_append] at hn
 exact ⟨rfl,rfl,rfl,DR.refl _,Nat.le_refl _,fun _ _ _=>rfl,hn.1,fun x hx=>⟨(hw.mine x (List.mem_append_left _ hx)).1,fun b hb=>.inr (List.mem_flatMap.2 ⟨x,hx,hb⟩)⟩⟩
theorem Cls.back (hw:Cls w0 own (A++M) w) (h:Cls w (A.flatMap As.foot) A' w'):Cls w0 own (A'++M) w':=by
 have hn:=hw.nodup
 rw [List.flatMap_append,List.nodup_append] at hn
 have hM:∀ b∈M.flatMap As.foot,b < w.heap.size∧b ∉ A.flatMap As.foot:=fun b hb =>
  ⟨hw.foot_lt b (by rw [List.flatMap_append];exact List.mem_append_right _ hb),fun ha=>hn.2.2 b ha b hb rfl⟩
 refine ⟨h.os.trans hw.os,h.tape.trans hw.tape,h.output.trans hw.output,DR.trans hw.dr h.dr,Nat.le_trans hw.size h.size,fun q hq ho=>?_,?_,fun x hx=>?_⟩
 ·rw [h.old q (Nat.lt_of_lt_of_le hq hw.size) (hw.lent_no hq ho),hw.old q hq ho]
 ·rw [List.flatMap_append,List.nodup_append]
  refine ⟨h.nodup,hn.2.1,fun a ha b hb hab=>?_⟩
  subst hab
  obtain ⟨h1,h2⟩:=hM a hb
  obtain ⟨x,hx,hax⟩:=List.mem_flatMap.1 ha
  rcases (h.mine x hx).2 a hax with h3 | h3
  ·omega
  ·exact h2 h3
 ·rcases List.mem_append.1 hx with hx | hx
  ·refine ⟨(h.mine x hx).1,fun b hb=>?_⟩
   rcases (h.mine x hx).2 b hb with h3 | h3
   ·exact .inl (Nat.le_trans hw.size h3)
   ·obtain ⟨y,hy,hby⟩:=List.mem_flatMap.1 h3
    exact (hw.mine y (List.mem_append_left _ hy)).2 b hby
  ·have hxm:=hw.mine x (List.mem_append_right _ hx)
   refine ⟨As.holds_congr hxm.1 fun b hb=>?_,hxm.2⟩
   obtain ⟨h1,h2⟩:=hM b (List.mem_flatMap.2 ⟨x,hx,hb⟩)
   exact h.old b h1 h2
end
def DoesF (P:Program) (f:FuncId) (vs:List Value) (F:List Nat) (w:World) (R:Value→List As→Prop):Prop:=Calls P f vs.toArray w fun e w'=>∃ v m,e=.returned v∧R v m∧Cls w F m w'
section
variable {K:World→Prop} {c c':List Ob} {P:Program} {Q:Exit→Act→World→Prop} {n:Nat} {fs:Fr} {t:TypeId} {ops:Array Oper} {rest:List Oper} {d:Nat} {pos:String} {af:Array Edge}
variable {w0 w:World} {own:List Nat} {m A M:List As} {x y z:Operand} {e te tx ty:TypeId} {i j k kk by' p q s b:Nat} {v u:Value} {rows:List (List Value)}
theorem L.doesP {f:FuncId} {xs:List Operand} {ts:Array TypeId} {vs:List Value} {R:Value→List As→Prop} (hd:Nat.blt d n=true) (he:entB P f=true) (hx:vals fs xs=some vs)
  (hc:∀ w,Cls w0 own (A++M) w→DoesF P f vs (A.flatMap As.foot) w R) (next:∀ v m',R v m'→L P ops Q n (Cls w0 own (m'++M)) rest ((d,v) :: fs)):L P ops Q n (Cls w0 own (A++M)) (⟨some d,.call ⟨.value (.func f),xs.toArray,ts⟩,t,pos,af,none⟩ :: rest) fs:=by
 refine L.call (R:=fun v w'=>∃ m',R v m'∧Cls w0 own (m'++M) w') hd he hx (fun w hw=>Calls.mono (hc w hw) ?_) fun v=>L.ex fun m'=>?_
 ·rintro e w' ⟨v,m',rfl,hv,hcl⟩
  exact ⟨v,rfl,m',hv,hw.back hcl⟩
 ·rintro a w hs ⟨hr,hcl⟩
  exact next v m' hr a w hs hcl
theorem L.doesFP {f:FuncId} {xs:List Operand} {ts:Array TypeId} {vs:List Value} {R:List Ob→Value→Prop} (hd:Nat.blt d n=true) (he:entB P f=true) (hx:vals fs xs=some vs) (hl:m.getLast?=some (.os c)) (hK:StbF K w0 own)
  (hc:∀ w1,Cls w0 own m w1→Stb (Kn K c) w1→Does P f vs w1 fun u m'=>∃ c2,m'=[.os c2]∧R c2 u)
  (next:∀ u c2 c',Mo c c'→(∀ {v k rows},Fz (Kn K c) c2 v k rows→Fz K c' v k rows)→(∀ {L0},FzA (Kn K c) c2 L0→FzA K c' L0)→R c2 u→L P ops Q n (Cls w0 own (m.dropLast++[.os c'])) rest ((d,u) :: fs)) :
  L P ops Q n (Cls w0 own m) (⟨some d,.call ⟨.value (.func f),xs.toArray,ts⟩,t,pos,af,none⟩ :: rest) fs:=by
 refine L.does hd he hx (fun w hw=>hc w hw (hK.kn hw hl)) ?_
 rintro u m' ⟨c2,rfl,hr⟩
 have key:∀ {v k rows},Fz (Kn K c) c2 v k rows→Fz K (c2++c) v k rows:=fun h w hk hh=>h w ⟨hk,fun o ho=>hh o (List.mem_append_right _ ho)⟩ fun o ho=>hh o (List.mem_append_left _ ho)
 refine L.to (fun w hw=>?_) (next u c2 (c2++c) Mo.app1 key (fun h d hd=>key (h d hd)) hr)
 have hne:m≠[]:=by rintro rfl;cases hl
 have h5:=List.dropLast_concat_getLast hne
 rw [List.getLast?_eq_some_getLast hne] at hl
 rw [Option.some.inj hl] at h5
 rw [← h5] at hw
 refine hw.rePerm ?_ fun z hz=>?_
 ·simp only [List.flatMap_append,List.flatMap_cons,List.flatMap_nil,List.append_nil,List.singleton_append,As.foot,List.map_append]
  rw [← List.append_assoc,← List.append_assoc]
  exact List.Perm.append_right _ List.perm_append_comm
 ·rcases List.mem_append.1 hz with h1 | h1
  ·exact (hw.mine z (by simp [h1])).1
  ·simp only [List.mem_singleton] at h1
   subst h1
   intro o ho
   rcases List.mem_append.1 ho with h2 | h2
   ·exact (hw.mine (.os c2) (by simp)).1 o h2
   ·exact (hw.mine (.os c) (by simp)).1 o h2
variable {α ρ:Type} {r:ρ} {row:α→List Value→List Value} {sds:α→List Value→List Sd} {vs vs2:Nat→List Value} {l l2:List α} {a:Int} {u0 u1:α} {f:List α→Option ρ}
theorem L.appHzP (h:bind1 (app l l2) f=some r) (hd:Nat.blt d n=true) (hu:P.underlying tx=some (.slice e)) (he:elemB P e k by'=true) (hx:val fs x=some v) (hy:val fs y=some u) (hb:Nat.ble by' 56=true)
  (hm:m[i]?=some (.sl v e k (zr row vs l))) (hB:∀ w,Cls w0 own m w→At w u k (zr row vs2 l2)) (hp:PlZ row sds) (hK:StbF K w0 own) (hl0:m.getLast?=some (.os c)) (h1:FzA K c (zs sds vs l)) (h2:FzA K c (zs sds vs2 l2))
  (next:∀ v' vs' z,app l l2=some z→f z=some r→FzA K c (zs sds vs' z)→L P ops Q n (Cls w0 own (.sl v' e k (zr row vs' z) :: m.eraseIdx i)) rest ((d,v') :: fs)) :
  L P ops Q n (Cls w0 own m) (⟨some d,.call ⟨.builtin .append,#[x,y],#[tx,tx]⟩,t,pos,af,none⟩ :: rest) fs:=by
 obtain ⟨z,hz,h⟩:=bind1S h
 obtain ⟨rfl,hl⟩:=app_some hz
 have hb':by'≤56:=by simpa using hb
 intro ac w hs hw
 refine L.append (i:=i) hd hu he hx hy hm hB (plain_zr hp (h2.onesP hK hw hl0)) (by rw [zr_length,zr_length];unfold maxLen;omega) ?_ (fun v'=>?_) ac w hs hw
 ·rw [zr_length,zr_length]
  calc (l.length+l2.length)*by'≤2513169434916*56:=Nat.mul_le_mul hl hb'
   _≤_:=by decide
 ·rw [← zr_app]
  exact next v' (gapp vs vs2 l.length) _ hz h (by rw [zs_app];exact h1.app h2)
theorem L.insHzP {F:List α→Option ρ} {x1:α} {f:FuncId} {ts:Array TypeId} (h:bind1 (xInsR l a x1) F=some r) (hS:InsR P f e k (Rw.r (k:=k))) (hd:Nat.blt d n=true) (he:entB P f=true) (hx:val fs x=some v) (hm:m[i]?=some (.sl v e k (zr row vs l)))
  (hy:val fs y=some (.int .i64 a)) (hz:val fs z=some (sv b 1)) (hj:m[j]?=some (.sl (sv b 1) e k (zr row vs2 [x1]))) (hij:i≠j) (hp:PlZ row sds) (hlen:∀ z v,(row z v).length=k) (hK:StbF K w0 own) (hl0:m.getLast?=some (.os c)) (h1:FzA K c (zs sds vs l)) (h2:FzA K c (zs sds vs2 [x1]))
  (next:∀ v' vs' q,xInsR l a x1=some q→F q=some r→FzA K c (zs sds vs' q)→L P ops Q n (Cls w0 own (m.set i (.sl v' e k (zr row vs' q)))) rest ((d,v') :: fs)):L P ops Q n (Cls w0 own m) (⟨some d,.call ⟨.value (.func f),#[x,y,z],ts⟩,t,pos,af,none⟩ :: rest) fs:=by
 obtain ⟨q,hq,h⟩:=bind1S h
 obtain ⟨⟨h3,h4,h5⟩,rfl⟩:=xInsR_some hq
 have hwid:∀ (vs:Nat→List Value) (l:List α),∀ r∈zr row vs l,r.length=k:=by
  intro vs l
  induction l generalizing vs with
  | nil=>intro r hr;cases hr
  | cons y l ih =>
   intro r hr
   rcases List.mem_cons.1 hr with rfl | hr
   ·exact hlen _ _
   ·exact ih _ r hr
 intro ac w hs hw
 obtain ⟨q1,hq1⟩:=rw_of (hwid vs l) (plain_zr hp (h1.onesP hK hw hl0))
 obtain ⟨q2,hq2⟩:=rw_of (hwid vs2 [x1]) (plain_zr hp (h2.onesP hK hw hl0))
 have hln:q1.length=l.length:=by
  have:=congrArg List.length hq1
  rw [zr_length,List.length_map] at this
  exact this.symm
 obtain ⟨y1,rfl⟩:∃ y1,q2=[y1]:=by
  have:=congrArg List.length hq2
  rw [zr_length,List.length_map,List.length_singleton] at this
  exact List.length_eq_one_iff.1 this.symm
 have hx1:xInsR q1 a y1=some (q1.take a.toNat++[y1]++q1.drop a.toNat):=by
  unfold xInsR
  rw [hln,if_pos ⟨h3,h4,h5⟩]
 have e1:(l.take a.toNat).length=a.toNat:=by rw [List.length_take];omega
 have hz1:=zr_app row vs vs2 (l.take a.toNat) [x1]
 rw [e1] at hz1
 have e2:(l.take a.toNat++[x1]).length=a.toNat+1:=by rw [List.length_append,e1];rfl
 have hz2:=zr_app row (gapp vs vs2 a.toNat) (fun q=>vs (q+a.toNat)) (l.take a.toNat++[x1]) (l.drop a.toNat)
 have hs1:=zs_app sds vs vs2 (l.take a.toNat) [x1]
 rw [e1] at hs1
 have hs2:=zs_app sds (gapp vs vs2 a.toNat) (fun q=>vs (q+a.toNat)) (l.take a.toNat++[x1]) (l.drop a.toNat)
 rw [e2] at hz2 hs2
 refine L.insRD (i:=i) (j:=j) (l:=q1) (x1:=y1) (row:=Rw.r (k:=k)) (F:=fun q=>some q) (r:=q1.take a.toNat++[y1]++q1.drop a.toNat) (by rw [hx1];rfl) hS (fun z=>z.len) hd he hx (by rw [← hq1];exact hm) hy hz (by rw [← hq2];exact hj) hij (fun v' q hq3 _=>?_) ac w hs hw
 rw [hx1] at hq3
 obtain rfl:=(Option.some.inj hq3)
 have key:(q1.take a.toNat++[y1]++q1.drop a.toNat).map (Rw.r (k:=k))=zr row (gapp (gapp vs vs2 a.toNat) (fun q=>vs (q+a.toNat)) (a.toNat+1)) (l.take a.toNat++[x1]++l.drop a.toNat):=by
  rw [hz2,hz1,zr_take,zr_drop,hq1,hq2,List.map_append,List.map_append,List.map_take,List.map_drop]
 rw [key]
 exact next v' _ _ hq h (by rw [hs2,hs1];exact (FzA.app (FzA.app (zs_mem_take h1) h2) (zs_mem_drop h1)))
theorem L.litOneC (hd:Nat.blt d n=true) (hu:P.underlying tx=some (.slice e)) (he:elemB P e 1 by'=true) (hx:val fs x=some v) (hv:∀ w,Cls w0 own m w→v.cells=#[v])
  (next:∀ b,L P ops Q n (Cls w0 own (.sl (sv b 1) e 1 [[v]] :: m)) rest ((d,sv b 1) :: fs)):L P ops Q n (Cls w0 own m) (⟨some d,.buildSlice tx 1 #[(0,x)],t,pos,af,none⟩ :: rest) fs :=
 fun a w hs hw=>L.litOne hd hu he hx (hv w hw) next a w hs hw
end
end Go.S
end
section
namespace Go.S
set_option linter.unusedVariables false
set_option linter.unusedSimpArgs false
section
variable {v v':Value} {e:TypeId} {k:Nat} {rows rows' more:List (List Value)} {w0 w w':World} {own:List Nat} {m:List As} {i:Nat}
theorem tlHolds.at (h:tlHolds w v e k rows):At w v k rows:=by
 obtain ⟨h1,h3⟩:=h
 refine ⟨?_,h1,fun i r j x hr hx=>?_⟩
 ·rcases h3 with ⟨rfl,h0⟩ | ⟨g,off,cap,cur,rfl,_,hn,hc,_⟩
  ·exact .inl ⟨rfl,h0⟩
  ·exact .inr ⟨_,cap,rfl,hn,hc⟩
 ·have hf:=flatten_get rows i j r x h1 hr hx
  rcases h3 with ⟨rfl,h0⟩ | ⟨g,off,cap,cur,rfl,hg,hn,hc,hs,ht⟩
  ·subst h0
   simp at hr
  ·have hj:i*k+j < rows.length*k:=by
    have:=(List.getElem?_eq_some_iff.1 hf).1
    rw [flat_len _ h1] at this
    exact this
   rw [← ht,List.getElem?_take_of_lt hj,List.getElem?_drop] at hf
   show (World.cell? w (Addr.add ⟨g,off,none⟩ (i*k+j)))=some x
   rw [Addr.add_lit]
   simp only [World.cell?,hg,Option.isSome_none,Bool.false_eq_true,if_false]
   rw [Array.getElem?_toList] at hf
   exact hf
theorem tlHolds.drop (h:tlHolds w v e k rows) (l:Nat) (hl:l≤rows.length):tlHolds w (dropv v l k) e k (rows.drop l):=by
 obtain ⟨h1,h3⟩:=h
 refine ⟨fun r hr=>h1 r (List.mem_of_mem_drop hr),?_⟩
 rcases h3 with ⟨rfl,rfl⟩ | ⟨g,off,cap,cur,rfl,hg,hn,hc,hs,ht⟩
 ·exact .inl ⟨by simp [dropv],by simp⟩
 ·by_cases hz:cap - l=0
  ·have hl2:rows.length - l=0:=by omega
   refine .inr ⟨g,off,0,cur,by simp [dropv,hz],hg,by simp;omega,by simp [maxLen],by omega,?_⟩
   rw [List.length_drop,hl2]
   simp [List.drop_eq_nil_of_le (show rows.length≤l by omega)]
  ·refine .inr ⟨g,off+l*k,cap - l,cur,by simp [dropv,hz,Addr.add_lit],hg,by simp;omega,by omega,?_,?_⟩
   ·have:cap*k=l*k+(cap - l)*k:=by rw [← Nat.add_mul];congr 1;omega
    omega
   ·rw [List.length_drop]
    have e1:(rows.drop l).flatten=rows.flatten.drop (l*k):=by
     have h4:rows.flatten=(rows.take l).flatten++(rows.drop l).flatten:=by rw [← List.flatten_append,List.take_append_drop]
     have h5:(rows.take l).flatten.length=l*k:=by
      rw [flat_len _ (fun r hr=>h1 r (List.mem_of_mem_take hr)),List.length_take,Nat.min_eq_left hl]
     rw [h4,← h5,List.drop_left]
    rw [e1,← ht,List.drop_take,List.drop_drop,Nat.sub_mul]
end
section
variable {P:Program} {v v':Value} {e:TypeId} {k:Nat} {rows rows' more:List (List Value)} {w:World}
end
section
variable {P:Program} {Q:Exit→Act→World→Prop} {n:Nat} {fs:Fr} {t:TypeId} {ops:Array Oper} {rest:List Oper} {d:Nat} {pos:String} {af:Array Edge}
variable {w0:World} {own:List Nat} {m:List As} {x y:Operand} {e tx:TypeId} {i k by':Nat} {v u:Value}
end
end Go.S
end
section
namespace Go.S
set_option linter.unusedVariables false
set_option linter.unusedSimpArgs false
def bind9 {α0 α1 α2 α3 α4 α5 α6 α7 α8 ρ:Type} (o:Option (α0×α1×α2×α3×α4×α5×α6×α7×α8)) (f:α0→α1→α2→α3→α4→α5→α6→α7→α8→Option ρ):Option ρ:=match o with
 | some (x0,x1,x2,x3,x4,x5,x6,x7,x8)=>f x0 x1 x2 x3 x4 x5 x6 x7 x8
 | none=>none
@[simp] theorem bind9_some {α0 α1 α2 α3 α4 α5 α6 α7 α8 ρ:Type} (x0:α0) (x1:α1) (x2:α2) (x3:α3) (x4:α4) (x5:α5) (x6:α6) (x7:α7) (x8:α8) (f:α0→α1→α2→α3→α4→α5→α6→α7→α8→Option ρ):bind9 (some (x0,x1,x2,x3,x4,x5,x6,x7,x8)) f=f x0 x1 x2 x3 x4 x5 x6 x7 x8:=rfl
def bind10 {α0 α1 α2 α3 α4 α5 α6 α7 α8 α9 ρ:Type} (o:Option (α0×α1×α2×α3×α4×α5×α6×α7×α8×α9)) (f:α0→α1→α2→α3→α4→α5→α6→α7→α8→α9→Option ρ):Option ρ:=match o with
 | some (x0,x1,x2,x3,x4,x5,x6,x7,x8,x9)=>f x0 x1 x2 x3 x4 x5 x6 x7 x8 x9
 | none=>none
@[simp] theorem bind10_some {α0 α1 α2 α3 α4 α5 α6 α7 α8 α9 ρ:Type} (x0:α0) (x1:α1) (x2:α2) (x3:α3) (x4:α4) (x5:α5) (x6:α6) (x7:α7) (x8:α8) (x9:α9) (f:α0→α1→α2→α3→α4→α5→α6→α7→α8→α9→Option ρ):bind10 (some (x0,x1,x2,x3,x4,x5,x6,x7,x8,x9)) f=f x0 x1 x2 x3 x4 x5 x6 x7 x8 x9:=rfl
def bindE {α β ρ:Type} (o:Option (α ⊕ β)) (f:α→Option ρ) (g:β→Option ρ):Option ρ:=match o with
 | some (.inl x)=>f x
 | some (.inr y)=>g y
 | none=>none
@[simp] theorem bindE_inl {α β ρ:Type} (x:α) (f:α→Option ρ) (g:β→Option ρ):bindE (some (.inl x)) f g=f x:=rfl
@[simp] theorem bindE_inr {α β ρ:Type} (y:β) (f:α→Option ρ) (g:β→Option ρ):bindE (some (.inr y)) f g=g y:=rfl
section
variable {v:Value} {k:Nat} {rows:List (List Value)} {w0 w w':World} {own F:List Nat} {m A M:List As}
theorem StbF.cls0 (h:StbF (fun w=>At w v k rows) w F) (hw:Cls w F m w'):At w' v k rows:=h w' hw.os hw.tape hw.output hw.size hw.old
end
end Go.S
end
section
namespace Go.S
open Go.Sort
set_option linter.unusedVariables false
set_option linter.unusedSimpArgs false
def srt (l:List Int):List Int:=l.mergeSort fun x y=>decide (x≤y)
def xSort (l:List Int):Option (List Int):=if l.length < 4611686018427387904 then some (srt l) else none
theorem xSort_some {l r:List Int} (h:xSort l=some r):l.length < 4611686018427387904∧r=srt l:=by
 unfold xSort at h
 split at h
 ·simp only [Option.some.injEq] at h;exact ⟨by assumption,h.symm⟩
 ·cases h
structure SortC (P:Program) (f:FuncId):Prop where
 some':∀ (blk off cap:Nat) (zs:List Int) (w:World),Go.Sort.Holds (Value.int .i64) w blk off zs.toArray→blk < w.heap.size→zs.length < 4611686018427387904 →
  Calls P f #[.slice (some ⟨blk,off,none⟩) zs.length cap] w fun e w'=>e=.returned (.tuple #[])∧∃ n os,w'=grow (Go.Sort.putRow (Value.int .i64) (Sort.ahead w n) blk off (zs.mergeSort fun x y=>decide (x≤y)).toArray) os
 none':∀ (p:Option Addr) (cap:Nat) (w:World),Calls P f #[.slice p 0 cap] w fun e w'=>e=.returned (.tuple #[])∧w'=w
theorem ints_flat:∀ l:List Int,(l.map I).flatten=l.map (Value.int .i64)
 | []=>rfl
 | x :: l=>by simp only [List.map_cons,List.flatten_cons,ints_flat l];rfl
section
variable {P:Program} {Q:Exit→Act→World→Prop} {n:Nat} {fs:Fr} {t:TypeId} {ops:Array Oper} {rest:List Oper} {d:Nat} {pos:String} {af:Array Edge}
variable {w0:World} {own:List Nat} {m:List As} {x:Operand} {e:TypeId} {i:Nat} {v:Value} {l:List Int} {f:FuncId} {ts:Array TypeId}
theorem srt_length (l:List Int):(srt l).length=l.length:=by unfold srt;exact List.length_mergeSort l
theorem Cls.grown {w:World} (h:Cls w0 own m w) (os:Array Obj):Cls w0 own m (grow w os):=by
 have h':Cls w [] [] (grow w os):=⟨rfl,rfl,rfl,DR.refl _,by simp [grow],fun k hk _=>heap_grow_old w os hk,by simp,fun x hx=>by cases hx⟩
 have:=h.call h'
 simpa using this
theorem Cls.sorted {w:World} (h:Cls w0 own m w) (hm:m[i]?=some (.sl v e 1 (l.map I))) (hS:SortC P f) (hl:l.length < 4611686018427387904) :
  Calls P f #[v] w fun en w'=>en=.returned (.tuple #[])∧Cls w0 own (m.set i (.sl v e 1 ((srt l).map I))) w':=by
 obtain ⟨hr,hln,h3⟩:=h.get hm
 rcases h3 with ⟨rfl,hn⟩ | ⟨g,cap,cur,rfl,hg,hh,hnc,hcm,hcs,htk⟩
 ·have h0:l=[]:=by simpa using hn
  subst h0
  refine Calls.mono (hS.none' none 0 w) ?_
  rintro en w' ⟨rfl,rfl⟩
  refine ⟨rfl,?_⟩
  have:(As.sl (.slice none 0 0) e 1 ((srt []).map I))=As.sl (.slice none 0 0) e 1 (([]:List Int).map I):=by simp [srt]
  rw [this]
  obtain ⟨h1,h2⟩:=List.getElem?_eq_some_iff.1 hm
  rw [← h2,List.set_getElem_self]
  exact h
 ·rw [List.length_map,Nat.mul_one,ints_flat] at htk
  rw [List.length_map] at hnc
  have hgl:g < w.heap.size:=(Array.getElem?_eq_some_iff.1 hh).1
  rw [List.length_map]
  refine Calls.mono (hS.some' g 0 cap l w (holds_of_blockI hh htk) hgl hl) ?_
  rintro en w' ⟨rfl,q,os,rfl⟩
  refine ⟨rfl,Cls.grown ?_ os⟩
  have hsz:cur.size=cap*1:=hcs
  refine h.turn hm rfl rfl rfl rfl (by simp) (Nat.le_add_right _ _) (fun k hk=>?_) ⟨fun r hr=>?_,?_⟩
  ·have:=(grownBy_sortedI (w:=w) (g:=g) (n:=q) (os:=#[]) (srt l).toArray)
   rw [grow_empty] at this
   have hne:k≠g:=by
    intro hkg
    exact hk (by simp [As.foot,Value.ownBlock,hkg])
   simp [Go.Sort.putRow,Go.Sort.mapBlock,Sort.ahead,Array.getElem?_modify,Ne.symm hne]
  ·obtain ⟨z,_,rfl⟩:=List.mem_map.1 hr;rfl
  ·have:=ownsRow_sortedI (w:=w) (base:=0) (g:=g) (cap:=cap) (n:=q) (e:=e) (os:=#[]) (cur:=cur) (ss:=l) (ts:=srt l) (srt_length l) (Nat.zero_le _) hh hnc hcm hsz
   rw [grow_empty] at this
   rw [List.length_map,ints_flat,srt_length]
   exact this
theorem L.sortMD {ρ:Type} {r:ρ} {F:List Int→Option ρ} (h:bind1 (xSort l) F=some r) (hS:SortC P f) (hd:Nat.blt d n=true) (he:entB P f=true) (hx:val fs x=some v) (hm:m[i]?=some (.sl v e 1 (l.map I)))
  (next:∀ z,xSort l=some z→F z=some r→L P ops Q n (Cls w0 own (m.set i (.sl v e 1 (z.map I)))) rest ((d,.tuple #[]) :: fs)):L P ops Q n (Cls w0 own m) (⟨some d,.call ⟨.value (.func f),#[x],ts⟩,t,pos,af,none⟩ :: rest) fs:=by
 obtain ⟨z,hz,h⟩:=bind1S h
 obtain ⟨hl,rfl⟩:=xSort_some hz
 intro a w hs hw
 have hrun:(execOp a.eval ⟨some d,.call ⟨.value (.func f),#[x],ts⟩,t,pos,af,none⟩).run P w=.ok (.enter f #[v]) w:=run_callF (xs:=[x]) (vs:=[v]) he (by simp [vals,hx]) hs w (some d)
 simp only [wpList,Region.wanted,if_true]
 refine .inl ?_
 unfold Oper.wp
 rw [hrun]
 refine (hw.sorted hm hS hl).mono ?_
 rintro en w' ⟨rfl,hc⟩
 exact next _ hz h _ w' (hs.put hd _) hc
end
end Go.S
end
section
namespace Go.S
open Go.Sort
set_option linter.unusedVariables false
set_option linter.unusedSimpArgs false
def xCompact (l:List Int):Option (List Int):=if l.length < 4611686018427387904 then some (Lib.compact l) else none
theorem xCompact_some {l r:List Int} (h:xCompact l=some r):l.length < 4611686018427387904∧r=Lib.compact l:=by
 unfold xCompact at h
 split at h
 ·simp only [Option.some.injEq] at h;exact ⟨by assumption,h.symm⟩
 ·cases h
structure CompC (P:Program) (f:FuncId):Prop where
 some':∀ (blk off cap:Nat) (zs:List Int) (w:World),Go.Sort.Holds (Value.int .i64) w blk off zs.toArray→zs.length≤9223372036854775807→zs.length≤cap →
  Calls P f #[.slice (some ⟨blk,off,none⟩) zs.length cap] w fun e w'=>e=.returned (.slice (some ⟨blk,off,none⟩) (Lib.compact zs).length cap)∧∃ q,w'=Go.Sort.putRow (Value.int .i64) (Sort.ahead w q) blk off (Lib.compact zs++List.replicate (zs.length - (Lib.compact zs).length) 0).toArray
 none':∀ (p:Option Addr) (cap:Nat) (w:World),Calls P f #[.slice p 0 cap] w fun e w'=>e=.returned (.slice p 0 cap)∧w'=w
theorem compact_len (l:List Int):(Lib.compact l).length≤l.length:=by
 unfold Lib.compact Lib.compactUpTo
 rw [List.length_map]
 exact Nat.le_trans (List.length_filter_le _ _) (by simp)
theorem compact_mem (l:List Int) (x:Int):x∈Lib.compact l↔x∈l:=by
 unfold Lib.compact Lib.compactUpTo
 simp only [List.mem_map,List.mem_filter,List.mem_range]
 constructor
 ·rintro ⟨j,⟨hj,_⟩,rfl⟩
  have:l.toArray[j]! = l[j]:=by simp [hj]
  rw [this];exact List.getElem_mem hj
 ·intro hx
  obtain ⟨j,hj,rfl⟩:=List.getElem_of_mem hx
  induction j with
  | zero=>exact ⟨0,⟨hj,by simp [Lib.keeps]⟩,by simp [hj]⟩
  | succ j ih =>
   by_cases h:l[j+1]=l[j]
   ·rw [h];exact ih (by omega) (List.getElem_mem _)
   ·exact ⟨j+1,⟨hj,by simp [Lib.keeps,hj,show j < l.length by omega,h]⟩,by simp [hj]⟩
section
variable {P:Program} {Q:Exit→Act→World→Prop} {n:Nat} {fs:Fr} {t:TypeId} {ops:Array Oper} {rest:List Oper} {d:Nat} {pos:String} {af:Array Edge}
variable {w0:World} {own:List Nat} {m:List As} {x:Operand} {e:TypeId} {i:Nat} {v:Value} {l:List Int} {f:FuncId} {ts:Array TypeId}
theorem Cls.compacted {w:World} (h:Cls w0 own m w) (hm:m[i]?=some (.sl v e 1 (l.map I))) (hS:CompC P f) (hl:l.length < 4611686018427387904) :
  Calls P f #[v] w fun en w'=>∃ v',en=.returned v'∧Cls w0 own (m.set i (.sl v' e 1 ((Lib.compact l).map I))) w':=by
 obtain ⟨hr,hln,h3⟩:=h.get hm
 rcases h3 with ⟨rfl,hn⟩ | ⟨g,cap,cur,rfl,hg,hh,hnc,hcm,hcs,htk⟩
 ·have h0:l=[]:=by simpa using hn
  subst h0
  refine Calls.mono (hS.none' none 0 w) ?_
  rintro en w' ⟨rfl,rfl⟩
  refine ⟨_,rfl,?_⟩
  have:(As.sl (.slice none 0 0) e 1 ((Lib.compact ([]:List Int)).map I))=As.sl (.slice none 0 0) e 1 (([]:List Int).map I):=by simp [Lib.compact,Lib.compactUpTo]
  rw [this,set_self hm]
  exact h
 ·rw [List.length_map,Nat.mul_one,ints_flat] at htk
  rw [List.length_map] at hnc
  have hgl:g < w.heap.size:=(Array.getElem?_eq_some_iff.1 hh).1
  have hcl:=compact_len l
  rw [List.length_map]
  refine Calls.mono (hS.some' g 0 cap l w (holds_of_blockI hh htk) (by omega) hnc) ?_
  rintro en w' ⟨rfl,q,rfl⟩
  refine ⟨_,rfl,?_⟩
  have hsz:cur.size=cap*1:=hcs
  generalize hts:(Lib.compact l++List.replicate (l.length - (Lib.compact l).length) 0)=ts0
  have htl:ts0.length=l.length:=by rw [← hts];simp;omega
  have ho:=ownsRow_sortedI (w:=w) (base:=0) (g:=g) (cap:=cap) (n:=q) (e:=e) (os:=#[]) (cur:=cur) (ss:=l) (ts:=ts0) htl (Nat.zero_le _) hh hnc hcm hsz
  rw [grow_empty] at ho
  refine h.turn hm rfl rfl rfl rfl (by simp) (Nat.le_add_right _ _) (fun k hk=>?_) ⟨fun r hr=>?_,?_⟩
  ·have hne:k≠g:=by
    intro hkg
    exact hk (by simp [As.foot,Value.ownBlock,hkg])
   simp [Go.Sort.putRow,Go.Sort.mapBlock,Sort.ahead,Array.getElem?_modify,Ne.symm hne]
  ·obtain ⟨z,_,rfl⟩:=List.mem_map.1 hr;rfl
  ·rw [List.length_map,ints_flat]
   obtain ⟨h1,h2⟩:=ho
   rcases h2 with ⟨h4,_⟩ | ⟨g',cap',cur',h4,h5,h6,h7,h8,h9,h10⟩
   ·cases h4
   ·cases h4
    refine ⟨by simp,.inr ⟨_,_,cur',rfl,h5,h6,Nat.le_trans hcl h7,h8,h9,?_⟩⟩
    rw [Nat.mul_one] at h10 ⊢
    have h11:(cur'.toList.take l.length).take (Lib.compact l).length=(ts0.map (Value.int .i64)).take (Lib.compact l).length:=by rw [h10]
    rw [List.take_take,Nat.min_eq_left hcl] at h11
    rw [h11,← hts,List.map_append,List.take_left' (by simp)]
theorem L.compactMD {ρ:Type} {r:ρ} {F:List Int→Option ρ} (h:bind1 (xCompact l) F=some r) (hS:CompC P f) (hd:Nat.blt d n=true) (he:entB P f=true) (hx:val fs x=some v) (hm:m[i]?=some (.sl v e 1 (l.map I)))
  (next:∀ v' z,xCompact l=some z→F z=some r→L P ops Q n (Cls w0 own (m.set i (.sl v' e 1 (z.map I)))) rest ((d,v') :: fs)):L P ops Q n (Cls w0 own m) (⟨some d,.call ⟨.value (.func f),#[x],ts⟩,t,pos,af,none⟩ :: rest) fs:=by
 obtain ⟨z,hz,h⟩:=bind1S h
 obtain ⟨hl,rfl⟩:=xCompact_some hz
 intro a w hs hw
 have hrun:(execOp a.eval ⟨some d,.call ⟨.value (.func f),#[x],ts⟩,t,pos,af,none⟩).run P w=.ok (.enter f #[v]) w:=run_callF (xs:=[x]) (vs:=[v]) he (by simp [vals,hx]) hs w (some d)
 simp only [wpList,Region.wanted,if_true]
 refine .inl ?_
 unfold Oper.wp
 rw [hrun]
 refine (hw.compacted hm hS hl).mono ?_
 rintro en w' ⟨v',rfl,hc⟩
 exact next v' _ hz h _ w' (hs.put hd _) hc
end
end Go.S
end
section
namespace Go.S
open Go.Sort Go.Proofs
set_option linter.unusedVariables false
set_option linter.unusedSimpArgs false
def srtF {α:Type} (cf:α→α→Int) (l:List α):List α:=l.mergeSort fun x y=>!(ltOf cf) y x
def xSortF {α:Type} (cf:α→α→Int) (l:List α):Option (List α):=if l.length < 4611686018427387904 then some (srtF cf l) else none
theorem srtF_length {α:Type} (cf:α→α→Int) (l:List α):(srtF cf l).length=l.length:=by unfold srtF;exact List.length_mergeSort l
structure SortFC {α:Type} [Inhabited α] (P:Program) (f:FuncId) (enc:α→List Value) (k:Nat):Prop where
 some':∀ (cf:α→α→Int),SWO (ltOf cf)→(∀ x y,(ltOf cf) x y=false→(ltOf cf) y x=false→x=y)→∀ (g:Nat) (cb:Array Value) (blk off cap:Nat) (d:Array α) (w:World),(∀ args w,(callFunc g args).run P w=.ok (.enter g args) w) →
  CmpLays P g cb enc k cf blk off d.size w→HoldsK enc k w blk off d→blk < w.heap.size→d.size < 4611686018427387904 →
  Calls P f #[.slice (some ⟨blk,off,none⟩) d.size cap,.func (.func g) #[] cb] w fun e w'=>e=.returned (.tuple #[])∧∃ n os,w'=sortWorldK enc k w blk off n (d.toList.mergeSort fun x y=>!(ltOf cf) y x).toArray os
 none':∀ (p:Option Addr) (cap:Nat) (fv:Value) (w:World),Calls P f #[.slice p 0 cap,fv] w fun e w'=>e=.returned (.tuple #[])∧w'=w
theorem Cls.grown_of {w w':World} {m:List As} (h:Cls w [] m w'):∃ q os,w'=grow (w.drewN q) os:=by
 refine ⟨w'.drawn - w.drawn,w'.heap.extract w.heap.size w'.heap.size,?_⟩
 have hd:=h.dr.le
 have h1:=h.os
 have h2:=h.tape
 have h3:=h.output
 have hh:w'.heap=w.heap++w'.heap.extract w.heap.size w'.heap.size:=by
  apply Array.ext_getElem?
  intro i
  by_cases c:i < w.heap.size
  ·rw [Array.getElem?_append_left c,h.old i c (by simp)]
  ·rw [Array.getElem?_append_right (by omega),Array.getElem?_extract]
   by_cases c2:i < w'.heap.size
   ·rw [if_pos (by omega),show w.heap.size+(i - w.heap.size)=i by omega]
   ·rw [if_neg (by omega),Array.getElem?_eq_none (by omega)]
 cases w'
 cases w
 simp only [grow,World.drewN] at *
 subst h1 h2 h3
 simp only [World.mk.injEq,true_and,and_true]
 exact ⟨hh,by omega⟩
section
variable {α:Type} [Inhabited α] {enc:α→List Value} {k:Nat}
end
section
variable {P:Program} {Q:Exit→Act→World→Prop} {n:Nat} {fs:Fr} {t:TypeId} {ops:Array Oper} {rest:List Oper} {d:Nat} {pos:String} {af:Array Edge}
variable {w0:World} {own:List Nat} {m:List As} {x y:Operand} {e:TypeId} {i k:Nat} {v:Value} {f g:FuncId} {ts:Array TypeId}
variable {α:Type} [Inhabited α] {enc:α→List Value} {l:List α} {cf:α→α→Int}
end
end Go.S
end
section
namespace Go.S
open Go.Sort Go.Proofs
set_option linter.unusedVariables false
set_option linter.unusedSimpArgs false
structure SortLC (P:Program) (f:FuncId):Prop where
 some':∀ {α:Type} [Inhabited α] (enc:α→Value),OneCell enc→∀ (cf:α→α→Int),SWO (ltOf cf)→(∀ x y,(ltOf cf) x y=false→(ltOf cf) y x=false→x=y)→∀ (g:Nat) (cb:Array Value) (blk off cap:Nat) (d:Array α) (w:World),(∀ args w,(callFunc g args).run P w=.ok (.enter g args) w) →
  CmpLays1 P g cb enc cf blk off d.size w→Holds enc w blk off d→blk < w.heap.size→d.size < 4611686018427387904 →
  Calls P f #[.slice (some ⟨blk,off,none⟩) d.size cap,.func (.func g) #[] cb] w fun e w'=>e=.returned (.tuple #[])∧∃ n os,w'=sortWorld enc w blk off n (d.toList.mergeSort fun x y=>!(ltOf cf) y x).toArray os
 none':∀ (p:Option Addr) (cap:Nat) (fv:Value) (w:World),Calls P f #[.slice p 0 cap,fv] w fun e w'=>e=.returned (.tuple #[])∧w'=w
def hd0 (l:List Int):Int:=l.headD 0
def cfH (x y:List Int):Int:=hd0 x - hd0 y
def okH (l:List Int):Prop:=l≠[]∧0≤hd0 l∧hd0 l < 4611686018427387904
instance (l:List Int):Decidable (okH l):=inferInstanceAs (Decidable (_∧_))
def srtH (l:List (List Int)):List (List Int):=l.mergeSort fun x y=>decide (hd0 x≤hd0 y)
def xSortH (l:List (List Int)):Option (List (List Int)):=if l.length < 4611686018427387904∧(∀ x∈l,okH x)∧l.Pairwise (fun x y=>hd0 x≠hd0 y) then some (srtH l) else none
theorem xSortH_some {l r:List (List Int)} (h:xSortH l=some r):l.length < 4611686018427387904∧(∀ x∈l,okH x)∧l.Pairwise (fun x y=>hd0 x≠hd0 y)∧r=srtH l:=by
 unfold xSortH at h
 split at h
 ·rename_i hc;simp only [Option.some.injEq] at h;exact ⟨hc.1,hc.2.1,hc.2.2,h.symm⟩
 ·cases h
theorem one_flat {α:Type} (f:α→Value):∀ l:List α,(l.map fun x=>[f x]).flatten=l.map f
 | []=>rfl
 | x :: l=>by simp only [List.map_cons,List.flatten_cons,one_flat f l];rfl
def prs (q:Nat→List Value):List (List Int)→List (List Int×Value)
 | []=>[]
 | x :: l=>(x,gv (q 0) 0) :: prs (fun i=>q (i+1)) l
theorem prs_fst:∀ (q:Nat→List Value) (l:List (List Int)),(prs q l).map Prod.fst=l
 | _,[]=>rfl
 | q,x :: l=>by rw [prs,List.map_cons,prs_fst]
theorem prs_zr:∀ (q:Nat→List Value) (l:List (List Int)),zr svRow q l=(prs q l).map fun p=>[p.2]
 | _,[]=>rfl
 | q,x :: l=>by rw [prs,List.map_cons,zr,prs_zr];rfl
theorem prs_zs (e k:Nat):∀ (q:Nat→List Value) (l:List (List Int)),zs (svSd e k I) q l=(prs q l).map fun p=>⟨p.2,e,k,p.1.map I⟩
 | _,[]=>rfl
 | q,x :: l=>by rw [prs,List.map_cons,zs,prs_zs];rfl
def gof (L:List (List Int×Value)):Nat→List Value:=fun i=>[((L[i]?).map Prod.snd).getD (.slice none 0 0)]
theorem prs_gof:∀ L:List (List Int×Value),prs (gof L) (L.map Prod.fst)=L
 | []=>rfl
 | p :: L=>by
  rw [List.map_cons,prs]
  have h1:(fun i=>gof (p :: L) (i+1))=gof L:=by funext i;simp [gof]
  rw [h1,prs_gof]
  rfl
section
variable {P:Program} {Q:Exit→Act→World→Prop} {n:Nat} {fs:Fr} {t:TypeId} {ops:Array Oper} {rest:List Oper} {d:Nat} {pos:String} {af:Array Edge}
variable {w0:World} {own:List Nat} {m:List As} {x y:Operand} {e:TypeId} {i j k:Nat} {v:Value} {f g:FuncId} {ts:Array TypeId}
theorem Cls.sortedL {α:Type} [Inhabited α] {enc:α→Value} {l:List α} {cf:α→α→Int} {w:World} (h:Cls w0 own m w) (hm:m[i]?=some (.sl v e 1 (l.map fun x=>[enc x]))) (hS:SortLC P f) (h1c:OneCell enc) (hO:SWO (ltOf cf)) (hT:∀ x y,(ltOf cf) x y=false→(ltOf cf) y x=false→x=y)
  (he:entB P g=true) (hC:∀ x y w' (l':List α),l'.length=l.length→Cls w0 own (m.set i (.sl v e 1 (l'.map fun x=>[enc x]))) w'→Does P g [enc x,enc y] w' fun u m=>u=.int .i64 (cf x y)) (hl:l.length < 4611686018427387904) :
  Calls P f #[v,.func (.func g) #[] #[]] w fun en w'=>en=.returned (.tuple #[])∧Cls w0 own (m.set i (.sl v e 1 ((srtF cf l).map fun x=>[enc x]))) w':=by
 obtain ⟨hr,hln,h3⟩:=h.get hm
 rcases h3 with ⟨rfl,hn⟩ | ⟨b,cap,cur,rfl,hg,hh,hnc,hcm,hcs,htk⟩
 ·have h0:l=[]:=by simpa using hn
  subst h0
  refine Calls.mono (hS.none' none 0 _ w) ?_
  rintro en w' ⟨rfl,rfl⟩
  refine ⟨rfl,?_⟩
  have:(As.sl (.slice none 0 0) e 1 ((srtF cf []).map fun x=>[enc x]))=As.sl (.slice none 0 0) e 1 (([]:List α).map fun x=>[enc x]):=by simp [srtF]
  rw [this,set_self hm]
  exact h
 ·rw [List.length_map] at htk hnc
  rw [Nat.mul_one,one_flat] at htk
  have hgl:b < w.heap.size:=(Array.getElem?_eq_some_iff.1 hh).1
  rw [List.length_map]
  rw [List.length_map] at hC
  have hcs':cur.size=cap:=by simpa using hcs
  have key:∀ (q:Nat) (os:Array Obj) (l':List α),l'.length=l.length→Cls w0 own (m.set i (.sl (.slice (some ⟨b,0,none⟩) l.length cap) e 1 (l'.map fun x=>[enc x]))) (sortWorld enc w b 0 q l'.toArray os):=by
   intro q os l' hl'
   refine Cls.grown ?_ os
   refine h.turn hm (by rw [List.length_map];rfl) rfl rfl rfl (by simp [putRow,mapBlock,Sort.ahead]) (Nat.le_add_right _ _) (fun z hz=>?_) ⟨fun r hr=>?_,?_⟩
   ·have hne:z≠b:=by
     intro hzb
     exact hz (by simp [As.foot,Value.ownBlock,hzb])
    simp [putRow,mapBlock,Sort.ahead,Array.getElem?_modify,Ne.symm hne]
   ·obtain ⟨z,_,rfl⟩:=List.mem_map.1 hr;rfl
   ·rw [List.length_map,hl',one_flat]
    refine ⟨by simp [hl'],.inr ⟨b,cap,putCells enc 0 l'.toArray cur,rfl,hg,?_,hnc,hcm,by simp [putCells,hcs'],?_⟩⟩
    ·simp [putRow,mapBlock,Sort.ahead,Array.getElem?_modify,hh,onCells]
    ·rw [Nat.mul_one]
     apply List.ext_getElem?
     intro z
     by_cases c:z < l.length
     ·rw [List.getElem?_take_of_lt c,Array.getElem?_toList]
      simp only [putCells,Array.getElem?_mapIdx,Nat.zero_le,true_and,Nat.zero_add,Nat.sub_zero]
      rw [Array.getElem?_eq_getElem (show z < cur.size by omega)]
      simp only [Option.map_some,List.size_toArray]
      rw [if_pos (by omega),List.getElem?_map,List.getElem?_eq_getElem (show z < l'.length by omega),getElem!_pos _ z (by simp;omega)]
      simp
     ·rw [List.getElem?_take_eq_none (by omega),List.getElem?_eq_none (by simp [hl'];omega)]
  have hH:Holds enc w b 0 l.toArray:=by
   intro z hz
   have hz':z < l.length:=by simpa using hz
   refine ⟨?_,by simp [World.frozen?,hh]⟩
   have h2:(cur.toList.take l.length)[z]?=(l.map enc)[z]?:=by rw [htk]
   rw [List.getElem?_take_of_lt hz',Array.getElem?_toList,List.getElem?_map] at h2
   simp only [World.cell?,hh,Nat.zero_add,Option.isSome_none,Bool.false_eq_true,if_false]
   rw [h2,List.getElem?_eq_getElem hz',getElem!_pos _ z hz]
   simp
  have hcmp:CmpLays1 P g #[] enc cf b 0 l.toArray.size w:=by
   intro q os dk hdk x y
   have hk:=key q os dk.toList (by simpa using hdk)
   rw [Array.toArray_toList] at hk
   have h1:=hC x y _ dk.toList (by simpa using hdk) hk
   unfold Does at h1
   refine Calls.mono h1 ?_
   rintro en w' ⟨u,m',rfl,rfl,hc⟩
   exact ⟨rfl,hc.grown_of⟩
  have hcall:=hS.some' enc h1c cf hO hT g #[] b 0 cap l.toArray w (fun args w=>run_call he args w) hcmp hH hgl (by simpa using hl)
  rw [List.size_toArray] at hcall
  refine Calls.mono hcall ?_
  rintro en w' ⟨rfl,q,os,rfl⟩
  exact ⟨rfl,key q os (srtF cf l) (srtF_length cf l)⟩
theorem Cls.ssPerm {L L':List Sd} {w:World} (h:Cls w0 own m w) (hj:m[j]?=some (.ss L)) (hp:L'.Perm L):Cls w0 own (m.set j (.ss L')) w:=by
 obtain ⟨hjl,hje⟩:=List.getElem?_eq_some_iff.1 hj
 have hs:m=m.take j++.ss L :: m.drop (j+1):=by rw [← hje,List.getElem_cons_drop,List.take_append_drop]
 have hs2:m.set j (.ss L')=m.take j++.ss L' :: m.drop (j+1):=List.set_eq_take_append_cons_drop.trans (by rw [if_pos hjl])
 refine h.rePerm ?_ fun x hx=>?_
 ·rw [hs2]
  conv=>rhs;rw [hs]
  simp only [List.flatMap_append,List.flatMap_cons]
  exact List.Perm.append_left _ (List.Perm.append_right _ (hp.flatMap_right _))
 ·rw [hs2] at hx
  rcases List.mem_append.1 hx with h1 | h1
  ·exact (h.mine x (List.mem_of_mem_take h1)).1
  ·rcases List.mem_cons.1 h1 with rfl | h1
   ·intro d hd
    exact (h.get hj) d (hp.mem_iff.1 hd)
   ·exact (h.mine x (List.mem_of_mem_drop h1)).1
theorem pw_mem {L:List (List Int×Value)} (h:(L.map Prod.fst).Pairwise fun x y=>hd0 x≠hd0 y):∀ a b,a∈L→b∈L→hd0 a.1=hd0 b.1→a=b:=by
 induction L with
 | nil=>intro a b ha;cases ha
 | cons p L ih =>
  rw [List.map_cons,List.pairwise_cons] at h
  intro a b ha hb hab
  rcases List.mem_cons.1 ha with rfl | ha2
  ·rcases List.mem_cons.1 hb with rfl | hb2
   ·rfl
   ·exact absurd hab (h.1 _ (List.mem_map_of_mem hb2))
  ·rcases List.mem_cons.1 hb with rfl | hb2
   ·exact absurd hab.symm (h.1 _ (List.mem_map_of_mem ha2))
   ·exact ih h.2 a b ha2 hb2 hab
theorem Cls.sortedH {e':TypeId} {q:Nat→List Value} {l:List (List Int)} {mc:List Int→List Int→Option Int} {w:World} (h:Cls w0 own m w) (hm:m[i]?=some (.sl v e 1 (zr svRow q l))) (hj:m[j]?=some (.ss (zs (svSd e' 1 I) q l))) (hij:i≠j) (hS:SortLC P f) (he:entB P g=true)
  (hc:∀ x y,okH x→okH y→mc x y=some (cfH x y)) (hg:∀ a b u v w r,mc a b=some r→At w u 1 (a.map I)→At w v 1 (b.map I)→Does P g [u,v] w fun x _=>x=.int .i64 r)
  (hl:l.length < 4611686018427387904) (hok:∀ x∈l,okH x) (hd:l.Pairwise fun x y=>hd0 x≠hd0 y) :
  Calls P f #[v,.func (.func g) #[] #[]] w fun en w'=>en=.returned (.tuple #[])∧∃ q',Cls w0 own ((m.set i (.sl v e 1 (zr svRow q' (srtH l)))).set j (.ss (zs (svSd e' 1 I) q' (srtH l)))) w':=by
 by_cases h0:l=[]
 ·subst h0
  obtain ⟨hr,hln,h3⟩:=h.get hm
  have hv:∃ p cap,v=.slice p 0 cap:=by
   rcases h3 with ⟨rfl,_⟩ | ⟨b,cap,cur,rfl,_⟩
   ·exact ⟨_,_,rfl⟩
   ·exact ⟨_,_,rfl⟩
  obtain ⟨p,cap,rfl⟩:=hv
  refine Calls.mono (hS.none' p cap _ w) ?_
  rintro en w' ⟨rfl,rfl⟩
  refine ⟨rfl,q,?_⟩
  have h1:srtH []=[]:=by simp [srtH]
  rw [h1,set_self hm,set_self hj]
  exact h
 ·have hL:prs q l≠[]:=by
   intro h1
   apply h0
   rw [← prs_fst q l,h1]
   rfl
  generalize hLe:prs q l=L at *
  have hfst:L.map Prod.fst=l:=by rw [← hLe,prs_fst]
  have hzr:zr svRow q l=L.map fun p=>[p.2]:=by rw [prs_zr,hLe]
  have hzs:zs (svSd e' 1 I) q l=L.map fun p=>(⟨p.2,e',1,p.1.map I⟩:Sd):=by rw [prs_zs,hLe]
  have hok':∀ p∈L,okH p.1:=fun p hp=>hok _ (by rw [← hfst];exact List.mem_map_of_mem hp)
  have hpm:=pw_mem (L:=L) (by rw [hfst];exact hd)
  haveI:Inhabited {p // p∈L}:=⟨⟨L.head hL,List.head_mem hL⟩⟩
  have hlt:∀ x y:{p // p∈L},ltOf (fun x y:{p // p∈L}=>cfH x.1.1 y.1.1) x y=decide (hd0 x.1.1 < hd0 y.1.1):=by
   intro x y
   have:ltOf (fun x y:{p // p∈L}=>cfH x.1.1 y.1.1) x y=decide (cfH x.1.1 y.1.1 < 0):=rfl
   rw [this,decide_eq_decide]
   unfold cfH
   omega
  have hSW:SWO (ltOf fun x y:{p // p∈L}=>cfH x.1.1 y.1.1):=by
   refine ⟨fun x=>?_,fun x y z h1 h2=>?_,fun x y z h1 h2=>?_⟩
   ·rw [hlt];simp
   ·rw [hlt] at *;simp only [decide_eq_true_eq] at *;omega
   ·rw [hlt] at *;simp only [decide_eq_false_iff_not] at *;omega
  have hT:∀ x y:{p // p∈L},ltOf (fun x y:{p // p∈L}=>cfH x.1.1 y.1.1) x y=false→ltOf (fun x y:{p // p∈L}=>cfH x.1.1 y.1.1) y x=false→x=y:=by
   intro x y h1 h2
   rw [hlt] at h1 h2
   simp only [decide_eq_false_iff_not] at h1 h2
   exact Subtype.ext (hpm _ _ x.2 y.2 (by omega))
  have hrow:∀ X:List {p // p∈L},(X.map fun x=>[x.1.2])=(X.map Subtype.val).map fun p=>[p.2]:=fun X=>by rw [List.map_map];rfl
  have hm':m[i]?=some (.sl v e 1 (L.attach.map fun x=>[x.1.2])):=by rw [hm,hzr,hrow,List.attach_map_subtype_val]
  have hssd:∀ w' (X:List {p // p∈L}),Cls w0 own (m.set i (.sl v e 1 (X.map fun x=>[x.1.2]))) w'→∀ p∈L,At w' p.2 1 (p.1.map I):=by
   intro w' X hw p hp
   have h1:(m.set i (.sl v e 1 (X.map fun x=>[x.1.2])))[j]?=some (.ss (zs (svSd e' 1 I) q l)):=by rw [List.getElem?_set_ne hij];exact hj
   have h2:=hw.get h1
   rw [hzs] at h2
   exact As.at_ (e:=e') (h2 ⟨p.2,e',1,p.1.map I⟩ (List.mem_map_of_mem hp))
  have h1c:OneCell fun x:{p // p∈L}=>x.1.2:=fun x=>(hssd w L.attach (by rw [set_self hm'];exact h) x.1 x.2).one
  refine Calls.mono (h.sortedL (l:=L.attach) (enc:=fun x=>x.1.2) (cf:=fun x y=>cfH x.1.1 y.1.1) hm' hS h1c hSW hT he (fun x y w' l' _ hw=>?_) (by rw [List.length_attach,← List.length_map (f:=Prod.fst),hfst];exact hl)) ?_
  ·exact hg x.1.1 y.1.1 _ _ w' _ (hc _ _ (hok' _ x.2) (hok' _ y.2)) (hssd w' l' hw _ x.2) (hssd w' l' hw _ y.2)
  ·rintro en w' ⟨rfl,hcl⟩
   generalize hX:srtF (fun x y:{p // p∈L}=>cfH x.1.1 y.1.1) L.attach=X at hcl
   have hpX:X.Perm L.attach:=by rw [← hX];exact List.mergeSort_perm _ _
   have hpL:(X.map Subtype.val).Perm L:=(hpX.map Subtype.val).trans (by rw [List.attach_map_subtype_val])
   have hl2:(X.map Subtype.val).map Prod.fst=srtH l:=by
    rw [← hX,List.map_map]
    unfold srtF srtH
    rw [List.map_mergeSort (s:=fun x y=>decide (hd0 x≤hd0 y))]
    ·rw [← List.map_map,List.attach_map_subtype_val,hfst]
    ·intro a _ b _
     rw [hlt]
     simp only [Function.comp]
     by_cases c:hd0 b.1.1 < hd0 a.1.1
     ·rw [decide_eq_true c,decide_eq_false (by omega)];rfl
     ·rw [decide_eq_false c,decide_eq_true (by omega)];rfl
   refine ⟨rfl,gof (X.map Subtype.val),?_⟩
   rw [← hl2]
   have e1:zr svRow (gof (X.map Subtype.val)) ((X.map Subtype.val).map Prod.fst)=X.map fun x=>[x.1.2]:=by rw [prs_zr,prs_gof,hrow]
   have e2:zs (svSd e' 1 I) (gof (X.map Subtype.val)) ((X.map Subtype.val).map Prod.fst)=(X.map Subtype.val).map fun p=>(⟨p.2,e',1,p.1.map I⟩:Sd):=by rw [prs_zs,prs_gof]
   rw [e1,e2]
   refine hcl.ssPerm (L:=zs (svSd e' 1 I) q l) (by rw [List.getElem?_set_ne hij];exact hj) ?_
   rw [hzs]
   exact hpL.map _
theorem L.sortH {ρ:Type} {r:ρ} {F:List (List Int)→Option ρ} {e':TypeId} {q:Nat→List Value} {l:List (List Int)} {mc:List Int→List Int→Option Int} (h:bind1 (xSortH l) F=some r) (hS:SortLC P f)
  (hc:∀ x y,okH x→okH y→mc x y=some (cfH x y)) (hg:∀ a b u v w r,mc a b=some r→At w u 1 (a.map I)→At w v 1 (b.map I)→Does P g [u,v] w fun x _=>x=.int .i64 r)
  (hge:entB P g=true) (hd:Nat.blt d n=true) (he:entB P f=true) (hx:val fs x=some v) (hy:val fs y=some (.func (.func g) #[] #[])) (hm:m[i]?=some (.sl v e 1 (zr svRow q l))) (hj:m[j]?=some (.ss (zs (svSd e' 1 I) q l))) (hij:i≠j)
  (next:∀ z q',xSortH l=some z→F z=some r→L P ops Q n (Cls w0 own ((m.set i (.sl v e 1 (zr svRow q' z))).set j (.ss (zs (svSd e' 1 I) q' z)))) rest ((d,.tuple #[]) :: fs)):L P ops Q n (Cls w0 own m) (⟨some d,.call ⟨.value (.func f),#[x,y],ts⟩,t,pos,af,none⟩ :: rest) fs:=by
 obtain ⟨z,hz,h⟩:=bind1S h
 obtain ⟨hl,hok,hD,rfl⟩:=xSortH_some hz
 intro a w hs hw
 have hrun:(execOp a.eval ⟨some d,.call ⟨.value (.func f),#[x,y],ts⟩,t,pos,af,none⟩).run P w=.ok (.enter f #[v,.func (.func g) #[] #[]]) w:=run_callF (xs:=[x,y]) (vs:=[v,.func (.func g) #[] #[]]) he (by simp [vals,hx,hy]) hs w (some d)
 simp only [wpList,Region.wanted,if_true]
 refine .inl ?_
 unfold Oper.wp
 rw [hrun]
 refine (hw.sortedH hm hj hij hS hge hc hg hl hok hD).mono ?_
 rintro en w' ⟨rfl,q',hcl⟩
 exact next _ q' hz h _ w' (hs.put hd _) hcl
end
end Go.S
end
section
namespace Go.S
set_option linter.unusedVariables false
set_option linter.unusedSimpArgs false
theorem sl0 {S:List (List Value)}:(S.take 0).flatten.length=0:=by simp
theorem sl1 {X:List Value} {S:List (List Value)} {i a p:Nat} (h:X.length=a) (hs:(S.take i).flatten.length=p):((X :: S).take (i+1)).flatten.length=a+p:=by
 rw [List.take_succ_cons,List.flatten_cons,List.length_append,h,hs]
theorem seg_get:∀ {S:List (List Value)} {i p q:Nat} {X:List Value} {v:Value},S[i]?=some X→(S.take i).flatten.length=p→X[q]?=some v→S.flatten[p+q]?=some v
 | [],i,p,q,X,v,hS,_,_=>by simp at hS
 | Y :: S,0,p,q,X,v,hS,hp,hv=>by
  simp only [List.getElem?_cons_zero,Option.some.injEq] at hS
  subst hS
  simp only [List.take_zero,List.flatten_nil,List.length_nil] at hp
  subst hp
  rw [Nat.zero_add,List.flatten_cons,List.getElem?_append_left (List.getElem?_eq_some_iff.1 hv).1]
  exact hv
 | Y :: S,i+1,p,q,X,v,hS,hp,hv=>by
  simp only [List.getElem?_cons_succ] at hS
  rw [List.take_succ_cons,List.flatten_cons,List.length_append] at hp
  rw [List.flatten_cons,List.getElem?_append_right (by omega),show p+q - Y.length=(S.take i).flatten.length+q by omega]
  exact seg_get hS rfl hv
theorem over_right:∀ (vals:List Value) (A B:List Value) (q:Nat),over (A++B) (A.length+q) vals=A++over B q vals
 | [],A,B,q=>rfl
 | v :: vals,A,B,q=>by
  rw [over,over,List.set_append_right _ _ (by omega),show A.length+q - A.length=q by omega,Nat.add_assoc]
  exact over_right vals A _ (q+1)
theorem over_left:∀ (vals:List Value) (A B:List Value) (q:Nat),q+vals.length≤A.length→over (A++B) q vals=over A q vals++B
 | [],A,B,q,_=>rfl
 | v :: vals,A,B,q,h=>by
  simp only [List.length_cons] at h
  rw [over,over,List.set_append_left _ _ (by omega)]
  exact over_left vals _ B (q+1) (by rw [List.length_set];omega)
theorem seg_over:∀ {S:List (List Value)} {i p q:Nat} {X vals:List Value},S[i]?=some X→(S.take i).flatten.length=p→q+vals.length≤X.length→over S.flatten (p+q) vals=(S.set i (over X q vals)).flatten
 | [],i,p,q,X,vals,hS,_,_=>by simp at hS
 | Y :: S,0,p,q,X,vals,hS,hp,hv=>by
  simp only [List.getElem?_cons_zero,Option.some.injEq] at hS
  subst hS
  simp only [List.take_zero,List.flatten_nil,List.length_nil] at hp
  subst hp
  rw [Nat.zero_add,List.flatten_cons,over_left _ _ _ _ hv]
  rfl
 | Y :: S,i+1,p,q,X,vals,hS,hp,hv=>by
  simp only [List.getElem?_cons_succ] at hS
  rw [List.take_succ_cons,List.flatten_cons,List.length_append] at hp
  rw [List.flatten_cons,show p+q=Y.length+((S.take i).flatten.length+q) by omega,over_right,seg_over hS rfl hv]
  rfl
theorem seg_len:∀ {S:List (List Value)} {i p:Nat} {X:List Value},S[i]?=some X→(S.take i).flatten.length=p→p+X.length≤S.flatten.length
 | [],i,p,X,hS,_=>by simp at hS
 | Y :: S,0,p,X,hS,hp=>by
  simp only [List.getElem?_cons_zero,Option.some.injEq] at hS
  subst hS
  simp only [List.take_zero,List.flatten_nil,List.length_nil] at hp
  subst hp
  rw [List.flatten_cons,List.length_append];omega
 | Y :: S,i+1,p,X,hS,hp=>by
  simp only [List.getElem?_cons_succ] at hS
  rw [List.take_succ_cons,List.flatten_cons,List.length_append] at hp
  have:=seg_len hS rfl
  rw [List.flatten_cons,List.length_append];omega
section
variable {P:Program} {Q:Exit→Act→World→Prop} {n:Nat} {C:World→Prop} {fs:Fr} {t:TypeId} {ops:Array Oper} {rest:List Oper} {d:Nat} {pos:String} {af:Array Edge}
variable {w0 w:World} {own:List Nat} {m:List As} {x y:Operand} {e te tx ty:TypeId} {i j k kk by' p q s c jj b si ps nn:Nat} {v u:Value} {o:Nat} {vals X:List Value} {S:List (List Value)}
variable {α ρ:Type} {r:ρ} {row:α→List Value→List Value} {sds:α→List Value→List Sd} {vs:Nat→List Value} {l:List α} {a:Int} {u0 u1:α} {f:List α→Option ρ}
theorem zrN (hlen:∀ z v,(row z v).length=k) (hl:l.length=nn):(zr row vs l).flatten.length=nn*k:=by rw [zr_len hlen,hl]
theorem Y.indexAS {len:Nat} {ik:IntKind} (hu:P.underlying tx=some (.array len e)) (hsz:szB P e k=true) (hx:val fs x=some (pt b o)) (hy:val fs y=some (.int ik a)) (z:α) (hr:idxA len l a=some z) :
  Y P (.indexAddr tx x y) t n fs C (pt b (o+a.toNat*k)):=Y.indexP hu hsz hx hy (idx_some (idxA_idx hr)).1 (idxA_lt hr)
theorem L.toSeg {S:List (List Value)} {cs:List Value} {ll:List Oper} (hc:cs=S.flatten) (next:L P ops Q n (Cls w0 own (.obj b S.flatten e :: m)) ll fs):L P ops Q n (Cls w0 own (.obj b cs e :: m)) ll fs:=by
 subst hc;exact next
theorem L.ssNil {ll:List Oper} {xs:List α} (hn:∀ d∈zs sds vs xs,d.v=.slice none 0 0∧d.rows=[]) (next:L P ops Q n (Cls w0 own (.ss (zs sds vs xs) :: m)) ll fs):L P ops Q n (Cls w0 own m) ll fs :=
 L.to (fun w hw=>hw.ssNew hn) next
theorem Y.loadG (ha:aggB P te false=true) (hx:val fs x=some (pt b o)) (ho:o=ps+j) (hm:m[q]?=some (.obj b S.flatten e)) (hS:S[si]?=some X) (hp:(S.take si).flatten.length=ps) (hv:X[j]?=some v) :
  Y P (.load te x) t n fs (Cls w0 own m) v:=by
 subst ho
 exact Y.loadP ha hx hm (seg_get hS hp hv)
theorem L.storeG (hs:szB P te kk=true) (hx:val fs x=some (pt b o)) (ho:o=ps+j) (hy:val fs y=some u) (hu:u.cells.toList=vals) (hk:vals.length=kk) (h1:∀ u∈vals,u.oneCell'=true) (hm:m[q]?=some (.obj b S.flatten e))
  (hS:S[si]?=some X) (hp:(S.take si).flatten.length=ps) (hj:Nat.ble (j+kk) X.length=true) (next:L P ops Q n (Cls w0 own (m.set q (.obj b (S.set si (over X j vals)).flatten e))) rest fs) :
  L P ops Q n (Cls w0 own m) (⟨none,.store te x y,t,pos,af,none⟩ :: rest) fs:=by
 subst ho
 have hj':j+kk≤X.length:=by simpa using hj
 have h2:=seg_len hS hp
 refine L.store hs hx hy hu hk h1 hm (by omega) ?_
 rwa [seg_over hS hp (by omega)]
theorem Y.loadZg (ha:aggB P te false=true) (hx:val fs x=some (pt b o)) (ho:o=ps+a.toNat*k+j) (hm:m[q]?=some (.obj b S.flatten e)) (hS:S[si]?=some (zr row vs l).flatten) (hp:(S.take si).flatten.length=ps) (hlen:∀ z v,(row z v).length=k) (hr:idx l a=some u0) {pv:Value} (hpv:(row u0 (vs a.toNat))[j]?=some pv) :
  Y P (.load te x) t n fs (Cls w0 own m) pv:=by
 subst ho
 have h1:=zr_flat hlen hr hpv
 have h2:=seg_get hS hp h1
 rw [Nat.zero_add,← Nat.add_assoc] at h2
 exact Y.loadP ha hx hm h2
theorem over_zg (hlen:∀ z v,(row z v).length=k) (hr:idx l a=some u0) {v1:List Value} (hj:j+vals.length≤k) (hrow:over (row u0 (vs a.toNat)) j vals=row u1 v1) (hS:S[si]?=some (zr row vs l).flatten) (hp:(S.take si).flatten.length=ps) :
  over S.flatten (ps+a.toNat*k+j) vals=(S.set si (zr row (gset vs a.toNat v1) (l.set a.toNat u1)).flatten).flatten:=by
 have hi:=idx_some hr
 have hib:(a.toNat+1)*k≤l.length*k:=Nat.mul_le_mul_right k (by omega)
 rw [Nat.succ_mul] at hib
 rw [← over_zr hlen hr hj hrow,show ps+a.toNat*k+j=ps+(0+a.toNat*k+j) by omega]
 exact seg_over hS hp (by rw [zr_len hlen];omega)
theorem seg_fit (hlen:∀ z v,(row z v).length=k) (hr:idx l a=some u0) (hj:j+kk≤k) (hS:S[si]?=some (zr row vs l).flatten) (hp:(S.take si).flatten.length=ps):ps+a.toNat*k+j+kk≤S.flatten.length:=by
 have hi:=idx_some hr
 have hib:(a.toNat+1)*k≤l.length*k:=Nat.mul_le_mul_right k (by omega)
 rw [Nat.succ_mul] at hib
 have h2:=seg_len hS hp
 rw [zr_len hlen] at h2
 omega
theorem zs_same (hc:∀ z v,(sds z v).length=c) (hr:idx l a=some u0) (hsd:sds u1 (vs a.toNat)=sds u0 (vs a.toNat)):zs sds vs (l.set a.toNat u1)=zs sds vs l:=by
 have hi:=idx_some hr
 by_cases h0:0 < c
 ·have h2:=zs_set hc vs l a.toNat 0 u0 u1 (vs a.toNat) ((sds u0 (vs a.toNat))[0]'(by rw [hc];exact h0)) hi.2.2 h0 (by rw [hsd,List.set_getElem_self])
  rw [gset_same] at h2
  have h3:=zs_get hc vs l a.toNat 0 u0 hi.2.2 h0
  rw [List.getElem?_eq_getElem (l:=sds u0 (vs a.toNat)) (by rw [hc];exact h0)] at h3
  obtain ⟨h4,h5⟩:=List.getElem?_eq_some_iff.1 h3
  rw [h2,← h5,List.set_getElem_self]
 ·have h6:∀ (vs:Nat→List Value) (xs:List α),zs sds vs xs=[]:=by
   intro vs xs
   induction xs generalizing vs with
   | nil=>rfl
   | cons y ys ih =>
    rw [zs,ih,List.append_nil]
    exact List.eq_nil_of_length_eq_zero (by rw [hc];omega)
  rw [h6,h6]
theorem zsA_foot {v1:List Value}:∀ (vs:Nat→List Value) (l:List α) (i:Nat),l[i]?=some u0→(∀ d∈sds u1 v1,d.v=.slice none 0 0∧d.rows=[])→(∀ b∈(zs sds (gset vs i v1) (l.set i u1)).flatMap Sd.foot,b∈(zs sds vs l).flatMap Sd.foot)∧(((zs sds vs l).flatMap Sd.foot).Nodup→((zs sds (gset vs i v1) (l.set i u1)).flatMap Sd.foot).Nodup):=by
 intro vs l i h hsd
 have hf:(sds u1 v1).flatMap Sd.foot=[]:=by
  rw [List.flatMap_eq_nil_iff]
  intro d hd
  unfold Sd.foot
  rw [(hsd d hd).1];rfl
 induction l generalizing vs i with
 | nil=>simp at h
 | cons y ys ih =>
  cases i with
  | zero =>
   simp only [List.set_cons_zero,zs,gset_0,gset_0s,List.flatMap_append,hf,List.nil_append]
   exact ⟨fun b hb=>List.mem_append_right _ hb,fun hnd=>(List.nodup_append.1 hnd).2.1⟩
  | succ i =>
   simp only [List.getElem?_cons_succ] at h
   obtain ⟨g1,g2⟩:=ih (fun q=>vs (q+1)) i h
   simp only [List.set_cons_succ,zs,gset_s0,gset_ss,List.flatMap_append]
   refine ⟨fun b hb=>?_,fun hnd=>?_⟩
   ·rcases List.mem_append.1 hb with h1 | h1
    ·exact List.mem_append_left _ h1
    ·exact List.mem_append_right _ (g1 b h1)
   ·rw [List.nodup_append] at hnd
    exact List.nodup_append.2 ⟨hnd.1,g2 hnd.2.1,fun a ha b hb=>hnd.2.2 a ha b (g1 b hb)⟩
theorem L.storeZg (h:bind1 (upd l a u1) f=some r) (hs:szB P te kk=true) (hx:val fs x=some (pt b o)) (ho:o=ps+a.toNat*k+j) (hy:val fs y=some u) (hu:u.cells.toList=vals) (hk:vals.length=kk) (h1:∀ u∈vals,u.oneCell'=true)
  (hm:m[q]?=some (.obj b S.flatten e)) (hS:S[si]?=some (zr row vs l).flatten) (hp:(S.take si).flatten.length=ps) (hms:m[s]?=some (.ss (zs sds vs l))) (hlen:∀ z v,(row z v).length=k) (hr:idx l a=some u0) (hj:Nat.ble (j+kk) k=true) (hrow:over (row u0 (vs a.toNat)) j vals=row u1 (vs a.toNat))
  (hc:∀ z v,(sds z v).length=c) (hsd:sds u1 (vs a.toNat)=sds u0 (vs a.toNat)) (next:∀ z,z=l.set a.toNat u1→f z=some r→L P ops Q n (Cls w0 own ((m.set q (.obj b (S.set si (zr row vs z).flatten).flatten e)).set s (.ss (zs sds vs z)))) rest fs) :
  L P ops Q n (Cls w0 own m) (⟨none,.store te x y,t,pos,af,none⟩ :: rest) fs:=by
 subst ho
 have hj':j+kk≤k:=by simpa using hj
 refine L.store hs hx hy hu hk h1 hm (seg_fit hlen hr hj' hS hp) ?_
 rw [over_zg hlen hr (by omega) hrow hS hp,gset_same]
 have hn:=next _ rfl (upd_bind h rfl)
 have hne:q≠s:=by
  rintro rfl
  rw [hm] at hms
  cases hms
 rwa [zs_same hc hr hsd,set_self (m:=m.set q _) (by rw [List.getElem?_set_ne hne];exact hms)] at hn
theorem L.storeZSg (h:bind1 (upd l a u1) f=some r) (hs:szB P te 1=true) (hx:val fs x=some (pt b o)) (ho:o=ps+a.toNat*k+j) (hy:val fs y=some v) {e':TypeId} {k' jj:Nat} {rows:List (List Value)} {L0:List Sd} {v1:List Value}
  (hm:m[q]?=some (.obj b S.flatten e)) (hS:S[si]?=some (zr row vs l).flatten) (hp0:(S.take si).flatten.length=ps) (hp:m[p]?=some (.sl v e' k' rows)) (hms:m[s]?=some (.ss L0)) (hL:L0=zs sds vs l∨L0=(zs sds vs l).set (a.toNat*c+jj) (Sd.nil 0 0)) (hlen:∀ z v,(row z v).length=k) (hc:∀ z v,(sds z v).length=c) (hr:idx l a=some u0) (hj:Nat.ble (j+1) k=true)
  (hrow:over (row u0 (vs a.toNat)) j [v]=row u1 v1) (hjj:Nat.blt jj c=true) (hsd:sds u1 v1=(sds u0 (vs a.toNat)).set jj ⟨v,e',k',rows⟩)
  (next:∀ z vs',z=l.set a.toNat u1→f z=some r→L P ops Q n (Cls w0 own (((m.set q (.obj b (S.set si (zr row vs' z).flatten).flatten e)).set s (.ss (zs sds vs' z))).eraseIdx p)) rest fs) :
  L P ops Q n (Cls w0 own m) (⟨none,.store te x y,t,pos,af,none⟩ :: rest) fs:=by
 subst ho
 have hj':j+1≤k:=by simpa using hj
 have hjj':jj < c:=by simpa [Nat.blt_eq] using hjj
 refine L.storeV hs hx hy (fun w hw=>(As.at_ (hw.get hp)).one) hm (seg_fit hlen hr hj' hS hp0) ?_
 rw [over_zg hlen hr hj' hrow hS hp0]
 refine L.to (fun w hw=>?_) (next _ (gset vs a.toNat v1) rfl (upd_bind h rfl))
 have hqs:q≠s:=by rintro rfl;rw [hm] at hms;cases hms
 have hqp:q≠p:=by rintro rfl;rw [hm] at hp;cases hp
 exact hw.zsPut (by rw [List.getElem?_set_ne hqp];exact hp) (by rw [List.getElem?_set_ne hqs];exact hms) hL hc hr hjj' hsd
theorem L.storeZAg (h:bind1 (upd l a u1) f=some r) (hs:szB P te kk=true) (hx:val fs x=some (pt b o)) (ho:o=ps+a.toNat*k+j) (hy:val fs y=some u) (hu:u.cells.toList=vals) (hk:vals.length=kk) (h1:∀ u∈vals,u.oneCell'=true) {v1:List Value}
  (hm:m[q]?=some (.obj b S.flatten e)) (hS:S[si]?=some (zr row vs l).flatten) (hp:(S.take si).flatten.length=ps) (hms:m[s]?=some (.ss (zs sds vs l))) (hlen:∀ z v,(row z v).length=k) (hr:idx l a=some u0) (hj:Nat.ble (j+kk) k=true) (hrow:over (row u0 (vs a.toNat)) j vals=row u1 v1)
  (hsd:∀ d∈sds u1 v1,d.v=.slice none 0 0∧d.rows=[]) (next:∀ z vs',z=l.set a.toNat u1→f z=some r→L P ops Q n (Cls w0 own ((m.set q (.obj b (S.set si (zr row vs' z).flatten).flatten e)).set s (.ss (zs sds vs' z)))) rest fs) :
  L P ops Q n (Cls w0 own m) (⟨none,.store te x y,t,pos,af,none⟩ :: rest) fs:=by
 subst ho
 have hi:=idx_some hr
 have hj':j+kk≤k:=by simpa using hj
 refine L.store hs hx hy hu hk h1 hm (seg_fit hlen hr hj' hS hp) ?_
 rw [over_zg hlen hr (by omega) hrow hS hp]
 refine L.to (fun w hw=>?_) (next _ (gset vs a.toNat v1) rfl (upd_bind h rfl))
 have hqs:q≠s:=by rintro rfl;rw [hm] at hms;cases hms
 have hs2:(m.set q (.obj b (S.set si (zr row (gset vs a.toNat v1) (l.set a.toNat u1)).flatten).flatten e))[s]?=some (.ss (zs sds vs l)):=by rw [List.getElem?_set_ne hqs];exact hms
 obtain ⟨g1,g2⟩:=zsA_foot vs l a.toNat hi.2.2 hsd
 refine hw.ssLess hs2 g1 g2 (fun hh d hd=>?_)
 rcases zs_mem vs l a.toNat u0 u1 v1 hi.2.2 d hd with h6 | h6
 ·obtain ⟨h7,h8⟩:=hsd d h6
  rw [h7,h8]
  exact slHolds_nil w _ _
 ·exact hh d h6
end
end Go.S
end
section
namespace Go.S
set_option linter.unusedVariables false
set_option linter.unusedSimpArgs false
def fzr {α:Type} (g:α→List Value) (x:α) (_:List Value):List Value:=g x
def sd0 {α:Type} (_:α) (_:List Value):List Sd:=[]
section
variable {K:World→Prop} {c c' c2:List Ob} {v u:Value} {k:Nat} {rows:List (List Value)} {w0 w w':World} {own:List Nat} {m m' A A' M:List As} {e:TypeId} {i j s:Nat}
theorem Cls.osNil (hw:Cls w0 own m w):Cls w0 own (m++[.os []]) w:=by
 refine hw.rePerm (by simp [As.foot]) fun x hx=>?_
 rcases List.mem_append.1 hx with h | h
 ·exact (hw.mine x h).1
 ·rw [List.mem_singleton.1 h]
  intro o ho
  cases ho
theorem StbF.knF (hK:StbF K w0 own) (hw:Cls w0 own (A++M) w) (hl:M.getLast?=some (.os c)):StbF (Kn K c) w (A.flatMap As.foot):=by
 have hm:As.os c∈M:=List.mem_of_getLast? hl
 have hn:=hw.nodup
 rw [List.flatMap_append,List.nodup_append] at hn
 intro w' h1 h2 h3 h4 h5
 refine ⟨hK.lend hw w' h1 h2 h3 h4 h5,fun o ho=>?_⟩
 have h6:=(hw.mine _ (List.mem_append_right _ hm)).1 o ho
 have h7:o.b∈M.flatMap As.foot:=List.mem_flatMap.2 ⟨_,hm,List.mem_map.2 ⟨o,ho,rfl⟩⟩
 rw [h5 o.b (Array.getElem?_eq_some_iff.1 h6).1 fun ha=>hn.2.2 o.b ha o.b h7 rfl,h6]
theorem Cls.osJoin (hw:Cls w0 own m w) (hi:m[i]?=some (.os c2)) (hl:m.getLast?=some (.os c)) (hn:Nat.blt (i+1) m.length=true):Cls w0 own ((m.eraseIdx i).dropLast++[.os (c2++c)]) w:=by
 have h1:Cls w0 own (.os c2 :: .os c :: (m.eraseIdx i).dropLast) w:=hw.perm (perm_two hi hl hn).1.symm
 have h2:Cls w0 own (.os (c2++c) :: (m.eraseIdx i).dropLast) w:=by
  refine h1.rePerm (by simp [As.foot]) fun z hz=>?_
  rcases List.mem_cons.1 hz with rfl | hz
  ·intro o ho
   rcases List.mem_append.1 ho with h | h
   ·exact (h1.mine (.os c2) (by simp)).1 o h
   ·exact (h1.mine (.os c) (by simp)).1 o h
  ·exact (h1.mine z (by simp [hz])).1
 exact h2.perm List.perm_append_comm
end
section
variable {K:World→Prop} {c c' c2:List Ob} {P:Program} {Q:Exit→Act→World→Prop} {n:Nat} {fs:Fr} {t:TypeId} {ops:Array Oper} {rest:List Oper} {d:Nat} {pos:String} {af:Array Edge}
variable {w0 w:World} {own:List Nat} {m A M:List As} {x y z:Operand} {e te tx ty:TypeId} {i j k kk by' p q s b si ps o:Nat} {v u:Value} {X:List Value} {S:List (List Value)}
theorem L.osJoin {ll:List Oper} (hi:m[i]?=some (.os c2)) (hl:m.getLast?=some (.os c)) (hn:Nat.blt (i+1) m.length=true)
  (next:∀ c',Mo c c'→(∀ {v k rows},Fz (Kn K c) c2 v k rows→Fz K c' v k rows)→(∀ {L0},FzA (Kn K c) c2 L0→FzA K c' L0)→L P ops Q n (Cls w0 own ((m.eraseIdx i).dropLast++[.os c'])) ll fs):L P ops Q n (Cls w0 own m) ll fs:=by
 have key:∀ {v k rows},Fz (Kn K c) c2 v k rows→Fz K (c2++c) v k rows:=fun h w hk hh=>h w ⟨hk,fun o ho=>hh o (List.mem_append_right _ ho)⟩ fun o ho=>hh o (List.mem_append_left _ ho)
 exact L.to (fun w hw=>hw.osJoin hi hl hn) (next (c2++c) Mo.app1 key fun h d hd=>key (h d hd))
theorem L.storeGV (hs:szB P te 1=true) (hx:val fs x=some (pt b o)) (ho:o=ps+j) (hy:val fs y=some u) (h1:∀ w,Cls w0 own m w→u.oneCell'=true) (hm:m[q]?=some (.obj b S.flatten e))
  (hS:S[si]?=some X) (hp:(S.take si).flatten.length=ps) (hj:Nat.ble (j+1) X.length=true) (next:L P ops Q n (Cls w0 own (m.set q (.obj b (S.set si (over X j [u])).flatten e))) rest fs) :
  L P ops Q n (Cls w0 own m) (⟨none,.store te x y,t,pos,af,none⟩ :: rest) fs:=fun a w hsl hw =>
 L.storeG hs hx ho hy (cells_one (h1 w hw)) rfl (by simpa using h1 w hw) hm hS hp hj next a w hsl hw
end
end Go.S
end
section
namespace Go.S
set_option linter.unusedVariables false
set_option linter.unusedSimpArgs false
def nxt {α ρ:Type} [DecidableEq ρ] (l:List α) (A:Option ρ) (B:α→List α→Option ρ):Option ρ:=match l with
 | []=>A
 | p :: q=>if (List.range (q.length+1)).all (fun j=>match (p :: q)[j]? with
   | some x=>decide (B x ((p :: q).eraseIdx j)=B p q)
   | none=>true)=true then B p q else none
section
variable {α ρ:Type} [DecidableEq ρ] {l:List α} {A:Option ρ} {B:α→List α→Option ρ} {r:ρ}
@[simp] theorem nxt_nil:nxt [] A B=A:=rfl
def nxtM {α ρ:Type} [DecidableEq ρ] (l:List (Int×α)) (A:Option ρ) (B:Int→α→List (Int×α)→Option ρ):Option ρ:=nxt l A fun p q=>B p.1 p.2 q
end
section
variable {P:Program} {Q:Exit→Act→World→Prop} {n:Nat} {fs:Fr} {C:World→Prop} {t:TypeId} {ops:Array Oper} {rest:List Oper} {d:Nat} {pos:String} {af:Array Edge}
variable {w0:World} {own:List Nat} {m:List As} {x y z:Operand} {kt et tx:TypeId} {i b:Nat} {l left:List (Int×Value)} {a:Int} {v:Value}
def keyIs (a:Int):Value→Bool
 | .int .i64 b=>decide (b=a)
 | _=>false
theorem keyIs_iff {v:Value}:keyIs a v=true↔v=.int .i64 a:=by
 unfold keyIs
 split <;> simp_all
theorem keyIs_ne {v:Value} (h:v≠.int .i64 a):keyIs a v=false:=by
 cases hk:keyIs a v with
 | false=>rfl
 | true=>exact absurd (keyIs_iff.1 hk) h
theorem keyIs_eq:keyIs a (.int .i64 a)=true:=keyIs_iff.2 rfl
theorem erase_kv {es:Array MapEntry} {clock:Nat} (hst:MapKept.Stamped es clock) (he:es.toList.map (fun e=>(e.key,e.val))=l.map kvp) {j:Nat} (h:l[j]?=some (a,v)):(es.eraseIdxIfInBounds j).toList.map (fun e=>(e.key,e.val))=(mdel l a).map kvp∧(es.eraseIdxIfInBounds j).toList=es.toList.eraseIdx j:=by
 have hlen:es.size=l.length:=by have:=congrArg List.length he;simpa using this
 have hj:j < es.size:=by rw [hlen];exact (List.getElem?_eq_some_iff.1 h).1
 have h2:(es.eraseIdxIfInBounds j).toList=es.toList.eraseIdx j:=by
  unfold Array.eraseIdxIfInBounds
  rw [dif_pos hj,Array.toList_eraseIdx]
 refine ⟨?_,h2⟩
 rw [h2,mdel_at (keys_nodup hst he) h,ChangeMaps.map_eraseIdx,ChangeMaps.map_eraseIdx,he]
theorem key_erase:∀ (l:List MapEntry) (j:Nat) {e:MapEntry},(l.map (·.key)).Nodup→l[j]?=some e→e.key=.int .i64 a→l.eraseIdx j=l.filter (fun e=>!keyIs a e.key)
 | [],j,e,_,h,_=>by simp at h
 | c :: l,0,e,hn,h,hek=>by
  rw [List.map_cons,List.nodup_cons] at hn
  simp only [List.getElem?_cons_zero,Option.some.injEq] at h
  subst h
  have:l.filter (fun e=>!keyIs a e.key)=l:=List.filter_eq_self.2 fun p hp=>by
   have:p.key≠.int .i64 a:=fun e=>hn.1 (List.mem_map.2 ⟨p,hp,e.trans hek.symm⟩)
   simp [keyIs_ne this]
  simp [hek,keyIs_eq,this]
 | c :: l,j+1,e,hn,h,hek=>by
  rw [List.map_cons,List.nodup_cons] at hn
  simp only [List.getElem?_cons_succ] at h
  have hc:c.key≠.int .i64 a:=fun e'=>hn.1 (List.mem_map.2 ⟨_,List.mem_of_getElem? h,by rw [hek,e']⟩)
  simp [keyIs_ne hc,key_erase l j hn.2 h hek]
theorem run_delete (w:World) {ty:TypeId} (hu:P.underlying tx=some (.map kt et)) (hk:P.underlying kt=some (.int .i64)) {es:Array MapEntry} {clock:Nat} (hM:Mpd w b l es clock):∃ es',(Builtin.delete_ #[tx,kt] ty #[.map (some b),.int .i64 a]).run P w=.ok (.tuple #[]) { w with heap:=w.heap.setIfInBounds b (.map es' clock) } ∧
  MapKept.Stamped es' clock∧es'.toList.map (fun e=>(e.key,e.val))=(mdel l a).map kvp∧es'.toList=es.toList.filter (fun e=>!keyIs a e.key):=by
 obtain ⟨hb,hst,he⟩:=hM
 rcases find_spec (P:=P) w hk he a with ⟨h1,h2,h2'⟩ | ⟨j,u,e,h1,h2,hes,hek⟩
 ·refine ⟨es,by simp [Builtin.delete_,run_underlying hu,MapKept.run_getObj_map hb,MapKept.run_checkKey hk (show MapKept.IsKey (.int .i64) (.int .i64 a) from rfl),h1,MapKept.run_setObj_map _ hb],hst,by rw [mdel_none h2];exact he,?_⟩
  exact (List.filter_eq_self.2 fun e he'=>by simp [keyIs_ne (h2' e he')]).symm
 ·obtain ⟨h3,h4⟩:=erase_kv hst he h2
  refine ⟨es.eraseIdxIfInBounds j,by simp [Builtin.delete_,run_underlying hu,MapKept.run_getObj_map hb,MapKept.run_checkKey hk (show MapKept.IsKey (.int .i64) (.int .i64 a) from rfl),h1,MapKept.run_setObj_map _ hb],MapKept.stamped_erase hst j,h3,?_⟩
  rw [h4]
  exact key_erase _ _ hst.2.2 (by simpa using hes) hek
theorem L.mapDel0 (hu:P.underlying tx=some (.map kt et)) (hk:P.underlying kt=some (.int .i64)) (hx:val fs x=some (.map (some b))) (hy:val fs y=some (.int .i64 a)) (hm:m[i]?=some (.mp b l))
  (next:L P ops Q n (Cls w0 own (m.set i (.mp b (mdel l a)))) rest fs):L P ops Q n (Cls w0 own m) (⟨none,.call ⟨.builtin .delete,#[x,y],#[tx,kt]⟩,t,pos,af,none⟩ :: rest) fs :=
 L.runsNoneV (fun s w hs hw=>by
  obtain ⟨es,clock,hb,hst,he⟩:=hw.get hm
  obtain ⟨es',h1,h2,h3,_⟩:=run_delete (P:=P) (a:=a) (ty:=t) w hu hk ⟨hb,hst,he⟩
  have hbl:b < w.heap.size:=(Array.getElem?_eq_some_iff.1 hb).1
  refine ⟨.tuple #[],{ w with heap:=w.heap.setIfInBounds b (.map es' clock) },?_,hw.turn hm rfl rfl rfl rfl (by simp) (Nat.le_refl _) (fun k hk=>by simp only [As.foot,List.mem_singleton] at hk;exact Array.getElem?_setIfInBounds_ne (Ne.symm hk)) ⟨es',clock,by simp [hbl],h2,h3⟩⟩
  ·simp only [execOp,resolve,List.map_toArray,List.map_cons,List.map_nil,hs.eval hx,hs.eval hy]
   simp [invoke,builtin,h1]) next
section
variable {α ρ:Type} {g:α→Value} {lm left:List (Int×α)} [DecidableEq ρ] {A:Option ρ} {B:Int→α→List (Int×α)→Option ρ} {r:ρ} {rr:Nat}
end
end
section
variable {P:Program} {n:Nat} {fs:Fr} {C:World→Prop} {t:TypeId} {x y:Operand} {tx te:TypeId} {α:Type} {row:α→List Value} {l:List α} {k len:Nat} {ik:IntKind} {a:Int}
end
end Go.S
end
section
namespace Go.S
set_option linter.unusedVariables false
set_option linter.unusedSimpArgs false
def msput (f:Int→Value) (a:Int) (v:Value):Int→Value:=fun q=>if q=a then v else f q
section
variable {α:Type} {us:Int→Value} {l:List (Int×List α)} {a:Int} {x x1:List α} {v:Value} {e:TypeId} {k:Nat} {row:α→List Value}
def msrow {β:Type} (us:Int→Value) (l:List (Int×β)):List (Int×Value):=l.map fun p=>(p.1,us p.1)
def msds (us:Int→Value) (e:TypeId) (k:Nat) (row:α→List Value) (l:List (Int×List α)):List Sd:=l.map fun p=>⟨us p.1,e,k,p.2.map row⟩
def msGet (l:List (Int×List α)) (a:Int):Option (List α):=(l.find? fun p=>decide (p.1=a)).map (·.2)
def msVal {β:Type} (us:Int→Value) (l:List (Int×β)) (a:Int):Value:=mget (msrow us l) a (.slice none 0 0)
theorem msGet_some (h:msGet l a=some x):(a,x)∈l:=by
 unfold msGet at h
 cases hf:l.find? (fun p=>decide (p.1=a)) with
 | none=>simp [hf] at h
 | some p =>
  simp only [hf,Option.map_some,Option.some.injEq] at h
  have h1:=List.mem_of_find?_eq_some hf
  have h2:p.1=a:=by simpa using List.find?_some hf
  rw [← h,← h2]
  exact h1
theorem msVal_some (h:(a,x)∈l):msVal us l a=us a:=by
 have h1:(msrow us l).find? (fun p=>decide (p.1=a))=some (a,us a):=by
  unfold msrow
  rw [List.find?_map]
  have e1:((fun p:Int×Value=>decide (p.1=a)) ∘ fun p:Int×List α=>(p.1,us p.1))=fun p=>decide (p.1=a):=rfl
  rw [e1]
  cases hf:l.find? (fun p=>decide (p.1=a)) with
  | none=>exact absurd (List.find?_eq_none.1 hf _ h) (by simp)
  | some p =>
   have h2:p.1=a:=by simpa using List.find?_some hf
   simp only [Option.map_some,h2]
 unfold msVal mget
 rw [h1]
theorem mhas_msrow:mhas (msrow us l) a=mhas l a:=by simp only [mhas,msrow,List.any_map];rfl
theorem mdel_msrow:mdel (msrow us l) a=msrow us (mdel l a):=by
 simp only [mdel,msrow,List.filter_map]
 rfl
theorem mset_msrow:mset (msrow us l) a v=msrow (msput us a v) (mset l a x1):=by
 unfold mset
 rw [mhas_msrow]
 split
 ·unfold msrow
  rw [List.map_map,List.map_map]
  refine List.map_congr_left fun p _=>?_
  simp only [Function.comp]
  by_cases c:p.1=a
  ·simp [c,msput]
  ·simp [c,msput]
 ·rename_i hn
  unfold msrow
  rw [List.map_append]
  congr 1
  ·refine List.map_congr_left fun p hp=>?_
   have:p.1≠a:=fun c=>hn (List.any_eq_true.2 ⟨p,hp,by simp [c]⟩)
   simp [msput,this]
  ·simp [msput]
theorem ms_perm:∀ {l:List (Int×List α)},(l.map (·.1)).Nodup→(a,x)∈l→l.Perm ((a,x) :: mdel l a)
 | [],_,h=>by cases h
 | p :: l,hn,h=>by
  rw [List.map_cons,List.nodup_cons] at hn
  rcases List.mem_cons.1 h with h1 | h1
  ·subst h1
   have:mdel ((a,x) :: l) a=l:=by
    unfold mdel
    simp only [List.filter_cons,decide_true,Bool.not_true,Bool.false_eq_true,if_false]
    refine List.filter_eq_self.2 fun p hp=>?_
    have:p.1≠a:=fun c=>hn.1 (List.mem_map.2 ⟨p,hp,c⟩)
    simp [this]
   rw [this]
  ·have hp:p.1≠a:=fun c=>hn.1 (List.mem_map.2 ⟨_,h1,c.symm⟩)
   have:mdel (p :: l) a=p :: mdel l a:=by
    unfold mdel
    simp [hp]
   rw [this]
   exact (List.Perm.cons p (ms_perm hn.2 h1)).trans (List.Perm.swap ..)
theorem mset_perm (hn:(l.map (·.1)).Nodup):(mset l a x1).Perm ((a,x1) :: mdel l a):=by
 unfold mset
 split
 ·rename_i hh
  obtain ⟨p,hp,hpa⟩:=List.any_eq_true.1 hh
  have hpa':p.1=a:=by simpa using hpa
  have h1:l.Perm ((a,p.2) :: mdel l a):=ms_perm hn (by rw [← hpa'];exact hp)
  refine (h1.map _).trans ?_
  rw [List.map_cons]
  simp only [if_true]
  refine List.Perm.cons _ ?_
  have:(mdel l a).map (fun p=>if p.1=a then (a,x1) else p)=mdel l a:=by
   conv=>rhs;rw [← List.map_id (mdel l a)]
   refine List.map_congr_left fun q hq=>?_
   have:=(List.mem_filter.1 hq).2
   have:q.1≠a:=by simpa using this
   simp [this]
  rw [this]
 ·rename_i hh
  have:mdel l a=l:=List.filter_eq_self.2 fun p hp=>by
   have:p.1≠a:=fun c=>hh (List.any_eq_true.2 ⟨p,hp,by simp [c]⟩)
   simp [this]
  rw [this]
  exact List.perm_append_comm
theorem msds_put (hn:(l.map (·.1)).Nodup):(msds (msput us a v) e k row (mset l a x1)).Perm (⟨v,e,k,x1.map row⟩ :: msds us e k row (mdel l a)):=by
 refine ((mset_perm hn).map _).trans ?_
 rw [List.map_cons]
 simp only [msput,if_true]
 refine List.Perm.cons _ ?_
 unfold msds
 rw [show (mdel l a).map (fun p=>(⟨if p.1=a then v else us p.1,e,k,p.2.map row⟩:Sd))=(mdel l a).map (fun p=>⟨us p.1,e,k,p.2.map row⟩) from List.map_congr_left fun q hq=>by
  have:=(List.mem_filter.1 hq).2
  have:q.1≠a:=by simpa using this
  simp [this]]
theorem msds_del:(msds us e k row (mdel l a)).Sublist (msds us e k row l):=List.filter_sublist.map _
end
section
variable {α:Type} {us:Int→Value} {l:List (Int×List α)} {a:Int} {x1:List α} {v:Value} {e:TypeId} {k:Nat} {row:α→List Value} {w0 w:World} {own:List Nat} {m:List As} {i j p b:Nat} {L0 L1:List Sd}
theorem Cls.msKeys (hw:Cls w0 own m w) (hm:m[i]?=some (.mp b (msrow us l))):(l.map (·.1)).Nodup:=by
 obtain ⟨es,clock,hb,hst,he⟩:=hw.get hm
 have:=keys_nodup hst he
 simpa [msrow,List.map_map,Function.comp_def] using this
theorem ms_set_perm {x y:As} (hj:m[j]?=some x):(m.set j y).Perm (y :: m.eraseIdx j):=by
 obtain ⟨h1,h2⟩:=List.getElem?_eq_some_iff.1 hj
 have:=perm_head (m.set j y) j (by simpa using h1)
 rwa [List.getElem_set_self,List.eraseIdx_set_eq] at this
theorem Cls.msPerm (hw:Cls w0 own (.ss L0 :: m) w) (hp:L1.Perm L0):Cls w0 own (.ss L1 :: m) w:=by
 refine hw.rePerm ?_ fun z hz=>?_
 ·simp only [List.flatMap_cons,As.foot]
  exact List.Perm.append_right _ (hp.flatMap_right _)
 ·rcases List.mem_cons.1 hz with rfl | hz
  ·intro d hd
   exact (hw.mine (.ss L0) (by simp)).1 d (hp.mem_iff.1 hd)
  ·exact (hw.mine z (by simp [hz])).1
theorem Cls.msSub (hw:Cls w0 own (.ss L0 :: m) w) (hp:L1.Sublist L0):Cls w0 own (.ss L1 :: m) w:=by
 have hs:(L1.flatMap Sd.foot).Sublist (L0.flatMap Sd.foot):=by
  clear hw
  induction hp with
  | slnil=>simp
  | cons a _ ih=>simp only [List.flatMap_cons];exact ih.trans (List.sublist_append_right _ _)
  | cons_cons a _ ih=>simp only [List.flatMap_cons];exact List.Sublist.append (List.Sublist.refl _) ih
 have hs2:((As.ss L1 :: m).flatMap As.foot).Sublist ((As.ss L0 :: m).flatMap As.foot):=by
  simp only [List.flatMap_cons,As.foot]
  exact List.Sublist.append hs (List.Sublist.refl _)
 refine hw.re (fun b hb=>hs2.subset hb) (hw.nodup.sublist hs2) fun z hz=>?_
 rcases List.mem_cons.1 hz with rfl | hz
 ·intro d hd
  exact (hw.mine (.ss L0) (by simp)).1 d (hp.subset hd)
 ·exact (hw.mine z (by simp [hz])).1
theorem Cls.msTake {d:Sd} (hw:Cls w0 own (.ss (d :: L0) :: m) w):Cls w0 own (.sl d.v d.e d.k d.rows :: .ss L0 :: m) w:=by
 refine hw.rePerm ?_ fun z hz=>?_
 ·simp only [List.flatMap_cons,As.foot,List.append_assoc]
  exact List.Perm.refl _
 ·rcases List.mem_cons.1 hz with rfl | hz
  ·exact (hw.mine (.ss (d :: L0)) (by simp)).1 d (by simp)
  ·rcases List.mem_cons.1 hz with rfl | hz
   ·intro d' hd'
    exact (hw.mine (.ss (d :: L0)) (by simp)).1 d' (by simp [hd'])
   ·exact (hw.mine z (by simp [hz])).1
theorem Cls.msGive {d:Sd} (hw:Cls w0 own (.sl d.v d.e d.k d.rows :: .ss L0 :: m) w):Cls w0 own (.ss (d :: L0) :: m) w:=by
 refine hw.rePerm ?_ fun z hz=>?_
 ·simp only [List.flatMap_cons,As.foot,List.append_assoc]
  exact List.Perm.refl _
 ·rcases List.mem_cons.1 hz with rfl | hz
  ·intro d' hd'
   rcases List.mem_cons.1 hd' with rfl | hd'
   ·exact (hw.mine (.sl d'.v d'.e d'.k d'.rows) (by simp)).1
   ·exact (hw.mine (.ss L0) (by simp)).1 d' hd'
  ·exact (hw.mine z (by simp [hz])).1
theorem Cls.msSet (hw:Cls w0 own m w) (hj:m[j]?=some (.ss L0)) (hp:L1.Sublist L0):Cls w0 own (m.set j (.ss L1)) w :=
 (((hw.perm (erase_perm m j _ hj).symm)).msSub hp).perm (ms_set_perm hj)
end
section
variable {P:Program} {Q:Exit→Act→World→Prop} {n:Nat} {fs:Fr} {C:World→Prop} {t:TypeId} {ops:Array Oper} {rest:List Oper} {d:Nat} {pos:String} {af:Array Edge}
variable {α ρ:Type} {r:ρ} {us:Int→Value} {l:List (Int×List α)} {a:Int} {x1:List α} {F:List α→Option ρ} {row:α→List Value} {w0 w:World} {own:List Nat} {m:List As} {x y kv:Operand} {kt et tx e:TypeId} {i j p k b:Nat} {v:Value} {L0:List Sd}
theorem Y.msLookOk (hu:P.underlying tx=some (.map kt et)) (hk:P.underlying kt=some (.int .i64)) (hz:((P.info? et).bind fun i=>i.zero)=some (.slice none 0 0)) (hx:val fs x=some (.map (some b))) (hy:val fs y=some (.int .i64 a)) (hm:m[i]?=some (.mp b (msrow us l))) :
  Y P (.lookup tx x y true) t n fs (Cls w0 own m) (.tuple #[msVal us l a,.bool (mhas l a)]):=by
 have:=Y.lookup1 (t:=t) (n:=n) (w0:=w0) (own:=own) hu hk hz hx hy hm rfl
 rwa [mhas_msrow] at this
theorem Y.msLook (hu:P.underlying tx=some (.map kt et)) (hk:P.underlying kt=some (.int .i64)) (hz:((P.info? et).bind fun i=>i.zero)=some (.slice none 0 0)) (hx:val fs x=some (.map (some b))) (hy:val fs y=some (.int .i64 a)) (hm:m[i]?=some (.mp b (msrow us l))) :
  Y P (.lookup tx x y false) t n fs (Cls w0 own m) (msVal us l a) :=
 Y.lookup0 (t:=t) (n:=n) (w0:=w0) (own:=own) hu hk hz hx hy hm rfl
theorem L.msOut {ll:List Oper} (h:bind1 (msGet l a) F=some r) (hm:m[i]?=some (.mp b (msrow us l))) (hj:m[j]?=some (.ss (msds us e k row l)))
  (next:∀ x,msGet l a=some x→F x=some r→L P ops Q n (Cls w0 own (.sl (msVal us l a) e k (x.map row) :: m.set j (.ss (msds us e k row (mdel l a))))) ll fs):L P ops Q n (Cls w0 own m) ll fs:=by
 obtain ⟨x,hx,h⟩:=bind1S h
 refine L.to (fun w hw=>?_) (next x hx h)
 have hn:=hw.msKeys hm
 have h1:=msGet_some hx
 rw [msVal_some h1]
 have h2:=hw.perm (erase_perm m j _ hj).symm
 have h3:=h2.msPerm (L1:=⟨us a,e,k,x.map row⟩ :: msds us e k row (mdel l a)) (((ms_perm hn h1).map fun p:Int×List α=>(⟨us p.1,e,k,p.2.map row⟩:Sd)).symm)
 exact h3.msTake.perm (List.Perm.cons _ (ms_set_perm hj))
theorem L.msPut (hu:P.underlying tx=some (.map kt et)) (hk:P.underlying kt=some (.int .i64)) (hx:val fs x=some (.map (some b))) (hy:val fs y=some (.int .i64 a)) (hz:val fs kv=some v) (hm:m[i]?=some (.mp b (msrow us l))) (hj:m[j]?=some (.ss L0))
  (hL:L0=msds us e k row l∨L0=msds us e k row (mdel l a)) (hp:m[p]?=some (.sl v e k (x1.map row)))
  (next:∀ us',L P ops Q n (Cls w0 own (((m.set i (.mp b (msrow us' (mset l a x1)))).set j (.ss (msds us' e k row (mset l a x1)))).eraseIdx p)) rest fs):L P ops Q n (Cls w0 own m) (⟨none,.mapUpdate tx x y kv,t,pos,af,none⟩ :: rest) fs:=by
 have hij:i≠j:=by rintro rfl;rw [hm] at hj;cases hj
 have hip:i≠p:=by rintro rfl;rw [hm] at hp;cases hp
 have hjp:j≠p:=by rintro rfl;rw [hj] at hp;cases hp
 intro ac w hs hw0
 have hn:=hw0.msKeys hm
 have hw:=hw0.msSet hj (L1:=msds us e k row (mdel l a)) (by rcases hL with rfl | rfl;exact msds_del;exact List.Sublist.refl _)
 refine L.mapSet0 (l:=msrow us l) hu hk hx hy hz (by rw [List.getElem?_set_ne (Ne.symm hij)];exact hm) (L.to (fun w hw=>?_) (next (msput us a v))) ac w hs hw
 rw [mset_msrow (x1:=x1)] at hw
 have hj2:((m.set j (.ss (msds us e k row (mdel l a)))).set i (.mp b (msrow (msput us a v) (mset l a x1))))[j]?=some (.ss (msds us e k row (mdel l a))):=by
  rw [List.getElem?_set_ne hij,List.getElem?_set_self (List.getElem?_eq_some_iff.1 hj).1]
 have hp2:((m.set j (.ss (msds us e k row (mdel l a)))).set i (.mp b (msrow (msput us a v) (mset l a x1))))[p]?=some (.sl v e k (x1.map row)):=by
  rw [List.getElem?_set_ne hip,List.getElem?_set_ne hjp];exact hp
 generalize hm':(m.set j (.ss (msds us e k row (mdel l a)))).set i (.mp b (msrow (msput us a v) (mset l a x1)))=m' at hw hj2 hp2
 have e1:(m.set i (.mp b (msrow (msput us a v) (mset l a x1)))).set j (.ss (msds (msput us a v) e k row (mset l a x1)))=m'.set j (.ss (msds (msput us a v) e k row (mset l a x1))):=by
  rw [← hm',List.set_comm _ _ (Ne.symm hij),List.set_set,List.set_comm _ _ hij]
 rw [e1]
 have g1:=hw.perm (erase_perm m' j _ hj2).symm
 have hmem:As.sl v e k (x1.map row)∈m'.eraseIdx j:=by
  rcases List.mem_cons.1 ((erase_perm m' j _ hj2).mem_iff.1 (List.mem_of_getElem? hp2)) with h | h
  ·cases h
  ·exact h
 obtain ⟨q,hq⟩:=List.getElem?_of_mem hmem
 have hqe:((m'.set j (.ss (msds (msput us a v) e k row (mset l a x1)))).eraseIdx p).Perm (.ss (msds (msput us a v) e k row (mset l a x1)) :: (m'.eraseIdx j).eraseIdx q):=by
  have h6:=erase_perm (m'.set j (.ss (msds (msput us a v) e k row (mset l a x1)))) p (.sl v e k (x1.map row)) (by rw [List.getElem?_set_ne hjp];exact hp2)
  have h7:=(ms_set_perm (y:=.ss (msds (msput us a v) e k row (mset l a x1))) hj2).trans (List.Perm.cons _ (erase_perm _ q _ hq))
  exact List.Perm.cons_inv (h6.symm.trans (h7.trans (List.Perm.swap ..)))
 have g3:Cls w0 own (.sl v e k (x1.map row) :: .ss (msds us e k row (mdel l a)) :: (m'.eraseIdx j).eraseIdx q) w:=g1.perm ((List.Perm.swap ..).trans (List.Perm.cons _ (erase_perm _ q _ hq).symm))
 exact ((Cls.msGive (d:=⟨v,e,k,x1.map row⟩) g3).msPerm (msds_put hn)).perm hqe
theorem L.msDel (hu:P.underlying tx=some (.map kt et)) (hk:P.underlying kt=some (.int .i64)) (hx:val fs x=some (.map (some b))) (hy:val fs y=some (.int .i64 a)) (hm:m[i]?=some (.mp b (msrow us l))) (hj:m[j]?=some (.ss L0))
  (hL:L0=msds us e k row l∨L0=msds us e k row (mdel l a))
  (next:L P ops Q n (Cls w0 own ((m.set i (.mp b (msrow us (mdel l a)))).set j (.ss (msds us e k row (mdel l a))))) rest fs):L P ops Q n (Cls w0 own m) (⟨none,.call ⟨.builtin .delete,#[x,y],#[tx,kt]⟩,t,pos,af,none⟩ :: rest) fs:=by
 have hij:i≠j:=by rintro rfl;rw [hm] at hj;cases hj
 refine L.mapDel0 hu hk hx hy hm (L.to (fun w hw=>?_) next)
 rw [mdel_msrow] at hw
 exact hw.msSet (by rw [List.getElem?_set_ne hij];exact hj) (by rcases hL with rfl | rfl;exact msds_del;exact List.Sublist.refl _)
theorem L.msNew (us:Int→Value) (e:TypeId) (k:Nat) (row:α→List Value) (hd:Nat.blt d n=true) (next:∀ b,L P ops Q n (Cls w0 own (.mp b (msrow us ([]:List (Int×List α))) :: .ss (msds us e k row []) :: m)) rest ((d,.map (some b)) :: fs)):L P ops Q n (Cls w0 own m) (⟨some d,.makeMap tx none,t,pos,af,none⟩ :: rest) fs :=
 L.makeMap hd fun b=>L.to (fun w hw=>(hw.ss0).perm (List.Perm.swap ..)) (next b)
end
end Go.S
end
