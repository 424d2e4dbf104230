import Derived.Test.YtlecphianicdhaaGreatZa
import Derived.Laws.Tables
import Derived.MapKept
import Derived.Laws.IdiomCopy
import Derived.Lib.Repeat
import Derived.Lib.Overlaps
import Derived.Lib.AppendZerosOnto
section
namespace Go.S
def idxA {α:Type} (n:Nat) (l:List α) (a:Int):Option α:=if a < n then idx l a else none
theorem idxA_idx {α:Type} {n:Nat} {l:List α} {a:Int} {u:α} (h:idxA n l a=some u):idx l a=some u:=by
 unfold idxA at h
 split at h
 ·exact h
 ·cases h
theorem idxA_lt {α:Type} {n:Nat} {l:List α} {a:Int} {u:α} (h:idxA n l a=some u):a < n:=by
 unfold idxA at h
 split at h
 ·assumption
 ·cases h
def arrN {α:Type} (n:Nat) (l:List α):Option (List α):=if l.length=n then some l else none
theorem arrN_some {α:Type} {n:Nat} {l z:List α} (h:arrN n l=some z):z=l∧l.length=n:=by
 unfold arrN at h
 split at h
 ·simp only [Option.some.injEq] at h;exact ⟨h.symm,by assumption⟩
 ·cases h
theorem over_flat {k:Nat}:∀ (vs:List Value) (rows:List (List Value)) (i j:Nat) (r:List Value),(∀ r∈rows,r.length=k)→rows[i]?=some r→j+vs.length≤k→over rows.flatten (i*k+j) vs=(rows.set i (over r j vs)).flatten
 | [],rows,i,j,r,_,hr,_=>by
  obtain ⟨hi,he⟩:=List.getElem?_eq_some_iff.1 hr
  rw [over,over,← he,List.set_getElem_self]
 | v :: vs,rows,i,j,r,hl,hr,hj=>by
  obtain ⟨hi,he⟩:=List.getElem?_eq_some_iff.1 hr
  simp only [List.length_cons] at hj
  rw [over,over,← flatten_set rows i j r v hl hr (by omega),show i*k+j+1=i*k+(j+1) by omega]
  have hl':∀ r'∈rows.set i (r.set j v),r'.length=k:=by
   intro r' h'
   rcases List.mem_or_eq_of_mem_set h' with h | h
   ·exact hl r' h
   ·subst h;simp [hl r (List.mem_of_getElem? hr)]
  rw [over_flat vs _ i (j+1) (r.set j v) hl' (by simp [hi]) (by omega),List.set_set]
section
variable {P:Program} {Q:Exit→Act→World→Prop} {n:Nat} {fs:Fr} {t:TypeId} {ops:Array Oper} {rest:List Oper} {d:Nat} {pos:String} {af:Array Edge}
variable {w0:World} {own:List Nat} {m:List As} {x y:Operand} {e te:TypeId} {q o i j k kk b:Nat} {v u:Value} {vs:List Value}
theorem L.storeSlN {rows:List (List Value)} {r:List Value} (hs:szB P te kk=true) (hx:val fs x=some (el v o)) (ho:o=i*k+j) (hy:val fs y=some u) (hu:u.cells.toList=vs) (hk:vs.length=kk) (h1:∀ u∈vs,u.oneCell'=true)
  (hm:m[q]?=some (.sl v e k rows)) (hr:rows[i]?=some r) (hj:j+kk≤k) (next:L P ops Q n (Cls w0 own (m.set q (.sl v e k (rows.set i (over r j vs))))) rest fs) :
  L P ops Q n (Cls w0 own m) (⟨none,.store te x y,t,pos,af,none⟩ :: rest) fs:=by
 subst ho
 exact L.runsNone (fun a w hsl hw=>by
  obtain ⟨hrl,hl,hown⟩:=hw.get hm
  rcases hown with ⟨rfl,hn⟩ | ⟨g,cap,cur,rfl,hg,hh,hnc,hcm,hcs,htake⟩
  ·have:rows=[]:=List.length_eq_zero_iff.1 hn
   subst this
   simp at hr
  ·have hi:i < rows.length:=(List.getElem?_eq_some_iff.1 hr).1
   have hb:i*k+j+vs.length≤rows.length*k:=by
    have:(i+1)*k≤rows.length*k:=Nat.mul_le_mul_right k hi
    rw [Nat.succ_mul] at this;omega
   have hc:rows.length*k≤cap*k:=Nat.mul_le_mul_right k hnc
   have hcl:cur.toList.length=cap*k:=by simp [hcs]
   have hh':w.heap[g]?=some (.cells cur.toList.toArray e (0,0)):=by simpa using hh
   obtain ⟨w',h2,h3,h4⟩:=run_storeCells (P:=P) g e (i*k+j) vs 0 cur.toList w hh' (by omega) h1
   have hsz:u.cells.size=kk:=by rw [← hk,← hu];simp
   have hrj:(over r j vs).length=k:=by rw [over_length];exact hrl r (List.mem_of_getElem? hr)
   have hset:∀ r'∈rows.set i (over r j vs),r'.length=k:=by
    intro r' hr'
    rcases List.mem_or_eq_of_mem_set hr' with h | h
    ·exact hrl r' h
    ·subst h;exact hrj
   have hfl:=over_flat vs rows i j r hrl hr (by omega)
   have htk:∀ (us:List Value) (c:List Value) (z a:Nat),a+us.length≤z→(over c a us).take z=over (c.take z) a us:=by
    intro us
    induction us with
    | nil=>intro c z a _;rfl
    | cons p us ih=>intro c z a h;simp only [List.length_cons] at h;rw [over,over,ih _ _ _ (by omega),List.take_set]
   refine ⟨w',?_,?_⟩
   ·simp only [execOp,hsl.eval hx,hsl.eval hy]
    simp only [Instr.storeAt,Instr.sureAddr,el,adr,Addr.add_lit,Sem.run_bind,Sem.run_pure,Result.andThen,storeVar,run_sizeOf hs,hsz,hu]
    simp [h2]
   ·refine hw.turn hm rfl h4.os h4.tape h4.output h4.size (Nat.le_of_eq h4.drawn.symm) (fun p hp=>h4.rest p (by simpa [As.foot,Value.ownBlock] using hp)) ⟨hset,?_,.inr ⟨g,cap,(over cur.toList (i*k+j+0) vs).toArray,by simp,hg,h3,by simpa using hnc,hcm,by simp [over_length,hcs],?_⟩⟩
    ·rw [← hfl,over_length,hl];simp
    ·simp only [List.length_set,Nat.add_zero]
     rw [htk _ _ _ _ hb,← hfl,← htake]) next
section words
variable {α ρ:Type} {r:ρ} {row:α→List Value} {l:List α} {a:Int} {u0 u1:α} {f:List α→Option ρ}
theorem upd_bind {z:List α} (h:bind1 (upd l a u1) f=some r) (hz:z=l.set a.toNat u1):f z=some r:=by
 obtain ⟨z',h1,h2⟩:=bind1S h
 obtain ⟨_,_,rfl⟩:=upd_some h1
 rw [hz];exact h2
theorem L.storeSlM (h:bind1 (upd l a u1) f=some r) (hs:szB P te kk=true) (hx:val fs x=some (el v o)) (ho:o=a.toNat*k+j) (hy:val fs y=some u) (hu:u.cells.toList=vs) (hk:vs.length=kk) (h1:∀ u∈vs,u.oneCell'=true)
  (hm:m[q]?=some (.sl v e k (l.map row))) (hr:idx l a=some u0) (hj:Nat.ble (j+kk) k=true) (hrow:over (row u0) j vs=row u1) (next:∀ z,z=l.set a.toNat u1→f z=some r→L P ops Q n (Cls w0 own (m.set q (.sl v e k (z.map row)))) rest fs) :
  L P ops Q n (Cls w0 own m) (⟨none,.store te x y,t,pos,af,none⟩ :: rest) fs:=by
 refine L.storeSlN hs hx ho hy hu hk h1 hm (idx_map hr) (by simpa using hj) ?_
 rw [hrow,← List.map_set]
 exact next _ rfl (upd_bind h rfl)
theorem L.storeArM (h:bind1 (upd l a u1) f=some r) (hs:szB P te kk=true) (hx:val fs x=some (pt b o)) (ho:o=0+a.toNat*k+j) (hy:val fs y=some u) (hu:u.cells.toList=vs) (hk:vs.length=kk) (h1:∀ u∈vs,u.oneCell'=true)
  (hm:m[q]?=some (.obj b (l.map row).flatten e)) (hlen:∀ z,(row z).length=k) (hr:idx l a=some u0) (hj:Nat.ble (j+kk) k=true) (hrow:over (row u0) j vs=row u1) (next:∀ z,z=l.set a.toNat u1→f z=some r→L P ops Q n (Cls w0 own (m.set q (.obj b (z.map row).flatten e))) rest fs) :
  L P ops Q n (Cls w0 own m) (⟨none,.store te x y,t,pos,af,none⟩ :: rest) fs:=by
 subst ho
 have hj':j+kk≤k:=by simpa using hj
 have hrl:∀ r∈l.map row,r.length=k:=by
  intro r hr
  obtain ⟨z,_,rfl⟩:=List.mem_map.1 hr
  exact hlen z
 have hi:=(idx_some hr)
 have hib:(a.toNat+1)*k≤l.length*k:=Nat.mul_le_mul_right k (by omega)
 rw [Nat.succ_mul] at hib
 refine L.store hs hx hy hu hk h1 hm (by rw [len_flat hlen];omega) ?_
 rw [Nat.zero_add,over_flat vs (l.map row) a.toNat j _ hrl (idx_map hr) (by omega),hrow,← List.map_set]
 exact next _ rfl (upd_bind h rfl)
theorem arr_get (hlen:∀ z,(row z).length=k) (hr:idx l a=some u0) {p:Value} (hp:(row u0)[j]?=some p):(l.map row).flatten[0+a.toNat*k+j]?=some p:=by
 rw [Nat.zero_add]
 refine flatten_get _ _ _ _ _ ?_ (idx_map hr) hp
 intro r hr
 obtain ⟨z,_,rfl⟩:=List.mem_map.1 hr
 exact hlen z
theorem Y.loadAr (ha:aggB P te false=true) (hx:val fs x=some (pt b o)) (ho:o=0+a.toNat*k+j) (hm:m[q]?=some (.obj b (l.map row).flatten e)) (hlen:∀ z,(row z).length=k) (hr:idx l a=some u0) {p:Value} (hp:(row u0)[j]?=some p) :
  Y P (.load te x) t n fs (Cls w0 own m) p:=by
 subst ho
 exact Y.loadP ha hx hm (arr_get hlen hr hp)
theorem Y.indexAM {C:World→Prop} {len:Nat} {ik:IntKind} {tx:TypeId} (hu:P.underlying tx=some (.array len e)) (hsz:szB P e k=true) (hx:val fs x=some (pt b 0)) (hy:val fs y=some (.int ik a)) (z:α) (hr:idxA len l a=some z) :
  Y P (.indexAddr tx x y) t n fs C (pt b (0+a.toNat*k)) :=
 Y.indexP hu hsz hx hy (idx_some (idxA_idx hr)).1 (idxA_lt hr)
end words
def pvals (fs:Fr):List (Nat×Operand)→Option (List (Nat×Value))
 | []=>some []
 | (i,x) :: r=>match val fs x with
  | some v=>match pvals fs r with
   | some vs=>some ((i,v) :: vs)
   | none=>none
  | none=>none
theorem Slots.pevals {a:Act} (h:Slots n fs a):∀ {xs:List (Nat×Operand)} {vs:List (Nat×Value)},pvals fs xs=some vs→xs.map (fun p=>(p.1,a.eval p.2))=vs
 | [],vs,hv=>by simp only [pvals,Option.some.injEq] at hv;subst hv;rfl
 | (i,x) :: r,vs,hv=>by
  simp only [pvals] at hv
  cases h1:val fs x with
  | none=>simp [h1] at hv
  | some v =>
   cases h2:pvals fs r with
   | none=>simp [h1,h2] at hv
   | some vs' =>
    simp only [h1,h2,Option.some.injEq] at hv
    subst hv
    simp [h.eval h1,h.pevals h2]
theorem Y.build {C:World→Prop} {tb:TypeId} {ps:List (Nat×Operand)} {vs:List (Nat×Value)} {cells:Array Value} (hx:pvals fs ps=some vs) (hb:P.built tb vs=some cells):Y P (.build tb ps.toArray) t n fs C (.agg cells) :=
 Y.of fun d pos af g s w hs hw=>by
  have h1:=hs.pevals hx
  have h2:=run_build (P:=P) w tb (ps.toArray.map fun p=>(p.1,s.eval p.2)) cells (by simpa [h1] using hb)
  simp only [List.map_toArray] at h2
  simp only [execOp,List.map_toArray]
  simp [h2]
end
theorem all0 {p:Value→Prop}:∀ u∈([]:List Value),p u:=by simp
theorem all1 {p:Value→Prop} {v:Value} {l:List Value} (h:p v) (hl:∀ u∈l,p u):∀ u∈v :: l,p u:=List.forall_mem_cons.2 ⟨h,hl⟩
section
variable {P:Program} {Q:Exit→Act→World→Prop} {n:Nat} {fs:Fr} {t:TypeId} {ops:Array Oper} {rest:List Oper} {pos:String} {af:Array Edge}
variable {w0:World} {own:List Nat} {m:List As}
theorem L.storeC {x y:Operand} {b off i k:Nat} {c:List Value} {e te:TypeId} {v:Value} {vs:List Value} (hs:szB P te k=true) (hx:val fs x=some (pt b off)) (hy:val fs y=some v) (hv:v.cells.toList=vs) (hk:vs.length=k)
  (h1:∀ w,Cls w0 own m w→∀ u∈vs,u.oneCell'=true) (hm:m[i]?=some (.obj b c e)) (hl:off+k≤c.length) (next:L P ops Q n (Cls w0 own (m.set i (.obj b (over c off vs) e))) rest fs) :
  L P ops Q n (Cls w0 own m) (⟨none,.store te x y,t,pos,af,none⟩ :: rest) fs :=
 fun a w hs' hw=>L.store hs hx hy hv hk (h1 w hw) hm hl next a w hs' hw
theorem cells_one {v:Value} (h:v.oneCell'=true):v.cells.toList=[v]:=by cases v <;> simp_all [Value.oneCell',Value.cells]
theorem L.storeV {x y:Operand} {b off i:Nat} {c:List Value} {e te:TypeId} {v:Value} (hs:szB P te 1=true) (hx:val fs x=some (pt b off)) (hy:val fs y=some v)
  (h1:∀ w,Cls w0 own m w→v.oneCell'=true) (hm:m[i]?=some (.obj b c e)) (hl:off+1≤c.length) (next:L P ops Q n (Cls w0 own (m.set i (.obj b (over c off [v]) e))) rest fs) :
  L P ops Q n (Cls w0 own m) (⟨none,.store te x y,t,pos,af,none⟩ :: rest) fs :=
 fun a w hs' hw=>L.store hs hx hy (cells_one (h1 w hw)) rfl (by simpa using h1 w hw) hm hl next a w hs' hw
end
theorem st_inj {a b:List UInt8}:st a=st b↔a=b:=by simp [st]
end Go.S
end
section
namespace Go.S
section
variable {P:Program} {Q:Exit→Act→World→Prop} {n:Nat} {fs:Fr} {C:World→Prop}
def Rv (P:Program) (fs:Fr) (C:World→Prop):ResultVar→Value→Prop
 | .tmp t,v=>look fs t=some v
 | .cell x t,v=>∃ ad,look fs x=some (.pointer (some ad))∧∀ w,C w→(loadVar t ad).run P w=.ok v w
theorem Rv.tmp {t:Tmp} {v:Value} (h:look fs t=some v):Rv P fs C (.tmp t) v:=h
def resV (tmps:Array Value):ResultVar→Sem Value
 | .tmp t=>pure (tmps.getD t undef)
 | .cell x t=>do loadVar t (← asAddr (tmps.getD x undef))
theorem results_eq (fn:Func) (tmps:Array Value):results fn tmps=(do
  let vs ← fn.results.mapM (resV tmps)
  pure (if h:vs.size=1 then vs[0] else .tuple vs)):=by
 unfold results
 congr 2
theorem Rv.run {rv:ResultVar} {v:Value} (h:Rv P fs C rv v) {a:Act} {w:World} (hs:Slots n fs a) (hw:C w) :
  (resV a.tmps rv).run P w=.ok v w:=by
 cases rv with
 | tmp t =>
  have:=hs.here t v h
  simp [resV,Array.getD_eq_getD_getElem?,this]
 | cell x t =>
  obtain ⟨ad,h1,h2⟩:=h
  have:=hs.here x _ h1
  simp [resV,Array.getD_eq_getD_getElem?,this,asAddr,h2 w hw]
theorem E.retR1 {fn:Func} {R:Ending→World→Prop} {x:ResultVar} {v:Value} (hr:fn.results=#[x]) (h1:Rv P fs C x v) (h:∀ w,C w→R (.returned v) w):E .ret (bodyPost P fn R) n C fs:=by
 intro a w hs hc
 refine bodyPost_ret (v:=v) ?_ hs.defers (h w hc)
 have e1:=h1.run hs hc
 rw [results_eq,hr]
 simp [e1]
theorem E.retR2 {fn:Func} {R:Ending→World→Prop} {x y:ResultVar} {v u:Value} (hr:fn.results=#[x,y]) (h1:Rv P fs C x v) (h2:Rv P fs C y u) (h:∀ w,C w→R (.returned (.tuple #[v,u])) w):E .ret (bodyPost P fn R) n C fs:=by
 intro a w hs hc
 refine bodyPost_ret (v:=.tuple #[v,u]) ?_ hs.defers (h w hc)
 have e1:=h1.run hs hc
 have e2:=h2.run hs hc
 rw [results_eq,hr]
 simp [e1,e2]
variable {w0:World} {own:List Nat} {m:List As}
theorem Rv.cellW {x:Tmp} {t:TypeId} {b i:Nat} {c:List Value} {e:TypeId} {k:Nat} (ha:aggB P t true=true) (hs:szB P t k=true) (hx:look fs x=some (pt b 0)) (hm:m[i]?=some (.obj b c e)) (hk:c.length=k):Rv P fs (Cls w0 own m) (.cell x t) (.agg c.toArray) :=
 ⟨_,hx,fun w hw=>run_loadVarN ha hs hk fun j u hu=>by rw [Addr.add_lit];exact hw.cell hm (by rwa [Nat.zero_add])⟩
end
section
variable {P:Program} {Q:Exit→Act→World→Prop} {n:Nat} {fs:Fr} {C:World→Prop} {ops:Array Oper} {l:List Oper}
theorem wpList_cut {K:Exit→Act→World→Prop}:∀ {l:List Oper} {j:Nat} {a:Act} {w:World},wpList P ops K (l.take j) a w→(∀ a w,K .normal a w→wpList P ops Q (l.drop j) a w)→(∀ e a w,e≠.normal→K e a w→Q e a w)→wpList P ops Q l a w
 | [],j,a,w,h,h2,_=>by
  simp only [List.take_nil,wpList] at h
  have:=h2 _ _ h
  simpa [wpList] using this
 | o :: l,0,a,w,h,h2,_=>by
  simp only [List.take_zero,wpList] at h
  simpa using h2 _ _ h
 | o :: l,j+1,a,w,h,h2,h3=>by
  simp only [List.take_succ_cons,List.drop_succ_cons] at h h2
  have ih:∀ a w,wpList P ops K (l.take j) a w→wpList P ops Q l a w:=fun a w h=>wpList_cut h h2 h3
  have hout:LetsOut K→LetsOut Q:=fun ⟨a,w,h⟩=>⟨a,w,h3 _ _ _ (by nofun) h⟩
  simp only [wpList] at h ⊢
  by_cases hw:Region.wanted o (yielded ops a.tmps)=true
  ·simp only [hw,if_true] at h ⊢
   rcases h with h | ⟨hq,h⟩
   ·refine .inl ?_
    unfold Oper.wp at *
    generalize (execOp a.eval o).run P w=r at *
    cases r with
    | ok x w' =>
     cases x <;> simp only [Oper.upon] at h ⊢
     case value u=>exact ih _ _ h
     case skip=>exact ih _ _ h
     case defer d=>exact ih _ _ h
     case enter f args =>
      refine Calls.mono h fun e w'' he=>?_
      cases e with
      | returned u=>exact ih _ _ he
      | panicked c=>exact h3 _ _ _ (by nofun) he
      | outgrown=>exact hout he
     case row row args=>exact Rows.mono h fun u w'' he=>ih _ _ he
    | halt x w' =>
     cases x <;> simp only [Oper.upon] at h ⊢
     case panic u=>exact h3 _ _ _ (by nofun) h
   ·exact .inr ⟨hq,hout h⟩
  ·simp only [hw,Bool.false_eq_true,if_false] at h ⊢
   exact ih _ _ h
theorem L.cutJ (j:Nat) (J:Fr→(World→Prop)→Prop) (h1:L P ops (KS Q n J) n C (l.take j) fs) (h2:∀ gs D,J gs D→L P ops Q n D (l.drop j) gs):L P ops Q n C l fs:=fun a w hs hc =>
 wpList_cut (h1 a w hs hc) (fun a w ⟨gs,D,hj,hs',hd⟩=>h2 gs D hj a w hs' hd) fun e a w he h=>by
  cases e with
  | normal=>exact absurd rfl he
  | _=>exact h
theorem wpQuiet_cut {S:World→Prop} {K K':Act→Prop}:∀ {l:List Oper} {j:Nat} {a:Act},wpQuiet P ops S K' (l.take j) a→(∀ a,K' a→wpQuiet P ops S K (l.drop j) a)→wpQuiet P ops S K l a
 | [],j,a,h,h2=>by simpa using h2 _ (by simpa [wpQuiet] using h)
 | o :: l,0,a,h,h2=>by simpa using h2 _ (by simpa [wpQuiet] using h)
 | o :: l,j+1,a,h,h2=>by
  simp only [List.take_succ_cons,List.drop_succ_cons] at h h2
  simp only [wpQuiet] at h ⊢
  by_cases hw:Region.wanted o (yielded ops a.tmps)=true
  ·simp only [hw,if_true] at h ⊢
   obtain ⟨v,hv,h⟩:=h
   exact ⟨v,hv,wpQuiet_cut h h2⟩
  ·simp only [hw,Bool.false_eq_true,if_false] at h ⊢
   exact wpQuiet_cut h h2
def KU (n:Nat) (J:Fr→Prop):Exit→Act→World→Prop:=fun _ a _=>∃ gs,J gs∧Slots n gs a
theorem U.cutJ (hC:∃ w,C w) (j:Nat) (J:Fr→Prop) (h1:U P ops (KU n J) n C (l.take j) fs) (h2:∀ gs,J gs→U P ops Q n C (l.drop j) gs):U P ops Q n C l fs:=fun a hs =>
 wpQuiet_cut (h1 a hs) fun a' h=>by
  obtain ⟨w,hw⟩:=hC
  obtain ⟨gs,hj,hs'⟩:=h w hw
  exact h2 gs hj a' hs'
theorem E.joinU {J:Fr→Prop} {gs:Fr} (h:J gs) (hF:Sub gs fs):E .normal (KU n J) n C fs:=fun _ _ hs _=>⟨gs,h,hs.sub hF⟩
theorem W.quietC {id:Nat} (hm:P.follows .mixedOrders=true) (hB:Region.lexB .any l.toArray=true) (hdrew:∀ w,C w→C { w with drawn:=w.drawn+1 }) (h:(∃ w,C w)→U P l.toArray Q n C l fs):W P Q n C (.region id l.toArray true) fs :=
 fun a w hs hc=>W.quiet hm hB hdrew (h ⟨w,hc⟩) a w hs hc
end
theorem Y.buildC {P:Program} {n:Nat} {fs:Fr} {t:TypeId} {C:World→Prop} {tb:TypeId} {ps:List (Nat×Operand)} {vs:List (Nat×Value)} {cells:Array Value} (hx:pvals fs ps=some vs) (hb:∀ w,C w→P.built tb vs=some cells):Y P (.build tb ps.toArray) t n fs C (.agg cells) :=
 fun d pos af g a w hs hw=>Y.build (C:=C) hx (hb w hw) d pos af g a w hs hw
section
variable {P:Program} {Q:Exit→Act→World→Prop} {n:Nat} {fs:Fr} {C:World→Prop} {t:TypeId} {ops:Array Oper} {rest:List Oper} {d:Nat} {pos:String} {af:Array Edge}
variable {w0:World} {own:List Nat} {m:List As} {α ρ:Type} {r:ρ} {g:α→List Value} {l z:List α} {lo hi:Int} {x y y2:Operand} {e tx:TypeId} {k by':Nat} {v:Value} {ik ik2:IntKind}
theorem At.cutM {w:World} (hA:At w v k (l.map g)) (h:cut l 0 hi=some z):At w (cutv v hi.toNat) k (z.map g):=by
 obtain ⟨_,h1,h2,rfl⟩:=cut_some h
 have:=hA.take hi.toNat (by rw [List.length_map];omega)
 rw [← List.map_take] at this
 exact this
theorem At.dropM {w:World} (hA:At w v k (l.map g)) (h:cut l lo l.length=some z):At w (dropv v lo.toNat k) k (z.map g):=by
 obtain ⟨h0,h1,_,rfl⟩:=cut_some h
 have:=hA.drop lo.toNat (by rw [List.length_map];omega)
 rw [← List.map_drop] at this
 rwa [Int.toNat_natCast,List.take_length]
theorem Y.cutM (hu:P.underlying tx=some (.slice e)) (hs:szB P e k=true) (hx:val fs x=some v) (hy:val fs y=some (.int ik hi)) (hA:∀ w,C w→At w v k (l.map g)) (u:List α) (h:cut l 0 hi=some u) :
  Y P (.slice tx x none (some y) none) t n fs C (cutv v hi.toNat):=by
 obtain ⟨_,h1,h2,_⟩:=cut_some h
 exact Y.cutA hu hs hx hy hA h1 (by rwa [List.length_map])
theorem Y.dropM (hu:P.underlying tx=some (.slice e)) (hs:szB P e k=true) (hx:val fs x=some v) (hy:val fs y=some (.int ik lo)) (hA:∀ w,C w→At w v k (l.map g)) (u:List α) (h:cut l lo l.length=some u) :
  Y P (.slice tx x (some y) none none) t n fs C (dropv v lo.toNat k):=by
 obtain ⟨h0,h1,_,_⟩:=cut_some h
 exact Y.dropA hu hs hx hy hA h0 (by rwa [List.length_map])
theorem L.cutM {i:Nat} (h:Go.S.cut l 0 hi=some z) (hd:Nat.blt d n=true) (hu:P.underlying tx=some (.slice e)) (he:szB P e k=true) (hx:val fs x=some v) (hy:val fs y=some (.int ik hi)) (hm:m[i]?=some (.sl v e k (l.map g)))
  (next:∀ v',L P ops Q n (Cls w0 own (m.set i (.sl v' e k (z.map g)))) rest ((d,v') :: fs)):L P ops Q n (Cls w0 own m) (⟨some d,.slice tx x none (some y) none,t,pos,af,none⟩ :: rest) fs:=by
 obtain ⟨_,h1,h2,rfl⟩:=cut_some h
 refine L.cut hd hu he hx hy hm h1 (by rwa [List.length_map]) fun v'=>?_
 rw [← List.map_take]
 exact next v'
theorem L.makeE {z0:α} {q:List α} {a:Int} {ik':IntKind} {row:α→List Value} (hq:mk a z0=some q) (hd:Nat.blt d n=true) (hu:P.underlying tx=some (.slice e)) (he:elemB P e k by'=true) (hz:zeroB P e=some (row z0)) (hx:val fs x=some (.int ik a)) (hy:val fs y=some (.int ik' a)) (hb:Nat.ble by' 1000000=true)
  (next:∀ b,L P ops Q n (Cls w0 own (.sl (sv b a.toNat) e k (q.map row) :: m)) rest ((d,sv b a.toNat) :: fs)) :
  L P ops Q n (Cls w0 own m) (⟨some d,.makeSlice tx x y,t,pos,af,none⟩ :: rest) fs:=by
 obtain ⟨h0,h1,rfl⟩:=mk_some hq
 obtain ⟨j,rfl⟩:=Int.eq_ofNat_of_zero_le h0
 refine L.make hd hu he hz hx hy (by omega) (by simpa using hb) fun b=>?_
 have:=next b
 rwa [Int.toNat_natCast,List.map_replicate] at this
theorem L.lit0 (hd:Nat.blt d n=true) (hu:P.underlying tx=some (.slice e)) (he:elemB P e k by'=true) (next:∀ b,L P ops Q n (Cls w0 own (.sl (sv b 0) e k [] :: m)) rest ((d,sv b 0) :: fs)) :
  L P ops Q n (Cls w0 own m) (⟨some d,.buildSlice tx 0 #[],t,pos,af,none⟩ :: rest) fs :=
 L.fresh (val':=fun b=>sv b 0) hd (fun a w hs hw=>by
  obtain ⟨z,hzs,hk0,h1,h2,_⟩:=elemB_run he
  refine ⟨w.heap.size,_,?_,hw.allocSl e k [] (by simp) (by simp) (by simp [maxLen])⟩
  simp only [execOp]
  simp [Instr.buildSlice,run_underlying hu,h1,Instr.fill,newRow,sv,show Array.range 0=#[] from rfl]) next
end
end Go.S
end
section
namespace Go.S
set_option linter.unusedSimpArgs false
def mget {α:Type} (l:List (Int×α)) (k:Int) (z:α):α:=match l.find? (fun p=>decide (p.1=k)) with
 | some p=>p.2
 | none=>z
def mhas {α:Type} (l:List (Int×α)) (k:Int):Bool:=l.any fun p=>decide (p.1=k)
def mset {α:Type} (l:List (Int×α)) (k:Int) (v:α):List (Int×α):=if mhas l k=true then l.map (fun p=>if p.1=k then (k,v) else p) else l++[(k,v)]
def mdel {α:Type} (l:List (Int×α)) (k:Int):List (Int×α):=l.filter fun p=>!decide (p.1=k)
abbrev VI (k:IntKind) (x:Int):Value:=.int k x
abbrev VB (b:Bool):Value:=.bool b
abbrev VA {α:Type} (row:α→List Value) (x:α):Value:=.agg (row x).toArray
def mrow {α:Type} (g:α→Value) (l:List (Int×α)):List (Int×Value):=l.map fun p=>(p.1,g p.2)
section
variable {α:Type} {g:α→Value} {l:List (Int×α)} {k a:Int} {v z:α}
theorem mhas_mrow:mhas (mrow g l) k=mhas l k:=by simp only [mhas,mrow,List.any_map];rfl
theorem mget_mrow:mget (mrow g l) k (g z)=g (mget l k z):=by
 unfold mget mrow
 rw [List.find?_map]
 have:((fun p:Int×Value=>decide (p.1=k)) ∘ fun p:Int×α=>(p.1,g p.2))=fun p=>decide (p.1=k):=rfl
 rw [this]
 cases l.find? (fun p=>decide (p.1=k)) <;> rfl
theorem mset_mrow:mset (mrow g l) k (g v)=mrow g (mset l k v):=by
 unfold mset
 rw [mhas_mrow]
 split
 ·simp only [mrow,List.map_map]
  refine List.map_congr_left fun p _=>?_
  simp only [Function.comp]
  split <;> rfl
 ·simp [mrow]
theorem mhas_iff:mhas l k=true↔∃ p∈l,p.1=k:=by simp [mhas]
theorem mget_at (hn:(l.map (·.1)).Nodup) {j:Nat} (h:l[j]?=some (a,v)):mget l a z=v:=by
 have hm:=List.mem_of_getElem? h
 unfold mget
 cases hf:l.find? (fun p=>decide (p.1=a)) with
 | none =>
  have:=List.find?_eq_none.1 hf (a,v) hm
  simp at this
 | some p =>
  have hp:=List.mem_of_find?_eq_some hf
  have hpa:p.1=a:=by simpa using List.find?_some hf
  have:∀ (l:List (Int×α)),(l.map (·.1)).Nodup→∀ p q:Int×α,p∈l→q∈l→p.1=q.1→p=q:=by
   intro l
   induction l with
   | nil=>intro _ p q hp;cases hp
   | cons c l ih =>
    intro hn p q hp hq hpq
    rw [List.map_cons,List.nodup_cons] at hn
    rcases List.mem_cons.1 hp with e1 | hp' <;> rcases List.mem_cons.1 hq with e2 | hq'
    ·rw [e1,e2]
    ·exact absurd (List.mem_map.2 ⟨q,hq',by rw [← hpq,e1]⟩) hn.1
    ·exact absurd (List.mem_map.2 ⟨p,hp',by rw [hpq,e2]⟩) hn.1
    ·exact ih hn.2 p q hp' hq' hpq
  rw [this l hn p (a,v) hp hm hpa]
theorem mget_none (h:∀ p∈l,p.1≠a):mget l a z=z:=by
 unfold mget
 rw [List.find?_eq_none.2 (fun p hp=>by simpa using h p hp)]
theorem mset_at (hn:(l.map (·.1)).Nodup) {j:Nat} {u:α} (h:l[j]?=some (a,u)):mset l a v=l.set j (a,v):=by
 have hm:=List.mem_of_getElem? h
 unfold mset
 rw [if_pos (mhas_iff.2 ⟨_,hm,rfl⟩)]
 have:∀ (l:List (Int×α)) (j:Nat),(l.map (·.1)).Nodup→l[j]?=some (a,u)→l.map (fun p=>if p.1=a then (a,v) else p)=l.set j (a,v):=by
  intro l
  induction l with
  | nil=>intro j _ h;simp at h
  | cons c l ih =>
   intro j hn h
   rw [List.map_cons,List.nodup_cons] at hn
   cases j with
   | zero =>
    simp only [List.getElem?_cons_zero,Option.some.injEq] at h
    subst h
    have:l.map (fun p=>if p.1=a then (a,v) else p)=l:=by
     rw [List.map_congr_left (g:=id) (fun p hp=>?_)]
     ·simp
     ·have:p.1≠a:=fun e=>hn.1 (List.mem_map.2 ⟨p,hp,e⟩)
      simp [this]
    simp [this]
   | succ j =>
    simp only [List.getElem?_cons_succ] at h
    have hc:c.1≠a:=fun e=>hn.1 (List.mem_map.2 ⟨_,List.mem_of_getElem? h,e.symm⟩)
    simp [hc,ih j hn.2 h]
 exact this l j hn h
theorem mdel_at (hn:(l.map (·.1)).Nodup) {j:Nat} (h:l[j]?=some (a,v)):mdel l a=l.eraseIdx j:=by
 induction l generalizing j with
 | nil=>simp at h
 | cons c l ih =>
  rw [List.map_cons,List.nodup_cons] at hn
  cases j with
  | zero =>
   simp only [List.getElem?_cons_zero,Option.some.injEq] at h
   subst h
   have:∀ p∈l,p.1≠a:=fun p hp e=>hn.1 (List.mem_map.2 ⟨p,hp,e⟩)
   have h2:l.filter (fun p=>!decide (p.1=a))=l:=List.filter_eq_self.2 fun p hp=>by simp [this p hp]
   simp [mdel,h2]
  | succ j =>
   simp only [List.getElem?_cons_succ] at h
   have hc:c.1≠a:=fun e=>hn.1 (List.mem_map.2 ⟨_,List.mem_of_getElem? h,e.symm⟩)
   have:=ih hn.2 h
   unfold mdel at this ⊢
   simp [hc,this]
theorem mdel_none (h:∀ p∈l,p.1≠a):mdel l a=l:=List.filter_eq_self.2 fun p hp=>by simp [h p hp]
theorem mget_mset (l:List (Int×α)) (a:Int) (v:α) (k:Int) (z:α):mget (mset l a v) k z=if k=a then v else mget l k z:=by
 unfold mget mset
 by_cases h:mhas l a=true
 ·rw [if_pos h,List.find?_map]
  obtain ⟨p0,hp0,hpa⟩:=mhas_iff.1 h
  have e1:((fun p:Int×α=>decide (p.1=k)) ∘ fun p:Int×α=>if p.1=a then (a,v) else p)=fun p=>decide (p.1=k):=by
   funext p
   simp only [Function.comp]
   split
   ·rename_i hp;rw [hp]
   ·rfl
  rw [e1]
  cases hf:l.find? (fun p=>decide (p.1=k)) with
  | none =>
   have hk:k≠a:=fun e=>by
    have:=List.find?_eq_none.1 hf p0 hp0
    rw [e] at this;simp [hpa] at this
   simp [hk]
  | some p =>
   have hpk:p.1=k:=by simpa using List.find?_some hf
   by_cases hk:k=a
   ·simp [hpk,hk]
   ·have : ¬ p.1=a:=fun e=>hk (hpk.symm.trans e)
    simp [this,hk]
 ·rw [if_neg h,List.find?_append]
  have hno:∀ p∈l,p.1≠a:=fun p hp e=>h (mhas_iff.2 ⟨p,hp,e⟩)
  cases hf:l.find? (fun p=>decide (p.1=k)) with
  | none =>
   by_cases hk:k=a
   ·subst hk;simp
   ·simp [hk,show ¬ a=k from fun e=>hk e.symm]
  | some p =>
   have hp:=List.mem_of_find?_eq_some hf
   have hpk:p.1=k:=by simpa using List.find?_some hf
   have:k≠a:=fun e=>hno p hp (hpk.trans e)
   simp [this]
theorem mget_mdel (l:List (Int×α)) (a k:Int) (z:α):mget (mdel l a) k z=if k=a then z else mget l k z:=by
 unfold mget mdel
 by_cases hk:k=a
 ·subst hk
  rw [if_pos rfl,List.find?_eq_none.2 (fun p hp=>by
   have:=(List.mem_filter.1 hp).2
   simpa using this)]
 ·rw [if_neg hk]
  have:(l.filter fun p=>!decide (p.1=a)).find? (fun p=>decide (p.1=k))=l.find? (fun p=>decide (p.1=k)):=by
   induction l with
   | nil=>rfl
   | cons c l ih =>
    by_cases hc:c.1=a
    ·have : ¬ c.1=k:=fun e=>hk (e.symm.trans hc)
     simp only [List.filter_cons,hc,decide_true,Bool.not_true,Bool.false_eq_true,if_false,ih,List.find?_cons,this,decide_false]
     simp [show ¬ a=k from fun e=>hk e.symm]
    ·simp only [List.filter_cons,hc,decide_false,Bool.not_false,if_true,List.find?_cons,ih]
  rw [this]
end
section
variable {P:Program} {Q:Exit→Act→World→Prop} {n:Nat} {fs:Fr} {C:World→Prop} {t:TypeId} {ops:Array Oper} {rest:List Oper} {d:Nat} {pos:String} {af:Array Edge}
variable {w0:World} {own:List Nat} {m:List As} {x y z:Operand} {kt et tx:TypeId} {i b:Nat} {l:List (Int×Value)} {a:Int} {v:Value}
theorem Cls.allocO {w:World} (h:Cls w0 own m w) (o:Obj) (x:As) (hf:x.foot=[w.heap.size]) (hx:x.holds (w.alloc o)):Cls w0 own (x :: m) (w.alloc o):=by
 have hk:∀ k,k < w.heap.size→(w.alloc o).heap[k]?=w.heap[k]?:=fun k hk=>RowKit.Below.heap_alloc w _ k hk
 refine ⟨h.os,h.tape,h.output,h.dr,Nat.le_trans h.size (by simp),fun k hk' ho=>?_,?_,fun y hy=>?_⟩
 ·rw [hk k (Nat.lt_of_lt_of_le hk' h.size),h.old k hk' ho]
 ·simp only [List.flatMap_cons,hf,List.singleton_append,List.nodup_cons]
  exact ⟨fun hb=>Nat.lt_irrefl _ (h.foot_lt _ hb),h.nodup⟩
 ·rcases List.mem_cons.1 hy with rfl | hy
  ·refine ⟨hx,fun b hb=>?_⟩
   rw [hf,List.mem_singleton] at hb
   subst hb
   exact .inl h.size
  ·exact ⟨As.holds_congr (h.mine y hy).1 fun b hb=>hk b (As.holds_lt (h.mine y hy).1 b hb),(h.mine y hy).2⟩
theorem L.makeMap (hd:Nat.blt d n=true) (next:∀ b,L P ops Q n (Cls w0 own (.mp b [] :: m)) rest ((d,.map (some b)) :: fs)):L P ops Q n (Cls w0 own m) (⟨some d,.makeMap tx none,t,pos,af,none⟩ :: rest) fs :=
 L.fresh (val':=fun b=>.map (some b)) hd (fun a w hs hw=>by
  refine ⟨w.heap.size,_,?_,hw.allocO (.map #[] 0) (.mp w.heap.size []) rfl ⟨#[],0,?_,MapKept.stamped_empty 0,rfl⟩⟩
  ·simp only [execOp,Option.map_none]
   rfl
  ·show (w.heap.push _)[w.heap.size]?=_
   simp) next
theorem nodup_under {α β:Type} (f:α→β):∀ l:List α,(l.map f).Nodup→l.Nodup
 | [],_=>List.nodup_nil
 | x :: l,h=>by
  rw [List.map_cons,List.nodup_cons] at h
  exact List.nodup_cons.2 ⟨fun hx=>h.1 (List.mem_map.2 ⟨x,hx,rfl⟩),nodup_under f l h.2⟩
theorem keys_nodup {es:Array MapEntry} {clock:Nat} (hs:MapKept.Stamped es clock) (he:es.toList.map (fun e=>(e.key,e.val))=l.map kvp):(l.map (·.1)).Nodup:=by
 have h1:es.toList.map (·.key)=(l.map (·.1)).map (Value.int .i64):=by
  have:=congrArg (List.map Prod.fst) he
  simpa [List.map_map,kvp,Function.comp_def] using this
 have h2:=hs.2.2
 rw [h1] at h2
 exact nodup_under _ _ h2
theorem isKeys {es:Array MapEntry} (he:es.toList.map (fun e=>(e.key,e.val))=l.map kvp):∀ e∈es.toList,MapKept.IsKey (.int .i64) e.key:=by
 intro e hm
 have:(e.key,e.val)∈es.toList.map (fun e=>(e.key,e.val)):=List.mem_map.2 ⟨e,hm,rfl⟩
 rw [he] at this
 obtain ⟨p,_,hp⟩:=List.mem_map.1 this
 have:e.key=.int .i64 p.1:=(Prod.mk.inj hp).1.symm
 rw [this];rfl
theorem find_spec (w:World) (hk:P.underlying kt=some (.int .i64)) {es:Array MapEntry} (he:es.toList.map (fun e=>(e.key,e.val))=l.map kvp) (a:Int) :
  ((Instr.findKey kt (.int .i64 a) es.toList).run P w=.ok none w∧(∀ p∈l,p.1≠a)∧∀ e∈es.toList,e.key≠.int .i64 a)∨∃ j v e,(Instr.findKey kt (.int .i64 a) es.toList).run P w=.ok (some (j,v)) w∧l[j]?=some (a,v)∧es[j]?=some e∧e.key=.int .i64 a:=by
 rcases MapKept.findNow_spec (k:=.int .i64 a) (show MapKept.IsKey (.int .i64) (.int .i64 a) from rfl) es.toList 0 (isKeys he) with ⟨h1,h2⟩ | ⟨j,e,h1,h2,h3⟩
 ·refine .inl ⟨MapKept.run_findKey hk h1,fun p hp heq=>?_,h2⟩
  have:kvp p∈es.toList.map (fun e=>(e.key,e.val)):=by rw [he];exact List.mem_map.2 ⟨p,hp,rfl⟩
  obtain ⟨e,hem,hee⟩:=List.mem_map.1 this
  exact h2 e hem (by rw [(Prod.mk.inj hee).1,heq])
 ·have hj:(l.map kvp)[j]?=some (e.key,e.val):=by rw [← he,List.getElem?_map,h2];rfl
  rw [List.getElem?_map] at hj
  cases hp:l[j]? with
  | none=>rw [hp] at hj;cases hj
  | some p =>
   rw [hp] at hj
   simp only [Option.map_some,Option.some.injEq,kvp,Prod.mk.injEq] at hj
   obtain ⟨e1,e2⟩:=hj
   have hpa:p.1=a:=by rw [h3] at e1;simpa using e1
   refine .inr ⟨j,p.2,e,?_,by rw [hp,← hpa],by simpa using h2,h3⟩
   have:=MapKept.run_findKey (P:=P) (w:=w) hk h1
   rwa [Nat.zero_add,← e2] at this
structure Mpd (w:World) (b:Nat) (l:List (Int×Value)) (es:Array MapEntry) (clock:Nat):Prop where
 here:w.heap[b]?=some (.map es clock)
 st:MapKept.Stamped es clock
 kv:es.toList.map (fun e=>(e.key,e.val))=l.map kvp
def mpOf:As→Option (Nat×List (Int×Value))
 | .mp b l=>some (b,l)
 | .mi b _ l _ _=>some (b,l)
 | _=>none
theorem mpOf_some {w:World} {x:As} (h:mpOf x=some (b,l)) (hh:x.holds w):∃ es clock,Mpd w b l es clock:=by
 cases x <;> simp only [mpOf,Option.some.injEq,Prod.mk.injEq,reduceCtorEq] at h
 ·obtain ⟨rfl,rfl⟩:=h
  obtain ⟨es,clock,h1,h2,h3⟩:=hh
  exact ⟨es,clock,h1,h2,h3⟩
 ·obtain ⟨rfl,rfl⟩:=h
  obtain ⟨es,clock,_,_,_,h1,h2,h3,_⟩:=hh
  exact ⟨es,clock,h1,h2,h3⟩
theorem run_zeroAt {z0:Value} (hz:((P.info? et).bind fun i=>i.zero)=some z0) (w:World):(zeroValue et).run P w=.ok z0 w:=by
 cases hi:P.info? et with
 | none=>rw [hi] at hz;cases hz
 | some inf =>
  rw [hi] at hz
  have hz':inf.zero=some z0:=hz
  simp [zeroValue,typeInfo,hi,hz']
theorem Y.lookup0 {q:As} {z0:Value} (hu:P.underlying tx=some (.map kt et)) (hk:P.underlying kt=some (.int .i64)) (hz:((P.info? et).bind fun i=>i.zero)=some z0) (hx:val fs x=some (.map (some b))) (hy:val fs y=some (.int .i64 a)) (hm:m[i]?=some q) (hq:mpOf q=some (b,l)) :
  Y P (.lookup tx x y false) t n fs (Cls w0 own m) (mget l a z0) :=
 Y.of fun d pos af g s w hs hw=>by
  obtain ⟨es,clock,hb,hst,he⟩:=mpOf_some hq (hw.get hm)
  simp only [execOp,hs.eval hx,hs.eval hy]
  rcases find_spec (P:=P) w hk he a with ⟨h1,h2,_⟩ | ⟨j,v,e,h1,h2,_⟩
  ·simp [Instr.lookup,run_underlying hu,MapKept.run_getObj_map hb,MapKept.run_checkKey hk (show MapKept.IsKey (.int .i64) (.int .i64 a) from rfl),h1,run_zeroAt hz,mget_none h2]
  ·simp [Instr.lookup,run_underlying hu,MapKept.run_getObj_map hb,MapKept.run_checkKey hk (show MapKept.IsKey (.int .i64) (.int .i64 a) from rfl),h1,mget_at (keys_nodup hst he) h2]
theorem mhas_none (h:∀ p∈l,p.1≠a):mhas l a=false:=by
 cases hh:mhas l a with
 | false=>rfl
 | true =>
  obtain ⟨p,hp,e⟩:=mhas_iff.1 hh
  exact absurd e (h p hp)
theorem Y.lookup1 {q:As} {z0:Value} (hu:P.underlying tx=some (.map kt et)) (hk:P.underlying kt=some (.int .i64)) (hz:((P.info? et).bind fun i=>i.zero)=some z0) (hx:val fs x=some (.map (some b))) (hy:val fs y=some (.int .i64 a)) (hm:m[i]?=some q) (hq:mpOf q=some (b,l)) :
  Y P (.lookup tx x y true) t n fs (Cls w0 own m) (.tuple #[mget l a z0,.bool (mhas l a)]) :=
 Y.of fun d pos af g s w hs hw=>by
  obtain ⟨es,clock,hb,hst,he⟩:=mpOf_some hq (hw.get hm)
  simp only [execOp,hs.eval hx,hs.eval hy]
  rcases find_spec (P:=P) w hk he a with ⟨h1,h2,_⟩ | ⟨j,v,e,h1,h2,_⟩
  ·simp [Instr.lookup,run_underlying hu,MapKept.run_getObj_map hb,MapKept.run_checkKey hk (show MapKept.IsKey (.int .i64) (.int .i64 a) from rfl),h1,run_zeroAt hz,mget_none h2,mhas_none h2]
  ·have:mhas l a=true:=mhas_iff.2 ⟨_,List.mem_of_getElem? h2,rfl⟩
   simp [Instr.lookup,run_underlying hu,MapKept.run_getObj_map hb,MapKept.run_checkKey hk (show MapKept.IsKey (.int .i64) (.int .i64 a) from rfl),h1,mget_at (keys_nodup hst he) h2,this]
section gen
variable {α:Type} {g:α→Value} {lm:List (Int×α)} {z0 v0:α}
theorem Y.lookupM {q:As} (hu:P.underlying tx=some (.map kt et)) (hk:P.underlying kt=some (.int .i64)) (hz:((P.info? et).bind fun i=>i.zero)=some (g z0)) (hx:val fs x=some (.map (some b))) (hy:val fs y=some (.int .i64 a)) (hm:m[i]?=some q) (hq:mpOf q=some (b,mrow g lm)) :
  Y P (.lookup tx x y false) t n fs (Cls w0 own m) (g (mget lm a z0)):=by
 have:=Y.lookup0 (t:=t) (n:=n) (w0:=w0) (own:=own) hu hk hz hx hy hm hq
 rwa [mget_mrow] at this
end gen
theorem L.mapSet0 {kv:Operand} (hu:P.underlying tx=some (.map kt et)) (hk:P.underlying kt=some (.int .i64)) (hx:val fs x=some (.map (some b))) (hy:val fs y=some (.int .i64 a)) (hz:val fs kv=some v) (hm:m[i]?=some (.mp b l))
  (next:L P ops Q n (Cls w0 own (m.set i (.mp b (mset l a v)))) rest fs):L P ops Q n (Cls w0 own m) (⟨none,.mapUpdate tx x y kv,t,pos,af,none⟩ :: rest) fs :=
 L.runsNone (fun s w hs hw=>by
  obtain ⟨es,clock,hb,hst,he⟩:=hw.get hm
  have hn:=keys_nodup hst he
  have hbl:b < w.heap.size:=(Array.getElem?_eq_some_iff.1 hb).1
  have turned:∀ (o:Obj),(As.mp b (mset l a v)).holds { w with heap:=w.heap.setIfInBounds b o }→Cls w0 own (m.set i (.mp b (mset l a v))) { w with heap:=w.heap.setIfInBounds b o }:=fun o ho =>
   hw.turn hm rfl rfl rfl rfl (by simp) (Nat.le_refl _) (fun k hk=>by simp only [As.foot,List.mem_singleton] at hk;exact Array.getElem?_setIfInBounds_ne (Ne.symm hk)) ho
  simp only [execOp,hs.eval hx,hs.eval hy,hs.eval hz]
  rcases find_spec (P:=P) w hk he a with ⟨h1,h2,h2'⟩ | ⟨j,u,e,h1,h2,hes,hek⟩
  ·refine ⟨_,by simp [Instr.mapUpdate,run_underlying hu,MapKept.run_getObj_map hb,MapKept.run_checkKey hk (show MapKept.IsKey (.int .i64) (.int .i64 a) from rfl),h1,MapKept.run_setObj_map _ hb],turned (.map (es.push { key:=.int .i64 a,val:=v,born:=clock }) (clock+1)) ?_⟩
   refine ⟨es.push { key:=.int .i64 a,val:=v,born:=clock },clock+1,by simp [hbl],MapKept.stamped_push hst h2',?_⟩
   unfold mset
   rw [if_neg (by rw [mhas_none h2];simp)]
   simp [he,kvp]
  ·refine ⟨_,by simp [Instr.mapUpdate,run_underlying hu,MapKept.run_getObj_map hb,MapKept.run_checkKey hk (show MapKept.IsKey (.int .i64) (.int .i64 a) from rfl),h1,hes,hek,MapKept.run_keyThatStays (show MapKept.IsKey (.int .i64) (.int .i64 a) from rfl),MapKept.run_setObj_map _ hb],turned (.map (es.modify j fun e=>{ e with key:=.int .i64 a,val:=v }) clock) ?_⟩
   refine ⟨es.modify j fun e=>{ e with key:=.int .i64 a,val:=v },clock,by simp [hbl],MapKept.stamped_modify hst _ _ (fun _ _=>rfl) (fun e' _ he'=>?_),?_⟩
   ·rw [hes,Option.some.injEq] at he';rw [← he',hek]
   ·rw [mset_at hn h2,List.map_set,← he]
    apply List.ext_getElem?
    intro q
    simp only [Array.toList_modify,List.getElem?_map,List.getElem?_modify,List.getElem?_set,List.length_map,Array.length_toList]
    by_cases hq:j=q
    ·subst hq
     have hlt:=(Array.getElem?_eq_some_iff.1 hes).1
     simp [hes,hlt,kvp]
    ·simp [hq]) next
theorem L.mapSet {α:Type} {g:α→Value} {lm:List (Int×α)} {v0:α} {kv:Operand} (hu:P.underlying tx=some (.map kt et)) (hk:P.underlying kt=some (.int .i64)) (hx:val fs x=some (.map (some b))) (hy:val fs y=some (.int .i64 a)) (hz:val fs kv=some (g v0)) (hm:m[i]?=some (.mp b (mrow g lm)))
  (next:L P ops Q n (Cls w0 own (m.set i (.mp b (mrow g (mset lm a v0))))) rest fs):L P ops Q n (Cls w0 own m) (⟨none,.mapUpdate tx x y kv,t,pos,af,none⟩ :: rest) fs :=
 L.mapSet0 hu hk hx hy hz hm (by rw [mset_mrow];exact next)
theorem over_all:∀ (vs c p:List Value),vs.length=c.length→over (p++c) p.length vs=p++vs
 | [],c,p,h=>by
  have:c=[]:=List.length_eq_zero_iff.1 (by simpa using h.symm)
  subst this;rfl
 | v :: vs,[],p,h=>by simp at h
 | v :: vs,u :: c,p,h=>by
  have e:(p++u :: c).set p.length v=(p++[v])++c:=by rw [List.set_append_right _ _ (Nat.le_refl _)];simp
  have:=over_all vs c (p++[v]) (by simpa using h)
  rw [over,e,show p.length+1=(p++[v]).length by simp,this]
  simp
end
end Go.S
end
section
namespace Go.S
set_option linter.unusedVariables false
set_option linter.unusedSimpArgs false
def nilV:Value:=.slice none 0 0
def gv (vs:List Value) (j:Nat):Value:=(vs[j]?).getD (.slice none 0 0)
def Sd.nil (e:TypeId) (k:Nat):Sd:=⟨.slice none 0 0,e,k,[]⟩
def zr {α:Type} (row:α→List Value→List Value) (vs:Nat→List Value):List α→List (List Value)
 | []=>[]
 | x :: xs=>row x (vs 0) :: zr row (fun i=>vs (i+1)) xs
def zs {α:Type} (sds:α→List Value→List Sd) (vs:Nat→List Value):List α→List Sd
 | []=>[]
 | x :: xs=>sds x (vs 0)++zs sds (fun i=>vs (i+1)) xs
def gset (vs:Nat→List Value) (i:Nat) (x:List Value):Nat→List Value:=fun q=>if q=i then x else vs q
theorem gset_0 (vs:Nat→List Value) (x:List Value):gset vs 0 x 0=x:=rfl
theorem gset_0s (vs:Nat→List Value) (x:List Value):(fun i=>gset vs 0 x (i+1))=fun i=>vs (i+1):=by funext i;simp [gset]
theorem gset_s0 (vs:Nat→List Value) (k:Nat) (x:List Value):gset vs (k+1) x 0=vs 0:=by simp [gset]
theorem gset_ss (vs:Nat→List Value) (k:Nat) (x:List Value):(fun i=>gset vs (k+1) x (i+1))=gset (fun i=>vs (i+1)) k x:=by funext i;simp [gset]
theorem gset_same (vs:Nat→List Value) (i:Nat):gset vs i (vs i)=vs:=by funext q;simp only [gset];split <;> simp_all
theorem zr_length {α:Type} (row:α→List Value→List Value):∀ (vs:Nat→List Value) (xs:List α),(zr row vs xs).length=xs.length
 | _,[]=>rfl
 | _,x :: xs=>by simp [zr,zr_length row _ xs]
theorem zr_get {α:Type} (row:α→List Value→List Value):∀ (vs:Nat→List Value) (xs:List α) (i:Nat) (x:α),xs[i]?=some x→(zr row vs xs)[i]?=some (row x (vs i))
 | _,[],i,x,h=>by simp at h
 | vs,y :: xs,0,x,h=>by simp only [List.getElem?_cons_zero,Option.some.injEq] at h;subst h;rfl
 | vs,y :: xs,i+1,x,h=>by
  simp only [List.getElem?_cons_succ] at h
  simp only [zr,List.getElem?_cons_succ]
  exact zr_get row (fun q=>vs (q+1)) xs i x h
theorem zr_set {α:Type} (row:α→List Value→List Value):∀ (vs:Nat→List Value) (xs:List α) (i:Nat) (x:α) (v:List Value),i < xs.length→zr row (gset vs i v) (xs.set i x)=(zr row vs xs).set i (row x v)
 | _,[],i,x,v,h=>by simp at h
 | vs,y :: xs,0,x,v,h=>by simp only [List.set_cons_zero,zr,gset_0,gset_0s]
 | vs,y :: xs,i+1,x,v,h=>by
  simp only [List.length_cons] at h
  simp only [List.set_cons_succ,zr,gset_s0,gset_ss]
  rw [zr_set row (fun q=>vs (q+1)) xs i x v (by omega)]
theorem zr_all {α:Type} {row:α→List Value→List Value} {k:Nat} (hlen:∀ z v,(row z v).length=k):∀ (vs:Nat→List Value) (xs:List α),∀ r∈zr row vs xs,r.length=k
 | _,[],r,h=>by simp [zr] at h
 | vs,y :: xs,r,h=>by
  simp only [zr,List.mem_cons] at h
  rcases h with rfl | h
  ·exact hlen _ _
  ·exact zr_all hlen _ xs r h
theorem zs_get {α:Type} {sds:α→List Value→List Sd} {c:Nat} (hc:∀ z v,(sds z v).length=c):∀ (vs:Nat→List Value) (xs:List α) (i j:Nat) (x:α),xs[i]?=some x→j < c→(zs sds vs xs)[i*c+j]?=(sds x (vs i))[j]?
 | _,[],i,j,x,h,_=>by simp at h
 | vs,y :: xs,0,j,x,h,hj=>by
  simp only [List.getElem?_cons_zero,Option.some.injEq] at h
  subst h
  simp only [zs,Nat.zero_mul,Nat.zero_add]
  rw [List.getElem?_append_left (by rw [hc];exact hj)]
 | vs,y :: xs,i+1,j,x,h,hj=>by
  simp only [List.getElem?_cons_succ] at h
  simp only [zs]
  rw [List.getElem?_append_right (by rw [hc,Nat.succ_mul];omega),hc,show (i+1)*c+j - c=i*c+j by rw [Nat.succ_mul];omega]
  exact zs_get hc (fun q=>vs (q+1)) xs i j x h hj
theorem zs_set {α:Type} {sds:α→List Value→List Sd} {c:Nat} (hc:∀ z v,(sds z v).length=c):∀ (vs:Nat→List Value) (xs:List α) (i j:Nat) (x0 x:α) (v:List Value) (d:Sd),xs[i]?=some x0→j < c→sds x v=(sds x0 (vs i)).set j d→zs sds (gset vs i v) (xs.set i x)=(zs sds vs xs).set (i*c+j) d
 | _,[],i,j,x0,x,v,d,h,_,_=>by simp at h
 | vs,y :: xs,0,j,x0,x,v,d,h,hj,hd=>by
  simp only [List.getElem?_cons_zero,Option.some.injEq] at h
  subst h
  simp only [List.set_cons_zero,zs,gset_0,gset_0s,Nat.zero_mul,Nat.zero_add]
  rw [hd,List.set_append_left _ _ (by rw [hc];exact hj)]
 | vs,y :: xs,i+1,j,x0,x,v,d,h,hj,hd=>by
  simp only [List.getElem?_cons_succ] at h
  simp only [List.set_cons_succ,zs,gset_s0,gset_ss]
  rw [List.set_append_right _ _ (by rw [hc,Nat.succ_mul];omega),hc,show (i+1)*c+j - c=i*c+j by rw [Nat.succ_mul];omega,zs_set hc (fun q=>vs (q+1)) xs i j x0 x v d h hj hd]
theorem zs_mem {α:Type} {sds:α→List Value→List Sd}:∀ (vs:Nat→List Value) (xs:List α) (i:Nat) (x0 x:α) (v:List Value),xs[i]?=some x0→∀ d∈zs sds (gset vs i v) (xs.set i x),d∈sds x v∨d∈zs sds vs xs
 | _,[],i,x0,x,v,h,d,hd=>by simp at h
 | vs,y :: xs,0,x0,x,v,h,d,hd=>by
  simp only [List.set_cons_zero,zs,gset_0,gset_0s,List.mem_append] at hd ⊢
  rcases hd with h1 | h1
  ·exact .inl h1
  ·exact .inr (.inr h1)
 | vs,y :: xs,i+1,x0,x,v,h,d,hd=>by
  simp only [List.getElem?_cons_succ] at h
  simp only [List.set_cons_succ,zs,gset_s0,gset_ss,List.mem_append] at hd ⊢
  rcases hd with h1 | h1
  ·exact .inr (.inl h1)
  ·rcases zs_mem (fun q=>vs (q+1)) xs i x0 x v h d h1 with h2 | h2
   ·exact .inl h2
   ·exact .inr (.inr h2)
theorem zr_repl {α:Type} (row:α→List Value→List Value) (nv:List Value) (z:α):∀ n,zr row (fun _=>nv) (List.replicate n z)=List.replicate n (row z nv)
 | 0=>rfl
 | n+1=>by rw [List.replicate_succ,zr,zr_repl row nv z n,List.replicate_succ]
theorem zs_repl {α:Type} {sds:α→List Value→List Sd} {nv:List Value} {z:α} {p:Sd→Prop} (h:∀ d∈sds z nv,p d):∀ n,∀ d∈zs sds (fun _=>nv) (List.replicate n z),p d
 | 0,d,hd=>by simp [zs] at hd
 | n+1,d,hd=>by
  rw [List.replicate_succ,zs,List.mem_append] at hd
  rcases hd with h1 | h1
  ·exact h d h1
  ·exact zs_repl h n d h1
theorem foot_set_sub {l:List Sd} {i:Nat} {d d':Sd} (hi:l[i]?=some d) (hf:d'.foot=[]):(d.foot++(l.set i d').flatMap Sd.foot).Perm (l.flatMap Sd.foot):=by
 induction l generalizing i with
 | nil=>simp at hi
 | cons a l ih =>
  cases i with
  | zero =>
   simp only [List.getElem?_cons_zero,Option.some.injEq] at hi
   subst hi
   simp [hf]
  | succ i =>
   simp only [List.getElem?_cons_succ] at hi
   simp only [List.set_cons_succ,List.flatMap_cons]
   refine List.Perm.trans ?_ (List.Perm.append_left a.foot (ih hi))
   rw [← List.append_assoc,← List.append_assoc]
   exact List.Perm.append_right _ List.perm_append_comm
theorem asfoot_set {m:List As} {i:Nat} {x y:As} (hi:m[i]?=some x):(x.foot++(m.set i y).flatMap As.foot).Perm (y.foot++m.flatMap As.foot):=by
 induction m generalizing i with
 | nil=>simp at hi
 | cons a m ih =>
  cases i with
  | zero =>
   simp only [List.getElem?_cons_zero,Option.some.injEq] at hi
   subst hi
   simp only [List.set_cons_zero,List.flatMap_cons]
   rw [← List.append_assoc,← List.append_assoc]
   exact List.Perm.append_right _ List.perm_append_comm
  | succ i =>
   simp only [List.getElem?_cons_succ] at hi
   simp only [List.set_cons_succ,List.flatMap_cons]
   refine List.Perm.trans ?_ (List.Perm.trans (List.Perm.append_left a.foot (ih hi)) ?_)
   ·rw [← List.append_assoc,← List.append_assoc];exact List.Perm.append_right _ List.perm_append_comm
   ·rw [← List.append_assoc,← List.append_assoc];exact List.Perm.append_right _ List.perm_append_comm
theorem asfoot_erase {m:List As} {i:Nat} {x:As} (hi:m[i]?=some x):(x.foot++(m.eraseIdx i).flatMap As.foot).Perm (m.flatMap As.foot):=by
 induction m generalizing i with
 | nil=>simp at hi
 | cons a m ih =>
  cases i with
  | zero =>
   simp only [List.getElem?_cons_zero,Option.some.injEq] at hi
   subst hi
   simp
  | succ i =>
   simp only [List.getElem?_cons_succ] at hi
   simp only [List.eraseIdx_cons_succ,List.flatMap_cons]
   refine List.Perm.trans ?_ (List.Perm.append_left a.foot (ih hi))
   rw [← List.append_assoc,← List.append_assoc]
   exact List.Perm.append_right _ List.perm_append_comm
section
variable {w0 w w':World} {own:List Nat} {m m':List As}
theorem Cls.re (h:Cls w0 own m w) (hsub:∀ b∈m'.flatMap As.foot,b∈m.flatMap As.foot) (hn:(m'.flatMap As.foot).Nodup) (hold:∀ x∈m',x.holds w):Cls w0 own m' w:=by
 refine ⟨h.os,h.tape,h.output,h.dr,h.size,h.old,hn,fun x hx=>⟨hold x hx,fun b hb=>?_⟩⟩
 obtain ⟨y,hy,hby⟩:=List.mem_flatMap.1 (hsub b (List.mem_flatMap.2 ⟨x,hx,hb⟩))
 exact (h.mine y hy).2 b hby
theorem Cls.rePerm (h:Cls w0 own m w) (hp:(m'.flatMap As.foot).Perm (m.flatMap As.foot)) (hold:∀ x∈m',x.holds w):Cls w0 own m' w :=
 h.re (fun b hb=>hp.mem_iff.1 hb) (hp.nodup_iff.2 h.nodup) hold
theorem nilfoot (e:TypeId) (k:Nat):(Sd.nil e k).foot=[]:=rfl
theorem slHolds_nil (w:World) (e:TypeId) (k:Nat):slHolds w (.slice none 0 0) e k []:=⟨by simp,by simp,.inl ⟨rfl,rfl⟩⟩
theorem Cls.ssNew (h:Cls w0 own m w) {l:List Sd} (hl:∀ d∈l,d.v=.slice none 0 0∧d.rows=[]):Cls w0 own (.ss l :: m) w:=by
 have hf:l.flatMap Sd.foot=[]:=by
  rw [List.flatMap_eq_nil_iff]
  intro d hd
  unfold Sd.foot
  rw [(hl d hd).1];rfl
 refine h.rePerm ?_ fun x hx=>?_
 ·simp [As.foot,hf]
 ·rcases List.mem_cons.1 hx with rfl | hx
  ·intro d hd
   obtain ⟨h1,h2⟩:=hl d hd
   rw [h1,h2]
   exact slHolds_nil w _ _
  ·exact (h.mine x hx).1
theorem Cls.ssOut (h:Cls w0 own m w) {s i:Nat} {l:List Sd} {v:Value} {e:TypeId} {k:Nat} {rows:List (List Value)} (hs:m[s]?=some (.ss l)) (hi:l[i]?=some ⟨v,e,k,rows⟩) (e':TypeId) (k':Nat):Cls w0 own (.sl v e k rows :: m.set s (.ss (l.set i (Sd.nil e' k')))) w:=by
 have hss:(As.ss l).holds w:=h.get hs
 have hd:(⟨v,e,k,rows⟩:Sd)∈l:=List.mem_of_getElem? hi
 refine h.rePerm ?_ fun x hx=>?_
 ·simp only [List.flatMap_cons]
  have h1:=asfoot_set (y:=.ss (l.set i (Sd.nil e' k'))) hs
  have h2:=foot_set_sub hi (nilfoot e' k')
  have h3:((As.sl v e k rows).foot++(As.ss (l.set i (Sd.nil e' k'))).foot).Perm (As.ss l).foot:=h2
  have h4:((As.ss (l.set i (Sd.nil e' k'))).foot++((As.sl v e k rows).foot++(m.set s (.ss (l.set i (Sd.nil e' k')))).flatMap As.foot)).Perm ((As.ss (l.set i (Sd.nil e' k'))).foot++m.flatMap As.foot):=by
   rw [← List.append_assoc]
   exact (List.Perm.append_right _ (List.perm_append_comm.trans h3)).trans h1
  exact (List.perm_append_left_iff _).1 h4
 ·rcases List.mem_cons.1 hx with rfl | hx
  ·exact hss _ hd
  ·rcases List.mem_or_eq_of_mem_set hx with hx | rfl
   ·exact (h.mine x hx).1
   ·intro d hd'
    rcases List.mem_or_eq_of_mem_set hd' with h1 | rfl
    ·exact hss d h1
    ·exact slHolds_nil w _ _
theorem Cls.ssIn (h:Cls w0 own m w) {p s i:Nat} {l:List Sd} {v:Value} {e e':TypeId} {k k':Nat} {rows:List (List Value)} (hp:m[p]?=some (.sl v e k rows)) (hs:m[s]?=some (.ss (l.set i (Sd.nil e' k')))) (hps:p≠s) (hi:i < l.length):Cls w0 own ((m.set s (.ss (l.set i ⟨v,e,k,rows⟩))).eraseIdx p) w:=by
 have hss:(As.ss (l.set i (Sd.nil e' k'))).holds w:=h.get hs
 have hsl:(As.sl v e k rows).holds w:=h.get hp
 have hp':(m.set s (.ss (l.set i ⟨v,e,k,rows⟩)))[p]?=some (.sl v e k rows):=by rw [List.getElem?_set_ne (Ne.symm hps)];exact hp
 refine h.rePerm ?_ fun x hx=>?_
 ·have h1:=asfoot_erase hp'
  have h2:=asfoot_set (y:=.ss (l.set i ⟨v,e,k,rows⟩)) hs
  have h3:((As.sl v e k rows).foot++(As.ss (l.set i (Sd.nil e' k'))).foot).Perm (As.ss (l.set i ⟨v,e,k,rows⟩)).foot:=by
   have:=foot_set_sub (l:=l.set i ⟨v,e,k,rows⟩) (i:=i) (d:=⟨v,e,k,rows⟩) (d':=Sd.nil e' k') (by simp [hi]) (nilfoot e' k')
   rw [List.set_set] at this
   exact this
  have h5:((As.sl v e k rows).foot++(As.ss (l.set i (Sd.nil e' k'))).foot++((m.set s (.ss (l.set i ⟨v,e,k,rows⟩))).eraseIdx p).flatMap As.foot).Perm ((As.sl v e k rows).foot++(As.ss (l.set i (Sd.nil e' k'))).foot++m.flatMap As.foot):=by
   refine List.Perm.trans ?_ (List.Perm.trans h2 (List.Perm.append_right _ h3.symm))
   refine List.Perm.trans (List.Perm.append_right _ List.perm_append_comm) ?_
   rw [List.append_assoc]
   exact List.Perm.append_left _ h1
  exact (List.perm_append_left_iff _).1 h5
 ·have hx':=List.mem_of_mem_eraseIdx hx
  rcases List.mem_or_eq_of_mem_set hx' with hx | rfl
  ·exact (h.mine x hx).1
  ·intro d hd'
   obtain ⟨j,hj⟩:=List.getElem?_of_mem hd'
   rw [List.getElem?_set] at hj
   split at hj
   ·simp [hi] at hj
    subst hj
    exact hsl
   ·rename_i hne
    refine hss d ?_
    refine List.mem_of_getElem? (i:=j) ?_
    rw [List.getElem?_set_ne hne]
    exact hj
theorem Cls.ssLess (h:Cls w0 own m w) {s:Nat} {l l':List Sd} (hs:m[s]?=some (.ss l)) (hsub:∀ b∈l'.flatMap Sd.foot,b∈l.flatMap Sd.foot) (hn:(l.flatMap Sd.foot).Nodup→(l'.flatMap Sd.foot).Nodup) (hold:(As.ss l).holds w→(As.ss l').holds w):Cls w0 own (m.set s (.ss l')) w:=by
 have hil:=(List.getElem?_eq_some_iff.1 hs).1
 have key:∀ (m:List As) (s:Nat),m[s]?=some (.ss l)→(m.flatMap As.foot).Nodup→((m.set s (.ss l')).flatMap As.foot).Nodup∧∀ b∈(m.set s (.ss l')).flatMap As.foot,b∈m.flatMap As.foot:=by
  intro m
  induction m with
  | nil=>intro s h;simp at h
  | cons a m ih =>
   intro s hs hnd
   rw [List.flatMap_cons,List.nodup_append] at hnd
   cases s with
   | zero =>
    simp only [List.getElem?_cons_zero,Option.some.injEq] at hs
    subst hs
    simp only [List.set_cons_zero,List.flatMap_cons]
    refine ⟨List.nodup_append.2 ⟨hn hnd.1,hnd.2.1,fun a ha b hb=>hnd.2.2 a (hsub a ha) b hb⟩,fun b hb=>?_⟩
    rcases List.mem_append.1 hb with h1 | h1
    ·exact List.mem_append_left _ (hsub b h1)
    ·exact List.mem_append_right _ h1
   | succ s =>
    simp only [List.getElem?_cons_succ] at hs
    obtain ⟨g1,g2⟩:=ih s hs hnd.2.1
    simp only [List.set_cons_succ,List.flatMap_cons]
    refine ⟨List.nodup_append.2 ⟨hnd.1,g1,fun a ha b hb=>hnd.2.2 a ha b (g2 b hb)⟩,fun b hb=>?_⟩
    rcases List.mem_append.1 hb with h1 | h1
    ·exact List.mem_append_left _ h1
    ·exact List.mem_append_right _ (g2 b h1)
 obtain ⟨g1,g2⟩:=key m s hs h.nodup
 refine h.re g2 g1 fun x hx=>?_
 rcases List.mem_or_eq_of_mem_set hx with hx | rfl
 ·exact (h.mine x hx).1
 ·exact hold (h.get hs)
end
end Go.S
end
section
namespace Go.S
set_option linter.unusedVariables false
set_option linter.unusedSimpArgs false
def svRow {α:Type} (x:α) (vs:List Value):List Value:=[gv vs 0]
def svSd {α:Type} (e:TypeId) (k:Nat) (row:α→List Value) (x:List α) (vs:List Value):List Sd:=[⟨gv vs 0,e,k,x.map row⟩]
def clr {α:Type} (l:List α) (a:Int) (z:α):Option (List α):=if 0≤a∧a≤l.length then some (l.take a.toNat++List.replicate (l.length - a.toNat) z) else none
theorem clr_some {α:Type} {l l':List α} {a:Int} {z:α} (h:clr l a z=some l'):0≤a∧a≤l.length∧l'=l.take a.toNat++List.replicate (l.length - a.toNat) z:=by
 unfold clr at h
 split at h
 ·rename_i h1
  simp only [Option.some.injEq] at h
  exact ⟨h1.1,h1.2,h.symm⟩
 ·cases h
theorem flat_len {k:Nat}:∀ (rows:List (List Value)),(∀ r∈rows,r.length=k)→rows.flatten.length=rows.length*k
 | [],_=>by simp
 | r :: rows,h=>by
  simp only [List.flatten_cons,List.length_append,List.length_cons,Nat.succ_mul]
  rw [flat_len rows (fun q hq=>h q (by simp [hq])),h r (by simp)]
  omega
theorem gall0:∀ d∈([]:List Sd),d.v=.slice none 0 0∧d.rows=[]:=by simp
theorem gall1 {d:Sd} {l:List Sd} (h1:d.v=.slice none 0 0) (h2:d.rows=[]) (h:∀ d∈l,d.v=.slice none 0 0∧d.rows=[]):∀ d'∈d :: l,d'.v=.slice none 0 0∧d'.rows=[]:=List.forall_mem_cons.2 ⟨⟨h1,h2⟩,h⟩
section
variable {P:Program} {Q:Exit→Act→World→Prop} {n:Nat} {fs:Fr} {t:TypeId} {ops:Array Oper} {rest:List Oper} {d:Nat} {pos:String} {af:Array Edge}
variable {w0:World} {own:List Nat} {m:List As} {x y:Operand} {e te tx:TypeId} {q s p o i j k kk b c by':Nat} {v u:Value} {vals:List Value}
theorem L.runsNoneV {op:Op} {C D:World→Prop}
  (hr:∀ a w,Slots n fs a→C w→∃ v w',(execOp a.eval ⟨none,op,t,pos,af,none⟩).run P w=.ok (.value v) w'∧D w')
  (k:L P ops Q n D rest fs):L P ops Q n C (⟨none,op,t,pos,af,none⟩ :: rest) fs:=by
 intro a w hs hw
 obtain ⟨v,w',h,hv⟩:=hr a w hs hw
 simp only [wpList,Region.wanted,if_true]
 refine .inl ?_
 unfold Oper.wp
 rw [h]
 exact k _ w' hs hv
theorem L.clear {rows:List (List Value)} {a:Nat} {zc:List Value} (hu:P.underlying tx=some (.slice e)) (he:elemB P e k by'=true) (hz:zeroB P e=some zc) (h1:∀ u∈zc,u.oneCell'=true) (hx:val fs x=some (dropv v a k)) (hm:m[i]?=some (.sl v e k rows)) (ha:a≤rows.length)
  (next:L P ops Q n (Cls w0 own (m.set i (.sl v e k (rows.take a++List.replicate (rows.length - a) zc)))) rest fs) :
  L P ops Q n (Cls w0 own m) (⟨none,.call ⟨.builtin .clear,#[x],#[tx]⟩,t,pos,af,none⟩ :: rest) fs:=by
 exact L.runsNoneV (fun ac w hsl hw=>by
  obtain ⟨hrl,hl,hown⟩:=hw.get hm
  obtain ⟨inf,z,hi,hz',hsz,hby,hzs,hk⟩:=elemB_out he
  have hzz:z.cells.toList=zc:=by
   unfold zeroB at hz
   simpa [hi,hz'] using hz
  have hzl:zc.length=k:=by rw [← hzz];simp [hzs]
  have hnoop:∀ (hd0:rows.length - a=0),Cls w0 own (m.set i (.sl v e k (rows.take a++List.replicate (rows.length - a) zc))) w:=by
   intro h0
   rw [h0,List.replicate_zero,List.append_nil,List.take_of_length_le (by omega)]
   have:m.set i (.sl v e k rows)=m:=by
    obtain ⟨h2,h3⟩:=List.getElem?_eq_some_iff.1 hm
    rw [← h3,List.set_getElem_self]
   rw [this];exact hw
  rcases hown with ⟨rfl,hn⟩ | ⟨g,cap,cur,rfl,hg,hh,hnc,hcm,hcs,htake⟩
  ·have:rows=[]:=List.length_eq_zero_iff.1 hn
   subst this
   refine ⟨.tuple #[],w,?_,hnoop (by simp)⟩
   simp only [execOp,resolve,List.map_toArray,List.map_cons,List.map_nil,hsl.eval hx,dropv]
   simp [invoke,builtin,Builtin.clear_,run_underlying hu]
  ·by_cases h0:rows.length - a=0
   ·refine ⟨.tuple #[],w,?_,hnoop h0⟩
    simp only [execOp,resolve,List.map_toArray,List.map_cons,List.map_nil,hsl.eval hx,dropv,h0]
    cases (if cap - a=0 then some (⟨g,0,none⟩:Addr) else (some (⟨g,0,none⟩:Addr)).map (·.add (a*k))) <;> simp [invoke,builtin,Builtin.clear_,run_underlying hu]
   ·have hcl:cur.toList.length=cap*k:=by simp [hcs]
    have hh':w.heap[g]?=some (.cells cur.toList.toArray e (0,0)):=by simpa using hh
    have hrows:=madeRows z.cells (rows.length - a) k hzs hk
    rw [hzz] at hrows
    have hzcs:(Builtin.zeroCells z.cells (rows.length - a)).toList=(List.replicate (rows.length - a) zc).flatten:=by
     unfold Builtin.zeroCells
     rw [hzs]
     rw [hzs] at hrows
     exact hrows
    have hrep:∀ r∈List.replicate (rows.length - a) zc,r.length=k:=by
     intro r hr;rw [List.mem_replicate] at hr;rw [hr.2,hzl]
    have hfl:(List.replicate (rows.length - a) zc).flatten.length=(rows.length - a)*k:=by rw [flat_len _ hrep,List.length_replicate]
    have hmul:a*k+(rows.length - a)*k=rows.length*k:=by rw [← Nat.add_mul];congr 1;omega
    have hmulc:rows.length*k≤cap*k:=Nat.mul_le_mul_right k hnc
    obtain ⟨w',h2,h3,h4⟩:=run_storeCells (P:=P) g e (a*k) (List.replicate (rows.length - a) zc).flatten 0 cur.toList w hh' (by omega) (by
     intro u hu'
     obtain ⟨r,hr,hur⟩:=List.mem_flatten.1 hu'
     rw [List.mem_replicate] at hr
     rw [hr.2] at hur
     exact h1 u hur)
    refine ⟨.tuple #[],w',?_,?_⟩
    ·have hca : ¬ (cap - a=0):=by omega
     simp only [execOp,resolve,List.map_toArray,List.map_cons,List.map_nil,hsl.eval hx,dropv]
     rw [if_neg hca]
     obtain ⟨q,hq⟩:∃ q,rows.length - a=q+1:=⟨rows.length - a - 1,by omega⟩
     have hzv:∀ w,(zeroValue e).run P w=.ok z w:=fun w=>by simp [zeroValue,typeInfo,hi,hz']
     rw [← hzcs,hq] at h2
     rw [hq]
     simp [invoke,builtin,Builtin.clear_,run_underlying hu,hzv,Addr.add_lit,h2]
    ·have htk:∀ (us:List Value) (c:List Value) (z a:Nat),a+us.length≤z→(over c a us).take z=over (c.take z) a us:=by
      intro us
      induction us with
      | nil=>intro c z a _;rfl
      | cons p us ih=>intro c z a h;simp only [List.length_cons] at h;rw [over,over,ih _ _ _ (by omega),List.take_set]
     have hrl2:∀ r∈rows.take a++List.replicate (rows.length - a) zc,r.length=k:=by
      intro r hr
      rcases List.mem_append.1 hr with h | h
      ·exact hrl r (List.mem_of_mem_take h)
      ·exact hrep r h
     have hlen2:(rows.take a++List.replicate (rows.length - a) zc).length=rows.length:=by simp;omega
     refine hw.turn hm rfl h4.os h4.tape h4.output h4.size (Nat.le_of_eq h4.drawn.symm) (fun p hp=>h4.rest p (by simpa [As.foot,Value.ownBlock] using hp)) ⟨hrl2,?_,.inr ⟨g,cap,(over cur.toList (a*k+0) (List.replicate (rows.length - a) zc).flatten).toArray,by rw [hlen2],hg,h3,by rw [hlen2];exact hnc,hcm,by simp [over_length,hcs],?_⟩⟩
     ·rw [flat_len _ hrl2]
     ·rw [hlen2,Nat.add_zero]
      rw [htk _ _ _ _ (by rw [hfl];omega),htake]
      have e1:rows.flatten=(rows.take a).flatten++(rows.drop a).flatten:=by rw [← List.flatten_append,List.take_append_drop]
      have e2:(rows.take a).flatten.length=a*k:=by rw [flat_len _ (fun r hr=>hrl r (List.mem_of_mem_take hr)),List.length_take,Nat.min_eq_left ha]
      have e3:=over_all (List.replicate (rows.length - a) zc).flatten (rows.drop a).flatten (rows.take a).flatten (by rw [hfl,flat_len _ (fun r hr=>hrl r (List.mem_of_mem_drop hr)),List.length_drop])
      rw [e2] at e3
      rw [e1,e3,List.flatten_append]) next
section ghost
variable {α ρ:Type} {r:ρ} {row:α→List Value→List Value} {sds:α→List Value→List Sd} {vs:Nat→List Value} {l:List α} {a:Int} {u0 u1:α} {f:List α→Option ρ}
theorem L.clearM {g:α→List Value} {z0:α} (h:bind1 (clr l a z0) f=some r) (hu:P.underlying tx=some (.slice e)) (he:elemB P e k by'=true) (hz:zeroB P e=some (g z0)) (h1:∀ u∈g z0,u.oneCell'=true) (hx:val fs x=some (dropv v a.toNat k)) (hm:m[i]?=some (.sl v e k (l.map g)))
  (next:∀ z,clr l a z0=some z→f z=some r→L P ops Q n (Cls w0 own (m.set i (.sl v e k (z.map g)))) rest fs) :
  L P ops Q n (Cls w0 own m) (⟨none,.call ⟨.builtin .clear,#[x],#[tx]⟩,t,pos,af,none⟩ :: rest) fs:=by
 obtain ⟨z,hz',h⟩:=bind1S h
 obtain ⟨h2,h3,rfl⟩:=clr_some hz'
 refine L.clear hu he hz h1 hx hm (by rw [List.length_map];omega) ?_
 have:=next _ hz' h
 rwa [List.map_append,List.map_take,List.map_replicate,← List.length_map (f:=g) (as:=l)] at this
theorem L.ssNew {cs:List Value} {xs:List α} (hc:cs=(zr row vs xs).flatten) (hn:∀ d∈zs sds vs xs,d.v=.slice none 0 0∧d.rows=[]) (next:L P ops Q n (Cls w0 own (.obj b (zr row vs xs).flatten e :: .ss (zs sds vs xs) :: m)) rest fs):L P ops Q n (Cls w0 own (.obj b cs e :: m)) rest fs:=by
 subst hc
 exact L.to (fun w hw=>(hw.ssNew hn).perm (List.Perm.swap ..)) next
theorem zr_flat (hlen:∀ z v,(row z v).length=k) (hr:idx l a=some u0) {pv:Value} (hp:(row u0 (vs a.toNat))[j]?=some pv):(zr row vs l).flatten[0+a.toNat*k+j]?=some pv:=by
 rw [Nat.zero_add]
 exact flatten_get _ _ _ _ _ (zr_all hlen vs l) (zr_get row vs l _ _ (idx_some hr).2.2) hp
theorem sds_lt (hc:∀ z v,(sds z v).length=c) {dd:Sd} {z:α} {v:List Value} (hj:(sds z v)[j]?=some dd):j < c:=by
 have:=(List.getElem?_eq_some_iff.1 hj).1
 rwa [hc] at this
theorem As.atZ {w:World} (h:(As.ss (zs sds vs l)).holds w) (hc:∀ z v,(sds z v).length=c) (hr:idx l a=some u0) {rows:List (List Value)} (hj:(sds u0 (vs a.toNat))[j]?=some ⟨v,e,k,rows⟩):At w v k rows:=by
 have h1:=zs_get hc vs l a.toNat j u0 (idx_some hr).2.2 (sds_lt hc hj)
 rw [hj] at h1
 exact As.at_ (e:=e) (h _ (List.mem_of_getElem? h1))
theorem L.ssOut (hs:m[s]?=some (.ss (zs sds vs l))) (hc:∀ z v,(sds z v).length=c) (hr:idx l a=some u0) {rows:List (List Value)} (hj:(sds u0 (vs a.toNat))[j]?=some ⟨v,e,k,rows⟩)
  (next:L P ops Q n (Cls w0 own (.sl v e k rows :: m.set s (.ss ((zs sds vs l).set (a.toNat*c+j) (Sd.nil 0 0))))) rest fs):L P ops Q n (Cls w0 own m) rest fs :=
 L.to (fun w hw=>hw.ssOut hs (by rw [zs_get hc vs l a.toNat j u0 (idx_some hr).2.2 (sds_lt hc hj)];exact hj) 0 0) next
theorem over_zr (hlen:∀ z v,(row z v).length=k) (hr:idx l a=some u0) {v1:List Value} (hj:j+vals.length≤k) (hrow:over (row u0 (vs a.toNat)) j vals=row u1 v1):over (zr row vs l).flatten (0+a.toNat*k+j) vals=(zr row (gset vs a.toNat v1) (l.set a.toNat u1)).flatten:=by
 have hi:=idx_some hr
 rw [Nat.zero_add,over_flat vals _ a.toNat j _ (zr_all hlen vs l) (zr_get row vs l _ _ hi.2.2) hj,hrow,zr_set row vs l a.toNat u1 v1 (by omega)]
theorem zr_len (hlen:∀ z v,(row z v).length=k):(zr row vs l).flatten.length=l.length*k:=by rw [flat_len _ (zr_all hlen vs l),zr_length]
end ghost
end
section
variable {P:Program} {Q:Exit→Act→World→Prop} {n:Nat} {C:World→Prop} {fs:Fr} {t:TypeId} {ops:Array Oper} {rest:List Oper} {d:Nat} {pos:String} {af:Array Edge} {x y:Operand} {tx ty:TypeId}
variable {α:Type} {row:α→List Value} {l l':List α} {k m:Nat} {e:TypeId}
end
end Go.S
end
section
namespace Go.S
set_option linter.unusedVariables false
set_option linter.unusedSimpArgs false
theorem dec (n:Nat) (h:0 < n):∃ q,n=q+1:=⟨n - 1,by omega⟩
theorem isucc (i:Nat) (h:i < 9223372036854775807):i64 ((i:Int)+1)=some ((i+1:Nat):Int):=by rw [i64_ok (by omega) (by omega)];rfl
theorem ipred (i:Nat) (h:0 < i) (h2:i < 9223372036854775807):i64 ((i:Int) - 1)=some ((i - 1:Nat):Int):=by rw [i64_ok (by omega) (by omega)];congr 1;omega
theorem ff : ¬ (false=true):=by simp
theorem lt_big {n:Nat} (h:n≤1180591620717411303423):n < big:=by rw [big_eq];omega
theorem upd_ok {α:Type} {l:List α} {i:Nat} (x:α) (h:i < l.length):upd l (i:Int) x=some (l.set i x):=by
 unfold upd
 rw [if_pos (by omega)]
 rfl
theorem drop_cons {α:Type} {l:List α} {i:Nat} (hi:i < l.length):l.drop i=l[i] :: l.drop (i+1):=List.drop_eq_getElem_cons hi
theorem take_snoc {α:Type} {l:List α} {i:Nat} (hi:i < l.length):l.take (i+1)=l.take i++[l[i]]:=List.take_succ_eq_append_getElem hi
theorem cut_drop {α:Type} (l:List α) (i:Nat) (h:i≤l.length):cut l (i:Int) (l.length:Int)=some (l.drop i):=by
 rw [cut_ok (by omega) (by omega) (by omega)]
 simp
theorem cut_take {α:Type} (l:List α) (i:Nat) (h:i≤l.length):cut l 0 (i:Int)=some (l.take i):=by
 rw [cut_ok (by omega) (by omega) (by omega)]
 simp
theorem clr_ok {α:Type} (l:List α) (i:Nat) (z:α) (h:i≤l.length):clr l (i:Int) z=some (l.take i++List.replicate (l.length - i) z):=by
 unfold clr
 rw [if_pos (by omega)]
 rfl
theorem arrN_ok {α:Type} {n:Nat} {l:List α} (h:l.length=n):arrN n l=some l:=if_pos h
def tab {α:Type} (n:Nat) (f:Int→α):List α:=(List.range n).map fun i:Nat=>f (i:Int)
theorem tab_length {α:Type} (n:Nat) (f:Int→α):(tab n f).length=n:=by simp [tab]
theorem tab_get {α:Type} {n:Nat} {f:Int→α} {i:Nat} (h:i < n):(tab n f)[i]?=some (f (i:Int)):=by simp [tab,h]
theorem tab_idx {α:Type} {n:Nat} {f:Int→α} {a:Int} (h0:0≤a) (h:a < n):idx (tab n f) a=some (f a):=by
 obtain ⟨i,rfl⟩:=Int.eq_ofNat_of_zero_le h0
 rw [idx_nat,tab_get (by omega)]
theorem tab_idxA {α:Type} {n:Nat} {f:Int→α} {a:Int} (h0:0≤a) (h:a < n):idxA n (tab n f) a=some (f a):=by
 unfold idxA
 rw [if_pos h,tab_idx h0 h]
theorem tab_ext {α:Type} {n:Nat} {f g:Int→α} (h:∀ i:Int,0≤i→i < n→f i=g i):tab n f=tab n g:=by
 unfold tab
 apply List.map_congr_left
 intro i hi
 exact h i (by omega) (by have:=List.mem_range.1 hi;omega)
theorem tab_upd {α:Type} {n:Nat} {f:Int→α} {a:Int} (v:α) (h0:0≤a) (h:a < n):upd (tab n f) a v=some (tab n fun i=>if i=a then v else f i):=by
 obtain ⟨j,rfl⟩:=Int.eq_ofNat_of_zero_le h0
 have hj:j < n:=by omega
 rw [upd_ok v (by rw [tab_length];exact hj)]
 congr 1
 apply List.ext_getElem?
 intro i
 rw [List.getElem?_set]
 by_cases hi:i < n
 ·rw [tab_get hi,tab_get hi]
  by_cases hij:j=i
  ·subst hij
   rw [if_pos rfl,if_pos (by rw [tab_length];exact hj),if_pos rfl]
  ·rw [if_neg hij,if_neg (by omega)]
 ·rw [if_neg (by omega),List.getElem?_eq_none (by rw [tab_length];omega),List.getElem?_eq_none (by rw [tab_length];omega)]
theorem tab_repl {α:Type} (n:Nat) (z:α):List.replicate n z=tab n fun _=>z:=by
 unfold tab
 apply List.ext_getElem?
 intro i
 by_cases h:i < n <;> simp [h]
end Go.S
end
section
namespace Go.S
set_option linter.unusedVariables false
set_option linter.unusedSimpArgs false
section
variable {P:Program} {Q:Exit→Act→World→Prop} {n:Nat} {C:World→Prop} {fs:Fr} {t:TypeId} {ops:Array Oper} {rest:List Oper} {d:Nat} {pos:String} {af:Array Edge}
variable {w0:World} {own:List Nat} {m:List As} {x y:Operand} {e te tx ty:TypeId} {i j k by':Nat} {v u:Value}
variable {α:Type} {row:α→List Value→List Value} {sds:α→List Value→List Sd} {vs:Nat→List Value} {l:List α} {a:Int} {u0:α}
theorem zr_idx (h:idx l a=some u0):(zr row vs l)[a.toNat]?=some (row u0 (vs a.toNat)):=zr_get row vs l _ _ (idx_some h).2.2
theorem zAt {w:World} (hd:∀ d∈zs sds vs l,At w d.v d.k d.rows) {c:Nat} (hc:∀ z v,(sds z v).length=c) (hr:idx l a=some u0) {rows:List (List Value)} (hj:(sds u0 (vs a.toNat))[j]?=some ⟨v,e,k,rows⟩):At w v k rows:=by
 have h1:=zs_get hc vs l a.toNat j u0 (idx_some hr).2.2 (sds_lt hc hj)
 rw [hj] at h1
 exact hd _ (List.mem_of_getElem? h1)
theorem Y.lenMZ (hu:P.underlying tx=some (.slice e)) (hx:val fs x=some v) (hA:∀ w,C w→At w v k (zr row vs l)):Y P (.call ⟨.builtin .len,#[x],#[tx]⟩) t n fs C (.int .i64 l.length):=by
 have:=Y.lenA (t:=t) (n:=n) hu hx hA
 rwa [zr_length] at this
theorem Y.indexMZ {ik:IntKind} (hu:P.underlying tx=some (.slice e)) (hsz:szB P e k=true) (hx:val fs x=some v) (hy:val fs y=some (.int ik a)) (hA:∀ w,C w→At w v k (zr row vs l)) (z:α) (h:idx l a=some z) :
  Y P (.indexAddr tx x y) t n fs C (el v (a.toNat*k)):=by
 obtain ⟨h0,h1,_⟩:=idx_some h
 exact Y.indexE hu hsz hx hy hA h0 (by rwa [zr_length])
def cpy (l s:List α):List α:=s.take (min s.length l.length)++l.drop (min s.length l.length)
theorem over_pre:∀ (vs c p b:List Value),vs.length=c.length→over (p++c++b) p.length vs=p++vs++b
 | [],c,p,b,h=>by
  have:c=[]:=List.length_eq_zero_iff.1 (by simpa using h.symm)
  subst this;rfl
 | v :: vs,[],p,b,h=>by simp at h
 | v :: vs,u :: c,p,b,h=>by
  have e:(p++u :: c++b).set p.length v=(p++[v])++c++b:=by rw [List.append_assoc,List.set_append_right _ _ (Nat.le_refl _)];simp
  have:=over_pre vs c (p++[v]) b (by simpa using h)
  rw [over,e,show p.length+1=(p++[v]).length by simp,this]
  simp
end
def xRepeat (s:List UInt8) (n:Int):Option (List UInt8):=if 0≤n∧n≤1000000∧s.length*n.toNat≤140737488355328 then some (Lib.repeatL s n.toNat) else none
end Go.S
end
section
namespace Go.S
set_option linter.unusedVariables false
set_option linter.unusedSimpArgs false
section
variable {P:Program} {ops:Array Oper} {Q:Exit→Act→World→Prop} {md:Region.Mode} {S S':Array Bool→World→Prop} {B D Z:World→Prop} {bs:List Nat}
def stOpen (bs:List Nat) (L:Array Bool):Bool:=bs.all fun b=>!(L.getD b true)
def stC:List (List Nat)→List (World→Prop)→(World→Prop)→Array Bool→World→Prop
 | bs :: r,B :: q,D,L,w=>match stOpen bs L with
  | true=>B w
  | false=>stC r q D L w
 | _,_,D,_,w=>D w
def wpAnyF (P:Program) (md:Region.Mode) (ops:Array Oper) (Q:Exit→Act→World→Prop) (S:Array Bool→World→Prop):Nat→Array Bool→Act→World→Prop
 | 0,listed,a,w=>Region.ready md ops listed=[]∧Q .normal a w
 | fuel+1,listed,a,w =>
  (Region.ready md ops listed=[]→Q .normal a w) ∧
  ∀ i∈Region.ready md ops listed,wpOp P ops Q i (fun a' w'=>S (listed.setIfInBounds i true) w'∧wpAnyF P md ops Q S fuel (listed.setIfInBounds i true) a' w') a w
theorem wpAny_of_F:∀ (fuel:Nat) (listed:Array Bool) (a:Act) (w:World),wpAnyF P md ops Q S fuel listed a w→wpAny P md ops Q fuel listed a w
 | 0,_,_,_,h=>h
 | fuel+1,_,_,_,h=>⟨h.1,fun i hi=>wpOp_mono (fun a' w' h'=>wpAny_of_F fuel _ a' w' h'.2) (h.2 i hi)⟩
theorem F_imp {b:Nat} (hS:∀ (L:Array Bool) w,L.getD b false=true→S' L w→S L w):∀ (fuel:Nat) (listed:Array Bool) (a:Act) (w:World),listed.getD b false=true→wpAnyF P md ops Q S' fuel listed a w→wpAnyF P md ops Q S fuel listed a w
 | 0,_,_,_,_,h=>h
 | fuel+1,listed,_,_,hb,h=>⟨h.1,fun i hi=>wpOp_mono (fun a' w' h'=>⟨hS _ _ (getD_set_true hb) h'.1,F_imp hS fuel _ a' w' (getD_set_true hb) h'.2⟩) (h.2 i hi)⟩
theorem stOpen_ne {i:Nat} {L:Array Bool} (hi:i ∉ bs):stOpen bs (L.setIfInBounds i true)=stOpen bs L:=by
 unfold stOpen
 rw [Bool.eq_iff_iff,List.all_eq_true,List.all_eq_true]
 constructor
 ·intro h b hb
  have:=h b hb
  rwa [getD_set_ne true (by rintro rfl;exact hi hb)] at this
 ·intro h b hb
  rw [getD_set_ne true (by rintro rfl;exact hi hb)]
  exact h b hb
def waitB (ops:Array Oper) (md:Region.Mode) (bs:List Nat) (i:Nat):Bool:=bs.all fun b=>!(Nat.beq b i) && match ops[b]? with
 | some o=>o.after.toList.any fun e=>Region.binds md e && Nat.beq e.on i
 | none=>false
theorem waitB_spec {i b:Nat} (h:waitB ops md bs i=true) (hb:b∈bs):b≠i∧∃ o,ops[b]?=some o∧∃ e∈o.after,Region.binds md e=true∧e.on=i:=by
 have:=List.all_eq_true.1 h b hb
 simp only [Bool.and_eq_true,Bool.not_eq_true'] at this
 refine ⟨Nat.ne_of_beq_eq_false this.1,?_⟩
 cases ho:ops[b]? with
 | none=>rw [ho] at this;exact absurd this.2 (by simp)
 | some o =>
  rw [ho] at this
  obtain ⟨e,he,h2⟩:=List.any_eq_true.1 this.2
  simp only [Bool.and_eq_true] at h2
  exact ⟨o,rfl,e,by simpa using he,h2.1,Nat.eq_of_beq_eq_true h2.2⟩
theorem F_first {i:Nat} {oi:Oper} {v:Value} (hi:ops[i]?=some oi) (hsel:∀ (j:Nat) (o:Oper) cs b,ops[j]?=some o→o.op≠.select cs b)
  (hQ:∀ c a w,Q (.panic c) (a.put oi.dst v) w→Q (.panic c) a w) (hwait:waitB ops md bs i=true) (hS':∀ (L:Array Bool) w,S (L.setIfInBounds i true) w=S L w) (hZ:∀ (L:Array Bool) w,stOpen bs L=true→S L w→Z w) :
  ∀ (fuel:Nat) (listed:Array Bool) (a:Act) (w:World),stOpen bs listed=true →
   (∀ j oj,ops[j]?=some oj→j≠i→listed.getD j true=false→(∀ e∈oj.after,Region.binds md e=true→e.on≠i)→oi.apart ops oj=true) →
   i∈Region.ready md ops listed→YieldsIf P ops Z oi v a→S listed w →
   wpAnyF P md ops Q S fuel (listed.setIfInBounds i true) (a.put oi.dst v) w→wpAnyF P md ops Q S (fuel+1) listed a w:=by
 intro fuel
 induction fuel with
 | zero =>
  intro listed a w ho hfree hr hy hS H
  refine ⟨fun h=>(by rw [h] at hr;cases hr),fun j hj=>?_⟩
  by_cases hji:j=i
  ·subst hji;exact hy.wpOp hi (hZ _ _ ho hS) ⟨by rw [hS'];exact hS,H⟩
  ·have:=ready_mono hj hji
   rw [H.1] at this
   cases this
 | succ fuel ih =>
  intro listed a w ho hfree hr hy hS H
  refine ⟨fun h=>(by rw [h] at hr;cases hr),fun j hj=>?_⟩
  by_cases hji:j=i
  ·subst hji;exact hy.wpOp hi (hZ _ _ ho hS) ⟨by rw [hS'];exact hS,H⟩
  ·have h1:=H.2 j (ready_mono hj hji)
   obtain ⟨hjun,oj,hoj,hall⟩:=mem_ready.1 hj
   have hnot:∀ e∈oj.after,Region.binds md e=true→e.on≠i:=fun e he hb heq=>by
    have h1:=hall e he hb
    have h0:=(mem_ready.1 hr).1
    rw [heq] at h1
    rcases Nat.lt_or_ge i listed.size with h' | h'
    ·simp [h'] at h0 h1;rw [h0] at h1;cases h1
    ·simp [Array.getElem?_eq_none h'] at h1
   have hjb:j ∉ bs:=fun hb=>by
    obtain ⟨_,o,ho',e,he,hbi,heq⟩:=waitB_spec hwait hb
    rw [hoj,Option.some.injEq] at ho'
    subst ho'
    exact hnot e he hbi heq
   have ho2:stOpen bs (listed.setIfInBounds j true)=true:=by rw [stOpen_ne hjb];exact ho
   have h2:=wpOp_putIf hoj (hfree j oj hoj hji hjun hnot) (fun cs b=>hsel i oi cs b hi) (fun cs b=>hsel j oj cs b hoj) hQ hy h1
   have hfree':∀ k ok,ops[k]?=some ok→k≠i→(listed.setIfInBounds j true).getD k true=false →
     (∀ e∈ok.after,Region.binds md e=true→e.on≠i)→oi.apart ops ok=true:=fun k ok hk hki hun hno=>by
    refine hfree k ok hk hki ?_ hno
    by_cases hjk:j=k
    ·subst hjk;exact hjun
    ·rw [getD_set_ne true hjk] at hun;exact hun
   refine wpOp_mono (fun a' w' h3=>?_) h2
   have hS2:S (listed.setIfInBounds j true) w':=by
    have:=h3.2.1
    rw [Array.setIfInBounds_comm _ _ (Ne.symm hji),hS'] at this
    exact this
   refine ⟨hS2,ih (listed.setIfInBounds j true) a' w' ho2 hfree' (ready_mono hr (Ne.symm hji)) h3.1 hS2 ?_⟩
   rw [Array.setIfInBounds_comm _ _ hji]
   exact h3.2.2
def outB (bss:List (List Nat)) (i:Nat):Bool:=bss.all fun bs=>bs.all fun b=>!(Nat.beq b i)
theorem stC_set {i:Nat}:∀ {bss:List (List Nat)} (Bs:List (World→Prop)),outB bss i=true→∀ (L:Array Bool) w,stC bss Bs D (L.setIfInBounds i true) w=stC bss Bs D L w
 | [],_,_,L,w=>rfl
 | bs :: r,[],_,L,w=>rfl
 | bs :: r,B :: q,h,L,w=>by
  simp only [outB,List.all_cons,Bool.and_eq_true] at h
  have hi:i ∉ bs:=fun hb=>by
   have:=List.all_eq_true.1 h.1 i hb
   simp at this
  simp only [stC]
  rw [stOpen_ne hi,stC_set q h.2 L w]
section
variable {bz bs:List Nat} {r:List (List Nat)} {q q':List (World→Prop)} {B' C D':World→Prop} {i:Nat} {L:Array Bool}
theorem Zc.at1 (h:∀ w,B w→Z w):∀ (L:Array Bool) w,stOpen bs L=true→stC (bs :: r) (B :: q) D L w→Z w:=fun L w ho hs=>by
 simp only [stC,ho] at hs;exact h w hs
theorem Zc.on (h:∀ w,B w→Z w) (h2:∀ (L:Array Bool) w,stOpen bz L=true→stC r q D L w→Z w):∀ (L:Array Bool) w,stOpen bz L=true→stC (bs :: r) (B :: q) D L w→Z w:=fun L w ho hs=>by
 simp only [stC] at hs
 split at hs
 ·exact h w hs
 ·exact h2 L w ho hs
theorem Zc.fin (h:∀ w,D w→Z w):∀ (L:Array Bool) w,stOpen bz L=true→stC [] [] D L w→Z w:=fun _ w _ hs=>h w hs
theorem Sc.stay (h:∀ w,B' w→B w) (h2:∀ (L:Array Bool) w,L.getD i false=true→stC r q' D' L w→stC r q D L w):∀ (L:Array Bool) w,L.getD i false=true→stC (bs :: r) (B' :: q') D' L w→stC (bs :: r) (B :: q) D L w:=fun L w hi hs=>by
 cases ho:stOpen bs L with
 | true=>simp only [stC,ho] at hs ⊢;exact h w hs
 | false=>simp only [stC,ho] at hs ⊢;exact h2 L w hi hs
theorem Sc.past {S':Array Bool→World→Prop} (hb:bs.contains i=true) (h2:∀ (L:Array Bool) w,L.getD i false=true→S' L w→stC r q D L w):∀ (L:Array Bool) w,L.getD i false=true→S' L w→stC (bs :: r) (B :: q) D L w:=fun L w hi hs=>by
 have ho:stOpen bs L=false:=by
  unfold stOpen
  rw [List.all_eq_false]
  refine ⟨i,by simpa using hb,?_⟩
  have h3:L.getD i true=true:=by
   rcases Nat.lt_or_ge i L.size with h' | h'
   ·simp [h'] at hi ⊢;exact hi
   ·simp [Array.getElem?_eq_none h'] at hi
  simp [h3]
 simp only [stC,ho]
 exact h2 L w hi hs
theorem Sc.stayD (h:∀ w,D' w→D w):∀ (L:Array Bool) w,L.getD i false=true→stC [] [] D' L w→stC [] [] D L w:=fun _ w _ hs=>h w hs
theorem Sc.now (ho:stOpen bs L=true) (h:∀ w,C w→B w):∀ w,C w→stC (bs :: r) (B :: q) D L w:=fun w hc=>by
 simp only [stC,ho];exact h w hc
theorem Sc.atD (h:∀ w,C w→D w):∀ w,C w→stC [] [] D L w:=h
end
end
def KG (K:Act→World→Prop):Exit→Act→World→Prop:=fun e a w=>e=.normal∧K a w
section
variable {P:Program} {Q:Exit→Act→World→Prop} {n:Nat} {B C D Z:World→Prop} {S S':Array Bool→World→Prop} {fs:Fr} {ops:Array Oper} {d:Nat} {op:Op} {t:TypeId} {pos:String} {af:Array Edge} {listed:Array Bool} {k i:Nat} {g:Option (Nat×Bool)} {K:Act→World→Prop}
theorem noOutG : ¬ LetsOut (KG K):=fun ⟨_,_,h,_⟩=>by cases h
theorem wpOp_of_KG {o:Oper} {a:Act} {w:World} (hi:ops[i]?=some o) (h:wpList P ops (KG K) [o] a w):wpOp P ops (NoPanic Q) i K a w:=by
 have hK:∀ a w,wpList P ops (KG K) [] a w→K a w:=fun a w h=>h.2
 unfold wpOp
 simp only [hi]
 simp only [wpList] at h
 by_cases hw:Region.wanted o (yielded ops a.tmps)=true
 ·simp only [hw,if_true] at h ⊢
  rcases h with h | ⟨_,h⟩
  ·refine .inl ?_
   unfold Oper.wp at *
   generalize (execOp a.eval o).run P w=r at *
   cases r with
   | ok x w' =>
    cases x <;> simp only [Oper.upon] at h ⊢
    case value u=>exact h.2
    case skip=>exact h.2
    case defer d=>exact h.2
    case enter f args =>
     refine Calls.mono h fun e w'' he=>?_
     cases e with
     | returned u=>exact he.2
     | panicked c=>exact absurd he.1 (by nofun)
     | outgrown=>exact (noOutG he).elim
    case row row args=>exact Rows.mono h fun u w'' he=>he.2
   | halt x w' =>
    cases x <;> simp only [Oper.upon] at h ⊢
    case panic u=>exact absurd h.1 (by nofun)
  ·exact (noOutG h).elim
 ·simp only [hw,Bool.false_eq_true,if_false] at h ⊢
  exact h.2
def V2 (P:Program) (ops:Array Oper) (Q:Exit→Act→World→Prop) (n:Nat) (S:Array Bool→World→Prop) (listed:Array Bool) (k:Nat) (C:World→Prop) (fs:Fr):Prop :=
 ∀ a w,Slots n fs a→C w→S listed w→wpAnyF P .any ops (NoPanic Q) S k listed a w
structure Nx2 (ops:Array Oper) (S:Array Bool→World→Prop) (Z:World→Prop) (listed:Array Bool) (i:Nat) (o:Oper):Prop extends Nx ops listed i o where
 set':∀ (L:Array Bool) w,S (L.setIfInBounds i true) w=S L w
 z:∃ bz,waitB ops .any bz i=true∧stOpen bz listed=true∧∀ (L:Array Bool) w,stOpen bz L=true→S L w→Z w
def nx2B (ops:Array Oper) (bss:List (List Nat)) (bz:List Nat) (listed:Array Bool) (i:Nat):Bool:=nxB ops listed i && outB bss i && waitB ops .any bz i && stOpen bz listed
theorem Nx2.of {o:Oper} {bss:List (List Nat)} {Bs:List (World→Prop)} (bz:List Nat) (h:nx2B ops bss bz listed i=true) (ho:ops[i]?=some o) (hz:∀ (L:Array Bool) w,stOpen bz L=true→stC bss Bs D L w→Z w):Nx2 ops (stC bss Bs D) Z listed i o:=by
 simp only [nx2B,Bool.and_eq_true] at h
 exact ⟨Nx.of h.1.1.1 ho,stC_set Bs h.1.1.2,bz,h.1.2,h.2,hz⟩
theorem Nx2.take {o:Oper} {v:Value} (hn:Nx2 ops S Z listed i o) {a:Act} {w:World} (hy:YieldsIf P ops Z o v a) (hs:S listed w)
  (h:wpAnyF P .any ops (NoPanic Q) S k (listed.setIfInBounds i true) (a.put o.dst v) w):wpAnyF P .any ops (NoPanic Q) S (k+1) listed a w:=by
 obtain ⟨bz,h1,h2,h3⟩:=hn.z
 exact F_first hn.at_ (Region.noSelect_spec hn.sel) (fun _ _ _ h=>h) h1 hn.set' h3 k listed a w h2 (Region.free_spec hn.at_ hn.free) (by simpa using hn.ready) hy hs h
theorem V2.y {v:Value} (hn:Nx2 ops S Z listed i ⟨some d,op,t,pos,af,g⟩) (hg:wantB ops fs g=true) (hp:plainB op=true) (hd:Nat.blt d n=true) (hy:Y P op t n fs Z v)
  (next:V2 P ops Q n S (listed.setIfInBounds i true) k C ((d,v) :: fs)):V2 P ops Q n S listed (k+1) C fs:=by
 intro a w hs hc hb
 exact hn.take (.inl ⟨wantB_out hs _ hg,fun w' hw'=>hy.strict hp _ _ _ _ hs hw'⟩) hb (next _ w (hs.put hd v) hc (by rw [hn.set'];exact hb))
theorem V2.nilc {x:Operand} {ad:Addr} (hn:Nx2 ops S Z listed i ⟨some d,.nilCheck x,t,pos,af,g⟩) (hg:wantB ops fs g=true) (hd:Nat.blt d n=true) (hx:val fs x=some (.pointer (some ad)))
  (next:V2 P ops Q n S (listed.setIfInBounds i true) k C ((d,.pointer (some ad)) :: fs)):V2 P ops Q n S listed (k+1) C fs:=by
 intro a w hs hc hb
 exact hn.take (.inl ⟨wantB_out hs _ hg,fun w' hw'=>by simp only [execOp,hs.eval hx];simp⟩) hb (next _ w (hs.put hd _) hc (by rw [hn.set'];exact hb))
theorem V2.pass (hn:Nx2 ops S Z listed i ⟨some d,op,t,pos,af,g⟩) (hg:passB ops fs g=true) (hd:Nat.blt d n=true)
  (next:V2 P ops Q n S (listed.setIfInBounds i true) k C ((d,undef) :: fs)):V2 P ops Q n S listed (k+1) C fs:=by
 intro a w hs hc hb
 exact hn.take (.inr ⟨passB_out hs _ hg,rfl⟩) hb (next _ w (hs.put hd _) hc (by rw [hn.set'];exact hb))
theorem V2.passNone (hn:Nx2 ops S Z listed i ⟨none,op,t,pos,af,g⟩) (hg:passB ops fs g=true)
  (next:V2 P ops Q n S (listed.setIfInBounds i true) k C fs):V2 P ops Q n S listed (k+1) C fs:=by
 intro a w hs hc hb
 exact hn.take (.inr ⟨passB_out hs _ hg,rfl⟩) hb (next _ w hs hc (by rw [hn.set'];exact hb))
section
variable {α ρ:Type} {r:ρ}
theorem V2.m {o:Option α} {f:α→Option ρ} {V':α→Value} (h:bind1 o f=some r) (hn:Nx2 ops S Z listed i ⟨some d,op,t,pos,af,g⟩) (hg:wantB ops fs g=true) (hp:plainB op=true) (hd:Nat.blt d n=true)
  (hy:∀ x,o=some x→Y P op t n fs Z (V' x)) (next:∀ x,o=some x→f x=some r→V2 P ops Q n S (listed.setIfInBounds i true) k C ((d,V' x) :: fs)):V2 P ops Q n S listed (k+1) C fs:=by
 obtain ⟨x,hx,h⟩:=bind1S h
 exact V2.y hn hg hp hd (hy x hx) (next x hx h)
theorem V2.ite {p:Prop} [Decidable p] {X W:Option ρ} (h:(if p then X else W)=some r) (hn:Nx2 ops S Z listed i ⟨some d,op,t,pos,af,g⟩) (hg:wantB ops fs g=true) (hp:plainB op=true) (hd:Nat.blt d n=true)
  (hy:Y P op t n fs Z (.bool (decide p))) (k1:p→X=some r→V2 P ops Q n S (listed.setIfInBounds i true) k C ((d,.bool true) :: fs)) (k2 : ¬p→W=some r→V2 P ops Q n S (listed.setIfInBounds i true) k C ((d,.bool false) :: fs)) :
  V2 P ops Q n S listed (k+1) C fs:=by
 by_cases hq:p
 ·exact V2.y hn hg hp hd (by simpa [hq] using hy) (k1 hq (by rwa [if_pos hq] at h))
 ·exact V2.y hn hg hp hd (by simpa [hq] using hy) (k2 hq (by rwa [if_neg hq] at h))
theorem V2.iteB {b:Bool} {X W:Option ρ} (h:(if b=true then X else W)=some r) (hn:Nx2 ops S Z listed i ⟨some d,op,t,pos,af,g⟩) (hg:wantB ops fs g=true) (hp:plainB op=true) (hd:Nat.blt d n=true)
  (hy:Y P op t n fs Z (.bool b)) (k1:b=true→X=some r→V2 P ops Q n S (listed.setIfInBounds i true) k C ((d,.bool true) :: fs)) (k2 : ¬b=true→W=some r→V2 P ops Q n S (listed.setIfInBounds i true) k C ((d,.bool false) :: fs)) :
  V2 P ops Q n S listed (k+1) C fs:=by
 cases b with
 | true=>exact V2.y hn hg hp hd hy (k1 rfl h)
 | false=>exact V2.y hn hg hp hd hy (k2 (by simp) (by simpa using h))
theorem V2.caseB {X W:Option ρ} {b:Bool} {q:Nat} (h:(if b=true then X else W)=some r) (hv:look fs q=some (.bool b)) (k1:X=some r→V2 P ops Q n S listed k C ((q,.bool true) :: fs)) (k2:W=some r→V2 P ops Q n S listed k C ((q,.bool false) :: fs)):V2 P ops Q n S listed k C fs:=by
 cases b with
 | true=>exact fun a w hs hc hd=>k1 h a w (hs.again hv) hc hd
 | false=>exact fun a w hs hc hd=>k2 (by simpa using h) a w (hs.again hv) hc hd
end
def KV2 (P:Program) (ops:Array Oper) (Q:Exit→Act→World→Prop) (S:Array Bool→World→Prop) (k:Nat) (L:Array Bool):Exit→Act→World→Prop :=
 KG fun a w=>S L w∧wpAnyF P .any ops (NoPanic Q) S k L a w
theorem V2.effs {rs:List Nat} (hr:Region.ready .any ops listed=rs) (hne:rs≠[]) (h:∀ i∈rs,∃ o,ops[i]?=some o∧L P ops (KV2 P ops Q S k (listed.setIfInBounds i true)) n C [o] fs):V2 P ops Q n S listed (k+1) C fs:=by
 intro a w hs hc hb
 refine ⟨fun h0=>absurd (hr ▸ h0) hne,fun i hi=>?_⟩
 rw [hr] at hi
 obtain ⟨o,ho,hl⟩:=h i hi
 exact wpOp_of_KG ho (hl a w hs hc)
theorem V2.eff {o:Oper} (hr:Region.ready .any ops listed=[i]) (hi:ops[i]?=some o) (h:L P ops (KV2 P ops Q S k (listed.setIfInBounds i true)) n C [o] fs):V2 P ops Q n S listed (k+1) C fs :=
 V2.effs hr (by nofun) fun j hj=>by rw [List.mem_singleton] at hj;subst hj;exact ⟨o,hi,h⟩
theorem V2.eff2 {i1 i2:Nat} {o1 o2:Oper} (hr:Region.ready .any ops listed=[i1,i2]) (h1:ops[i1]?=some o1) (h2:ops[i2]?=some o2) (k1:L P ops (KV2 P ops Q S k (listed.setIfInBounds i1 true)) n C [o1] fs) (k2:L P ops (KV2 P ops Q S k (listed.setIfInBounds i2 true)) n C [o2] fs) :
  V2 P ops Q n S listed (k+1) C fs :=
 V2.effs hr (by nofun) fun j hj=>by
  simp only [List.mem_cons,List.not_mem_nil,or_false] at hj
  rcases hj with rfl | rfl
  ·exact ⟨o1,h1,k1⟩
  ·exact ⟨o2,h2,k2⟩
theorem V2.eff3 {i1 i2 i3:Nat} {o1 o2 o3:Oper} (hr:Region.ready .any ops listed=[i1,i2,i3]) (h1:ops[i1]?=some o1) (h2:ops[i2]?=some o2) (h3:ops[i3]?=some o3) (k1:L P ops (KV2 P ops Q S k (listed.setIfInBounds i1 true)) n C [o1] fs) (k2:L P ops (KV2 P ops Q S k (listed.setIfInBounds i2 true)) n C [o2] fs) (k3:L P ops (KV2 P ops Q S k (listed.setIfInBounds i3 true)) n C [o3] fs) :
  V2 P ops Q n S listed (k+1) C fs :=
 V2.effs hr (by nofun) fun j hj=>by
  simp only [List.mem_cons,List.not_mem_nil,or_false] at hj
  rcases hj with rfl | rfl | rfl
  ·exact ⟨o1,h1,k1⟩
  ·exact ⟨o2,h2,k2⟩
  ·exact ⟨o3,h3,k3⟩
theorem E.toV2 {C':World→Prop} (S':Array Bool→World→Prop) (i:Nat) (hi:listed.getD i false=true) (hS:∀ (L:Array Bool) w,L.getD i false=true→S' L w→S L w) (hc:∀ w,C' w→S' listed w) (h:V2 P ops Q n S' listed k C' fs):E .normal (KV2 P ops Q S k listed) n C' fs :=
 fun a w hs hw=>⟨rfl,hS _ _ hi (hc w hw),F_imp hS k listed a w hi (h a w hs hw (hc w hw))⟩
theorem V2.done (hr:(Region.ready .any ops listed).isEmpty=true) (h:E .normal Q n C fs):V2 P ops Q n S listed k C fs:=by
 intro a w hs hc hb
 have hr':=List.isEmpty_iff.1 hr
 cases k with
 | zero=>exact ⟨hr',h a w hs hc⟩
 | succ k=>exact ⟨fun _=>h a w hs hc,by rw [hr'];simp⟩
theorem W.drawn2 {id:Nat} {l:List Oper} (S:Array Bool→World→Prop) (hk:l.length=k) (hm:P.follows .mixedOrders=true) (hdrew:∀ w,C w→C { w with drawn:=w.drawn+1 }) (hb:∀ w,C w→S (Array.replicate k false) w)
  (h:V2 P l.toArray Q n S (Array.replicate k false) k C fs):W P Q n C (.region id l.toArray true) fs:=by
 subst hk
 exact fun a w hs hc=>wp_region_noPanic (wp_region_any hm (wpAny_of_F _ _ _ _ (by simpa using h a _ hs (hdrew w hc) (hb _ (hdrew w hc)))))
end
section
variable {P:Program} {Q:Exit→Act→World→Prop} {n:Nat} {fs:Fr} {k:Nat}
theorem Zc.on' {r:List (List Nat)} {q:List (World→Prop)} {B D Z:World→Prop} {bs bz:List Nat} (h2:∀ (L:Array Bool) w,stOpen bz L=true→stC r q D L w→Z w) (h:∀ w,B w→Z w):∀ (L:Array Bool) w,stOpen bz L=true→stC (bs :: r) (B :: q) D L w→Z w:=Zc.on h h2
theorem V2.zz {ops:Array Oper} {S:Array Bool→World→Prop} {C Z:World→Prop} {listed:Array Bool} (bz:List Nat) (hz:∀ (L:Array Bool) w,stOpen bz L=true→S L w→Z w) (next:(∀ (L:Array Bool) w,stOpen bz L=true→S L w→Z w)→V2 P ops Q n S listed k C fs):V2 P ops Q n S listed k C fs:=next hz
end
end Go.S
end
section
namespace Go.S
set_option linter.unusedVariables false
set_option linter.unusedSimpArgs false
def gapp (vs vs2:Nat→List Value) (n:Nat):Nat→List Value:=fun q=>if q < n then vs q else vs2 (q - n)
theorem gapp_0 (vs vs2:Nat→List Value):gapp vs vs2 0=vs2:=by funext q;simp [gapp]
theorem gapp_s (vs vs2:Nat→List Value) (n:Nat):gapp vs vs2 (n+1) 0=vs 0:=by simp [gapp]
theorem gapp_ss (vs vs2:Nat→List Value) (n:Nat):(fun i=>gapp vs vs2 (n+1) (i+1))=gapp (fun i=>vs (i+1)) vs2 n:=by
 funext i
 simp only [gapp]
 by_cases h:i < n
 ·rw [if_pos (by omega),if_pos h]
 ·rw [if_neg (by omega),if_neg h,show i+1 - (n+1)=i - n by omega]
theorem zr_app {α:Type} (row:α→List Value→List Value):∀ (vs vs2:Nat→List Value) (l l2:List α),zr row (gapp vs vs2 l.length) (l++l2)=zr row vs l++zr row vs2 l2
 | vs,vs2,[],l2=>by simp [gapp_0,zr]
 | vs,vs2,x :: l,l2=>by
  rw [List.cons_append,List.length_cons,zr,gapp_s,gapp_ss,zr_app row _ vs2 l l2]
  rfl
theorem zs_app {α:Type} (sds:α→List Value→List Sd):∀ (vs vs2:Nat→List Value) (l l2:List α),zs sds (gapp vs vs2 l.length) (l++l2)=zs sds vs l++zs sds vs2 l2
 | vs,vs2,[],l2=>by simp [gapp_0,zs]
 | vs,vs2,x :: l,l2=>by
  rw [List.cons_append,List.length_cons,zs,gapp_s,gapp_ss,zs_app sds _ vs2 l l2,← List.append_assoc]
  rfl
section
variable {P:Program} {Q:Exit→Act→World→Prop} {n:Nat} {C:World→Prop} {fs:Fr} {t:TypeId} {ops:Array Oper} {rest:List Oper} {d:Nat} {pos:String} {af:Array Edge}
variable {w0 w:World} {own:List Nat} {m:List As} {x y:Operand} {e te tx ty:TypeId} {i j k kk by' p q s c jj:Nat} {v u V:Value} {o:Nat}
variable {α ρ:Type} {r:ρ} {row:α→List Value→List Value} {sds:α→List Value→List Sd} {vs vs2:Nat→List Value} {l l2:List α} {a:Int} {u0 u1:α} {f:List α→Option ρ}
theorem L.makeZ {z0:α} {ql:List α} {ik ik':IntKind} {nv:List Value} (hq:mk a z0=some ql) (hd:Nat.blt d n=true) (hu:P.underlying tx=some (.slice e)) (he:elemB P e k by'=true) (hz:zeroB P e=some (row z0 nv)) (hx:val fs x=some (.int ik a)) (hy:val fs y=some (.int ik' a)) (hb:Nat.ble by' 1000000=true)
  (hn:∀ d∈sds z0 nv,d.v=.slice none 0 0∧d.rows=[]) (next:∀ b,L P ops Q n (Cls w0 own (.sl (sv b a.toNat) e k (zr row (fun _=>nv) ql) :: .ss (zs sds (fun _=>nv) ql) :: m)) rest ((d,sv b a.toNat) :: fs)) :
  L P ops Q n (Cls w0 own m) (⟨some d,.makeSlice tx x y,t,pos,af,none⟩ :: rest) fs:=by
 refine L.makeE (row:=fun z=>row z nv) hq hd hu he hz hx hy hb fun b=>?_
 obtain ⟨h0,h1,rfl⟩:=mk_some hq
 refine L.to (fun w hw=>?_) (next b)
 rw [List.map_replicate] at hw
 rw [zr_repl]
 exact (hw.ssNew (zs_repl hn _)).perm (List.Perm.swap ..)
theorem Cls.nilZ (h:Cls w0 own m w) (e:TypeId) (k:Nat) (row:α→List Value→List Value) (sds:α→List Value→List Sd) (vs:Nat→List Value):Cls w0 own (.sl (.slice none 0 0) e k (zr row vs []) :: .ss (zs sds vs []) :: m) w :=
 ((h.ssNew (l:=zs sds vs []) (by intro d hd;simp [zs] at hd))).nilSl e k
theorem L.nilZ {ll:List Oper} (e:TypeId) (k:Nat) (row:α→List Value→List Value) (sds:α→List Value→List Sd) (vs:Nat→List Value) (h:L P ops Q n (Cls w0 own (.sl (.slice none 0 0) e k (zr row vs []) :: .ss (zs sds vs []) :: m)) ll fs):L P ops Q n (Cls w0 own m) ll fs:=fun a w hs hw=>h a w hs (hw.nilZ e k row sds vs)
theorem W.nilZ {cc:Code} (e:TypeId) (k:Nat) (row:α→List Value→List Value) (sds:α→List Value→List Sd) (vs:Nat→List Value) (h:W P Q n (Cls w0 own (.sl (.slice none 0 0) e k (zr row vs []) :: .ss (zs sds vs []) :: m)) cc fs):W P Q n (Cls w0 own m) cc fs:=fun a w hs hw=>h a w hs (hw.nilZ e k row sds vs)
theorem E.nilZ {ex:Exit} (e:TypeId) (k:Nat) (row:α→List Value→List Value) (sds:α→List Value→List Sd) (vs:Nat→List Value) (h:E ex Q n (Cls w0 own (.sl (.slice none 0 0) e k (zr row vs []) :: .ss (zs sds vs []) :: m)) fs):E ex Q n (Cls w0 own m) fs:=fun a w hs hw=>h a w hs (hw.nilZ e k row sds vs)
theorem set_self {β:Type} {m:List β} {i:Nat} {x:β} (h:m[i]?=some x):m.set i x=m:=by
 obtain ⟨h1,h2⟩:=List.getElem?_eq_some_iff.1 h
 rw [← h2,List.set_getElem_self]
theorem zs_lt (hc:∀ z v,(sds z v).length=c) (hr:idx l a=some u0) (hjj:jj < c):a.toNat*c+jj < (zs sds vs l).length:=by
 have h3:=zs_get hc vs l a.toNat jj u0 (idx_some hr).2.2 hjj
 rw [List.getElem?_eq_getElem (l:=sds u0 (vs a.toNat)) (by rw [hc];exact hjj)] at h3
 exact (List.getElem?_eq_some_iff.1 h3).1
theorem Cls.zsPut (hw:Cls w0 own m w) {e':TypeId} {k':Nat} {rows:List (List Value)} {L0:List Sd} {v1:List Value} (hp:m[p]?=some (.sl v e' k' rows)) (hms:m[s]?=some (.ss L0)) (hL:L0=zs sds vs l∨L0=(zs sds vs l).set (a.toNat*c+jj) (Sd.nil 0 0))
  (hc:∀ z v,(sds z v).length=c) (hr:idx l a=some u0) (hjj:jj < c) (hsd:sds u1 v1=(sds u0 (vs a.toNat)).set jj ⟨v,e',k',rows⟩):Cls w0 own ((m.set s (.ss (zs sds (gset vs a.toNat v1) (l.set a.toNat u1)))).eraseIdx p) w:=by
 have hi:=idx_some hr
 have hps:p≠s:=by rintro rfl;rw [hp] at hms;cases hms
 have hzs:=zs_set hc vs l a.toNat jj u0 u1 v1 _ hi.2.2 hjj hsd
 have hlt:=zs_lt (vs:=vs) hc hr hjj
 rw [hzs]
 rcases hL with rfl | rfl
 ·have h3:∃ d,(zs sds vs l)[a.toNat*c+jj]?=some d:=⟨_,List.getElem?_eq_getElem hlt⟩
  obtain ⟨d0,h3⟩:=h3
  have h4:=foot_set_sub h3 (nilfoot 0 0)
  have h5:=hw.ssLess hms (l':=(zs sds vs l).set (a.toNat*c+jj) (Sd.nil 0 0)) (fun b hb=>h4.mem_iff.1 (List.mem_append_right _ hb)) (fun hnd=>(List.nodup_append.1 (h4.nodup_iff.2 hnd)).2.1) (fun hh d hd=>by
   rcases List.mem_or_eq_of_mem_set hd with h6 | rfl
   ·exact hh d h6
   ·exact slHolds_nil w 0 0)
  have h6:=h5.ssIn (p:=p) (s:=s) (i:=a.toNat*c+jj) (e':=0) (k':=0) (by rw [List.getElem?_set_ne (Ne.symm hps)];exact hp) (by rw [List.getElem?_set_self ((List.getElem?_eq_some_iff.1 hms).1)]) hps hlt
  rwa [List.set_set] at h6
 ·exact hw.ssIn hp hms hps hlt
theorem L.storeSlZS (h:bind1 (upd l a u1) f=some r) (hs:szB P te 1=true) (hx:val fs x=some (el V o)) (ho:o=a.toNat*k+j) (hy:val fs y=some v) {e':TypeId} {k':Nat} {rows:List (List Value)} {L0:List Sd} {v1:List Value}
  (hm:m[q]?=some (.sl V e k (zr row vs l))) (hp:m[p]?=some (.sl v e' k' rows)) (hms:m[s]?=some (.ss L0)) (hL:L0=zs sds vs l∨L0=(zs sds vs l).set (a.toNat*c+jj) (Sd.nil 0 0)) (hlen:∀ z v,(row z v).length=k) (hc:∀ z v,(sds z v).length=c) (hr:idx l a=some u0) (hj:Nat.ble (j+1) k=true)
  (hrow:over (row u0 (vs a.toNat)) j [v]=row u1 v1) (hjj:Nat.blt jj c=true) (hsd:sds u1 v1=(sds u0 (vs a.toNat)).set jj ⟨v,e',k',rows⟩) (hqp:q≠p)
  (next:∀ z vs',z=l.set a.toNat u1→f z=some r→L P ops Q n (Cls w0 own (((m.set q (.sl V e k (zr row vs' z))).set s (.ss (zs sds vs' z))).eraseIdx p)) rest fs) :
  L P ops Q n (Cls w0 own m) (⟨none,.store te x y,t,pos,af,none⟩ :: rest) fs:=by
 have hi:=idx_some hr
 have hj':j+1≤k:=by simpa using hj
 have hjj':jj < c:=by simpa [Nat.blt_eq] using hjj
 intro ac w hs' hw
 have h1:=(As.at_ (hw.get hp)).one
 refine L.storeSlN (j:=j) hs hx ho hy (cells_one h1) rfl (by simpa using h1) hm (zr_get row vs l _ _ hi.2.2) hj' ?_ ac w hs' hw
 rw [hrow,← zr_set row vs l a.toNat u1 v1 (by omega)]
 refine L.to (fun w hw=>?_) (next _ (gset vs a.toNat v1) rfl (upd_bind h rfl))
 have hqs:q≠s:=by rintro rfl;rw [hm] at hms;cases hms
 exact hw.zsPut (by rw [List.getElem?_set_ne hqp];exact hp) (by rw [List.getElem?_set_ne hqs];exact hms) hL hc hr hjj' hsd
theorem zr_same (hr:idx l a=some u0) (hrow:row u1 (vs a.toNat)=row u0 (vs a.toNat)):zr row vs (l.set a.toNat u1)=zr row vs l:=by
 have hi:=idx_some hr
 have h1:=zr_set row vs l a.toNat u1 (vs a.toNat) (by omega)
 rw [gset_same] at h1
 rw [h1,hrow,set_self (zr_get row vs l _ _ hi.2.2)]
theorem L.ssBack {ll:List Oper} {e':TypeId} {k':Nat} {rows:List (List Value)} (F:List (List Value)→As) (h:bind1 (upd l a u1) f=some r) (hp:m[p]?=some (.sl v e' k' rows)) (hms:m[s]?=some (.ss ((zs sds vs l).set (a.toNat*c+jj) (Sd.nil 0 0)))) (hm:m[q]?=some (F (zr row vs l)))
  (hc:∀ z v,(sds z v).length=c) (hr:idx l a=some u0) (hrow:row u1 (vs a.toNat)=row u0 (vs a.toNat)) (hjj:Nat.blt jj c=true) (hsd:sds u1 (vs a.toNat)=(sds u0 (vs a.toNat)).set jj ⟨v,e',k',rows⟩)
  (next:∀ z,z=l.set a.toNat u1→f z=some r→L P ops Q n (Cls w0 own (((m.set q (F (zr row vs z))).set s (.ss (zs sds vs z))).eraseIdx p)) ll fs):L P ops Q n (Cls w0 own m) ll fs:=by
 have hjj':jj < c:=by simpa [Nat.blt_eq] using hjj
 refine L.to (fun w hw=>?_) (next _ rfl (upd_bind h rfl))
 rw [zr_same hr hrow,set_self hm]
 have:=hw.zsPut (vs:=vs) (l:=l) (a:=a) (u0:=u0) (u1:=u1) (v1:=vs a.toNat) hp hms (.inr rfl) hc hr hjj' hsd
 rwa [gset_same] at this
theorem Cls.ss0 (h:Cls w0 own m w):Cls w0 own (.ss [] :: m) w:=h.ssNew (by simp)
theorem Cls.ssCons {ll:List Sd} {rows:List (List Value)} (h:Cls w0 own (.sl v e k rows :: .ss ll :: m) w):Cls w0 own (.ss (⟨v,e,k,rows⟩ :: ll) :: m) w:=by
 refine h.rePerm ?_ fun z hz=>?_
 ·simp only [List.flatMap_cons]
  show ((Sd.foot ⟨v,e,k,rows⟩++ll.flatMap Sd.foot)++_).Perm _
  rw [List.append_assoc]
  exact List.Perm.refl _
 ·rcases List.mem_cons.1 hz with rfl | hz
  ·intro dd hd
   rcases List.mem_cons.1 hd with rfl | hd
   ·exact (h.mine (.sl v e k rows) (by simp)).1
   ·exact (h.mine (.ss ll) (by simp)).1 dd hd
  ·exact (h.mine z (by simp [hz])).1
theorem Cls.ssApp {X:As} {A B:List Sd} (h:Cls w0 own (X :: .ss A :: .ss B :: m) w):Cls w0 own (X :: .ss (A++B) :: m) w:=by
 refine h.rePerm ?_ fun z hz=>?_
 ·simp only [List.flatMap_cons,As.foot,List.flatMap_append,List.append_assoc]
  exact List.Perm.refl _
 ·rcases List.mem_cons.1 hz with rfl | hz
  ·exact (h.mine z (by simp)).1
  ·rcases List.mem_cons.1 hz with rfl | hz
   ·intro dd hd
    rcases List.mem_append.1 hd with hd | hd
    ·exact (h.mine (.ss A) (by simp)).1 dd hd
    ·exact (h.mine (.ss B) (by simp)).1 dd hd
   ·exact (h.mine z (by simp [hz])).1
theorem L.ss0 {ll:List Oper} (h:L P ops Q n (Cls w0 own (.ss [] :: m)) ll fs):L P ops Q n (Cls w0 own m) ll fs:=L.to (fun _ hw=>hw.ss0) h
theorem L.ssCons {ll:List Oper} {ls:List Sd} {rows:List (List Value)} (h:L P ops Q n (Cls w0 own (.ss (⟨v,e,k,rows⟩ :: ls) :: m)) ll fs):L P ops Q n (Cls w0 own (.sl v e k rows :: .ss ls :: m)) ll fs:=L.to (fun _ hw=>hw.ssCons) h
theorem L.appZ (h:bind1 (app l l2) f=some r) (hd:Nat.blt d n=true) (hu:P.underlying tx=some (.slice e)) (he:elemB P e k by'=true) (hx:val fs x=some v) (hy:val fs y=some u) (hb:Nat.ble by' 56=true)
  (hpl:∀ w,Cls w0 own (.sl v e k (zr row vs l) :: .ss (zs sds vs l) :: .sl u e k (zr row vs2 l2) :: .ss (zs sds vs2 l2) :: m) w→Plain (zr row vs2 l2))
  (next:∀ v' vs' z,app l l2=some z→f z=some r→L P ops Q n (Cls w0 own (.sl v' e k (zr row vs' z) :: .ss (zs sds vs' z) :: m)) rest ((d,v') :: fs)) :
  L P ops Q n (Cls w0 own (.sl v e k (zr row vs l) :: .ss (zs sds vs l) :: .sl u e k (zr row vs2 l2) :: .ss (zs sds vs2 l2) :: m)) (⟨some d,.call ⟨.builtin .append,#[x,y],#[tx,tx]⟩,t,pos,af,none⟩ :: rest) fs:=by
 obtain ⟨z,hz,h⟩:=bind1S h
 obtain ⟨rfl,hl⟩:=app_some hz
 have hb':by'≤56:=by simpa using hb
 intro ac w hs hw
 refine L.append (i:=0) hd hu he hx hy rfl (fun w hw=>As.at_ (hw.get (i:=2) rfl)) (hpl w hw) (by rw [zr_length,zr_length];unfold maxLen;omega) ?_ (fun v'=>?_) ac w hs hw
 ·rw [zr_length,zr_length]
  calc (l.length+l2.length)*by'≤2513169434916*56:=Nat.mul_le_mul hl hb'
   _≤_:=by decide
 ·rw [← zr_app]
  refine L.to (fun w hw=>?_) (next v' (gapp vs vs2 l.length) _ hz h)
  rw [zs_app]
  refine Cls.ssApp (Cls.sublist hw ?_)
  simp only [List.eraseIdx_cons_zero]
  exact ((List.Sublist.cons _ (List.Sublist.refl _)).cons_cons _).cons_cons _
def rng (n:Nat) (a:Int):Option Unit:=if 0≤a∧a < n then some () else none
theorem rng_some {nn:Nat} {a:Int} {z:Unit} (h:rng nn a=some z):0≤a∧a < nn:=by
 unfold rng at h
 split at h
 ·assumption
 ·cases h
def idx2 {α:Type} (n:Nat) (l:List α) (a b:Int):Option α:=if 0≤a∧0≤b∧b < n then idx l (a*n+b) else none
theorem idx2_some {nn:Nat} {a b:Int} {z:α} (h:idx2 nn l a b=some z):0≤a∧0≤b∧b < nn∧idx l (a*nn+b)=some z:=by
 unfold idx2 at h
 split at h
 ·rename_i hc;exact ⟨hc.1,hc.2.1,hc.2.2,h⟩
 ·cases h
theorem idx2_idx {nn:Nat} {a b:Int} {z:α} (h:idx2 nn l a b=some z):idx l (a*nn+b)=some z:=(idx2_some h).2.2.2
theorem Y.indexR {len b:Nat} {ik:IntKind} (hu:P.underlying tx=some (.array len e)) (hsz:szB P e k=true) (hx:val fs x=some (pt b 0)) (hy:val fs y=some (.int ik a)) (z:Unit) (hr:rng len a=some z) :
  Y P (.indexAddr tx x y) t n fs C (pt b (0+a.toNat*k)):=Y.indexP hu hsz hx hy (rng_some hr).1 (rng_some hr).2
theorem Y.index2 {len b:Nat} {ik:IntKind} {a1:Int} (hu:P.underlying tx=some (.array len e)) (hsz:szB P e 1=true) (hx:val fs x=some (pt b (0+a.toNat*len))) (hy:val fs y=some (.int ik a1)) (z:α) (hr:idx2 len l a a1=some z) :
  Y P (.indexAddr tx x y) t n fs C (pt b (0+(a*(len:Nat)+a1).toNat*1)):=by
 obtain ⟨h0,h1,h2,_⟩:=idx2_some hr
 have he:(a*(len:Nat)+a1).toNat=a.toNat*len+a1.toNat:=by
  obtain ⟨a',rfl⟩:=Int.eq_ofNat_of_zero_le h0
  obtain ⟨b',rfl⟩:=Int.eq_ofNat_of_zero_le h1
  have:((a':Int)*(len:Nat)+(b':Int))=((a'*len+b':Nat):Int):=by simp
  rw [this,Int.toNat_natCast,Int.toNat_natCast,Int.toNat_natCast]
 rw [he,Nat.mul_one,← Nat.add_assoc,← Nat.mul_one a1.toNat]
 exact Y.indexP hu hsz hx hy h1 h2
end
end Go.S
end
section
namespace Go.S
set_option linter.unusedVariables false
set_option linter.unusedSimpArgs false
section
variable {P:Program} {Q:Exit→Act→World→Prop} {n:Nat} {C:World→Prop} {fs:Fr} {t:TypeId} {ops:Array Oper} {rest:List Oper} {d:Nat} {pos:String} {af:Array Edge}
variable {w0 w:World} {own:List Nat} {m:List As} {x y:Operand} {e te tx ty:TypeId} {i j k kk by' q s c g cap N a b:Nat} {v u V:Value} {rows more news:List (List Value)}
theorem over_take:∀ (us c:List Value) (z a:Nat),a+us.length≤z→(over c a us).take z=over (c.take z) a us
 | [],_,_,_,_=>rfl
 | p :: us,c,z,a,h=>by simp only [List.length_cons] at h;rw [over,over,over_take us _ _ _ (by omega),List.take_set]
theorem Cls.setRows (hw:Cls w0 own m w) (hm:m[i]?=some (.sl (.slice (some ⟨g,0,none⟩) N cap) e k rows)) (ha:a+news.length≤rows.length) (hn:∀ r∈news,r.length=k) (hp:Plain news) :
  ∃ w',(storeCells ⟨g,a*k,none⟩ news.flatten 0).run P w=.ok () w'∧Cls w0 own (m.set i (.sl (.slice (some ⟨g,0,none⟩) N cap) e k (rows.take a++news++rows.drop (a+news.length)))) w':=by
 obtain ⟨hrl,hl,hown⟩:=hw.get hm
 rcases hown with ⟨h0,_⟩ | ⟨g',cap',cur,hv,hg,hh,hnc,hcm,hcs,htake⟩
 ·cases h0
 ·cases hv
  have hfl:news.flatten.length=news.length*k:=flat_len _ hn
  have hcl:cur.toList.length=cap*k:=by simp [hcs]
  have hh':w.heap[g]?=some (.cells cur.toList.toArray e (0,0)):=by simpa using hh
  have hmul:(a+news.length)*k≤rows.length*k:=Nat.mul_le_mul_right k ha
  have hmulc:rows.length*k≤cap*k:=Nat.mul_le_mul_right k hnc
  rw [Nat.add_mul] at hmul
  obtain ⟨w',h2,h3,h4⟩:=run_storeCells (P:=P) g e (a*k) news.flatten 0 cur.toList w hh' (by omega) (by
   intro u hu
   obtain ⟨r,hr,hur⟩:=List.mem_flatten.1 hu
   exact hp r hr u hur)
  refine ⟨w',h2,?_⟩
  have hrl2:∀ r∈rows.take a++news++rows.drop (a+news.length),r.length=k:=by
   intro r hr
   rcases List.mem_append.1 hr with h | h
   ·rcases List.mem_append.1 h with h | h
    ·exact hrl r (List.mem_of_mem_take h)
    ·exact hn r h
   ·exact hrl r (List.mem_of_mem_drop h)
  have hlen2:(rows.take a++news++rows.drop (a+news.length)).length=rows.length:=by
   simp only [List.length_append,List.length_take,List.length_drop];omega
  refine hw.turn hm rfl h4.os h4.tape h4.output h4.size (Nat.le_of_eq h4.drawn.symm) (fun p hp=>h4.rest p (by simpa [As.foot,Value.ownBlock] using hp)) ⟨hrl2,?_,.inr ⟨g,cap,(over cur.toList (a*k+0) news.flatten).toArray,by rw [hlen2],hg,h3,by rw [hlen2];exact hnc,hcm,by simp [over_length,hcs],?_⟩⟩
  ·rw [flat_len _ hrl2]
  ·rw [hlen2,Nat.add_zero,over_take _ _ _ _ (by omega),htake]
   have e1:rows.flatten=(rows.take a).flatten++((rows.drop a).take news.length).flatten++(rows.drop (a+news.length)).flatten:=by
    rw [← List.flatten_append,← List.flatten_append,List.append_assoc,← List.drop_drop,List.take_append_drop,List.take_append_drop]
   have e2:(rows.take a).flatten.length=a*k:=by rw [flat_len _ (fun r hr=>hrl r (List.mem_of_mem_take hr)),List.length_take,Nat.min_eq_left (by omega)]
   have e3:=over_pre news.flatten ((rows.drop a).take news.length).flatten (rows.take a).flatten (rows.drop (a+news.length)).flatten (by
    rw [hfl,flat_len _ (fun r hr=>hrl r (List.mem_of_mem_drop (List.mem_of_mem_take hr))),List.length_take,List.length_drop,Nat.min_eq_left (by omega)])
   rw [e2] at e3
   rw [e1,e3,List.flatten_append,List.flatten_append]
theorem run_first {w:World} {c:Nat} (hA:At w u k more) (hk:0 < k) (hc:c≤more.length):(Builtin.firstCells k c u).run P w=.ok (more.take c).flatten.toArray w:=by
 rcases hA.shape with ⟨rfl,rfl⟩ | ⟨ad,cp,rfl,_,_⟩
 ·have:c=0:=by simpa using hc
  subst this
  simp [Builtin.firstCells]
 ·have hT:=hA.take c hc
  have hfl:=hT.flat_cell hk
  have:=run_loadCells_list (P:=P) w ad (more.take c).flatten (by simpa [cutv,adr] using hfl)
  have hfn:(more.take c).flatten.length=c*k:=by
   rw [flat_len _ (fun r hr=>hA.len r (List.mem_of_mem_take hr)),List.length_take,Nat.min_eq_left hc]
  rw [hfn] at this
  simp [Builtin.firstCells,this]
theorem run_lenOf {w:World} (hA:At w u k more):(Builtin.lenOf u).run P w=.ok more.length w:=by
 rcases hA.shape with ⟨rfl,rfl⟩ | ⟨ad,c,rfl,_,_⟩ <;> simp [Builtin.lenOf]
theorem run_copyAt {sT:TypeId} (hu:P.underlying tx=some (.slice e)) (he:elemB P e k by'=true) (hx:val fs x=some (sliced (some ⟨g,0,none⟩) a N cap k)) (hy:val fs y=some u) (hm:m[i]?=some (.sl (.slice (some ⟨g,0,none⟩) N cap) e k rows)) (hA:∀ w,Cls w0 own m w→At w u k more)
  (ha:a < cap) (haN:a≤N) (hc:q=min more.length (N - a)) (hp:Plain (more.take q)) (o:Option Tmp) (ac:Act) (w:World) (hs:Slots n fs ac) (hw:Cls w0 own m w) :
  ∃ v' w',(execOp ac.eval ⟨o,.call ⟨.builtin .copy,#[x,y],#[tx,sT]⟩,t,pos,af,none⟩).run P w=.ok (.value v') w'∧Cls w0 own (m.set i (.sl (.slice (some ⟨g,0,none⟩) N cap) e k (rows.take a++more.take q++rows.drop (a+q)))) w':=by
 obtain ⟨inf,z,hi,hz',hsz,hby,hzs,hk⟩:=elemB_out he
 have hB:=hA w hw
 have hN:N=rows.length:=by
  rcases (As.at_ (hw.get hm)).shape with ⟨h,_⟩ | ⟨_,_,h,_,_⟩
  ·cases h
  ·simp only [Value.slice.injEq] at h;exact h.2.1
 have hq:q≤more.length:=by omega
 have hql:(more.take q).length=q:=by rw [List.length_take];omega
 obtain ⟨w',h2,h3⟩:=hw.setRows (P:=P) (a:=a) (news:=more.take q) hm (by omega) (fun r hr=>hB.len r (List.mem_of_mem_take hr)) hp
 rw [hql] at h3
 refine ⟨goInt (q:Int),w',?_,h3⟩
 have hso:∀ w,(sizeOf e).run P w=.ok k w:=fun w=>run_sizeOf (by simp [szB,hi,hsz]) w
 have hf:=run_first (P:=P) hB hk hq
 have hsl:sliced (some ⟨g,0,none⟩) a N cap k=.slice (some ⟨g,a*k,none⟩) (N - a) (cap - a):=by
  unfold sliced
  rw [if_neg (by omega)]
  simp [Addr.add_lit]
 simp only [execOp,resolve,List.map_toArray,List.map_cons,List.map_nil,hs.eval hx,hs.eval hy,hsl]
 have hl0:∀ w,(Builtin.lenOf (.slice (some ⟨g,a*k,none⟩) (N - a) (cap - a))).run P w=.ok (N - a) w:=fun w=>by simp [Builtin.lenOf]
 have hmin:more.length.min (N - a)=q:=by show min more.length (N - a)=q;omega
 simp [invoke,builtin,Builtin.copy_,run_underlying hu,hso,hl0,run_lenOf hB,hmin,hf,h2]
theorem L.copyAt {sT:TypeId} (hd:Nat.blt d n=true) (hu:P.underlying tx=some (.slice e)) (he:elemB P e k by'=true) (hx:val fs x=some (sliced (some ⟨g,0,none⟩) a N cap k)) (hy:val fs y=some u) (hm:m[i]?=some (.sl (.slice (some ⟨g,0,none⟩) N cap) e k rows)) (hA:∀ w,Cls w0 own m w→At w u k more)
  (ha:a < cap) (haN:a≤N) (hc:q=min more.length (N - a)) (hp:Plain (more.take q)) (next:∀ v',L P ops Q n (Cls w0 own (m.set i (.sl (.slice (some ⟨g,0,none⟩) N cap) e k (rows.take a++more.take q++rows.drop (a+q))))) rest ((d,v') :: fs)) :
  L P ops Q n (Cls w0 own m) (⟨some d,.call ⟨.builtin .copy,#[x,y],#[tx,sT]⟩,t,pos,af,none⟩ :: rest) fs :=
 L.runs (R:=fun _ w'=>Cls w0 own (m.set i (.sl (.slice (some ⟨g,0,none⟩) N cap) e k (rows.take a++more.take q++rows.drop (a+q)))) w') hd (fun ac w hs hw=>run_copyAt hu he hx hy hm hA ha haN hc hp (some d) ac w hs hw) next
theorem perm_head:∀ (l:List As) (j:Nat) (h:j < l.length),l.Perm (l[j] :: l.eraseIdx j)
 | [],j,h=>by simp at h
 | q :: l,0,h=>List.Perm.refl _
 | q :: l,j+1,h=>by
  simp only [List.getElem_cons_succ,List.eraseIdx_cons_succ]
  exact ((perm_head l j (by simpa using h)).cons q).trans (.swap _ _ _)
theorem eraseIdx_set_self {α:Type}:∀ (l:List α) (j:Nat) (x:α),(l.set j x).eraseIdx j=l.eraseIdx j
 | [],_,_=>rfl
 | _ :: _,0,_=>rfl
 | q :: l,j+1,x=>by simp [eraseIdx_set_self l j x]
abbrev rv (g N cap:Nat):Value:=.slice (some ⟨g,0,none⟩) N cap
theorem sliced_drop {lo:Nat} (h:lo≤N) (h2:N≤cap):sliced (some ⟨g,0,none⟩) lo N cap k=dropv (rv g N cap) lo k:=by
 unfold sliced dropv
 by_cases c:cap=lo
 ·subst c;simp
 ·simp [c,show ¬ cap - lo=0 by omega]
theorem sliced_zero {hi:Nat}:sliced (some ⟨g,0,none⟩) 0 hi cap k=rv g hi cap:=by
 unfold sliced
 by_cases c:cap=0 <;> simp [c,Addr.add_lit]
theorem Y.capC (hu:P.underlying tx=some (.slice e)) (hx:val fs x=some (rv g N cap)):Y P (.call ⟨.builtin .cap,#[x],#[tx]⟩) t n fs C (.int .i64 cap) :=
 Y.of fun d pos af g s w hs hw=>by
  simp only [execOp,resolve,List.map_toArray,List.map_cons,List.map_nil,hs.eval hx]
  simp [invoke,builtin,run_cap_slice _ _ _ _ _ _ (elemOf_slice hu),goInt]
theorem Y.lenC {ad:Option Addr} (hu:P.underlying tx=some (.slice e)) (hx:val fs x=some (.slice ad N cap)):Y P (.call ⟨.builtin .len,#[x],#[tx]⟩) t n fs C (.int .i64 N) :=
 Y.of fun d pos af g s w hs hw=>by
  simp only [execOp,resolve,List.map_toArray,List.map_cons,List.map_nil,hs.eval hx]
  simp [invoke,builtin,Builtin.len_,run_underlying hu,goInt]
theorem Y.sliceHC {hi:Nat} {ik:IntKind} (hu:P.underlying tx=some (.slice e)) (hs:szB P e k=true) (hx:val fs x=some (rv g N cap)) (hy:val fs y=some (.int ik hi)) (h1:hi≤cap):Y P (.slice tx x none (some y) none) t n fs C (rv g hi cap) :=
 Y.of fun d pos af q s w hsl hw=>by
  have h:=run_slice_h (P:=P) w tx (some ⟨g,0,none⟩) N cap (elemOf_slice hu) ik hi (by omega) (by omega)
  rw [elem_slice hu,run_sizeOf hs] at h
  simp only [execOp,hsl.eval hx,hsl.eval hy,Option.map_some,Option.map_none]
  simp only [Result.andThen_ok,sliced_zero] at h
  simp [rv,run_sliceAt_slice w tx _ _ _ _ (elemOf_slice hu),h]
theorem Y.sliceLC {lo:Nat} {ik:IntKind} (hu:P.underlying tx=some (.slice e)) (hs:szB P e k=true) (hx:val fs x=some (rv g N cap)) (hy:val fs y=some (.int ik lo)) (h1:lo≤N):Y P (.slice tx x (some y) none none) t n fs C (sliced (some ⟨g,0,none⟩) lo N cap k) :=
 Y.of fun d pos af q s w hsl hw=>by
  have h:=run_slice_l (P:=P) w tx (some ⟨g,0,none⟩) N cap (elemOf_slice hu) ik lo (by omega) (by omega)
  rw [elem_slice hu,run_sizeOf hs] at h
  simp only [execOp,hsl.eval hx,hsl.eval hy,Option.map_some,Option.map_none]
  simp only [Result.andThen_ok] at h
  simp [rv,run_sliceAt_slice w tx _ _ _ _ (elemOf_slice hu),h]
theorem Cls.row (hw:Cls w0 own m w) (hm:m[i]?=some (.sl v e k rows)) (h0:rows≠[]):∃ g cap,v=rv g rows.length cap∧rows.length≤cap∧cap≤maxLen:=by
 obtain ⟨_,_,hown⟩:=hw.get hm
 rcases hown with ⟨_,h⟩ | ⟨g,cap,cur,hv,_,_,hnc,hcm,_,_⟩
 ·exact absurd (List.length_eq_zero_iff.1 h) h0
 ·exact ⟨g,cap,hv,hnc,hcm⟩
theorem chunks (k:Nat):∀ (cnt:Nat) (L:List Value),L.length=cnt*k→∃ ex:List (List Value),ex.length=cnt∧(∀ r∈ex,r.length=k)∧ex.flatten=L
 | 0,L,h=>⟨[],rfl,by simp,by
  have:L=[]:=List.eq_nil_of_length_eq_zero (by omega)
  simp [this]⟩
 | cnt+1,L,h=>by
  rw [Nat.succ_mul] at h
  obtain ⟨ex,h1,h2,h3⟩:=chunks k cnt (L.drop k) (by rw [List.length_drop];omega)
  refine ⟨L.take k :: ex,by simp [h1],fun r hr=>?_,by simp [h3]⟩
  rcases List.mem_cons.1 hr with rfl | hr
  ·rw [List.length_take];omega
  ·exact h2 r hr
theorem Cls.extend (hw:Cls w0 own m w) (hm:m[i]?=some (.sl (rv g N cap) e k rows)) {N':Nat} (h1:N≤N') (h2:N'≤cap):∃ ex:List (List Value),ex.length=N' - N∧Cls w0 own (m.set i (.sl (rv g N' cap) e k (rows++ex))) w:=by
 have hh0:=hw.get hm
 obtain ⟨hrl,hl,hown⟩:=hh0
 rcases hown with ⟨h,_⟩ | ⟨g',cap',cur,hv,hg,hh,hnc,hcm,hcs,htk⟩
 ·cases h
 ·have hN:N=rows.length:=by simp only [Value.slice.injEq] at hv;exact hv.2.1
  cases hv
  have hm1:N'*k≤cap*k:=Nat.mul_le_mul_right k h2
  have hm2:N'*k=rows.length*k+(N' - rows.length)*k:=by rw [← Nat.add_mul];congr 1;omega
  have hcl:cur.toList.length=cap*k:=by simpa using hcs
  obtain ⟨ex,e1,e2,e3⟩:=chunks k (N' - rows.length) ((cur.toList.drop (rows.length*k)).take ((N' - rows.length)*k)) (by
   rw [List.length_take,List.length_drop,hcl];omega)
  refine ⟨ex,by rw [e1],?_⟩
  have hlen:(rows++ex).length=N':=by rw [List.length_append,e1];omega
  have hrl2:∀ r∈rows++ex,r.length=k:=fun r hr=>(List.mem_append.1 hr).elim (hrl r) (e2 r)
  refine hw.turn hm rfl rfl rfl rfl rfl (Nat.le_refl _) (fun _ _=>rfl) ⟨hrl2,by rw [flat_len _ hrl2],.inr ⟨g,cap,cur,by rw [hlen],hg,hh,by rw [hlen];exact h2,hcm,hcs,?_⟩⟩
  rw [hlen,List.flatten_append,e3,← htk,hm2,List.take_add]
theorem Cls.shrink (hw:Cls w0 own m w) (hm:m[i]?=some (.sl (rv g N cap) e k rows)) {N':Nat} (h1:N'≤rows.length):Cls w0 own (m.set i (.sl (rv g N' cap) e k (rows.take N'))) w:=by
 have hh0:=hw.get hm
 obtain ⟨hrl,hl,hown⟩:=hh0
 rcases hown with ⟨h,_⟩ | ⟨g',cap',cur,hv,hg,hh,hnc,hcm,hcs,htk⟩
 ·cases h
 ·cases hv
  have hrl2:∀ r∈rows.take N',r.length=k:=fun r hr=>hrl r (List.mem_of_mem_take hr)
  have hlen:(rows.take N').length=N':=by rw [List.length_take];omega
  have hmm:N'*k≤rows.length*k:=Nat.mul_le_mul_right k h1
  refine hw.turn hm rfl rfl rfl rfl rfl (Nat.le_refl _) (fun _ _=>rfl) ⟨hrl2,by rw [flat_len _ hrl2],.inr ⟨g,cap,cur,by rw [hlen],hg,hh,by rw [hlen];omega,hcm,hcs,?_⟩⟩
  have e1:rows.flatten=(rows.take N').flatten++(rows.drop N').flatten:=by rw [← List.flatten_append,List.take_append_drop]
  have e2:(rows.take N').flatten.length=N'*k:=by rw [flat_len _ hrl2,hlen]
  have e3:(cur.toList.take (rows.length*k)).take (N'*k)=rows.flatten.take (N'*k):=by rw [htk]
  rw [List.take_take,Nat.min_eq_left hmm,e1,List.take_left' e2] at e3
  rw [hlen,e3]
theorem Cls.zrow (hw:Cls w0 own m w) {inf:TypeInfo} {z:Value} {zc:List Value} {cnt G:Nat} (hzs:z.cells.size=k) (hzc:z.cells.toList=zc) (hk:0 < k) (hr:∀ r∈rows,r.length=k) (hG:rows.length+cnt≤G) (hGm:G≤maxLen) :
  Cls w0 own (.sl (rv w.heap.size (rows.length+cnt) G) e k (rows++List.replicate cnt zc) :: m) (w.drew.alloc (.cells (rows.flatten.toArray++Builtin.zeroCells z.cells cnt++Builtin.zeroCells z.cells (G - (rows.length+cnt))) e)):=by
 have hwd:Cls w0 own m w.drew:=hw.drew
 have h1:=hwd.alloc (rows.flatten.toArray++Builtin.zeroCells z.cells cnt++Builtin.zeroCells z.cells (G - (rows.length+cnt))).toList e
 simp only [Array.toArray_toList] at h1
 have hz:∀ q,(Builtin.zeroCells z.cells q).toList=(List.replicate q zc).flatten:=by
  intro q
  have hrows:=madeRows z.cells q k hzs hk
  unfold Builtin.zeroCells
  rw [hzs] at hrows ⊢
  rw [hzc] at hrows
  exact hrows
 have hzl:zc.length=k:=by rw [← hzc];simpa using hzs
 have hrep:∀ r∈rows++List.replicate cnt zc,r.length=k:=by
  intro r hr'
  rcases List.mem_append.1 hr' with h | h
  ·exact hr r h
  ·rw [List.mem_replicate] at h;rw [h.2,hzl]
 have hll:(rows++List.replicate cnt zc).length=rows.length+cnt:=by simp
 have hzsz:∀ q,(Builtin.zeroCells z.cells q).size=q*k:=fun q=>by rw [size_zeroCells,hzs]
 have hfl:rows.flatten.length=rows.length*k:=flat_len _ hr
 refine ⟨h1.os,h1.tape,h1.output,h1.dr,h1.size,h1.old,h1.nodup,fun q hq=>?_⟩
 rcases List.mem_cons.1 hq with rfl | hq
 ·have hmine:=h1.mine _ (List.mem_cons_self)
  refine ⟨⟨hrep,by rw [flat_len _ hrep],.inr ⟨w.heap.size,G,_,by rw [hll],Nat.zero_le _,by have:=hmine.1;simpa [As.holds] using this,by rw [hll];exact hG,hGm,?_,?_⟩⟩,fun b hb=>hmine.2 b hb⟩
  ·have h2:rows.length*k+cnt*k+(G - (rows.length+cnt))*k=G*k:=by
    rw [← Nat.add_mul,← Nat.add_mul]
    congr 1
    omega
   simp only [Array.size_append,List.size_toArray,List.length_append,Array.length_toList,hzsz,hfl]
   omega
  ·rw [hll]
   simp only [Array.toList_append,hz]
   rw [List.flatten_append]
   have e2:(rows.flatten++(List.replicate cnt zc).flatten).length=(rows.length+cnt)*k:=by
    rw [← List.flatten_append,flat_len _ hrep,hll]
   rw [← List.append_assoc,List.take_left' e2]
 ·exact h1.mine q (List.mem_cons_of_mem _ hq)
theorem L.appFreshZ {tn:TypeId} {kn ik:IntKind} {zc:List Value} {cnt:Nat} (hd:Nat.blt d n=true) (hu:P.underlying tx=some (.slice e)) (htn:P.underlying tn=some (.int kn)) (he:elemB P e k by'=true) (hz:zeroB P e=some zc) (hx:val fs x=some (rv g a cap)) (hy:val fs y=some (.int ik cnt)) (hm:m[i]?=some (.sl (rv g N cap) e k rows))
  (hn:0 < cnt) (hg:cap < a+cnt) (hl:a+cnt≤maxLen) (hb:(a+cnt)*by'≤140737488355328) (ha:a≤rows.length)
  (next:∀ g' cap',a+cnt≤cap'→L P ops Q n (Cls w0 own (.sl (rv g' (a+cnt) cap') e k (rows.take a++List.replicate cnt zc) :: m)) rest ((d,rv g' (a+cnt) cap') :: fs)) :
  L P ops Q n (Cls w0 own m) (⟨some d,.call ⟨.builtin .append,#[x,y],#[tx,tn]⟩,t,pos,af,none⟩ :: rest) fs:=by
 refine L.runs (R:=fun v' w'=>∃ g' cap',v'=rv g' (a+cnt) cap'∧a+cnt≤cap'∧Cls w0 own (.sl (rv g' (a+cnt) cap') e k (rows.take a++List.replicate cnt zc) :: m) w') hd (fun ac w hs hw=>?_) fun v'=>?_
 ·obtain ⟨inf,z,hi,hz',hsz,hby,hzs,hk⟩:=elemB_out he
  have hzz:z.cells.toList=zc:=by
   unfold zeroB at hz
   simpa [hi,hz'] using hz
  have hwd:Cls w0 own m w.drew:=hw.drew
  have hS:=(hwd.shrink hm ha).get (i:=i) (by rw [List.getElem?_set_self (List.getElem?_eq_some_iff.1 hm).1])
  have hB0:At w.drew (rv g a cap) k (rows.take a):=As.at_ hS
  have hlo:(rows.take a).length=a:=by rw [List.length_take];omega
  have hf:=run_first (P:=P) hB0 hk (Nat.le_refl _)
  rw [List.take_length,hlo] at hf
  have hr:=Lib.run_append_grow_zeros (P:=P) w tx tn t e inf z ik kn hu htn hi hz' (some ⟨g,0,none⟩) a cap (rows.take a).flatten (by rw [hsz];exact hf) cnt hn (by omega) hg (by simp only [maxLen] at hl;omega)
   (by rw [hby];have:cnt*by'≤(a+cnt)*by':=Nat.mul_le_mul_right _ (by omega);omega) (by rw [hby];exact growslice_fits hg hb)
  have hge:=grownCap_ge w (a+cnt) cap e
  have hcm:=grownCap_le_maxLen w (a+cnt) cap e hl
  refine ⟨rv w.heap.size (a+cnt) (grownCap w (a+cnt) cap e),w.drew.alloc (.cells ((rows.take a).flatten.toArray++Builtin.zeroCells z.cells cnt++Builtin.zeroCells z.cells (grownCap w (a+cnt) cap e - (a+cnt))) e),?_,w.heap.size,grownCap w (a+cnt) cap e,rfl,hge,?_⟩
  ·simp only [execOp,resolve,List.map_toArray,List.map_cons,List.map_nil,hs.eval hx,hs.eval hy]
   simp [invoke,builtin,hr]
  ·have:=hw.zrow (inf:=inf) (e:=e) (rows:=rows.take a) hzs hzz hk hB0.len (cnt:=cnt) (G:=grownCap w (a+cnt) cap e) (by rw [hlo];exact hge) hcm
   rw [hlo] at this
   exact this
 ·intro ac w hs hh
  obtain ⟨g',cap',rfl,h1,hw⟩:=hh
  exact next g' cap' h1 ac w hs hw
theorem At.sliced {w:World} (h:At w (rv g N cap) k rows) {lo:Nat} (hl:lo≤N):At w (sliced (some ⟨g,0,none⟩) lo N cap k) k (rows.drop lo):=by
 rcases h.shape with ⟨h0,_⟩ | ⟨_,_,h1,h2,_⟩
 ·cases h0
 ·simp only [Value.slice.injEq] at h1
  rw [sliced_drop hl (by omega)]
  exact h.drop lo (by omega)
theorem L.extend {N':Nat} {ll:List Oper} (hm:m[i]?=some (.sl (rv g N cap) e k rows)) (h1:N≤N') (h2:N'≤cap) (next:∀ ex:List (List Value),ex.length=N' - N→L P ops Q n (Cls w0 own (m.set i (.sl (rv g N' cap) e k (rows++ex)))) ll fs):L P ops Q n (Cls w0 own m) ll fs :=
 fun ac w hs hw=>by
  obtain ⟨ex,h3,h4⟩:=hw.extend hm h1 h2
  exact next ex h3 ac w hs h4
theorem Y.addN {p r:Nat} (hx:val fs x=some (.int .i64 p)) (hy:val fs y=some (.int .i64 r)) (h:p+r≤9223372036854775807):Y P (.binOp .add tx x y ty) t n fs C (.int .i64 ((p+r:Nat):Int)) :=
 Y.addM hx hy _ (by rw [i64_ok (by omega) (by omega)];rfl)
theorem Y.subN {p r:Nat} (hx:val fs x=some (.int .i64 p)) (hy:val fs y=some (.int .i64 r)) (h:r≤p) (h2:p≤9223372036854775807):Y P (.binOp .sub tx x y ty) t n fs C (.int .i64 ((p - r:Nat):Int)) :=
 Y.subM hx hy _ (by rw [i64_ok (by omega) (by omega)];congr 1;omega)
theorem Y.callVal {f:FuncId} {xs:List Operand} {ts:Array TypeId} {vs:List Value} (hx:vals fs xs=some vs) (hc:∀ w,C w→(callFunc f vs.toArray).run P w=.ok (.value v) w):Y P (.call ⟨.value (.func f),xs.toArray,ts⟩) t n fs C v :=
 Y.of fun d pos af g a w hs hw=>by
  have h1:=hs.evals hx
  simp only [execOp,resolve,List.map_toArray,h1]
  simp [Act.eval,Deferred.ofValue,invoke,hc w hw]
end
end Go.S
end
section
namespace Go.S
set_option linter.unusedVariables false
set_option linter.unusedSimpArgs false
def xDelR {α:Type} (l:List α) (a b:Int):Option (List α):=if 0≤a∧a < b∧b≤l.length∧l.length≤1000000000 then some (l.take a.toNat++l.drop b.toNat) else none
def xInsR {α:Type} (l:List α) (a:Int) (x:α):Option (List α):=if 0≤a∧a≤l.length∧l.length≤1000000000 then some (l.take a.toNat++[x]++l.drop a.toNat) else none
theorem xInsR_some {α:Type} {l r:List α} {a:Int} {x:α} (h:xInsR l a x=some r):(0≤a∧a≤l.length∧l.length≤1000000000)∧r=l.take a.toNat++[x]++l.drop a.toNat:=by
 unfold xInsR at h
 split at h
 ·simp only [Option.some.injEq] at h;exact ⟨by assumption,h.symm⟩
 ·cases h
def DelR {α:Type} (P:Program) (f:FuncId) (e:TypeId) (k:Nat) (row:α→List Value):Prop :=
 ∀ (l:List α) (g cap a b:Nat) (w:World),a < b→b≤l.length→l.length≤cap→l.length≤1000000000→Cls w [g] [.sl (rv g l.length cap) e k (l.map row)] w →
  Calls P f [rv g l.length cap,.int .i64 (a:Nat),.int .i64 (b:Nat)].toArray w fun en w'=>∃ v',en=.returned v'∧Cls w [g] [.sl v' e k ((l.take a++l.drop b).map row)] w'
structure InsR {α:Type} (P:Program) (f:FuncId) (e:TypeId) (k:Nat) (row:α→List Value):Prop where
 fin:∀ (l:List α) (x:α) (g cap a:Nat) (v:Value) (w:World) (b:Nat),w.heap[b]?=some (.cells (row x).toArray e (0,0))→b≠g→a=l.length→l.length≤1000000000→Cls w [g] [.sl v e k (l.map row)] w →
  Calls P f [v,.int .i64 (a:Nat),sv b 1].toArray w fun en w'=>∃ v',en=.returned v'∧Cls w [g] [.sl v' e k ((l.take a++[x]++l.drop a).map row)] w'
 mid:∀ (l:List α) (x:α) (g cap a:Nat) (v:Value) (w:World) (b:Nat),w.heap[b]?=some (.cells (row x).toArray e (0,0))→b≠g→a < l.length→l.length≤cap→l.length≤1000000000→Cls w [g] [.sl (rv g l.length cap) e k (l.map row)] w →
  Calls P f [rv g l.length cap,.int .i64 (a:Nat),sv b 1].toArray w fun en w'=>∃ v',en=.returned v'∧Cls w [g] [.sl v' e k ((l.take a++[x]++l.drop a).map row)] w'
section
variable {P:Program} {Q:Exit→Act→World→Prop} {n:Nat} {C:World→Prop} {fs:Fr} {t:TypeId} {ops:Array Oper} {rest:List Oper} {d:Nat} {pos:String} {af:Array Edge}
variable {w0 w w':World} {own:List Nat} {m:List As} {x y z:Operand} {e tx:TypeId} {i j k by' g N cap:Nat} {v u v':Value} {rows rows':List (List Value)} {f:FuncId} {ts:Array TypeId}
theorem Cls.carve (hw:Cls w0 own m w) (hm:m[i]?=some (.sl v e k rows)) (hg:v.ownBlock.toList=[g]∨v.ownBlock.toList=[]):Cls w [g] [.sl v e k rows] w:=by
 have hh:=hw.get hm
 refine ⟨rfl,rfl,rfl,DR.refl _,Nat.le_refl _,fun _ _ _=>rfl,?_,fun x hx=>?_⟩
 ·rcases hg with h | h <;> simp [As.foot,h]
 ·simp only [List.mem_singleton] at hx
  subst hx
  refine ⟨hh,fun b hb=>.inr ?_⟩
  rcases hg with h | h
  ·simpa [As.foot,h] using hb
  ·simp [As.foot,h] at hb
theorem Cls.frameV (hw:Cls w0 own m w) (hm:m[i]?=some (.sl v e k rows)) (hg:v.ownBlock.toList=[g]∨(v.ownBlock.toList=[]∧g=w.heap.size)) (h:Cls w [g] [.sl v' e k rows'] w'):Cls w0 own (m.set i (.sl v' e k rows')) w':=by
 have hil:=(List.getElem?_eq_some_iff.1 hm).1
 have hgm:=hw.mine _ (List.mem_of_getElem? hm)
 have hg1:w0.heap.size≤g∨g∈own:=by
  rcases hg with h1 | h1
  ·exact hgm.2 g (by simp [As.foot,h1])
  ·left;rw [h1.2];exact hw.size
 have hp:m.Perm (.sl v e k rows :: m.eraseIdx i):=by
  have hx:=(List.getElem?_eq_some_iff.1 hm).2
  have:=perm_head m i hil
  rwa [hx] at this
 have hp2:(m.set i (.sl v' e k rows')).Perm (.sl v' e k rows' :: m.eraseIdx i):=by
  have:=perm_head (m.set i (.sl v' e k rows')) i (by simpa using hil)
  rwa [List.getElem_set_self,eraseIdx_set_self] at this
 have hw1:=hw.perm hp.symm
 refine Cls.perm ?_ hp2
 have hnd:=hw1.nodup
 rw [List.flatMap_cons,List.nodup_append] at hnd
 have hne:∀ b∈(m.eraseIdx i).flatMap As.foot,b < w.heap.size∧b≠g:=fun b hb=>by
  have hlt:=hw1.foot_lt b (by rw [List.flatMap_cons];exact List.mem_append_right _ hb)
  refine ⟨hlt,fun hbg=>?_⟩
  rcases hg with h1 | h1
  ·exact hnd.2.2 g (by simp [As.foot,h1]) b hb hbg.symm
  ·omega
 refine ⟨h.os.trans hw.os,h.tape.trans hw.tape,h.output.trans hw.output,DR.trans hw.dr h.dr,Nat.le_trans hw.size h.size,fun q hq ho=>?_,?_,fun x hx=>?_⟩
 ·rw [h.old q (Nat.lt_of_lt_of_le hq hw.size) (by
   simp only [List.mem_singleton]
   rintro rfl
   rcases hg1 with h1 | h1
   ·omega
   ·exact ho h1),hw.old q hq ho]
 ·rw [List.flatMap_cons,List.nodup_append]
  refine ⟨by have:=h.nodup;simpa using this,hnd.2.1,fun a ha b hb hab=>?_⟩
  subst hab
  rcases (h.mine _ (List.mem_singleton.2 rfl)).2 a ha with h1 | h1
  ·have:=(hne a hb).1;omega
  ·exact (hne a hb).2 (by simpa using h1)
 ·rcases List.mem_cons.1 hx with rfl | hx
  ·refine ⟨(h.mine _ (List.mem_singleton.2 rfl)).1,fun b hb=>?_⟩
   rcases (h.mine _ (List.mem_singleton.2 rfl)).2 b hb with h1 | h1
   ·exact .inl (Nat.le_trans hw.size h1)
   ·have:b=g:=by simpa using h1
    rw [this];exact hg1
  ·refine ⟨As.holds_congr (hw1.mine x (List.mem_cons_of_mem _ hx)).1 fun b hb=>?_,(hw1.mine x (List.mem_cons_of_mem _ hx)).2⟩
   have hb':=hne b (List.mem_flatMap.2 ⟨x,hx,hb⟩)
   exact h.old b hb'.1 (by simpa using hb'.2)
theorem L.callIn {vs:List Value} {xs:List Operand} {R:Value→World→Prop} (hd:Nat.blt d n=true) (he:entB P f=true) (hx:vals fs xs=some vs)
  (hc:∀ w,Cls w0 own m w→Calls P f vs.toArray w fun en w'=>∃ v',en=.returned v'∧R v' w') (next:∀ v',L P ops Q n (R v') rest ((d,v') :: fs)):L P ops Q n (Cls w0 own m) (⟨some d,.call ⟨.value (.func f),xs.toArray,ts⟩,t,pos,af,none⟩ :: rest) fs :=
 L.call hd he hx hc next
theorem L.insRD {α ρ:Type} {row:α→List Value} {l:List α} {x1:α} {a:Int} {b:Nat} {r:ρ} {F:List α→Option ρ} (h:bind1 (xInsR l a x1) F=some r) (hS:InsR P f e k row) (hk:∀ x,(row x).length=k) (hd:Nat.blt d n=true) (he:entB P f=true) (hx:val fs x=some v) (hm:m[i]?=some (.sl v e k (l.map row)))
  (hy:val fs y=some (.int .i64 a)) (hz:val fs z=some (sv b 1)) (hj:m[j]?=some (.sl (sv b 1) e k ([x1].map row))) (hij:i≠j)
  (next:∀ v' q,xInsR l a x1=some q→F q=some r→L P ops Q n (Cls w0 own (m.set i (.sl v' e k (q.map row)))) rest ((d,v') :: fs)):L P ops Q n (Cls w0 own m) (⟨some d,.call ⟨.value (.func f),#[x,y,z],ts⟩,t,pos,af,none⟩ :: rest) fs:=by
 obtain ⟨q,hq,h⟩:=bind1S h
 obtain ⟨⟨h0,h1,h2⟩,rfl⟩:=xInsR_some hq
 obtain ⟨a,rfl⟩:=Int.eq_ofNat_of_zero_le h0
 refine L.callIn (xs:=[x,y,z]) (vs:=[v,.int .i64 a,sv b 1]) (R:=fun v' w'=>Cls w0 own (m.set i (.sl v' e k ((l.take a++[x1]++l.drop a).map row))) w') hd he (by simp [vals,hx,hy,hz]) (fun w hw=>?_) fun v'=>next v' _ hq h
 have hlit:w.heap[b]?=some (.cells (row x1).toArray e (0,0)):=by
  obtain ⟨_,_,hown⟩:=hw.get hj
  rcases hown with ⟨h3,_⟩ | ⟨g',cap',cur,hv,_,hh,_,_,hcs,htk⟩
  ·cases h3
  ·simp only [sv,Value.slice.injEq,Option.some.injEq,Addr.mk.injEq] at hv
   obtain ⟨⟨rfl,_,_⟩,_,rfl⟩:=hv
   rw [hh]
   congr 2
   have h5:cur.toList=row x1:=by
    simp only [List.map_cons,List.map_nil,List.length_singleton,Nat.one_mul,List.flatten_cons,List.flatten_nil,List.append_nil] at htk
    rw [← htk,List.take_of_length_le (by rw [Array.length_toList,hcs];omega)]
   rw [← h5]
 have hbl:b < w.heap.size:=(Array.getElem?_eq_some_iff.1 hlit).1
 have hne:∀ g,v.ownBlock.toList=[g]→b≠g:=by
  rintro g hg rfl
  have hil:=(List.getElem?_eq_some_iff.1 hm).1
  have hx:=(List.getElem?_eq_some_iff.1 hm).2
  have hp:=perm_head m i hil
  rw [hx] at hp
  have hnd:=(hw.perm hp.symm).nodup
  rw [List.flatMap_cons,List.nodup_append] at hnd
  exact hnd.2.2 b (by simp [As.foot,hg]) b (List.mem_flatMap.2 ⟨_,List.mem_eraseIdx_iff_getElem?.2 ⟨j,Ne.symm hij,hj⟩,by simp [As.foot,sv,Value.ownBlock]⟩) rfl
 have hcase:(v.ownBlock.toList=[])∨∃ g,v.ownBlock.toList=[g]:=by
  cases v.ownBlock with
  | none=>exact .inl rfl
  | some g=>exact .inr ⟨g,rfl⟩
 by_cases hend:a=l.length
 ·rcases hcase with h9 | ⟨g,h9⟩
  ·refine (hS.fin l x1 w.heap.size 0 a v w b hlit (by omega) hend (by omega) (hw.carve hm (.inr h9))).mono ?_
   rintro en w' ⟨v',rfl,h4⟩
   exact ⟨v',rfl,hw.frameV hm (.inr ⟨h9,rfl⟩) h4⟩
  ·refine (hS.fin l x1 g 0 a v w b hlit (hne g h9) hend (by omega) (hw.carve hm (.inl h9))).mono ?_
   rintro en w' ⟨v',rfl,h4⟩
   exact ⟨v',rfl,hw.frameV hm (.inl h9) h4⟩
 ·obtain ⟨g,cap,rfl,hc,_⟩:=hw.row hm (by intro hn;have h9:=congrArg List.length hn;simp only [List.length_map,List.length_nil] at h9;omega)
  rw [List.length_map] at hc hm hne ⊢
  refine (hS.mid l x1 g cap a (rv g l.length cap) w b hlit (hne g rfl) (by omega) hc (by omega) (hw.carve hm (.inl rfl))).mono ?_
  rintro en w' ⟨v',rfl,h4⟩
  exact ⟨v',rfl,hw.frameV hm (.inl rfl) h4⟩
def lit2 (v1 v2:Value):Nat→List Value
 | 0=>[v1]
 | _=>[v2]
end
end Go.S
end
