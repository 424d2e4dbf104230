import Derived.Test.YtdlemoeinjihkaaGreatDoorZa
import Derived.ChangeKeysEq
import Derived.Laws.StructEq
import Derived.Laws.Cover3
import Derived.Laws.Tables
import Derived.MapKept
import Derived.Laws.IdiomCopy
import Derived.Lib.Repeat
import Derived.Lib.Overlaps
import Derived.Lib.AppendZerosOnto
set_option linter.unusedVariables false
set_option linter.unusedSimpArgs false
section
namespace Go.S
variable {dR:Dr}
def yt (P:Program) (tot:Nat):Nat→List Field→Bool
  | o,[]=>Nat.beq o tot
  | o,f :: r=>Nat.beq f.offset o && yt P tot (o+P.cellsOf f.type) r
def shB (P:Program):Nat→TypeId→List Value→Bool
  | 0,_,_=>false
  | d+1,t,cs =>
    match P.underlying t,cs with
    | some .bool,[.bool _]=>true
    | some (.int q),[.int q' _]=>decide (q'=q)
    | some .string,[.string _]=>true
    | some (.array n e),cs=>Nat.beq cs.length (n*P.cellsOf e) && (P.info? e).isSome && (List.range n).all fun i=>shB P d e ((cs.drop (i*P.cellsOf e)).take (P.cellsOf e))
    | some (.struct fs),cs=>(fs.toList.all fun f=>f.name != "_") && !P.stoodInHeld t && yt P cs.length 0 fs.toList && fs.toList.all fun f=>shB P d f.type ((cs.drop f.offset).take (P.cellsOf f.type))
    | _,_=>false
def Vof (P:Program) (t:TypeId) (cs:List Value) (v:Value):Prop:=(qM P t true=true∧v=.agg cs.toArray)∨(qM P t false=true∧cs=[v])
section
variable {P:Program} {w:World}
theorem qfK {t:TypeId} {i:TypeInfo} (h:P.info? t=some i):szB P t (P.cellsOf t)=true:=by simp [szB,Program.cellsOf,h]
theorem jo {d:Nat} {t:TypeId} {cs:List Value} (h:shB P (d+1) t cs=true) :
    (∃ b,P.underlying t=some .bool∧cs=[.bool b])∨(∃ q n,P.underlying t=some (.int q)∧cs=[.int q n])∨(∃ s,P.underlying t=some .string∧cs=[.string s]) ∨
    (∃ n e,P.underlying t=some (.array n e)∧cs.length=n*P.cellsOf e∧(∃ i,P.info? e=some i)∧∀ i,i < n→shB P d e ((cs.drop (i*P.cellsOf e)).take (P.cellsOf e))=true) ∨
    (∃ fs,P.underlying t=some (.struct fs)∧(∀ f∈fs.toList,f.name ≠ "_")∧P.stoodInHeld t=false∧yt P cs.length 0 fs.toList=true∧∀ f∈fs.toList,shB P d f.type ((cs.drop f.offset).take (P.cellsOf f.type))=true):=by
  unfold shB at h
  cases hu:P.underlying t with
  | none=>simp [hu] at h
  | some k =>
    rw [hu] at h
    cases k with
    | bool =>
      refine .inl ?_
      match cs,h with
      | [.bool b],_=>exact ⟨b,rfl,rfl⟩
    | int q =>
      refine .inr (.inl ?_)
      match cs,h with
      | [.int q' n],h=>exact ⟨q,n,rfl,by have:=of_decide_eq_true h;rw [this]⟩
    | string =>
      refine .inr (.inr (.inl ?_))
      match cs,h with
      | [.string b],_=>exact ⟨b,rfl,rfl⟩
    | array n e =>
      refine .inr (.inr (.inr (.inl ⟨n,e,rfl,?_⟩)))
      have h':(Nat.beq cs.length (n*P.cellsOf e) && (P.info? e).isSome && (List.range n).all fun i=>shB P d e ((cs.drop (i*P.cellsOf e)).take (P.cellsOf e)))=true:=by
        revert h
        match cs with
        | []=>exact id
        | [_]=>exact id
        | _ :: _ :: _=>exact id
      simp only [Bool.and_eq_true,List.all_eq_true,List.mem_range] at h'
      exact ⟨Nat.eq_of_beq_eq_true h'.1.1,Option.isSome_iff_exists.1 h'.1.2,h'.2⟩
    | struct fs =>
      refine .inr (.inr (.inr (.inr ⟨fs,rfl,?_⟩)))
      have h':((fs.toList.all fun f=>f.name != "_") && !P.stoodInHeld t && yt P cs.length 0 fs.toList && fs.toList.all fun f=>shB P d f.type ((cs.drop f.offset).take (P.cellsOf f.type)))=true:=by
        revert h
        match cs with
        | []=>exact id
        | [_]=>exact id
        | _ :: _ :: _=>exact id
      simp only [Bool.and_eq_true,List.all_eq_true,Bool.not_eq_true',bne_iff_ne] at h'
      exact ⟨h'.1.1.1,h'.1.1.2,h'.1.2,h'.2⟩
    | _=>simp at h
theorem qcI {t:TypeId} {xs:Array Value} {off:Nat} {d:Nat} (hs:shB P d t ((xs.toList.drop off).take (P.cellsOf t))=true) :
    ∃ v,(part t xs off).run P w=.ok v w∧Vof P t ((xs.toList.drop off).take (P.cellsOf t)) v:=by
  cases d with
  | zero=>simp [shB] at hs
  | succ d =>
    have one:∀ v,((xs.toList.drop off).take (P.cellsOf t))=[v]→xs[off]?=some v:=fun v hv=>by
      have h0:((xs.toList.drop off).take (P.cellsOf t))[0]?=some v:=by rw [hv];rfl
      rw [List.getElem?_take] at h0
      split at h0
      · rw [List.getElem?_drop] at h0
        simpa using h0
      · cases h0
    have many:qM P t true=true→(∃ i,P.info? t=some i)→∃ v,(part t xs off).run P w=.ok v w∧Vof P t ((xs.toList.drop off).take (P.cellsOf t)) v:=by
      rintro ha ⟨i,hi⟩
      refine ⟨.agg ((xs.toList.drop off).take (P.cellsOf t)).toArray,?_,.inl ⟨ha,rfl⟩⟩
      have he:xs.extract off (off+P.cellsOf t)=((xs.toList.drop off).take (P.cellsOf t)).toArray:=by
        apply Array.ext'
        rw [Array.toList_extract]
        simp [List.extract]
      simp [part,xG ha,qn (qfK hi),he]
    rcases jo hs with ⟨b,hu,hb⟩ | ⟨q,n,hu,hb⟩ | ⟨b,hu,hb⟩ | ⟨n,e,hu,_⟩ | ⟨fs,hu,_⟩
    · exact ⟨_,by simp [part,isAgg,run_underlying hu,one _ hb],.inr ⟨by simp [qM,hu],hb⟩⟩
    · exact ⟨_,by simp [part,isAgg,run_underlying hu,one _ hb],.inr ⟨by simp [qM,hu],hb⟩⟩
    · exact ⟨_,by simp [part,isAgg,run_underlying hu,one _ hb],.inr ⟨by simp [qM,hu],hb⟩⟩
    · exact many (by simp [qM,hu]) (Go.info_of_underlying hu)
    · exact many (by simp [qM,hu]) (Go.info_of_underlying hu)
def EqC (P:Program) (d:Nat) (t:TypeId) (m:Nat):Prop:=∀ (w:World) (v v':Value) (cs cs':List Value),shB P m t cs=true→shB P m t cs'=true→Vof P t cs v→Vof P t cs' v' →
  ∃ r:Bool,(Op.equalIn d t v v').run P w=.ok r w∧(r=true↔cs=cs')
theorem qcH {d m off:Nat} {t:TypeId} (IH:EqC P d t m) {xs ys:Array Value} (hx:shB P m t ((xs.toList.drop off).take (P.cellsOf t))=true) (hy:shB P m t ((ys.toList.drop off).take (P.cellsOf t))=true) :
    ∃ a b r,(part t xs off).run P w=.ok a w∧(part t ys off).run P w=.ok b w∧(Op.equalIn d t a b).run P w=.ok r w∧(r=true↔(xs.toList.drop off).take (P.cellsOf t)=(ys.toList.drop off).take (P.cellsOf t)):=by
  obtain ⟨a,p1,f1⟩:=qcI (w:=w) hx
  obtain ⟨b,p2,f2⟩:=qcI (w:=w) hy
  obtain ⟨r,hr,hi⟩:=IH w a b _ _ hx hy f1 f2
  exact ⟨a,b,r,p1,p2,hr,hi⟩
theorem wY {α:Type} (l:List α) (o n:Nat):l.drop o=(l.drop o).take n++l.drop (o+n):=by
  rw [← List.drop_drop,List.take_append_drop]
theorem qc6 {xs ys:List Value} (o n:Nat):xs.drop o=ys.drop o↔(xs.drop o).take n=(ys.drop o).take n∧xs.drop (o+n)=ys.drop (o+n):=by
  constructor
  · intro h;rw [h];exact ⟨rfl,by rw [← List.drop_drop,← List.drop_drop,h]⟩
  · rintro ⟨h1,h2⟩;rw [wY xs o n,wY ys o n,h1,h2]
theorem jE (d m:Nat) (xs ys:Array Value) (hl:xs.toList.length=ys.toList.length):∀ (fs:List Field) (o:Nat),(∀ f∈fs,f.name ≠ "_" ∧ EqC P d f.type m∧shB P m f.type ((xs.toList.drop f.offset).take (P.cellsOf f.type))=true∧shB P m f.type ((ys.toList.drop f.offset).take (P.cellsOf f.type))=true) →
    yt P xs.toList.length o fs=true→∃ r:Bool,(Op.eqFields d xs ys fs).run P w=.ok r w∧(r=true↔xs.toList.drop o=ys.toList.drop o)
  | [],o,_,ht=>by
    have:o=xs.toList.length:=Nat.eq_of_beq_eq_true ht
    refine ⟨true,by simp [Op.eqFields],?_⟩
    rw [List.drop_eq_nil_of_le (by omega),List.drop_eq_nil_of_le (by omega)]
    simp
  | f :: fs,o,hall,ht=>by
    obtain ⟨hn,hp,h1,h2⟩:=hall f (by simp)
    simp only [yt,Bool.and_eq_true] at ht
    have ho:f.offset=o:=Nat.eq_of_beq_eq_true ht.1
    obtain ⟨a,b,r,p1,p2,p3,hiff⟩:=qcH (w:=w) hp h1 h2
    obtain ⟨r',hr',hiff'⟩:=jE d m xs ys hl fs _ (fun g hg=>hall g (by simp [hg])) ht.2
    simp only [Op.eqFields,hn,ne_eq,not_false_eq_true,if_true,Sem.run_bind,p1,p2,p3,Result.andThen_ok]
    rw [qc6 o (P.cellsOf f.type)]
    rw [ho] at hiff
    cases r
    · exact ⟨false,by simp,by simp;intro e;exact absurd (hiff.2 e) (by simp)⟩
    · refine ⟨r',by simpa using hr',?_⟩
      rw [hiff']
      simp [hiff.1 rfl]
theorem kF (d m:Nat) {e:TypeId} (IH:EqC P d e m) (xs ys:Array Value) (n:Nat) (hlx:xs.toList.length=n*P.cellsOf e) (hly:ys.toList.length=n*P.cellsOf e)
    (hx:∀ i,i < n→shB P m e ((xs.toList.drop (i*P.cellsOf e)).take (P.cellsOf e))=true) (hy:∀ i,i < n→shB P m e ((ys.toList.drop (i*P.cellsOf e)).take (P.cellsOf e))=true):∀ (k i:Nat),i+k=n →
    ∃ r:Bool,(Op.eqItems d e (P.cellsOf e) xs ys (List.range' i k)).run P w=.ok r w∧(r=true↔xs.toList.drop (i*P.cellsOf e)=ys.toList.drop (i*P.cellsOf e))
  | 0,i,hi=>by
    have:i=n:=by omega
    subst this
    refine ⟨true,by simp [Op.eqItems],?_⟩
    rw [List.drop_eq_nil_of_le (by omega),List.drop_eq_nil_of_le (by omega)]
    simp
  | k+1,i,hi=>by
    obtain ⟨a,b,r,p1,p2,p3,hiff⟩:=qcH (w:=w) IH (hx i (by omega)) (hy i (by omega))
    obtain ⟨r',hr',hiff'⟩:=kF d m IH xs ys n hlx hly hx hy k (i+1) (by omega)
    rw [List.range'_succ]
    simp only [Op.eqItems,Sem.run_bind,p1,p2,p3,Result.andThen_ok]
    rw [qc6 (i*P.cellsOf e) (P.cellsOf e),show i*P.cellsOf e+P.cellsOf e=(i+1)*P.cellsOf e by rw [Nat.succ_mul]]
    cases r
    · exact ⟨false,by simp,by simp;intro e;exact absurd (hiff.2 e) (by simp)⟩
    · refine ⟨r',by simpa using hr',?_⟩
      rw [hiff']
      simp [hiff.1 rfl]
theorem qc4 (d:Nat):∀ (m:Nat) (t:TypeId),EqC P (d+m) t m
  | 0,t=>fun w v v' cs cs' h=>by simp [shB] at h
  | m+1,t=>fun w v v' cs cs' h h' hv hv'=>by
    rcases jo h with ⟨b,hu,rfl⟩ | ⟨q,n,hu,rfl⟩ | ⟨b,hu,rfl⟩ | ⟨n,e,hu,hl,⟨ie,hie⟩,hall⟩ | ⟨fs,hu,hn,hst,ht,hall⟩
    · rcases jo h' with ⟨b',hu',rfl⟩ | ⟨q,n,hu',_⟩ | ⟨b,hu',_⟩ | ⟨n,e,hu',_⟩ | ⟨fs,hu',_⟩ <;> simp only [hu,Option.some.injEq,reduceCtorEq] at hu'
      have e1 : v = .bool b := by rcases hv with ⟨ha, _⟩ | ⟨_, he⟩; · simp [qM, hu] at ha
                                  · simpa using he.symm
      have e2 : v' = .bool b' := by rcases hv' with ⟨ha, _⟩ | ⟨_, he⟩; · simp [qM, hu] at ha
                                    · simpa using he.symm
      subst e1;subst e2
      exact ⟨b == b',run_equalIn_bool' _ _ _ _ _ hu,by simp⟩
    · rcases jo h' with ⟨b',hu',_⟩ | ⟨q',n',hu',rfl⟩ | ⟨b,hu',_⟩ | ⟨n,e,hu',_⟩ | ⟨fs,hu',_⟩ <;> simp only [hu,Option.some.injEq,reduceCtorEq] at hu'
      have e1 : v = .int q n := by rcases hv with ⟨ha, _⟩ | ⟨_, he⟩; · simp [qM, hu] at ha
                                   · simpa using he.symm
      have e2 : v' = .int q' n' := by rcases hv' with ⟨ha, _⟩ | ⟨_, he⟩; · simp [qM, hu] at ha
                                      · simpa using he.symm
      have e3:q=q':=by injection hu'
      subst e3
      subst e1;subst e2
      exact ⟨n == n',run_equalIn_int _ _ _ _ _ _ _ hu,by simp⟩
    · rcases jo h' with ⟨b',hu',_⟩ | ⟨q',n',hu',_⟩ | ⟨b',hu',rfl⟩ | ⟨n,e,hu',_⟩ | ⟨fs,hu',_⟩ <;> simp only [hu,Option.some.injEq,reduceCtorEq] at hu'
      have e1 : v = .string b := by rcases hv with ⟨ha, _⟩ | ⟨_, he⟩; · simp [qM, hu] at ha
                                    · simpa using he.symm
      have e2 : v' = .string b' := by rcases hv' with ⟨ha, _⟩ | ⟨_, he⟩; · simp [qM, hu] at ha
                                      · simpa using he.symm
      subst e1;subst e2
      refine ⟨b.toList == b'.toList,run_equalIn_string _ _ _ _ _ hu,?_⟩
      rw [beq_iff_eq,ByteArray.toList_eq,ByteArray.toList_eq]
      constructor
      · intro e;rw [show b=b' from ByteArray.ext (Array.ext' e)]
      · intro e
        have:b=b':=by simpa using e
        rw [this]
    · rcases jo h' with ⟨b',hu',_⟩ | ⟨q',n',hu',_⟩ | ⟨b',hu',_⟩ | ⟨n',e',hu',hl',_,hall'⟩ | ⟨fs,hu',_⟩ <;> simp only [hu,Option.some.injEq,reduceCtorEq] at hu'
      injection hu' with e1 e2
      subst e1;subst e2
      have e1 : v = .agg cs.toArray := by rcases hv with ⟨_, he⟩ | ⟨ha, _⟩; · exact he
                                          · simp [qM,hu] at ha
      have e2 : v' = .agg cs'.toArray := by rcases hv' with ⟨_, he⟩ | ⟨ha, _⟩; · exact he
                                            · simp [qM,hu] at ha
      subst e1;subst e2
      obtain ⟨r,hr,hi⟩:=kF (w:=w) (d+m) m (qc4 d m e) cs.toArray cs'.toArray n hl hl' hall hall' n 0 (by omega)
      refine ⟨r,?_,by simpa using hi⟩
      rw [show d+(m+1)=(d+m)+1 from rfl,run_equalIn_array w (d+m) _ _ hu hie,List.range_eq_range']
      exact hr
    · rcases jo h' with ⟨b',hu',_⟩ | ⟨q',n',hu',_⟩ | ⟨b',hu',_⟩ | ⟨n',e',hu',_⟩ | ⟨fs',hu',_,_,ht',hall'⟩ <;> simp only [hu,Option.some.injEq,reduceCtorEq] at hu'
      injection hu' with e1
      subst e1
      have e1 : v = .agg cs.toArray := by rcases hv with ⟨_, he⟩ | ⟨ha, _⟩; · exact he
                                          · simp [qM,hu] at ha
      have e2 : v' = .agg cs'.toArray := by rcases hv' with ⟨_, he⟩ | ⟨ha, _⟩; · exact he
                                            · simp [qM,hu] at ha
      subst e1;subst e2
      have tl:∀ (l:List Field) (o a b:Nat),yt P a o l=true→yt P b o l=true→a=b:=by
        intro l
        induction l with
        | nil=>intro o a b h1 h2;have:=Nat.eq_of_beq_eq_true h1;have:=Nat.eq_of_beq_eq_true h2;omega
        | cons f l ih=>intro o a b h1 h2;simp only [yt,Bool.and_eq_true] at h1 h2;exact ih _ a b h1.2 h2.2
      have hlen:=tl _ _ _ _ ht ht'
      obtain ⟨r,hr,hi⟩:=jE (w:=w) (d+m) m cs.toArray cs'.toArray hlen fs.toList 0 (fun f hf=>⟨hn f hf,qc4 d m f.type,hall f hf,hall' f hf⟩) ht
      refine ⟨r,?_,by simpa using hi⟩
      have hf:P.fieldsOf t=fs:=by simp [Program.fieldsOf,hu]
      rw [show d+(m+1)=(d+m)+1 from rfl,run_equalIn_struct w (d+m) t _ _ (by rw [hf];exact hu) hst,hf]
      exact hr
end
section
variable {P:Program} {Q:Exit→Act→World→Prop} {n:Nat} {C:World→Prop} {fs:Fr} {t:TypeId} {ops:Array Oper} {rest:List Oper} {d:Nat} {pos:String} {af:Array Edge} {x y:Operand} {tx ty:TypeId}
variable {α:Type}
theorem Y.eqlA {row:α→List Value} {a b:α} [DecidableEq α] (hg:P.eqGuardType P.depth tx=false) (ha:qM P tx true=true) (h1:shB P 5 tx (row a)=true) (h2:shB P 5 tx (row b)=true) (inj:row a=row b→a=b) (hx:val fs x=some (.agg (row a).toArray)) (hy:val fs y=some (.agg (row b).toArray)) :
    Y P (.binOp .eql tx x y ty) t n fs C (.bool (decide (a=b))) :=
  Y.of fun d pos af g s w hs hw=>by
    obtain ⟨r,hr,hi⟩:=qc4 9995 5 tx w _ _ _ _ h1 h2 (.inl ⟨ha,rfl⟩) (.inl ⟨ha,rfl⟩)
    rw [show 9995+5=10000 from rfl] at hr
    have e:decide (a=b)=r:=by
      cases r with
      | true=>exact decide_eq_true (inj (hi.1 rfl))
      | false=>exact decide_eq_false fun h=>by have:=hi.2 (by rw [h]);cases this
    simp only [execOp,hs.eval hx,hs.eval hy]
    rw [e]
    simp [run_eqGuard_agg _ _ _ _ _ _ _ hg,run_eql_struct,hr]
theorem Y.neqA {row:α→List Value} {a b:α} [DecidableEq α] (hg:P.eqGuardType P.depth tx=false) (ha:qM P tx true=true) (h1:shB P 5 tx (row a)=true) (h2:shB P 5 tx (row b)=true) (inj:row a=row b→a=b) (hx:val fs x=some (.agg (row a).toArray)) (hy:val fs y=some (.agg (row b).toArray)) :
    Y P (.binOp .neq tx x y ty) t n fs C (.bool (decide (a≠b))) :=
  Y.of fun d pos af g s w hs hw=>by
    obtain ⟨r,hr,hi⟩:=qc4 9995 5 tx w _ _ _ _ h1 h2 (.inl ⟨ha,rfl⟩) (.inl ⟨ha,rfl⟩)
    rw [show 9995+5=10000 from rfl] at hr
    have e:decide (a≠b)=!r:=by
      cases r with
      | true=>simp [inj (hi.1 rfl)]
      | false=>exact decide_eq_true fun h=>by have:=hi.2 (by rw [h]);cases this
    simp only [execOp,hs.eval hx,hs.eval hy]
    rw [e]
    simp [run_eqGuard_agg _ _ _ _ _ _ _ hg,run_neq_struct,hr]
theorem xp {row:α→List Value} {k:Nat} (hr:∀ z,(row z).length=k):∀ l:List α,(l.map row).flatten.length=l.length*k
  | []=>by simp
  | z :: l=>by simp only [List.map_cons,List.flatten_cons,List.length_append,hr,xp hr l,List.length_cons,Nat.succ_mul];omega
theorem wP {row:α→List Value} {k:Nat} (hr:∀ z,(row z).length=k):∀ (l:List α) (i:Nat) (h:i < l.length),((l.map row).flatten.drop (i*k)).take k=row l[i]
  | [],i,h=>by simp at h
  | z :: l,0,_=>by simp only [Nat.zero_mul,List.drop_zero,List.map_cons,List.flatten_cons,List.getElem_cons_zero];rw [← hr z];exact List.take_left
  | z :: l,i+1,h=>by
    have e:(row z++(l.map row).flatten).drop ((i+1)*k)=(l.map row).flatten.drop (i*k):=by
      rw [Nat.succ_mul,Nat.add_comm,← List.drop_drop,← hr z,List.drop_left]
    simp only [List.map_cons,List.flatten_cons,List.getElem_cons_succ]
    rw [e]
    exact wP hr l i (by simpa using h)
theorem qaJ {m e k:Nat} {row:α→List Value} {l:List α} (hu:P.underlying t=some (.array k e)) (hi:(P.info? e).isSome=true) (hr:∀ z,(row z).length=P.cellsOf e) (hs:∀ z,shB P m e (row z)=true) (hl:l.length=k):shB P (m+1) t (l.map row).flatten=true:=by
  have hlen:=xp hr l
  have hb:(Nat.beq (l.map row).flatten.length (k*P.cellsOf e) && (P.info? e).isSome && (List.range k).all fun i=>shB P m e (((l.map row).flatten.drop (i*P.cellsOf e)).take (P.cellsOf e)))=true:=by
    simp only [Bool.and_eq_true,List.all_eq_true,List.mem_range]
    refine ⟨⟨by rw [hlen,hl];exact Nat.beq_refl _,hi⟩,fun i hik=>?_⟩
    rw [wP hr l i (by omega)]
    exact hs _
  unfold shB
  rw [hu]
  generalize (l.map row).flatten=cs at *
  match cs,hlen with
  | [],h=>simp at h;rw [hl] at h;omega
  | [_],h=>simp at h;rw [hl] at h;omega
  | _ :: _ :: _,_=>exact hb
theorem Y.eqlNil {e:TypeId} {p:Option Addr} {l c:Nat} (hu:P.underlying tx=some (.slice e)) (hx:val fs x=some (.slice p l c)) (hy:val fs y=some (.slice none 0 0)):Y P (.binOp .eql tx x y ty) t n fs C (.bool p.isNone) :=
  Y.of fun d pos af g s w hs hw=>by
    have h:=run_equal_slice_nil (P:=P) w tx e p l c hu
    have hg:(eqGuard .eql tx x y (.slice p l c) (.slice none 0 0)).run P w=.ok () w:=by simp [eqGuard]
    have hb:(binOp .eql tx (.slice p l c) (.slice none 0 0)).run P w=.ok (.bool p.isNone) w:=by
      simp only [binOp];simp [h]
    simp only [execOp,hs.eval hx,hs.eval hy]
    simp [hg,hb]
end
end Go.S
end
section
namespace Go.S
variable {dR:Dr}
def zD {α:Type} (n:Nat) (l:List α) (a:Int):Option α:=if a < n then idx l a else none
theorem qg {α:Type} {n:Nat} {l:List α} {a:Int} {u:α} (h:zD n l a=some u):idx l a=some u:=by
 unfold zD at h
 split at h
 ·exact h
 ·cases h
theorem yH {α:Type} {n:Nat} {l:List α} {a:Int} {u:α} (h:zD n l a=some u):a < n:=by
 unfold zD at h
 split at h
 ·assumption
 ·cases h
theorem qb4 {α:Type} {n:Nat} {l:List α} {i:Nat} (hi:i < l.length) (hn:l.length=n):zD n l (i:Int)=some l[i]:=by
 unfold zD
 rw [if_pos (by omega),qk hi]
def zi {α:Type} (n:Nat) (l:List α):Option (List α):=if l.length=n then some l else none
theorem qd {α:Type} {n:Nat} {l z:List α} (h:zi n l=some z):z=l∧l.length=n:=by
 unfold zi at h
 split at h
 ·simp only [Option.some.injEq] at h;exact ⟨h.symm,by assumption⟩
 ·cases h
theorem jF {k:Nat}:∀ (vs:List Value) (rows:List (List Value)) (i j:Nat) (r:List Value),(∀ r∈rows,r.length=k)→rows[i]?=some r→j+vs.length≤k→over rows.flatten (i*k+j) vs=(rows.set i (over r j vs)).flatten
 | [],rows,i,j,r,_,hr,_=>by
  obtain ⟨hi,he⟩:=List.getElem?_eq_some_iff.1 hr
  rw [over,over,← he,List.set_getElem_self]
 | v :: vs,rows,i,j,r,hl,hr,hj=>by
  obtain ⟨hi,he⟩:=List.getElem?_eq_some_iff.1 hr
  simp only [List.length_cons] at hj
  rw [over,over,← vK rows i j r v hl hr (by omega),show i*k+j+1=i*k+(j+1) by omega]
  have hl':∀ r'∈rows.set i (r.set j v),r'.length=k:=by
   intro r' h'
   rcases List.mem_or_eq_of_mem_set h' with h | h
   ·exact hl r' h
   ·subst h;simp [hl r (List.mem_of_getElem? hr)]
  rw [jF vs _ i (j+1) (r.set j v) hl' (by simp [hi]) (by omega),List.set_set]
section
variable {P:Program} {Q:Exit→Act→World→Prop} {n:Nat} {fs:Fr} {t:TypeId} {ops:Array Oper} {rest:List Oper} {d:Nat} {pos:String} {af:Array Edge}
variable {w0:World} {own:List Nat} {m:List As} {x y:Operand} {e te:TypeId} {q o i j k kk b:Nat} {v u:Value} {vs:List Value}
theorem L.storeSlN {rows:List (List Value)} {r:List Value} (hs:szB P te kk=true) (hx:val fs x=some (el v o)) (ho:o=i*k+j) (hy:val fs y=some u) (hu:u.cells.toList=vs) (hk:vs.length=kk) (h1:∀ u∈vs,u.oneCell'=true)
  (hm:m[q]?=some (.sl v e k rows)) (hr:rows[i]?=some r) (hj:j+kk≤k) (next:L P ops Q n (Cls w0 own (m.set q (.sl v e k (rows.set i (over r j vs))))) rest fs) :
  L P ops Q n (Cls w0 own m) (⟨none,.store te x y,t,pos,af,none⟩ :: rest) fs:=by
 subst ho
 exact L.runsNone (fun a w hsl hw=>by
  obtain ⟨hrl,hl,hown⟩:=hw.get hm
  rcases hown with ⟨rfl,hn⟩ | ⟨g,cap,cur,rfl,hg,hh,hnc,hcm,hcs,htake⟩
  ·have:rows=[]:=List.length_eq_zero_iff.1 hn
   subst this
   simp at hr
  ·have hi:i < rows.length:=(List.getElem?_eq_some_iff.1 hr).1
   have hb:i*k+j+vs.length≤rows.length*k:=by
    have:(i+1)*k≤rows.length*k:=Nat.mul_le_mul_right k hi
    rw [Nat.succ_mul] at this;omega
   have hc:rows.length*k≤cap*k:=Nat.mul_le_mul_right k hnc
   have hcl:cur.toList.length=cap*k:=by simp [hcs]
   have hh':w.heap[g]?=some (.cells cur.toList.toArray e (0,0)):=by simpa using hh
   obtain ⟨w',h2,h3,h4⟩:=qQ (P:=P) g e (i*k+j) vs 0 cur.toList w hh' (by omega) h1
   have hsz:u.cells.size=kk:=by rw [← hk,← hu];simp
   have hrj:(over r j vs).length=k:=by rw [zw];exact hrl r (List.mem_of_getElem? hr)
   have hset:∀ r'∈rows.set i (over r j vs),r'.length=k:=by
    intro r' hr'
    rcases List.mem_or_eq_of_mem_set hr' with h | h
    ·exact hrl r' h
    ·subst h;exact hrj
   have hfl:=jF vs rows i j r hrl hr (by omega)
   have htk:∀ (us:List Value) (c:List Value) (z a:Nat),a+us.length≤z→(over c a us).take z=over (c.take z) a us:=by
    intro us
    induction us with
    | nil=>intro c z a _;rfl
    | cons p us ih=>intro c z a h;simp only [List.length_cons] at h;rw [over,over,ih _ _ _ (by omega),List.take_set]
   refine ⟨w',?_,?_⟩
   ·simp only [execOp,hsl.eval hx,hsl.eval hy]
    simp only [Instr.storeAt,Instr.sureAddr,el,adr,Addr.add_lit,Sem.run_bind,Sem.run_pure,Result.andThen,storeVar,qn hs,hsz,hu]
    simp [h2]
   ·refine hw.turn hm rfl h4.os h4.tape h4.output h4.size (Nat.le_of_eq h4.drawn.symm) (fun p hp=>h4.rest p (by simpa [As.foot,Value.ownBlock] using hp)) ⟨hset,?_,.inr ⟨g,cap,(over cur.toList (i*k+j+0) vs).toArray,by simp,hg,h3,by simpa using hnc,hcm,by simp [zw,hcs],?_⟩⟩
    ·rw [← hfl,zw,hl];simp
    ·simp only [List.length_set,Nat.add_zero]
     rw [htk _ _ _ _ hb,← hfl,← htake]) next
section words
variable {α ρ:Type} {r:ρ} {row:α→List Value} {l:List α} {a:Int} {u0 u1:α} {f:List α→Option ρ}
theorem zR {z:List α} (h:qb (upd l a u1) f=some r) (hz:z=l.set a.toNat u1):f z=some r:=by
 obtain ⟨z',h1,h2⟩:=qc h
 obtain ⟨_,_,rfl⟩:=jA h1
 rw [hz];exact h2
theorem L.storeSlM (h:qb (upd l a u1) f=some r) (hs:szB P te kk=true) (hx:val fs x=some (el v o)) (ho:o=a.toNat*k+j) (hy:val fs y=some u) (hu:u.cells.toList=vs) (hk:vs.length=kk) (h1:∀ u∈vs,u.oneCell'=true)
  (hm:m[q]?=some (.sl v e k (l.map row))) (hr:idx l a=some u0) (hj:Nat.ble (j+kk) k=true) (hrow:over (row u0) j vs=row u1) (next:∀ z,z=l.set a.toNat u1→f z=some r→L P ops Q n (Cls w0 own (m.set q (.sl v e k (z.map row)))) rest fs) :
  L P ops Q n (Cls w0 own m) (⟨none,.store te x y,t,pos,af,none⟩ :: rest) fs:=by
 refine L.storeSlN hs hx ho hy hu hk h1 hm (qf hr) (by simpa using hj) ?_
 rw [hrow,← List.map_set]
 exact next _ rfl (zR h rfl)
theorem L.storeArM (h:qb (upd l a u1) f=some r) (hs:szB P te kk=true) (hx:val fs x=some (pt b o)) (ho:o=0+a.toNat*k+j) (hy:val fs y=some u) (hu:u.cells.toList=vs) (hk:vs.length=kk) (h1:∀ u∈vs,u.oneCell'=true)
  (hm:m[q]?=some (.obj b (l.map row).flatten e)) (hlen:∀ z,(row z).length=k) (hr:idx l a=some u0) (hj:Nat.ble (j+kk) k=true) (hrow:over (row u0) j vs=row u1) (next:∀ z,z=l.set a.toNat u1→f z=some r→L P ops Q n (Cls w0 own (m.set q (.obj b (z.map row).flatten e))) rest fs) :
  L P ops Q n (Cls w0 own m) (⟨none,.store te x y,t,pos,af,none⟩ :: rest) fs:=by
 subst ho
 have hj':j+kk≤k:=by simpa using hj
 have hrl:∀ r∈l.map row,r.length=k:=by
  intro r hr
  obtain ⟨z,_,rfl⟩:=List.mem_map.1 hr
  exact hlen z
 have hi:=(qe hr)
 have hib:(a.toNat+1)*k≤l.length*k:=Nat.mul_le_mul_right k (by omega)
 rw [Nat.succ_mul] at hib
 refine L.store hs hx hy hu hk h1 hm (by rw [xp hlen];omega) ?_
 rw [Nat.zero_add,jF vs (l.map row) a.toNat j _ hrl (qf hr) (by omega),hrow,← List.map_set]
 exact next _ rfl (zR h rfl)
theorem qlq (hlen:∀ z,(row z).length=k) (hr:idx l a=some u0) {p:Value} (hp:(row u0)[j]?=some p):(l.map row).flatten[0+a.toNat*k+j]?=some p:=by
 rw [Nat.zero_add]
 refine qJ _ _ _ _ _ ?_ (qf hr) hp
 intro r hr
 obtain ⟨z,_,rfl⟩:=List.mem_map.1 hr
 exact hlen z
theorem Y.loadAr (ha:qM P te false=true) (hx:val fs x=some (pt b o)) (ho:o=0+a.toNat*k+j) (hm:m[q]?=some (.obj b (l.map row).flatten e)) (hlen:∀ z,(row z).length=k) (hr:idx l a=some u0) {p:Value} (hp:(row u0)[j]?=some p) :
  Y P (.load te x) t n fs (Cls w0 own m) p:=by
 subst ho
 exact Y.loadP ha hx hm (qlq hlen hr hp)
theorem Y.loadArAll (ha:qM P te true=true) (hs:szB P te kk=true) (hx:val fs x=some (pt b 0)) (hm:m[q]?=some (.obj b (l.map row).flatten e)) (hlen:∀ z,(row z).length=k) (hk:l.length*k=kk):Y P (.load te x) t n fs (Cls w0 own m) (.agg (l.map row).flatten.toArray) :=
 Y.loadPW ha hs hx hm (by rw [xp hlen,hk])
theorem Y.indexAM {C:World→Prop} {len:Nat} {ik:IntKind} {tx:TypeId} (hu:P.underlying tx=some (.array len e)) (hsz:szB P e k=true) (hx:val fs x=some (pt b 0)) (hy:val fs y=some (.int ik a)) (z:α) (hr:zD len l a=some z) :
  Y P (.indexAddr tx x y) t n fs C (pt b (0+a.toNat*k)) :=
 Y.indexP hu hsz hx hy (qe (qg hr)).1 (yH hr)
end words
def qbR (fs:Fr):List (Nat×Operand)→Option (List (Nat×Value))
 | []=>some []
 | (i,x) :: r=>match val fs x with
  | some v=>match qbR fs r with
   | some vs=>some ((i,v) :: vs)
   | none=>none
  | none=>none
theorem Slots.pevals {a:Act} (h:Slots n fs a):∀ {xs:List (Nat×Operand)} {vs:List (Nat×Value)},qbR fs xs=some vs→xs.map (fun p=>(p.1,a.eval p.2))=vs
 | [],vs,hv=>by simp only [qbR,Option.some.injEq] at hv;subst hv;rfl
 | (i,x) :: r,vs,hv=>by
  simp only [qbR] at hv
  cases h1:val fs x with
  | none=>simp [h1] at hv
  | some v =>
   cases h2:qbR fs r with
   | none=>simp [h1,h2] at hv
   | some vs' =>
    simp only [h1,h2,Option.some.injEq] at hv
    subst hv
    simp [h.eval h1,h.pevals h2]
theorem Y.build {C:World→Prop} {tb:TypeId} {ps:List (Nat×Operand)} {vs:List (Nat×Value)} {cells:Array Value} (hx:qbR fs ps=some vs) (hb:P.built tb vs=some cells):Y P (.build tb ps.toArray) t n fs C (.agg cells) :=
 Y.of fun d pos af g s w hs hw=>by
  have h1:=hs.pevals hx
  have h2:=run_build (P:=P) w tb (ps.toArray.map fun p=>(p.1,s.eval p.2)) cells (by simpa [h1] using hb)
  simp only [List.map_toArray] at h2
  simp only [execOp,List.map_toArray]
  simp [h2]
end
theorem za {p:Value→Prop}:∀ u∈([]:List Value),p u:=by simp
theorem qT {p:Value→Prop} {v:Value} {l:List Value} (h:p v) (hl:∀ u∈l,p u):∀ u∈v :: l,p u:=List.forall_mem_cons.2 ⟨h,hl⟩
section
variable {P:Program} {Q:Exit→Act→World→Prop} {n:Nat} {fs:Fr} {t:TypeId} {ops:Array Oper} {rest:List Oper} {pos:String} {af:Array Edge}
variable {w0:World} {own:List Nat} {m:List As}
theorem L.storeC {x y:Operand} {b off i k:Nat} {c:List Value} {e te:TypeId} {v:Value} {vs:List Value} (hs:szB P te k=true) (hx:val fs x=some (pt b off)) (hy:val fs y=some v) (hv:v.cells.toList=vs) (hk:vs.length=k)
  (h1:∀ w,Cls w0 own m w→∀ u∈vs,u.oneCell'=true) (hm:m[i]?=some (.obj b c e)) (hl:off+k≤c.length) (next:L P ops Q n (Cls w0 own (m.set i (.obj b (over c off vs) e))) rest fs) :
  L P ops Q n (Cls w0 own m) (⟨none,.store te x y,t,pos,af,none⟩ :: rest) fs :=
 fun a w hs' hw=>L.store hs hx hy hv hk (h1 w hw) hm hl next a w hs' hw
theorem jL {v:Value} (h:v.oneCell'=true):v.cells.toList=[v]:=by cases v <;> simp_all [Value.oneCell',Value.cells]
theorem L.storeV {x y:Operand} {b off i:Nat} {c:List Value} {e te:TypeId} {v:Value} (hs:szB P te 1=true) (hx:val fs x=some (pt b off)) (hy:val fs y=some v)
  (h1:∀ w,Cls w0 own m w→v.oneCell'=true) (hm:m[i]?=some (.obj b c e)) (hl:off+1≤c.length) (next:L P ops Q n (Cls w0 own (m.set i (.obj b (over c off [v]) e))) rest fs) :
  L P ops Q n (Cls w0 own m) (⟨none,.store te x y,t,pos,af,none⟩ :: rest) fs :=
 fun a w hs' hw=>L.store hs hx hy (jL (h1 w hw)) rfl (by simpa using h1 w hw) hm hl next a w hs' hw
theorem L.boxV {x:Operand} {e:TypeId} {v:Value} {d:Nat} (hd:Nat.blt d n=true) (hx:val fs x=some v) (h1:∀ w,Cls w0 own m w→v.oneCell'=true) (k:∀ b,L P ops Q n (Cls w0 own (.obj b [v] e :: m)) rest ((d,pt b 0) :: fs)) :
  L P ops Q n (Cls w0 own m) (⟨some d,.box e x,t,pos,af,none⟩ :: rest) fs :=
 fun a w hs' hw=>L.box hd hx (fun b=>by rw [jL (h1 w hw)];exact k b) a w hs' hw
end
theorem qcD {a b:List UInt8}:st a=st b↔a=b:=by simp [st]
end Go.S
end
section
namespace Go.S
variable {dR:Dr}
section
variable {P:Program} {Q:Exit→Act→World→Prop} {n:Nat} {fs:Fr} {C:World→Prop}
def Rv (P:Program) (fs:Fr) (C:World→Prop):ResultVar→Value→Prop
 | .tmp t,v=>look fs t=some v
 | .cell x t,v=>∃ ad,look fs x=some (.pointer (some ad))∧∀ w,C w→(loadVar t ad).run P w=.ok v w
theorem Rv.tmp {t:Tmp} {v:Value} (h:look fs t=some v):Rv P fs C (.tmp t) v:=h
def qnp (tmps:Array Value):ResultVar→Sem Value
 | .tmp t=>pure (tmps.getD t undef)
 | .cell x t=>do loadVar t (← asAddr (tmps.getD x undef))
theorem kg (fn:Func) (tmps:Array Value):results fn tmps=(do
  let vs ← fn.results.mapM (qnp tmps)
  pure (if h:vs.size=1 then vs[0] else .tuple vs)):=by
 unfold results
 congr 2
theorem Rv.run {rv:ResultVar} {v:Value} (h:Rv P fs C rv v) {a:Act} {w:World} (hs:Slots n fs a) (hw:C w) :
  (qnp a.tmps rv).run P w=.ok v w:=by
 cases rv with
 | tmp t =>
  have:=hs.here t v h
  simp [qnp,Array.getD_eq_getD_getElem?,this]
 | cell x t =>
  obtain ⟨ad,h1,h2⟩:=h
  have:=hs.here x _ h1
  simp [qnp,Array.getD_eq_getD_getElem?,this,asAddr,h2 w hw]
theorem E.retR1 {fn:Func} {R:Ending→World→Prop} {x:ResultVar} {v:Value} (hr:fn.results=#[x]) (h1:Rv P fs C x v) (h:∀ w,C w→R (.returned v) w):E .ret (bodyPost P fn R) n C fs:=by
 intro a w hs hc
 refine bodyPost_ret (v:=v) ?_ hs.defers (h w hc)
 have e1:=h1.run hs hc
 rw [kg,hr]
 simp [e1]
theorem E.retR2 {fn:Func} {R:Ending→World→Prop} {x y:ResultVar} {v u:Value} (hr:fn.results=#[x,y]) (h1:Rv P fs C x v) (h2:Rv P fs C y u) (h:∀ w,C w→R (.returned (.tuple #[v,u])) w):E .ret (bodyPost P fn R) n C fs:=by
 intro a w hs hc
 refine bodyPost_ret (v:=.tuple #[v,u]) ?_ hs.defers (h w hc)
 have e1:=h1.run hs hc
 have e2:=h2.run hs hc
 rw [kg,hr]
 simp [e1,e2]
variable {w0:World} {own:List Nat} {m:List As}
theorem Rv.cellW {x:Tmp} {t:TypeId} {b i:Nat} {c:List Value} {e:TypeId} {k:Nat} (ha:qM P t true=true) (hs:szB P t k=true) (hx:look fs x=some (pt b 0)) (hm:m[i]?=some (.obj b c e)) (hk:c.length=k):Rv P fs (Cls w0 own m) (.cell x t) (.agg c.toArray) :=
 ⟨_,hx,fun w hw=>kE ha hs hk fun j u hu=>by rw [Addr.add_lit];exact hw.cell hm (by rwa [Nat.zero_add])⟩
theorem Rv.cellAr {α:Type} {row:α→List Value} {l:List α} {x:Tmp} {t:TypeId} {b i k kk:Nat} {e:TypeId} (ha:qM P t true=true) (hs:szB P t kk=true) (hx:look fs x=some (pt b 0)) (hm:m[i]?=some (.obj b (l.map row).flatten e)) (hlen:∀ z,(row z).length=k) (hk:l.length*k=kk) :
  Rv P fs (Cls w0 own m) (.cell x t) (.agg (l.map row).flatten.toArray):=Rv.cellW ha hs hx hm (by rw [xp hlen,hk])
end
section
variable {P:Program} {Q:Exit→Act→World→Prop} {n:Nat} {fs:Fr} {C:World→Prop} {ops:Array Oper} {l:List Oper}
theorem wG {K:Exit→Act→World→Prop}:∀ {l:List Oper} {j:Nat} {a:Act} {w:World},wpList P ops K (l.take j) a w→(∀ a w,K .normal a w→wpList P ops Q (l.drop j) a w)→(∀ e a w,e≠.normal→K e a w→Q e a w)→wpList P ops Q l a w
 | [],j,a,w,h,h2,_=>by
  simp only [List.take_nil,wpList] at h
  have:=h2 _ _ h
  simpa [wpList] using this
 | o :: l,0,a,w,h,h2,_=>by
  simp only [List.take_zero,wpList] at h
  simpa using h2 _ _ h
 | o :: l,j+1,a,w,h,h2,h3=>by
  simp only [List.take_succ_cons,List.drop_succ_cons] at h h2
  have ih:∀ a w,wpList P ops K (l.take j) a w→wpList P ops Q l a w:=fun a w h=>wG h h2 h3
  have hout:LetsOut K→LetsOut Q:=fun ⟨a,w,h⟩=>⟨a,w,h3 _ _ _ (by nofun) h⟩
  simp only [wpList] at h ⊢
  by_cases hw:Region.wanted o (yielded ops a.tmps)=true
  ·simp only [hw,if_true] at h ⊢
   rcases h with h | ⟨hq,h⟩
   ·refine .inl ?_
    unfold Oper.wp at *
    generalize (execOp a.eval o).run P w=r at *
    cases r with
    | ok x w' =>
     cases x <;> simp only [Oper.upon] at h ⊢
     case value u=>exact ih _ _ h
     case skip=>exact ih _ _ h
     case defer d=>exact ih _ _ h
     case enter f args =>
      refine Calls.mono h fun e w'' he=>?_
      cases e with
      | returned u=>exact ih _ _ he
      | panicked c=>exact h3 _ _ _ (by nofun) he
      | outgrown=>exact hout he
     case row row args=>exact Rows.mono h fun u w'' he=>ih _ _ he
    | halt x w' =>
     cases x <;> simp only [Oper.upon] at h ⊢
     case panic u=>exact h3 _ _ _ (by nofun) h
   ·exact .inr ⟨hq,hout h⟩
  ·simp only [hw,Bool.false_eq_true,if_false] at h ⊢
   exact ih _ _ h
theorem L.cutJ (j:Nat) (J:Fr→(World→Prop)→Prop) (h1:L P ops (KS Q n J) n C (l.take j) fs) (h2:∀ gs D,J gs D→L P ops Q n D (l.drop j) gs):L P ops Q n C l fs:=fun a w hs hc =>
 wG (h1 a w hs hc) (fun a w ⟨gs,D,hj,hs',hd⟩=>h2 gs D hj a w hs' hd) fun e a w he h=>by
  cases e with
  | normal=>exact absurd rfl he
  | _=>exact h
theorem jn {S:World→Prop} {K K':Act→Prop}:∀ {l:List Oper} {j:Nat} {a:Act},wpQuiet P ops S K' (l.take j) a→(∀ a,K' a→wpQuiet P ops S K (l.drop j) a)→wpQuiet P ops S K l a
 | [],j,a,h,h2=>by simpa using h2 _ (by simpa [wpQuiet] using h)
 | o :: l,0,a,h,h2=>by simpa using h2 _ (by simpa [wpQuiet] using h)
 | o :: l,j+1,a,h,h2=>by
  simp only [List.take_succ_cons,List.drop_succ_cons] at h h2
  simp only [wpQuiet] at h ⊢
  by_cases hw:Region.wanted o (yielded ops a.tmps)=true
  ·simp only [hw,if_true] at h ⊢
   obtain ⟨v,hv,h⟩:=h
   exact ⟨v,hv,jn h h2⟩
  ·simp only [hw,Bool.false_eq_true,if_false] at h ⊢
   exact jn h h2
def KU (n:Nat) (J:Fr→Prop):Exit→Act→World→Prop:=fun _ a _=>∃ gs,J gs∧Slots n gs a
theorem U.cutJ (hC:∃ w,C w) (j:Nat) (J:Fr→Prop) (h1:U P ops (KU n J) n C (l.take j) fs) (h2:∀ gs,J gs→U P ops Q n C (l.drop j) gs):U P ops Q n C l fs:=fun a hs =>
 jn (h1 a hs) fun a' h=>by
  obtain ⟨w,hw⟩:=hC
  obtain ⟨gs,hj,hs'⟩:=h w hw
  exact h2 gs hj a' hs'
theorem E.joinU {J:Fr→Prop} {gs:Fr} (h:J gs) (hF:Sub gs fs):E .normal (KU n J) n C fs:=fun _ _ hs _=>⟨gs,h,hs.sub hF⟩
theorem W.quietC {id:Nat} (hm:P.follows .mixedOrders=true) (hB:Region.lexB .any l.toArray=true) (hdrew:∀ w,C w→C { w with drawn:=w.drawn+1 }) (h:(∃ w,C w)→U P l.toArray Q n C l fs):W P Q n C (.region id l.toArray true) fs :=
 fun a w hs hc=>W.quiet hm hB hdrew (h ⟨w,hc⟩) a w hs hc
end
theorem Y.buildC {P:Program} {n:Nat} {fs:Fr} {t:TypeId} {C:World→Prop} {tb:TypeId} {ps:List (Nat×Operand)} {vs:List (Nat×Value)} {cells:Array Value} (hx:qbR fs ps=some vs) (hb:∀ w,C w→P.built tb vs=some cells):Y P (.build tb ps.toArray) t n fs C (.agg cells) :=
 fun d pos af g a w hs hw=>Y.build (C:=C) hx (hb w hw) d pos af g a w hs hw
section
variable {P:Program} {Q:Exit→Act→World→Prop} {n:Nat} {fs:Fr} {C:World→Prop} {t:TypeId} {ops:Array Oper} {rest:List Oper} {d:Nat} {pos:String} {af:Array Edge}
variable {w0:World} {own:List Nat} {m:List As} {α ρ:Type} {r:ρ} {g:α→List Value} {l z:List α} {lo hi:Int} {x y y2:Operand} {e tx:TypeId} {k by':Nat} {v:Value} {ik ik2:IntKind}
theorem At.cutM {w:World} (hA:At w v k (l.map g)) (h:cut l 0 hi=some z):At w (qgL v hi.toNat) k (z.map g):=by
 obtain ⟨_,h1,h2,rfl⟩:=zY h
 have:=hA.take hi.toNat (by rw [List.length_map];omega)
 rw [← List.map_take] at this
 exact this
theorem At.dropM {w:World} (hA:At w v k (l.map g)) (h:cut l lo l.length=some z):At w (zq v lo.toNat k) k (z.map g):=by
 obtain ⟨h0,h1,_,rfl⟩:=zY h
 have:=hA.drop lo.toNat (by rw [List.length_map];omega)
 rw [← List.map_drop] at this
 rwa [Int.toNat_natCast,List.take_length]
theorem Y.cutM (hu:P.underlying tx=some (.slice e)) (hs:szB P e k=true) (hx:val fs x=some v) (hy:val fs y=some (.int ik hi)) (hA:∀ w,C w→At w v k (l.map g)) (u:List α) (h:cut l 0 hi=some u) :
  Y P (.slice tx x none (some y) none) t n fs C (qgL v hi.toNat):=by
 obtain ⟨_,h1,h2,_⟩:=zY h
 exact Y.cutA hu hs hx hy hA h1 (by rwa [List.length_map])
theorem Y.dropM (hu:P.underlying tx=some (.slice e)) (hs:szB P e k=true) (hx:val fs x=some v) (hy:val fs y=some (.int ik lo)) (hA:∀ w,C w→At w v k (l.map g)) (u:List α) (h:cut l lo l.length=some u) :
  Y P (.slice tx x (some y) none none) t n fs C (zq v lo.toNat k):=by
 obtain ⟨h0,h1,_,_⟩:=zY h
 exact Y.dropA hu hs hx hy hA h0 (by rwa [List.length_map])
theorem L.cutM {i:Nat} (h:Go.S.cut l 0 hi=some z) (hd:Nat.blt d n=true) (hu:P.underlying tx=some (.slice e)) (he:szB P e k=true) (hx:val fs x=some v) (hy:val fs y=some (.int ik hi)) (hm:m[i]?=some (.sl v e k (l.map g)))
  (next:∀ v',L P ops Q n (Cls w0 own (m.set i (.sl v' e k (z.map g)))) rest ((d,v') :: fs)):L P ops Q n (Cls w0 own m) (⟨some d,.slice tx x none (some y) none,t,pos,af,none⟩ :: rest) fs:=by
 obtain ⟨_,h1,h2,rfl⟩:=zY h
 refine L.cut hd hu he hx hy hm h1 (by rwa [List.length_map]) fun v'=>?_
 rw [← List.map_take]
 exact next v'
theorem L.makeE {z0:α} {q:List α} {a:Int} {ik':IntKind} {row:α→List Value} (hq:mk a z0=some q) (hd:Nat.blt d n=true) (hu:P.underlying tx=some (.slice e)) (he:ze P e k by'=true) (hz:zh P e=some (row z0)) (hx:val fs x=some (.int ik a)) (hy:val fs y=some (.int ik' a)) (hb:Nat.ble by' 1000000=true)
  (next:∀ b,L P ops Q n (Cls w0 own (.sl (sv b a.toNat) e k (q.map row) :: m)) rest ((d,sv b a.toNat) :: fs)) :
  L P ops Q n (Cls w0 own m) (⟨some d,.makeSlice tx x y,t,pos,af,none⟩ :: rest) fs:=by
 obtain ⟨h0,h1,rfl⟩:=qgc hq
 obtain ⟨j,rfl⟩:=Int.eq_ofNat_of_zero_le h0
 refine L.make hd hu he hz hx hy (by omega) (by simpa using hb) fun b=>?_
 have:=next b
 rwa [Int.toNat_natCast,List.map_replicate] at this
theorem L.lit0 (hd:Nat.blt d n=true) (hu:P.underlying tx=some (.slice e)) (he:ze P e k by'=true) (next:∀ b,L P ops Q n (Cls w0 own (.sl (sv b 0) e k [] :: m)) rest ((d,sv b 0) :: fs)) :
  L P ops Q n (Cls w0 own m) (⟨some d,.buildSlice tx 0 #[],t,pos,af,none⟩ :: rest) fs :=
 L.fresh (val':=fun b=>sv b 0) hd (fun a w hs hw=>by
  obtain ⟨z,hzs,hk0,h1,h2,_⟩:=vT he
  refine ⟨w.heap.size,_,?_,hw.allocSl e k [] (by simp) (by simp) (by simp [maxLen])⟩
  simp only [execOp]
  simp [Instr.buildSlice,run_underlying hu,h1,Instr.fill,newRow,sv,show Array.range 0=#[] from rfl]) next
end
end Go.S
end
section
namespace Go.S
variable {dR:Dr}
def ko {α:Type} (l:List (Int×α)) (k:Int) (z:α):α:=match l.find? (fun p=>decide (p.1=k)) with
 | some p=>p.2
 | none=>z
def qge {α:Type} (l:List (Int×α)) (k:Int):Bool:=l.any fun p=>decide (p.1=k)
def qaS {α:Type} (l:List (Int×α)) (k:Int) (v:α):List (Int×α):=if qge l k=true then l.map (fun p=>if p.1=k then (k,v) else p) else l++[(k,v)]
def qp1 {α:Type} (l:List (Int×α)) (k:Int):List (Int×α):=l.filter fun p=>!decide (p.1=k)
abbrev VI (k:IntKind) (x:Int):Value:=.int k x
abbrev VB (b:Bool):Value:=.bool b
abbrev VA {α:Type} (row:α→List Value) (x:α):Value:=.agg (row x).toArray
def km {α:Type} (g:α→Value) (l:List (Int×α)):List (Int×Value):=l.map fun p=>(p.1,g p.2)
section
variable {α:Type} {g:α→Value} {l:List (Int×α)} {k a:Int} {v z:α}
theorem qaT:qge (km g l) k=qge l k:=by simp only [qge,km,List.any_map];rfl
theorem qgh:ko (km g l) k (g z)=g (ko l k z):=by
 unfold ko km
 rw [List.find?_map]
 have:((fun p:Int×Value=>decide (p.1=k)) ∘ fun p:Int×α=>(p.1,g p.2))=fun p=>decide (p.1=k):=rfl
 rw [this]
 cases l.find? (fun p=>decide (p.1=k)) <;> rfl
theorem qga:qaS (km g l) k (g v)=km g (qaS l k v):=by
 unfold qaS
 rw [qaT]
 split
 ·simp only [km,List.map_map]
  refine List.map_congr_left fun p _=>?_
  simp only [Function.comp]
  split <;> rfl
 ·simp [km]
theorem jG:qge l k=true↔∃ p∈l,p.1=k:=by simp [qge]
theorem qkQ (hn:(l.map (·.1)).Nodup) {j:Nat} (h:l[j]?=some (a,v)):ko l a z=v:=by
 have hm:=List.mem_of_getElem? h
 unfold ko
 cases hf:l.find? (fun p=>decide (p.1=a)) with
 | none =>
  have:=List.find?_eq_none.1 hf (a,v) hm
  simp at this
 | some p =>
  have hp:=List.mem_of_find?_eq_some hf
  have hpa:p.1=a:=by simpa using List.find?_some hf
  have:∀ (l:List (Int×α)),(l.map (·.1)).Nodup→∀ p q:Int×α,p∈l→q∈l→p.1=q.1→p=q:=by
   intro l
   induction l with
   | nil=>intro _ p q hp;cases hp
   | cons c l ih =>
    intro hn p q hp hq hpq
    rw [List.map_cons,List.nodup_cons] at hn
    rcases List.mem_cons.1 hp with e1 | hp' <;> rcases List.mem_cons.1 hq with e2 | hq'
    ·rw [e1,e2]
    ·exact absurd (List.mem_map.2 ⟨q,hq',by rw [← hpq,e1]⟩) hn.1
    ·exact absurd (List.mem_map.2 ⟨p,hp',by rw [hpq,e2]⟩) hn.1
    ·exact ih hn.2 p q hp' hq' hpq
  rw [this l hn p (a,v) hp hm hpa]
theorem qgg (h:∀ p∈l,p.1≠a):ko l a z=z:=by
 unfold ko
 rw [List.find?_eq_none.2 (fun p hp=>by simpa using h p hp)]
theorem qkP (hn:(l.map (·.1)).Nodup) {j:Nat} {u:α} (h:l[j]?=some (a,u)):qaS l a v=l.set j (a,v):=by
 have hm:=List.mem_of_getElem? h
 unfold qaS
 rw [if_pos (jG.2 ⟨_,hm,rfl⟩)]
 have:∀ (l:List (Int×α)) (j:Nat),(l.map (·.1)).Nodup→l[j]?=some (a,u)→l.map (fun p=>if p.1=a then (a,v) else p)=l.set j (a,v):=by
  intro l
  induction l with
  | nil=>intro j _ h;simp at h
  | cons c l ih =>
   intro j hn h
   rw [List.map_cons,List.nodup_cons] at hn
   cases j with
   | zero =>
    simp only [List.getElem?_cons_zero,Option.some.injEq] at h
    subst h
    have:l.map (fun p=>if p.1=a then (a,v) else p)=l:=by
     rw [List.map_congr_left (g:=id) (fun p hp=>?_)]
     ·simp
     ·have:p.1≠a:=fun e=>hn.1 (List.mem_map.2 ⟨p,hp,e⟩)
      simp [this]
    simp [this]
   | succ j =>
    simp only [List.getElem?_cons_succ] at h
    have hc:c.1≠a:=fun e=>hn.1 (List.mem_map.2 ⟨_,List.mem_of_getElem? h,e.symm⟩)
    simp [hc,ih j hn.2 h]
 exact this l j hn h
theorem qaU (l:List (Int×α)) (a:Int) (v:α) (k:Int) (z:α):ko (qaS l a v) k z=if k=a then v else ko l k z:=by
 unfold ko qaS
 by_cases h:qge l a=true
 ·rw [if_pos h,List.find?_map]
  obtain ⟨p0,hp0,hpa⟩:=jG.1 h
  have e1:((fun p:Int×α=>decide (p.1=k)) ∘ fun p:Int×α=>if p.1=a then (a,v) else p)=fun p=>decide (p.1=k):=by
   funext p
   simp only [Function.comp]
   split
   ·rename_i hp;rw [hp]
   ·rfl
  rw [e1]
  cases hf:l.find? (fun p=>decide (p.1=k)) with
  | none =>
   have hk:k≠a:=fun e=>by
    have:=List.find?_eq_none.1 hf p0 hp0
    rw [e] at this;simp [hpa] at this
   simp [hk]
  | some p =>
   have hpk:p.1=k:=by simpa using List.find?_some hf
   by_cases hk:k=a
   ·simp [hpk,hk]
   ·have : ¬ p.1=a:=fun e=>hk (hpk.symm.trans e)
    simp [this,hk]
 ·rw [if_neg h,List.find?_append]
  have hno:∀ p∈l,p.1≠a:=fun p hp e=>h (jG.2 ⟨p,hp,e⟩)
  cases hf:l.find? (fun p=>decide (p.1=k)) with
  | none =>
   by_cases hk:k=a
   ·subst hk;simp
   ·simp [hk,show ¬ a=k from fun e=>hk e.symm]
  | some p =>
   have hp:=List.mem_of_find?_eq_some hf
   have hpk:p.1=k:=by simpa using List.find?_some hf
   have:k≠a:=fun e=>hno p hp (hpk.trans e)
   simp [this]
end
section
variable {P:Program} {Q:Exit→Act→World→Prop} {n:Nat} {fs:Fr} {C:World→Prop} {t:TypeId} {ops:Array Oper} {rest:List Oper} {d:Nat} {pos:String} {af:Array Edge}
variable {w0:World} {own:List Nat} {m:List As} {x y z:Operand} {kt et tx:TypeId} {i b:Nat} {l:List (Int×Value)} {a:Int} {v:Value}
theorem Cls.allocO {w:World} (h:Cls w0 own m w) (o:Obj) (x:As) (hf:x.foot=[w.heap.size]) (hx:x.holds (w.alloc o)):Cls w0 own (x :: m) (w.alloc o):=by
 have hk:∀ k,k < w.heap.size→(w.alloc o).heap[k]?=w.heap[k]?:=fun k hk=>RowKit.Below.heap_alloc w _ k hk
 refine ⟨h.os,h.tape,h.output,h.dr,Nat.le_trans h.size (by simp),fun k hk' ho=>?_,?_,fun y hy=>?_⟩
 ·rw [hk k (Nat.lt_of_lt_of_le hk' h.size),h.old k hk' ho]
 ·simp only [List.flatMap_cons,hf,List.singleton_append,List.nodup_cons]
  exact ⟨fun hb=>Nat.lt_irrefl _ (h.foot_lt _ hb),h.nodup⟩
 ·rcases List.mem_cons.1 hy with rfl | hy
  ·refine ⟨hx,fun b hb=>?_⟩
   rw [hf,List.mem_singleton] at hb
   subst hb
   exact .inl h.size
  ·exact ⟨As.holds_congr (h.mine y hy).1 fun b hb=>hk b (As.holds_lt (h.mine y hy).1 b hb),(h.mine y hy).2⟩
theorem L.makeMap (hd:Nat.blt d n=true) (next:∀ b,L P ops Q n (Cls w0 own (.mp b [] :: m)) rest ((d,.map (some b)) :: fs)):L P ops Q n (Cls w0 own m) (⟨some d,.makeMap tx none,t,pos,af,none⟩ :: rest) fs :=
 L.fresh (val':=fun b=>.map (some b)) hd (fun a w hs hw=>by
  refine ⟨w.heap.size,_,?_,hw.allocO (.map #[] 0) (.mp w.heap.size []) rfl ⟨#[],0,?_,MapKept.stamped_empty 0,rfl⟩⟩
  ·simp only [execOp,Option.map_none]
   rfl
  ·show (w.heap.push _)[w.heap.size]?=_
   simp) next
theorem jp {α β:Type} (f:α→β):∀ l:List α,(l.map f).Nodup→l.Nodup
 | [],_=>List.nodup_nil
 | x :: l,h=>by
  rw [List.map_cons,List.nodup_cons] at h
  exact List.nodup_cons.2 ⟨fun hx=>h.1 (List.mem_map.2 ⟨x,hx,rfl⟩),jp f l h.2⟩
theorem wR {es:Array MapEntry} {clock:Nat} (hs:MapKept.Stamped es clock) (he:es.toList.map (fun e=>(e.key,e.val))=l.map kvp):(l.map (·.1)).Nodup:=by
 have h1:es.toList.map (·.key)=(l.map (·.1)).map (Value.int .i64):=by
  have:=congrArg (List.map Prod.fst) he
  simpa [List.map_map,kvp,Function.comp_def] using this
 have h2:=hs.2.2
 rw [h1] at h2
 exact jp _ _ h2
theorem qmG {es:Array MapEntry} (he:es.toList.map (fun e=>(e.key,e.val))=l.map kvp):∀ e∈es.toList,MapKept.IsKey (.int .i64) e.key:=by
 intro e hm
 have:(e.key,e.val)∈es.toList.map (fun e=>(e.key,e.val)):=List.mem_map.2 ⟨e,hm,rfl⟩
 rw [he] at this
 obtain ⟨p,_,hp⟩:=List.mem_map.1 this
 have:e.key=.int .i64 p.1:=(Prod.mk.inj hp).1.symm
 rw [this];rfl
theorem qa2 (w:World) (hk:P.underlying kt=some (.int .i64)) {es:Array MapEntry} (he:es.toList.map (fun e=>(e.key,e.val))=l.map kvp) (a:Int) :
  ((Instr.findKey kt (.int .i64 a) es.toList).run P w=.ok none w∧(∀ p∈l,p.1≠a)∧∀ e∈es.toList,e.key≠.int .i64 a)∨∃ j v e,(Instr.findKey kt (.int .i64 a) es.toList).run P w=.ok (some (j,v)) w∧l[j]?=some (a,v)∧es[j]?=some e∧e.key=.int .i64 a:=by
 rcases MapKept.findNow_spec (k:=.int .i64 a) (show MapKept.IsKey (.int .i64) (.int .i64 a) from rfl) es.toList 0 (qmG he) with ⟨h1,h2⟩ | ⟨j,e,h1,h2,h3⟩
 ·refine .inl ⟨MapKept.run_findKey hk h1,fun p hp heq=>?_,h2⟩
  have:kvp p∈es.toList.map (fun e=>(e.key,e.val)):=by rw [he];exact List.mem_map.2 ⟨p,hp,rfl⟩
  obtain ⟨e,hem,hee⟩:=List.mem_map.1 this
  exact h2 e hem (by rw [(Prod.mk.inj hee).1,heq])
 ·have hj:(l.map kvp)[j]?=some (e.key,e.val):=by rw [← he,List.getElem?_map,h2];rfl
  rw [List.getElem?_map] at hj
  cases hp:l[j]? with
  | none=>rw [hp] at hj;cases hj
  | some p =>
   rw [hp] at hj
   simp only [Option.map_some,Option.some.injEq,kvp,Prod.mk.injEq] at hj
   obtain ⟨e1,e2⟩:=hj
   have hpa:p.1=a:=by rw [h3] at e1;simpa using e1
   refine .inr ⟨j,p.2,e,?_,by rw [hp,← hpa],by simpa using h2,h3⟩
   have:=MapKept.run_findKey (P:=P) (w:=w) hk h1
   rwa [Nat.zero_add,← e2] at this
structure Mpd (w:World) (b:Nat) (l:List (Int×Value)) (es:Array MapEntry) (clock:Nat):Prop where
 here:w.heap[b]?=some (.map es clock)
 st:MapKept.Stamped es clock
 kv:es.toList.map (fun e=>(e.key,e.val))=l.map kvp
def qmx:As→Option (Nat×List (Int×Value))
 | .mp b l=>some (b,l)
 | .mi b _ l _ _=>some (b,l)
 | _=>none
theorem qgb {w:World} {x:As} (h:qmx x=some (b,l)) (hh:x.holds w):∃ es clock,Mpd w b l es clock:=by
 cases x <;> simp only [qmx,Option.some.injEq,Prod.mk.injEq,reduceCtorEq] at h
 ·obtain ⟨rfl,rfl⟩:=h
  obtain ⟨es,clock,h1,h2,h3⟩:=hh
  exact ⟨es,clock,h1,h2,h3⟩
 ·obtain ⟨rfl,rfl⟩:=h
  obtain ⟨es,clock,_,_,_,h1,h2,h3,_⟩:=hh
  exact ⟨es,clock,h1,h2,h3⟩
theorem wO {z0:Value} (hz:((P.info? et).bind fun i=>i.zero)=some z0) (w:World):(zeroValue et).run P w=.ok z0 w:=by
 cases hi:P.info? et with
 | none=>rw [hi] at hz;cases hz
 | some inf =>
  rw [hi] at hz
  have hz':inf.zero=some z0:=hz
  simp [zeroValue,typeInfo,hi,hz']
theorem Y.lookup0 {q:As} {z0:Value} (hu:P.underlying tx=some (.map kt et)) (hk:P.underlying kt=some (.int .i64)) (hz:((P.info? et).bind fun i=>i.zero)=some z0) (hx:val fs x=some (.map (some b))) (hy:val fs y=some (.int .i64 a)) (hm:m[i]?=some q) (hq:qmx q=some (b,l)) :
  Y P (.lookup tx x y false) t n fs (Cls w0 own m) (ko l a z0) :=
 Y.of fun d pos af g s w hs hw=>by
  obtain ⟨es,clock,hb,hst,he⟩:=qgb hq (hw.get hm)
  simp only [execOp,hs.eval hx,hs.eval hy]
  rcases qa2 (P:=P) w hk he a with ⟨h1,h2,_⟩ | ⟨j,v,e,h1,h2,_⟩
  ·simp [Instr.lookup,run_underlying hu,MapKept.run_getObj_map hb,MapKept.run_checkKey hk (show MapKept.IsKey (.int .i64) (.int .i64 a) from rfl),h1,wO hz,qgg h2]
  ·simp [Instr.lookup,run_underlying hu,MapKept.run_getObj_map hb,MapKept.run_checkKey hk (show MapKept.IsKey (.int .i64) (.int .i64 a) from rfl),h1,qkQ (wR hst he) h2]
theorem qgd (h:∀ p∈l,p.1≠a):qge l a=false:=by
 cases hh:qge l a with
 | false=>rfl
 | true =>
  obtain ⟨p,hp,e⟩:=jG.1 hh
  exact absurd e (h p hp)
section gen
variable {α:Type} {g:α→Value} {lm:List (Int×α)} {z0 v0:α}
theorem Y.lookupM {q:As} (hu:P.underlying tx=some (.map kt et)) (hk:P.underlying kt=some (.int .i64)) (hz:((P.info? et).bind fun i=>i.zero)=some (g z0)) (hx:val fs x=some (.map (some b))) (hy:val fs y=some (.int .i64 a)) (hm:m[i]?=some q) (hq:qmx q=some (b,km g lm)) :
  Y P (.lookup tx x y false) t n fs (Cls w0 own m) (g (ko lm a z0)):=by
 have:=Y.lookup0 (dR:=dR) (t:=t) (n:=n) (w0:=w0) (own:=own) hu hk hz hx hy hm hq
 rwa [qgh] at this
end gen
theorem L.mapSet0 {kv:Operand} (hu:P.underlying tx=some (.map kt et)) (hk:P.underlying kt=some (.int .i64)) (hx:val fs x=some (.map (some b))) (hy:val fs y=some (.int .i64 a)) (hz:val fs kv=some v) (hm:m[i]?=some (.mp b l))
  (next:L P ops Q n (Cls w0 own (m.set i (.mp b (qaS l a v)))) rest fs):L P ops Q n (Cls w0 own m) (⟨none,.mapUpdate tx x y kv,t,pos,af,none⟩ :: rest) fs :=
 L.runsNone (fun s w hs hw=>by
  obtain ⟨es,clock,hb,hst,he⟩:=hw.get hm
  have hn:=wR hst he
  have hbl:b < w.heap.size:=(Array.getElem?_eq_some_iff.1 hb).1
  have turned:∀ (o:Obj),(As.mp b (qaS l a v)).holds { w with heap:=w.heap.setIfInBounds b o }→Cls w0 own (m.set i (.mp b (qaS l a v))) { w with heap:=w.heap.setIfInBounds b o }:=fun o ho =>
   hw.turn hm rfl rfl rfl rfl (by simp) (Nat.le_refl _) (fun k hk=>by simp only [As.foot,List.mem_singleton] at hk;exact Array.getElem?_setIfInBounds_ne (Ne.symm hk)) ho
  simp only [execOp,hs.eval hx,hs.eval hy,hs.eval hz]
  rcases qa2 (P:=P) w hk he a with ⟨h1,h2,h2'⟩ | ⟨j,u,e,h1,h2,hes,hek⟩
  ·refine ⟨_,by simp [Instr.mapUpdate,run_underlying hu,MapKept.run_getObj_map hb,MapKept.run_checkKey hk (show MapKept.IsKey (.int .i64) (.int .i64 a) from rfl),h1,MapKept.run_setObj_map _ hb],turned (.map (es.push { key:=.int .i64 a,val:=v,born:=clock }) (clock+1)) ?_⟩
   refine ⟨es.push { key:=.int .i64 a,val:=v,born:=clock },clock+1,by simp [hbl],MapKept.stamped_push hst h2',?_⟩
   unfold qaS
   rw [if_neg (by rw [qgd h2];simp)]
   simp [he,kvp]
  ·refine ⟨_,by simp [Instr.mapUpdate,run_underlying hu,MapKept.run_getObj_map hb,MapKept.run_checkKey hk (show MapKept.IsKey (.int .i64) (.int .i64 a) from rfl),h1,hes,hek,MapKept.run_keyThatStays (show MapKept.IsKey (.int .i64) (.int .i64 a) from rfl),MapKept.run_setObj_map _ hb],turned (.map (es.modify j fun e=>{ e with key:=.int .i64 a,val:=v }) clock) ?_⟩
   refine ⟨es.modify j fun e=>{ e with key:=.int .i64 a,val:=v },clock,by simp [hbl],MapKept.stamped_modify hst _ _ (fun _ _=>rfl) (fun e' _ he'=>?_),?_⟩
   ·rw [hes,Option.some.injEq] at he';rw [← he',hek]
   ·rw [qkP hn h2,List.map_set,← he]
    apply List.ext_getElem?
    intro q
    simp only [Array.toList_modify,List.getElem?_map,List.getElem?_modify,List.getElem?_set,List.length_map,Array.length_toList]
    by_cases hq:j=q
    ·subst hq
     have hlt:=(Array.getElem?_eq_some_iff.1 hes).1
     simp [hes,hlt,kvp]
    ·simp [hq]) next
theorem L.mapSet {α:Type} {g:α→Value} {lm:List (Int×α)} {v0:α} {kv:Operand} (hu:P.underlying tx=some (.map kt et)) (hk:P.underlying kt=some (.int .i64)) (hx:val fs x=some (.map (some b))) (hy:val fs y=some (.int .i64 a)) (hz:val fs kv=some (g v0)) (hm:m[i]?=some (.mp b (km g lm)))
  (next:L P ops Q n (Cls w0 own (m.set i (.mp b (km g (qaS lm a v0))))) rest fs):L P ops Q n (Cls w0 own m) (⟨none,.mapUpdate tx x y kv,t,pos,af,none⟩ :: rest) fs :=
 L.mapSet0 hu hk hx hy hz hm (by rw [qga];exact next)
theorem ve:∀ (vs c p:List Value),vs.length=c.length→over (p++c) p.length vs=p++vs
 | [],c,p,h=>by
  have:c=[]:=List.length_eq_zero_iff.1 (by simpa using h.symm)
  subst this;rfl
 | v :: vs,[],p,h=>by simp at h
 | v :: vs,u :: c,p,h=>by
  have e:(p++u :: c).set p.length v=(p++[v])++c:=by rw [List.set_append_right _ _ (Nat.le_refl _)];simp
  have:=ve vs c (p++[v]) (by simpa using h)
  rw [over,e,show p.length+1=(p++[v]).length by simp,this]
  simp
theorem L.storeArW {α:Type} {row:α→List Value} {l l':List α} {e te:TypeId} {k kk c:Nat} (hn:l.length=c) (hn':l'.length=c) (hk:c*k=kk) (hlen:∀ z,(row z).length=k) (hp:Plain (l'.map row)) (hs:szB P te kk=true) (hx:val fs x=some (pt b 0)) (hy:val fs y=some (.agg (l'.map row).flatten.toArray))
  (hm:m[i]?=some (.obj b (l.map row).flatten e)) (next:L P ops Q n (Cls w0 own (m.set i (.obj b (l'.map row).flatten e))) rest fs):L P ops Q n (Cls w0 own m) (⟨none,.store te x y,t,pos,af,none⟩ :: rest) fs:=by
 have h1:=xp hlen l
 have h2:=xp hlen l'
 refine L.store (vs:=(l'.map row).flatten) hs hx hy (by simp [Value.cells]) (by rw [h2,hn',hk]) (fun u hu=>?_) hm (by rw [h1,hn,hk];omega) ?_
 ·obtain ⟨r,hr,hur⟩:=List.mem_flatten.1 hu
  exact hp r hr u hur
 ·have:=ve (l'.map row).flatten (l.map row).flatten [] (by rw [h1,h2,hn,hn'])
  simp only [List.nil_append,List.length_nil] at this
  rw [this]
  exact next
end
end Go.S
end
section
namespace Go.S
variable {dR:Dr}
def xn:Value:=.slice none 0 0
def gv (vs:List Value) (j:Nat):Value:=(vs[j]?).getD (.slice none 0 0)
def Sd.nil (e:TypeId) (k:Nat):Sd:=⟨.slice none 0 0,e,k,[]⟩
def zr {α:Type} (row:α→List Value→List Value) (vs:Nat→List Value):List α→List (List Value)
 | []=>[]
 | x :: xs=>row x (vs 0) :: zr row (fun i=>vs (i+1)) xs
def zs {α:Type} (sds:α→List Value→List Sd) (vs:Nat→List Value):List α→List Sd
 | []=>[]
 | x :: xs=>sds x (vs 0)++zs sds (fun i=>vs (i+1)) xs
def xM (vs:Nat→List Value) (i:Nat) (x:List Value):Nat→List Value:=fun q=>if q=i then x else vs q
theorem qjQ (vs:Nat→List Value) (x:List Value):xM vs 0 x 0=x:=rfl
theorem qgt (vs:Nat→List Value) (x:List Value):(fun i=>xM vs 0 x (i+1))=fun i=>vs (i+1):=by funext i;simp [xM]
theorem qgs (vs:Nat→List Value) (k:Nat) (x:List Value):xM vs (k+1) x 0=vs 0:=by simp [xM]
theorem qgq (vs:Nat→List Value) (k:Nat) (x:List Value):(fun i=>xM vs (k+1) x (i+1))=xM (fun i=>vs (i+1)) k x:=by funext i;simp [xM]
theorem jI (vs:Nat→List Value) (i:Nat):xM vs i (vs i)=vs:=by funext q;simp only [xM];split <;> simp_all
theorem xa {α:Type} (row:α→List Value→List Value):∀ (vs:Nat→List Value) (xs:List α),(zr row vs xs).length=xs.length
 | _,[]=>rfl
 | _,x :: xs=>by simp [zr,xa row _ xs]
theorem vn {α:Type} (row:α→List Value→List Value):∀ (vs:Nat→List Value) (xs:List α) (i:Nat) (x:α),xs[i]?=some x→(zr row vs xs)[i]?=some (row x (vs i))
 | _,[],i,x,h=>by simp at h
 | vs,y :: xs,0,x,h=>by simp only [List.getElem?_cons_zero,Option.some.injEq] at h;subst h;rfl
 | vs,y :: xs,i+1,x,h=>by
  simp only [List.getElem?_cons_succ] at h
  simp only [zr,List.getElem?_cons_succ]
  exact vn row (fun q=>vs (q+1)) xs i x h
theorem qcs {α:Type} (row:α→List Value→List Value):∀ (vs:Nat→List Value) (xs:List α) (i:Nat) (x:α) (v:List Value),i < xs.length→zr row (xM vs i v) (xs.set i x)=(zr row vs xs).set i (row x v)
 | _,[],i,x,v,h=>by simp at h
 | vs,y :: xs,0,x,v,h=>by simp only [List.set_cons_zero,zr,qjQ,qgt]
 | vs,y :: xs,i+1,x,v,h=>by
  simp only [List.length_cons] at h
  simp only [List.set_cons_succ,zr,qgs,qgq]
  rw [qcs row (fun q=>vs (q+1)) xs i x v (by omega)]
theorem qax {α:Type} {row:α→List Value→List Value} {k:Nat} (hlen:∀ z v,(row z v).length=k):∀ (vs:Nat→List Value) (xs:List α),∀ r∈zr row vs xs,r.length=k
 | _,[],r,h=>by simp [zr] at h
 | vs,y :: xs,r,h=>by
  simp only [zr,List.mem_cons] at h
  rcases h with rfl | h
  ·exact hlen _ _
  ·exact qax hlen _ xs r h
theorem vm {α:Type} {sds:α→List Value→List Sd} {c:Nat} (hc:∀ z v,(sds z v).length=c):∀ (vs:Nat→List Value) (xs:List α) (i j:Nat) (x:α),xs[i]?=some x→j < c→(zs sds vs xs)[i*c+j]?=(sds x (vs i))[j]?
 | _,[],i,j,x,h,_=>by simp at h
 | vs,y :: xs,0,j,x,h,hj=>by
  simp only [List.getElem?_cons_zero,Option.some.injEq] at h
  subst h
  simp only [zs,Nat.zero_mul,Nat.zero_add]
  rw [List.getElem?_append_left (by rw [hc];exact hj)]
 | vs,y :: xs,i+1,j,x,h,hj=>by
  simp only [List.getElem?_cons_succ] at h
  simp only [zs]
  rw [List.getElem?_append_right (by rw [hc,Nat.succ_mul];omega),hc,show (i+1)*c+j - c=i*c+j by rw [Nat.succ_mul];omega]
  exact vm hc (fun q=>vs (q+1)) xs i j x h hj
theorem qcr {α:Type} {sds:α→List Value→List Sd} {c:Nat} (hc:∀ z v,(sds z v).length=c):∀ (vs:Nat→List Value) (xs:List α) (i j:Nat) (x0 x:α) (v:List Value) (d:Sd),xs[i]?=some x0→j < c→sds x v=(sds x0 (vs i)).set j d→zs sds (xM vs i v) (xs.set i x)=(zs sds vs xs).set (i*c+j) d
 | _,[],i,j,x0,x,v,d,h,_,_=>by simp at h
 | vs,y :: xs,0,j,x0,x,v,d,h,hj,hd=>by
  simp only [List.getElem?_cons_zero,Option.some.injEq] at h
  subst h
  simp only [List.set_cons_zero,zs,qjQ,qgt,Nat.zero_mul,Nat.zero_add]
  rw [hd,List.set_append_left _ _ (by rw [hc];exact hj)]
 | vs,y :: xs,i+1,j,x0,x,v,d,h,hj,hd=>by
  simp only [List.getElem?_cons_succ] at h
  simp only [List.set_cons_succ,zs,qgs,qgq]
  rw [List.set_append_right _ _ (by rw [hc,Nat.succ_mul];omega),hc,show (i+1)*c+j - c=i*c+j by rw [Nat.succ_mul];omega,qcr hc (fun q=>vs (q+1)) xs i j x0 x v d h hj hd]
theorem qfq {α:Type} (row:α→List Value→List Value) (nv:List Value) (z:α):∀ n,zr row (fun _=>nv) (List.replicate n z)=List.replicate n (row z nv)
 | 0=>rfl
 | n+1=>by rw [List.replicate_succ,zr,qfq row nv z n,List.replicate_succ]
theorem zb {α:Type} {sds:α→List Value→List Sd} {nv:List Value} {z:α} {p:Sd→Prop} (h:∀ d∈sds z nv,p d):∀ n,∀ d∈zs sds (fun _=>nv) (List.replicate n z),p d
 | 0,d,hd=>by simp [zs] at hd
 | n+1,d,hd=>by
  rw [List.replicate_succ,zs,List.mem_append] at hd
  rcases hd with h1 | h1
  ·exact h d h1
  ·exact zb h n d h1
theorem zW {l:List Sd} {i:Nat} {d d':Sd} (hi:l[i]?=some d) (hf:d'.foot=[]):(d.foot++(l.set i d').flatMap Sd.foot).Perm (l.flatMap Sd.foot):=by
 induction l generalizing i with
 | nil=>simp at hi
 | cons a l ih =>
  cases i with
  | zero =>
   simp only [List.getElem?_cons_zero,Option.some.injEq] at hi
   subst hi
   simp [hf]
  | succ i =>
   simp only [List.getElem?_cons_succ] at hi
   simp only [List.set_cons_succ,List.flatMap_cons]
   refine List.Perm.trans ?_ (List.Perm.append_left a.foot (ih hi))
   rw [← List.append_assoc,← List.append_assoc]
   exact List.Perm.append_right _ List.perm_append_comm
theorem w6 {m:List As} {i:Nat} {x y:As} (hi:m[i]?=some x):(x.foot++(m.set i y).flatMap As.foot).Perm (y.foot++m.flatMap As.foot):=by
 induction m generalizing i with
 | nil=>simp at hi
 | cons a m ih =>
  cases i with
  | zero =>
   simp only [List.getElem?_cons_zero,Option.some.injEq] at hi
   subst hi
   simp only [List.set_cons_zero,List.flatMap_cons]
   rw [← List.append_assoc,← List.append_assoc]
   exact List.Perm.append_right _ List.perm_append_comm
  | succ i =>
   simp only [List.getElem?_cons_succ] at hi
   simp only [List.set_cons_succ,List.flatMap_cons]
   refine List.Perm.trans ?_ (List.Perm.trans (List.Perm.append_left a.foot (ih hi)) ?_)
   ·rw [← List.append_assoc,← List.append_assoc];exact List.Perm.append_right _ List.perm_append_comm
   ·rw [← List.append_assoc,← List.append_assoc];exact List.Perm.append_right _ List.perm_append_comm
theorem qbd {m:List As} {i:Nat} {x:As} (hi:m[i]?=some x):(x.foot++(m.eraseIdx i).flatMap As.foot).Perm (m.flatMap As.foot):=by
 induction m generalizing i with
 | nil=>simp at hi
 | cons a m ih =>
  cases i with
  | zero =>
   simp only [List.getElem?_cons_zero,Option.some.injEq] at hi
   subst hi
   simp
  | succ i =>
   simp only [List.getElem?_cons_succ] at hi
   simp only [List.eraseIdx_cons_succ,List.flatMap_cons]
   refine List.Perm.trans ?_ (List.Perm.append_left a.foot (ih hi))
   rw [← List.append_assoc,← List.append_assoc]
   exact List.Perm.append_right _ List.perm_append_comm
section
variable {w0 w w':World} {own:List Nat} {m m':List As}
theorem Cls.re (h:Cls w0 own m w) (hsub:∀ b∈m'.flatMap As.foot,b∈m.flatMap As.foot) (hn:(m'.flatMap As.foot).Nodup) (hold:∀ x∈m',x.holds w):Cls w0 own m' w:=by
 refine ⟨h.os,h.tape,h.output,h.dr,h.size,h.old,hn,fun x hx=>⟨hold x hx,fun b hb=>?_⟩⟩
 obtain ⟨y,hy,hby⟩:=List.mem_flatMap.1 (hsub b (List.mem_flatMap.2 ⟨x,hx,hb⟩))
 exact (h.mine y hy).2 b hby
theorem Cls.rePerm (h:Cls w0 own m w) (hp:(m'.flatMap As.foot).Perm (m.flatMap As.foot)) (hold:∀ x∈m',x.holds w):Cls w0 own m' w :=
 h.re (fun b hb=>hp.mem_iff.1 hb) (hp.nodup_iff.2 h.nodup) hold
theorem yF (e:TypeId) (k:Nat):(Sd.nil e k).foot=[]:=rfl
theorem zO (w:World) (e:TypeId) (k:Nat):slHolds w (.slice none 0 0) e k []:=⟨by simp,by simp,.inl ⟨rfl,rfl⟩⟩
theorem Cls.ssNew (h:Cls w0 own m w) {l:List Sd} (hl:∀ d∈l,d.v=.slice none 0 0∧d.rows=[]):Cls w0 own (.ss l :: m) w:=by
 have hf:l.flatMap Sd.foot=[]:=by
  rw [List.flatMap_eq_nil_iff]
  intro d hd
  unfold Sd.foot
  rw [(hl d hd).1];rfl
 refine h.rePerm ?_ fun x hx=>?_
 ·simp [As.foot,hf]
 ·rcases List.mem_cons.1 hx with rfl | hx
  ·intro d hd
   obtain ⟨h1,h2⟩:=hl d hd
   rw [h1,h2]
   exact zO w _ _
  ·exact (h.mine x hx).1
theorem Cls.ssOut (h:Cls w0 own m w) {s i:Nat} {l:List Sd} {v:Value} {e:TypeId} {k:Nat} {rows:List (List Value)} (hs:m[s]?=some (.ss l)) (hi:l[i]?=some ⟨v,e,k,rows⟩) (e':TypeId) (k':Nat):Cls w0 own (.sl v e k rows :: m.set s (.ss (l.set i (Sd.nil e' k')))) w:=by
 have hss:(As.ss l).holds w:=h.get hs
 have hd:(⟨v,e,k,rows⟩:Sd)∈l:=List.mem_of_getElem? hi
 refine h.rePerm ?_ fun x hx=>?_
 ·simp only [List.flatMap_cons]
  have h1:=w6 (y:=.ss (l.set i (Sd.nil e' k'))) hs
  have h2:=zW hi (yF e' k')
  have h3:((As.sl v e k rows).foot++(As.ss (l.set i (Sd.nil e' k'))).foot).Perm (As.ss l).foot:=h2
  have h4:((As.ss (l.set i (Sd.nil e' k'))).foot++((As.sl v e k rows).foot++(m.set s (.ss (l.set i (Sd.nil e' k')))).flatMap As.foot)).Perm ((As.ss (l.set i (Sd.nil e' k'))).foot++m.flatMap As.foot):=by
   rw [← List.append_assoc]
   exact (List.Perm.append_right _ (List.perm_append_comm.trans h3)).trans h1
  exact (List.perm_append_left_iff _).1 h4
 ·rcases List.mem_cons.1 hx with rfl | hx
  ·exact hss _ hd
  ·rcases List.mem_or_eq_of_mem_set hx with hx | rfl
   ·exact (h.mine x hx).1
   ·intro d hd'
    rcases List.mem_or_eq_of_mem_set hd' with h1 | rfl
    ·exact hss d h1
    ·exact zO w _ _
theorem Cls.ssIn (h:Cls w0 own m w) {p s i:Nat} {l:List Sd} {v:Value} {e e':TypeId} {k k':Nat} {rows:List (List Value)} (hp:m[p]?=some (.sl v e k rows)) (hs:m[s]?=some (.ss (l.set i (Sd.nil e' k')))) (hps:p≠s) (hi:i < l.length):Cls w0 own ((m.set s (.ss (l.set i ⟨v,e,k,rows⟩))).eraseIdx p) w:=by
 have hss:(As.ss (l.set i (Sd.nil e' k'))).holds w:=h.get hs
 have hsl:(As.sl v e k rows).holds w:=h.get hp
 have hp':(m.set s (.ss (l.set i ⟨v,e,k,rows⟩)))[p]?=some (.sl v e k rows):=by rw [List.getElem?_set_ne (Ne.symm hps)];exact hp
 refine h.rePerm ?_ fun x hx=>?_
 ·have h1:=qbd hp'
  have h2:=w6 (y:=.ss (l.set i ⟨v,e,k,rows⟩)) hs
  have h3:((As.sl v e k rows).foot++(As.ss (l.set i (Sd.nil e' k'))).foot).Perm (As.ss (l.set i ⟨v,e,k,rows⟩)).foot:=by
   have:=zW (l:=l.set i ⟨v,e,k,rows⟩) (i:=i) (d:=⟨v,e,k,rows⟩) (d':=Sd.nil e' k') (by simp [hi]) (yF e' k')
   rw [List.set_set] at this
   exact this
  have h5:((As.sl v e k rows).foot++(As.ss (l.set i (Sd.nil e' k'))).foot++((m.set s (.ss (l.set i ⟨v,e,k,rows⟩))).eraseIdx p).flatMap As.foot).Perm ((As.sl v e k rows).foot++(As.ss (l.set i (Sd.nil e' k'))).foot++m.flatMap As.foot):=by
   refine List.Perm.trans ?_ (List.Perm.trans h2 (List.Perm.append_right _ h3.symm))
   refine List.Perm.trans (List.Perm.append_right _ List.perm_append_comm) ?_
   rw [List.append_assoc]
   exact List.Perm.append_left _ h1
  exact (List.perm_append_left_iff _).1 h5
 ·have hx':=List.mem_of_mem_eraseIdx hx
  rcases List.mem_or_eq_of_mem_set hx' with hx | rfl
  ·exact (h.mine x hx).1
  ·intro d hd'
   obtain ⟨j,hj⟩:=List.getElem?_of_mem hd'
   rw [List.getElem?_set] at hj
   split at hj
   ·simp [hi] at hj
    subst hj
    exact hsl
   ·rename_i hne
    refine hss d ?_
    refine List.mem_of_getElem? (i:=j) ?_
    rw [List.getElem?_set_ne hne]
    exact hj
theorem Cls.ssLess (h:Cls w0 own m w) {s:Nat} {l l':List Sd} (hs:m[s]?=some (.ss l)) (hsub:∀ b∈l'.flatMap Sd.foot,b∈l.flatMap Sd.foot) (hn:(l.flatMap Sd.foot).Nodup→(l'.flatMap Sd.foot).Nodup) (hold:(As.ss l).holds w→(As.ss l').holds w):Cls w0 own (m.set s (.ss l')) w:=by
 have hil:=(List.getElem?_eq_some_iff.1 hs).1
 have key:∀ (m:List As) (s:Nat),m[s]?=some (.ss l)→(m.flatMap As.foot).Nodup→((m.set s (.ss l')).flatMap As.foot).Nodup∧∀ b∈(m.set s (.ss l')).flatMap As.foot,b∈m.flatMap As.foot:=by
  intro m
  induction m with
  | nil=>intro s h;simp at h
  | cons a m ih =>
   intro s hs hnd
   rw [List.flatMap_cons,List.nodup_append] at hnd
   cases s with
   | zero =>
    simp only [List.getElem?_cons_zero,Option.some.injEq] at hs
    subst hs
    simp only [List.set_cons_zero,List.flatMap_cons]
    refine ⟨List.nodup_append.2 ⟨hn hnd.1,hnd.2.1,fun a ha b hb=>hnd.2.2 a (hsub a ha) b hb⟩,fun b hb=>?_⟩
    rcases List.mem_append.1 hb with h1 | h1
    ·exact List.mem_append_left _ (hsub b h1)
    ·exact List.mem_append_right _ h1
   | succ s =>
    simp only [List.getElem?_cons_succ] at hs
    obtain ⟨g1,g2⟩:=ih s hs hnd.2.1
    simp only [List.set_cons_succ,List.flatMap_cons]
    refine ⟨List.nodup_append.2 ⟨hnd.1,g1,fun a ha b hb=>hnd.2.2 a ha b (g2 b hb)⟩,fun b hb=>?_⟩
    rcases List.mem_append.1 hb with h1 | h1
    ·exact List.mem_append_left _ h1
    ·exact List.mem_append_right _ (g2 b h1)
 obtain ⟨g1,g2⟩:=key m s hs h.nodup
 refine h.re g2 g1 fun x hx=>?_
 rcases List.mem_or_eq_of_mem_set hx with hx | rfl
 ·exact (h.mine x hx).1
 ·exact hold (h.get hs)
end
end Go.S
end
section
namespace Go.S
variable {dR:Dr}
def qh {α:Type} (x:α) (vs:List Value):List Value:=[gv vs 0]
def qF {α:Type} (e:TypeId) (k:Nat) (row:α→List Value) (x:List α) (vs:List Value):List Sd:=[⟨gv vs 0,e,k,x.map row⟩]
def clr {α:Type} (l:List α) (a:Int) (z:α):Option (List α):=if 0≤a∧a≤l.length then some (l.take a.toNat++List.replicate (l.length - a.toNat) z) else none
theorem qiS {α:Type} {l l':List α} {a:Int} {z:α} (h:clr l a z=some l'):0≤a∧a≤l.length∧l'=l.take a.toNat++List.replicate (l.length - a.toNat) z:=by
 unfold clr at h
 split at h
 ·rename_i h1
  simp only [Option.some.injEq] at h
  exact ⟨h1.1,h1.2,h.symm⟩
 ·cases h
theorem qG {k:Nat}:∀ (rows:List (List Value)),(∀ r∈rows,r.length=k)→rows.flatten.length=rows.length*k
 | [],_=>by simp
 | r :: rows,h=>by
  simp only [List.flatten_cons,List.length_append,List.length_cons,Nat.succ_mul]
  rw [qG rows (fun q hq=>h q (by simp [hq])),h r (by simp)]
  omega
theorem ji:∀ d∈([]:List Sd),d.v=.slice none 0 0∧d.rows=[]:=by simp
theorem qiK {d:Sd} {l:List Sd} (h1:d.v=.slice none 0 0) (h2:d.rows=[]) (h:∀ d∈l,d.v=.slice none 0 0∧d.rows=[]):∀ d'∈d :: l,d'.v=.slice none 0 0∧d'.rows=[]:=List.forall_mem_cons.2 ⟨⟨h1,h2⟩,h⟩
section
variable {P:Program} {Q:Exit→Act→World→Prop} {n:Nat} {fs:Fr} {t:TypeId} {ops:Array Oper} {rest:List Oper} {d:Nat} {pos:String} {af:Array Edge}
variable {w0:World} {own:List Nat} {m:List As} {x y:Operand} {e te tx:TypeId} {q s p o i j k kk b c by':Nat} {v u:Value} {vals:List Value}
theorem L.runsNoneV {op:Op} {C D:World→Prop}
  (hr:∀ a w,Slots n fs a→C w→∃ v w',(execOp a.eval ⟨none,op,t,pos,af,none⟩).run P w=.ok (.value v) w'∧D w')
  (k:L P ops Q n D rest fs):L P ops Q n C (⟨none,op,t,pos,af,none⟩ :: rest) fs:=by
 intro a w hs hw
 obtain ⟨v,w',h,hv⟩:=hr a w hs hw
 simp only [wpList,Region.wanted,if_true]
 refine .inl ?_
 unfold Oper.wp
 rw [h]
 exact k _ w' hs hv
theorem L.clear {rows:List (List Value)} {a:Nat} {zc:List Value} (hu:P.underlying tx=some (.slice e)) (he:ze P e k by'=true) (hz:zh P e=some zc) (h1:∀ u∈zc,u.oneCell'=true) (hx:val fs x=some (zq v a k)) (hm:m[i]?=some (.sl v e k rows)) (ha:a≤rows.length)
  (next:L P ops Q n (Cls w0 own (m.set i (.sl v e k (rows.take a++List.replicate (rows.length - a) zc)))) rest fs) :
  L P ops Q n (Cls w0 own m) (⟨none,.call ⟨.builtin .clear,#[x],#[tx]⟩,t,pos,af,none⟩ :: rest) fs:=by
 exact L.runsNoneV (fun ac w hsl hw=>by
  obtain ⟨hrl,hl,hown⟩:=hw.get hm
  obtain ⟨inf,z,hi,hz',hsz,hby,hzs,hk⟩:=xf he
  have hzz:z.cells.toList=zc:=by
   unfold zh at hz
   simpa [hi,hz'] using hz
  have hzl:zc.length=k:=by rw [← hzz];simp [hzs]
  have hnoop:∀ (hd0:rows.length - a=0),Cls w0 own (m.set i (.sl v e k (rows.take a++List.replicate (rows.length - a) zc))) w:=by
   intro h0
   rw [h0,List.replicate_zero,List.append_nil,List.take_of_length_le (by omega)]
   have:m.set i (.sl v e k rows)=m:=by
    obtain ⟨h2,h3⟩:=List.getElem?_eq_some_iff.1 hm
    rw [← h3,List.set_getElem_self]
   rw [this];exact hw
  rcases hown with ⟨rfl,hn⟩ | ⟨g,cap,cur,rfl,hg,hh,hnc,hcm,hcs,htake⟩
  ·have:rows=[]:=List.length_eq_zero_iff.1 hn
   subst this
   refine ⟨.tuple #[],w,?_,hnoop (by simp)⟩
   simp only [execOp,resolve,List.map_toArray,List.map_cons,List.map_nil,hsl.eval hx,zq]
   simp [invoke,builtin,Builtin.clear_,run_underlying hu]
  ·by_cases h0:rows.length - a=0
   ·refine ⟨.tuple #[],w,?_,hnoop h0⟩
    simp only [execOp,resolve,List.map_toArray,List.map_cons,List.map_nil,hsl.eval hx,zq,h0]
    cases (if cap - a=0 then some (⟨g,0,none⟩:Addr) else (some (⟨g,0,none⟩:Addr)).map (·.add (a*k))) <;> simp [invoke,builtin,Builtin.clear_,run_underlying hu]
   ·have hcl:cur.toList.length=cap*k:=by simp [hcs]
    have hh':w.heap[g]?=some (.cells cur.toList.toArray e (0,0)):=by simpa using hh
    have hrows:=qcP z.cells (rows.length - a) k hzs hk
    rw [hzz] at hrows
    have hzcs:(Builtin.zeroCells z.cells (rows.length - a)).toList=(List.replicate (rows.length - a) zc).flatten:=by
     unfold Builtin.zeroCells
     rw [hzs]
     rw [hzs] at hrows
     exact hrows
    have hrep:∀ r∈List.replicate (rows.length - a) zc,r.length=k:=by
     intro r hr;rw [List.mem_replicate] at hr;rw [hr.2,hzl]
    have hfl:(List.replicate (rows.length - a) zc).flatten.length=(rows.length - a)*k:=by rw [qG _ hrep,List.length_replicate]
    have hmul:a*k+(rows.length - a)*k=rows.length*k:=by rw [← Nat.add_mul];congr 1;omega
    have hmulc:rows.length*k≤cap*k:=Nat.mul_le_mul_right k hnc
    obtain ⟨w',h2,h3,h4⟩:=qQ (P:=P) g e (a*k) (List.replicate (rows.length - a) zc).flatten 0 cur.toList w hh' (by omega) (by
     intro u hu'
     obtain ⟨r,hr,hur⟩:=List.mem_flatten.1 hu'
     rw [List.mem_replicate] at hr
     rw [hr.2] at hur
     exact h1 u hur)
    refine ⟨.tuple #[],w',?_,?_⟩
    ·have hca : ¬ (cap - a=0):=by omega
     simp only [execOp,resolve,List.map_toArray,List.map_cons,List.map_nil,hsl.eval hx,zq]
     rw [if_neg hca]
     obtain ⟨q,hq⟩:∃ q,rows.length - a=q+1:=⟨rows.length - a - 1,by omega⟩
     have hzv:∀ w,(zeroValue e).run P w=.ok z w:=fun w=>by simp [zeroValue,typeInfo,hi,hz']
     rw [← hzcs,hq] at h2
     rw [hq]
     simp [invoke,builtin,Builtin.clear_,run_underlying hu,hzv,Addr.add_lit,h2]
    ·have htk:∀ (us:List Value) (c:List Value) (z a:Nat),a+us.length≤z→(over c a us).take z=over (c.take z) a us:=by
      intro us
      induction us with
      | nil=>intro c z a _;rfl
      | cons p us ih=>intro c z a h;simp only [List.length_cons] at h;rw [over,over,ih _ _ _ (by omega),List.take_set]
     have hrl2:∀ r∈rows.take a++List.replicate (rows.length - a) zc,r.length=k:=by
      intro r hr
      rcases List.mem_append.1 hr with h | h
      ·exact hrl r (List.mem_of_mem_take h)
      ·exact hrep r h
     have hlen2:(rows.take a++List.replicate (rows.length - a) zc).length=rows.length:=by simp;omega
     refine hw.turn hm rfl h4.os h4.tape h4.output h4.size (Nat.le_of_eq h4.drawn.symm) (fun p hp=>h4.rest p (by simpa [As.foot,Value.ownBlock] using hp)) ⟨hrl2,?_,.inr ⟨g,cap,(over cur.toList (a*k+0) (List.replicate (rows.length - a) zc).flatten).toArray,by rw [hlen2],hg,h3,by rw [hlen2];exact hnc,hcm,by simp [zw,hcs],?_⟩⟩
     ·rw [qG _ hrl2]
     ·rw [hlen2,Nat.add_zero]
      rw [htk _ _ _ _ (by rw [hfl];omega),htake]
      have e1:rows.flatten=(rows.take a).flatten++(rows.drop a).flatten:=by rw [← List.flatten_append,List.take_append_drop]
      have e2:(rows.take a).flatten.length=a*k:=by rw [qG _ (fun r hr=>hrl r (List.mem_of_mem_take hr)),List.length_take,Nat.min_eq_left ha]
      have e3:=ve (List.replicate (rows.length - a) zc).flatten (rows.drop a).flatten (rows.take a).flatten (by rw [hfl,qG _ (fun r hr=>hrl r (List.mem_of_mem_drop hr)),List.length_drop])
      rw [e2] at e3
      rw [e1,e3,List.flatten_append]) next
section ghost
variable {α ρ:Type} {r:ρ} {row:α→List Value→List Value} {sds:α→List Value→List Sd} {vs:Nat→List Value} {l:List α} {a:Int} {u0 u1:α} {f:List α→Option ρ}
theorem L.clearM {g:α→List Value} {z0:α} (h:qb (clr l a z0) f=some r) (hu:P.underlying tx=some (.slice e)) (he:ze P e k by'=true) (hz:zh P e=some (g z0)) (h1:∀ u∈g z0,u.oneCell'=true) (hx:val fs x=some (zq v a.toNat k)) (hm:m[i]?=some (.sl v e k (l.map g)))
  (next:∀ z,clr l a z0=some z→f z=some r→L P ops Q n (Cls w0 own (m.set i (.sl v e k (z.map g)))) rest fs) :
  L P ops Q n (Cls w0 own m) (⟨none,.call ⟨.builtin .clear,#[x],#[tx]⟩,t,pos,af,none⟩ :: rest) fs:=by
 obtain ⟨z,hz',h⟩:=qc h
 obtain ⟨h2,h3,rfl⟩:=qiS hz'
 refine L.clear hu he hz h1 hx hm (by rw [List.length_map];omega) ?_
 have:=next _ hz' h
 rwa [List.map_append,List.map_take,List.map_replicate,← List.length_map (f:=g) (as:=l)] at this
theorem L.ssNew {cs:List Value} {xs:List α} (hc:cs=(zr row vs xs).flatten) (hn:∀ d∈zs sds vs xs,d.v=.slice none 0 0∧d.rows=[]) (next:L P ops Q n (Cls w0 own (.obj b (zr row vs xs).flatten e :: .ss (zs sds vs xs) :: m)) rest fs):L P ops Q n (Cls w0 own (.obj b cs e :: m)) rest fs:=by
 subst hc
 exact L.to (fun w hw=>(hw.ssNew hn).perm (List.Perm.swap ..)) next
theorem qfr (hlen:∀ z v,(row z v).length=k) (hr:idx l a=some u0) {pv:Value} (hp:(row u0 (vs a.toNat))[j]?=some pv):(zr row vs l).flatten[0+a.toNat*k+j]?=some pv:=by
 rw [Nat.zero_add]
 exact qJ _ _ _ _ _ (qax hlen vs l) (vn row vs l _ _ (qe hr).2.2) hp
theorem Y.loadZ (ha:qM P te false=true) (hx:val fs x=some (pt b o)) (ho:o=0+a.toNat*k+j) (hm:m[q]?=some (.obj b (zr row vs l).flatten e)) (hlen:∀ z v,(row z v).length=k) (hr:idx l a=some u0) {pv:Value} (hp:(row u0 (vs a.toNat))[j]?=some pv) :
  Y P (.load te x) t n fs (Cls w0 own m) pv:=by
 subst ho
 exact Y.loadP ha hx hm (qfr hlen hr hp)
theorem qfT (hc:∀ z v,(sds z v).length=c) {dd:Sd} {z:α} {v:List Value} (hj:(sds z v)[j]?=some dd):j < c:=by
 have:=(List.getElem?_eq_some_iff.1 hj).1
 rwa [hc] at this
theorem As.atZ {w:World} (h:(As.ss (zs sds vs l)).holds w) (hc:∀ z v,(sds z v).length=c) (hr:idx l a=some u0) {rows:List (List Value)} (hj:(sds u0 (vs a.toNat))[j]?=some ⟨v,e,k,rows⟩):At w v k rows:=by
 have h1:=vm hc vs l a.toNat j u0 (qe hr).2.2 (qfT hc hj)
 rw [hj] at h1
 exact As.at_ (e:=e) (h _ (List.mem_of_getElem? h1))
theorem L.ssOut (hs:m[s]?=some (.ss (zs sds vs l))) (hc:∀ z v,(sds z v).length=c) (hr:idx l a=some u0) {rows:List (List Value)} (hj:(sds u0 (vs a.toNat))[j]?=some ⟨v,e,k,rows⟩)
  (next:L P ops Q n (Cls w0 own (.sl v e k rows :: m.set s (.ss ((zs sds vs l).set (a.toNat*c+j) (Sd.nil 0 0))))) rest fs):L P ops Q n (Cls w0 own m) rest fs :=
 L.to (fun w hw=>hw.ssOut hs (by rw [vm hc vs l a.toNat j u0 (qe hr).2.2 (qfT hc hj)];exact hj) 0 0) next
theorem qf5 (hlen:∀ z v,(row z v).length=k) (hr:idx l a=some u0) {v1:List Value} (hj:j+vals.length≤k) (hrow:over (row u0 (vs a.toNat)) j vals=row u1 v1):over (zr row vs l).flatten (0+a.toNat*k+j) vals=(zr row (xM vs a.toNat v1) (l.set a.toNat u1)).flatten:=by
 have hi:=qe hr
 rw [Nat.zero_add,jF vals _ a.toNat j _ (qax hlen vs l) (vn row vs l _ _ hi.2.2) hj,hrow,qcs row vs l a.toNat u1 v1 (by omega)]
theorem qaw (hlen:∀ z v,(row z v).length=k):(zr row vs l).flatten.length=l.length*k:=by rw [qG _ (qax hlen vs l),xa]
theorem L.storeZS (h:qb (upd l a u1) f=some r) (hs:szB P te 1=true) (hx:val fs x=some (pt b o)) (ho:o=0+a.toNat*k+j) (hy:val fs y=some v) {e':TypeId} {k' jj:Nat} {rows:List (List Value)} {L0:List Sd} {v1:List Value}
  (hm:m[q]?=some (.obj b (zr row vs l).flatten e)) (hp:m[p]?=some (.sl v e' k' rows)) (hms:m[s]?=some (.ss L0)) (hL:L0=zs sds vs l∨L0=(zs sds vs l).set (a.toNat*c+jj) (Sd.nil 0 0)) (hlen:∀ z v,(row z v).length=k) (hc:∀ z v,(sds z v).length=c) (hr:idx l a=some u0) (hj:Nat.ble (j+1) k=true)
  (hrow:over (row u0 (vs a.toNat)) j [v]=row u1 v1) (hjj:Nat.blt jj c=true) (hsd:sds u1 v1=(sds u0 (vs a.toNat)).set jj ⟨v,e',k',rows⟩)
  (next:∀ z vs',z=l.set a.toNat u1→f z=some r→L P ops Q n (Cls w0 own (((m.set q (.obj b (zr row vs' z).flatten e)).set s (.ss (zs sds vs' z))).eraseIdx p)) rest fs) :
  L P ops Q n (Cls w0 own m) (⟨none,.store te x y,t,pos,af,none⟩ :: rest) fs:=by
 subst ho
 have hi:=qe hr
 have hj':j+1≤k:=by simpa using hj
 have hjj':jj < c:=by simpa [Nat.blt_eq] using hjj
 have hib:(a.toNat+1)*k≤l.length*k:=Nat.mul_le_mul_right k (by omega)
 rw [Nat.succ_mul] at hib
 refine L.storeV hs hx hy (fun w hw=>(As.at_ (hw.get hp)).one) hm (by rw [qaw hlen];omega) ?_
 rw [qf5 hlen hr hj' hrow]
 refine L.to (fun w hw=>?_) (next _ (xM vs a.toNat v1) rfl (zR h rfl))
 have hqs:q≠s:=by rintro rfl;rw [hm] at hms;cases hms
 have hqp:q≠p:=by rintro rfl;rw [hm] at hp;cases hp
 have hps:p≠s:=by rintro rfl;rw [hp] at hms;cases hms
 have hzs:=qcr hc vs l a.toNat jj u0 u1 v1 _ hi.2.2 hjj' hsd
 have hlt:a.toNat*c+jj < (zs sds vs l).length:=by
  have h3:=vm hc vs l a.toNat jj u0 hi.2.2 hjj'
  rw [List.getElem?_eq_getElem (l:=sds u0 (vs a.toNat)) (by rw [hc];exact hjj')] at h3
  exact (List.getElem?_eq_some_iff.1 h3).1
 have hp2:(m.set q (.obj b (zr row (xM vs a.toNat v1) (l.set a.toNat u1)).flatten e))[p]?=some (.sl v e' k' rows):=by rw [List.getElem?_set_ne hqp];exact hp
 have hs2:(m.set q (.obj b (zr row (xM vs a.toNat v1) (l.set a.toNat u1)).flatten e))[s]?=some (.ss L0):=by rw [List.getElem?_set_ne hqs];exact hms
 rw [hzs]
 rcases hL with rfl | rfl
 ·
  have h3:∃ d,(zs sds vs l)[a.toNat*c+jj]?=some d:=⟨_,List.getElem?_eq_getElem hlt⟩
  obtain ⟨d0,h3⟩:=h3
  have h4:=zW h3 (yF 0 0)
  have h5:=hw.ssLess hs2 (l':=(zs sds vs l).set (a.toNat*c+jj) (Sd.nil 0 0)) (fun b hb=>h4.mem_iff.1 (List.mem_append_right _ hb)) (fun hnd=>(List.nodup_append.1 (h4.nodup_iff.2 hnd)).2.1) (fun hh d hd=>by
   rcases List.mem_or_eq_of_mem_set hd with h6 | rfl
   ·exact hh d h6
   ·exact zO w 0 0)
  have h6:=h5.ssIn (p:=p) (s:=s) (i:=a.toNat*c+jj) (e':=0) (k':=0) (by rw [List.getElem?_set_ne (Ne.symm hps)];exact hp2) (by rw [List.getElem?_set_self (by
   have:=(List.getElem?_eq_some_iff.1 hs2).1
   exact this)]) hps hlt
  rwa [List.set_set] at h6
 ·exact hw.ssIn hp2 hs2 hps hlt
end ghost
end
section
variable {P:Program} {Q:Exit→Act→World→Prop} {n:Nat} {C:World→Prop} {fs:Fr} {t:TypeId} {ops:Array Oper} {rest:List Oper} {d:Nat} {pos:String} {af:Array Edge} {x y:Operand} {tx ty:TypeId}
variable {α:Type} {row:α→List Value} {l l':List α} {k m:Nat} {e:TypeId}
theorem qcY (hr:∀ z,(row z).length=k) (hin:∀ a b,row a=row b→a=b):∀ (l l':List α),l.length=l'.length→(l.map row).flatten=(l'.map row).flatten→l=l'
 | [],[],_,_=>rfl
 | a :: l,b :: l',h1,h2=>by
  simp only [List.map_cons,List.flatten_cons] at h2
  obtain ⟨h3,h4⟩:=List.append_inj h2 (by rw [hr,hr])
  rw [hin a b h3,qcY hr hin l l' (by simpa using h1) h4]
theorem Y.eqlAr [DecidableEq α] (hg:P.eqGuardType P.depth tx=false) (ha:qM P tx true=true) (hu:P.underlying tx=some (.array k e)) (hi:(P.info? e).isSome=true) (hr:∀ z,(row z).length=P.cellsOf e) (hs:∀ z,shB P 4 e (row z)=true) (hin:∀ a b,row a=row b→a=b) (hl:l.length=k) (hl':l'.length=k)
  (hx:val fs x=some (.agg (l.map row).flatten.toArray)) (hy:val fs y=some (.agg (l'.map row).flatten.toArray)):Y P (.binOp .eql tx x y ty) t n fs C (.bool (decide (l=l'))) :=
 Y.eqlA (row:=fun l:List α=>(l.map row).flatten) hg ha (qaJ hu hi hr hs hl) (qaJ hu hi hr hs hl') (fun h=>qcY hr hin l l' (hl.trans hl'.symm) h) hx hy
end
end Go.S
end
section
namespace Go.S
variable {dR:Dr}
theorem dec (n:Nat) (h:0 < n):∃ q,n=q+1:=⟨n - 1,by omega⟩
theorem qr (i:Nat) (h:i < 9223372036854775807):i64 ((i:Int)+1)=some ((i+1:Nat):Int):=by rw [qN (by omega) (by omega)];rfl
theorem qiI (i:Nat) (h:0 < i) (h2:i < 9223372036854775807):i64 ((i:Int) - 1)=some ((i - 1:Nat):Int):=by rw [qN (by omega) (by omega)];congr 1;omega
theorem ff : ¬ (false=true):=by simp
theorem qK {n:Nat} (h:n≤1180591620717411303423):n < big:=by rw [qP];omega
theorem upd_ok {α:Type} {l:List α} {i:Nat} (x:α) (h:i < l.length):upd l (i:Int) x=some (l.set i x):=by
 unfold upd
 rw [if_pos (by omega)]
 rfl
theorem qo {α:Type} {l:List α} {i:Nat} (hi:i < l.length):l.drop i=l[i] :: l.drop (i+1):=List.drop_eq_getElem_cons hi
theorem qs {α:Type} {l:List α} {i:Nat} (hi:i < l.length):l.take (i+1)=l.take i++[l[i]]:=List.take_succ_eq_append_getElem hi
theorem je {α:Type} (l:List α) (i:Nat) (h:i≤l.length):cut l (i:Int) (l.length:Int)=some (l.drop i):=by
 rw [qc8 (by omega) (by omega) (by omega)]
 simp
theorem vk {α:Type} (l:List α) (i:Nat) (h:i≤l.length):cut l 0 (i:Int)=some (l.take i):=by
 rw [qc8 (by omega) (by omega) (by omega)]
 simp
theorem qgT {α:Type} (l:List α) (i:Nat) (z:α) (h:i≤l.length):clr l (i:Int) z=some (l.take i++List.replicate (l.length - i) z):=by
 unfold clr
 rw [if_pos (by omega)]
 rfl
theorem qD {α:Type} {n:Nat} {l:List α} (h:l.length=n):zi n l=some l:=if_pos h
def tab {α:Type} (n:Nat) (f:Int→α):List α:=(List.range n).map fun i:Nat=>f (i:Int)
theorem qZ {α:Type} (n:Nat) (f:Int→α):(tab n f).length=n:=by simp [tab]
theorem qbF {α:Type} {n:Nat} {f:Int→α} {i:Nat} (h:i < n):(tab n f)[i]?=some (f (i:Int)):=by simp [tab,h]
theorem xk {α:Type} {n:Nat} {f:Int→α} {a:Int} (h0:0≤a) (h:a < n):idx (tab n f) a=some (f a):=by
 obtain ⟨i,rfl⟩:=Int.eq_ofNat_of_zero_le h0
 rw [z6,qbF (by omega)]
theorem zF {α:Type} {n:Nat} {f g:Int→α} (h:∀ i:Int,0≤i→i < n→f i=g i):tab n f=tab n g:=by
 unfold tab
 apply List.map_congr_left
 intro i hi
 exact h i (by omega) (by have:=List.mem_range.1 hi;omega)
theorem jW {α:Type} {n:Nat} {f:Int→α} {a:Int} (v:α) (h0:0≤a) (h:a < n):upd (tab n f) a v=some (tab n fun i=>if i=a then v else f i):=by
 obtain ⟨j,rfl⟩:=Int.eq_ofNat_of_zero_le h0
 have hj:j < n:=by omega
 rw [upd_ok v (by rw [qZ];exact hj)]
 congr 1
 apply List.ext_getElem?
 intro i
 rw [List.getElem?_set]
 by_cases hi:i < n
 ·rw [qbF hi,qbF hi]
  by_cases hij:j=i
  ·subst hij
   rw [if_pos rfl,if_pos (by rw [qZ];exact hj),if_pos rfl]
  ·rw [if_neg hij,if_neg (by omega)]
 ·rw [if_neg (by omega),List.getElem?_eq_none (by rw [qZ];omega),List.getElem?_eq_none (by rw [qZ];omega)]
theorem qcx {α:Type} (n:Nat) (z:α):List.replicate n z=tab n fun _=>z:=by
 unfold tab
 apply List.ext_getElem?
 intro i
 by_cases h:i < n <;> simp [h]
end Go.S
end
section
namespace Go.S
variable {dR:Dr}
theorem Cls.of_below {w w':World} (h:RowKit.Below w.heap.size w w') (hd:DR w w'):Cls w [] [] w' :=
 ⟨h.os,h.tape,h.output,hd,h.size,fun k hk _=>h.block k hk,by simp,fun x hx=>by cases hx⟩
section
variable {P:Program} {Q:Exit→Act→World→Prop} {n:Nat} {C:World→Prop} {fs:Fr} {t:TypeId} {ops:Array Oper} {rest:List Oper} {d:Nat} {pos:String} {af:Array Edge}
variable {w0:World} {own:List Nat} {m:List As} {x y:Operand} {e te tx ty:TypeId} {i j k by':Nat} {v u:Value}
variable {α:Type} {row:α→List Value→List Value} {sds:α→List Value→List Sd} {vs:Nat→List Value} {l:List α} {a:Int} {u0:α}
theorem zH (h:idx l a=some u0):(zr row vs l)[a.toNat]?=some (row u0 (vs a.toNat)):=vn row vs l _ _ (qe h).2.2
theorem zAt {w:World} (hd:∀ d∈zs sds vs l,At w d.v d.k d.rows) {c:Nat} (hc:∀ z v,(sds z v).length=c) (hr:idx l a=some u0) {rows:List (List Value)} (hj:(sds u0 (vs a.toNat))[j]?=some ⟨v,e,k,rows⟩):At w v k rows:=by
 have h1:=vm hc vs l a.toNat j u0 (qe hr).2.2 (qfT hc hj)
 rw [hj] at h1
 exact hd _ (List.mem_of_getElem? h1)
theorem Y.lenMZ (hu:P.underlying tx=some (.slice e)) (hx:val fs x=some v) (hA:∀ w,C w→At w v k (zr row vs l)):Y P (.call ⟨.builtin .len,#[x],#[tx]⟩) t n fs C (.int .i64 l.length):=by
 have:=Y.lenA (t:=t) (n:=n) hu hx hA
 rwa [xa] at this
theorem Y.indexMZ {ik:IntKind} (hu:P.underlying tx=some (.slice e)) (hsz:szB P e k=true) (hx:val fs x=some v) (hy:val fs y=some (.int ik a)) (hA:∀ w,C w→At w v k (zr row vs l)) (z:α) (h:idx l a=some z) :
  Y P (.indexAddr tx x y) t n fs C (el v (a.toNat*k)):=by
 obtain ⟨h0,h1,_⟩:=qe h
 exact Y.indexE hu hsz hx hy hA h0 (by rwa [xa])
theorem xH (w:World) (d:Nat) (a:Option Addr) (hu:P.underlying tx=some (.pointer e)):(Op.equalIn (d+1) tx (.pointer a) (.pointer none)).run P w=.ok a.isNone w:=by
 cases a <;> simp [Op.equalIn,run_underlying hu]
theorem qbO (w:World) (a:Option Addr) (hu:P.underlying tx=some (.pointer e)):(binOp .eql tx (.pointer a) (.pointer none)).run P w=.ok (.bool a.isNone) w:=by
 simp only [binOp]
 simp [Op.equal,Op.maxDepth,xH w 9999 a hu]
theorem qbN (w:World) (a:Option Addr) (hu:P.underlying tx=some (.pointer e)):(binOp .neq tx (.pointer a) (.pointer none)).run P w=.ok (.bool !a.isNone) w:=by
 simp only [binOp]
 simp [Op.equal,Op.maxDepth,xH w 9999 a hu]
theorem Y.eqlP {p:Option Addr} (hu:P.underlying tx=some (.pointer e)) (hx:val fs x=some (.pointer p)) (hy:val fs y=some (.pointer none)):Y P (.binOp .eql tx x y ty) t n fs C (.bool p.isNone) :=
 Y.of fun d pos af g s w hs hw=>by
  have hg:(eqGuard .eql tx x y (.pointer p) (.pointer none)).run P w=.ok () w:=by simp [eqGuard]
  simp only [execOp,hs.eval hx,hs.eval hy]
  simp [hg,qbO w p hu]
theorem Y.neqP {p:Option Addr} (hu:P.underlying tx=some (.pointer e)) (hx:val fs x=some (.pointer p)) (hy:val fs y=some (.pointer none)):Y P (.binOp .neq tx x y ty) t n fs C (.bool !p.isNone) :=
 Y.of fun d pos af g s w hs hw=>by
  have hg:(eqGuard .neq tx x y (.pointer p) (.pointer none)).run P w=.ok () w:=by simp [eqGuard]
  simp only [execOp,hs.eval hx,hs.eval hy]
  simp [hg,qbN w p hu]
def cpy (l s:List α):List α:=s.take (min s.length l.length)++l.drop (min s.length l.length)
theorem qcM:∀ (vs c p b:List Value),vs.length=c.length→over (p++c++b) p.length vs=p++vs++b
 | [],c,p,b,h=>by
  have:c=[]:=List.length_eq_zero_iff.1 (by simpa using h.symm)
  subst this;rfl
 | v :: vs,[],p,b,h=>by simp at h
 | v :: vs,u :: c,p,b,h=>by
  have e:(p++u :: c++b).set p.length v=(p++[v])++c++b:=by rw [List.append_assoc,List.set_append_right _ _ (Nat.le_refl _)];simp
  have:=qcM vs c (p++[v]) b (by simpa using h)
  rw [over,e,show p.length+1=(p++[v]).length by simp,this]
  simp
theorem qaM {rows more:List (List Value)} {sT:TypeId} (hu:P.underlying tx=some (.slice e)) (he:ze P e k by'=true) (hx:val fs x=some v) (hy:val fs y=some u) (hm:m[i]?=some (.sl v e k rows)) (hB:∀ w,Cls w0 own m w→At w u k more) (hp:Plain more) (o:Option Tmp) (ac:Act) (w:World) (hsl:Slots n fs ac) (hw:Cls w0 own m w) :
  ∃ v' w',(execOp ac.eval ⟨o,.call ⟨.builtin .copy,#[x,y],#[tx,sT]⟩,t,pos,af,none⟩).run P w=.ok (.value v') w'∧Cls w0 own (m.set i (.sl v e k (more.take (min more.length rows.length)++rows.drop (min more.length rows.length)))) w':=by
 obtain ⟨hrl,hl,hown⟩:=hw.get hm
 have hA:=hB w hw
 obtain ⟨inf,z,hi,hz',hsz,hby,hzs,hk⟩:=xf he
 have hso:∀ w,(sizeOf e).run P w=.ok k w:=fun w=>qn (by simp [szB,hi,hsz]) w
 have hnoop:min more.length rows.length=0→Cls w0 own (m.set i (.sl v e k (more.take (min more.length rows.length)++rows.drop (min more.length rows.length)))) w:=by
  intro h0
  rw [h0,List.take_zero,List.drop_zero,List.nil_append]
  have:m.set i (.sl v e k rows)=m:=by
   obtain ⟨h2,h3⟩:=List.getElem?_eq_some_iff.1 hm
   rw [← h3,List.set_getElem_self]
  rw [this];exact hw
 have hlen:∀ (a:Option Addr) (c:Nat),u=.slice a more.length c→(Builtin.lenOf u).run P w=.ok more.length w:=by
  intro a c h;subst h;simp [Builtin.lenOf]
 have hread:∃ cs:List Value,cs=(more.take (min more.length rows.length)).flatten∧(Builtin.firstCells k (min more.length rows.length) u).run P w=.ok cs.toArray w:=by
  refine ⟨_,rfl,?_⟩
  rcases hA.shape with ⟨rfl,rfl⟩ | ⟨ad,c,rfl,_,_⟩
  ·simp [Builtin.firstCells]
  ·have hT:=hA.take (min more.length rows.length) (Nat.min_le_left _ _)
   have hfl:=hT.flat_cell hk
   have:=run_loadCells_list (P:=P) w ad (more.take (min more.length rows.length)).flatten (by simpa [qgL,adr] using hfl)
   have hfn:(more.take (min more.length rows.length)).flatten.length=min more.length rows.length*k:=by
    rw [qG _ (fun r hr=>hA.len r (List.mem_of_mem_take hr)),List.length_take,Nat.min_eq_left (Nat.min_le_left _ _)]
   rw [hfn] at this
   simp [Builtin.firstCells,this]
 obtain ⟨cs,hcs0,hcs⟩:=hread
 have hul:(Builtin.lenOf u).run P w=.ok more.length w:=by
  rcases hA.shape with ⟨rfl,rfl⟩ | ⟨ad,c,rfl,_,_⟩
  ·exact hlen none 0 rfl
  ·exact hlen _ _ rfl
 rcases hown with ⟨rfl,hn⟩ | ⟨g,cap,cur,rfl,hg,hh,hnc,hcm,hcsz,htake⟩
 ·have:rows=[]:=List.length_eq_zero_iff.1 hn
  subst this
  refine ⟨goInt 0,w,?_,hnoop (by simp)⟩
  simp only [execOp,resolve,List.map_toArray,List.map_cons,List.map_nil,hsl.eval hx,hsl.eval hy]
  simp only [List.length_nil] at hcs
  simp [invoke,builtin,Builtin.copy_,run_underlying hu,hul,hso]
  simp at hcs
  simp [hcs]
 ·have hcl:cur.toList.length=cap*k:=by simp [hcsz]
  have hh':w.heap[g]?=some (.cells cur.toList.toArray e (0,0)):=by simpa using hh
  have hcl2:cs.length=min more.length rows.length*k:=by
   rw [hcs0,qG _ (fun r hr=>hA.len r (List.mem_of_mem_take hr)),List.length_take,Nat.min_eq_left (Nat.min_le_left _ _)]
  have hmul:min more.length rows.length*k≤rows.length*k:=Nat.mul_le_mul_right k (Nat.min_le_right _ _)
  have hmulc:rows.length*k≤cap*k:=Nat.mul_le_mul_right k hnc
  obtain ⟨w',h2,h3,h4⟩:=qQ (P:=P) g e 0 cs 0 cur.toList w hh' (by omega) (by
   intro q hq
   rw [hcs0] at hq
   obtain ⟨r,hr,hur⟩:=List.mem_flatten.1 hq
   exact hp r (List.mem_of_mem_take hr) q hur)
  refine ⟨goInt ((more.length.min rows.length:Nat):Int),w',?_,?_⟩
  ·simp only [execOp,resolve,List.map_toArray,List.map_cons,List.map_nil,hsl.eval hx,hsl.eval hy]
   simp [invoke,builtin,Builtin.copy_,run_underlying hu,hul,hso,hcs,h2]
  ·have htk:∀ (us:List Value) (c:List Value) (z a:Nat),a+us.length≤z→(over c a us).take z=over (c.take z) a us:=by
    intro us
    induction us with
    | nil=>intro c z a _;rfl
    | cons p us ih=>intro c z a h;simp only [List.length_cons] at h;rw [over,over,ih _ _ _ (by omega),List.take_set]
   have hrl2:∀ r∈more.take (min more.length rows.length)++rows.drop (min more.length rows.length),r.length=k:=by
    intro r hr
    rcases List.mem_append.1 hr with h | h
    ·exact hA.len r (List.mem_of_mem_take h)
    ·exact hrl r (List.mem_of_mem_drop h)
   have hlen2:(more.take (min more.length rows.length)++rows.drop (min more.length rows.length)).length=rows.length:=by
    rw [List.length_append,List.length_take,List.length_drop,Nat.min_eq_left (Nat.min_le_left _ _)];omega
   refine hw.turn hm rfl h4.os h4.tape h4.output h4.size (Nat.le_of_eq h4.drawn.symm) (fun p hp=>h4.rest p (by simpa [As.foot,Value.ownBlock] using hp)) ⟨hrl2,?_,.inr ⟨g,cap,(over cur.toList (0+0) cs).toArray,by rw [hlen2],hg,h3,by rw [hlen2];exact hnc,hcm,by simp [zw,hcsz],?_⟩⟩
   ·rw [qG _ hrl2]
   ·rw [hlen2,Nat.add_zero,htk _ _ _ _ (by omega),htake]
    have e1:rows.flatten=[]++(rows.take (min more.length rows.length)).flatten++(rows.drop (min more.length rows.length)).flatten:=by rw [List.nil_append,← List.flatten_append,List.take_append_drop]
    have e2:cs.length=(rows.take (min more.length rows.length)).flatten.length:=by
     rw [hcl2,qG _ (fun r hr=>hrl r (List.mem_of_mem_take hr)),List.length_take,Nat.min_eq_left (Nat.min_le_right _ _)]
    have e3:=qcM cs (rows.take (min more.length rows.length)).flatten [] (rows.drop (min more.length rows.length)).flatten e2
    rw [List.length_nil] at e3
    rw [e1,e3,hcs0,List.flatten_append,List.nil_append]
theorem L.copyRowsD {rows more:List (List Value)} {sT:TypeId} (hd:Nat.blt d n=true) (hu:P.underlying tx=some (.slice e)) (he:ze P e k by'=true) (hx:val fs x=some v) (hy:val fs y=some u) (hm:m[i]?=some (.sl v e k rows)) (hB:∀ w,Cls w0 own m w→At w u k more) (hp:Plain more)
  (next:∀ v',L P ops Q n (Cls w0 own (m.set i (.sl v e k (more.take (min more.length rows.length)++rows.drop (min more.length rows.length))))) rest ((d,v') :: fs)) :
  L P ops Q n (Cls w0 own m) (⟨some d,.call ⟨.builtin .copy,#[x,y],#[tx,sT]⟩,t,pos,af,none⟩ :: rest) fs :=
 L.runs (R:=fun _ w'=>Cls w0 own (m.set i (.sl v e k (more.take (min more.length rows.length)++rows.drop (min more.length rows.length)))) w') hd (fun ac w hsl hw=>qaM hu he hx hy hm hB hp (some d) ac w hsl hw) next
theorem L.copyMD {g:α→List Value} {l s:List α} {sT:TypeId} (hd:Nat.blt d n=true) (hu:P.underlying tx=some (.slice e)) (he:ze P e k by'=true) (hx:val fs x=some v) (hy:val fs y=some u) (hm:m[i]?=some (.sl v e k (l.map g))) (hB:∀ w,Cls w0 own m w→At w u k (s.map g)) (hp:Plain (s.map g))
  (next:∀ v',L P ops Q n (Cls w0 own (m.set i (.sl v e k ((cpy l s).map g)))) rest ((d,v') :: fs)) :
  L P ops Q n (Cls w0 own m) (⟨some d,.call ⟨.builtin .copy,#[x,y],#[tx,sT]⟩,t,pos,af,none⟩ :: rest) fs:=by
 refine L.copyRowsD hd hu he hx hy hm hB hp fun v'=>?_
 rw [List.length_map,List.length_map,← List.map_take,← List.map_drop,← List.map_append]
 exact next v'
end
def xA (s:List UInt8) (n:Int):Option (List UInt8):=if 0≤n∧n≤1000000∧s.length*n.toNat≤140737488355328 then some (Lib.repeatL s n.toNat) else none
theorem qaz {s r:List UInt8} {n:Int} (h:xA s n=some r):0≤n∧n≤1000000∧s.length*n.toNat≤140737488355328∧r=Lib.repeatL s n.toNat:=by
 unfold xA at h
 split at h
 ·rename_i h1
  simp only [Option.some.injEq] at h
  exact ⟨h1.1,h1.2.1,h1.2.2,h.symm⟩
 ·cases h
end Go.S
end
section
namespace Go.S
variable {dR:Dr}
section
variable {P:Program} {ops:Array Oper} {Q:Exit→Act→World→Prop} {md:Region.Mode} {S S':Array Bool→World→Prop} {B D Z:World→Prop} {bs:List Nat}
def qU (bs:List Nat) (L:Array Bool):Bool:=bs.all fun b=>!(L.getD b true)
def stC:List (List Nat)→List (World→Prop)→(World→Prop)→Array Bool→World→Prop
 | bs :: r,B :: q,D,L,w=>match qU bs L with
  | true=>B w
  | false=>stC r q D L w
 | _,_,D,_,w=>D w
def jl (P:Program) (md:Region.Mode) (ops:Array Oper) (Q:Exit→Act→World→Prop) (S:Array Bool→World→Prop):Nat→Array Bool→Act→World→Prop
 | 0,listed,a,w=>Region.ready md ops listed=[]∧Q .normal a w
 | fuel+1,listed,a,w =>
  (Region.ready md ops listed=[]→Q .normal a w) ∧
  ∀ i∈Region.ready md ops listed,wpOp P ops Q i (fun a' w'=>S (listed.setIfInBounds i true) w'∧jl P md ops Q S fuel (listed.setIfInBounds i true) a' w') a w
theorem wH:∀ (fuel:Nat) (listed:Array Bool) (a:Act) (w:World),jl P md ops Q S fuel listed a w→wpAny P md ops Q fuel listed a w
 | 0,_,_,_,h=>h
 | fuel+1,_,_,_,h=>⟨h.1,fun i hi=>wpOp_mono (fun a' w' h'=>wH fuel _ a' w' h'.2) (h.2 i hi)⟩
theorem qni {b:Nat} (hS:∀ (L:Array Bool) w,L.getD b false=true→S' L w→S L w):∀ (fuel:Nat) (listed:Array Bool) (a:Act) (w:World),listed.getD b false=true→jl P md ops Q S' fuel listed a w→jl P md ops Q S fuel listed a w
 | 0,_,_,_,_,h=>h
 | fuel+1,listed,_,_,hb,h=>⟨h.1,fun i hi=>wpOp_mono (fun a' w' h'=>⟨hS _ _ (getD_set_true hb) h'.1,qni hS fuel _ a' w' (getD_set_true hb) h'.2⟩) (h.2 i hi)⟩
theorem qaG {i:Nat} {L:Array Bool} (hi:i ∉ bs):qU bs (L.setIfInBounds i true)=qU bs L:=by
 unfold qU
 rw [Bool.eq_iff_iff,List.all_eq_true,List.all_eq_true]
 constructor
 ·intro h b hb
  have:=h b hb
  rwa [getD_set_ne true (by rintro rfl;exact hi hb)] at this
 ·intro h b hb
  rw [getD_set_ne true (by rintro rfl;exact hi hb)]
  exact h b hb
def qh4 (ops:Array Oper) (md:Region.Mode) (i:Nat):Nat→Nat→Bool
 | 0,_=>false
 | k+1,b=>!(Nat.beq b i) && match ops[b]? with
  | some o=>o.after.toList.any (fun e=>Region.binds md e && Nat.beq e.on i) || o.after.toList.any fun e=>Region.binds md e && qh4 ops md i k e.on
  | none=>false
def qkn (ops:Array Oper) (md:Region.Mode) (bs:List Nat) (i:Nat):Bool:=bs.all fun b=>qh4 ops md i 6 b
def Closed (ops:Array Oper) (md:Region.Mode) (L:Array Bool):Prop:=∀ j o,ops[j]?=some o→L.getD j false=true→∀ e∈o.after,Region.binds md e=true→L.getD e.on false=true
def qgU (ops:Array Oper) (md:Region.Mode) (L:Array Bool):Bool:=(List.range ops.size).all fun j=>!(L.getD j false) || match ops[j]? with
 | some o=>o.after.toList.all fun e=>!(Region.binds md e) || L.getD e.on false
 | none=>true
theorem qbb {L:Array Bool} (h:qgU ops md L=true):Closed ops md L:=by
 intro j o ho hj e he hb
 have h1:=List.all_eq_true.1 h j (List.mem_range.2 (Array.getElem?_eq_some_iff.1 ho).1)
 rw [hj,ho] at h1
 have h2:=List.all_eq_true.1 (by simpa using h1:o.after.toList.all (fun e=>!(Region.binds md e) || L.getD e.on false)=true) e (by simpa using he)
 simpa [hb] using h2
theorem Closed.step {L:Array Bool} {j:Nat} (h:Closed ops md L) (hj:j∈Region.ready md ops L):Closed ops md (L.setIfInBounds j true):=by
 intro k o ho hk e he hb
 obtain ⟨_,oj,hoj,hall⟩:=mem_ready.1 hj
 by_cases hkj:j=k
 ·subst hkj
  rw [hoj,Option.some.injEq] at ho
  subst ho
  exact getD_set_true (hall e he hb)
 ·rw [getD_set_ne false hkj] at hk
  exact getD_set_true (h k o ho hk e he hb)
theorem qcv {i:Nat} {L:Array Bool} (hcl:Closed ops md L) (hi:L.getD i false=false):∀ (k b:Nat),qh4 ops md i k b=true→(∀ o,ops[b]?=some o→∀ e∈o.after,Region.binds md e=true→L.getD e.on false=true)→False
 | 0,_,h,_=>by cases h
 | k+1,b,h,hall=>by
  simp only [qh4,Bool.and_eq_true] at h
  cases ho:ops[b]? with
  | none=>rw [ho] at h;exact absurd h.2 (by simp)
  | some o =>
   rw [ho] at h
   simp only [Bool.or_eq_true] at h
   rcases h.2 with h2 | h2
   ·obtain ⟨e,he,h3⟩:=List.any_eq_true.1 h2
    simp only [Bool.and_eq_true] at h3
    have h4:=hall o ho e (by simpa using he) h3.1
    rw [Nat.eq_of_beq_eq_true h3.2,hi] at h4
    cases h4
   ·obtain ⟨e,he,h3⟩:=List.any_eq_true.1 h2
    simp only [Bool.and_eq_true] at h3
    have h4:=hall o ho e (by simpa using he) h3.1
    exact qcv hcl hi k e.on h3.2 fun o' ho' e' he' hb'=>hcl e.on o' ho' h4 e' he' hb'
theorem qlJ {i:Nat} {oi:Oper} {v:Value} (hi:ops[i]?=some oi) (hsel:∀ (j:Nat) (o:Oper) cs b,ops[j]?=some o→o.op≠.select cs b)
  (hQ:∀ c a w,Q (.panic c) (a.put oi.dst v) w→Q (.panic c) a w) (hwait:qkn ops md bs i=true) (hS':∀ (L:Array Bool) w,S (L.setIfInBounds i true) w=S L w) (hZ:∀ (L:Array Bool) w,qU bs L=true→S L w→Z w) :
  ∀ (fuel:Nat) (listed:Array Bool) (a:Act) (w:World),(bs=[]∨Closed ops md listed)→qU bs listed=true →
   (∀ j oj,ops[j]?=some oj→j≠i→listed.getD j true=false→(∀ e∈oj.after,Region.binds md e=true→e.on≠i)→oi.apart ops oj=true) →
   i∈Region.ready md ops listed→YieldsIf P ops Z oi v a→S listed w →
   jl P md ops Q S fuel (listed.setIfInBounds i true) (a.put oi.dst v) w→jl P md ops Q S (fuel+1) listed a w:=by
 intro fuel
 induction fuel with
 | zero =>
  intro listed a w hcl ho hfree hr hy hS H
  refine ⟨fun h=>(by rw [h] at hr;cases hr),fun j hj=>?_⟩
  by_cases hji:j=i
  ·subst hji;exact hy.wpOp hi (hZ _ _ ho hS) ⟨by rw [hS'];exact hS,H⟩
  ·have:=ready_mono hj hji
   rw [H.1] at this
   cases this
 | succ fuel ih =>
  intro listed a w hcl ho hfree hr hy hS H
  refine ⟨fun h=>(by rw [h] at hr;cases hr),fun j hj=>?_⟩
  by_cases hji:j=i
  ·subst hji;exact hy.wpOp hi (hZ _ _ ho hS) ⟨by rw [hS'];exact hS,H⟩
  ·have h1:=H.2 j (ready_mono hj hji)
   obtain ⟨hjun,oj,hoj,hall⟩:=mem_ready.1 hj
   have hnot:∀ e∈oj.after,Region.binds md e=true→e.on≠i:=fun e he hb heq=>by
    have h1:=hall e he hb
    have h0:=(mem_ready.1 hr).1
    rw [heq] at h1
    rcases Nat.lt_or_ge i listed.size with h' | h'
    ·simp [h'] at h0 h1;rw [h0] at h1;cases h1
    ·simp [Array.getElem?_eq_none h'] at h1
   have hjb:j ∉ bs:=fun hb=>by
    have hcl':Closed ops md listed:=hcl.resolve_left fun h0=>(by rw [h0] at hb;cases hb)
    have h0:=(mem_ready.1 hr).1
    have hi0:listed.getD i false=false:=by
     rcases Nat.lt_or_ge i listed.size with h' | h'
     ·simp [h'] at h0 ⊢;exact h0
     ·simp [Array.getElem?_eq_none h']
    refine qcv hcl' hi0 6 j (List.all_eq_true.1 hwait j hb) fun o ho' e he hb'=>?_
    rw [hoj,Option.some.injEq] at ho'
    subst ho'
    exact hall e he hb'
   have ho2:qU bs (listed.setIfInBounds j true)=true:=by rw [qaG hjb];exact ho
   have h2:=wpOp_putIf hoj (hfree j oj hoj hji hjun hnot) (fun cs b=>hsel i oi cs b hi) (fun cs b=>hsel j oj cs b hoj) hQ hy h1
   have hfree':∀ k ok,ops[k]?=some ok→k≠i→(listed.setIfInBounds j true).getD k true=false →
     (∀ e∈ok.after,Region.binds md e=true→e.on≠i)→oi.apart ops ok=true:=fun k ok hk hki hun hno=>by
    refine hfree k ok hk hki ?_ hno
    by_cases hjk:j=k
    ·subst hjk;exact hjun
    ·rw [getD_set_ne true hjk] at hun;exact hun
   refine wpOp_mono (fun a' w' h3=>?_) h2
   have hS2:S (listed.setIfInBounds j true) w':=by
    have:=h3.2.1
    rw [Array.setIfInBounds_comm _ _ (Ne.symm hji),hS'] at this
    exact this
   refine ⟨hS2,ih (listed.setIfInBounds j true) a' w' (hcl.imp id fun h=>h.step hj) ho2 hfree' (ready_mono hr (Ne.symm hji)) h3.1 hS2 ?_⟩
   rw [Array.setIfInBounds_comm _ _ hji]
   exact h3.2.2
def qod (bss:List (List Nat)) (i:Nat):Bool:=bss.all fun bs=>bs.all fun b=>!(Nat.beq b i)
theorem qfO {i:Nat}:∀ {bss:List (List Nat)} (Bs:List (World→Prop)),qod bss i=true→∀ (L:Array Bool) w,stC bss Bs D (L.setIfInBounds i true) w=stC bss Bs D L w
 | [],_,_,L,w=>rfl
 | bs :: r,[],_,L,w=>rfl
 | bs :: r,B :: q,h,L,w=>by
  simp only [qod,List.all_cons,Bool.and_eq_true] at h
  have hi:i ∉ bs:=fun hb=>by
   have:=List.all_eq_true.1 h.1 i hb
   simp at this
  simp only [stC]
  rw [qaG hi,qfO q h.2 L w]
section
variable {bz bs:List Nat} {r:List (List Nat)} {q q':List (World→Prop)} {B' C D':World→Prop} {i:Nat} {L:Array Bool}
theorem Zc.at1 (h:∀ w,B w→Z w):∀ (L:Array Bool) w,qU bs L=true→stC (bs :: r) (B :: q) D L w→Z w:=fun L w ho hs=>by
 simp only [stC,ho] at hs;exact h w hs
theorem Zc.on (h:∀ w,B w→Z w) (h2:∀ (L:Array Bool) w,qU bz L=true→stC r q D L w→Z w):∀ (L:Array Bool) w,qU bz L=true→stC (bs :: r) (B :: q) D L w→Z w:=fun L w ho hs=>by
 simp only [stC] at hs
 split at hs
 ·exact h w hs
 ·exact h2 L w ho hs
theorem Zc.fin (h:∀ w,D w→Z w):∀ (L:Array Bool) w,qU bz L=true→stC [] [] D L w→Z w:=fun _ w _ hs=>h w hs
theorem Sc.stay (h:∀ w,B' w→B w) (h2:∀ (L:Array Bool) w,L.getD i false=true→stC r q' D' L w→stC r q D L w):∀ (L:Array Bool) w,L.getD i false=true→stC (bs :: r) (B' :: q') D' L w→stC (bs :: r) (B :: q) D L w:=fun L w hi hs=>by
 cases ho:qU bs L with
 | true=>simp only [stC,ho] at hs ⊢;exact h w hs
 | false=>simp only [stC,ho] at hs ⊢;exact h2 L w hi hs
theorem Sc.past {S':Array Bool→World→Prop} (hb:bs.contains i=true) (h2:∀ (L:Array Bool) w,L.getD i false=true→S' L w→stC r q D L w):∀ (L:Array Bool) w,L.getD i false=true→S' L w→stC (bs :: r) (B :: q) D L w:=fun L w hi hs=>by
 have ho:qU bs L=false:=by
  unfold qU
  rw [List.all_eq_false]
  refine ⟨i,by simpa using hb,?_⟩
  have h3:L.getD i true=true:=by
   rcases Nat.lt_or_ge i L.size with h' | h'
   ·simp [h'] at hi ⊢;exact hi
   ·simp [Array.getElem?_eq_none h'] at hi
  simp [h3]
 simp only [stC,ho]
 exact h2 L w hi hs
theorem Sc.stayD (h:∀ w,D' w→D w):∀ (L:Array Bool) w,L.getD i false=true→stC [] [] D' L w→stC [] [] D L w:=fun _ w _ hs=>h w hs
theorem Sc.now (ho:qU bs L=true) (h:∀ w,C w→B w):∀ w,C w→stC (bs :: r) (B :: q) D L w:=fun w hc=>by
 simp only [stC,ho];exact h w hc
theorem Sc.atD (h:∀ w,C w→D w):∀ w,C w→stC [] [] D L w:=h
end
end
def KG (K:Act→World→Prop):Exit→Act→World→Prop:=fun e a w=>e=.normal∧K a w
section
variable {P:Program} {Q:Exit→Act→World→Prop} {n:Nat} {B C D Z:World→Prop} {S S':Array Bool→World→Prop} {fs:Fr} {ops:Array Oper} {d:Nat} {op:Op} {t:TypeId} {pos:String} {af:Array Edge} {listed:Array Bool} {k i:Nat} {g:Option (Nat×Bool)} {K:Act→World→Prop}
theorem qjN : ¬ LetsOut (KG K):=fun ⟨_,_,h,_⟩=>by cases h
theorem qem {o:Oper} {a:Act} {w:World} (hi:ops[i]?=some o) (h:wpList P ops (KG K) [o] a w):wpOp P ops (NoPanic Q) i K a w:=by
 have hK:∀ a w,wpList P ops (KG K) [] a w→K a w:=fun a w h=>h.2
 unfold wpOp
 simp only [hi]
 simp only [wpList] at h
 by_cases hw:Region.wanted o (yielded ops a.tmps)=true
 ·simp only [hw,if_true] at h ⊢
  rcases h with h | ⟨_,h⟩
  ·refine .inl ?_
   unfold Oper.wp at *
   generalize (execOp a.eval o).run P w=r at *
   cases r with
   | ok x w' =>
    cases x <;> simp only [Oper.upon] at h ⊢
    case value u=>exact h.2
    case skip=>exact h.2
    case defer d=>exact h.2
    case enter f args =>
     refine Calls.mono h fun e w'' he=>?_
     cases e with
     | returned u=>exact he.2
     | panicked c=>exact absurd he.1 (by nofun)
     | outgrown=>exact (qjN he).elim
    case row row args=>exact Rows.mono h fun u w'' he=>he.2
   | halt x w' =>
    cases x <;> simp only [Oper.upon] at h ⊢
    case panic u=>exact absurd h.1 (by nofun)
  ·exact (qjN h).elim
 ·simp only [hw,Bool.false_eq_true,if_false] at h ⊢
  exact h.2
def V2 (P:Program) (ops:Array Oper) (Q:Exit→Act→World→Prop) (n:Nat) (S:Array Bool→World→Prop) (listed:Array Bool) (k:Nat) (C:World→Prop) (fs:Fr):Prop :=
 ∀ a w,Slots n fs a→C w→S listed w→jl P .any ops (NoPanic Q) S k listed a w
structure Nx2 (ops:Array Oper) (S:Array Bool→World→Prop) (Z:World→Prop) (listed:Array Bool) (i:Nat) (o:Oper):Prop extends Nx ops listed i o where
 set':∀ (L:Array Bool) w,S (L.setIfInBounds i true) w=S L w
 z:∃ bz,qkn ops .any bz i=true∧(bz=[]∨Closed ops .any listed)∧qU bz listed=true∧∀ (L:Array Bool) w,qU bz L=true→S L w→Z w
def qnr (ops:Array Oper) (bss:List (List Nat)) (bz:List Nat) (listed:Array Bool) (i:Nat):Bool:=nxB ops listed i && qod bss i && (qkn ops .any bz i && (bz.isEmpty || qgU ops .any listed)) && qU bz listed
theorem Nx2.of {o:Oper} {bss:List (List Nat)} {Bs:List (World→Prop)} (bz:List Nat) (h:qnr ops bss bz listed i=true) (ho:ops[i]?=some o) (hz:∀ (L:Array Bool) w,qU bz L=true→stC bss Bs D L w→Z w):Nx2 ops (stC bss Bs D) Z listed i o:=by
 simp only [qnr,Bool.and_eq_true] at h
 refine ⟨Nx.of h.1.1.1 ho,qfO Bs h.1.1.2,bz,h.1.2.1,?_,h.2,hz⟩
 have h2:=h.1.2.2
 rw [Bool.or_eq_true] at h2
 exact h2.imp List.isEmpty_iff.1 qbb
theorem Nx2.take {o:Oper} {v:Value} (hn:Nx2 ops S Z listed i o) {a:Act} {w:World} (hy:YieldsIf P ops Z o v a) (hs:S listed w)
  (h:jl P .any ops (NoPanic Q) S k (listed.setIfInBounds i true) (a.put o.dst v) w):jl P .any ops (NoPanic Q) S (k+1) listed a w:=by
 obtain ⟨bz,h1,hc,h2,h3⟩:=hn.z
 exact qlJ hn.at_ (Region.noSelect_spec hn.sel) (fun _ _ _ h=>h) h1 hn.set' h3 k listed a w hc h2 (Region.free_spec hn.at_ hn.free) (by simpa using hn.ready) hy hs h
theorem V2.y {v:Value} (hn:Nx2 ops S Z listed i ⟨some d,op,t,pos,af,g⟩) (hg:jg ops fs g=true) (hp:zV op=true) (hd:Nat.blt d n=true) (hy:Y P op t n fs Z v)
  (next:V2 P ops Q n S (listed.setIfInBounds i true) k C ((d,v) :: fs)):V2 P ops Q n S listed (k+1) C fs:=by
 intro a w hs hc hb
 exact hn.take (.inl ⟨xb hs _ hg,fun w' hw'=>hy.strict hp _ _ _ _ hs hw'⟩) hb (next _ w (hs.put hd v) hc (by rw [hn.set'];exact hb))
theorem V2.nilc {x:Operand} {ad:Addr} (hn:Nx2 ops S Z listed i ⟨some d,.nilCheck x,t,pos,af,g⟩) (hg:jg ops fs g=true) (hd:Nat.blt d n=true) (hx:val fs x=some (.pointer (some ad)))
  (next:V2 P ops Q n S (listed.setIfInBounds i true) k C ((d,.pointer (some ad)) :: fs)):V2 P ops Q n S listed (k+1) C fs:=by
 intro a w hs hc hb
 exact hn.take (.inl ⟨xb hs _ hg,fun w' hw'=>by simp only [execOp,hs.eval hx];simp⟩) hb (next _ w (hs.put hd _) hc (by rw [hn.set'];exact hb))
theorem V2.pass (hn:Nx2 ops S Z listed i ⟨some d,op,t,pos,af,g⟩) (hg:wi ops fs g=true) (hd:Nat.blt d n=true)
  (next:V2 P ops Q n S (listed.setIfInBounds i true) k C ((d,undef) :: fs)):V2 P ops Q n S listed (k+1) C fs:=by
 intro a w hs hc hb
 exact hn.take (.inr ⟨zC hs _ hg,rfl⟩) hb (next _ w (hs.put hd _) hc (by rw [hn.set'];exact hb))
theorem V2.passNone (hn:Nx2 ops S Z listed i ⟨none,op,t,pos,af,g⟩) (hg:wi ops fs g=true)
  (next:V2 P ops Q n S (listed.setIfInBounds i true) k C fs):V2 P ops Q n S listed (k+1) C fs:=by
 intro a w hs hc hb
 exact hn.take (.inr ⟨zC hs _ hg,rfl⟩) hb (next _ w hs hc (by rw [hn.set'];exact hb))
section
variable {α ρ:Type} {r:ρ}
theorem V2.m {o:Option α} {f:α→Option ρ} {V':α→Value} (h:qb o f=some r) (hn:Nx2 ops S Z listed i ⟨some d,op,t,pos,af,g⟩) (hg:jg ops fs g=true) (hp:zV op=true) (hd:Nat.blt d n=true)
  (hy:∀ x,o=some x→Y P op t n fs Z (V' x)) (next:∀ x,o=some x→f x=some r→V2 P ops Q n S (listed.setIfInBounds i true) k C ((d,V' x) :: fs)):V2 P ops Q n S listed (k+1) C fs:=by
 obtain ⟨x,hx,h⟩:=qc h
 exact V2.y hn hg hp hd (hy x hx) (next x hx h)
theorem V2.ite {p:Prop} [Decidable p] {X W:Option ρ} (h:(if p then X else W)=some r) (hn:Nx2 ops S Z listed i ⟨some d,op,t,pos,af,g⟩) (hg:jg ops fs g=true) (hp:zV op=true) (hd:Nat.blt d n=true)
  (hy:Y P op t n fs Z (.bool (decide p))) (k1:p→X=some r→V2 P ops Q n S (listed.setIfInBounds i true) k C ((d,.bool true) :: fs)) (k2 : ¬p→W=some r→V2 P ops Q n S (listed.setIfInBounds i true) k C ((d,.bool false) :: fs)) :
  V2 P ops Q n S listed (k+1) C fs:=by
 by_cases hq:p
 ·exact V2.y hn hg hp hd (by simpa [hq] using hy) (k1 hq (by rwa [if_pos hq] at h))
 ·exact V2.y hn hg hp hd (by simpa [hq] using hy) (k2 hq (by rwa [if_neg hq] at h))
theorem V2.iteB {b:Bool} {X W:Option ρ} (h:(if b=true then X else W)=some r) (hn:Nx2 ops S Z listed i ⟨some d,op,t,pos,af,g⟩) (hg:jg ops fs g=true) (hp:zV op=true) (hd:Nat.blt d n=true)
  (hy:Y P op t n fs Z (.bool b)) (k1:b=true→X=some r→V2 P ops Q n S (listed.setIfInBounds i true) k C ((d,.bool true) :: fs)) (k2 : ¬b=true→W=some r→V2 P ops Q n S (listed.setIfInBounds i true) k C ((d,.bool false) :: fs)) :
  V2 P ops Q n S listed (k+1) C fs:=by
 cases b with
 | true=>exact V2.y hn hg hp hd hy (k1 rfl h)
 | false=>exact V2.y hn hg hp hd hy (k2 (by simp) (by simpa using h))
theorem V2.caseB {X W:Option ρ} {b:Bool} {q:Nat} (h:(if b=true then X else W)=some r) (hv:look fs q=some (.bool b)) (k1:X=some r→V2 P ops Q n S listed k C ((q,.bool true) :: fs)) (k2:W=some r→V2 P ops Q n S listed k C ((q,.bool false) :: fs)):V2 P ops Q n S listed k C fs:=by
 cases b with
 | true=>exact fun a w hs hc hd=>k1 h a w (hs.again hv) hc hd
 | false=>exact fun a w hs hc hd=>k2 (by simpa using h) a w (hs.again hv) hc hd
end
def KV2 (P:Program) (ops:Array Oper) (Q:Exit→Act→World→Prop) (S:Array Bool→World→Prop) (k:Nat) (L:Array Bool):Exit→Act→World→Prop :=
 KG fun a w=>S L w∧jl P .any ops (NoPanic Q) S k L a w
theorem V2.effs {rs:List Nat} (hr:Region.ready .any ops listed=rs) (hne:rs≠[]) (h:∀ i∈rs,∃ o,ops[i]?=some o∧L P ops (KV2 P ops Q S k (listed.setIfInBounds i true)) n C [o] fs):V2 P ops Q n S listed (k+1) C fs:=by
 intro a w hs hc hb
 refine ⟨fun h0=>absurd (hr ▸ h0) hne,fun i hi=>?_⟩
 rw [hr] at hi
 obtain ⟨o,ho,hl⟩:=h i hi
 exact qem ho (hl a w hs hc)
theorem V2.eff {o:Oper} (hr:Region.ready .any ops listed=[i]) (hi:ops[i]?=some o) (h:L P ops (KV2 P ops Q S k (listed.setIfInBounds i true)) n C [o] fs):V2 P ops Q n S listed (k+1) C fs :=
 V2.effs hr (by nofun) fun j hj=>by rw [List.mem_singleton] at hj;subst hj;exact ⟨o,hi,h⟩
theorem V2.eff2 {i1 i2:Nat} {o1 o2:Oper} (hr:Region.ready .any ops listed=[i1,i2]) (h1:ops[i1]?=some o1) (h2:ops[i2]?=some o2) (k1:L P ops (KV2 P ops Q S k (listed.setIfInBounds i1 true)) n C [o1] fs) (k2:L P ops (KV2 P ops Q S k (listed.setIfInBounds i2 true)) n C [o2] fs) :
  V2 P ops Q n S listed (k+1) C fs :=
 V2.effs hr (by nofun) fun j hj=>by
  simp only [List.mem_cons,List.not_mem_nil,or_false] at hj
  rcases hj with rfl | rfl
  ·exact ⟨o1,h1,k1⟩
  ·exact ⟨o2,h2,k2⟩
theorem E.toV2 {C':World→Prop} (S':Array Bool→World→Prop) (i:Nat) (hi:listed.getD i false=true) (hS:∀ (L:Array Bool) w,L.getD i false=true→S' L w→S L w) (hc:∀ w,C' w→S' listed w) (h:V2 P ops Q n S' listed k C' fs):E .normal (KV2 P ops Q S k listed) n C' fs :=
 fun a w hs hw=>⟨rfl,hS _ _ hi (hc w hw),qni hS k listed a w hi (h a w hs hw (hc w hw))⟩
theorem V2.done (hr:(Region.ready .any ops listed).isEmpty=true) (h:E .normal Q n C fs):V2 P ops Q n S listed k C fs:=by
 intro a w hs hc hb
 have hr':=List.isEmpty_iff.1 hr
 cases k with
 | zero=>exact ⟨hr',h a w hs hc⟩
 | succ k=>exact ⟨fun _=>h a w hs hc,by rw [hr'];simp⟩
theorem W.drawn2 {id:Nat} {l:List Oper} (S:Array Bool→World→Prop) (hk:l.length=k) (hm:P.follows .mixedOrders=true) (hdrew:∀ w,C w→C { w with drawn:=w.drawn+1 }) (hb:∀ w,C w→S (Array.replicate k false) w)
  (h:V2 P l.toArray Q n S (Array.replicate k false) k C fs):W P Q n C (.region id l.toArray true) fs:=by
 subst hk
 exact fun a w hs hc=>wp_region_noPanic (wp_region_any hm (wH _ _ _ _ (by simpa using h a _ hs (hdrew w hc) (hb _ (hdrew w hc)))))
end
section
variable {P:Program} {Q:Exit→Act→World→Prop} {n:Nat} {fs:Fr} {k:Nat}
theorem Zc.on' {r:List (List Nat)} {q:List (World→Prop)} {B D Z:World→Prop} {bs bz:List Nat} (h2:∀ (L:Array Bool) w,qU bz L=true→stC r q D L w→Z w) (h:∀ w,B w→Z w):∀ (L:Array Bool) w,qU bz L=true→stC (bs :: r) (B :: q) D L w→Z w:=Zc.on h h2
theorem V2.zz {ops:Array Oper} {S:Array Bool→World→Prop} {C Z:World→Prop} {listed:Array Bool} (bz:List Nat) (hz:∀ (L:Array Bool) w,qU bz L=true→S L w→Z w) (next:(∀ (L:Array Bool) w,qU bz L=true→S L w→Z w)→V2 P ops Q n S listed k C fs):V2 P ops Q n S listed k C fs:=next hz
end
end Go.S
end
section
namespace Go.S
variable {dR:Dr}
def qeF (vs vs2:Nat→List Value) (n:Nat):Nat→List Value:=fun q=>if q < n then vs q else vs2 (q - n)
theorem qgv (vs vs2:Nat→List Value):qeF vs vs2 0=vs2:=by funext q;simp [qeF]
theorem qgu (vs vs2:Nat→List Value) (n:Nat):qeF vs vs2 (n+1) 0=vs 0:=by simp [qeF]
theorem qb6 (vs vs2:Nat→List Value) (n:Nat):(fun i=>qeF vs vs2 (n+1) (i+1))=qeF (fun i=>vs (i+1)) vs2 n:=by
 funext i
 simp only [qeF]
 by_cases h:i < n
 ·rw [if_pos (by omega),if_pos h]
 ·rw [if_neg (by omega),if_neg h,show i+1 - (n+1)=i - n by omega]
theorem qjv {α:Type} (row:α→List Value→List Value):∀ (vs vs2:Nat→List Value) (l l2:List α),zr row (qeF vs vs2 l.length) (l++l2)=zr row vs l++zr row vs2 l2
 | vs,vs2,[],l2=>by simp [qgv,zr]
 | vs,vs2,x :: l,l2=>by
  rw [List.cons_append,List.length_cons,zr,qgu,qb6,qjv row _ vs2 l l2]
  rfl
theorem qju {α:Type} (sds:α→List Value→List Sd):∀ (vs vs2:Nat→List Value) (l l2:List α),zs sds (qeF vs vs2 l.length) (l++l2)=zs sds vs l++zs sds vs2 l2
 | vs,vs2,[],l2=>by simp [qgv,zs]
 | vs,vs2,x :: l,l2=>by
  rw [List.cons_append,List.length_cons,zs,qgu,qb6,qju sds _ vs2 l l2,← List.append_assoc]
  rfl
section
variable {P:Program} {Q:Exit→Act→World→Prop} {n:Nat} {C:World→Prop} {fs:Fr} {t:TypeId} {ops:Array Oper} {rest:List Oper} {d:Nat} {pos:String} {af:Array Edge}
variable {w0 w:World} {own:List Nat} {m:List As} {x y:Operand} {e te tx ty:TypeId} {i j k kk by' p q s c jj:Nat} {v u V:Value} {o:Nat}
variable {α ρ:Type} {r:ρ} {row:α→List Value→List Value} {sds:α→List Value→List Sd} {vs vs2:Nat→List Value} {l l2:List α} {a:Int} {u0 u1:α} {f:List α→Option ρ}
theorem L.makeZ {z0:α} {ql:List α} {ik ik':IntKind} {nv:List Value} (hq:mk a z0=some ql) (hd:Nat.blt d n=true) (hu:P.underlying tx=some (.slice e)) (he:ze P e k by'=true) (hz:zh P e=some (row z0 nv)) (hx:val fs x=some (.int ik a)) (hy:val fs y=some (.int ik' a)) (hb:Nat.ble by' 1000000=true)
  (hn:∀ d∈sds z0 nv,d.v=.slice none 0 0∧d.rows=[]) (next:∀ b,L P ops Q n (Cls w0 own (.sl (sv b a.toNat) e k (zr row (fun _=>nv) ql) :: .ss (zs sds (fun _=>nv) ql) :: m)) rest ((d,sv b a.toNat) :: fs)) :
  L P ops Q n (Cls w0 own m) (⟨some d,.makeSlice tx x y,t,pos,af,none⟩ :: rest) fs:=by
 refine L.makeE (row:=fun z=>row z nv) hq hd hu he hz hx hy hb fun b=>?_
 obtain ⟨h0,h1,rfl⟩:=qgc hq
 refine L.to (fun w hw=>?_) (next b)
 rw [List.map_replicate] at hw
 rw [qfq]
 exact (hw.ssNew (zb hn _)).perm (List.Perm.swap ..)
theorem zJ {β:Type} {m:List β} {i:Nat} {x:β} (h:m[i]?=some x):m.set i x=m:=by
 obtain ⟨h1,h2⟩:=List.getElem?_eq_some_iff.1 h
 rw [← h2,List.set_getElem_self]
theorem qnI (hc:∀ z v,(sds z v).length=c) (hr:idx l a=some u0) (hjj:jj < c):a.toNat*c+jj < (zs sds vs l).length:=by
 have h3:=vm hc vs l a.toNat jj u0 (qe hr).2.2 hjj
 rw [List.getElem?_eq_getElem (l:=sds u0 (vs a.toNat)) (by rw [hc];exact hjj)] at h3
 exact (List.getElem?_eq_some_iff.1 h3).1
theorem Cls.zsPut (hw:Cls w0 own m w) {e':TypeId} {k':Nat} {rows:List (List Value)} {L0:List Sd} {v1:List Value} (hp:m[p]?=some (.sl v e' k' rows)) (hms:m[s]?=some (.ss L0)) (hL:L0=zs sds vs l∨L0=(zs sds vs l).set (a.toNat*c+jj) (Sd.nil 0 0))
  (hc:∀ z v,(sds z v).length=c) (hr:idx l a=some u0) (hjj:jj < c) (hsd:sds u1 v1=(sds u0 (vs a.toNat)).set jj ⟨v,e',k',rows⟩):Cls w0 own ((m.set s (.ss (zs sds (xM vs a.toNat v1) (l.set a.toNat u1)))).eraseIdx p) w:=by
 have hi:=qe hr
 have hps:p≠s:=by rintro rfl;rw [hp] at hms;cases hms
 have hzs:=qcr hc vs l a.toNat jj u0 u1 v1 _ hi.2.2 hjj hsd
 have hlt:=qnI (vs:=vs) hc hr hjj
 rw [hzs]
 rcases hL with rfl | rfl
 ·have h3:∃ d,(zs sds vs l)[a.toNat*c+jj]?=some d:=⟨_,List.getElem?_eq_getElem hlt⟩
  obtain ⟨d0,h3⟩:=h3
  have h4:=zW h3 (yF 0 0)
  have h5:=hw.ssLess hms (l':=(zs sds vs l).set (a.toNat*c+jj) (Sd.nil 0 0)) (fun b hb=>h4.mem_iff.1 (List.mem_append_right _ hb)) (fun hnd=>(List.nodup_append.1 (h4.nodup_iff.2 hnd)).2.1) (fun hh d hd=>by
   rcases List.mem_or_eq_of_mem_set hd with h6 | rfl
   ·exact hh d h6
   ·exact zO w 0 0)
  have h6:=h5.ssIn (p:=p) (s:=s) (i:=a.toNat*c+jj) (e':=0) (k':=0) (by rw [List.getElem?_set_ne (Ne.symm hps)];exact hp) (by rw [List.getElem?_set_self ((List.getElem?_eq_some_iff.1 hms).1)]) hps hlt
  rwa [List.set_set] at h6
 ·exact hw.ssIn hp hms hps hlt
theorem L.storeSlZS (h:qb (upd l a u1) f=some r) (hs:szB P te 1=true) (hx:val fs x=some (el V o)) (ho:o=a.toNat*k+j) (hy:val fs y=some v) {e':TypeId} {k':Nat} {rows:List (List Value)} {L0:List Sd} {v1:List Value}
  (hm:m[q]?=some (.sl V e k (zr row vs l))) (hp:m[p]?=some (.sl v e' k' rows)) (hms:m[s]?=some (.ss L0)) (hL:L0=zs sds vs l∨L0=(zs sds vs l).set (a.toNat*c+jj) (Sd.nil 0 0)) (hlen:∀ z v,(row z v).length=k) (hc:∀ z v,(sds z v).length=c) (hr:idx l a=some u0) (hj:Nat.ble (j+1) k=true)
  (hrow:over (row u0 (vs a.toNat)) j [v]=row u1 v1) (hjj:Nat.blt jj c=true) (hsd:sds u1 v1=(sds u0 (vs a.toNat)).set jj ⟨v,e',k',rows⟩) (hqp:q≠p)
  (next:∀ z vs',z=l.set a.toNat u1→f z=some r→L P ops Q n (Cls w0 own (((m.set q (.sl V e k (zr row vs' z))).set s (.ss (zs sds vs' z))).eraseIdx p)) rest fs) :
  L P ops Q n (Cls w0 own m) (⟨none,.store te x y,t,pos,af,none⟩ :: rest) fs:=by
 have hi:=qe hr
 have hj':j+1≤k:=by simpa using hj
 have hjj':jj < c:=by simpa [Nat.blt_eq] using hjj
 intro ac w hs' hw
 have h1:=(As.at_ (hw.get hp)).one
 refine L.storeSlN (j:=j) hs hx ho hy (jL h1) rfl (by simpa using h1) hm (vn row vs l _ _ hi.2.2) hj' ?_ ac w hs' hw
 rw [hrow,← qcs row vs l a.toNat u1 v1 (by omega)]
 refine L.to (fun w hw=>?_) (next _ (xM vs a.toNat v1) rfl (zR h rfl))
 have hqs:q≠s:=by rintro rfl;rw [hm] at hms;cases hms
 exact hw.zsPut (by rw [List.getElem?_set_ne hqp];exact hp) (by rw [List.getElem?_set_ne hqs];exact hms) hL hc hr hjj' hsd
theorem qkk (hr:idx l a=some u0) (hrow:row u1 (vs a.toNat)=row u0 (vs a.toNat)):zr row vs (l.set a.toNat u1)=zr row vs l:=by
 have hi:=qe hr
 have h1:=qcs row vs l a.toNat u1 (vs a.toNat) (by omega)
 rw [jI] at h1
 rw [h1,hrow,zJ (vn row vs l _ _ hi.2.2)]
theorem L.ssBack {ll:List Oper} {e':TypeId} {k':Nat} {rows:List (List Value)} (F:List (List Value)→As) (h:qb (upd l a u1) f=some r) (hp:m[p]?=some (.sl v e' k' rows)) (hms:m[s]?=some (.ss ((zs sds vs l).set (a.toNat*c+jj) (Sd.nil 0 0)))) (hm:m[q]?=some (F (zr row vs l)))
  (hc:∀ z v,(sds z v).length=c) (hr:idx l a=some u0) (hrow:row u1 (vs a.toNat)=row u0 (vs a.toNat)) (hjj:Nat.blt jj c=true) (hsd:sds u1 (vs a.toNat)=(sds u0 (vs a.toNat)).set jj ⟨v,e',k',rows⟩)
  (next:∀ z,z=l.set a.toNat u1→f z=some r→L P ops Q n (Cls w0 own (((m.set q (F (zr row vs z))).set s (.ss (zs sds vs z))).eraseIdx p)) ll fs):L P ops Q n (Cls w0 own m) ll fs:=by
 have hjj':jj < c:=by simpa [Nat.blt_eq] using hjj
 refine L.to (fun w hw=>?_) (next _ rfl (zR h rfl))
 rw [qkk hr hrow,zJ hm]
 have:=hw.zsPut (vs:=vs) (l:=l) (a:=a) (u0:=u0) (u1:=u1) (v1:=vs a.toNat) hp hms (.inr rfl) hc hr hjj' hsd
 rwa [jI] at this
def rng (n:Nat) (a:Int):Option Unit:=if 0≤a∧a < n then some () else none
def qp3 {α:Type} (n:Nat) (l:List α) (a b:Int):Option α:=if 0≤a∧0≤b∧b < n then idx l (a*n+b) else none
end
end Go.S
end
section
namespace Go.S
variable {dR:Dr}
section
variable {P:Program} {Q:Exit→Act→World→Prop} {n:Nat} {C:World→Prop} {fs:Fr} {t:TypeId} {ops:Array Oper} {rest:List Oper} {d:Nat} {pos:String} {af:Array Edge}
variable {w0 w:World} {own:List Nat} {m:List As} {x y:Operand} {e te tx ty:TypeId} {i j k kk by' q s c g cap N a b:Nat} {v u V:Value} {rows more news:List (List Value)}
theorem vH:∀ (l:List As) (j:Nat) (h:j < l.length),l.Perm (l[j] :: l.eraseIdx j)
 | [],j,h=>by simp at h
 | q :: l,0,h=>List.Perm.refl _
 | q :: l,j+1,h=>by
  simp only [List.getElem_cons_succ,List.eraseIdx_cons_succ]
  exact ((vH l j (by simpa using h)).cons q).trans (.swap _ _ _)
abbrev rv (g N cap:Nat):Value:=.slice (some ⟨g,0,none⟩) N cap
theorem Cls.row (hw:Cls w0 own m w) (hm:m[i]?=some (.sl v e k rows)) (h0:rows≠[]):∃ g cap,v=rv g rows.length cap∧rows.length≤cap∧cap≤maxLen:=by
 obtain ⟨_,_,hown⟩:=hw.get hm
 rcases hown with ⟨_,h⟩ | ⟨g,cap,cur,hv,_,_,hnc,hcm,_,_⟩
 ·exact absurd (List.length_eq_zero_iff.1 h) h0
 ·exact ⟨g,cap,hv,hnc,hcm⟩
end
end Go.S
end
section
namespace Go.S
variable {dR:Dr}
def qpn {α:Type} (l:List α) (a b:Int):Option (List α):=if 0≤a∧a < b∧b≤l.length∧l.length≤1000000000 then some (l.take a.toNat++l.drop b.toNat) else none
def qpm {α:Type} (l:List α) (a:Int) (x:α):Option (List α):=if 0≤a∧a≤l.length∧l.length≤1000000000 then some (l.take a.toNat++[x]++l.drop a.toNat) else none
def qqb [Dr] {α:Type} (P:Program) (f:FuncId) (e:TypeId) (k:Nat) (row:α→List Value):Prop :=
 ∀ (l:List α) (g cap a b:Nat) (w:World),a < b→b≤l.length→l.length≤cap→l.length≤1000000000→Cls w [g] [.sl (rv g l.length cap) e k (l.map row)] w →
  Calls P f [rv g l.length cap,.int .i64 (a:Nat),.int .i64 (b:Nat)].toArray w fun en w'=>∃ v',en=.returned v'∧Cls w [g] [.sl v' e k ((l.take a++l.drop b).map row)] w'
structure qqa [Dr] {α:Type} (P:Program) (f:FuncId) (e:TypeId) (k:Nat) (row:α→List Value):Prop where
 fin:∀ (l:List α) (x:α) (g cap a:Nat) (v:Value) (w:World) (b:Nat),w.heap[b]?=some (.cells (row x).toArray e (0,0))→b≠g→a=l.length→l.length≤1000000000→Cls w [g] [.sl v e k (l.map row)] w →
  Calls P f [v,.int .i64 (a:Nat),sv b 1].toArray w fun en w'=>∃ v',en=.returned v'∧Cls w [g] [.sl v' e k ((l.take a++[x]++l.drop a).map row)] w'
 mid:∀ (l:List α) (x:α) (g cap a:Nat) (v:Value) (w:World) (b:Nat),w.heap[b]?=some (.cells (row x).toArray e (0,0))→b≠g→a < l.length→l.length≤cap→l.length≤1000000000→Cls w [g] [.sl (rv g l.length cap) e k (l.map row)] w →
  Calls P f [rv g l.length cap,.int .i64 (a:Nat),sv b 1].toArray w fun en w'=>∃ v',en=.returned v'∧Cls w [g] [.sl v' e k ((l.take a++[x]++l.drop a).map row)] w'
section
variable {P:Program} {Q:Exit→Act→World→Prop} {n:Nat} {C:World→Prop} {fs:Fr} {t:TypeId} {ops:Array Oper} {rest:List Oper} {d:Nat} {pos:String} {af:Array Edge}
variable {w0 w w':World} {own:List Nat} {m:List As} {x y z:Operand} {e tx:TypeId} {i j k by' g N cap:Nat} {v u v':Value} {rows rows':List (List Value)} {f:FuncId} {ts:Array TypeId}
def qp2 (v1 v2:Value):Nat→List Value
 | 0=>[v1]
 | _=>[v2]
end
end Go.S
end
section
namespace Go.S
variable {dR:Dr}
def held (c:List Ob) (w:World):Prop:=∀ o∈c,w.heap[o.b]?=some (.cells o.c.toArray o.e (0,0))
def Fz (K:World→Prop) (c:List Ob) (v:Value) (k:Nat) (rows:List (List Value)):Prop:=∀ w,K w→held c w→At w v k rows
def Stb (K:World→Prop) (w:World):Prop:=∀ w',RowKit.Below w.heap.size w w'→K w'
def Kn (K:World→Prop) (c:List Ob) (w:World):Prop:=K w∧held c w
def Mo (c c':List Ob):Prop:=∀ w,held c' w→held c w
section
variable {K:World→Prop} {c c':List Ob} {v u:Value} {k:Nat} {rows:List (List Value)} {w0 w w':World} {own:List Nat} {m:List As} {e:TypeId} {i j s:Nat}
theorem Fz.up (h:Fz K [] v k rows):Fz K c v k rows:=fun w hk _=>h w hk (by intro o ho;cases ho)
theorem Fz.mo (h:Fz K c v k rows) (hm:Mo c c'):Fz K c' v k rows:=fun w hk hc=>h w hk (hm w hc)
theorem Fz.tok (h:Fz K c v k rows):Fz (Kn K c) [] v k rows:=fun w hk _=>h w hk.1 hk.2
theorem Fz.nil:Fz K c (.slice none 0 0) k []:=fun w _ _=>At.nil w k
section
variable {α:Type} {g:α→List Value} {l z:List α} {lo hi:Int}
theorem Fz.cutM (hA:Fz K c v k (l.map g)) (h:cut l 0 hi=some z):Fz K c (qgL v hi.toNat) k (z.map g):=fun w hk hc=>(hA w hk hc).cutM h
theorem Fz.dropM (hA:Fz K c v k (l.map g)) (h:cut l lo l.length=some z):Fz K c (zq v lo.toNat k) k (z.map g):=fun w hk hc=>(hA w hk hc).dropM h
end
def FzA (K:World→Prop) (c:List Ob) (L:List Sd):Prop:=∀ d∈L,Fz K c d.v d.k d.rows
theorem FzA.up {L:List Sd} (h:FzA K [] L):FzA K c L:=fun d hd=>(h d hd).up
theorem FzA.mo {L:List Sd} (h:FzA K c L) (hm:Mo c c'):FzA K c' L:=fun d hd=>(h d hd).mo hm
theorem FzA.tok {L:List Sd} (h:FzA K c L):FzA (Kn K c) [] L:=fun d hd=>(h d hd).tok
theorem FzA.nil:FzA K c []:=fun d hd=>by cases hd
theorem FzA.cons {d:Sd} {L:List Sd} (h:Fz K c d.v d.k d.rows) (hL:FzA K c L):FzA K c (d :: L):=List.forall_mem_cons.2 ⟨h,hL⟩
theorem FzA.app {L L':List Sd} (h:FzA K c L) (h':FzA K c L'):FzA K c (L++L'):=fun d hd=>by
 rcases List.mem_append.1 hd with h1 | h1
 ·exact h d h1
 ·exact h' d h1
theorem FzA.at {α:Type} {sds:α→List Value→List Sd} {vs:Nat→List Value} {l:List α} {a:Int} {u0:α} (hd:FzA K c (zs sds vs l)) {nl:Nat} (hc:∀ z v,(sds z v).length=nl) (hr:idx l a=some u0) (hj:(sds u0 (vs a.toNat))[j]?=some ⟨v,e,k,rows⟩):Fz K c v k rows:=fun w hk hh =>
 zAt (fun d hd'=>hd d hd' w hk hh) hc hr hj
theorem Stb.kn (hK:Stb K w0) (hw:Cls w0 [] m w) (hl:m.getLast?=some (.os c)):Stb (Kn K c) w:=by
 have hm:As.os c∈m:=List.mem_of_getLast? hl
 intro w' hb
 have h1:=hw.below
 refine ⟨hK w' ⟨hb.os.trans h1.os,hb.tape.trans h1.tape,hb.output.trans h1.output,Nat.le_trans h1.size hb.size,fun q hq=>?_⟩,fun o ho=>?_⟩
 ·rw [hb.block q (Nat.lt_of_lt_of_le hq h1.size),h1.block q hq]
 ·have h2:=(hw.mine _ hm).1 o ho
  rw [hb.block o.b (Array.getElem?_eq_some_iff.1 h2).1,h2]
theorem Mo.refl:Mo c c:=fun _ h=>h
theorem Mo.app1 {c2:List Ob}:Mo c (c2++c):=fun _ h o ho=>h o (List.mem_append_right _ ho)
theorem Mo.trans {c1 c2 c3:List Ob} (h:Mo c1 c2) (h':Mo c2 c3):Mo c1 c3:=fun w hw=>h w (h' w hw)
theorem Cls.frz0 (hw:Cls w0 own (.sl v e k rows :: .os c :: m) w):∃ c',Mo c c'∧(∀ K,Fz K c' v k rows)∧Cls w0 own (.os c' :: m) w:=by
 have hx:=(hw.mine (.sl v e k rows) (by simp)).1
 have ho:=(hw.mine (.os c) (by simp)).1
 obtain ⟨h1,h2,h3⟩:=hx
 rcases h3 with ⟨rfl,h0⟩ | ⟨g,cap,cur,rfl,hg,hh,r⟩
 ·obtain rfl:rows=[]:=List.length_eq_zero_iff.1 h0
  exact ⟨c,Mo.refl,fun K=>Fz.nil,hw.sublist (List.sublist_cons_self _ _)⟩
 ·refine ⟨⟨g,cur.toList,e⟩ :: c,fun w' h o ho=>h o (List.mem_cons_of_mem _ ho),fun K w' _ hc=>?_,?_⟩
  ·have h5:w'.heap[g]?=w.heap[g]?:=by
    have:=hc ⟨g,cur.toList,e⟩ (by simp)
    rw [this,hh]
   exact As.at_ (As.holds_congr (x:=.sl _ e k rows) ⟨h1,h2,.inr ⟨g,cap,cur,rfl,hg,hh,r⟩⟩ fun b hb=>by
    simp only [As.foot,Value.ownBlock,Option.toList_some,List.mem_singleton] at hb
    rw [hb];exact h5)
  ·refine hw.rePerm ?_ fun z hz=>?_
   ·simp only [List.flatMap_cons,As.foot,Value.ownBlock,Option.toList_some,List.map_cons,List.singleton_append,List.cons_append,List.nil_append]
    exact List.Perm.refl _
   ·rcases List.mem_cons.1 hz with rfl | hz
    ·intro o ho'
     rcases List.mem_cons.1 ho' with rfl | ho'
     ·exact hh
     ·exact ho o ho'
    ·exact (hw.mine z (by simp [hz])).1
theorem Cls.frzS0:∀ {L:List Sd} {c:List Ob},Cls w0 own (.ss L :: .os c :: m) w→∃ c',Mo c c'∧(∀ K,FzA K c' L)∧Cls w0 own (.os c' :: m) w
 | [],c,hw=>⟨c,Mo.refl,fun K=>FzA.nil,hw.sublist (List.sublist_cons_self _ _)⟩
 | ⟨v,e,k,rows⟩ :: L,c,hw=>by
  have h1:Cls w0 own (.sl v e k rows :: .os c :: .ss L :: m) w:=by
   refine hw.rePerm ?_ fun z hz=>?_
   ·simp only [List.flatMap_cons]
    show (Sd.foot ⟨v,e,k,rows⟩++((As.os c).foot++((As.ss L).foot++_))).Perm ((Sd.foot ⟨v,e,k,rows⟩++L.flatMap Sd.foot)++((As.os c).foot++_))
    rw [List.append_assoc]
    refine List.Perm.append_left _ ?_
    rw [← List.append_assoc,← List.append_assoc]
    exact List.Perm.append_right _ List.perm_append_comm
   ·rcases List.mem_cons.1 hz with rfl | hz
    ·exact (hw.mine (.ss (⟨v,e,k,rows⟩ :: L)) (by simp)).1 _ (List.mem_cons_self ..)
    ·rcases List.mem_cons.1 hz with rfl | hz
     ·exact (hw.mine (.os c) (by simp)).1
     ·rcases List.mem_cons.1 hz with rfl | hz
      ·intro d hd
       exact (hw.mine (.ss (⟨v,e,k,rows⟩ :: L)) (by simp)).1 d (List.mem_cons_of_mem _ hd)
      ·exact (hw.mine z (by simp [hz])).1
  obtain ⟨c1,hm1,hf1,h2⟩:=h1.frz0
  obtain ⟨c2,hm2,hf2,h3⟩:=Cls.frzS0 (h2.perm (List.Perm.swap ..))
  exact ⟨c2,hm1.trans hm2,fun K=>FzA.cons ((hf1 K).mo hm2) (hf2 K),h3⟩
theorem vd {m:List As} {i:Nat} {x y:As} (hi:m[i]?=some x) (hl:m.getLast?=some y) (hn:Nat.blt (i+1) m.length=true):m.Perm (x :: y :: (m.eraseIdx i).dropLast)∧(m.eraseIdx i).getLast?=some y:=by
 have hn':i+1 < m.length:=by simpa [Nat.blt_eq] using hn
 obtain ⟨h1,h2⟩:=List.getElem?_eq_some_iff.1 hi
 have hp:m.Perm (x :: m.eraseIdx i):=by
  have:=vH m i h1
  rwa [h2] at this
 have hl2:(m.eraseIdx i).getLast?=some y:=by
  rw [List.getLast?_eq_getElem?] at hl ⊢
  rw [List.length_eraseIdx_of_lt h1,List.getElem?_eraseIdx_of_ge (by omega)]
  rwa [show m.length - 1 - 1+1=m.length - 1 by omega]
 refine ⟨hp.trans (List.Perm.cons x ?_),hl2⟩
 have hne:m.eraseIdx i≠[]:=by
  intro h0
  rw [h0] at hl2
  cases hl2
 have h5:=List.dropLast_concat_getLast hne
 have h6:(m.eraseIdx i).getLast hne=y:=by
  rw [List.getLast?_eq_some_getLast hne] at hl2
  exact Option.some.inj hl2
 rw [h6] at h5
 calc (m.eraseIdx i).Perm ((m.eraseIdx i).dropLast++[y]):=by rw [h5]
  _ |>.Perm (y :: (m.eraseIdx i).dropLast):=List.perm_append_comm
theorem Cls.frz (hw:Cls w0 own m w) (hi:m[i]?=some (.sl v e k rows)) (hl:m.getLast?=some (.os c)) (hn:Nat.blt (i+1) m.length=true) :
  ∃ c',Mo c c'∧(∀ K,Fz K c' v k rows)∧Cls w0 own ((m.eraseIdx i).dropLast++[.os c']) w:=by
 obtain ⟨c',h1,h2,h3⟩:=(hw.perm (vd hi hl hn).1.symm).frz0
 exact ⟨c',h1,h2,h3.perm List.perm_append_comm⟩
theorem Cls.frzS {L:List Sd} (hw:Cls w0 own m w) (hi:m[i]?=some (.ss L)) (hl:m.getLast?=some (.os c)) (hn:Nat.blt (i+1) m.length=true) :
  ∃ c',Mo c c'∧(∀ K,FzA K c' L)∧Cls w0 own ((m.eraseIdx i).dropLast++[.os c']) w:=by
 obtain ⟨c',h1,h2,h3⟩:=(hw.perm (vd hi hl hn).1.symm).frzS0
 exact ⟨c',h1,h2,h3.perm List.perm_append_comm⟩
end
section
variable {K:World→Prop} {c c':List Ob} {P:Program} {Q:Exit→Act→World→Prop} {n:Nat} {C:World→Prop} {fs:Fr} {t:TypeId} {ops:Array Oper} {rest:List Oper} {d:Nat} {pos:String} {af:Array Edge}
variable {w0 w:World} {own:List Nat} {m:List As} {x y z:Operand} {e te tx ty:TypeId} {i j k kk by' p q s b:Nat} {v u:Value} {rows:List (List Value)}
theorem L.frz {ll:List Oper} (hi:m[i]?=some (.sl v e k rows)) (hl:m.getLast?=some (.os c)) (hn:Nat.blt (i+1) m.length=true) (next:∀ c',Mo c c'→(∀ K,Fz K c' v k rows)→L P ops Q n (Cls w0 own ((m.eraseIdx i).dropLast++[.os c'])) ll fs):L P ops Q n (Cls w0 own m) ll fs:=by
 intro a w hs hw
 obtain ⟨c',h1,h2,h3⟩:=hw.frz hi hl hn
 exact next c' h1 h2 a w hs h3
theorem W.frz {ll:Code} (hi:m[i]?=some (.sl v e k rows)) (hl:m.getLast?=some (.os c)) (hn:Nat.blt (i+1) m.length=true) (next:∀ c',Mo c c'→(∀ K,Fz K c' v k rows)→W P Q n (Cls w0 own ((m.eraseIdx i).dropLast++[.os c'])) ll fs):W P Q n (Cls w0 own m) ll fs:=by
 intro a w hs hw
 obtain ⟨c',h1,h2,h3⟩:=hw.frz hi hl hn
 exact next c' h1 h2 a w hs h3
theorem E.frz {ex:Exit} (hi:m[i]?=some (.sl v e k rows)) (hl:m.getLast?=some (.os c)) (hn:Nat.blt (i+1) m.length=true) (next:∀ c',Mo c c'→(∀ K,Fz K c' v k rows)→E ex Q n (Cls w0 own ((m.eraseIdx i).dropLast++[.os c'])) fs):E ex Q n (Cls w0 own m) fs:=by
 intro a w hs hw
 obtain ⟨c',h1,h2,h3⟩:=hw.frz hi hl hn
 exact next c' h1 h2 a w hs h3
theorem L.frzS {ll:List Oper} {L0:List Sd} (hi:m[i]?=some (.ss L0)) (hl:m.getLast?=some (.os c)) (hn:Nat.blt (i+1) m.length=true) (next:∀ c',Mo c c'→(∀ K,FzA K c' L0)→L P ops Q n (Cls w0 own ((m.eraseIdx i).dropLast++[.os c'])) ll fs):L P ops Q n (Cls w0 own m) ll fs:=by
 intro a w hs hw
 obtain ⟨c',h1,h2,h3⟩:=hw.frzS hi hl hn
 exact next c' h1 h2 a w hs h3
theorem W.frzS {ll:Code} {L0:List Sd} (hi:m[i]?=some (.ss L0)) (hl:m.getLast?=some (.os c)) (hn:Nat.blt (i+1) m.length=true) (next:∀ c',Mo c c'→(∀ K,FzA K c' L0)→W P Q n (Cls w0 own ((m.eraseIdx i).dropLast++[.os c'])) ll fs):W P Q n (Cls w0 own m) ll fs:=by
 intro a w hs hw
 obtain ⟨c',h1,h2,h3⟩:=hw.frzS hi hl hn
 exact next c' h1 h2 a w hs h3
theorem E.frzS {ex:Exit} {L0:List Sd} (hi:m[i]?=some (.ss L0)) (hl:m.getLast?=some (.os c)) (hn:Nat.blt (i+1) m.length=true) (next:∀ c',Mo c c'→(∀ K,FzA K c' L0)→E ex Q n (Cls w0 own ((m.eraseIdx i).dropLast++[.os c'])) fs):E ex Q n (Cls w0 own m) fs:=by
 intro a w hs hw
 obtain ⟨c',h1,h2,h3⟩:=hw.frzS hi hl hn
 exact next c' h1 h2 a w hs h3
theorem Cls.reflF [Dr] (w:World):Cls w [] [.os []] w:=⟨rfl,rfl,rfl,DR.refl _,Nat.le_refl _,fun _ _ _=>rfl,by simp [As.foot],fun x hx=>by
 simp only [List.mem_singleton] at hx
 subst hx
 exact ⟨(fun o ho=>nomatch ho),(fun b hb=>by simp [As.foot] at hb)⟩⟩
variable {α ρ:Type} {r:ρ} {row:α→List Value→List Value} {sds:α→List Value→List Sd} {vs vs2:Nat→List Value} {l l2:List α} {a:Int} {u0 u1:α} {f:List α→Option ρ}
def PlZ (row:α→List Value→List Value) (sds:α→List Value→List Sd):Prop:=∀ x v,(∀ d∈sds x v,d.v.oneCell'=true)→∀ u∈row x v,u.oneCell'=true
def Sd.as (d:Sd):As:=.sl d.v d.e d.k d.rows
structure Rw (k:Nat) where
 r:List Value
 len:r.length=k
 one:∀ u∈r,u.oneCell'=true
def qpF (vs:Nat→List Value) (n:Nat):Nat→List Value:=vs
def zsd {α:Type} (sds:α→List Value→List Sd) (vs:Nat→List Value) (l:List α) (j:Nat):List Sd:=zs sds (fun q=>vs (q+j)) (l.drop j)
end
end Go.S
end
