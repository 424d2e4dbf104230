import Derived.Test.YtloiiohoelhldaaGreatDoorZa
import Derived.ChangeKeysEq
import Derived.Laws.StructEq
import Derived.Laws.Cover3
import Derived.Laws.Tables
import Derived.MapKept
import Derived.Laws.IdiomCopy
import Derived.Lib.Repeat
import Derived.Lib.Overlaps
import Derived.Lib.AppendZerosOnto
import Derived.Sort.OwnSortedInts
import Derived.Lib.SlicesCompact
import Derived.Maps.RangeRun
set_option linter.unusedVariables false
set_option linter.unusedSimpArgs false
section
namespace Go.S
def qa1(P:Program)(tot:Nat):Nat→List Field→Bool
  | o,[]=>Nat.beq o tot
  | o,f::r=>Nat.beq f.offset o&&qa1 P tot (o+P.cellsOf f.type) r
def shB(P:Program):Nat→TypeId→List Value→Bool
  | 0,_,_=>false
  | d+1,t,cs =>
    match P.underlying t,cs with
    | some .bool,[.bool _]=>true
    | some (.int q),[.int q' _]=>decide (q'=q)
    | some .string,[.string _]=>true
    | some (.array n e),cs=>Nat.beq cs.length (n*P.cellsOf e)&&(P.info? e).isSome&&(List.range n).all fun i=>shB P d e ((cs.drop (i*P.cellsOf e)).take (P.cellsOf e))
    | some (.struct fs),cs=>(fs.toList.all fun f=>f.name != "_")&&!P.stoodInHeld t&&qa1 P cs.length 0 fs.toList&&fs.toList.all fun f=>shB P d f.type ((cs.drop f.offset).take (P.cellsOf f.type))
    | _,_=>false
def Vof(P:Program)(t:TypeId)(cs:List Value)(v:Value):Prop:=(qP P t true=true∧v=.agg cs.toArray)∨(qP P t false=true∧cs=[v])
section
variable{P:Program}{w:World}
theorem qgE{t:TypeId}{i:TypeInfo}(h:P.info? t=some i):szB P t (P.cellsOf t)=true:=by simp[szB,Program.cellsOf,h]
theorem ve{d:Nat}{t:TypeId}{cs:List Value}(h:shB P (d+1) t cs=true) :
    (∃b,P.underlying t=some .bool∧cs=[.bool b])∨(∃q n,P.underlying t=some (.int q)∧cs=[.int q n])∨(∃s,P.underlying t=some .string∧cs=[.string s]) ∨
    (∃n e,P.underlying t=some (.array n e)∧cs.length=n*P.cellsOf e∧(∃i,P.info? e=some i)∧∀i,i<n→shB P d e ((cs.drop (i*P.cellsOf e)).take (P.cellsOf e))=true) ∨
    (∃fs,P.underlying t=some (.struct fs)∧(∀f∈fs.toList,f.name ≠ "_")∧P.stoodInHeld t=false∧qa1 P cs.length 0 fs.toList=true∧∀f∈fs.toList,shB P d f.type ((cs.drop f.offset).take (P.cellsOf f.type))=true):=by
  unfold shB at h
  cases hu:P.underlying t with
  | none=>simp[hu]at h
  | some k =>
    rw[hu]at h
    cases k with
    | bool =>
      refine .inl ?_
      match cs,h with
      | [.bool b],_=>exact⟨b,rfl,rfl⟩
    | int q =>
      refine .inr (.inl ?_)
      match cs,h with
      | [.int q' n],h=>exact⟨q,n,rfl,by have:=of_decide_eq_true h;rw[this]⟩
    | string =>
      refine .inr (.inr (.inl ?_))
      match cs,h with
      | [.string b],_=>exact⟨b,rfl,rfl⟩
    | array n e =>
      refine .inr (.inr (.inr (.inl ⟨n,e,rfl,?_⟩)))
      have h':(Nat.beq cs.length (n*P.cellsOf e)&&(P.info? e).isSome&&(List.range n).all fun i=>shB P d e ((cs.drop (i*P.cellsOf e)).take (P.cellsOf e)))=true:=by
        revert h
        match cs with
        | []=>exact id
        | [_]=>exact id
        | _::_::_=>exact id
      simp only[Bool.and_eq_true,List.all_eq_true,List.mem_range]at h'
      exact⟨Nat.eq_of_beq_eq_true h'.1.1,Option.isSome_iff_exists.1 h'.1.2,h'.2⟩
    | struct fs =>
      refine .inr (.inr (.inr (.inr ⟨fs,rfl,?_⟩)))
      have h':((fs.toList.all fun f=>f.name != "_")&&!P.stoodInHeld t&&qa1 P cs.length 0 fs.toList&&fs.toList.all fun f=>shB P d f.type ((cs.drop f.offset).take (P.cellsOf f.type)))=true:=by
        revert h
        match cs with
        | []=>exact id
        | [_]=>exact id
        | _::_::_=>exact id
      simp only[Bool.and_eq_true,List.all_eq_true,Bool.not_eq_true',bne_iff_ne]at h'
      exact⟨h'.1.1.1,h'.1.1.2,h'.1.2,h'.2⟩
    | _=>simp at h
theorem qeo{t:TypeId}{xs:Array Value}{off d:Nat}(hs:shB P d t ((xs.toList.drop off).take (P.cellsOf t))=true) :
    ∃v,(part t xs off).run P w=.ok v w∧Vof P t ((xs.toList.drop off).take (P.cellsOf t)) v:=by
  cases d with
  | zero=>simp[shB]at hs
  | succ d =>
    have one:∀v,((xs.toList.drop off).take (P.cellsOf t))=[v]→xs[off]?=some v:=fun v hv=>by
      have h0:((xs.toList.drop off).take (P.cellsOf t))[0]?=some v:=by rw[hv];rfl
      rw[List.getElem?_take]at h0
      split at h0
      · rw[List.getElem?_drop]at h0
        simpa using h0
      · cases h0
    have many:qP P t true=true→(∃i,P.info? t=some i)→∃v,(part t xs off).run P w=.ok v w∧Vof P t ((xs.toList.drop off).take (P.cellsOf t)) v:=by
      rintro ha ⟨i,hi⟩
      refine⟨.agg ((xs.toList.drop off).take (P.cellsOf t)).toArray,?_,.inl ⟨ha,rfl⟩⟩
      have he:xs.extract off (off+P.cellsOf t)=((xs.toList.drop off).take (P.cellsOf t)).toArray:=by
        apply Array.ext'
        rw[Array.toList_extract]
        simp[List.extract]
      simp[part,jr ha,qt (qgE hi),he]
    rcases ve hs with⟨b,hu,hb⟩|⟨q,n,hu,hb⟩|⟨b,hu,hb⟩|⟨n,e,hu,_⟩|⟨fs,hu,_⟩
    · exact⟨_,by simp[part,isAgg,run_underlying hu,one _ hb],.inr ⟨by simp[qP,hu],hb⟩⟩
    · exact⟨_,by simp[part,isAgg,run_underlying hu,one _ hb],.inr ⟨by simp[qP,hu],hb⟩⟩
    · exact⟨_,by simp[part,isAgg,run_underlying hu,one _ hb],.inr ⟨by simp[qP,hu],hb⟩⟩
    · exact many (by simp[qP,hu]) (Go.info_of_underlying hu)
    · exact many (by simp[qP,hu]) (Go.info_of_underlying hu)
def EqC(P:Program)(d:Nat)(t:TypeId)(m:Nat):Prop:=∀(w:World) (v v':Value) (cs cs':List Value),shB P m t cs=true→shB P m t cs'=true→Vof P t cs v→Vof P t cs' v' →
  ∃r:Bool,(Op.equalIn d t v v').run P w=.ok r w∧(r=true↔cs=cs')
theorem qen{d m off:Nat}{t:TypeId}(IH:EqC P d t m){xs ys:Array Value}(hx:shB P m t ((xs.toList.drop off).take (P.cellsOf t))=true)(hy:shB P m t ((ys.toList.drop off).take (P.cellsOf t))=true) :
    ∃a b r,(part t xs off).run P w=.ok a w∧(part t ys off).run P w=.ok b w∧(Op.equalIn d t a b).run P w=.ok r w∧(r=true↔(xs.toList.drop off).take (P.cellsOf t)=(ys.toList.drop off).take (P.cellsOf t)):=by
  obtain⟨a,p1,f1⟩:=qeo (w:=w) hx
  obtain⟨b,p2,f2⟩:=qeo (w:=w) hy
  obtain⟨r,hr,hi⟩:=IH w a b _ _ hx hy f1 f2
  exact⟨a,b,r,p1,p2,hr,hi⟩
theorem qaK{α:Type}(l:List α)(o n:Nat):l.drop o=(l.drop o).take n++l.drop (o+n):=by
  rw[←List.drop_drop,List.take_append_drop]
theorem qeH{xs ys:List Value}(o n:Nat):xs.drop o=ys.drop o↔(xs.drop o).take n=(ys.drop o).take n∧xs.drop (o+n)=ys.drop (o+n):=by
  constructor
  · intro h;rw[h];exact⟨rfl,by rw[←List.drop_drop,←List.drop_drop,h]⟩
  · rintro⟨h1,h2⟩;rw[qaK xs o n,qaK ys o n,h1,h2]
theorem vv(d m:Nat)(xs ys:Array Value)(hl:xs.toList.length=ys.toList.length):∀(fs:List Field) (o:Nat),(∀f∈fs,f.name ≠ "_" ∧ EqC P d f.type m∧shB P m f.type ((xs.toList.drop f.offset).take (P.cellsOf f.type))=true∧shB P m f.type ((ys.toList.drop f.offset).take (P.cellsOf f.type))=true) →
    qa1 P xs.toList.length o fs=true→∃r:Bool,(Op.eqFields d xs ys fs).run P w=.ok r w∧(r=true↔xs.toList.drop o=ys.toList.drop o)
  | [],o,_,ht=>by
    have:o=xs.toList.length:=Nat.eq_of_beq_eq_true ht
    refine⟨true,by simp[Op.eqFields],?_⟩
    rw[List.drop_eq_nil_of_le (by omega),List.drop_eq_nil_of_le (by omega)]
    simp
  | f::fs,o,hall,ht=>by
    obtain⟨hn,hp,h1,h2⟩:=hall f (by simp)
    simp only[qa1,Bool.and_eq_true]at ht
    have ho:f.offset=o:=Nat.eq_of_beq_eq_true ht.1
    obtain⟨a,b,r,p1,p2,p3,hiff⟩:=qen (w:=w) hp h1 h2
    obtain⟨r',hr',hiff'⟩:=vv d m xs ys hl fs _ (fun g hg=>hall g (by simp[hg])) ht.2
    simp only[Op.eqFields,hn,ne_eq,not_false_eq_true,if_true,Sem.run_bind,p1,p2,p3,Result.andThen_ok]
    rw[qeH o (P.cellsOf f.type)]
    rw[ho]at hiff
    cases r
    · exact⟨false,by simp,by simp;intro e;exact absurd (hiff.2 e) (by simp)⟩
    · refine⟨r',by simpa using hr',?_⟩
      rw[hiff']
      simp[hiff.1 rfl]
theorem wy(d m:Nat){e:TypeId}(IH:EqC P d e m)(xs ys:Array Value)(n:Nat)(hlx:xs.toList.length=n*P.cellsOf e)(hly:ys.toList.length=n*P.cellsOf e)
    (hx:∀i,i<n→shB P m e ((xs.toList.drop (i*P.cellsOf e)).take (P.cellsOf e))=true) (hy:∀i,i<n→shB P m e ((ys.toList.drop (i*P.cellsOf e)).take (P.cellsOf e))=true):∀(k i:Nat),i+k=n →
    ∃r:Bool,(Op.eqItems d e (P.cellsOf e) xs ys (List.range' i k)).run P w=.ok r w∧(r=true↔xs.toList.drop (i*P.cellsOf e)=ys.toList.drop (i*P.cellsOf e))
  | 0,i,hi=>by
    have:i=n:=by omega
    subst this
    refine⟨true,by simp[Op.eqItems],?_⟩
    rw[List.drop_eq_nil_of_le (by omega),List.drop_eq_nil_of_le (by omega)]
    simp
  | k+1,i,hi=>by
    obtain⟨a,b,r,p1,p2,p3,hiff⟩:=qen (w:=w) IH (hx i (by omega)) (hy i (by omega))
    obtain⟨r',hr',hiff'⟩:=wy d m IH xs ys n hlx hly hx hy k (i+1) (by omega)
    rw[List.range'_succ]
    simp only[Op.eqItems,Sem.run_bind,p1,p2,p3,Result.andThen_ok]
    rw[qeH (i*P.cellsOf e) (P.cellsOf e),show i*P.cellsOf e+P.cellsOf e=(i+1)*P.cellsOf e by rw[Nat.succ_mul]]
    cases r
    · exact⟨false,by simp,by simp;intro e;exact absurd (hiff.2 e) (by simp)⟩
    · refine⟨r',by simpa using hr',?_⟩
      rw[hiff']
      simp[hiff.1 rfl]
theorem qht(d:Nat):∀(m:Nat) (t:TypeId),EqC P (d+m) t m
  | 0,t=>fun w v v' cs cs' h=>by simp[shB]at h
  | m+1,t=>fun w v v' cs cs' h h' hv hv'=>by
    rcases ve h with⟨b,hu,rfl⟩|⟨q,n,hu,rfl⟩|⟨b,hu,rfl⟩|⟨n,e,hu,hl,⟨ie,hie⟩,hall⟩|⟨fs,hu,hn,hst,ht,hall⟩
    · rcases ve h' with⟨b',hu',rfl⟩|⟨q,n,hu',_⟩|⟨b,hu',_⟩|⟨n,e,hu',_⟩|⟨fs,hu',_⟩<;>simp only[hu,Option.some.injEq,reduceCtorEq]at hu'
      have e1 : v = .bool b := by rcases hv with ⟨ha, _⟩ | ⟨_, he⟩; · simp [qP, hu] at ha
                                  · simpa using he.symm
      have e2 : v' = .bool b' := by rcases hv' with ⟨ha, _⟩ | ⟨_, he⟩; · simp [qP, hu] at ha
                                    · simpa using he.symm
      subst e1;subst e2
      exact⟨b == b',run_equalIn_bool' _ _ _ _ _ hu,by simp⟩
    · rcases ve h' with⟨b',hu',_⟩|⟨q',n',hu',rfl⟩|⟨b,hu',_⟩|⟨n,e,hu',_⟩|⟨fs,hu',_⟩<;>simp only[hu,Option.some.injEq,reduceCtorEq]at hu'
      have e1 : v = .int q n := by rcases hv with ⟨ha, _⟩ | ⟨_, he⟩; · simp [qP, hu] at ha
                                   · simpa using he.symm
      have e2 : v' = .int q' n' := by rcases hv' with ⟨ha, _⟩ | ⟨_, he⟩; · simp [qP, hu] at ha
                                      · simpa using he.symm
      have e3:q=q':=by injection hu'
      subst e3
      subst e1;subst e2
      exact⟨n == n',run_equalIn_int _ _ _ _ _ _ _ hu,by simp⟩
    · rcases ve h' with⟨b',hu',_⟩|⟨q',n',hu',_⟩|⟨b',hu',rfl⟩|⟨n,e,hu',_⟩|⟨fs,hu',_⟩<;>simp only[hu,Option.some.injEq,reduceCtorEq]at hu'
      have e1 : v = .string b := by rcases hv with ⟨ha, _⟩ | ⟨_, he⟩; · simp [qP, hu] at ha
                                    · simpa using he.symm
      have e2 : v' = .string b' := by rcases hv' with ⟨ha, _⟩ | ⟨_, he⟩; · simp [qP, hu] at ha
                                      · simpa using he.symm
      subst e1;subst e2
      refine⟨b.toList == b'.toList,run_equalIn_string _ _ _ _ _ hu,?_⟩
      rw[beq_iff_eq,ByteArray.toList_eq,ByteArray.toList_eq]
      constructor
      · intro e;rw[show b=b' from ByteArray.ext (Array.ext' e)]
      · intro e
        have:b=b':=by simpa using e
        rw[this]
    · rcases ve h' with⟨b',hu',_⟩|⟨q',n',hu',_⟩|⟨b',hu',_⟩|⟨n',e',hu',hl',_,hall'⟩|⟨fs,hu',_⟩<;>simp only[hu,Option.some.injEq,reduceCtorEq]at hu'
      injection hu' with e1 e2
      subst e1;subst e2
      have e1 : v = .agg cs.toArray := by rcases hv with ⟨_, he⟩ | ⟨ha, _⟩; · exact he
                                          · simp[qP,hu]at ha
      have e2 : v' = .agg cs'.toArray := by rcases hv' with ⟨_, he⟩ | ⟨ha, _⟩; · exact he
                                            · simp[qP,hu]at ha
      subst e1;subst e2
      obtain⟨r,hr,hi⟩:=wy (w:=w) (d+m) m (qht d m e) cs.toArray cs'.toArray n hl hl' hall hall' n 0 (by omega)
      refine⟨r,?_,by simpa using hi⟩
      rw[show d+(m+1)=(d+m)+1 from rfl,run_equalIn_array w (d+m) _ _ hu hie,List.range_eq_range']
      exact hr
    · rcases ve h' with⟨b',hu',_⟩|⟨q',n',hu',_⟩|⟨b',hu',_⟩|⟨n',e',hu',_⟩|⟨fs',hu',_,_,ht',hall'⟩<;>simp only[hu,Option.some.injEq,reduceCtorEq]at hu'
      injection hu' with e1
      subst e1
      have e1 : v = .agg cs.toArray := by rcases hv with ⟨_, he⟩ | ⟨ha, _⟩; · exact he
                                          · simp[qP,hu]at ha
      have e2 : v' = .agg cs'.toArray := by rcases hv' with ⟨_, he⟩ | ⟨ha, _⟩; · exact he
                                            · simp[qP,hu]at ha
      subst e1;subst e2
      have tl:∀(l:List Field) (o a b:Nat),qa1 P a o l=true→qa1 P b o l=true→a=b:=by
        intro l
        induction l with
        | nil=>intro o a b h1 h2;have:=Nat.eq_of_beq_eq_true h1;have:=Nat.eq_of_beq_eq_true h2;omega
        | cons f l ih=>intro o a b h1 h2;simp only[qa1,Bool.and_eq_true]at h1 h2;exact ih _ a b h1.2 h2.2
      have hlen:=tl _ _ _ _ ht ht'
      obtain⟨r,hr,hi⟩:=vv (w:=w) (d+m) m cs.toArray cs'.toArray hlen fs.toList 0 (fun f hf=>⟨hn f hf,qht d m f.type,hall f hf,hall' f hf⟩) ht
      refine⟨r,?_,by simpa using hi⟩
      have hf:P.fieldsOf t=fs:=by simp[Program.fieldsOf,hu]
      rw[show d+(m+1)=(d+m)+1 from rfl,run_equalIn_struct w (d+m) t _ _ (by rw[hf];exact hu) hst,hf]
      exact hr
end
section
variable{P:Program}{Q:Exit→Act→World→Prop}{n:Nat}{C:World→Prop}{fs:Fr}{t:TypeId}{ops:Array Oper}{rest:List Oper}{d:Nat}{pos:String}{af:Array Edge}{x y:Operand}{tx ty:TypeId}
variable{α:Type}
theorem eC{row:α→List Value}{a b:α}[DecidableEq α](hg:P.eqGuardType P.depth tx=false)(ha:qP P tx true=true)(h1:shB P 5 tx (row a)=true)(h2:shB P 5 tx (row b)=true)(inj:row a=row b→a=b)(hx:val fs x=some (.agg (row a).toArray))(hy:val fs y=some (.agg (row b).toArray)) :
    Y P (.binOp .neq tx x y ty) t n fs C (.bool (decide (a≠b))):=
  bE fun d pos af g s w hs hw=>by
    obtain⟨r,hr,hi⟩:=qht 9995 5 tx w _ _ _ _ h1 h2 (.inl ⟨ha,rfl⟩) (.inl ⟨ha,rfl⟩)
    rw[show 9995+5=10000 from rfl]at hr
    have e:decide (a≠b)=!r:=by
      cases r with
      | true=>simp[inj (hi.1 rfl)]
      | false=>exact decide_eq_true fun h=>by have:=hi.2 (by rw[h]);cases this
    simp only[execOp,hs.eval hx,hs.eval hy]
    rw[e]
    simp[run_eqGuard_agg _ _ _ _ _ _ _ hg,run_neq_struct,hr]
theorem xz{row:α→List Value}{k:Nat}(hr:∀z,(row z).length=k):∀l:List α,(l.map row).flatten.length=l.length*k
  | []=>by simp
  | z::l=>by simp only[List.map_cons,List.flatten_cons,List.length_append,hr,xz hr l,List.length_cons,Nat.succ_mul];omega
theorem qaF{row:α→List Value}{k:Nat}(hr:∀z,(row z).length=k):∀(l:List α) (i:Nat) (h:i<l.length),((l.map row).flatten.drop (i*k)).take k=row l[i]
  | [],i,h=>by simp at h
  | z::l,0,_=>by simp only[Nat.zero_mul,List.drop_zero,List.map_cons,List.flatten_cons,List.getElem_cons_zero];rw[←hr z];exact List.take_left
  | z::l,i+1,h=>by
    have e:(row z++(l.map row).flatten).drop ((i+1)*k)=(l.map row).flatten.drop (i*k):=by
      rw[Nat.succ_mul,Nat.add_comm,←List.drop_drop,←hr z,List.drop_left]
    simp only[List.map_cons,List.flatten_cons,List.getElem_cons_succ]
    rw[e]
    exact qaF hr l i (by simpa using h)
theorem qcm{m e k:Nat}{row:α→List Value}{l:List α}(hu:P.underlying t=some (.array k e))(hi:(P.info? e).isSome=true)(hr:∀z,(row z).length=P.cellsOf e)(hs:∀z,shB P m e (row z)=true)(hl:l.length=k):shB P (m+1) t (l.map row).flatten=true:=by
  have hlen:=xz hr l
  have hb:(Nat.beq (l.map row).flatten.length (k*P.cellsOf e)&&(P.info? e).isSome&&(List.range k).all fun i=>shB P m e (((l.map row).flatten.drop (i*P.cellsOf e)).take (P.cellsOf e)))=true:=by
    simp only[Bool.and_eq_true,List.all_eq_true,List.mem_range]
    refine⟨⟨by rw[hlen,hl];exact Nat.beq_refl _,hi⟩,fun i hik=>?_⟩
    rw[qaF hr l i (by omega)]
    exact hs _
  unfold shB
  rw[hu]
  generalize (l.map row).flatten=cs at *
  match cs,hlen with
  | [],h=>simp at h;rw[hl]at h;omega
  | [_],h=>simp at h;rw[hl]at h;omega
  | _::_::_,_=>exact hb
theorem ci{e:TypeId}{p:Option Addr}{l c:Nat}(hu:P.underlying tx=some (.slice e))(hx:val fs x=some (.slice p l c))(hy:val fs y=some (.slice none 0 0)):Y P (.binOp .eql tx x y ty) t n fs C (.bool p.isNone):=
  bE fun d pos af g s w hs hw=>by
    have h:=run_equal_slice_nil (P:=P) w tx e p l c hu
    have hg:(eqGuard .eql tx x y (.slice p l c) (.slice none 0 0)).run P w=.ok () w:=by simp[eqGuard]
    have hb:(binOp .eql tx (.slice p l c) (.slice none 0 0)).run P w=.ok (.bool p.isNone) w:=by
      simp only[binOp];simp[h]
    simp only[execOp,hs.eval hx,hs.eval hy]
    simp[hg,hb]
end
end Go.S
end
section
namespace Go.S
def zd{α:Type}(n:Nat)(l:List α)(a:Int):Option α:=if a<n then idx l a else none
theorem qm{α:Type}{n:Nat}{l:List α}{a:Int}{u:α}(h:zd n l a=some u):idx l a=some u:=by
 unfold zd at h
 split at h
 ·exact h
 ·cases h
theorem qbl{α:Type}{n:Nat}{l:List α}{a:Int}{u:α}(h:zd n l a=some u):a<n:=by
 unfold zd at h
 split at h
 ·assumption
 ·cases h
theorem qhg{α:Type}{n:Nat}{l:List α}{i:Nat}(hi:i<l.length)(hn:l.length=n):zd n l (i:Int)=some l[i]:=by
 unfold zd
 rw[if_pos (by omega),qp hi]
def qs{α:Type}(n:Nat)(l:List α):Option (List α):=if l.length=n then some l else none
theorem qd{α:Type}{n:Nat}{l z:List α}(h:qs n l=some z):z=l∧l.length=n:=by
 unfold qs at h
 split at h
 ·simp only[Option.some.injEq]at h;exact⟨h.symm,by assumption⟩
 ·cases h
theorem vx{k:Nat}:∀(vs:List Value) (rows:List (List Value)) (i j:Nat) (r:List Value),(∀r∈rows,r.length=k)→rows[i]?=some r→j+vs.length≤k→over rows.flatten (i*k+j) vs=(rows.set i (over r j vs)).flatten
 | [],rows,i,j,r,_,hr,_=>by
  obtain⟨hi,he⟩:=List.getElem?_eq_some_iff.1 hr
  rw[over,over,←he,List.set_getElem_self]
 | v::vs,rows,i,j,r,hl,hr,hj=>by
  obtain⟨hi,he⟩:=List.getElem?_eq_some_iff.1 hr
  simp only[List.length_cons]at hj
  rw[over,over,←yt rows i j r v hl hr (by omega),show i*k+j+1=i*k+(j+1) by omega]
  have hl':∀r'∈rows.set i (r.set j v),r'.length=k:=by
   intro r' h'
   rcases List.mem_or_eq_of_mem_set h' with h|h
   ·exact hl r' h
   ·subst h;simp[hl r (List.mem_of_getElem? hr)]
  rw[vx vs _ i (j+1) (r.set j v) hl' (by simp[hi]) (by omega),List.set_set]
section
variable{P:Program}{Q:Exit→Act→World→Prop}{n:Nat}{fs:Fr}{t:TypeId}{ops:Array Oper}{rest:List Oper}{d:Nat}{pos:String}{af:Array Edge}
variable{w0:World}{own:List Nat}{m:List As}{x y:Operand}{e te:TypeId}{q o i j k kk b:Nat}{v u:Value}{vs:List Value}
theorem dz{rows:List (List Value)}{r:List Value}(hs:szB P te kk=true)(hx:val fs x=some (el v o))(ho:o=i*k+j)(hy:val fs y=some u)(hu:u.cells.toList=vs)(hk:vs.length=kk)(h1:∀u∈vs,u.oneCell'=true)
  (hm:m[q]?=some (.sl v e k rows)) (hr:rows[i]?=some r) (hj:j+kk≤k) (next:L P ops Q n (Cls w0 own (m.set q (.sl v e k (rows.set i (over r j vs))))) rest fs) :
  L P ops Q n (Cls w0 own m) (⟨none,.store te x y,t,pos,af,none⟩::rest) fs:=by
 subst ho
 exact cG (fun a w hsl hw=>by
  obtain⟨hrl,hl,hown⟩:=hw.get hm
  rcases hown with⟨rfl,hn⟩|⟨g,cap,cur,rfl,hg,hh,hnc,hcm,hcs,htake⟩
  ·have:rows=[]:=List.length_eq_zero_iff.1 hn
   subst this
   simp at hr
  ·have hi:i<rows.length:=(List.getElem?_eq_some_iff.1 hr).1
   have hb:i*k+j+vs.length≤rows.length*k:=by
    have:(i+1)*k≤rows.length*k:=Nat.mul_le_mul_right k hi
    rw[Nat.succ_mul]at this;omega
   have hc:rows.length*k≤cap*k:=Nat.mul_le_mul_right k hnc
   have hcl:cur.toList.length=cap*k:=by simp[hcs]
   have hh':w.heap[g]?=some (.cells cur.toList.toArray e (0,0)):=by simpa using hh
   obtain⟨w',h2,h3,h4⟩:=qY (P:=P) g e (i*k+j) vs 0 cur.toList w hh' (by omega) h1
   have hsz:u.cells.size=kk:=by rw[←hk,←hu];simp
   have hrj:(over r j vs).length=k:=by rw[qc];exact hrl r (List.mem_of_getElem? hr)
   have hset:∀r'∈rows.set i (over r j vs),r'.length=k:=by
    intro r' hr'
    rcases List.mem_or_eq_of_mem_set hr' with h|h
    ·exact hrl r' h
    ·subst h;exact hrj
   have hfl:=vx vs rows i j r hrl hr (by omega)
   have htk:∀(us:List Value) (c:List Value) (z a:Nat),a+us.length≤z→(over c a us).take z=over (c.take z) a us:=by
    intro us
    induction us with
    | nil=>intro c z a _;rfl
    | cons p us ih=>intro c z a h;simp only[List.length_cons]at h;rw[over,over,ih _ _ _ (by omega),List.take_set]
   refine⟨w',?_,?_⟩
   ·simp only[execOp,hsl.eval hx,hsl.eval hy]
    simp only[Instr.storeAt,Instr.sureAddr,el,adr,Addr.add_lit,Sem.run_bind,Sem.run_pure,Result.andThen,storeVar,qt hs,hsz,hu]
    simp[h2]
   ·refine hw.turn hm rfl h4.os h4.tape h4.output h4.size (Nat.le_of_eq h4.drawn.symm) (fun p hp=>h4.rest p (by simpa [As.foot,Value.ownBlock]using hp)) ⟨hset,?_,.inr ⟨g,cap,(over cur.toList (i*k+j+0) vs).toArray,by simp,hg,h3,by simpa using hnc,hcm,by simp[qc,hcs],?_⟩⟩
    ·rw[←hfl,qc,hl];simp
    ·simp only[List.length_set,Nat.add_zero]
     rw[htk _ _ _ _ hb,←hfl,←htake]) next
section words
variable{α ρ:Type}{r:ρ}{row:α→List Value}{l:List α}{a:Int}{u0 u1:α}{f:List α→Option ρ}
theorem vr{z:List α}(h:qb (upd l a u1) f=some r)(hz:z=l.set a.toNat u1):f z=some r:=by
 obtain⟨z',h1,h2⟩:=qq h
 obtain⟨_,_,rfl⟩:=vq h1
 rw[hz];exact h2
theorem bw(h:qb (upd l a u1) f=some r)(hs:szB P te kk=true)(hx:val fs x=some (el v o))(ho:o=a.toNat*k+j)(hy:val fs y=some u)(hu:u.cells.toList=vs)(hk:vs.length=kk)(h1:∀u∈vs,u.oneCell'=true)
  (hm:m[q]?=some (.sl v e k (l.map row))) (hr:idx l a=some u0) (hj:Nat.ble (j+kk) k=true) (hrow:over (row u0) j vs=row u1) (next:∀z,z=l.set a.toNat u1→f z=some r→L P ops Q n (Cls w0 own (m.set q (.sl v e k (z.map row)))) rest fs) :
  L P ops Q n (Cls w0 own m) (⟨none,.store te x y,t,pos,af,none⟩::rest) fs:=by
 refine dz hs hx ho hy hu hk h1 hm (ql hr) (by simpa using hj) ?_
 rw[hrow,←List.map_set]
 exact next _ rfl (vr h rfl)
theorem cj(h:qb (upd l a u1) f=some r)(hs:szB P te kk=true)(hx:val fs x=some (pt b o))(ho:o=0+a.toNat*k+j)(hy:val fs y=some u)(hu:u.cells.toList=vs)(hk:vs.length=kk)(h1:∀u∈vs,u.oneCell'=true)
  (hm:m[q]?=some (.obj b (l.map row).flatten e)) (hlen:∀z,(row z).length=k) (hr:idx l a=some u0) (hj:Nat.ble (j+kk) k=true) (hrow:over (row u0) j vs=row u1) (next:∀z,z=l.set a.toNat u1→f z=some r→L P ops Q n (Cls w0 own (m.set q (.obj b (z.map row).flatten e))) rest fs) :
  L P ops Q n (Cls w0 own m) (⟨none,.store te x y,t,pos,af,none⟩::rest) fs:=by
 subst ho
 have hj':j+kk≤k:=by simpa using hj
 have hrl:∀r∈l.map row,r.length=k:=by
  intro r hr
  obtain⟨z,_,rfl⟩:=List.mem_map.1 hr
  exact hlen z
 have hi:=(qf hr)
 have hib:(a.toNat+1)*k≤l.length*k:=Nat.mul_le_mul_right k (by omega)
 rw[Nat.succ_mul]at hib
 refine bS hs hx hy hu hk h1 hm (by rw[xz hlen];omega) ?_
 rw[Nat.zero_add,vx vs (l.map row) a.toNat j _ hrl (ql hr) (by omega),hrow,←List.map_set]
 exact next _ rfl (vr h rfl)
theorem a8(ha:qP P te true=true)(hs:szB P te kk=true)(hx:val fs x=some (pt b 0))(hm:m[q]?=some (.obj b (l.map row).flatten e))(hlen:∀z,(row z).length=k)(hk:l.length*k=kk):Y P (.load te x) t n fs (Cls w0 own m) (.agg (l.map row).flatten.toArray):=
 bp ha hs hx hm (by rw[xz hlen,hk])
theorem cA{C:World→Prop}{len:Nat}{ik:IntKind}{tx:TypeId}(hu:P.underlying tx=some (.array len e))(hsz:szB P e k=true)(hx:val fs x=some (pt b 0))(hy:val fs y=some (.int ik a))(z:α)(hr:zd len l a=some z) :
  Y P (.indexAddr tx x y) t n fs C (pt b (0+a.toNat*k)):=
 bI hu hsz hx hy (qf (qm hr)).1 (qbl hr)
end words
def qdG(fs:Fr):List (Nat×Operand)→Option (List (Nat×Value))
 | []=>some []
 | (i,x)::r=>match val fs x with
  | some v=>match qdG fs r with
   | some vs=>some ((i,v)::vs)
   | none=>none
  | none=>none
theorem Slots.pevals{a:Act}(h:Slots n fs a):∀{xs:List (Nat×Operand)} {vs:List (Nat×Value)},qdG fs xs=some vs→xs.map (fun p=>(p.1,a.eval p.2))=vs
 | [],vs,hv=>by simp only[qdG,Option.some.injEq]at hv;subst hv;rfl
 | (i,x)::r,vs,hv=>by
  simp only[qdG]at hv
  cases h1:val fs x with
  | none=>simp[h1]at hv
  | some v =>
   cases h2:qdG fs r with
   | none=>simp[h1,h2]at hv
   | some vs' =>
    simp only[h1,h2,Option.some.injEq]at hv
    subst hv
    simp[h.eval h1,h.pevals h2]
theorem bl{C:World→Prop}{tb:TypeId}{ps:List (Nat×Operand)}{vs:List (Nat×Value)}{cells:Array Value}(hx:qdG fs ps=some vs)(hb:P.built tb vs=some cells):Y P (.build tb ps.toArray) t n fs C (.agg cells):=
 bE fun d pos af g s w hs hw=>by
  have h1:=hs.pevals hx
  have h2:=run_build (P:=P) w tb (ps.toArray.map fun p=>(p.1,s.eval p.2)) cells (by simpa [h1]using hb)
  simp only[List.map_toArray]at h2
  simp only[execOp,List.map_toArray]
  simp[h2]
end
theorem zg{p:Value→Prop}:∀u∈([]:List Value),p u:=by simp
theorem qW{p:Value→Prop}{v:Value}{l:List Value}(h:p v)(hl:∀u∈l,p u):∀u∈v::l,p u:=List.forall_mem_cons.2 ⟨h,hl⟩
section
variable{P:Program}{Q:Exit→Act→World→Prop}{n:Nat}{fs:Fr}{t:TypeId}{ops:Array Oper}{rest:List Oper}{pos:String}{af:Array Edge}
variable{w0:World}{own:List Nat}{m:List As}
theorem eg{x y:Operand}{b off i k:Nat}{c:List Value}{e te:TypeId}{v:Value}{vs:List Value}(hs:szB P te k=true)(hx:val fs x=some (pt b off))(hy:val fs y=some v)(hv:v.cells.toList=vs)(hk:vs.length=k)
  (h1:∀w,Cls w0 own m w→∀u∈vs,u.oneCell'=true) (hm:m[i]?=some (.obj b c e)) (hl:off+k≤c.length) (next:L P ops Q n (Cls w0 own (m.set i (.obj b (over c off vs) e))) rest fs) :
  L P ops Q n (Cls w0 own m) (⟨none,.store te x y,t,pos,af,none⟩::rest) fs:=
 fun a w hs' hw=>bS hs hx hy hv hk (h1 w hw) hm hl next a w hs' hw
theorem qab{v:Value}(h:v.oneCell'=true):v.cells.toList=[v]:=by cases v<;>simp_all [Value.oneCell',Value.cells]
theorem bq{x y:Operand}{b off i:Nat}{c:List Value}{e te:TypeId}{v:Value}(hs:szB P te 1=true)(hx:val fs x=some (pt b off))(hy:val fs y=some v)
  (h1:∀w,Cls w0 own m w→v.oneCell'=true) (hm:m[i]?=some (.obj b c e)) (hl:off+1≤c.length) (next:L P ops Q n (Cls w0 own (m.set i (.obj b (over c off [v]) e))) rest fs) :
  L P ops Q n (Cls w0 own m) (⟨none,.store te x y,t,pos,af,none⟩::rest) fs:=
 fun a w hs' hw=>bS hs hx hy (qab (h1 w hw)) rfl (by simpa using h1 w hw) hm hl next a w hs' hw
theorem fu{x:Operand}{e:TypeId}{v:Value}{d:Nat}(hd:Nat.blt d n=true)(hx:val fs x=some v)(h1:∀w,Cls w0 own m w→v.oneCell'=true)(k:∀b,L P ops Q n (Cls w0 own (.obj b [v] e::m)) rest ((d,pt b 0)::fs)) :
  L P ops Q n (Cls w0 own m) (⟨some d,.box e x,t,pos,af,none⟩::rest) fs:=
 fun a w hs' hw=>bV hd hx (fun b=>by rw[qab (h1 w hw)];exact k b) a w hs' hw
end
theorem qjL{a b:List UInt8}:st a=st b↔a=b:=by simp[st]
end Go.S
end
section
namespace Go.S
section
variable{P:Program}{Q:Exit→Act→World→Prop}{n:Nat}{fs:Fr}{C:World→Prop}
def Rv(P:Program)(fs:Fr)(C:World→Prop):ResultVar→Value→Prop
 | .tmp t,v=>look fs t=some v
 | .cell x t,v=>∃ad,look fs x=some (.pointer (some ad))∧∀w,C w→(loadVar t ad).run P w=.ok v w
theorem aL{t:Tmp}{v:Value}(h:look fs t=some v):Rv P fs C (.tmp t) v:=h
def qmN(tmps:Array Value):ResultVar→Sem Value
 | .tmp t=>pure (tmps.getD t undef)
 | .cell x t=>do loadVar t (←asAddr (tmps.getD x undef))
theorem we(fn:Func)(tmps:Array Value):results fn tmps=(do
  let vs ←fn.results.mapM (qmN tmps)
  pure (if h:vs.size=1 then vs[0] else .tuple vs)):=by
 unfold results
 congr 2
theorem Rv.run{rv:ResultVar}{v:Value}(h:Rv P fs C rv v){a:Act}{w:World}(hs:Slots n fs a)(hw:C w) :
  (qmN a.tmps rv).run P w=.ok v w:=by
 cases rv with
 | tmp t =>
  have:=hs.here t v h
  simp[qmN,Array.getD_eq_getD_getElem?,this]
 | cell x t =>
  obtain⟨ad,h1,h2⟩:=h
  have:=hs.here x _ h1
  simp[qmN,Array.getD_eq_getD_getElem?,this,asAddr,h2 w hw]
theorem bA{fn:Func}{R:Ending→World→Prop}{x:ResultVar}{v:Value}(hr:fn.results=#[x])(h1:Rv P fs C x v)(h:∀w,C w→R (.returned v) w):E .ret (bodyPost P fn R) n C fs:=by
 intro a w hs hc
 refine bodyPost_ret (v:=v) ?_ hs.defers (h w hc)
 have e1:=h1.run hs hc
 rw[we,hr]
 simp[e1]
theorem bm{fn:Func}{R:Ending→World→Prop}{x y:ResultVar}{v u:Value}(hr:fn.results=#[x,y])(h1:Rv P fs C x v)(h2:Rv P fs C y u)(h:∀w,C w→R (.returned (.tuple #[v,u])) w):E .ret (bodyPost P fn R) n C fs:=by
 intro a w hs hc
 refine bodyPost_ret (v:=.tuple #[v,u]) ?_ hs.defers (h w hc)
 have e1:=h1.run hs hc
 have e2:=h2.run hs hc
 rw[we,hr]
 simp[e1,e2]
variable{w0:World}{own:List Nat}{m:List As}
theorem aH{x:Tmp}{t:TypeId}{b i:Nat}{c:List Value}{e:TypeId}{k:Nat}(ha:qP P t true=true)(hs:szB P t k=true)(hx:look fs x=some (pt b 0))(hm:m[i]?=some (.obj b c e))(hk:c.length=k):Rv P fs (Cls w0 own m) (.cell x t) (.agg c.toArray):=
 ⟨_,hx,fun w hw=>wx ha hs hk fun j u hu=>by rw[Addr.add_lit];exact hw.cell hm (by rwa [Nat.zero_add])⟩
theorem br{α:Type}{row:α→List Value}{l:List α}{x:Tmp}{t:TypeId}{b i k kk:Nat}{e:TypeId}(ha:qP P t true=true)(hs:szB P t kk=true)(hx:look fs x=some (pt b 0))(hm:m[i]?=some (.obj b (l.map row).flatten e))(hlen:∀z,(row z).length=k)(hk:l.length*k=kk) :
  Rv P fs (Cls w0 own m) (.cell x t) (.agg (l.map row).flatten.toArray):=aH ha hs hx hm (by rw[xz hlen,hk])
end
section
variable{P:Program}{Q:Exit→Act→World→Prop}{n:Nat}{fs:Fr}{C:World→Prop}{ops:Array Oper}{l:List Oper}
theorem qaz{K:Exit→Act→World→Prop}:∀{l:List Oper} {j:Nat} {a:Act} {w:World},wpList P ops K (l.take j) a w→(∀a w,K .normal a w→wpList P ops Q (l.drop j) a w)→(∀e a w,e≠.normal→K e a w→Q e a w)→wpList P ops Q l a w
 | [],j,a,w,h,h2,_=>by
  simp only[List.take_nil,wpList]at h
  have:=h2 _ _ h
  simpa [wpList]using this
 | o::l,0,a,w,h,h2,_=>by
  simp only[List.take_zero,wpList]at h
  simpa using h2 _ _ h
 | o::l,j+1,a,w,h,h2,h3=>by
  simp only[List.take_succ_cons,List.drop_succ_cons]at h h2
  have ih:∀a w,wpList P ops K (l.take j) a w→wpList P ops Q l a w:=fun a w h=>qaz h h2 h3
  have hout:LetsOut K→LetsOut Q:=fun⟨a,w,h⟩=>⟨a,w,h3 _ _ _ (by nofun) h⟩
  simp only[wpList]at h ⊢
  by_cases hw:Region.wanted o (yielded ops a.tmps)=true
  ·simp only[hw,if_true]at h ⊢
   rcases h with h|⟨hq,h⟩
   ·refine .inl ?_
    unfold Oper.wp at *
    generalize (execOp a.eval o).run P w=r at *
    cases r with
    | ok x w' =>
     cases x<;>simp only[Oper.upon]at h ⊢
     case value u=>exact ih _ _ h
     case skip=>exact ih _ _ h
     case defer d=>exact ih _ _ h
     case enter f args =>
      refine Calls.mono h fun e w'' he=>?_
      cases e with
      | returned u=>exact ih _ _ he
      | panicked c=>exact h3 _ _ _ (by nofun) he
      | outgrown=>exact hout he
     case row row args=>exact Rows.mono h fun u w'' he=>ih _ _ he
    | halt x w' =>
     cases x<;>simp only[Oper.upon]at h ⊢
     case panic u=>exact h3 _ _ _ (by nofun) h
   ·exact .inr ⟨hq,hout h⟩
  ·simp only[hw,Bool.false_eq_true,if_false]at h ⊢
   exact ih _ _ h
theorem bd(j:Nat)(J:Fr→(World→Prop)→Prop)(h1:L P ops (KS Q n J) n C (l.take j) fs)(h2:∀gs D,J gs D→L P ops Q n D (l.drop j) gs):L P ops Q n C l fs:=fun a w hs hc =>
 qaz (h1 a w hs hc) (fun a w ⟨gs,D,hj,hs',hd⟩=>h2 gs D hj a w hs' hd) fun e a w he h=>by
  cases e with
  | normal=>exact absurd rfl he
  | _=>exact h
theorem vb{S:World→Prop}{K K':Act→Prop}:∀{l:List Oper} {j:Nat} {a:Act},wpQuiet P ops S K' (l.take j) a→(∀a,K' a→wpQuiet P ops S K (l.drop j) a)→wpQuiet P ops S K l a
 | [],j,a,h,h2=>by simpa using h2 _ (by simpa [wpQuiet]using h)
 | o::l,0,a,h,h2=>by simpa using h2 _ (by simpa [wpQuiet]using h)
 | o::l,j+1,a,h,h2=>by
  simp only[List.take_succ_cons,List.drop_succ_cons]at h h2
  simp only[wpQuiet]at h ⊢
  by_cases hw:Region.wanted o (yielded ops a.tmps)=true
  ·simp only[hw,if_true]at h ⊢
   obtain⟨v,hv,h⟩:=h
   exact⟨v,hv,vb h h2⟩
  ·simp only[hw,Bool.false_eq_true,if_false]at h ⊢
   exact vb h h2
def KU(n:Nat)(J:Fr→Prop):Exit→Act→World→Prop:=fun _ a _=>∃gs,J gs∧Slots n gs a
theorem eG(hC:∃w,C w)(j:Nat)(J:Fr→Prop)(h1:U P ops (KU n J) n C (l.take j) fs)(h2:∀gs,J gs→U P ops Q n C (l.drop j) gs):U P ops Q n C l fs:=fun a hs =>
 vb (h1 a hs) fun a' h=>by
  obtain⟨w,hw⟩:=hC
  obtain⟨gs,hj,hs'⟩:=h w hw
  exact h2 gs hj a' hs'
theorem cg{J:Fr→Prop}{gs:Fr}(h:J gs)(hF:Sub gs fs):E .normal (KU n J) n C fs:=fun _ _ hs _=>⟨gs,h,hs.sub hF⟩
theorem aZ{id:Nat}(hm:P.follows .mixedOrders=true)(hB:Region.lexB .any l.toArray=true)(hdrew:∀w,C w→C { w with drawn:=w.drawn+1 })(h:(∃w,C w)→U P l.toArray Q n C l fs):W P Q n C (.region id l.toArray true) fs:=
 fun a w hs hc=>eR hm hB hdrew (h ⟨w,hc⟩) a w hs hc
end
theorem dm{P:Program}{n:Nat}{fs:Fr}{t:TypeId}{C:World→Prop}{tb:TypeId}{ps:List (Nat×Operand)}{vs:List (Nat×Value)}{cells:Array Value}(hx:qdG fs ps=some vs)(hb:∀w,C w→P.built tb vs=some cells):Y P (.build tb ps.toArray) t n fs C (.agg cells):=
 fun d pos af g a w hs hw=>bl (C:=C) hx (hb w hw) d pos af g a w hs hw
section
variable{P:Program}{Q:Exit→Act→World→Prop}{n:Nat}{fs:Fr}{C:World→Prop}{t:TypeId}{ops:Array Oper}{rest:List Oper}{d:Nat}{pos:String}{af:Array Edge}
variable{w0:World}{own:List Nat}{m:List As}{α ρ:Type}{r:ρ}{g:α→List Value}{l z:List α}{lo hi:Int}{x y y2:Operand}{e tx:TypeId}{k by':Nat}{v:Value}{ik ik2:IntKind}
theorem At.cutM{w:World}(hA:At w v k (l.map g))(h:cut l 0 hi=some z):At w (qdX v hi.toNat) k (z.map g):=by
 obtain⟨_,h1,h2,rfl⟩:=zm h
 have:=hA.take hi.toNat (by rw[List.length_map];omega)
 rw[←List.map_take]at this
 exact this
theorem At.dropM{w:World}(hA:At w v k (l.map g))(h:cut l lo l.length=some z):At w (zh v lo.toNat k) k (z.map g):=by
 obtain⟨h0,h1,_,rfl⟩:=zm h
 have:=hA.drop lo.toNat (by rw[List.length_map];omega)
 rw[←List.map_drop]at this
 rwa [Int.toNat_natCast,List.take_length]
theorem At.midM{w:World}(hA:At w v k (l.map g))(h:cut l lo hi=some z):At w (zh (qdX v hi.toNat) lo.toNat k) k (z.map g):=by
 obtain⟨h0,h1,h2,rfl⟩:=zm h
 have h3:=hA.take hi.toNat (by rw[List.length_map];omega)
 have:=h3.drop lo.toNat (by rw[List.length_take,List.length_map];omega)
 rw[←List.map_take,←List.map_drop]at this
 exact this
theorem Y.cutM(hu:P.underlying tx=some (.slice e))(hs:szB P e k=true)(hx:val fs x=some v)(hy:val fs y=some (.int ik hi))(hA:∀w,C w→At w v k (l.map g))(u:List α)(h:cut l 0 hi=some u) :
  Y P (.slice tx x none (some y) none) t n fs C (qdX v hi.toNat):=by
 obtain⟨_,h1,h2,_⟩:=zm h
 exact fj hu hs hx hy hA h1 (by rwa [List.length_map])
theorem Y.dropM(hu:P.underlying tx=some (.slice e))(hs:szB P e k=true)(hx:val fs x=some v)(hy:val fs y=some (.int ik lo))(hA:∀w,C w→At w v k (l.map g))(u:List α)(h:cut l lo l.length=some u) :
  Y P (.slice tx x (some y) none none) t n fs C (zh v lo.toNat k):=by
 obtain⟨h0,h1,_,_⟩:=zm h
 exact eP hu hs hx hy hA h0 (by rwa [List.length_map])
theorem Y.midM(hu:P.underlying tx=some (.slice e))(hs:szB P e k=true)(hx:val fs x=some v)(hy:val fs y=some (.int ik lo))(hy2:val fs y2=some (.int ik2 hi))(hA:∀w,C w→At w v k (l.map g))(u:List α)(h:cut l lo hi=some u) :
  Y P (.slice tx x (some y) (some y2) none) t n fs C (zh (qdX v hi.toNat) lo.toNat k):=
 bE fun d pos af q s w hsl hw=>by
  obtain⟨h0,h1,h2,_⟩:=zm h
  simp only[execOp,hsl.eval hx,hsl.eval hy,hsl.eval hy2,Option.map_some,Option.map_none]
  rcases(hA w hw).shape with⟨rfl,hn⟩|⟨a,cap,rfl,hc,_⟩
  ·have hl:l=[]:=by simpa using hn
   subst hl
   have hz:lo=0∧hi=0:=by simp at h2;omega
   obtain⟨rfl,rfl⟩:=hz
   have hr:=run_slice_lh (P:=P) w tx none 0 0 (qr hu) ik ik2 0 0 (by omega) (by omega) (by omega)
   rw[ze hu,qt hs]at hr
   simp[run_sliceAt_slice w tx _ _ _ _ (qr hu),hr,sliced,zh,qdX]
  ·rw[List.length_map]at hc
   have hr:=run_slice_lh (P:=P) w tx (some a) (l.map g).length cap (qr hu) ik ik2 lo hi h0 h1 (by omega)
   rw[ze hu,qt hs,List.length_map]at hr
   have e1:(cap=lo.toNat)=(cap-lo.toNat=0):=by apply propext;omega
   simp[run_sliceAt_slice w tx _ _ _ _ (qr hu),hr,sliced,zh,qdX,e1]
theorem L.cutM{i:Nat}(h:Go.S.cut l 0 hi=some z)(hd:Nat.blt d n=true)(hu:P.underlying tx=some (.slice e))(he:szB P e k=true)(hx:val fs x=some v)(hy:val fs y=some (.int ik hi))(hm:m[i]?=some (.sl v e k (l.map g)))
  (next:∀v',L P ops Q n (Cls w0 own (m.set i (.sl v' e k (z.map g)))) rest ((d,v')::fs)):L P ops Q n (Cls w0 own m) (⟨some d,.slice tx x none (some y) none,t,pos,af,none⟩::rest) fs:=by
 obtain⟨_,h1,h2,rfl⟩:=zm h
 refine fF hd hu he hx hy hm h1 (by rwa [List.length_map]) fun v'=>?_
 rw[←List.map_take]
 exact next v'
theorem dp(hd:Nat.blt d n=true)(hu:P.underlying tx=some (.slice e))(he:xf P e k by'=true)(next:∀b,L P ops Q n (Cls w0 own (.sl (sv b 0) e k []::m)) rest ((d,sv b 0)::fs)) :
  L P ops Q n (Cls w0 own m) (⟨some d,.buildSlice tx 0 #[],t,pos,af,none⟩::rest) fs:=
 ct (val':=fun b=>sv b 0) hd (fun a w hs hw=>by
  obtain⟨z,hzs,hk0,h1,h2,_⟩:=qaa he
  refine⟨w.heap.size,_,?_,hw.allocSl e k [] (by simp) (by simp) (by simp[maxLen])⟩
  simp only[execOp]
  simp[Instr.buildSlice,run_underlying hu,h1,Instr.fill,newRow,sv,show Array.range 0=#[] from rfl]) next
end
end Go.S
end
section
namespace Go.S
def ju{α:Type}(l:List (Int×α))(k:Int)(z:α):α:=match l.find? (fun p=>decide (p.1=k)) with
 | some p=>p.2
 | none=>z
def vp{α:Type}(l:List (Int×α))(k:Int):Bool:=l.any fun p=>decide (p.1=k)
def wM{α:Type}(l:List (Int×α))(k:Int)(v:α):List (Int×α):=if vp l k=true then l.map (fun p=>if p.1=k then(k,v) else p) else l++[(k,v)]
def qoP{α:Type}(l:List (Int×α))(k:Int):List (Int×α):=l.filter fun p=>!decide (p.1=k)
abbrev VI(k:IntKind)(x:Int):Value:=.int k x
abbrev VB(b:Bool):Value:=.bool b
abbrev VA{α:Type}(row:α→List Value)(x:α):Value:=.agg (row x).toArray
def zw{α:Type}(g:α→Value)(l:List (Int×α)):List (Int×Value):=l.map fun p=>(p.1,g p.2)
section
variable{α:Type}{g:α→Value}{l:List (Int×α)}{k a:Int}{v z:α}
theorem qcy:vp (zw g l) k=vp l k:=by simp only[vp,zw,List.any_map];rfl
theorem qcA:ju (zw g l) k (g z)=g (ju l k z):=by
 unfold ju zw
 rw[List.find?_map]
 have:((fun p:Int×Value=>decide (p.1=k))∘fun p:Int×α=>(p.1,g p.2))=fun p=>decide (p.1=k):=rfl
 rw[this]
 cases l.find? (fun p=>decide (p.1=k))<;>rfl
theorem qg6:wM (zw g l) k (g v)=zw g (wM l k v):=by
 unfold wM
 rw[qcy]
 split
 ·simp only[zw,List.map_map]
  refine List.map_congr_left fun p _=>?_
  simp only[Function.comp]
  split<;>rfl
 ·simp[zw]
theorem qQ:vp l k=true↔∃p∈l,p.1=k:=by simp[vp]
theorem qg9(hn:(l.map (·.1)).Nodup){j:Nat}(h:l[j]?=some (a,v)):ju l a z=v:=by
 have hm:=List.mem_of_getElem? h
 unfold ju
 cases hf:l.find? (fun p=>decide (p.1=a)) with
 | none =>
  have:=List.find?_eq_none.1 hf (a,v) hm
  simp at this
 | some p =>
  have hp:=List.mem_of_find?_eq_some hf
  have hpa:p.1=a:=by simpa using List.find?_some hf
  have:∀(l:List (Int×α)),(l.map (·.1)).Nodup→∀p q:Int×α,p∈l→q∈l→p.1=q.1→p=q:=by
   intro l
   induction l with
   | nil=>intro _ p q hp;cases hp
   | cons c l ih =>
    intro hn p q hp hq hpq
    rw[List.map_cons,List.nodup_cons]at hn
    rcases List.mem_cons.1 hp with e1|hp'<;>rcases List.mem_cons.1 hq with e2|hq'
    ·rw[e1,e2]
    ·exact absurd (List.mem_map.2 ⟨q,hq',by rw[←hpq,e1]⟩) hn.1
    ·exact absurd (List.mem_map.2 ⟨p,hp',by rw[hpq,e2]⟩) hn.1
    ·exact ih hn.2 p q hp' hq' hpq
  rw[this l hn p (a,v) hp hm hpa]
theorem qcz(h:∀p∈l,p.1≠a):ju l a z=z:=by
 unfold ju
 rw[List.find?_eq_none.2 (fun p hp=>by simpa using h p hp)]
theorem qkM(hn:(l.map (·.1)).Nodup){j:Nat}{u:α}(h:l[j]?=some (a,u)):wM l a v=l.set j (a,v):=by
 have hm:=List.mem_of_getElem? h
 unfold wM
 rw[if_pos (qQ.2 ⟨_,hm,rfl⟩)]
 have:∀(l:List (Int×α)) (j:Nat),(l.map (·.1)).Nodup→l[j]?=some (a,u)→l.map (fun p=>if p.1=a then(a,v) else p)=l.set j (a,v):=by
  intro l
  induction l with
  | nil=>intro j _ h;simp at h
  | cons c l ih =>
   intro j hn h
   rw[List.map_cons,List.nodup_cons]at hn
   cases j with
   | zero =>
    simp only[List.getElem?_cons_zero,Option.some.injEq]at h
    subst h
    have:l.map (fun p=>if p.1=a then(a,v) else p)=l:=by
     rw[List.map_congr_left (g:=id) (fun p hp=>?_)]
     ·simp
     ·have:p.1≠a:=fun e=>hn.1 (List.mem_map.2 ⟨p,hp,e⟩)
      simp[this]
    simp[this]
   | succ j =>
    simp only[List.getElem?_cons_succ]at h
    have hc:c.1≠a:=fun e=>hn.1 (List.mem_map.2 ⟨_,List.mem_of_getElem? h,e.symm⟩)
    simp[hc,ih j hn.2 h]
 exact this l j hn h
theorem yp(l:List (Int×α))(a:Int)(v:α)(k:Int)(z:α):ju (wM l a v) k z=if k=a then v else ju l k z:=by
 unfold ju wM
 by_cases h:vp l a=true
 ·rw[if_pos h,List.find?_map]
  obtain⟨p0,hp0,hpa⟩:=qQ.1 h
  have e1:((fun p:Int×α=>decide (p.1=k))∘fun p:Int×α=>if p.1=a then(a,v) else p)=fun p=>decide (p.1=k):=by
   funext p
   simp only[Function.comp]
   split
   ·rename_i hp;rw[hp]
   ·rfl
  rw[e1]
  cases hf:l.find? (fun p=>decide (p.1=k)) with
  | none =>
   have hk:k≠a:=fun e=>by
    have:=List.find?_eq_none.1 hf p0 hp0
    rw[e]at this;simp[hpa]at this
   simp[hk]
  | some p =>
   have hpk:p.1=k:=by simpa using List.find?_some hf
   by_cases hk:k=a
   ·simp[hpk,hk]
   ·have : ¬p.1=a:=fun e=>hk (hpk.symm.trans e)
    simp[this,hk]
 ·rw[if_neg h,List.find?_append]
  have hno:∀p∈l,p.1≠a:=fun p hp e=>h (qQ.2 ⟨p,hp,e⟩)
  cases hf:l.find? (fun p=>decide (p.1=k)) with
  | none =>
   by_cases hk:k=a
   ·subst hk;simp
   ·simp[hk,show ¬a=k from fun e=>hk e.symm]
  | some p =>
   have hp:=List.mem_of_find?_eq_some hf
   have hpk:p.1=k:=by simpa using List.find?_some hf
   have:k≠a:=fun e=>hno p hp (hpk.trans e)
   simp[this]
end
section
variable{P:Program}{Q:Exit→Act→World→Prop}{n:Nat}{fs:Fr}{C:World→Prop}{t:TypeId}{ops:Array Oper}{rest:List Oper}{d:Nat}{pos:String}{af:Array Edge}
variable{w0:World}{own:List Nat}{m:List As}{x y z:Operand}{kt et tx:TypeId}{i b:Nat}{l:List (Int×Value)}{a:Int}{v:Value}
theorem Cls.allocO{w:World}(h:Cls w0 own m w)(o:Obj)(x:As)(hf:x.foot=[w.heap.size])(hx:x.holds (w.alloc o)):Cls w0 own (x::m) (w.alloc o):=by
 have hk:∀k,k<w.heap.size→(w.alloc o).heap[k]?=w.heap[k]?:=fun k hk=>RowKit.Below.heap_alloc w _ k hk
 refine⟨h.os,h.tape,h.output,h.dr,Nat.le_trans h.size (by simp),fun k hk' ho=>?_,?_,fun y hy=>?_⟩
 ·rw[hk k (Nat.lt_of_lt_of_le hk' h.size),h.old k hk' ho]
 ·simp only[List.flatMap_cons,hf,List.singleton_append,List.nodup_cons]
  exact⟨fun hb=>Nat.lt_irrefl _ (h.foot_lt _ hb),h.nodup⟩
 ·rcases List.mem_cons.1 hy with rfl|hy
  ·refine⟨hx,fun b hb=>?_⟩
   rw[hf,List.mem_singleton]at hb
   subst hb
   exact .inl h.size
  ·exact⟨As.holds_congr (h.mine y hy).1 fun b hb=>hk b (As.holds_lt (h.mine y hy).1 b hb),(h.mine y hy).2⟩
theorem cU(hd:Nat.blt d n=true)(next:∀b,L P ops Q n (Cls w0 own (.mp b []::m)) rest ((d,.map (some b))::fs)):L P ops Q n (Cls w0 own m) (⟨some d,.makeMap tx none,t,pos,af,none⟩::rest) fs:=
 ct (val':=fun b=>.map (some b)) hd (fun a w hs hw=>by
  refine⟨w.heap.size,_,?_,hw.allocO (.map #[] 0) (.mp w.heap.size []) rfl ⟨#[],0,?_,MapKept.stamped_empty 0,rfl⟩⟩
  ·simp only[execOp,Option.map_none]
   rfl
  ·show(w.heap.push _)[w.heap.size]?=_
   simp) next
theorem yn{α β:Type}(f:α→β):∀l:List α,(l.map f).Nodup→l.Nodup
 | [],_=>List.nodup_nil
 | x::l,h=>by
  rw[List.map_cons,List.nodup_cons]at h
  exact List.nodup_cons.2 ⟨fun hx=>h.1 (List.mem_map.2 ⟨x,hx,rfl⟩),yn f l h.2⟩
theorem wi{es:Array MapEntry}{clock:Nat}(hs:MapKept.Stamped es clock)(he:es.toList.map (fun e=>(e.key,e.val))=l.map kvp):(l.map (·.1)).Nodup:=by
 have h1:es.toList.map (·.key)=(l.map (·.1)).map (Value.int .i64):=by
  have:=congrArg (List.map Prod.fst) he
  simpa [List.map_map,kvp,Function.comp_def]using this
 have h2:=hs.2.2
 rw[h1]at h2
 exact yn _ _ h2
theorem ql7{es:Array MapEntry}(he:es.toList.map (fun e=>(e.key,e.val))=l.map kvp):∀e∈es.toList,MapKept.IsKey (.int .i64) e.key:=by
 intro e hm
 have:(e.key,e.val)∈es.toList.map (fun e=>(e.key,e.val)):=List.mem_map.2 ⟨e,hm,rfl⟩
 rw[he]at this
 obtain⟨p,_,hp⟩:=List.mem_map.1 this
 have:e.key=.int .i64 p.1:=(Prod.mk.inj hp).1.symm
 rw[this];rfl
theorem vB(w:World)(hk:P.underlying kt=some (.int .i64)){es:Array MapEntry}(he:es.toList.map (fun e=>(e.key,e.val))=l.map kvp)(a:Int) :
  ((Instr.findKey kt (.int .i64 a) es.toList).run P w=.ok none w∧(∀p∈l,p.1≠a)∧∀e∈es.toList,e.key≠.int .i64 a)∨∃j v e,(Instr.findKey kt (.int .i64 a) es.toList).run P w=.ok (some (j,v)) w∧l[j]?=some (a,v)∧es[j]?=some e∧e.key=.int .i64 a:=by
 rcases MapKept.findNow_spec (k:=.int .i64 a) (show MapKept.IsKey (.int .i64) (.int .i64 a) from rfl) es.toList 0 (ql7 he) with⟨h1,h2⟩|⟨j,e,h1,h2,h3⟩
 ·refine .inl ⟨MapKept.run_findKey hk h1,fun p hp heq=>?_,h2⟩
  have:kvp p∈es.toList.map (fun e=>(e.key,e.val)):=by rw[he];exact List.mem_map.2 ⟨p,hp,rfl⟩
  obtain⟨e,hem,hee⟩:=List.mem_map.1 this
  exact h2 e hem (by rw[(Prod.mk.inj hee).1,heq])
 ·have hj:(l.map kvp)[j]?=some (e.key,e.val):=by rw[←he,List.getElem?_map,h2];rfl
  rw[List.getElem?_map]at hj
  cases hp:l[j]? with
  | none=>rw[hp]at hj;cases hj
  | some p =>
   rw[hp]at hj
   simp only[Option.map_some,Option.some.injEq,kvp,Prod.mk.injEq]at hj
   obtain⟨e1,e2⟩:=hj
   have hpa:p.1=a:=by rw[h3]at e1;simpa using e1
   refine .inr ⟨j,p.2,e,?_,by rw[hp,←hpa],by simpa using h2,h3⟩
   have:=MapKept.run_findKey (P:=P) (w:=w) hk h1
   rwa [Nat.zero_add,←e2]at this
structure Mpd(w:World)(b:Nat)(l:List (Int×Value))(es:Array MapEntry)(clock:Nat):Prop where
 here:w.heap[b]?=some (.map es clock)
 st:MapKept.Stamped es clock
 kv:es.toList.map (fun e=>(e.key,e.val))=l.map kvp
def qjT:As→Option (Nat×List (Int×Value))
 | .mp b l=>some (b,l)
 | .mi b _ l _ _=>some (b,l)
 | _=>none
theorem yo{w:World}{x:As}(h:qjT x=some (b,l))(hh:x.holds w):∃es clock,Mpd w b l es clock:=by
 cases x<;>simp only[qjT,Option.some.injEq,Prod.mk.injEq,reduceCtorEq]at h
 ·obtain⟨rfl,rfl⟩:=h
  obtain⟨es,clock,h1,h2,h3⟩:=hh
  exact⟨es,clock,h1,h2,h3⟩
 ·obtain⟨rfl,rfl⟩:=h
  obtain⟨es,clock,_,_,_,h1,h2,h3,_⟩:=hh
  exact⟨es,clock,h1,h2,h3⟩
theorem wd{z0:Value}(hz:((P.info? et).bind fun i=>i.zero)=some z0)(w:World):(zeroValue et).run P w=.ok z0 w:=by
 cases hi:P.info? et with
 | none=>rw[hi]at hz;cases hz
 | some inf =>
  rw[hi]at hz
  have hz':inf.zero=some z0:=hz
  simp[zeroValue,typeInfo,hi,hz']
theorem dG{q:As}{z0:Value}(hu:P.underlying tx=some (.map kt et))(hk:P.underlying kt=some (.int .i64))(hz:((P.info? et).bind fun i=>i.zero)=some z0)(hx:val fs x=some (.map (some b)))(hy:val fs y=some (.int .i64 a))(hm:m[i]?=some q)(hq:qjT q=some (b,l)) :
  Y P (.lookup tx x y false) t n fs (Cls w0 own m) (ju l a z0):=
 bE fun d pos af g s w hs hw=>by
  obtain⟨es,clock,hb,hst,he⟩:=yo hq (hw.get hm)
  simp only[execOp,hs.eval hx,hs.eval hy]
  rcases vB (P:=P) w hk he a with⟨h1,h2,_⟩|⟨j,v,e,h1,h2,_⟩
  ·simp[Instr.lookup,run_underlying hu,MapKept.run_getObj_map hb,MapKept.run_checkKey hk (show MapKept.IsKey (.int .i64) (.int .i64 a) from rfl),h1,wd hz,qcz h2]
  ·simp[Instr.lookup,run_underlying hu,MapKept.run_getObj_map hb,MapKept.run_checkKey hk (show MapKept.IsKey (.int .i64) (.int .i64 a) from rfl),h1,qg9 (wi hst he) h2]
theorem qcx(h:∀p∈l,p.1≠a):vp l a=false:=by
 cases hh:vp l a with
 | false=>rfl
 | true =>
  obtain⟨p,hp,e⟩:=qQ.1 hh
  exact absurd e (h p hp)
theorem dF{q:As}{z0:Value}(hu:P.underlying tx=some (.map kt et))(hk:P.underlying kt=some (.int .i64))(hz:((P.info? et).bind fun i=>i.zero)=some z0)(hx:val fs x=some (.map (some b)))(hy:val fs y=some (.int .i64 a))(hm:m[i]?=some q)(hq:qjT q=some (b,l)) :
  Y P (.lookup tx x y true) t n fs (Cls w0 own m) (.tuple #[ju l a z0,.bool (vp l a)]):=
 bE fun d pos af g s w hs hw=>by
  obtain⟨es,clock,hb,hst,he⟩:=yo hq (hw.get hm)
  simp only[execOp,hs.eval hx,hs.eval hy]
  rcases vB (P:=P) w hk he a with⟨h1,h2,_⟩|⟨j,v,e,h1,h2,_⟩
  ·simp[Instr.lookup,run_underlying hu,MapKept.run_getObj_map hb,MapKept.run_checkKey hk (show MapKept.IsKey (.int .i64) (.int .i64 a) from rfl),h1,wd hz,qcz h2,qcx h2]
  ·have:vp l a=true:=qQ.2 ⟨_,List.mem_of_getElem? h2,rfl⟩
   simp[Instr.lookup,run_underlying hu,MapKept.run_getObj_map hb,MapKept.run_checkKey hk (show MapKept.IsKey (.int .i64) (.int .i64 a) from rfl),h1,qg9 (wi hst he) h2,this]
theorem eN{q:As}(hu:P.underlying tx=some (.map kt et))(hx:val fs x=some (.map (some b)))(hm:m[i]?=some q)(hq:qjT q=some (b,l)):Y P (.call ⟨.builtin .len,#[x],#[tx]⟩) t n fs (Cls w0 own m) (.int .i64 l.length):=
 bE fun d pos af g s w hs hw=>by
  obtain⟨es,clock,hb,hst,he⟩:=yo hq (hw.get hm)
  have hlen:es.size=l.length:=by have:=congrArg List.length he;simpa using this
  simp only[execOp,resolve,List.map_toArray,List.map_cons,List.map_nil,hs.eval hx]
  simp[invoke,builtin,Builtin.len_,run_underlying hu,MapKept.run_getObj_map hb,goInt,hlen]
section gen
variable{α:Type}{g:α→Value}{lm:List (Int×α)}{z0 v0:α}
theorem cS{q:As}(hu:P.underlying tx=some (.map kt et))(hk:P.underlying kt=some (.int .i64))(hz:((P.info? et).bind fun i=>i.zero)=some (g z0))(hx:val fs x=some (.map (some b)))(hy:val fs y=some (.int .i64 a))(hm:m[i]?=some q)(hq:qjT q=some (b,zw g lm)) :
  Y P (.lookup tx x y false) t n fs (Cls w0 own m) (g (ju lm a z0)):=by
 have:=dG (t:=t) (n:=n) (w0:=w0) (own:=own) hu hk hz hx hy hm hq
 rwa [qcA]at this
theorem dw{q:As}(hu:P.underlying tx=some (.map kt et))(hk:P.underlying kt=some (.int .i64))(hz:((P.info? et).bind fun i=>i.zero)=some (g z0))(hx:val fs x=some (.map (some b)))(hy:val fs y=some (.int .i64 a))(hm:m[i]?=some q)(hq:qjT q=some (b,zw g lm)) :
  Y P (.lookup tx x y true) t n fs (Cls w0 own m) (.tuple #[g (ju lm a z0),.bool (vp lm a)]):=by
 have:=dF (t:=t) (n:=n) (w0:=w0) (own:=own) hu hk hz hx hy hm hq
 rwa [qcA,qcy]at this
theorem d6{q:As}(hu:P.underlying tx=some (.map kt et))(hx:val fs x=some (.map (some b)))(hm:m[i]?=some q)(hq:qjT q=some (b,zw g lm)):Y P (.call ⟨.builtin .len,#[x],#[tx]⟩) t n fs (Cls w0 own m) (.int .i64 lm.length):=by
 have:=eN (t:=t) (n:=n) (w0:=w0) (own:=own) hu hx hm hq
 simpa only[zw,List.length_map]using this
end gen
theorem dT{kv:Operand}(hu:P.underlying tx=some (.map kt et))(hk:P.underlying kt=some (.int .i64))(hx:val fs x=some (.map (some b)))(hy:val fs y=some (.int .i64 a))(hz:val fs kv=some v)(hm:m[i]?=some (.mp b l))
  (next:L P ops Q n (Cls w0 own (m.set i (.mp b (wM l a v)))) rest fs):L P ops Q n (Cls w0 own m) (⟨none,.mapUpdate tx x y kv,t,pos,af,none⟩::rest) fs:=
 cG (fun s w hs hw=>by
  obtain⟨es,clock,hb,hst,he⟩:=hw.get hm
  have hn:=wi hst he
  have hbl:b<w.heap.size:=(Array.getElem?_eq_some_iff.1 hb).1
  have turned:∀(o:Obj),(As.mp b (wM l a v)).holds { w with heap:=w.heap.setIfInBounds b o }→Cls w0 own (m.set i (.mp b (wM l a v))) { w with heap:=w.heap.setIfInBounds b o }:=fun o ho =>
   hw.turn hm rfl rfl rfl rfl (by simp) (Nat.le_refl _) (fun k hk=>by simp only[As.foot,List.mem_singleton]at hk;exact Array.getElem?_setIfInBounds_ne (Ne.symm hk)) ho
  simp only[execOp,hs.eval hx,hs.eval hy,hs.eval hz]
  rcases vB (P:=P) w hk he a with⟨h1,h2,h2'⟩|⟨j,u,e,h1,h2,hes,hek⟩
  ·refine⟨_,by simp[Instr.mapUpdate,run_underlying hu,MapKept.run_getObj_map hb,MapKept.run_checkKey hk (show MapKept.IsKey (.int .i64) (.int .i64 a) from rfl),h1,MapKept.run_setObj_map _ hb],turned (.map (es.push { key:=.int .i64 a,val:=v,born:=clock }) (clock+1)) ?_⟩
   refine⟨es.push { key:=.int .i64 a,val:=v,born:=clock },clock+1,by simp[hbl],MapKept.stamped_push hst h2',?_⟩
   unfold wM
   rw[if_neg (by rw[qcx h2];simp)]
   simp[he,kvp]
  ·refine⟨_,by simp[Instr.mapUpdate,run_underlying hu,MapKept.run_getObj_map hb,MapKept.run_checkKey hk (show MapKept.IsKey (.int .i64) (.int .i64 a) from rfl),h1,hes,hek,MapKept.run_keyThatStays (show MapKept.IsKey (.int .i64) (.int .i64 a) from rfl),MapKept.run_setObj_map _ hb],turned (.map (es.modify j fun e=>{ e with key:=.int .i64 a,val:=v }) clock) ?_⟩
   refine⟨es.modify j fun e=>{ e with key:=.int .i64 a,val:=v },clock,by simp[hbl],MapKept.stamped_modify hst _ _ (fun _ _=>rfl) (fun e' _ he'=>?_),?_⟩
   ·rw[hes,Option.some.injEq]at he';rw[←he',hek]
   ·rw[qkM hn h2,List.map_set,←he]
    apply List.ext_getElem?
    intro q
    simp only[Array.toList_modify,List.getElem?_map,List.getElem?_modify,List.getElem?_set,List.length_map,Array.length_toList]
    by_cases hq:j=q
    ·subst hq
     have hlt:=(Array.getElem?_eq_some_iff.1 hes).1
     simp[hes,hlt,kvp]
    ·simp[hq]) next
theorem dn{α:Type}{g:α→Value}{lm:List (Int×α)}{v0:α}{kv:Operand}(hu:P.underlying tx=some (.map kt et))(hk:P.underlying kt=some (.int .i64))(hx:val fs x=some (.map (some b)))(hy:val fs y=some (.int .i64 a))(hz:val fs kv=some (g v0))(hm:m[i]?=some (.mp b (zw g lm)))
  (next:L P ops Q n (Cls w0 own (m.set i (.mp b (zw g (wM lm a v0))))) rest fs):L P ops Q n (Cls w0 own m) (⟨none,.mapUpdate tx x y kv,t,pos,af,none⟩::rest) fs:=
 dT hu hk hx hy hz hm (by rw[qg6];exact next)
theorem vy:∀(vs c p:List Value),vs.length=c.length→over (p++c) p.length vs=p++vs
 | [],c,p,h=>by
  have:c=[]:=List.length_eq_zero_iff.1 (by simpa using h.symm)
  subst this;rfl
 | v::vs,[],p,h=>by simp at h
 | v::vs,u::c,p,h=>by
  have e:(p++u::c).set p.length v=(p++[v])++c:=by rw[List.set_append_right _ _ (Nat.le_refl _)];simp
  have:=vy vs c (p++[v]) (by simpa using h)
  rw[over,e,show p.length+1=(p++[v]).length by simp,this]
  simp
theorem aY{α:Type}{row:α→List Value}{l l':List α}{e te:TypeId}{k kk c:Nat}(hn:l.length=c)(hn':l'.length=c)(hk:c*k=kk)(hlen:∀z,(row z).length=k)(hp:Plain (l'.map row))(hs:szB P te kk=true)(hx:val fs x=some (pt b 0))(hy:val fs y=some (.agg (l'.map row).flatten.toArray))
  (hm:m[i]?=some (.obj b (l.map row).flatten e)) (next:L P ops Q n (Cls w0 own (m.set i (.obj b (l'.map row).flatten e))) rest fs):L P ops Q n (Cls w0 own m) (⟨none,.store te x y,t,pos,af,none⟩::rest) fs:=by
 have h1:=xz hlen l
 have h2:=xz hlen l'
 refine bS (vs:=(l'.map row).flatten) hs hx hy (by simp[Value.cells]) (by rw[h2,hn',hk]) (fun u hu=>?_) hm (by rw[h1,hn,hk];omega) ?_
 ·obtain⟨r,hr,hur⟩:=List.mem_flatten.1 hu
  exact hp r hr u hur
 ·have:=vy (l'.map row).flatten (l.map row).flatten [] (by rw[h1,h2,hn,hn'])
  simp only[List.nil_append,List.length_nil]at this
  rw[this]
  exact next
end
end Go.S
end
section
namespace Go.S
def vz:Value:=.slice none 0 0
def gv(vs:List Value)(j:Nat):Value:=(vs[j]?).getD (.slice none 0 0)
def Sd.nil(e:TypeId)(k:Nat):Sd:=⟨.slice none 0 0,e,k,[]⟩
def zr{α:Type}(row:α→List Value→List Value)(vs:Nat→List Value):List α→List (List Value)
 | []=>[]
 | x::xs=>row x (vs 0)::zr row (fun i=>vs (i+1)) xs
def zs{α:Type}(sds:α→List Value→List Sd)(vs:Nat→List Value):List α→List Sd
 | []=>[]
 | x::xs=>sds x (vs 0)++zs sds (fun i=>vs (i+1)) xs
def vi(vs:Nat→List Value)(i:Nat)(x:List Value):Nat→List Value:=fun q=>if q=i then x else vs q
theorem qjW(vs:Nat→List Value)(x:List Value):vi vs 0 x 0=x:=rfl
theorem qhm(vs:Nat→List Value)(x:List Value):(fun i=>vi vs 0 x (i+1))=fun i=>vs (i+1):=by funext i;simp[vi]
theorem qhl(vs:Nat→List Value)(k:Nat)(x:List Value):vi vs (k+1) x 0=vs 0:=by simp[vi]
theorem qhj(vs:Nat→List Value)(k:Nat)(x:List Value):(fun i=>vi vs (k+1) x (i+1))=vi (fun i=>vs (i+1)) k x:=by funext i;simp[vi]
theorem qcF(vs:Nat→List Value)(i:Nat):vi vs i (vs i)=vs:=by funext q;simp only[vi];split<;>simp_all
theorem jm{α:Type}(row:α→List Value→List Value):∀(vs:Nat→List Value) (xs:List α),(zr row vs xs).length=xs.length
 | _,[]=>rfl
 | _,x::xs=>by simp[zr,jm row _ xs]
theorem qce{α:Type}(row:α→List Value→List Value):∀(vs:Nat→List Value) (xs:List α) (i:Nat) (x:α),xs[i]?=some x→(zr row vs xs)[i]?=some (row x (vs i))
 | _,[],i,x,h=>by simp at h
 | vs,y::xs,0,x,h=>by simp only[List.getElem?_cons_zero,Option.some.injEq]at h;subst h;rfl
 | vs,y::xs,i+1,x,h=>by
  simp only[List.getElem?_cons_succ]at h
  simp only[zr,List.getElem?_cons_succ]
  exact qce row (fun q=>vs (q+1)) xs i x h
theorem qjF{α:Type}(row:α→List Value→List Value):∀(vs:Nat→List Value) (xs:List α) (i:Nat) (x:α) (v:List Value),i<xs.length→zr row (vi vs i v) (xs.set i x)=(zr row vs xs).set i (row x v)
 | _,[],i,x,v,h=>by simp at h
 | vs,y::xs,0,x,v,h=>by simp only[List.set_cons_zero,zr,qjW,qhm]
 | vs,y::xs,i+1,x,v,h=>by
  simp only[List.length_cons]at h
  simp only[List.set_cons_succ,zr,qhl,qhj]
  rw[qjF row (fun q=>vs (q+1)) xs i x v (by omega)]
theorem qcf{α:Type}{row:α→List Value→List Value}{k:Nat}(hlen:∀z v,(row z v).length=k):∀(vs:Nat→List Value) (xs:List α),∀r∈zr row vs xs,r.length=k
 | _,[],r,h=>by simp[zr]at h
 | vs,y::xs,r,h=>by
  simp only[zr,List.mem_cons]at h
  rcases h with rfl|h
  ·exact hlen _ _
  ·exact qcf hlen _ xs r h
theorem qax{α:Type}{sds:α→List Value→List Sd}{c:Nat}(hc:∀z v,(sds z v).length=c):∀(vs:Nat→List Value) (xs:List α) (i j:Nat) (x:α),xs[i]?=some x→j<c→(zs sds vs xs)[i*c+j]?=(sds x (vs i))[j]?
 | _,[],i,j,x,h,_=>by simp at h
 | vs,y::xs,0,j,x,h,hj=>by
  simp only[List.getElem?_cons_zero,Option.some.injEq]at h
  subst h
  simp only[zs,Nat.zero_mul,Nat.zero_add]
  rw[List.getElem?_append_left (by rw[hc];exact hj)]
 | vs,y::xs,i+1,j,x,h,hj=>by
  simp only[List.getElem?_cons_succ]at h
  simp only[zs]
  rw[List.getElem?_append_right (by rw[hc,Nat.succ_mul];omega),hc,show(i+1)*c+j-c=i*c+j by rw[Nat.succ_mul];omega]
  exact qax hc (fun q=>vs (q+1)) xs i j x h hj
theorem qgB{α:Type}{sds:α→List Value→List Sd}{c:Nat}(hc:∀z v,(sds z v).length=c):∀(vs:Nat→List Value) (xs:List α) (i j:Nat) (x0 x:α) (v:List Value) (d:Sd),xs[i]?=some x0→j<c→sds x v=(sds x0 (vs i)).set j d→zs sds (vi vs i v) (xs.set i x)=(zs sds vs xs).set (i*c+j) d
 | _,[],i,j,x0,x,v,d,h,_,_=>by simp at h
 | vs,y::xs,0,j,x0,x,v,d,h,hj,hd=>by
  simp only[List.getElem?_cons_zero,Option.some.injEq]at h
  subst h
  simp only[List.set_cons_zero,zs,qjW,qhm,Nat.zero_mul,Nat.zero_add]
  rw[hd,List.set_append_left _ _ (by rw[hc];exact hj)]
 | vs,y::xs,i+1,j,x0,x,v,d,h,hj,hd=>by
  simp only[List.getElem?_cons_succ]at h
  simp only[List.set_cons_succ,zs,qhl,qhj]
  rw[List.set_append_right _ _ (by rw[hc,Nat.succ_mul];omega),hc,show(i+1)*c+j-c=i*c+j by rw[Nat.succ_mul];omega,qgB hc (fun q=>vs (q+1)) xs i j x0 x v d h hj hd]
theorem qV{α:Type}{sds:α→List Value→List Sd}{nv:List Value}{z:α}{p:Sd→Prop}(h:∀d∈sds z nv,p d):∀n,∀d∈zs sds (fun _=>nv) (List.replicate n z),p d
 | 0,d,hd=>by simp[zs]at hd
 | n+1,d,hd=>by
  rw[List.replicate_succ,zs,List.mem_append]at hd
  rcases hd with h1|h1
  ·exact h d h1
  ·exact qV h n d h1
theorem jz{l:List Sd}{i:Nat}{d d':Sd}(hi:l[i]?=some d)(hf:d'.foot=[]):(d.foot++(l.set i d').flatMap Sd.foot).Perm (l.flatMap Sd.foot):=by
 induction l generalizing i with
 | nil=>simp at hi
 | cons a l ih =>
  cases i with
  | zero =>
   simp only[List.getElem?_cons_zero,Option.some.injEq]at hi
   subst hi
   simp[hf]
  | succ i =>
   simp only[List.getElem?_cons_succ]at hi
   simp only[List.set_cons_succ,List.flatMap_cons]
   refine List.Perm.trans ?_ (List.Perm.append_left a.foot (ih hi))
   rw[←List.append_assoc,←List.append_assoc]
   exact List.Perm.append_right _ List.perm_append_comm
theorem wu{m:List As}{i:Nat}{x y:As}(hi:m[i]?=some x):(x.foot++(m.set i y).flatMap As.foot).Perm (y.foot++m.flatMap As.foot):=by
 induction m generalizing i with
 | nil=>simp at hi
 | cons a m ih =>
  cases i with
  | zero =>
   simp only[List.getElem?_cons_zero,Option.some.injEq]at hi
   subst hi
   simp only[List.set_cons_zero,List.flatMap_cons]
   rw[←List.append_assoc,←List.append_assoc]
   exact List.Perm.append_right _ List.perm_append_comm
  | succ i =>
   simp only[List.getElem?_cons_succ]at hi
   simp only[List.set_cons_succ,List.flatMap_cons]
   refine List.Perm.trans ?_ (List.Perm.trans (List.Perm.append_left a.foot (ih hi)) ?_)
   ·rw[←List.append_assoc,←List.append_assoc];exact List.Perm.append_right _ List.perm_append_comm
   ·rw[←List.append_assoc,←List.append_assoc];exact List.Perm.append_right _ List.perm_append_comm
theorem wF{m:List As}{i:Nat}{x:As}(hi:m[i]?=some x):(x.foot++(m.eraseIdx i).flatMap As.foot).Perm (m.flatMap As.foot):=by
 induction m generalizing i with
 | nil=>simp at hi
 | cons a m ih =>
  cases i with
  | zero =>
   simp only[List.getElem?_cons_zero,Option.some.injEq]at hi
   subst hi
   simp
  | succ i =>
   simp only[List.getElem?_cons_succ]at hi
   simp only[List.eraseIdx_cons_succ,List.flatMap_cons]
   refine List.Perm.trans ?_ (List.Perm.append_left a.foot (ih hi))
   rw[←List.append_assoc,←List.append_assoc]
   exact List.Perm.append_right _ List.perm_append_comm
section
variable{w0 w w':World}{own:List Nat}{m m':List As}
theorem Cls.re(h:Cls w0 own m w)(hsub:∀b∈m'.flatMap As.foot,b∈m.flatMap As.foot)(hn:(m'.flatMap As.foot).Nodup)(hold:∀x∈m',x.holds w):Cls w0 own m' w:=by
 refine⟨h.os,h.tape,h.output,h.dr,h.size,h.old,hn,fun x hx=>⟨hold x hx,fun b hb=>?_⟩⟩
 obtain⟨y,hy,hby⟩:=List.mem_flatMap.1 (hsub b (List.mem_flatMap.2 ⟨x,hx,hb⟩))
 exact(h.mine y hy).2 b hby
theorem Cls.rePerm(h:Cls w0 own m w)(hp:(m'.flatMap As.foot).Perm (m.flatMap As.foot))(hold:∀x∈m',x.holds w):Cls w0 own m' w:=
 h.re (fun b hb=>hp.mem_iff.1 hb) (hp.nodup_iff.2 h.nodup) hold
theorem qdJ(e:TypeId)(k:Nat):(Sd.nil e k).foot=[]:=rfl
theorem vd(w:World)(e:TypeId)(k:Nat):qa3 w (.slice none 0 0) e k []:=⟨by simp,by simp,.inl ⟨rfl,rfl⟩⟩
theorem Cls.ssNew(h:Cls w0 own m w){l:List Sd}(hl:∀d∈l,d.v=.slice none 0 0∧d.rows=[]):Cls w0 own (.ss l::m) w:=by
 have hf:l.flatMap Sd.foot=[]:=by
  rw[List.flatMap_eq_nil_iff]
  intro d hd
  unfold Sd.foot
  rw[(hl d hd).1];rfl
 refine h.rePerm ?_ fun x hx=>?_
 ·simp[As.foot,hf]
 ·rcases List.mem_cons.1 hx with rfl|hx
  ·intro d hd
   obtain⟨h1,h2⟩:=hl d hd
   rw[h1,h2]
   exact vd w _ _
  ·exact(h.mine x hx).1
theorem Cls.ssOut(h:Cls w0 own m w){s i:Nat}{l:List Sd}{v:Value}{e:TypeId}{k:Nat}{rows:List (List Value)}(hs:m[s]?=some (.ss l))(hi:l[i]?=some ⟨v,e,k,rows⟩)(e':TypeId)(k':Nat):Cls w0 own (.sl v e k rows::m.set s (.ss (l.set i (Sd.nil e' k')))) w:=by
 have hss:(As.ss l).holds w:=h.get hs
 have hd:(⟨v,e,k,rows⟩:Sd)∈l:=List.mem_of_getElem? hi
 refine h.rePerm ?_ fun x hx=>?_
 ·simp only[List.flatMap_cons]
  have h1:=wu (y:=.ss (l.set i (Sd.nil e' k'))) hs
  have h2:=jz hi (qdJ e' k')
  have h3:((As.sl v e k rows).foot++(As.ss (l.set i (Sd.nil e' k'))).foot).Perm (As.ss l).foot:=h2
  have h4:((As.ss (l.set i (Sd.nil e' k'))).foot++((As.sl v e k rows).foot++(m.set s (.ss (l.set i (Sd.nil e' k')))).flatMap As.foot)).Perm ((As.ss (l.set i (Sd.nil e' k'))).foot++m.flatMap As.foot):=by
   rw[←List.append_assoc]
   exact(List.Perm.append_right _ (List.perm_append_comm.trans h3)).trans h1
  exact(List.perm_append_left_iff _).1 h4
 ·rcases List.mem_cons.1 hx with rfl|hx
  ·exact hss _ hd
  ·rcases List.mem_or_eq_of_mem_set hx with hx|rfl
   ·exact(h.mine x hx).1
   ·intro d hd'
    rcases List.mem_or_eq_of_mem_set hd' with h1|rfl
    ·exact hss d h1
    ·exact vd w _ _
theorem Cls.ssIn(h:Cls w0 own m w){p s i:Nat}{l:List Sd}{v:Value}{e e':TypeId}{k k':Nat}{rows:List (List Value)}(hp:m[p]?=some (.sl v e k rows))(hs:m[s]?=some (.ss (l.set i (Sd.nil e' k'))))(hps:p≠s)(hi:i<l.length):Cls w0 own ((m.set s (.ss (l.set i ⟨v,e,k,rows⟩))).eraseIdx p) w:=by
 have hss:(As.ss (l.set i (Sd.nil e' k'))).holds w:=h.get hs
 have hsl:(As.sl v e k rows).holds w:=h.get hp
 have hp':(m.set s (.ss (l.set i ⟨v,e,k,rows⟩)))[p]?=some (.sl v e k rows):=by rw[List.getElem?_set_ne (Ne.symm hps)];exact hp
 refine h.rePerm ?_ fun x hx=>?_
 ·have h1:=wF hp'
  have h2:=wu (y:=.ss (l.set i ⟨v,e,k,rows⟩)) hs
  have h3:((As.sl v e k rows).foot++(As.ss (l.set i (Sd.nil e' k'))).foot).Perm (As.ss (l.set i ⟨v,e,k,rows⟩)).foot:=by
   have:=jz (l:=l.set i ⟨v,e,k,rows⟩) (i:=i) (d:=⟨v,e,k,rows⟩) (d':=Sd.nil e' k') (by simp[hi]) (qdJ e' k')
   rw[List.set_set]at this
   exact this
  have h5:((As.sl v e k rows).foot++(As.ss (l.set i (Sd.nil e' k'))).foot++((m.set s (.ss (l.set i ⟨v,e,k,rows⟩))).eraseIdx p).flatMap As.foot).Perm ((As.sl v e k rows).foot++(As.ss (l.set i (Sd.nil e' k'))).foot++m.flatMap As.foot):=by
   refine List.Perm.trans ?_ (List.Perm.trans h2 (List.Perm.append_right _ h3.symm))
   refine List.Perm.trans (List.Perm.append_right _ List.perm_append_comm) ?_
   rw[List.append_assoc]
   exact List.Perm.append_left _ h1
  exact(List.perm_append_left_iff _).1 h5
 ·have hx':=List.mem_of_mem_eraseIdx hx
  rcases List.mem_or_eq_of_mem_set hx' with hx|rfl
  ·exact(h.mine x hx).1
  ·intro d hd'
   obtain⟨j,hj⟩:=List.getElem?_of_mem hd'
   rw[List.getElem?_set]at hj
   split at hj
   ·simp[hi]at hj
    subst hj
    exact hsl
   ·rename_i hne
    refine hss d ?_
    refine List.mem_of_getElem? (i:=j) ?_
    rw[List.getElem?_set_ne hne]
    exact hj
theorem Cls.ssLess(h:Cls w0 own m w){s:Nat}{l l':List Sd}(hs:m[s]?=some (.ss l))(hsub:∀b∈l'.flatMap Sd.foot,b∈l.flatMap Sd.foot)(hn:(l.flatMap Sd.foot).Nodup→(l'.flatMap Sd.foot).Nodup)(hold:(As.ss l).holds w→(As.ss l').holds w):Cls w0 own (m.set s (.ss l')) w:=by
 have hil:=(List.getElem?_eq_some_iff.1 hs).1
 have key:∀(m:List As) (s:Nat),m[s]?=some (.ss l)→(m.flatMap As.foot).Nodup→((m.set s (.ss l')).flatMap As.foot).Nodup∧∀b∈(m.set s (.ss l')).flatMap As.foot,b∈m.flatMap As.foot:=by
  intro m
  induction m with
  | nil=>intro s h;simp at h
  | cons a m ih =>
   intro s hs hnd
   rw[List.flatMap_cons,List.nodup_append]at hnd
   cases s with
   | zero =>
    simp only[List.getElem?_cons_zero,Option.some.injEq]at hs
    subst hs
    simp only[List.set_cons_zero,List.flatMap_cons]
    refine⟨List.nodup_append.2 ⟨hn hnd.1,hnd.2.1,fun a ha b hb=>hnd.2.2 a (hsub a ha) b hb⟩,fun b hb=>?_⟩
    rcases List.mem_append.1 hb with h1|h1
    ·exact List.mem_append_left _ (hsub b h1)
    ·exact List.mem_append_right _ h1
   | succ s =>
    simp only[List.getElem?_cons_succ]at hs
    obtain⟨g1,g2⟩:=ih s hs hnd.2.1
    simp only[List.set_cons_succ,List.flatMap_cons]
    refine⟨List.nodup_append.2 ⟨hnd.1,g1,fun a ha b hb=>hnd.2.2 a ha b (g2 b hb)⟩,fun b hb=>?_⟩
    rcases List.mem_append.1 hb with h1|h1
    ·exact List.mem_append_left _ h1
    ·exact List.mem_append_right _ (g2 b h1)
 obtain⟨g1,g2⟩:=key m s hs h.nodup
 refine h.re g2 g1 fun x hx=>?_
 rcases List.mem_or_eq_of_mem_set hx with hx|rfl
 ·exact(h.mine x hx).1
 ·exact hold (h.get hs)
end
end Go.S
end
section
namespace Go.S
def qn{α:Type}(x:α)(vs:List Value):List Value:=[gv vs 0]
def zv{α:Type}(e:TypeId)(k:Nat)(row:α→List Value)(x:List α)(vs:List Value):List Sd:=[⟨gv vs 0,e,k,x.map row⟩]
def clr{α:Type}(l:List α)(a:Int)(z:α):Option (List α):=if 0≤a∧a≤l.length then some (l.take a.toNat++List.replicate (l.length-a.toNat) z) else none
theorem qi3{α:Type}{l l':List α}{a:Int}{z:α}(h:clr l a z=some l'):0≤a∧a≤l.length∧l'=l.take a.toNat++List.replicate (l.length-a.toNat) z:=by
 unfold clr at h
 split at h
 ·rename_i h1
  simp only[Option.some.injEq]at h
  exact⟨h1.1,h1.2,h.symm⟩
 ·cases h
theorem za{k:Nat}:∀(rows:List (List Value)),(∀r∈rows,r.length=k)→rows.flatten.length=rows.length*k
 | [],_=>by simp
 | r::rows,h=>by
  simp only[List.flatten_cons,List.length_append,List.length_cons,Nat.succ_mul]
  rw[za rows (fun q hq=>h q (by simp[hq])),h r (by simp)]
  omega
theorem vj:∀d∈([]:List Sd),d.v=.slice none 0 0∧d.rows=[]:=by simp
theorem qnt{d:Sd}{l:List Sd}(h1:d.v=.slice none 0 0)(h2:d.rows=[])(h:∀d∈l,d.v=.slice none 0 0∧d.rows=[]):∀d'∈d::l,d'.v=.slice none 0 0∧d'.rows=[]:=List.forall_mem_cons.2 ⟨⟨h1,h2⟩,h⟩
section
variable{P:Program}{Q:Exit→Act→World→Prop}{n:Nat}{fs:Fr}{t:TypeId}{ops:Array Oper}{rest:List Oper}{d:Nat}{pos:String}{af:Array Edge}
variable{w0:World}{own:List Nat}{m:List As}{x y:Operand}{e te tx:TypeId}{q s p o i j k kk b c by':Nat}{v u:Value}{vals:List Value}
theorem dc{op:Op}{C D:World→Prop}
  (hr:∀a w,Slots n fs a→C w→∃v w',(execOp a.eval ⟨none,op,t,pos,af,none⟩).run P w=.ok (.value v) w'∧D w')
  (k:L P ops Q n D rest fs):L P ops Q n C (⟨none,op,t,pos,af,none⟩::rest) fs:=by
 intro a w hs hw
 obtain⟨v,w',h,hv⟩:=hr a w hs hw
 simp only[wpList,Region.wanted,if_true]
 refine .inl ?_
 unfold Oper.wp
 rw[h]
 exact k _ w' hs hv
theorem fb{rows:List (List Value)}{a:Nat}{zc:List Value}(hu:P.underlying tx=some (.slice e))(he:xf P e k by'=true)(hz:jn P e=some zc)(h1:∀u∈zc,u.oneCell'=true)(hx:val fs x=some (zh v a k))(hm:m[i]?=some (.sl v e k rows))(ha:a≤rows.length)
  (next:L P ops Q n (Cls w0 own (m.set i (.sl v e k (rows.take a++List.replicate (rows.length-a) zc)))) rest fs) :
  L P ops Q n (Cls w0 own m) (⟨none,.call ⟨.builtin .clear,#[x],#[tx]⟩,t,pos,af,none⟩::rest) fs:=by
 exact dc (fun ac w hsl hw=>by
  obtain⟨hrl,hl,hown⟩:=hw.get hm
  obtain⟨inf,z,hi,hz',hsz,hby,hzs,hk⟩:=vF he
  have hzz:z.cells.toList=zc:=by
   unfold jn at hz
   simpa [hi,hz']using hz
  have hzl:zc.length=k:=by rw[←hzz];simp[hzs]
  have hnoop:∀(hd0:rows.length-a=0),Cls w0 own (m.set i (.sl v e k (rows.take a++List.replicate (rows.length-a) zc))) w:=by
   intro h0
   rw[h0,List.replicate_zero,List.append_nil,List.take_of_length_le (by omega)]
   have:m.set i (.sl v e k rows)=m:=by
    obtain⟨h2,h3⟩:=List.getElem?_eq_some_iff.1 hm
    rw[←h3,List.set_getElem_self]
   rw[this];exact hw
  rcases hown with⟨rfl,hn⟩|⟨g,cap,cur,rfl,hg,hh,hnc,hcm,hcs,htake⟩
  ·have:rows=[]:=List.length_eq_zero_iff.1 hn
   subst this
   refine⟨.tuple #[],w,?_,hnoop (by simp)⟩
   simp only[execOp,resolve,List.map_toArray,List.map_cons,List.map_nil,hsl.eval hx,zh]
   simp[invoke,builtin,Builtin.clear_,run_underlying hu]
  ·by_cases h0:rows.length-a=0
   ·refine⟨.tuple #[],w,?_,hnoop h0⟩
    simp only[execOp,resolve,List.map_toArray,List.map_cons,List.map_nil,hsl.eval hx,zh,h0]
    cases (if cap-a=0 then some (⟨g,0,none⟩:Addr) else(some (⟨g,0,none⟩:Addr)).map (·.add (a*k)))<;>simp[invoke,builtin,Builtin.clear_,run_underlying hu]
   ·have hcl:cur.toList.length=cap*k:=by simp[hcs]
    have hh':w.heap[g]?=some (.cells cur.toList.toArray e (0,0)):=by simpa using hh
    have hrows:=qiQ z.cells (rows.length-a) k hzs hk
    rw[hzz]at hrows
    have hzcs:(Builtin.zeroCells z.cells (rows.length-a)).toList=(List.replicate (rows.length-a) zc).flatten:=by
     unfold Builtin.zeroCells
     rw[hzs]
     rw[hzs]at hrows
     exact hrows
    have hrep:∀r∈List.replicate (rows.length-a) zc,r.length=k:=by
     intro r hr;rw[List.mem_replicate]at hr;rw[hr.2,hzl]
    have hfl:(List.replicate (rows.length-a) zc).flatten.length=(rows.length-a)*k:=by rw[za _ hrep,List.length_replicate]
    have hmul:a*k+(rows.length-a)*k=rows.length*k:=by rw[←Nat.add_mul];congr 1;omega
    have hmulc:rows.length*k≤cap*k:=Nat.mul_le_mul_right k hnc
    obtain⟨w',h2,h3,h4⟩:=qY (P:=P) g e (a*k) (List.replicate (rows.length-a) zc).flatten 0 cur.toList w hh' (by omega) (by
     intro u hu'
     obtain⟨r,hr,hur⟩:=List.mem_flatten.1 hu'
     rw[List.mem_replicate]at hr
     rw[hr.2]at hur
     exact h1 u hur)
    refine⟨.tuple #[],w',?_,?_⟩
    ·have hca : ¬(cap-a=0):=by omega
     simp only[execOp,resolve,List.map_toArray,List.map_cons,List.map_nil,hsl.eval hx,zh]
     rw[if_neg hca]
     obtain⟨q,hq⟩:∃q,rows.length-a=q+1:=⟨rows.length-a-1,by omega⟩
     have hzv:∀w,(zeroValue e).run P w=.ok z w:=fun w=>by simp[zeroValue,typeInfo,hi,hz']
     rw[←hzcs,hq]at h2
     rw[hq]
     simp[invoke,builtin,Builtin.clear_,run_underlying hu,hzv,Addr.add_lit,h2]
    ·have htk:∀(us:List Value) (c:List Value) (z a:Nat),a+us.length≤z→(over c a us).take z=over (c.take z) a us:=by
      intro us
      induction us with
      | nil=>intro c z a _;rfl
      | cons p us ih=>intro c z a h;simp only[List.length_cons]at h;rw[over,over,ih _ _ _ (by omega),List.take_set]
     have hrl2:∀r∈rows.take a++List.replicate (rows.length-a) zc,r.length=k:=by
      intro r hr
      rcases List.mem_append.1 hr with h|h
      ·exact hrl r (List.mem_of_mem_take h)
      ·exact hrep r h
     have hlen2:(rows.take a++List.replicate (rows.length-a) zc).length=rows.length:=by simp;omega
     refine hw.turn hm rfl h4.os h4.tape h4.output h4.size (Nat.le_of_eq h4.drawn.symm) (fun p hp=>h4.rest p (by simpa [As.foot,Value.ownBlock]using hp)) ⟨hrl2,?_,.inr ⟨g,cap,(over cur.toList (a*k+0) (List.replicate (rows.length-a) zc).flatten).toArray,by rw[hlen2],hg,h3,by rw[hlen2];exact hnc,hcm,by simp[qc,hcs],?_⟩⟩
     ·rw[za _ hrl2]
     ·rw[hlen2,Nat.add_zero]
      rw[htk _ _ _ _ (by rw[hfl];omega),htake]
      have e1:rows.flatten=(rows.take a).flatten++(rows.drop a).flatten:=by rw[←List.flatten_append,List.take_append_drop]
      have e2:(rows.take a).flatten.length=a*k:=by rw[za _ (fun r hr=>hrl r (List.mem_of_mem_take hr)),List.length_take,Nat.min_eq_left ha]
      have e3:=vy (List.replicate (rows.length-a) zc).flatten (rows.drop a).flatten (rows.take a).flatten (by rw[hfl,za _ (fun r hr=>hrl r (List.mem_of_mem_drop hr)),List.length_drop])
      rw[e2]at e3
      rw[e1,e3,List.flatten_append]) next
section ghost
variable{α ρ:Type}{r:ρ}{row:α→List Value→List Value}{sds:α→List Value→List Sd}{vs:Nat→List Value}{l:List α}{a:Int}{u0 u1:α}{f:List α→Option ρ}
theorem du{g:α→List Value}{z0:α}(h:qb (clr l a z0) f=some r)(hu:P.underlying tx=some (.slice e))(he:xf P e k by'=true)(hz:jn P e=some (g z0))(h1:∀u∈g z0,u.oneCell'=true)(hx:val fs x=some (zh v a.toNat k))(hm:m[i]?=some (.sl v e k (l.map g)))
  (next:∀z,clr l a z0=some z→f z=some r→L P ops Q n (Cls w0 own (m.set i (.sl v e k (z.map g)))) rest fs) :
  L P ops Q n (Cls w0 own m) (⟨none,.call ⟨.builtin .clear,#[x],#[tx]⟩,t,pos,af,none⟩::rest) fs:=by
 obtain⟨z,hz',h⟩:=qq h
 obtain⟨h2,h3,rfl⟩:=qi3 hz'
 refine fb hu he hz h1 hx hm (by rw[List.length_map];omega) ?_
 have:=next _ hz' h
 rwa [List.map_append,List.map_take,List.map_replicate,←List.length_map (f:=g) (as:=l)]at this
theorem L.ssNew{cs:List Value}{xs:List α}(hc:cs=(zr row vs xs).flatten)(hn:∀d∈zs sds vs xs,d.v=.slice none 0 0∧d.rows=[])(next:L P ops Q n (Cls w0 own (.obj b (zr row vs xs).flatten e::.ss (zs sds vs xs)::m)) rest fs):L P ops Q n (Cls w0 own (.obj b cs e::m)) rest fs:=by
 subst hc
 exact aj (fun w hw=>(hw.ssNew hn).perm (List.Perm.swap ..)) next
theorem qkn(hlen:∀z v,(row z v).length=k)(hr:idx l a=some u0){pv:Value}(hp:(row u0 (vs a.toNat))[j]?=some pv):(zr row vs l).flatten[0+a.toNat*k+j]?=some pv:=by
 rw[Nat.zero_add]
 exact qR _ _ _ _ _ (qcf hlen vs l) (qce row vs l _ _ (qf hr).2.2) hp
theorem qgL(hc:∀z v,(sds z v).length=c){dd:Sd}{z:α}{v:List Value}(hj:(sds z v)[j]?=some dd):j<c:=by
 have:=(List.getElem?_eq_some_iff.1 hj).1
 rwa [hc]at this
theorem As.atZ{w:World}(h:(As.ss (zs sds vs l)).holds w)(hc:∀z v,(sds z v).length=c)(hr:idx l a=some u0){rows:List (List Value)}(hj:(sds u0 (vs a.toNat))[j]?=some ⟨v,e,k,rows⟩):At w v k rows:=by
 have h1:=qax hc vs l a.toNat j u0 (qf hr).2.2 (qgL hc hj)
 rw[hj]at h1
 exact As.at_ (e:=e) (h _ (List.mem_of_getElem? h1))
theorem L.ssOut(hs:m[s]?=some (.ss (zs sds vs l)))(hc:∀z v,(sds z v).length=c)(hr:idx l a=some u0){rows:List (List Value)}(hj:(sds u0 (vs a.toNat))[j]?=some ⟨v,e,k,rows⟩)
  (next:L P ops Q n (Cls w0 own (.sl v e k rows::m.set s (.ss ((zs sds vs l).set (a.toNat*c+j) (Sd.nil 0 0))))) rest fs):L P ops Q n (Cls w0 own m) rest fs:=
 aj (fun w hw=>hw.ssOut hs (by rw[qax hc vs l a.toNat j u0 (qf hr).2.2 (qgL hc hj)];exact hj) 0 0) next
theorem qkH(hlen:∀z v,(row z v).length=k)(hr:idx l a=some u0){v1:List Value}(hj:j+vals.length≤k)(hrow:over (row u0 (vs a.toNat)) j vals=row u1 v1):over (zr row vs l).flatten (0+a.toNat*k+j) vals=(zr row (vi vs a.toNat v1) (l.set a.toNat u1)).flatten:=by
 have hi:=qf hr
 rw[Nat.zero_add,vx vals _ a.toNat j _ (qcf hlen vs l) (qce row vs l _ _ hi.2.2) hj,hrow,qjF row vs l a.toNat u1 v1 (by omega)]
theorem qee(hlen:∀z v,(row z v).length=k):(zr row vs l).flatten.length=l.length*k:=by rw[za _ (qcf hlen vs l),jm]
end ghost
end
section
variable{P:Program}{Q:Exit→Act→World→Prop}{n:Nat}{C:World→Prop}{fs:Fr}{t:TypeId}{ops:Array Oper}{rest:List Oper}{d:Nat}{pos:String}{af:Array Edge}{x y:Operand}{tx ty:TypeId}
variable{α:Type}{row:α→List Value}{l l':List α}{k m:Nat}{e:TypeId}
theorem qeB(hr:∀z,(row z).length=k)(hin:∀a b,row a=row b→a=b):∀(l l':List α),l.length=l'.length→(l.map row).flatten=(l'.map row).flatten→l=l'
 | [],[],_,_=>rfl
 | a::l,b::l',h1,h2=>by
  simp only[List.map_cons,List.flatten_cons]at h2
  obtain⟨h3,h4⟩:=List.append_inj h2 (by rw[hr,hr])
  rw[hin a b h3,qeB hr hin l l' (by simpa using h1) h4]
theorem eL[DecidableEq α](hg:P.eqGuardType P.depth tx=false)(ha:qP P tx true=true)(hu:P.underlying tx=some (.array k e))(hi:(P.info? e).isSome=true)(hr:∀z,(row z).length=P.cellsOf e)(hs:∀z,shB P 4 e (row z)=true)(hin:∀a b,row a=row b→a=b)(hl:l.length=k)(hl':l'.length=k)
  (hx:val fs x=some (.agg (l.map row).flatten.toArray)) (hy:val fs y=some (.agg (l'.map row).flatten.toArray)):Y P (.binOp .neq tx x y ty) t n fs C (.bool (decide (l≠l'))):=
 eC (row:=fun l:List α=>(l.map row).flatten) hg ha (qcm hu hi hr hs hl) (qcm hu hi hr hs hl') (fun h=>qeB hr hin l l' (hl.trans hl'.symm) h) hx hy
end
end Go.S
end
section
namespace Go.S
theorem dec(n:Nat)(h:0<n):∃q,n=q+1:=⟨n-1,by omega⟩
theorem qD(i:Nat)(h:i<9223372036854775807):i64 ((i:Int)+1)=some ((i+1:Nat):Int):=by rw[qk (by omega) (by omega)];rfl
theorem ff : ¬(false=true):=by simp
theorem z7{n:Nat}(h:n≤1180591620717411303423):n<big:=by rw[qv];omega
theorem qx{α:Type}{l:List α}{i:Nat}(x:α)(h:i<l.length):upd l (i:Int) x=some (l.set i x):=by
 unfold upd
 rw[if_pos (by omega)]
 rfl
theorem zt{α:Type}{l:List α}{i:Nat}(hi:i<l.length):l.drop i=l[i]::l.drop (i+1):=List.drop_eq_getElem_cons hi
theorem xb{α:Type}{l:List α}{i:Nat}(hi:i<l.length):l.take (i+1)=l.take i++[l[i]]:=List.take_succ_eq_append_getElem hi
theorem qi1{α:Type}(l:List α)(i:Nat)(h:i≤l.length):cut l (i:Int) (l.length:Int)=some (l.drop i):=by
 rw[qK (by omega) (by omega) (by omega)]
 simp
theorem qi0{α:Type}(l:List α)(i:Nat)(h:i≤l.length):cut l 0 (i:Int)=some (l.take i):=by
 rw[qK (by omega) (by omega) (by omega)]
 simp
theorem qmp{α:Type}(l:List α)(i:Nat)(z:α)(h:i≤l.length):clr l (i:Int) z=some (l.take i++List.replicate (l.length-i) z):=by
 unfold clr
 rw[if_pos (by omega)]
 rfl
theorem qh{α:Type}{n:Nat}{l:List α}(h:l.length=n):qs n l=some l:=if_pos h
def tab{α:Type}(n:Nat)(f:Int→α):List α:=(List.range n).map fun i:Nat=>f (i:Int)
end Go.S
end
section
namespace Go.S
theorem Cls.of_below{w w':World}(h:RowKit.Below w.heap.size w w')(hd:DR w w'):Cls w [] [] w':=
 ⟨h.os,h.tape,h.output,hd,h.size,fun k hk _=>h.block k hk,by simp,fun x hx=>by cases hx⟩
section
variable{P:Program}{Q:Exit→Act→World→Prop}{n:Nat}{C:World→Prop}{fs:Fr}{t:TypeId}{ops:Array Oper}{rest:List Oper}{d:Nat}{pos:String}{af:Array Edge}
variable{w0:World}{own:List Nat}{m:List As}{x y:Operand}{e te tx ty:TypeId}{i j k by':Nat}{v u:Value}
variable{α:Type}{row:α→List Value→List Value}{sds:α→List Value→List Sd}{vs:Nat→List Value}{l:List α}{a:Int}{u0:α}
theorem qlJ(h:idx l a=some u0):(zr row vs l)[a.toNat]?=some (row u0 (vs a.toNat)):=qce row vs l _ _ (qf h).2.2
theorem zAt{w:World}(hd:∀d∈zs sds vs l,At w d.v d.k d.rows){c:Nat}(hc:∀z v,(sds z v).length=c)(hr:idx l a=some u0){rows:List (List Value)}(hj:(sds u0 (vs a.toNat))[j]?=some ⟨v,e,k,rows⟩):At w v k rows:=by
 have h1:=qax hc vs l a.toNat j u0 (qf hr).2.2 (qgL hc hj)
 rw[hj]at h1
 exact hd _ (List.mem_of_getElem? h1)
theorem eO(hu:P.underlying tx=some (.slice e))(hx:val fs x=some v)(hA:∀w,C w→At w v k (zr row vs l)):Y P (.call ⟨.builtin .len,#[x],#[tx]⟩) t n fs C (.int .i64 l.length):=by
 have:=eD (t:=t) (n:=n) hu hx hA
 rwa [jm]at this
theorem dJ{ik:IntKind}(hu:P.underlying tx=some (.slice e))(hsz:szB P e k=true)(hx:val fs x=some v)(hy:val fs y=some (.int ik a))(hA:∀w,C w→At w v k (zr row vs l))(z:α)(h:idx l a=some z) :
  Y P (.indexAddr tx x y) t n fs C (el v (a.toNat*k)):=by
 obtain⟨h0,h1,_⟩:=qf h
 exact di hu hsz hx hy hA h0 (by rwa [jm])
theorem js(w:World)(d:Nat)(a:Option Addr)(hu:P.underlying tx=some (.pointer e)):(Op.equalIn (d+1) tx (.pointer a) (.pointer none)).run P w=.ok a.isNone w:=by
 cases a<;>simp[Op.equalIn,run_underlying hu]
theorem qdE(w:World)(a:Option Addr)(hu:P.underlying tx=some (.pointer e)):(binOp .eql tx (.pointer a) (.pointer none)).run P w=.ok (.bool a.isNone) w:=by
 simp only[binOp]
 simp[Op.equal,Op.maxDepth,js w 9999 a hu]
theorem qdD(w:World)(a:Option Addr)(hu:P.underlying tx=some (.pointer e)):(binOp .neq tx (.pointer a) (.pointer none)).run P w=.ok (.bool !a.isNone) w:=by
 simp only[binOp]
 simp[Op.equal,Op.maxDepth,js w 9999 a hu]
theorem eE{p:Option Addr}(hu:P.underlying tx=some (.pointer e))(hx:val fs x=some (.pointer p))(hy:val fs y=some (.pointer none)):Y P (.binOp .eql tx x y ty) t n fs C (.bool p.isNone):=
 bE fun d pos af g s w hs hw=>by
  have hg:(eqGuard .eql tx x y (.pointer p) (.pointer none)).run P w=.ok () w:=by simp[eqGuard]
  simp only[execOp,hs.eval hx,hs.eval hy]
  simp[hg,qdE w p hu]
theorem eB{p:Option Addr}(hu:P.underlying tx=some (.pointer e))(hx:val fs x=some (.pointer p))(hy:val fs y=some (.pointer none)):Y P (.binOp .neq tx x y ty) t n fs C (.bool !p.isNone):=
 bE fun d pos af g s w hs hw=>by
  have hg:(eqGuard .neq tx x y (.pointer p) (.pointer none)).run P w=.ok () w:=by simp[eqGuard]
  simp only[execOp,hs.eval hx,hs.eval hy]
  simp[hg,qdD w p hu]
def cpy(l s:List α):List α:=s.take (min s.length l.length)++l.drop (min s.length l.length)
theorem qev:∀(vs c p b:List Value),vs.length=c.length→over (p++c++b) p.length vs=p++vs++b
 | [],c,p,b,h=>by
  have:c=[]:=List.length_eq_zero_iff.1 (by simpa using h.symm)
  subst this;rfl
 | v::vs,[],p,b,h=>by simp at h
 | v::vs,u::c,p,b,h=>by
  have e:(p++u::c++b).set p.length v=(p++[v])++c++b:=by rw[List.append_assoc,List.set_append_right _ _ (Nat.le_refl _)];simp
  have:=qev vs c (p++[v]) b (by simpa using h)
  rw[over,e,show p.length+1=(p++[v]).length by simp,this]
  simp
theorem qcp{rows more:List (List Value)}{sT:TypeId}(hu:P.underlying tx=some (.slice e))(he:xf P e k by'=true)(hx:val fs x=some v)(hy:val fs y=some u)(hm:m[i]?=some (.sl v e k rows))(hB:∀w,Cls w0 own m w→At w u k more)(hp:Plain more)(o:Option Tmp)(ac:Act)(w:World)(hsl:Slots n fs ac)(hw:Cls w0 own m w) :
  ∃v' w',(execOp ac.eval ⟨o,.call ⟨.builtin .copy,#[x,y],#[tx,sT]⟩,t,pos,af,none⟩).run P w=.ok (.value v') w'∧Cls w0 own (m.set i (.sl v e k (more.take (min more.length rows.length)++rows.drop (min more.length rows.length)))) w':=by
 obtain⟨hrl,hl,hown⟩:=hw.get hm
 have hA:=hB w hw
 obtain⟨inf,z,hi,hz',hsz,hby,hzs,hk⟩:=vF he
 have hso:∀w,(sizeOf e).run P w=.ok k w:=fun w=>qt (by simp[szB,hi,hsz]) w
 have hnoop:min more.length rows.length=0→Cls w0 own (m.set i (.sl v e k (more.take (min more.length rows.length)++rows.drop (min more.length rows.length)))) w:=by
  intro h0
  rw[h0,List.take_zero,List.drop_zero,List.nil_append]
  have:m.set i (.sl v e k rows)=m:=by
   obtain⟨h2,h3⟩:=List.getElem?_eq_some_iff.1 hm
   rw[←h3,List.set_getElem_self]
  rw[this];exact hw
 have hlen:∀(a:Option Addr) (c:Nat),u=.slice a more.length c→(Builtin.lenOf u).run P w=.ok more.length w:=by
  intro a c h;subst h;simp[Builtin.lenOf]
 have hread:∃cs:List Value,cs=(more.take (min more.length rows.length)).flatten∧(Builtin.firstCells k (min more.length rows.length) u).run P w=.ok cs.toArray w:=by
  refine⟨_,rfl,?_⟩
  rcases hA.shape with⟨rfl,rfl⟩|⟨ad,c,rfl,_,_⟩
  ·simp[Builtin.firstCells]
  ·have hT:=hA.take (min more.length rows.length) (Nat.min_le_left _ _)
   have hfl:=hT.flat_cell hk
   have:=run_loadCells_list (P:=P) w ad (more.take (min more.length rows.length)).flatten (by simpa [qdX,adr]using hfl)
   have hfn:(more.take (min more.length rows.length)).flatten.length=min more.length rows.length*k:=by
    rw[za _ (fun r hr=>hA.len r (List.mem_of_mem_take hr)),List.length_take,Nat.min_eq_left (Nat.min_le_left _ _)]
   rw[hfn]at this
   simp[Builtin.firstCells,this]
 obtain⟨cs,hcs0,hcs⟩:=hread
 have hul:(Builtin.lenOf u).run P w=.ok more.length w:=by
  rcases hA.shape with⟨rfl,rfl⟩|⟨ad,c,rfl,_,_⟩
  ·exact hlen none 0 rfl
  ·exact hlen _ _ rfl
 rcases hown with⟨rfl,hn⟩|⟨g,cap,cur,rfl,hg,hh,hnc,hcm,hcsz,htake⟩
 ·have:rows=[]:=List.length_eq_zero_iff.1 hn
  subst this
  refine⟨goInt 0,w,?_,hnoop (by simp)⟩
  simp only[execOp,resolve,List.map_toArray,List.map_cons,List.map_nil,hsl.eval hx,hsl.eval hy]
  simp only[List.length_nil]at hcs
  simp[invoke,builtin,Builtin.copy_,run_underlying hu,hul,hso]
  simp at hcs
  simp[hcs]
 ·have hcl:cur.toList.length=cap*k:=by simp[hcsz]
  have hh':w.heap[g]?=some (.cells cur.toList.toArray e (0,0)):=by simpa using hh
  have hcl2:cs.length=min more.length rows.length*k:=by
   rw[hcs0,za _ (fun r hr=>hA.len r (List.mem_of_mem_take hr)),List.length_take,Nat.min_eq_left (Nat.min_le_left _ _)]
  have hmul:min more.length rows.length*k≤rows.length*k:=Nat.mul_le_mul_right k (Nat.min_le_right _ _)
  have hmulc:rows.length*k≤cap*k:=Nat.mul_le_mul_right k hnc
  obtain⟨w',h2,h3,h4⟩:=qY (P:=P) g e 0 cs 0 cur.toList w hh' (by omega) (by
   intro q hq
   rw[hcs0]at hq
   obtain⟨r,hr,hur⟩:=List.mem_flatten.1 hq
   exact hp r (List.mem_of_mem_take hr) q hur)
  refine⟨goInt ((more.length.min rows.length:Nat):Int),w',?_,?_⟩
  ·simp only[execOp,resolve,List.map_toArray,List.map_cons,List.map_nil,hsl.eval hx,hsl.eval hy]
   simp[invoke,builtin,Builtin.copy_,run_underlying hu,hul,hso,hcs,h2]
  ·have htk:∀(us:List Value) (c:List Value) (z a:Nat),a+us.length≤z→(over c a us).take z=over (c.take z) a us:=by
    intro us
    induction us with
    | nil=>intro c z a _;rfl
    | cons p us ih=>intro c z a h;simp only[List.length_cons]at h;rw[over,over,ih _ _ _ (by omega),List.take_set]
   have hrl2:∀r∈more.take (min more.length rows.length)++rows.drop (min more.length rows.length),r.length=k:=by
    intro r hr
    rcases List.mem_append.1 hr with h|h
    ·exact hA.len r (List.mem_of_mem_take h)
    ·exact hrl r (List.mem_of_mem_drop h)
   have hlen2:(more.take (min more.length rows.length)++rows.drop (min more.length rows.length)).length=rows.length:=by
    rw[List.length_append,List.length_take,List.length_drop,Nat.min_eq_left (Nat.min_le_left _ _)];omega
   refine hw.turn hm rfl h4.os h4.tape h4.output h4.size (Nat.le_of_eq h4.drawn.symm) (fun p hp=>h4.rest p (by simpa [As.foot,Value.ownBlock]using hp)) ⟨hrl2,?_,.inr ⟨g,cap,(over cur.toList (0+0) cs).toArray,by rw[hlen2],hg,h3,by rw[hlen2];exact hnc,hcm,by simp[qc,hcsz],?_⟩⟩
   ·rw[za _ hrl2]
   ·rw[hlen2,Nat.add_zero,htk _ _ _ _ (by omega),htake]
    have e1:rows.flatten=[]++(rows.take (min more.length rows.length)).flatten++(rows.drop (min more.length rows.length)).flatten:=by rw[List.nil_append,←List.flatten_append,List.take_append_drop]
    have e2:cs.length=(rows.take (min more.length rows.length)).flatten.length:=by
     rw[hcl2,za _ (fun r hr=>hrl r (List.mem_of_mem_take hr)),List.length_take,Nat.min_eq_left (Nat.min_le_right _ _)]
    have e3:=qev cs (rows.take (min more.length rows.length)).flatten [] (rows.drop (min more.length rows.length)).flatten e2
    rw[List.length_nil]at e3
    rw[e1,e3,hcs0,List.flatten_append,List.nil_append]
theorem de{rows more:List (List Value)}{sT:TypeId}(hd:Nat.blt d n=true)(hu:P.underlying tx=some (.slice e))(he:xf P e k by'=true)(hx:val fs x=some v)(hy:val fs y=some u)(hm:m[i]?=some (.sl v e k rows))(hB:∀w,Cls w0 own m w→At w u k more)(hp:Plain more)
  (next:∀v',L P ops Q n (Cls w0 own (m.set i (.sl v e k (more.take (min more.length rows.length)++rows.drop (min more.length rows.length))))) rest ((d,v')::fs)) :
  L P ops Q n (Cls w0 own m) (⟨some d,.call ⟨.builtin .copy,#[x,y],#[tx,sT]⟩,t,pos,af,none⟩::rest) fs:=
 dS (R:=fun _ w'=>Cls w0 own (m.set i (.sl v e k (more.take (min more.length rows.length)++rows.drop (min more.length rows.length)))) w') hd (fun ac w hsl hw=>qcp hu he hx hy hm hB hp (some d) ac w hsl hw) next
theorem dt{g:α→List Value}{l s:List α}{sT:TypeId}(hd:Nat.blt d n=true)(hu:P.underlying tx=some (.slice e))(he:xf P e k by'=true)(hx:val fs x=some v)(hy:val fs y=some u)(hm:m[i]?=some (.sl v e k (l.map g)))(hB:∀w,Cls w0 own m w→At w u k (s.map g))(hp:Plain (s.map g))
  (next:∀v',L P ops Q n (Cls w0 own (m.set i (.sl v e k ((cpy l s).map g)))) rest ((d,v')::fs)) :
  L P ops Q n (Cls w0 own m) (⟨some d,.call ⟨.builtin .copy,#[x,y],#[tx,sT]⟩,t,pos,af,none⟩::rest) fs:=by
 refine de hd hu he hx hy hm hB hp fun v'=>?_
 rw[List.length_map,List.length_map,←List.map_take,←List.map_drop,←List.map_append]
 exact next v'
end
def xj(s:List UInt8)(n:Int):Option (List UInt8):=if 0≤n∧n≤1000000∧s.length*n.toNat≤140737488355328 then some (Lib.repeatL s n.toNat) else none
theorem qch{s r:List UInt8}{n:Int}(h:xj s n=some r):0≤n∧n≤1000000∧s.length*n.toNat≤140737488355328∧r=Lib.repeatL s n.toNat:=by
 unfold xj at h
 split at h
 ·rename_i h1
  simp only[Option.some.injEq]at h
  exact⟨h1.1,h1.2.1,h1.2.2,h.symm⟩
 ·cases h
end Go.S
end
section
namespace Go.S
section
variable{P:Program}{ops:Array Oper}{Q:Exit→Act→World→Prop}{md:Region.Mode}{S S':Array Bool→World→Prop}{B D Z:World→Prop}{bs:List Nat}
def qJ(bs:List Nat)(L:Array Bool):Bool:=bs.all fun b=>!(L.getD b true)
def stC:List (List Nat)→List (World→Prop)→(World→Prop)→Array Bool→World→Prop
 | bs::r,B::q,D,L,w=>match qJ bs L with
  | true=>B w
  | false=>stC r q D L w
 | _,_,D,_,w=>D w
def ku(P:Program)(md:Region.Mode)(ops:Array Oper)(Q:Exit→Act→World→Prop)(S:Array Bool→World→Prop):Nat→Array Bool→Act→World→Prop
 | 0,listed,a,w=>Region.ready md ops listed=[]∧Q .normal a w
 | fuel+1,listed,a,w =>
  (Region.ready md ops listed=[]→Q .normal a w) ∧
  ∀i∈Region.ready md ops listed,wpOp P ops Q i (fun a' w'=>S (listed.setIfInBounds i true) w'∧ku P md ops Q S fuel (listed.setIfInBounds i true) a' w') a w
theorem qaA:∀(fuel:Nat) (listed:Array Bool) (a:Act) (w:World),ku P md ops Q S fuel listed a w→wpAny P md ops Q fuel listed a w
 | 0,_,_,_,h=>h
 | fuel+1,_,_,_,h=>⟨h.1,fun i hi=>wpOp_mono (fun a' w' h'=>qaA fuel _ a' w' h'.2) (h.2 i hi)⟩
theorem qmH{b:Nat}(hS:∀(L:Array Bool) w,L.getD b false=true→S' L w→S L w):∀(fuel:Nat) (listed:Array Bool) (a:Act) (w:World),listed.getD b false=true→ku P md ops Q S' fuel listed a w→ku P md ops Q S fuel listed a w
 | 0,_,_,_,_,h=>h
 | fuel+1,listed,_,_,hb,h=>⟨h.1,fun i hi=>wpOp_mono (fun a' w' h'=>⟨hS _ _ (getD_set_true hb) h'.1,qmH hS fuel _ a' w' (getD_set_true hb) h'.2⟩) (h.2 i hi)⟩
theorem qcj{i:Nat}{L:Array Bool}(hi:i∉bs):qJ bs (L.setIfInBounds i true)=qJ bs L:=by
 unfold qJ
 rw[Bool.eq_iff_iff,List.all_eq_true,List.all_eq_true]
 constructor
 ·intro h b hb
  have:=h b hb
  rwa [getD_set_ne true (by rintro rfl;exact hi hb)]at this
 ·intro h b hb
  rw[getD_set_ne true (by rintro rfl;exact hi hb)]
  exact h b hb
def qiw(ops:Array Oper)(md:Region.Mode)(i:Nat):Nat→Nat→Bool
 | 0,_=>false
 | k+1,b=>!(Nat.beq b i)&&match ops[b]? with
  | some o=>o.after.toList.any (fun e=>Region.binds md e&&Nat.beq e.on i)||o.after.toList.any fun e=>Region.binds md e&&qiw ops md i k e.on
  | none=>false
def qko(ops:Array Oper)(md:Region.Mode)(bs:List Nat)(i:Nat):Bool:=bs.all fun b=>qiw ops md i 6 b
def Closed(ops:Array Oper)(md:Region.Mode)(L:Array Bool):Prop:=∀j o,ops[j]?=some o→L.getD j false=true→∀e∈o.after,Region.binds md e=true→L.getD e.on false=true
def qhF(ops:Array Oper)(md:Region.Mode)(L:Array Bool):Bool:=(List.range ops.size).all fun j=>!(L.getD j false)||match ops[j]? with
 | some o=>o.after.toList.all fun e=>!(Region.binds md e)||L.getD e.on false
 | none=>true
theorem qcV{L:Array Bool}(h:qhF ops md L=true):Closed ops md L:=by
 intro j o ho hj e he hb
 have h1:=List.all_eq_true.1 h j (List.mem_range.2 (Array.getElem?_eq_some_iff.1 ho).1)
 rw[hj,ho]at h1
 have h2:=List.all_eq_true.1 (by simpa using h1:o.after.toList.all (fun e=>!(Region.binds md e)||L.getD e.on false)=true) e (by simpa using he)
 simpa [hb]using h2
theorem Closed.step{L:Array Bool}{j:Nat}(h:Closed ops md L)(hj:j∈Region.ready md ops L):Closed ops md (L.setIfInBounds j true):=by
 intro k o ho hk e he hb
 obtain⟨_,oj,hoj,hall⟩:=mem_ready.1 hj
 by_cases hkj:j=k
 ·subst hkj
  rw[hoj,Option.some.injEq]at ho
  subst ho
  exact getD_set_true (hall e he hb)
 ·rw[getD_set_ne false hkj]at hk
  exact getD_set_true (h k o ho hk e he hb)
theorem qeg{i:Nat}{L:Array Bool}(hcl:Closed ops md L)(hi:L.getD i false=false):∀(k b:Nat),qiw ops md i k b=true→(∀o,ops[b]?=some o→∀e∈o.after,Region.binds md e=true→L.getD e.on false=true)→False
 | 0,_,h,_=>by cases h
 | k+1,b,h,hall=>by
  simp only[qiw,Bool.and_eq_true]at h
  cases ho:ops[b]? with
  | none=>rw[ho]at h;exact absurd h.2 (by simp)
  | some o =>
   rw[ho]at h
   simp only[Bool.or_eq_true]at h
   rcases h.2 with h2|h2
   ·obtain⟨e,he,h3⟩:=List.any_eq_true.1 h2
    simp only[Bool.and_eq_true]at h3
    have h4:=hall o ho e (by simpa using he) h3.1
    rw[Nat.eq_of_beq_eq_true h3.2,hi]at h4
    cases h4
   ·obtain⟨e,he,h3⟩:=List.any_eq_true.1 h2
    simp only[Bool.and_eq_true]at h3
    have h4:=hall o ho e (by simpa using he) h3.1
    exact qeg hcl hi k e.on h3.2 fun o' ho' e' he' hb'=>hcl e.on o' ho' h4 e' he' hb'
theorem qlm{i:Nat}{oi:Oper}{v:Value}(hi:ops[i]?=some oi)(hsel:∀(j:Nat) (o:Oper) cs b,ops[j]?=some o→o.op≠.select cs b)
  (hQ:∀c a w,Q (.panic c) (a.put oi.dst v) w→Q (.panic c) a w) (hwait:qko ops md bs i=true) (hS':∀(L:Array Bool) w,S (L.setIfInBounds i true) w=S L w) (hZ:∀(L:Array Bool) w,qJ bs L=true→S L w→Z w) :
  ∀(fuel:Nat) (listed:Array Bool) (a:Act) (w:World),(bs=[]∨Closed ops md listed)→qJ bs listed=true →
   (∀j oj,ops[j]?=some oj→j≠i→listed.getD j true=false→(∀e∈oj.after,Region.binds md e=true→e.on≠i)→oi.apart ops oj=true) →
   i∈Region.ready md ops listed→YieldsIf P ops Z oi v a→S listed w →
   ku P md ops Q S fuel (listed.setIfInBounds i true) (a.put oi.dst v) w→ku P md ops Q S (fuel+1) listed a w:=by
 intro fuel
 induction fuel with
 | zero =>
  intro listed a w hcl ho hfree hr hy hS H
  refine⟨fun h=>(by rw[h]at hr;cases hr),fun j hj=>?_⟩
  by_cases hji:j=i
  ·subst hji;exact hy.wpOp hi (hZ _ _ ho hS) ⟨by rw[hS'];exact hS,H⟩
  ·have:=ready_mono hj hji
   rw[H.1]at this
   cases this
 | succ fuel ih =>
  intro listed a w hcl ho hfree hr hy hS H
  refine⟨fun h=>(by rw[h]at hr;cases hr),fun j hj=>?_⟩
  by_cases hji:j=i
  ·subst hji;exact hy.wpOp hi (hZ _ _ ho hS) ⟨by rw[hS'];exact hS,H⟩
  ·have h1:=H.2 j (ready_mono hj hji)
   obtain⟨hjun,oj,hoj,hall⟩:=mem_ready.1 hj
   have hnot:∀e∈oj.after,Region.binds md e=true→e.on≠i:=fun e he hb heq=>by
    have h1:=hall e he hb
    have h0:=(mem_ready.1 hr).1
    rw[heq]at h1
    rcases Nat.lt_or_ge i listed.size with h' | h'
    ·simp[h']at h0 h1;rw[h0]at h1;cases h1
    ·simp[Array.getElem?_eq_none h']at h1
   have hjb:j∉bs:=fun hb=>by
    have hcl':Closed ops md listed:=hcl.resolve_left fun h0=>(by rw[h0]at hb;cases hb)
    have h0:=(mem_ready.1 hr).1
    have hi0:listed.getD i false=false:=by
     rcases Nat.lt_or_ge i listed.size with h' | h'
     ·simp[h']at h0 ⊢;exact h0
     ·simp[Array.getElem?_eq_none h']
    refine qeg hcl' hi0 6 j (List.all_eq_true.1 hwait j hb) fun o ho' e he hb'=>?_
    rw[hoj,Option.some.injEq]at ho'
    subst ho'
    exact hall e he hb'
   have ho2:qJ bs (listed.setIfInBounds j true)=true:=by rw[qcj hjb];exact ho
   have h2:=wpOp_putIf hoj (hfree j oj hoj hji hjun hnot) (fun cs b=>hsel i oi cs b hi) (fun cs b=>hsel j oj cs b hoj) hQ hy h1
   have hfree':∀k ok,ops[k]?=some ok→k≠i→(listed.setIfInBounds j true).getD k true=false →
     (∀e∈ok.after,Region.binds md e=true→e.on≠i)→oi.apart ops ok=true:=fun k ok hk hki hun hno=>by
    refine hfree k ok hk hki ?_ hno
    by_cases hjk:j=k
    ·subst hjk;exact hjun
    ·rw[getD_set_ne true hjk]at hun;exact hun
   refine wpOp_mono (fun a' w' h3=>?_) h2
   have hS2:S (listed.setIfInBounds j true) w':=by
    have:=h3.2.1
    rw[Array.setIfInBounds_comm _ _ (Ne.symm hji),hS']at this
    exact this
   refine⟨hS2,ih (listed.setIfInBounds j true) a' w' (hcl.imp id fun h=>h.step hj) ho2 hfree' (ready_mono hr (Ne.symm hji)) h3.1 hS2 ?_⟩
   rw[Array.setIfInBounds_comm _ _ hji]
   exact h3.2.2
def qnl(bss:List (List Nat))(i:Nat):Bool:=bss.all fun bs=>bs.all fun b=>!(Nat.beq b i)
theorem qgJ{i:Nat}:∀{bss:List (List Nat)} (Bs:List (World→Prop)),qnl bss i=true→∀(L:Array Bool) w,stC bss Bs D (L.setIfInBounds i true) w=stC bss Bs D L w
 | [],_,_,L,w=>rfl
 | bs::r,[],_,L,w=>rfl
 | bs::r,B::q,h,L,w=>by
  simp only[qnl,List.all_cons,Bool.and_eq_true]at h
  have hi:i∉bs:=fun hb=>by
   have:=List.all_eq_true.1 h.1 i hb
   simp at this
  simp only[stC]
  rw[qcj hi,qgJ q h.2 L w]
section
variable{bz bs:List Nat}{r:List (List Nat)}{q q':List (World→Prop)}{B' C D':World→Prop}{i:Nat}{L:Array Bool}
theorem be(h:∀w,B w→Z w):∀(L:Array Bool) w,qJ bs L=true→stC (bs::r) (B::q) D L w→Z w:=fun L w ho hs=>by
 simp only[stC,ho]at hs;exact h w hs
theorem Zc.on(h:∀w,B w→Z w)(h2:∀(L:Array Bool) w,qJ bz L=true→stC r q D L w→Z w):∀(L:Array Bool) w,qJ bz L=true→stC (bs::r) (B::q) D L w→Z w:=fun L w ho hs=>by
 simp only[stC]at hs
 split at hs
 ·exact h w hs
 ·exact h2 L w ho hs
theorem fd(h:∀w,D w→Z w):∀(L:Array Bool) w,qJ bz L=true→stC [] [] D L w→Z w:=fun _ w _ hs=>h w hs
theorem Sc.stay(h:∀w,B' w→B w)(h2:∀(L:Array Bool) w,L.getD i false=true→stC r q' D' L w→stC r q D L w):∀(L:Array Bool) w,L.getD i false=true→stC (bs::r) (B'::q') D' L w→stC (bs::r) (B::q) D L w:=fun L w hi hs=>by
 cases ho:qJ bs L with
 | true=>simp only[stC,ho]at hs ⊢;exact h w hs
 | false=>simp only[stC,ho]at hs ⊢;exact h2 L w hi hs
theorem aw{S':Array Bool→World→Prop}(hb:bs.contains i=true)(h2:∀(L:Array Bool) w,L.getD i false=true→S' L w→stC r q D L w):∀(L:Array Bool) w,L.getD i false=true→S' L w→stC (bs::r) (B::q) D L w:=fun L w hi hs=>by
 have ho:qJ bs L=false:=by
  unfold qJ
  rw[List.all_eq_false]
  refine⟨i,by simpa using hb,?_⟩
  have h3:L.getD i true=true:=by
   rcases Nat.lt_or_ge i L.size with h' | h'
   ·simp[h']at hi ⊢;exact hi
   ·simp[Array.getElem?_eq_none h']at hi
  simp[h3]
 simp only[stC,ho]
 exact h2 L w hi hs
theorem aD(h:∀w,D' w→D w):∀(L:Array Bool) w,L.getD i false=true→stC [] [] D' L w→stC [] [] D L w:=fun _ w _ hs=>h w hs
theorem Sc.now(ho:qJ bs L=true)(h:∀w,C w→B w):∀w,C w→stC (bs::r) (B::q) D L w:=fun w hc=>by
 simp only[stC,ho];exact h w hc
theorem aP(h:∀w,C w→D w):∀w,C w→stC [] [] D L w:=h
end
end
def KG(K:Act→World→Prop):Exit→Act→World→Prop:=fun e a w=>e=.normal∧K a w
section
variable{P:Program}{Q:Exit→Act→World→Prop}{n:Nat}{B C D Z:World→Prop}{S S':Array Bool→World→Prop}{fs:Fr}{ops:Array Oper}{d:Nat}{op:Op}{t:TypeId}{pos:String}{af:Array Edge}{listed:Array Bool}{k i:Nat}{g:Option (Nat×Bool)}{K:Act→World→Prop}
theorem qjS : ¬LetsOut (KG K):=fun⟨_,_,h,_⟩=>by cases h
theorem qfK{o:Oper}{a:Act}{w:World}(hi:ops[i]?=some o)(h:wpList P ops (KG K) [o] a w):wpOp P ops (NoPanic Q) i K a w:=by
 have hK:∀a w,wpList P ops (KG K) [] a w→K a w:=fun a w h=>h.2
 unfold wpOp
 simp only[hi]
 simp only[wpList]at h
 by_cases hw:Region.wanted o (yielded ops a.tmps)=true
 ·simp only[hw,if_true]at h ⊢
  rcases h with h|⟨_,h⟩
  ·refine .inl ?_
   unfold Oper.wp at *
   generalize (execOp a.eval o).run P w=r at *
   cases r with
   | ok x w' =>
    cases x<;>simp only[Oper.upon]at h ⊢
    case value u=>exact h.2
    case skip=>exact h.2
    case defer d=>exact h.2
    case enter f args =>
     refine Calls.mono h fun e w'' he=>?_
     cases e with
     | returned u=>exact he.2
     | panicked c=>exact absurd he.1 (by nofun)
     | outgrown=>exact(qjS he).elim
    case row row args=>exact Rows.mono h fun u w'' he=>he.2
   | halt x w' =>
    cases x<;>simp only[Oper.upon]at h ⊢
    case panic u=>exact absurd h.1 (by nofun)
  ·exact(qjS h).elim
 ·simp only[hw,Bool.false_eq_true,if_false]at h ⊢
  exact h.2
def V2(P:Program)(ops:Array Oper)(Q:Exit→Act→World→Prop)(n:Nat)(S:Array Bool→World→Prop)(listed:Array Bool)(k:Nat)(C:World→Prop)(fs:Fr):Prop:=
 ∀a w,Slots n fs a→C w→S listed w→ku P .any ops (NoPanic Q) S k listed a w
structure Nx2(ops:Array Oper)(S:Array Bool→World→Prop)(Z:World→Prop)(listed:Array Bool)(i:Nat)(o:Oper):Prop extends Nx ops listed i o where
 set':∀(L:Array Bool) w,S (L.setIfInBounds i true) w=S L w
 z:∃bz,qko ops .any bz i=true∧(bz=[]∨Closed ops .any listed)∧qJ bz listed=true∧∀(L:Array Bool) w,qJ bz L=true→S L w→Z w
def qlq(ops:Array Oper)(bss:List (List Nat))(bz:List Nat)(listed:Array Bool)(i:Nat):Bool:=nxB ops listed i&&qnl bss i&&(qko ops .any bz i&&(bz.isEmpty||qhF ops .any listed))&&qJ bz listed
theorem cI{o:Oper}{bss:List (List Nat)}{Bs:List (World→Prop)}(bz:List Nat)(h:qlq ops bss bz listed i=true)(ho:ops[i]?=some o)(hz:∀(L:Array Bool) w,qJ bz L=true→stC bss Bs D L w→Z w):Nx2 ops (stC bss Bs D) Z listed i o:=by
 simp only[qlq,Bool.and_eq_true]at h
 refine⟨Nx.of h.1.1.1 ho,qgJ Bs h.1.1.2,bz,h.1.2.1,?_,h.2,hz⟩
 have h2:=h.1.2.2
 rw[Bool.or_eq_true]at h2
 exact h2.imp List.isEmpty_iff.1 qcV
theorem Nx2.take{o:Oper}{v:Value}(hn:Nx2 ops S Z listed i o){a:Act}{w:World}(hy:YieldsIf P ops Z o v a)(hs:S listed w)
  (h:ku P .any ops (NoPanic Q) S k (listed.setIfInBounds i true) (a.put o.dst v) w):ku P .any ops (NoPanic Q) S (k+1) listed a w:=by
 obtain⟨bz,h1,hc,h2,h3⟩:=hn.z
 exact qlm hn.at_ (Region.noSelect_spec hn.sel) (fun _ _ _ h=>h) h1 hn.set' h3 k listed a w hc h2 (Region.free_spec hn.at_ hn.free) (by simpa using hn.ready) hy hs h
theorem eT{v:Value}(hn:Nx2 ops S Z listed i ⟨some d,op,t,pos,af,g⟩)(hg:jk ops fs g=true)(hp:xd op=true)(hd:Nat.blt d n=true)(hy:Y P op t n fs Z v)
  (next:V2 P ops Q n S (listed.setIfInBounds i true) k C ((d,v)::fs)):V2 P ops Q n S listed (k+1) C fs:=by
 intro a w hs hc hb
 exact hn.take (.inl ⟨xt hs _ hg,fun w' hw'=>hy.strict hp _ _ _ _ hs hw'⟩) hb (next _ w (hs.put hd v) hc (by rw[hn.set'];exact hb))
theorem dM{x:Operand}{ad:Addr}(hn:Nx2 ops S Z listed i ⟨some d,.nilCheck x,t,pos,af,g⟩)(hg:jk ops fs g=true)(hd:Nat.blt d n=true)(hx:val fs x=some (.pointer (some ad)))
  (next:V2 P ops Q n S (listed.setIfInBounds i true) k C ((d,.pointer (some ad))::fs)):V2 P ops Q n S listed (k+1) C fs:=by
 intro a w hs hc hb
 exact hn.take (.inl ⟨xt hs _ hg,fun w' hw'=>by simp only[execOp,hs.eval hx];simp⟩) hb (next _ w (hs.put hd _) hc (by rw[hn.set'];exact hb))
theorem eU(hn:Nx2 ops S Z listed i ⟨some d,op,t,pos,af,g⟩)(hg:qak ops fs g=true)(hd:Nat.blt d n=true)
  (next:V2 P ops Q n S (listed.setIfInBounds i true) k C ((d,undef)::fs)):V2 P ops Q n S listed (k+1) C fs:=by
 intro a w hs hc hb
 exact hn.take (.inr ⟨zq hs _ hg,rfl⟩) hb (next _ w (hs.put hd _) hc (by rw[hn.set'];exact hb))
theorem cZ(hn:Nx2 ops S Z listed i ⟨none,op,t,pos,af,g⟩)(hg:qak ops fs g=true)
  (next:V2 P ops Q n S (listed.setIfInBounds i true) k C fs):V2 P ops Q n S listed (k+1) C fs:=by
 intro a w hs hc hb
 exact hn.take (.inr ⟨zq hs _ hg,rfl⟩) hb (next _ w hs hc (by rw[hn.set'];exact hb))
section
variable{α ρ:Type}{r:ρ}
theorem fN{o:Option α}{f:α→Option ρ}{V':α→Value}(h:qb o f=some r)(hn:Nx2 ops S Z listed i ⟨some d,op,t,pos,af,g⟩)(hg:jk ops fs g=true)(hp:xd op=true)(hd:Nat.blt d n=true)
  (hy:∀x,o=some x→Y P op t n fs Z (V' x)) (next:∀x,o=some x→f x=some r→V2 P ops Q n S (listed.setIfInBounds i true) k C ((d,V' x)::fs)):V2 P ops Q n S listed (k+1) C fs:=by
 obtain⟨x,hx,h⟩:=qq h
 exact eT hn hg hp hd (hy x hx) (next x hx h)
theorem fm{p:Prop}[Decidable p]{X W:Option ρ}(h:(if p then X else W)=some r)(hn:Nx2 ops S Z listed i ⟨some d,op,t,pos,af,g⟩)(hg:jk ops fs g=true)(hp:xd op=true)(hd:Nat.blt d n=true)
  (hy:Y P op t n fs Z (.bool (decide p))) (k1:p→X=some r→V2 P ops Q n S (listed.setIfInBounds i true) k C ((d,.bool true)::fs)) (k2 : ¬p→W=some r→V2 P ops Q n S (listed.setIfInBounds i true) k C ((d,.bool false)::fs)) :
  V2 P ops Q n S listed (k+1) C fs:=by
 by_cases hq:p
 ·exact eT hn hg hp hd (by simpa [hq]using hy) (k1 hq (by rwa [if_pos hq]at h))
 ·exact eT hn hg hp hd (by simpa [hq]using hy) (k2 hq (by rwa [if_neg hq]at h))
theorem dN{b:Bool}{X W:Option ρ}(h:(if b=true then X else W)=some r)(hn:Nx2 ops S Z listed i ⟨some d,op,t,pos,af,g⟩)(hg:jk ops fs g=true)(hp:xd op=true)(hd:Nat.blt d n=true)
  (hy:Y P op t n fs Z (.bool b)) (k1:b=true→X=some r→V2 P ops Q n S (listed.setIfInBounds i true) k C ((d,.bool true)::fs)) (k2 : ¬b=true→W=some r→V2 P ops Q n S (listed.setIfInBounds i true) k C ((d,.bool false)::fs)) :
  V2 P ops Q n S listed (k+1) C fs:=by
 cases b with
 | true=>exact eT hn hg hp hd hy (k1 rfl h)
 | false=>exact eT hn hg hp hd hy (k2 (by simp) (by simpa using h))
theorem fw{X W:Option ρ}{b:Bool}{q:Nat}(h:(if b=true then X else W)=some r)(hv:look fs q=some (.bool b))(k1:X=some r→V2 P ops Q n S listed k C ((q,.bool true)::fs))(k2:W=some r→V2 P ops Q n S listed k C ((q,.bool false)::fs)):V2 P ops Q n S listed k C fs:=by
 cases b with
 | true=>exact fun a w hs hc hd=>k1 h a w (hs.again hv) hc hd
 | false=>exact fun a w hs hc hd=>k2 (by simpa using h) a w (hs.again hv) hc hd
end
def KV2(P:Program)(ops:Array Oper)(Q:Exit→Act→World→Prop)(S:Array Bool→World→Prop)(k:Nat)(L:Array Bool):Exit→Act→World→Prop:=
 KG fun a w=>S L w∧ku P .any ops (NoPanic Q) S k L a w
theorem dQ{rs:List Nat}(hr:Region.ready .any ops listed=rs)(hne:rs≠[])(h:∀i∈rs,∃o,ops[i]?=some o∧L P ops (KV2 P ops Q S k (listed.setIfInBounds i true)) n C [o] fs):V2 P ops Q n S listed (k+1) C fs:=by
 intro a w hs hc hb
 refine⟨fun h0=>absurd (hr▸h0) hne,fun i hi=>?_⟩
 rw[hr]at hi
 obtain⟨o,ho,hl⟩:=h i hi
 exact qfK ho (hl a w hs hc)
theorem fp{o:Oper}(hr:Region.ready .any ops listed=[i])(hi:ops[i]?=some o)(h:L P ops (KV2 P ops Q S k (listed.setIfInBounds i true)) n C [o] fs):V2 P ops Q n S listed (k+1) C fs:=
 dQ hr (by nofun) fun j hj=>by rw[List.mem_singleton]at hj;subst hj;exact⟨o,hi,h⟩
theorem cE{i1 i2:Nat}{o1 o2:Oper}(hr:Region.ready .any ops listed=[i1,i2])(h1:ops[i1]?=some o1)(h2:ops[i2]?=some o2)(k1:L P ops (KV2 P ops Q S k (listed.setIfInBounds i1 true)) n C [o1] fs)(k2:L P ops (KV2 P ops Q S k (listed.setIfInBounds i2 true)) n C [o2] fs) :
  V2 P ops Q n S listed (k+1) C fs:=
 dQ hr (by nofun) fun j hj=>by
  simp only[List.mem_cons,List.not_mem_nil,or_false]at hj
  rcases hj with rfl|rfl
  ·exact⟨o1,h1,k1⟩
  ·exact⟨o2,h2,k2⟩
theorem eI{C':World→Prop}(S':Array Bool→World→Prop)(i:Nat)(hi:listed.getD i false=true)(hS:∀(L:Array Bool) w,L.getD i false=true→S' L w→S L w)(hc:∀w,C' w→S' listed w)(h:V2 P ops Q n S' listed k C' fs):E .normal (KV2 P ops Q S k listed) n C' fs:=
 fun a w hs hw=>⟨rfl,hS _ _ hi (hc w hw),qmH hS k listed a w hi (h a w hs hw (hc w hw))⟩
theorem eV(hr:(Region.ready .any ops listed).isEmpty=true)(h:E .normal Q n C fs):V2 P ops Q n S listed k C fs:=by
 intro a w hs hc hb
 have hr':=List.isEmpty_iff.1 hr
 cases k with
 | zero=>exact⟨hr',h a w hs hc⟩
 | succ k=>exact⟨fun _=>h a w hs hc,by rw[hr'];simp⟩
theorem av{id:Nat}{l:List Oper}(S:Array Bool→World→Prop)(hk:l.length=k)(hm:P.follows .mixedOrders=true)(hdrew:∀w,C w→C { w with drawn:=w.drawn+1 })(hb:∀w,C w→S (Array.replicate k false) w)
  (h:V2 P l.toArray Q n S (Array.replicate k false) k C fs):W P Q n C (.region id l.toArray true) fs:=by
 subst hk
 exact fun a w hs hc=>wp_region_noPanic (wp_region_any hm (qaA _ _ _ _ (by simpa using h a _ hs (hdrew w hc) (hb _ (hdrew w hc)))))
end
section
variable{P:Program}{Q:Exit→Act→World→Prop}{n:Nat}{fs:Fr}{k:Nat}
theorem ax{r:List (List Nat)}{q:List (World→Prop)}{B D Z:World→Prop}{bs bz:List Nat}(h2:∀(L:Array Bool) w,qJ bz L=true→stC r q D L w→Z w)(h:∀w,B w→Z w):∀(L:Array Bool) w,qJ bz L=true→stC (bs::r) (B::q) D L w→Z w:=Zc.on h h2
theorem aA{ops:Array Oper}{S:Array Bool→World→Prop}{C Z:World→Prop}{listed:Array Bool}(bz:List Nat)(hz:∀(L:Array Bool) w,qJ bz L=true→S L w→Z w)(next:(∀(L:Array Bool) w,qJ bz L=true→S L w→Z w)→V2 P ops Q n S listed k C fs):V2 P ops Q n S listed k C fs:=next hz
end
end Go.S
end
section
namespace Go.S
def qiV(vs vs2:Nat→List Value)(n:Nat):Nat→List Value:=fun q=>if q<n then vs q else vs2 (q-n)
theorem qmh(vs vs2:Nat→List Value):qiV vs vs2 0=vs2:=by funext q;simp[qiV]
theorem qmg(vs vs2:Nat→List Value)(n:Nat):qiV vs vs2 (n+1) 0=vs 0:=by simp[qiV]
theorem qkZ(vs vs2:Nat→List Value)(n:Nat):(fun i=>qiV vs vs2 (n+1) (i+1))=qiV (fun i=>vs (i+1)) vs2 n:=by
 funext i
 simp only[qiV]
 by_cases h:i<n
 ·rw[if_pos (by omega),if_pos h]
 ·rw[if_neg (by omega),if_neg h,show i+1-(n+1)=i-n by omega]
section
variable{P:Program}{Q:Exit→Act→World→Prop}{n:Nat}{C:World→Prop}{fs:Fr}{t:TypeId}{ops:Array Oper}{rest:List Oper}{d:Nat}{pos:String}{af:Array Edge}
variable{w0 w:World}{own:List Nat}{m:List As}{x y:Operand}{e te tx ty:TypeId}{i j k kk by' p q s c jj:Nat}{v u V:Value}{o:Nat}
variable{α ρ:Type}{r:ρ}{row:α→List Value→List Value}{sds:α→List Value→List Sd}{vs vs2:Nat→List Value}{l l2:List α}{a:Int}{u0 u1:α}{f:List α→Option ρ}
theorem qel{β:Type}{m:List β}{i:Nat}{x:β}(h:m[i]?=some x):m.set i x=m:=by
 obtain⟨h1,h2⟩:=List.getElem?_eq_some_iff.1 h
 rw[←h2,List.set_getElem_self]
theorem qm6(hc:∀z v,(sds z v).length=c)(hr:idx l a=some u0)(hjj:jj<c):a.toNat*c+jj<(zs sds vs l).length:=by
 have h3:=qax hc vs l a.toNat jj u0 (qf hr).2.2 hjj
 rw[List.getElem?_eq_getElem (l:=sds u0 (vs a.toNat)) (by rw[hc];exact hjj)]at h3
 exact(List.getElem?_eq_some_iff.1 h3).1
theorem Cls.zsPut(hw:Cls w0 own m w){e':TypeId}{k':Nat}{rows:List (List Value)}{L0:List Sd}{v1:List Value}(hp:m[p]?=some (.sl v e' k' rows))(hms:m[s]?=some (.ss L0))(hL:L0=zs sds vs l∨L0=(zs sds vs l).set (a.toNat*c+jj) (Sd.nil 0 0))
  (hc:∀z v,(sds z v).length=c) (hr:idx l a=some u0) (hjj:jj<c) (hsd:sds u1 v1=(sds u0 (vs a.toNat)).set jj ⟨v,e',k',rows⟩):Cls w0 own ((m.set s (.ss (zs sds (vi vs a.toNat v1) (l.set a.toNat u1)))).eraseIdx p) w:=by
 have hi:=qf hr
 have hps:p≠s:=by rintro rfl;rw[hp]at hms;cases hms
 have hzs:=qgB hc vs l a.toNat jj u0 u1 v1 _ hi.2.2 hjj hsd
 have hlt:=qm6 (vs:=vs) hc hr hjj
 rw[hzs]
 rcases hL with rfl|rfl
 ·have h3:∃d,(zs sds vs l)[a.toNat*c+jj]?=some d:=⟨_,List.getElem?_eq_getElem hlt⟩
  obtain⟨d0,h3⟩:=h3
  have h4:=jz h3 (qdJ 0 0)
  have h5:=hw.ssLess hms (l':=(zs sds vs l).set (a.toNat*c+jj) (Sd.nil 0 0)) (fun b hb=>h4.mem_iff.1 (List.mem_append_right _ hb)) (fun hnd=>(List.nodup_append.1 (h4.nodup_iff.2 hnd)).2.1) (fun hh d hd=>by
   rcases List.mem_or_eq_of_mem_set hd with h6|rfl
   ·exact hh d h6
   ·exact vd w 0 0)
  have h6:=h5.ssIn (p:=p) (s:=s) (i:=a.toNat*c+jj) (e':=0) (k':=0) (by rw[List.getElem?_set_ne (Ne.symm hps)];exact hp) (by rw[List.getElem?_set_self ((List.getElem?_eq_some_iff.1 hms).1)]) hps hlt
  rwa [List.set_set]at h6
 ·exact hw.ssIn hp hms hps hlt
def rng(n:Nat)(a:Int):Option Unit:=if 0≤a∧a<n then some () else none
def qoU{α:Type}(n:Nat)(l:List α)(a b:Int):Option α:=if 0≤a∧0≤b∧b<n then idx l (a*n+b) else none
end
end Go.S
end
section
namespace Go.S
section
variable{P:Program}{Q:Exit→Act→World→Prop}{n:Nat}{C:World→Prop}{fs:Fr}{t:TypeId}{ops:Array Oper}{rest:List Oper}{d:Nat}{pos:String}{af:Array Edge}
variable{w0 w:World}{own:List Nat}{m:List As}{x y:Operand}{e te tx ty:TypeId}{i j k kk by' q s c g cap N a b:Nat}{v u V:Value}{rows more news:List (List Value)}
abbrev rv(g N cap:Nat):Value:=.slice (some ⟨g,0,none⟩) N cap
theorem Cls.row(hw:Cls w0 own m w)(hm:m[i]?=some (.sl v e k rows))(h0:rows≠[]):∃g cap,v=rv g rows.length cap∧rows.length≤cap∧cap≤maxLen:=by
 obtain⟨_,_,hown⟩:=hw.get hm
 rcases hown with⟨_,h⟩|⟨g,cap,cur,hv,_,_,hnc,hcm,_,_⟩
 ·exact absurd (List.length_eq_zero_iff.1 h) h0
 ·exact⟨g,cap,hv,hnc,hcm⟩
end
end Go.S
end
section
namespace Go.S
def qoe{α:Type}(l:List α)(a b:Int):Option (List α):=if 0≤a∧a<b∧b≤l.length∧l.length≤1000000000 then some (l.take a.toNat++l.drop b.toNat) else none
def qod{α:Type}(l:List α)(a:Int)(x:α):Option (List α):=if 0≤a∧a≤l.length∧l.length≤1000000000 then some (l.take a.toNat++[x]++l.drop a.toNat) else none
def qo1{α:Type}(P:Program)(f:FuncId)(e:TypeId)(k:Nat)(row:α→List Value):Prop:=
 ∀(l:List α) (g cap a b:Nat) (w:World),a<b→b≤l.length→l.length≤cap→l.length≤1000000000→Cls w [g] [.sl (rv g l.length cap) e k (l.map row)] w →
  Calls P f [rv g l.length cap,.int .i64 (a:Nat),.int .i64 (b:Nat)].toArray w fun en w'=>∃v',en=.returned v'∧Cls w [g] [.sl v' e k ((l.take a++l.drop b).map row)] w'
structure qo0{α:Type}(P:Program)(f:FuncId)(e:TypeId)(k:Nat)(row:α→List Value):Prop where
 fin:∀(l:List α) (x:α) (g cap a:Nat) (v:Value) (w:World) (b:Nat),w.heap[b]?=some (.cells (row x).toArray e (0,0))→b≠g→a=l.length→l.length≤1000000000→Cls w [g] [.sl v e k (l.map row)] w →
  Calls P f [v,.int .i64 (a:Nat),sv b 1].toArray w fun en w'=>∃v',en=.returned v'∧Cls w [g] [.sl v' e k ((l.take a++[x]++l.drop a).map row)] w'
 mid:∀(l:List α) (x:α) (g cap a:Nat) (v:Value) (w:World) (b:Nat),w.heap[b]?=some (.cells (row x).toArray e (0,0))→b≠g→a<l.length→l.length≤cap→l.length≤1000000000→Cls w [g] [.sl (rv g l.length cap) e k (l.map row)] w →
  Calls P f [rv g l.length cap,.int .i64 (a:Nat),sv b 1].toArray w fun en w'=>∃v',en=.returned v'∧Cls w [g] [.sl v' e k ((l.take a++[x]++l.drop a).map row)] w'
section
variable{P:Program}{Q:Exit→Act→World→Prop}{n:Nat}{C:World→Prop}{fs:Fr}{t:TypeId}{ops:Array Oper}{rest:List Oper}{d:Nat}{pos:String}{af:Array Edge}
variable{w0 w w':World}{own:List Nat}{m:List As}{x y z:Operand}{e tx:TypeId}{i j k by' g N cap:Nat}{v u v':Value}{rows rows':List (List Value)}{f:FuncId}{ts:Array TypeId}
def qoQ(v1 v2:Value):Nat→List Value
 | 0=>[v1]
 | _=>[v2]
end
end Go.S
end
section
namespace Go.S
def held(c:List Ob)(w:World):Prop:=∀o∈c,w.heap[o.b]?=some (.cells o.c.toArray o.e (0,0))
def Fz(K:World→Prop)(c:List Ob)(v:Value)(k:Nat)(rows:List (List Value)):Prop:=∀w,K w→held c w→At w v k rows
def Stb(K:World→Prop)(w:World):Prop:=∀w',RowKit.Below w.heap.size w w'→K w'
def Kn(K:World→Prop)(c:List Ob)(w:World):Prop:=K w∧held c w
def Mo(c c':List Ob):Prop:=∀w,held c' w→held c w
section
variable{K:World→Prop}{c c':List Ob}{v u:Value}{k:Nat}{rows:List (List Value)}{w0 w w':World}{own:List Nat}{m:List As}{e:TypeId}{i j s:Nat}
theorem Fz.up(h:Fz K [] v k rows):Fz K c v k rows:=fun w hk _=>h w hk (by intro o ho;cases ho)
theorem Fz.nil:Fz K c (.slice none 0 0) k []:=fun w _ _=>At.nil w k
section
variable{α:Type}{g:α→List Value}{l z:List α}{lo hi:Int}
theorem Fz.cutM(hA:Fz K c v k (l.map g))(h:cut l 0 hi=some z):Fz K c (qdX v hi.toNat) k (z.map g):=fun w hk hc=>(hA w hk hc).cutM h
theorem Fz.dropM(hA:Fz K c v k (l.map g))(h:cut l lo l.length=some z):Fz K c (zh v lo.toNat k) k (z.map g):=fun w hk hc=>(hA w hk hc).dropM h
theorem Fz.midM(hA:Fz K c v k (l.map g))(h:cut l lo hi=some z):Fz K c (zh (qdX v hi.toNat) lo.toNat k) k (z.map g):=fun w hk hc=>(hA w hk hc).midM h
end
def FzA(K:World→Prop)(c:List Ob)(L:List Sd):Prop:=∀d∈L,Fz K c d.v d.k d.rows
theorem FzA.up{L:List Sd}(h:FzA K [] L):FzA K c L:=fun d hd=>(h d hd).up
theorem FzA.nil:FzA K c []:=fun d hd=>by cases hd
theorem FzA.cons{d:Sd}{L:List Sd}(h:Fz K c d.v d.k d.rows)(hL:FzA K c L):FzA K c (d::L):=List.forall_mem_cons.2 ⟨h,hL⟩
theorem FzA.app{L L':List Sd}(h:FzA K c L)(h':FzA K c L'):FzA K c (L++L'):=fun d hd=>by
 rcases List.mem_append.1 hd with h1|h1
 ·exact h d h1
 ·exact h' d h1
theorem FzA.at{α:Type}{sds:α→List Value→List Sd}{vs:Nat→List Value}{l:List α}{a:Int}{u0:α}(hd:FzA K c (zs sds vs l)){nl:Nat}(hc:∀z v,(sds z v).length=nl)(hr:idx l a=some u0)(hj:(sds u0 (vs a.toNat))[j]?=some ⟨v,e,k,rows⟩):Fz K c v k rows:=fun w hk hh =>
 zAt (fun d hd'=>hd d hd' w hk hh) hc hr hj
theorem Mo.refl:Mo c c:=fun _ h=>h
theorem Mo.trans{c1 c2 c3:List Ob}(h:Mo c1 c2)(h':Mo c2 c3):Mo c1 c3:=fun w hw=>h w (h' w hw)
end
section
variable{K:World→Prop}{c c':List Ob}{P:Program}{Q:Exit→Act→World→Prop}{n:Nat}{C:World→Prop}{fs:Fr}{t:TypeId}{ops:Array Oper}{rest:List Oper}{d:Nat}{pos:String}{af:Array Edge}
variable{w0 w:World}{own:List Nat}{m:List As}{x y z:Operand}{e te tx ty:TypeId}{i j k kk by' p q s b:Nat}{v u:Value}{rows:List (List Value)}
variable{α ρ:Type}{r:ρ}{row:α→List Value→List Value}{sds:α→List Value→List Sd}{vs vs2:Nat→List Value}{l l2:List α}{a:Int}{u0 u1:α}{f:List α→Option ρ}
def PlZ(row:α→List Value→List Value)(sds:α→List Value→List Sd):Prop:=∀x v,(∀d∈sds x v,d.v.oneCell'=true)→∀u∈row x v,u.oneCell'=true
def Sd.as(d:Sd):As:=.sl d.v d.e d.k d.rows
structure Rw(k:Nat) where
 r:List Value
 len:r.length=k
 one:∀u∈r,u.oneCell'=true
def qos(vs:Nat→List Value)(n:Nat):Nat→List Value:=vs
def zsd{α:Type}(sds:α→List Value→List Sd)(vs:Nat→List Value)(l:List α)(j:Nat):List Sd:=zs sds (fun q=>vs (q+j)) (l.drop j)
end
end Go.S
end
section
namespace Go.S
def wP{α0 α1 α2 α3 ρ:Type}(o:Option (α0×α1×α2×α3))(f:α0→α1→α2→α3→Option ρ):Option ρ:=match o with
 | some (x0,x1,x2,x3)=>f x0 x1 x2 x3
 | none=>none
@[simp] theorem qH{α0 α1 α2 α3 ρ:Type}(x0:α0)(x1:α1)(x2:α2)(x3:α3)(f:α0→α1→α2→α3→Option ρ):wP (some (x0,x1,x2,x3)) f=f x0 x1 x2 x3:=rfl
theorem qmu{α0 α1 α2 α3 ρ:Type}{o:Option (α0×α1×α2×α3)}{f:α0→α1→α2→α3→Option ρ}{r:ρ}(h:wP o f=some r):∃x0 x1 x2 x3,o=some (x0,x1,x2,x3)∧f x0 x1 x2 x3=some r:=by
 cases o with
 | none=>cases h
 | some z=>obtain⟨x0,x1,x2,x3⟩:=z;exact⟨x0,x1,x2,x3,rfl,h⟩
def vG{α0 α1 α2 α3 α4 ρ:Type}(o:Option (α0×α1×α2×α3×α4))(f:α0→α1→α2→α3→α4→Option ρ):Option ρ:=match o with
 | some (x0,x1,x2,x3,x4)=>f x0 x1 x2 x3 x4
 | none=>none
@[simp] theorem qu{α0 α1 α2 α3 α4 ρ:Type}(x0:α0)(x1:α1)(x2:α2)(x3:α3)(x4:α4)(f:α0→α1→α2→α3→α4→Option ρ):vG (some (x0,x1,x2,x3,x4)) f=f x0 x1 x2 x3 x4:=rfl
theorem qmt{α0 α1 α2 α3 α4 ρ:Type}{o:Option (α0×α1×α2×α3×α4)}{f:α0→α1→α2→α3→α4→Option ρ}{r:ρ}(h:vG o f=some r):∃x0 x1 x2 x3 x4,o=some (x0,x1,x2,x3,x4)∧f x0 x1 x2 x3 x4=some r:=by
 cases o with
 | none=>cases h
 | some z=>obtain⟨x0,x1,x2,x3,x4⟩:=z;exact⟨x0,x1,x2,x3,x4,rfl,h⟩
def qny{α0 α1 α2 α3 α4 α5 ρ:Type}(o:Option (α0×α1×α2×α3×α4×α5))(f:α0→α1→α2→α3→α4→α5→Option ρ):Option ρ:=match o with
 | some (x0,x1,x2,x3,x4,x5)=>f x0 x1 x2 x3 x4 x5
 | none=>none
@[simp] theorem qlu{α0 α1 α2 α3 α4 α5 ρ:Type}(x0:α0)(x1:α1)(x2:α2)(x3:α3)(x4:α4)(x5:α5)(f:α0→α1→α2→α3→α4→α5→Option ρ):qny (some (x0,x1,x2,x3,x4,x5)) f=f x0 x1 x2 x3 x4 x5:=rfl
def qnx{α0 α1 α2 α3 α4 α5 α6 ρ:Type}(o:Option (α0×α1×α2×α3×α4×α5×α6))(f:α0→α1→α2→α3→α4→α5→α6→Option ρ):Option ρ:=match o with
 | some (x0,x1,x2,x3,x4,x5,x6)=>f x0 x1 x2 x3 x4 x5 x6
 | none=>none
@[simp] theorem qlt{α0 α1 α2 α3 α4 α5 α6 ρ:Type}(x0:α0)(x1:α1)(x2:α2)(x3:α3)(x4:α4)(x5:α5)(x6:α6)(f:α0→α1→α2→α3→α4→α5→α6→Option ρ):qnx (some (x0,x1,x2,x3,x4,x5,x6)) f=f x0 x1 x2 x3 x4 x5 x6:=rfl
def qnw{α0 α1 α2 α3 α4 α5 α6 α7 ρ:Type}(o:Option (α0×α1×α2×α3×α4×α5×α6×α7))(f:α0→α1→α2→α3→α4→α5→α6→α7→Option ρ):Option ρ:=match o with
 | some (x0,x1,x2,x3,x4,x5,x6,x7)=>f x0 x1 x2 x3 x4 x5 x6 x7
 | none=>none
@[simp] theorem qls{α0 α1 α2 α3 α4 α5 α6 α7 ρ:Type}(x0:α0)(x1:α1)(x2:α2)(x3:α3)(x4:α4)(x5:α5)(x6:α6)(x7:α7)(f:α0→α1→α2→α3→α4→α5→α6→α7→Option ρ):qnw (some (x0,x1,x2,x3,x4,x5,x6,x7)) f=f x0 x1 x2 x3 x4 x5 x6 x7:=rfl
def StbF(K:World→Prop)(w:World)(F:List Nat):Prop:=∀w',w'.os=w.os→w'.tape=w.tape→w'.output=w.output→w.heap.size≤w'.heap.size→(∀k,k<w.heap.size→k∉F→w'.heap[k]?=w.heap[k]?)→K w'
section
variable{K:World→Prop}{c c':List Ob}{v u:Value}{k:Nat}{rows:List (List Value)}{w0 w w':World}{own:List Nat}{m m' A A' M:List As}{e:TypeId}{i j s:Nat}
theorem Stb.f(h:Stb K w):StbF K w []:=fun w' h1 h2 h3 h4 h5=>h w' ⟨h1,h2,h3,h4,fun q hq=>h5 q hq (by simp)⟩
theorem Cls.lent_no(hw:Cls w0 own (A++M) w){q:Nat}(hq:q<w0.heap.size)(ho:q∉own):q∉A.flatMap As.foot:=by
 intro h
 obtain⟨x,hx,hb⟩:=List.mem_flatMap.1 h
 rcases(hw.mine x (List.mem_append_left _ hx)).2 q hb with h1|h1
 ·omega
 ·exact ho h1
theorem StbF.lend(hK:StbF K w0 own)(hw:Cls w0 own (A++M) w):StbF K w (A.flatMap As.foot):=fun w' h1 h2 h3 h4 h5 =>
 hK w' (h1.trans hw.os) (h2.trans hw.tape) (h3.trans hw.output) (Nat.le_trans hw.size h4) fun q hq ho=>by
  rw[h5 q (Nat.lt_of_lt_of_le hq hw.size) (hw.lent_no hq ho),hw.old q hq ho]
theorem Cls.lend(hw:Cls w0 own (A++M) w):Cls w (A.flatMap As.foot) A w:=by
 have hn:=hw.nodup
 rw[List.flatMap_append,List.nodup_append]at hn
 exact⟨rfl,rfl,rfl,DR.refl _,Nat.le_refl _,fun _ _ _=>rfl,hn.1,fun x hx=>⟨(hw.mine x (List.mem_append_left _ hx)).1,fun b hb=>.inr (List.mem_flatMap.2 ⟨x,hx,hb⟩)⟩⟩
theorem Cls.back(hw:Cls w0 own (A++M) w)(h:Cls w (A.flatMap As.foot) A' w'):Cls w0 own (A'++M) w':=by
 have hn:=hw.nodup
 rw[List.flatMap_append,List.nodup_append]at hn
 have hM:∀b∈M.flatMap As.foot,b<w.heap.size∧b∉A.flatMap As.foot:=fun b hb =>
  ⟨hw.foot_lt b (by rw[List.flatMap_append];exact List.mem_append_right _ hb),fun ha=>hn.2.2 b ha b hb rfl⟩
 refine⟨h.os.trans hw.os,h.tape.trans hw.tape,h.output.trans hw.output,DR.trans hw.dr h.dr,Nat.le_trans hw.size h.size,fun q hq ho=>?_,?_,fun x hx=>?_⟩
 ·rw[h.old q (Nat.lt_of_lt_of_le hq hw.size) (hw.lent_no hq ho),hw.old q hq ho]
 ·rw[List.flatMap_append,List.nodup_append]
  refine⟨h.nodup,hn.2.1,fun a ha b hb hab=>?_⟩
  subst hab
  obtain⟨h1,h2⟩:=hM a hb
  obtain⟨x,hx,hax⟩:=List.mem_flatMap.1 ha
  rcases(h.mine x hx).2 a hax with h3|h3
  ·omega
  ·exact h2 h3
 ·rcases List.mem_append.1 hx with hx|hx
  ·refine⟨(h.mine x hx).1,fun b hb=>?_⟩
   rcases(h.mine x hx).2 b hb with h3|h3
   ·exact .inl (Nat.le_trans hw.size h3)
   ·obtain⟨y,hy,hby⟩:=List.mem_flatMap.1 h3
    exact(hw.mine y (List.mem_append_left _ hy)).2 b hby
  ·have hxm:=hw.mine x (List.mem_append_right _ hx)
   refine⟨As.holds_congr hxm.1 fun b hb=>?_,hxm.2⟩
   obtain⟨h1,h2⟩:=hM b (List.mem_flatMap.2 ⟨x,hx,hb⟩)
   exact h.old b h1 h2
end
def qz(P:Program)(f:FuncId)(vs:List Value)(F:List Nat)(w:World)(R:Value→List As→Prop):Prop:=Calls P f vs.toArray w fun e w'=>∃v m,e=.returned v∧R v m∧Cls w F m w'
section
variable{K:World→Prop}{c c':List Ob}{P:Program}{Q:Exit→Act→World→Prop}{n:Nat}{fs:Fr}{t:TypeId}{ops:Array Oper}{rest:List Oper}{d:Nat}{pos:String}{af:Array Edge}
variable{w0 w:World}{own:List Nat}{m A M:List As}{x y z:Operand}{e te tx ty:TypeId}{i j k kk by' p q s b:Nat}{v u:Value}{rows:List (List Value)}
theorem aV{f:FuncId}{xs:List Operand}{ts:Array TypeId}{vs:List Value}{R:Value→List As→Prop}(hd:Nat.blt d n=true)(he:kn P f=true)(hx:vals fs xs=some vs)
  (hc:∀w,Cls w0 own (A++M) w→qz P f vs (A.flatMap As.foot) w R) (next:∀v m',R v m'→L P ops Q n (Cls w0 own (m'++M)) rest ((d,v)::fs)):L P ops Q n (Cls w0 own (A++M)) (⟨some d,.call ⟨.value (.func f),xs.toArray,ts⟩,t,pos,af,none⟩::rest) fs:=by
 refine L.call (R:=fun v w'=>∃m',R v m'∧Cls w0 own (m'++M) w') hd he hx (fun w hw=>Calls.mono (hc w hw) ?_) fun v=>fJ fun m'=>?_
 ·rintro e w' ⟨v,m',rfl,hv,hcl⟩
  exact⟨v,rfl,m',hv,hw.back hcl⟩
 ·rintro a w hs ⟨hr,hcl⟩
  exact next v m' hr a w hs hcl
variable{α ρ:Type}{r:ρ}{row:α→List Value→List Value}{sds:α→List Value→List Sd}{vs vs2:Nat→List Value}{l l2:List α}{a:Int}{u0 u1:α}{f:List α→Option ρ}
end
end Go.S
end
section
namespace Go.S
open Go.Sort
def srt(l:List Int):List Int:=l.mergeSort fun x y=>decide (x≤y)
def qfI(l:List Int):Option (List Int):=if l.length<4611686018427387904 then some (srt l) else none
theorem qfH{l r:List Int}(h:qfI l=some r):l.length<4611686018427387904∧r=srt l:=by
 unfold qfI at h
 split at h
 ·simp only[Option.some.injEq]at h;exact⟨by assumption,h.symm⟩
 ·cases h
structure qld(P:Program)(f:FuncId):Prop where
 some':∀(blk off cap:Nat) (zs:List Int) (w:World),Go.Sort.Holds (Value.int .i64) w blk off zs.toArray→blk<w.heap.size→zs.length<4611686018427387904 →
  Calls P f #[.slice (some ⟨blk,off,none⟩) zs.length cap] w fun e w'=>e=.returned (.tuple #[])∧∃n os,w'=grow (Go.Sort.putRow (Value.int .i64) (Sort.ahead w n) blk off (zs.mergeSort fun x y=>decide (x≤y)).toArray) os
 none':∀(p:Option Addr) (cap:Nat) (w:World),Calls P f #[.slice p 0 cap] w fun e w'=>e=.returned (.tuple #[])∧w'=w
theorem yr:∀l:List Int,(l.map I).flatten=l.map (Value.int .i64)
 | []=>rfl
 | x::l=>by simp only[List.map_cons,List.flatten_cons,yr l];rfl
section
variable{P:Program}{Q:Exit→Act→World→Prop}{n:Nat}{fs:Fr}{t:TypeId}{ops:Array Oper}{rest:List Oper}{d:Nat}{pos:String}{af:Array Edge}
variable{w0:World}{own:List Nat}{m:List As}{x:Operand}{e:TypeId}{i:Nat}{v:Value}{l:List Int}{f:FuncId}{ts:Array TypeId}
theorem qaD(l:List Int):(srt l).length=l.length:=by unfold srt;exact List.length_mergeSort l
theorem Cls.grown{w:World}(h:Cls w0 own m w)(os:Array Obj):Cls w0 own m (grow w os):=by
 have h':Cls w [] [] (grow w os):=⟨rfl,rfl,rfl,DR.refl w,by simp[grow],fun k hk _=>heap_grow_old w os hk,by simp,fun x hx=>by cases hx⟩
 have:=h.call h'
 simpa using this
theorem Cls.sorted{w:World}(h:Cls w0 own m w)(hm:m[i]?=some (.sl v e 1 (l.map I)))(hS:qld P f)(hl:l.length<4611686018427387904) :
  Calls P f #[v] w fun en w'=>en=.returned (.tuple #[])∧Cls w0 own (m.set i (.sl v e 1 ((srt l).map I))) w':=by
 obtain⟨hr,hln,h3⟩:=h.get hm
 rcases h3 with⟨rfl,hn⟩|⟨g,cap,cur,rfl,hg,hh,hnc,hcm,hcs,htk⟩
 ·have h0:l=[]:=by simpa using hn
  subst h0
  refine Calls.mono (hS.none' none 0 w) ?_
  rintro en w' ⟨rfl,rfl⟩
  refine⟨rfl,?_⟩
  have:(As.sl (.slice none 0 0) e 1 ((srt []).map I))=As.sl (.slice none 0 0) e 1 (([]:List Int).map I):=by simp[srt]
  rw[this]
  obtain⟨h1,h2⟩:=List.getElem?_eq_some_iff.1 hm
  rw[←h2,List.set_getElem_self]
  exact h
 ·rw[List.length_map,Nat.mul_one,yr]at htk
  rw[List.length_map]at hnc
  have hgl:g<w.heap.size:=(Array.getElem?_eq_some_iff.1 hh).1
  rw[List.length_map]
  refine Calls.mono (hS.some' g 0 cap l w (holds_of_blockI hh htk) hgl hl) ?_
  rintro en w' ⟨rfl,q,os,rfl⟩
  refine⟨rfl,Cls.grown ?_ os⟩
  have hsz:cur.size=cap*1:=hcs
  refine h.turn hm rfl rfl rfl rfl (by simp) (Nat.le_add_right _ _) (fun k hk=>?_) ⟨fun r hr=>?_,?_⟩
  ·have:=(grownBy_sortedI (w:=w) (g:=g) (n:=q) (os:=#[]) (srt l).toArray)
   rw[grow_empty]at this
   have hne:k≠g:=by
    intro hkg
    exact hk (by simp[As.foot,Value.ownBlock,hkg])
   simp[Go.Sort.putRow,Go.Sort.mapBlock,Sort.ahead,Array.getElem?_modify,Ne.symm hne]
  ·obtain⟨z,_,rfl⟩:=List.mem_map.1 hr;rfl
  ·have:=ownsRow_sortedI (w:=w) (base:=0) (g:=g) (cap:=cap) (n:=q) (e:=e) (os:=#[]) (cur:=cur) (ss:=l) (ts:=srt l) (qaD l) (Nat.zero_le _) hh hnc hcm hsz
   rw[grow_empty]at this
   rw[List.length_map,yr,qaD]
   exact this
theorem ej{ρ:Type}{r:ρ}{F:List Int→Option ρ}(h:qb (qfI l) F=some r)(hS:qld P f)(hd:Nat.blt d n=true)(he:kn P f=true)(hx:val fs x=some v)(hm:m[i]?=some (.sl v e 1 (l.map I)))
  (next:∀z,qfI l=some z→F z=some r→L P ops Q n (Cls w0 own (m.set i (.sl v e 1 (z.map I)))) rest ((d,.tuple #[])::fs)):L P ops Q n (Cls w0 own m) (⟨some d,.call ⟨.value (.func f),#[x],ts⟩,t,pos,af,none⟩::rest) fs:=by
 obtain⟨z,hz,h⟩:=qq h
 obtain⟨hl,rfl⟩:=qfH hz
 intro a w hs hw
 have hrun:(execOp a.eval ⟨some d,.call ⟨.value (.func f),#[x],ts⟩,t,pos,af,none⟩).run P w=.ok (.enter f #[v]) w:=qcq (xs:=[x]) (vs:=[v]) he (by simp[vals,hx]) hs w (some d)
 simp only[wpList,Region.wanted,if_true]
 refine .inl ?_
 unfold Oper.wp
 rw[hrun]
 refine(hw.sorted hm hS hl).mono ?_
 rintro en w' ⟨rfl,hc⟩
 exact next _ hz h _ w' (hs.put hd _) hc
end
end Go.S
end
section
namespace Go.S
open Go.Sort
def qmK(l:List Int):Option (List Int):=if l.length<4611686018427387904 then some (Lib.compact l) else none
structure qoK(P:Program)(f:FuncId):Prop where
 some':∀(blk off cap:Nat) (zs:List Int) (w:World),Go.Sort.Holds (Value.int .i64) w blk off zs.toArray→zs.length≤9223372036854775807→zs.length≤cap →
  Calls P f #[.slice (some ⟨blk,off,none⟩) zs.length cap] w fun e w'=>e=.returned (.slice (some ⟨blk,off,none⟩) (Lib.compact zs).length cap)∧∃q,w'=Go.Sort.putRow (Value.int .i64) (Sort.ahead w q) blk off (Lib.compact zs++List.replicate (zs.length-(Lib.compact zs).length) 0).toArray
 none':∀(p:Option Addr) (cap:Nat) (w:World),Calls P f #[.slice p 0 cap] w fun e w'=>e=.returned (.slice p 0 cap)∧w'=w
section
variable{P:Program}{Q:Exit→Act→World→Prop}{n:Nat}{fs:Fr}{t:TypeId}{ops:Array Oper}{rest:List Oper}{d:Nat}{pos:String}{af:Array Edge}
variable{w0:World}{own:List Nat}{m:List As}{x:Operand}{e:TypeId}{i:Nat}{v:Value}{l:List Int}{f:FuncId}{ts:Array TypeId}
end
end Go.S
end
section
namespace Go.S
open Go.Sort
def qoL(l:List Int)(i j:Int):Option (List Int):=if 0≤i∧i<j∧j≤l.length∧l.length<4611686018427387904 then some (l.take i.toNat++l.drop j.toNat) else none
def qo2(P:Program)(f:FuncId):Prop:=
 ∀(blk off cap i j:Nat) (zs:List Int) (w:World),Go.Sort.Holds (Value.int .i64) w blk off zs.toArray→zs.length≤cap→cap≤9223372036854775807→i≤j→j≤zs.length →
  Calls P f #[.slice (some ⟨blk,off,none⟩) zs.length cap,.int .i64 i,.int .i64 j] w fun e w'=>e=.returned (.slice (some ⟨blk,off,none⟩) (zs.length-(j-i)) cap)∧∃q,w'=Go.Sort.putRow (Value.int .i64) (Sort.ahead w q) blk off (zs.take i++zs.drop j++List.replicate (j-i) 0).toArray
section
variable{P:Program}{Q:Exit→Act→World→Prop}{n:Nat}{fs:Fr}{t:TypeId}{ops:Array Oper}{rest:List Oper}{d:Nat}{pos:String}{af:Array Edge}
variable{w0:World}{own:List Nat}{m:List As}{x y z:Operand}{e:TypeId}{i:Nat}{v:Value}{l:List Int}{f:FuncId}{ts:Array TypeId}{a b:Int}
end
end Go.S
end
section
namespace Go.S
section lists
variable{α:Type}{row:α→List Value}{e:TypeId}
def zp(g:Nat→Nat):List α→List (List Value)
 | []=>[]
 | _::l=>[pt (g 0) 0]::zp (fun i=>g (i+1)) l
def zo(row:α→List Value)(e:TypeId)(g:Nat→Nat):List α→List Ob
 | []=>[]
 | x::l=>⟨g 0,row x,e⟩::zo row e (fun i=>g (i+1)) l
def qgv(g:Nat→Nat)(n b:Nat):Nat→Nat:=fun q=>if q<n then g q else b
theorem qmd(g:Nat→Nat)(b:Nat):qgv g 0 b=fun _=>b:=by funext q;simp[qgv]
theorem qmc(g:Nat→Nat)(n b:Nat):qgv g (n+1) b 0=g 0:=by simp[qgv]
theorem qkY(g:Nat→Nat)(n b:Nat):(fun i=>qgv g (n+1) b (i+1))=qgv (fun i=>g (i+1)) n b:=by
 funext i
 simp only[qgv]
 by_cases h:i<n
 ·rw[if_pos (by omega),if_pos h]
 ·rw[if_neg (by omega),if_neg h]
end lists
section
variable{P:Program}{Q:Exit→Act→World→Prop}{n:Nat}{C:World→Prop}{fs:Fr}{t:TypeId}{ops:Array Oper}{rest:List Oper}{d:Nat}{pos:String}{af:Array Edge}
variable{w0 w:World}{own:List Nat}{m:List As}{x y:Operand}{e te tx ty:TypeId}{i j k kk by' p q s c:Nat}{v u V:Value}{o b:Nat}
variable{α ρ:Type}{r:ρ}{row:α→List Value}{g:Nat→Nat}{l:List α}{a:Int}{u0 u1:α}{f:List α→Option ρ}
def VF(x:Int):Value:=.func (.func x.toNat) #[] #[]
end
end Go.S
end
section
namespace Go.S
def nxt{α ρ:Type}[DecidableEq ρ](l:List α)(A:Option ρ)(B:α→List α→Option ρ):Option ρ:=match l with
 | []=>A
 | p::q=>if(List.range (q.length+1)).all (fun j=>match(p::q)[j]? with
   | some x=>decide (B x ((p::q).eraseIdx j)=B p q)
   | none=>true)=true then B p q else none
section
variable{α ρ:Type}[DecidableEq ρ]{l:List α}{A:Option ρ}{B:α→List α→Option ρ}{r:ρ}
@[simp] theorem qkL:nxt [] A B=A:=rfl
theorem qiN(h:nxt l A B=some r):(l=[]→A=some r)∧∀(j:Nat) x,l[j]?=some x→B x (l.eraseIdx j)=some r:=by
 cases l with
 | nil=>exact⟨fun _=>h,fun j x hx=>by simp at hx⟩
 | cons p q =>
  refine⟨fun h=>(by cases h),fun j x hx=>?_⟩
  unfold nxt at h
  simp only at h
  split at h
  ·rename_i hall
   have hj:=(List.getElem?_eq_some_iff.1 hx).1
   have:=List.all_eq_true.1 hall j (List.mem_range.2 (by simpa using hj))
   rw[hx]at this
   simp only[decide_eq_true_eq]at this
   rw[this];exact h
  ·cases h
def qnn{α ρ:Type}[DecidableEq ρ](l:List (Int×α))(A:Option ρ)(B:Int→α→List (Int×α)→Option ρ):Option ρ:=nxt l A fun p q=>B p.1 p.2 q
theorem ql2(hl:l≠[])(hB:∀(j:Nat) x,l[j]?=some x→B x (l.eraseIdx j)=some r):nxt l A B=some r:=by
 cases l with
 | nil=>exact absurd rfl hl
 | cons p q =>
  have h0:=hB 0 p rfl
  simp only[List.eraseIdx_zero,List.tail_cons]at h0
  unfold nxt
  simp only
  rw[if_pos,h0]
  refine List.all_eq_true.2 fun j hj=>?_
  cases hx:(p::q)[j]? with
  | none=>rfl
  | some x=>simp only[decide_eq_true_eq];rw[hB j x hx,h0]
end
section
variable{P:Program}{Q:Exit→Act→World→Prop}{n:Nat}{fs:Fr}{C:World→Prop}{t:TypeId}{ops:Array Oper}{rest:List Oper}{d:Nat}{pos:String}{af:Array Edge}
variable{w0:World}{own:List Nat}{m:List As}{x y z:Operand}{kt et tx:TypeId}{i b:Nat}{l left:List (Int×Value)}{a:Int}{v:Value}
def qoq(a:Int):Value→Bool
 | .int .i64 b=>decide (b=a)
 | _=>false
theorem Cls.range{w:World}(h:Cls w0 own m w)(hm:m[i]?=some (.mp b l)){es:Array MapEntry}{clock:Nat}(hb:w.heap[b]?=some (.map es clock)):Cls w0 own (.mi b w.heap.size l l none::m.eraseIdx i) (w.alloc (.mapIter (some b) clock #[] clock)):=by
 have hbl:b<w.heap.size:=(Array.getElem?_eq_some_iff.1 hb).1
 have hk:∀k,k<w.heap.size→(w.alloc (.mapIter (some b) clock #[] clock)).heap[k]?=w.heap[k]?:=fun k hk=>RowKit.Below.heap_alloc w _ k hk
 have hp:=wF hm
 refine⟨h.os,h.tape,h.output,h.dr,Nat.le_trans h.size (by simp),fun k hk' ho=>?_,?_,fun y hy=>?_⟩
 ·rw[hk k (Nat.lt_of_lt_of_le hk' h.size),h.old k hk' ho]
 ·have h1:(w.heap.size::m.flatMap As.foot).Nodup:=List.nodup_cons.2 ⟨fun hb=>Nat.lt_irrefl _ (h.foot_lt _ hb),h.nodup⟩
  refine List.Perm.nodup (List.Perm.trans (List.Perm.cons _ hp.symm) ?_) h1
  simp only[As.foot,List.flatMap_cons,List.cons_append,List.nil_append]
  exact List.Perm.swap ..
 ·rcases List.mem_cons.1 hy with rfl|hy
  ·obtain⟨es',clock',hb',hst,he⟩:=h.get hm
   rw[hb]at hb'
   obtain⟨rfl,rfl⟩:es=es'∧clock=clock':=by simpa using hb'
   refine⟨⟨es,clock,clock,clock,#[],by rw[hk b hbl];exact hb,hst,he,?_,hst.1,Nat.le_refl _,Nat.le_refl _,?_⟩,fun c hc=>?_⟩
   ·show(w.heap.push _)[w.heap.size]?=_
    simp
   ·exact⟨by rw[List.filter_eq_self.2 (fun e _=>by simp)];exact he,fun _ h=>by cases h⟩
   ·simp only[As.foot,List.mem_cons,List.not_mem_nil,or_false]at hc
    rcases hc with rfl|rfl
    ·exact(h.mine _ (List.mem_of_getElem? hm)).2 _ (by simp[As.foot])
    ·exact .inl h.size
  ·have hy':=List.mem_of_mem_eraseIdx hy
   exact⟨As.holds_congr (h.mine y hy').1 fun b hb=>hk b (As.holds_lt (h.mine y hy').1 b hb),(h.mine y hy').2⟩
theorem em(hd:Nat.blt d n=true)(hu:P.underlying tx=some (.map kt et))(hx:val fs x=some (.map (some b)))(hm:m[i]?=some (.mp b l))
  (next:∀r,L P ops Q n (Cls w0 own (.mi b r l l none::m.eraseIdx i)) rest ((d,pt r 0)::fs)):L P ops Q n (Cls w0 own m) (⟨some d,.range tx x,t,pos,af,none⟩::rest) fs:=
 ct (val':=fun r=>pt r 0) hd (fun a w hs hw=>by
  obtain⟨es,clock,hb,hst,he⟩:=hw.get hm
  refine⟨w.heap.size,_,?_,hw.range hm hb⟩
  simp only[execOp,hs.eval hx]
  simp[run_range_map w tx kt et b es clock hu hb,pt]) next
theorem Cls.miMp{w:World}(h:Cls w0 own m w){r:Nat}{cur:Option (Int×Value)}(hi:m[i]?=some (.mi b r l left cur)):Cls w0 own (m.set i (.mp b l)) w:=by
 have hp:=wu (y:=.mp b l) hi
 simp only[As.foot,List.cons_append,List.nil_append]at hp
 have hp':=(List.perm_cons b).1 hp
 refine h.re (fun c hc=>hp'.mem_iff.1 (List.mem_cons_of_mem _ hc)) (List.nodup_cons.1 (hp'.nodup_iff.2 h.nodup)).2 fun y hy=>?_
 rcases List.mem_or_eq_of_mem_set hy with hy|rfl
 ·exact(h.mine y hy).1
 ·obtain⟨es,clock,_,_,_,h1,h2,h3,_⟩:=h.get hi
  exact⟨es,clock,h1,h2,h3⟩
theorem Cls.miNone{w:World}(h:Cls w0 own m w){r:Nat}{cur:Option (Int×Value)}(hi:m[i]?=some (.mi b r l left cur)):Cls w0 own (m.set i (.mi b r l left none)) w:=by
 obtain⟨es,clock,since,last,seen,h1,h2,h3,h4,h5,h6,h7,h8,_⟩:=h.get hi
 exact h.turn hi rfl rfl rfl rfl rfl (Nat.le_refl _) (fun _ _=>rfl) ⟨es,clock,since,last,seen,h1,h2,h3,h4,h5,h6,h7,h8,fun _ h=>by cases h⟩
theorem yu{es:List MapEntry}(hn:(es.map (·.born)).Nodup){j:Nat}{e:MapEntry}(h:es[j]?=some e):es.filter (fun x=>!(x.born == e.born))=es.eraseIdx j:=by
 induction es generalizing j with
 | nil=>simp at h
 | cons c es ih =>
  rw[List.map_cons,List.nodup_cons]at hn
  cases j with
  | zero =>
   simp only[List.getElem?_cons_zero,Option.some.injEq]at h
   subst h
   have:es.filter (fun x=>!(x.born == c.born))=es:=List.filter_eq_self.2 fun p hp=>by
    have:p.born≠c.born:=fun e=>hn.1 (List.mem_map.2 ⟨p,hp,e⟩)
    simp[this]
   simp[this]
  | succ j =>
   simp only[List.getElem?_cons_succ]at h
   have hc:c.born≠e.born:=fun e'=>hn.1 (List.mem_map.2 ⟨_,List.mem_of_getElem? h,e'.symm⟩)
   simp[hc,ih hn.2 h]
theorem qdC{w:World}{r:Nat}{cur:Option (Int×Value)}(ty:TypeId)(h:Cls w0 own m w)(hi:m[i]?=some (.mi b r l left cur)) :
  (left=[]∧(Instr.next (.pointer (some ⟨r,0,none⟩)) false ty).run P w=.ok (.tuple #[.bool false]) w) ∨
  ∃(j:Nat) (k:Int) (v:Value) (w':World),left[j]?=some (k,v)∧(Instr.next (.pointer (some ⟨r,0,none⟩)) false ty).run P w=.ok (.tuple #[.bool true,.int .i64 k,v]) w'∧Cls w0 own (m.set i (.mi b r l (left.eraseIdx j) (some (k,v)))) w':=by
 obtain⟨es,clock,since,last,seen,hb,hst,he,hr,hold,hsl,hsc,hleft,_⟩:=h.get hi
 have hlf:(leftOf es seen).toList=es.toList.filter fun e=>!seen.contains e.born:=by unfold leftOf;rw[Array.toList_filter]
 have hbr:b≠r:=by rintro rfl;rw[hb]at hr;cases hr
 rcases run_next_at (P:=P) w ty r b since last seen es clock hr hb hold hsl with⟨h1,h2⟩|⟨e,hel,w1,hw1,h2⟩
 ·refine .inl ⟨?_,h2⟩
  have:(es.toList.filter fun e=>!seen.contains e.born)=[]:=by rw[←hlf];simpa using h1
  rw[this]at hleft
  simpa using hleft.symm
 ·rw[hlf]at hel
  obtain⟨j,hj⟩:=List.getElem?_of_mem hel
  have hlj:(left.map kvp)[j]?=some (e.key,e.val):=by rw[←hleft,List.getElem?_map,hj];rfl
  rw[List.getElem?_map]at hlj
  cases hp:left[j]? with
  | none=>rw[hp]at hlj;cases hlj
  | some p =>
   rw[hp]at hlj
   simp only[Option.map_some,Option.some.injEq,kvp,Prod.mk.injEq]at hlj
   obtain⟨e1,e2⟩:=hlj
   have hcl:Cls w0 own m w1:=by
    rcases hw1 with rfl|rfl
    ·exact h
    ·exact h.drew
   have hb1:w1.heap[b]?=some (.map es clock):=by rcases hw1 with rfl|rfl<;>exact hb
   have hrl:r<w1.heap.size:=by
    have:w1.heap[r]?=some (.mapIter (some b) since seen last):=by rcases hw1 with rfl|rfl<;>exact hr
    exact(Array.getElem?_eq_some_iff.1 this).1
   refine .inr ⟨j,p.1,p.2,ChangeMaps.setBlock w1 r (.mapIter (some b) since (seen.push e.born) clock),hp,by rw[h2,←e1,←e2],hcl.turn hi rfl rfl rfl rfl (by simp[ChangeMaps.setBlock]) (Nat.le_refl _) (fun k hk=>?_) ?_⟩
   ·simp only[As.foot,List.mem_cons,List.not_mem_nil,or_false,not_or]at hk
    exact Array.getElem?_setIfInBounds_ne (Ne.symm hk.2)
   ·refine⟨es,clock,since,clock,seen.push e.born,?_,hst,he,by simp[ChangeMaps.setBlock,hrl],hold,hsc,hsc,?_,fun q hq=>⟨rfl,e,(List.mem_filter.1 hel).1,by cases hq;rw[kvp,e1,e2],by simp⟩⟩
    ·show(w1.heap.setIfInBounds r _)[b]?=_
     rw[Array.getElem?_setIfInBounds_ne (Ne.symm hbr)];exact hb1
    ·have hnf:((es.toList.filter fun e=>!seen.contains e.born).map (·.born)).Nodup:=(List.filter_sublist.map _).nodup hst.2.1
     have hfe:=yu hnf hj
     rw[List.filter_filter]at hfe
     have e3:(es.toList.filter fun x=>!(seen.push e.born).contains x.born)=es.toList.filter (fun x=>!(x.born == e.born)&&!seen.contains x.born):=by
      apply List.filter_congr
      intro x _
      rw[contains_push]
      cases seen.contains x.born<;>cases (x.born == e.born)<;>rfl
     rw[e3,hfe,ChangeMaps.map_eraseIdx,hleft,ChangeMaps.map_eraseIdx]
section
variable{α ρ:Type}{g:α→Value}{lm left:List (Int×α)}[DecidableEq ρ]{A:Option ρ}{B:Int→α→List (Int×α)→Option ρ}{r:ρ}{rr:Nat}
theorem ek(hd:Nat.blt d n=true)(hu:P.underlying tx=some (.map kt et))(hx:val fs x=some (.map (some b)))(hm:m[i]?=some (.mp b (zw g lm)))
  (next:∀rr,L P ops Q n (Cls w0 own (.mi b rr (zw g lm) (zw g lm) none::m.eraseIdx i)) rest ((d,pt rr 0)::fs)):L P ops Q n (Cls w0 own m) (⟨some d,.range tx x,t,pos,af,none⟩::rest) fs:=em hd hu hx hm next
theorem fa(h:qnn left A B=some r)(hd:Nat.blt d n=true)(hx:val fs x=some (pt rr 0)){cur:Option (Int×Value)}(hm:m[i]?=some (.mi b rr (zw g lm) (zw g left) cur))
  (k1:A=some r→L P ops Q n (Cls w0 own (m.set i (.mp b (zw g lm)))) rest ((d,.tuple #[.bool false])::fs))
  (k2:∀k v q,B k v q=some r→L P ops Q n (Cls w0 own (m.set i (.mi b rr (zw g lm) (zw g q) (some (k,g v))))) rest ((d,.tuple #[.bool true,.int .i64 k,g v])::fs)) :
  L P ops Q n (Cls w0 own m) (⟨some d,.next x false,t,pos,af,none⟩::rest) fs:=by
 obtain⟨hA,hB⟩:=qiN h
 intro a w hs hw
 simp only[wpList,Region.wanted,if_true]
 refine .inl ?_
 unfold Oper.wp
 simp only[execOp,hs.eval hx,pt]
 rcases qdC (P:=P) t hw hm with⟨h1,h2⟩|⟨j,k,v,w',h1,h2,h3⟩
 ·have hl:left=[]:=by simpa [zw]using h1
  simp only[Sem.run_bind,h2,Result.andThen,Sem.run_pure,Oper.upon]
  exact k1 (hA hl) _ _ (hs.put hd _) (hw.miMp hm)
 ·simp only[zw,List.getElem?_map]at h1
  cases hp:left[j]? with
  | none=>rw[hp]at h1;cases h1
  | some p =>
   rw[hp]at h1
   simp only[Option.map_some,Option.some.injEq,Prod.mk.injEq]at h1
   obtain⟨rfl,rfl⟩:=h1
   simp only[Sem.run_bind,h2,Result.andThen,Sem.run_pure,Oper.upon]
   refine k2 p.1 p.2 (left.eraseIdx j) (hB j p hp) _ _ (hs.put hd _) ?_
   rw[show zw g (left.eraseIdx j)=(zw g left).eraseIdx j from ChangeMaps.map_eraseIdx ..]
   exact h3
theorem d9{k0:Int}{v0:α}{left':List (Int×Value)}(hx:val fs x=some (pt rr 0))(hm:m[i]?=some (.mi b rr (zw g lm) left' (some (k0,g v0)))):Y P (.entry x) t n fs (Cls w0 own m) (.tuple #[.int .i64 k0,g v0]):=
 bE fun d pos af g' s w hs hw=>by
  obtain⟨es,clock,since,last,seen,hb,hst,he,hr,hold,hsl,hsc,hleft,hcur⟩:=hw.get hm
  obtain⟨hlast,e,hem,hek,hback⟩:=hcur _ rfl
  subst hlast
  have hf:es.find? (·.born == e.born)=some e:=by rw[←Array.find?_toList];exact find_born e es.toList hst.2.1 hem
  simp only[kvp,Prod.mk.injEq]at hek
  simp only[execOp,hs.eval hx,pt]
  simp[Instr.entry,getObj,Sem.run,hr,hb,hback,hf,Result.andThen,hek.1,hek.2]
end
end
section
variable{P:Program}{n:Nat}{fs:Fr}{C:World→Prop}{t:TypeId}{x y:Operand}{tx te:TypeId}{α:Type}{row:α→List Value}{l:List α}{k len:Nat}{ik:IntKind}{a:Int}
theorem cB{u:α}{p:Value}(hu:P.underlying tx=some (.array len te))(ha:qP P te false=true)(hs:szB P te 1=true)(hx:val fs x=some (.agg (l.map row).flatten.toArray))(hy:val fs y=some (.int ik a))(hlen:∀z,(row z).length=1)(hr:zd len l a=some u)(hp:row u=[p]) :
  Y P (.index tx x y) t n fs C p:=
 bE fun d pos af g s w hs' hw=>by
  obtain⟨h0,h1,h2⟩:=qf (qm hr)
  have h3:=qbl hr
  have hf:(l.map row).flatten[a.toNat*1+0]?=some p:=qR _ _ _ _ _ (by intro r hr';obtain⟨z,_,rfl⟩:=List.mem_map.1 hr';exact hlen z) (by rw[List.getElem?_map,h2];rfl) (by rw[hp];rfl)
  simp only[Nat.mul_one,Nat.add_zero]at hf
  simp only[execOp,hs'.eval hx,hs'.eval hy]
  simp[Instr.index,asIntOf,run_underlying hu,h0,h3,part,jr ha,qt hs,hf]
end
end Go.S
end
