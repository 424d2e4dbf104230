import Derived.Test.YtlecphianicdhaaGreatZl
import Derived.Test.YtlecphianicdhaaGreatTwM
section
namespace Go.Proofs.YtlecphianicdhaaGreat
open Go.S
set_option linter.unusedVariables false
set_option linter.unusedSimpArgs false
variable {n:Nat} {es:List TE} {G:List Int} {σ τ:St} {L M:Int→Int} {k x:Int} {j:Nat}
theorem Lv.kS (h:Lv n es G σ L k j τ M):k∈τ.s:=h.inv.gs k (List.mem_cons_self ..)
theorem Lv.skip (h:Lv n es G σ L k j τ M) (hj:(suc es k).take (j+1)=(suc es k).take j++[x]) (hx:τ.W x≠0) (hs:x ∉ τ.s):Lv n es G σ L k (j+1) τ M:=by
 refine ⟨h.inv,h.ext,h.seen,h.lo,h.hi,h.str,fun y hy=>?_⟩
 rw [hj,List.mem_append,List.mem_singleton] at hy
 rcases hy with hy | hy
 ·exact h.old y hy
 ·rw [hy]
  refine ⟨hx,fun q=>absurd ?_ hs⟩
  obtain ⟨T,h1,_,_⟩:=h.str
  rw [h1]
  exact List.mem_append_left _ q
theorem Lv.look (h:Lv n es G σ L k j τ M) (hσ:Inv n es G σ) (hj:(suc es k).take (j+1)=(suc es k).take j++[x]) (hx:τ.W x≠0) (hs:x∈τ.s) (he:Ed es k x):Lv n es G σ L k (j+1) τ (ins M k (min (M k) (τ.W x))):=by
 have hkz:=h.kz hσ
 have hmin:min (M k) (τ.W x)≤M k:=Int.min_le_left ..
 have hmin2:min (M k) (τ.W x)≤τ.W x:=Int.min_le_right ..
 refine ⟨h.inv,fun y hy=>⟨(h.ext y hy).1,?_⟩,h.seen,?_,?_,?_,fun y hy=>?_⟩
 ·rw [ins_ne (fun e=>hy (by rw [e];exact hkz))];exact (h.ext y hy).2
 ·rw [ins_at];exact Int.le_trans hmin h.lo
 ·rw [ins_at]
  by_cases c:M k≤τ.W x
  ·rw [Int.min_eq_left c];exact h.hi
  ·have h2:=h.lo
   rw [Int.min_eq_right (by omega)]
   exact ⟨x,.inr (h.before hs (by omega)),rfl,Rch.edge he⟩
 ·obtain ⟨T,h1,h2,h3⟩:=h.str
  refine ⟨T,h1,h2,fun a ha y hy hys=>?_⟩
  rw [ins_at]
  exact Int.le_trans hmin (h3 a ha y hy hys)
 ·rw [ins_at]
  rw [hj,List.mem_append,List.mem_singleton] at hy
  rcases hy with hy | hy
  ·exact ⟨(h.old y hy).1,fun q=>Int.le_trans hmin ((h.old y hy).2 q)⟩
  ·rw [hy]
   exact ⟨hx,fun q=>by rw [← (h.ext x (hσ.inr x q)).1];exact hmin2⟩
theorem Lv.deep {τ':St} {M':Int→Int} (h:Lv n es G σ L k j τ M) (hσ:Inv n es G σ) (hj:(suc es k).take (j+1)=(suc es k).take j++[x]) (hx:τ.W x=0) (he:Ed es k x) (hp:Post n es (k :: G) τ M x τ' M') :
  Lv n es G σ L k (j+1) τ' (ins M' k (min (M' k) (M' x))):=by
 have hkz:=h.kz hσ
 have hmin:min (M' k) (M' x)≤M' k:=Int.min_le_left ..
 have hmin2:min (M' k) (M' x)≤M' x:=Int.min_le_right ..
 have hkn:τ.W k≠0:=h.inv.inr k h.kS
 have hk':=hp.ext k hkn
 have hst:∀ {y},σ.W y≠0→τ.W y≠0:=fun q=>by rw [(h.ext _ q).1];exact q
 refine ⟨hp.inv,fun y hy=>?_,?_,?_,?_,?_,fun y hy=>?_⟩
 ·have h1:=h.ext y hy
  have h2:=hp.ext y (hst hy)
  exact ⟨h2.1.trans h1.1,by rw [ins_ne (fun e=>hy (by rw [e];exact hkz))];exact h2.2.trans h1.2⟩
 ·rw [hk'.1];exact h.seen
 ·rw [ins_at,hk'.1,hk'.2]
  have:=h.lo
  rw [hk'.2] at hmin
  omega
 ·rw [ins_at]
  have hlo:=h.lo
  by_cases c:M' k≤M' x
  ·rw [Int.min_eq_left c,hk'.2]
   obtain ⟨y,h1,h2,h3⟩:=h.hi
   refine ⟨y,h1,?_,h3⟩
   rw [(hp.ext y ?_).1]
   ·exact h2
   ·rcases h1 with h1 | h1
    ·rw [h1];exact hkn
    ·exact hst (hσ.inr y h1)
  ·rw [Int.min_eq_right (by omega)]
   rw [hk'.2] at c
   obtain ⟨T,_,_,h3,_⟩:=hp.str
   rcases h3 with ⟨y,h4,h5,h6⟩ | h3
   ·refine ⟨y,.inr (h.before h4 (by omega)),?_,(Rch.edge he).trans h6⟩
    rw [(hp.ext y (h.inv.inr y h4)).1]
    exact h5
   ·have h4:=hp.seen
    have h5:=h.inv.wb k
    omega
 ·obtain ⟨T,h1,h2,h3⟩:=h.str
  obtain ⟨T2,g1,g2,_,g3⟩:=hp.str
  refine ⟨T++T2,?_,fun y hy=>?_,fun a ha y hy hys=>?_⟩
  ·rw [g1,h1,List.append_assoc,List.cons_append]
  ·rcases List.mem_append.1 hy with hy | hy
   ·exact h2 y hy
   ·by_cases c:σ.W y=0
    ·exact c
    ·exact absurd (g2 y hy) (hst c)
  ·rw [ins_at]
   rcases List.mem_append.1 ha with ha | ha
   ·have:=h3 a ha y hy hys
    rw [hk'.2] at hmin
    rw [hk'.2]
    omega
   ·have hys':y∈τ.s:=by rw [h1];exact List.mem_append_left _ hys
    have:=g3 a ha y hy hys'
    rw [(h.ext y (hσ.inr y hys)).1] at this
    exact Int.le_trans hmin2 this
 ·rw [ins_at]
  rw [hj,List.mem_append,List.mem_singleton] at hy
  rcases hy with hy | hy
  ·obtain ⟨h1,h2⟩:=h.old y hy
   refine ⟨by rw [(hp.ext y h1).1];exact h1,fun q=>?_⟩
   have:=h2 q
   rw [hk'.2] at hmin
   rw [hk'.2]
   omega
  ·rw [hy]
   refine ⟨?_,fun q=>absurd hx (hst (hσ.inr x q))⟩
   have h1:=hp.seen
   have h2:=h.inv.tle
   omega
theorem Lv.stay (h:Lv n es G σ L k j τ M) (hσ:Inv n es G σ) (hj:(suc es k).take j=suc es k) (hl:M k≠τ.W k):Post n es G σ L k τ M:=by
 have hlo:=h.lo
 obtain ⟨y,h1,h2,h3⟩:=h.hi
 have hy:y∈σ.s:=by
  rcases h1 with h1 | h1
  ·rw [h1] at h2;exact absurd h2.symm hl
  ·exact h1
 have hyW:=(h.ext y (hσ.inr y hy)).1
 obtain ⟨g,g1,g2,g3⟩:=hσ.back y hy
 have hgW:=(h.ext g (hσ.inr g (hσ.gs g g1))).1
 have i:=h.inv
 refine ⟨⟨i.wb,i.vis,i.cnt,i.inr,i.asc,fun g hg=>i.gs g (List.mem_cons_of_mem _ hg),fun g hg=>i.rg g (List.mem_cons_of_mem _ hg),fun x hx=>?_,fun x hx hxg y hy=>?_,i.dcl,i.pcov,i.pok,i.pdj,i.plen⟩,h.ext,h.seen,?_⟩
 ·obtain ⟨q,q1,q2,q3⟩:=i.back x hx
  rcases List.mem_cons.1 q1 with e | e
  ·rw [e] at q2 q3
   exact ⟨g,g1,by omega,(q3.trans h3).trans g3⟩
  ·exact ⟨q,e,q2,q3⟩
 ·by_cases c:x=k
  ·rw [c] at hy
   exact (h.old y (by rw [hj];exact suc_mem.2 hy)).1
  ·exact i.blk x hx (by rw [List.mem_cons,not_or];exact ⟨c,hxg⟩) y hy
 ·obtain ⟨T,t1,t2,t3⟩:=h.str
  refine ⟨k :: T,t1,fun x hx=>?_,.inl ⟨y,hy,by omega,h3⟩,fun x hx z hz hzs=>?_⟩
  ·rcases List.mem_cons.1 hx with e | e
   ·rw [e];exact h.kz hσ
   ·exact t2 x e
  ·rcases List.mem_cons.1 hx with e | e
   ·rw [e] at hz
    exact (h.old z (by rw [hj];exact suc_mem.2 hz)).2 hzs
   ·exact t3 x e z hz hzs
theorem Lv.part {T:List Int} (h:Lv n es G σ L k j τ M) (hσ:Inv n es G σ) (hj:(suc es k).take j=suc es k) (hl:M k=τ.W k) (hT:τ.s=σ.s++k :: T) (hT0:∀ x∈T,σ.W x=0) (hTe:∀ x∈T,∀ y,Ed es x y→y∈σ.s→M k≤σ.W y) :
  Post n es G σ L k ⟨τ.W,σ.s,τ.P++[srt (k :: T)],τ.t⟩ M:=by
 have i:=h.inv
 have hkz:=h.kz hσ
 have hsW:∀ {x},x∈σ.s→τ.W x=σ.W x:=fun q=>(h.ext _ (hσ.inr _ q)).1
 have hmT:∀ {x},x∈τ.s↔x∈σ.s∨x∈k :: T:=fun {x}=>by rw [hT,List.mem_append]
 have hTs:∀ {x},x∈k :: T→x ∉ σ.s:=fun {x} q c=>by
  rcases List.mem_cons.1 q with e | e
  ·rw [e] at c;exact hσ.inr k c hkz
  ·exact hσ.inr x c (hT0 x e)
 have hnd:=i.nodup
 rw [hT] at hnd
 have hnd2:(k :: T).Nodup:=(List.nodup_append.1 hnd).2.1
 have hasc:=i.asc
 rw [hT,List.pairwise_append] at hasc
 have hkle:∀ {x},x∈k :: T→τ.W k≤τ.W x:=fun {x} q=>by
  rcases List.mem_cons.1 q with e | e
  ·rw [e];exact Int.le_refl _
  ·exact Int.le_of_lt ((List.pairwise_cons.1 hasc.2.1).1 x e)
 have hno:∀ {y},y∈σ.s→¬ M k≤σ.W y:=fun {y} q c=>by
  have h1:=hσ.wb y
  have h2:=h.seen
  omega
 have hA:∀ x,(τ.W x≠0∧x ∉ σ.s)→∀ y,Ed es x y→τ.W y≠0∧y ∉ σ.s:=by
  rintro x ⟨hx,hxs⟩ y hy
  by_cases c:x∈τ.s
  ·have c':=(hmT.1 c).resolve_left hxs
   by_cases e:x=k
   ·rw [e] at hy
    have:=h.old y (by rw [hj];exact suc_mem.2 hy)
    exact ⟨this.1,fun q=>hno q (this.2 q)⟩
   ·have hxT:x∈T:=(List.mem_cons.1 c').resolve_left e
    have hxG:x ∉ k :: G:=by
     rw [List.mem_cons,not_or]
     exact ⟨e,fun q=>hxs (hσ.gs x q)⟩
    exact ⟨i.blk x c hxG y hy,fun q=>hno q (hTe x hxT y hy q)⟩
  ·obtain ⟨h1,h2⟩:=i.dcl x hx c y hy
   exact ⟨h1,fun q=>h2 (hmT.2 (.inl q))⟩
 have hto:∀ {x},x∈k :: T→Rch es k x:=fun {x} q=>i.rg k (List.mem_cons_self ..) x (hmT.2 (.inr q)) (hkle q)
 have hfrom:∀ {x},x∈k :: T→Rch es x k:=fun {x} q=>by
  have hx:x∈τ.s:=hmT.2 (.inr q)
  obtain ⟨g,g1,g2,g3⟩:=i.back x hx
  rcases List.mem_cons.1 g1 with e | e
  ·rw [e] at g3;exact g3
  ·exact absurd (hσ.gs g e) (rch_closed hA ⟨i.inr x hx,hTs q⟩ g3).2
 have hsm:∀ {x},x∈srt (k :: T)↔x∈k :: T:=srt_mem
 refine ⟨⟨i.wb,i.vis,i.cnt,fun x hx=>?_,hasc.1,hσ.gs,fun g hg x hx hw=>?_,fun x hx=>?_,fun x hx hxg y hy=>?_,fun x hx hxs y hy=>hA x ⟨hx,hxs⟩ y hy,fun x=>?_,fun p hp=>?_,?_,?_⟩,h.ext,h.seen,⟨[],by simp,by simp,.inr hl,by simp⟩⟩
 ·show τ.W x≠0
  rw [hsW hx];exact hσ.inr x hx
 ·have hw':τ.W g≤τ.W x:=hw
  rw [hsW hx,hsW (hσ.gs g hg)] at hw'
  exact hσ.rg g hg x hx hw'
 ·obtain ⟨g,g1,g2,g3⟩:=hσ.back x hx
  refine ⟨g,g1,?_,g3⟩
  show τ.W g≤τ.W x
  rw [hsW hx,hsW (hσ.gs g g1)]
  exact g2
 ·have h1:=hσ.blk x hx hxg y hy
  show τ.W y≠0
  rw [(h.ext y h1).1];exact h1
 ·show (τ.W x≠0∧x ∉ σ.s)↔∃ p∈τ.P++[srt (k :: T)],x∈p
  constructor
  ·rintro ⟨h1,h2⟩
   by_cases c:x∈τ.s
   ·exact ⟨_,List.mem_append_right _ (List.mem_singleton.2 rfl),hsm.2 ((hmT.1 c).resolve_left h2)⟩
   ·obtain ⟨p,p1,p2⟩:=(i.pcov x).1 ⟨h1,c⟩
    exact ⟨p,List.mem_append_left _ p1,p2⟩
  ·rintro ⟨p,p1,p2⟩
   rcases List.mem_append.1 p1 with p1 | p1
   ·obtain ⟨h1,h2⟩:=(i.pcov x).2 ⟨p,p1,p2⟩
    exact ⟨h1,fun q=>h2 (hmT.2 (.inl q))⟩
   ·rw [List.mem_singleton.1 p1] at p2
    have:=hsm.1 p2
    exact ⟨i.inr x (hmT.2 (.inr this)),hTs this⟩
 ·rcases List.mem_append.1 hp with hp | hp
  ·exact i.pok p hp
  ·rw [List.mem_singleton.1 hp]
   refine ⟨fun e=>?_,srt_lt hnd2,fun x hx y=>⟨fun hy=>?_,?_⟩⟩
   ·have:=srt_length (k :: T)
    rw [e] at this
    simp at this
   ·exact ⟨(hfrom (hsm.1 hx)).trans (hto (hsm.1 hy)),(hfrom (hsm.1 hy)).trans (hto (hsm.1 hx))⟩
   ·rintro ⟨h1,h2⟩
    have hx':=hsm.1 hx
    have hxs:x∈τ.s:=hmT.2 (.inr hx')
    have hy:=rch_closed hA ⟨i.inr x hxs,hTs hx'⟩ h1
    refine hsm.2 ?_
    by_cases c:y∈τ.s
    ·exact (hmT.1 c).resolve_left hy.2
    ·exact absurd hxs (rch_closed (A:=fun z=>τ.W z≠0∧z ∉ τ.s) (fun z hz=>i.dcl z hz.1 hz.2) ⟨hy.1,c⟩ h2).2
 ·show (τ.P++[srt (k :: T)]).Pairwise _
  rw [List.pairwise_append]
  refine ⟨i.pdj,by simp,fun p hp q hq x hx=>?_⟩
  rw [List.mem_singleton.1 hq,hsm]
  exact fun c=>((i.pcov x).2 ⟨p,hp,hx⟩).2 (hmT.2 (.inr c))
 ·have:=i.plen
  rw [hT] at this
  show (τ.P++[srt (k :: T)]).length+σ.s.length+wh τ.W n≤n
  simp only [List.length_append,List.length_cons,List.length_nil] at this ⊢
  omega
def Goes (n:Nat) (es:List TE) (m:Nat):Prop:=∀ (G:List Int) (σ:St) (L:Int→Int) (k:Int),wh σ.W n≤m→Inv n es G σ→σ.W k=0→0≤k→k < n→(∀ g∈G,Rch es g k) →
 ∃ σ' L',M78b m (tab n (suc es)) (tab n σ.W) (tab n L) σ.s σ.P σ.t k=some (tab n σ'.W,tab n L',σ'.s,σ'.P,σ'.t)∧Post n es G σ L k σ' L'
theorem bind5_some {a b c d e ρ:Type} {u:a} {v:b} {x:c} {y:d} {z:e} {f:a→b→c→d→e→Option ρ}:bind5 (some (u,v,x,y,z)) f=f u v x y z:=rfl
theorem leave_ok (hn:n≤60) (h:Lv n es G σ L k j τ M) (hσ:Inv n es G σ) (h0:0≤k) (h1:k < n) (hj:(suc es k).take j=suc es k) :
  ∃ σ' L',M78K1 k (tab n τ.W) (tab n M) τ.s τ.P τ.t=some (tab n σ'.W,tab n L',σ'.s,σ'.P,σ'.t)∧Post n es G σ L k σ' L':=by
 rw [M78K1,tab_idx h0 h1,bind1_some,tab_idx h0 h1,bind1_some]
 by_cases c:M k=τ.W k
 ·obtain ⟨T,t1,t2,t3⟩:=h.str
  have hl:=h.inv.plen
  have hks:k ∉ σ.s:=fun q=>hσ.inr k q (h.kz hσ)
  have hi:=index_eq τ.s (by omega) k
  have hlen:τ.s.length=σ.s.length+(T.length+1):=by rw [t1,List.length_append,List.length_cons]
  rw [t1,ixF_app T σ.s 0 hks,Nat.zero_add,← t1] at hi
  have hcd:cut τ.s (σ.s.length:Int) (τ.s.length:Int)=some (k :: T):=by
   rw [cut_drop _ _ (by omega),t1,List.drop_left]
  have hct:cut τ.s 0 (σ.s.length:Int)=some σ.s:=by
   rw [cut_take _ _ (by omega),t1,List.take_left]
  have hcl:M97 (k :: T)=some (k :: T):=by
   rw [M97,app_ok (by simp only [List.length_cons,List.length_nil];omega),bind1_some,List.nil_append]
  refine ⟨_,_,?_,h.part hσ hj c t1 t2 t3⟩
  rw [if_pos c,hi,bind1_some,hcd,bind1_some,hcl,bind1_some,xSort_ok (by simp only [List.length_cons];omega),bind1_some,app_ok (by simp only [List.length_cons,List.length_nil];omega),bind1_some,hct,bind1_some]
 ·rw [if_neg c]
  exact ⟨_,_,rfl,h.stay hσ hj c⟩
theorem visitL (hn:n≤60) (hl:es.length≤2000) (hR:InR n es) {m:Nat} (hrec:Goes n es m) (hσ:Inv n es G σ) (hm:wh σ.W n≤m+1) (h0:0≤k) (h1:k < n) (hg:∀ g∈G,Rch es g k):∀ (r j:Nat),j+r=(suc es k).length→∀ τ M,Lv n es G σ L k j τ M→∀ q,r < q →
  ∃ σ' L',M78L1 (suc es k) (M78b m) (tab n (suc es)) k q (j:Int) (tab n τ.W) (tab n M) τ.s τ.P τ.t=some (tab n σ'.W,tab n L',σ'.s,σ'.P,σ'.t)∧Post n es G σ L k σ' L':=by
 have hsl:=suc_len es k
 intro r
 induction r with
 | zero =>
  intro j hj τ M h q hq
  obtain ⟨q,rfl⟩:=dec q hq
  rw [M78L1,M78L1B,if_neg (by omega)]
  exact leave_ok hn h hσ h0 h1 (List.take_of_length_le (by omega))
 | succ r ih =>
  intro j hj τ M h q hq
  obtain ⟨q,rfl⟩:=dec q (by omega)
  have hjl:j < (suc es k).length:=by omega
  have he:Ed es k (suc es k)[j]:=suc_mem.1 (List.getElem_mem hjl)
  obtain ⟨_,_,x0,x1⟩:=hR _ he
  have htk:=take_snoc hjl
  have hlen:=h.inv.plen
  rw [M78L1,M78L1B,if_pos (by omega),idx_ok hjl,bind1_some]
  generalize (suc es k)[j]=x at he x0 x1 htk ⊢
  have x1':x < n:=x1
  have x0':0≤x:=x0
  rw [tab_idx x0' x1',bind1_some]
  by_cases c:τ.W x=0
  ·have hkg:∀ g∈k :: G,Rch es g x:=fun g hgm=>by
    rcases List.mem_cons.1 hgm with e | e
    ·rw [e];exact Rch.edge he
    ·exact (hg g e).trans (Rch.edge he)
   have hwh:wh τ.W n≤m:=by
    have a1:=h.inv.cnt
    have a2:=hσ.cnt
    have a3:=h.seen
    have a4:=h.inv.wb k
    omega
   obtain ⟨τ',M',e1,hp⟩:=hrec (k :: G) τ M x hwh h.inv c x0' x1' hkg
   rw [if_pos c,M78K2,if_pos rfl,e1,bind5_some,tab_idx h0 h1,bind1_some,tab_idx x0' x1',bind1_some,bind1_some,tab_upd _ h0 h1,bind1_some,isucc j (by omega),bind1_some]
   exact ih (j+1) (by omega) τ' _ (h.deep hσ htk c he hp) q (by omega)
  ·rw [if_neg c,M78K2,if_neg ff,contains_eq τ.s (by omega) x,bind1_some]
   by_cases c2:x∈τ.s
   ·rw [if_pos (decide_eq_true c2),tab_idx h0 h1,bind1_some,tab_idx x0' x1',bind1_some,bind1_some,tab_upd _ h0 h1,bind1_some,isucc j (by omega),bind1_some]
    exact ih (j+1) (by omega) τ _ (h.look hσ htk c c2 he) q (by omega)
   ·rw [if_neg (by simp [c2]),isucc j (by omega),bind1_some]
    exact ih (j+1) (by omega) τ M (h.skip htk c c2) q (by omega)
theorem goes (hn:n≤60) (hl:es.length≤2000) (hR:InR n es):∀ m,Goes n es m
 | 0=>fun G σ L k hm hσ hk h0 h1 hg=>absurd (wh_pos hk h0 h1) (by omega)
 | m+1=>fun G σ L k hm hσ hk h0 h1 hg=>by
  have ht:=hσ.tle
  have hsl:=suc_len es k
  have hlen:=hσ.plen
  have h:=visitL (L:=L) hn hl hR (goes hn hl hR m) hσ hm h0 h1 hg (suc es k).length 0 (by omega) _ _ (begin_ok hσ hk h0 h1 hg) big (lt_big (by omega))
  have hap:app σ.s [k]=some (σ.s++[k]):=app_ok (by simp only [List.length_cons,List.length_nil];omega)
  rw [M78b,M78a,i64_ok (by omega) (by omega),bind1_some,tab_idx h0 h1,bind1_some,tab_upd _ h0 h1,bind1_some,tab_idx h0 h1,bind1_some,tab_upd _ h0 h1,bind1_some,hap,bind1_some,tab_idx h0 h1,bind1_some]
  exact h
end Go.Proofs.YtlecphianicdhaaGreat
end
section
namespace Go.Proofs.YtlecphianicdhaaGreat
open Go.S
set_option linter.unusedVariables false
set_option linter.unusedSimpArgs false
theorem uniq {α:Type} (f:α→Int):∀ (l1 l2:List α),l1.Pairwise (fun x y=>f x < f y)→l2.Pairwise (fun x y=>f x < f y)→(∀ x,x∈l1↔x∈l2)→l1=l2
 | [],[],_,_,_=>rfl
 | [],b :: t2,_,_,h=>absurd ((h b).2 (List.mem_cons_self ..)) (by simp)
 | a :: t1,[],_,_,h=>absurd ((h a).1 (List.mem_cons_self ..)) (by simp)
 | a :: t1,b :: t2,h1,h2,h=>by
  obtain ⟨g1,g2⟩:=List.pairwise_cons.1 h1
  obtain ⟨k1,k2⟩:=List.pairwise_cons.1 h2
  have e:a=b:=by
   rcases List.mem_cons.1 ((h a).1 (List.mem_cons_self ..)) with e | e
   ·exact e
   ·rcases List.mem_cons.1 ((h b).2 (List.mem_cons_self ..)) with e2 | e2
    ·exact e2.symm
    ·have:=g1 b e2
     have:=k1 a e
     omega
  subst e
  rw [uniq f t1 t2 g2 k2 fun x=>⟨fun hx=>?_,fun hx=>?_⟩]
  ·rcases List.mem_cons.1 ((h x).1 (List.mem_cons_of_mem _ hx)) with e | e
   ·have:=g1 x hx
    rw [e] at this
    omega
   ·exact e
  ·rcases List.mem_cons.1 ((h x).2 (List.mem_cons_of_mem _ hx)) with e | e
   ·have:=k1 x hx
    rw [e] at this
    omega
   ·exact e
def selI (P:Int→Bool):Nat→Nat→List Int
 | _,0=>[]
 | i,r+1=>if P (i:Int)=true then (i:Int) :: selI P (i+1) r else selI P (i+1) r
theorem selI_mem {P:Int→Bool} {x:Int}:∀ (r i:Nat),x∈selI P i r↔(i:Int)≤x∧x < i+r∧P x=true
 | 0,i=>by simp [selI];omega
 | r+1,i=>by
  rw [selI]
  by_cases c:P (i:Int)=true
  ·rw [if_pos c,List.mem_cons,selI_mem r (i+1)]
   constructor
   ·rintro (h | ⟨h1,h2,h3⟩)
    ·rw [h];exact ⟨by omega,by omega,c⟩
    ·exact ⟨by omega,by omega,h3⟩
   ·rintro ⟨h1,h2,h3⟩
    by_cases e:x=i
    ·exact .inl e
    ·exact .inr ⟨by omega,by omega,h3⟩
  ·rw [if_neg c,selI_mem r (i+1)]
   constructor
   ·rintro ⟨h1,h2,h3⟩;exact ⟨by omega,by omega,h3⟩
   ·rintro ⟨h1,h2,h3⟩
    refine ⟨?_,by omega,h3⟩
    by_cases e:x=i
    ·rw [e] at h3;exact absurd h3 c
    ·omega
theorem selI_lt {P:Int→Bool}:∀ (r i:Nat),(selI P i r).Pairwise (· < ·)
 | 0,i=>.nil
 | r+1,i=>by
  rw [selI]
  split
  ·exact List.pairwise_cons.2 ⟨fun x hx=>by have:=(selI_mem r (i+1)).1 hx;omega,selI_lt r (i+1)⟩
  ·exact selI_lt r (i+1)
theorem selI_len {P:Int→Bool}:∀ (r i:Nat),(selI P i r).length≤r
 | 0,i=>Nat.le_refl _
 | r+1,i=>by
  have:=selI_len (P:=P) r (i+1)
  rw [selI]
  split
  ·rw [List.length_cons];omega
  ·omega
theorem hd0_mem {p:List Int} (h:p≠[]):hd0 p∈p:=by
 cases p with
 | nil=>exact absurd rfl h
 | cons a l=>exact List.mem_cons_self ..
theorem idx_hd {p:List Int} (h:p≠[]):idx p 0=some (hd0 p):=by
 cases p with
 | nil=>exact absurd rfl h
 | cons a l=>exact idx_ok (l:=a :: l) (i:=0) (by simp)
theorem srtH_perm (l:List (List Int)):(srtH l).Perm l:=by unfold srtH;exact List.mergeSort_perm l _
theorem srtH_lt {l:List (List Int)} (h:l.Pairwise fun x y=>hd0 x≠hd0 y):(srtH l).Pairwise fun x y=>hd0 x < hd0 y:=by
 have h1:=List.pairwise_mergeSort (le:=fun x y:List Int=>decide (hd0 x≤hd0 y)) (fun a b c h1 h2=>by simp only [decide_eq_true_eq] at *;omega) (fun a b=>by simp only [Bool.or_eq_true,decide_eq_true_eq];omega) l
 have h2:(srtH l).Pairwise fun x y=>hd0 x≠hd0 y:=(srtH_perm l).symm.pairwise h (fun h e=>h e.symm)
 exact (List.pairwise_and_iff.2 ⟨h1,h2⟩).imp fun {a b} h=>by
  have h3:hd0 a≠hd0 b:=h.2
  have h4:decide (hd0 a≤hd0 b)=true:=h.1
  have h5:=of_decide_eq_true h4
  omega
variable {n:Nat} {es:List TE}
theorem wh_zero:∀ n,wh (fun _=>0) n=n
 | 0=>rfl
 | n+1=>by rw [wh,wh_zero n,if_pos rfl]
theorem inv_zero:Inv n es [] ⟨fun _=>0,[],[],0⟩:=by
 refine ⟨fun x=>⟨Int.le_refl _,Int.le_refl _⟩,fun x h=>absurd rfl h,?_,by simp,.nil,by simp,by simp,by simp,by simp,fun x h=>absurd rfl h,by simp,by simp,.nil,?_⟩
 ·show (0:Int)+(wh (fun _=>0) n:Int)=n
  rw [wh_zero];omega
 ·show 0+0+wh (fun _=>0) n≤n
  rw [wh_zero];omega
theorem Inv.snil {σ:St} (h:Inv n es [] σ):σ.s=[]:=by
 cases hs:σ.s with
 | nil=>rfl
 | cons a l =>
  obtain ⟨g,hg,_⟩:=h.back a (by rw [hs];exact List.mem_cons_self ..)
  cases hg
theorem partsL (hn:n≤60) (hl:es.length≤2000) (hR:InR n es):∀ (r i:Nat),i+r=n→∀ σ L,Inv n es [] σ→(∀ x:Int,0≤x→x < i→σ.W x≠0)→∀ m,r < m →
  ∃ σ':St,Inv n es [] σ'∧(∀ x:Int,0≤x→x < n→σ'.W x≠0)∧M63L1 (n:Int) (tab n (suc es)) m (i:Int) (tab n σ.W) (tab n L) σ.s σ.P σ.t=bind1 (xSortH σ'.P) fun l=>some (l,0):=by
 intro r
 induction r with
 | zero =>
  intro i hi σ L h hv m hm
  obtain ⟨m,rfl⟩:=dec m hm
  exact ⟨σ,h,fun x h0 h1=>hv x h0 (by omega),by rw [M63L1,M63L1B,if_neg (by omega),M63K3]⟩
 | succ r ih =>
  intro i hi σ L h hv m hm
  obtain ⟨m,rfl⟩:=dec m (by omega)
  have i0:(0:Int)≤(i:Int):=by omega
  have i1:(i:Int) < (n:Nat):=by omega
  rw [M63L1,M63L1B,if_pos i1,tab_idx i0 i1,bind1_some]
  by_cases c:σ.W i=0
  ·obtain ⟨σ',L',e,hp⟩:=goes hn hl hR big [] σ L i (by have:=wh_le σ.W n;rw [big_eq];omega) h c i0 i1 (by simp)
   rw [if_pos c,M78,e,bind5_some,isucc i (by omega),bind1_some]
   refine ih (i+1) (by omega) σ' L' hp.inv (fun x h0 h1=>?_) m (by omega)
   by_cases e:x=i
   ·rw [e,hp.seen]
    have:=h.tle
    omega
   ·have:=hv x h0 (by omega)
    rw [(hp.ext x this).1]
    exact this
  ·rw [if_neg c,isucc i (by omega),bind1_some]
   refine ih (i+1) (by omega) σ L h (fun x h0 h1=>?_) m (by omega)
   by_cases e:x=i
   ·rw [e];exact c
   ·exact hv x h0 (by omega)
def part (n:Nat) (C:Int→Int→Bool) (k:Int):List Int:=selI (fun i=>decide (i=k) || C i k && C k i) 0 n
theorem part_mem {C:Int→Int→Bool} {k x:Int}:x∈part n C k↔0≤x∧x < n∧(x=k∨C x k=true∧C k x=true):=by
 unfold part
 rw [selI_mem]
 simp only [Bool.or_eq_true,Bool.and_eq_true,decide_eq_true_eq]
 constructor
 ·rintro ⟨h1,h2,h3⟩;exact ⟨by omega,by omega,h3⟩
 ·rintro ⟨h1,h2,h3⟩;exact ⟨by omega,by omega,h3⟩
def refParts (n:Nat) (C:Int→Int→Bool):Nat→Nat→List (List Int)
 | _,0=>[]
 | k,r+1=>if hd0 (part n C (k:Int))=k then part n C (k:Int) :: refParts n C (k+1) r else refParts n C (k+1) r
theorem refParts_mem {C:Int→Int→Bool} {p:List Int}:∀ (r k:Nat),p∈refParts n C k r↔∃ q:Int,(k:Int)≤q∧q < k+r∧hd0 (part n C q)=q∧p=part n C q
 | 0,k=>by simp [refParts];omega
 | r+1,k=>by
  rw [refParts]
  by_cases c:hd0 (part n C (k:Int))=k
  ·rw [if_pos c,List.mem_cons,refParts_mem r (k+1)]
   constructor
   ·rintro (h | ⟨q,h1,h2,h3⟩)
    ·exact ⟨k,by omega,by omega,c,h⟩
    ·exact ⟨q,by omega,by omega,h3⟩
   ·rintro ⟨q,h1,h2,h3,h4⟩
    by_cases e:q=k
    ·rw [e] at h4;exact .inl h4
    ·exact .inr ⟨q,by omega,by omega,h3,h4⟩
  ·rw [if_neg c,refParts_mem r (k+1)]
   constructor
   ·rintro ⟨q,h1,h2,h3⟩;exact ⟨q,by omega,by omega,h3⟩
   ·rintro ⟨q,h1,h2,h3,h4⟩
    by_cases e:q=k
    ·rw [e] at h3;exact absurd h3 c
    ·exact ⟨q,by omega,by omega,h3,h4⟩
theorem refParts_lt {C:Int→Int→Bool}:∀ (r k:Nat),(refParts n C k r).Pairwise fun x y=>hd0 x < hd0 y
 | 0,k=>.nil
 | r+1,k=>by
  rw [refParts]
  split
  ·rename_i c
   refine List.pairwise_cons.2 ⟨fun x hx=>?_,refParts_lt r (k+1)⟩
   obtain ⟨q,h1,h2,h3,h4⟩:=(refParts_mem r (k+1)).1 hx
   rw [c,h4,h3]
   omega
  ·exact refParts_lt r (k+1)
theorem refParts_len {C:Int→Int→Bool}:∀ (r k:Nat),(refParts n C k r).length≤r
 | 0,k=>Nat.le_refl _
 | r+1,k=>by
  have:=refParts_len (C:=C) r (k+1)
  rw [refParts]
  split
  ·rw [List.length_cons];omega
  ·omega
theorem parts_eq (hn:n≤60) (hl:es.length≤2000) (hR:InR n es) (C:Int→Int→Bool) (hC:∀ i j,C i j=true↔TC es i j):M63 (n:Int) es=some (refParts n C 0 n,0):=by
 obtain ⟨σ,h,hv,e⟩:=partsL hn hl hR n 0 (by omega) ⟨fun _=>0,[],[],0⟩ (fun _=>0) inv_zero (fun x h0 h1=>by omega) big (lt_big (by omega))
 have hs:=h.snil
 have hrng:∀ p∈σ.P,∀ x∈p,0≤x∧x < n:=fun p hp x hx=>h.vis x ((h.pcov x).2 ⟨p,hp,hx⟩).1
 have hpart:∀ p∈σ.P,∀ k∈p,p=part n C k:=by
  intro p hp k hk
  obtain ⟨h1,h2,h3⟩:=h.pok p hp
  refine uniq id p (part n C k) h2 (selI_lt n 0) fun x=>?_
  rw [h3 k hk x,part_mem,hC,hC]
  constructor
  ·intro hr
   obtain ⟨r1,r2⟩:=hrng p hp x ((h3 k hk x).2 hr)
   refine ⟨r1,r2,?_⟩
   rcases hr with ⟨q1 | q1,q2 | q2⟩
   ·exact .inl q2
   ·exact .inl q1.symm
   ·exact .inl q2
   ·exact .inr ⟨q2,q1⟩
  ·rintro ⟨_,_,q | ⟨q1,q2⟩⟩
   ·rw [q];exact ⟨Rch.refl k,Rch.refl k⟩
   ·exact ⟨.inr q2,.inr q1⟩
 have hne:σ.P.Pairwise fun x y=>hd0 x≠hd0 y:=List.Pairwise.imp_of_mem (fun {p q} hp hq hpq e=>by
  have h1:=hd0_mem (h.pok p hp).1
  have h2:=hd0_mem (h.pok q hq).1
  rw [← e] at h2
  exact hpq _ h1 h2) h.pdj
 have hlen:=h.plen
 have hx:xSortH σ.P=some (srtH σ.P):=if_pos ⟨by omega,fun p hp=>⟨(h.pok p hp).1,by
  have:=hrng p hp _ (hd0_mem (h.pok p hp).1)
  omega⟩,hne⟩
 have heq:srtH σ.P=refParts n C 0 n:=by
  refine uniq hd0 _ _ (srtH_lt hne) (refParts_lt n 0) fun p=>?_
  rw [(srtH_perm σ.P).mem_iff,refParts_mem]
  constructor
  ·intro hp
   have h1:=hd0_mem (h.pok p hp).1
   have h2:=hpart p hp _ h1
   have h3:=hrng p hp _ h1
   exact ⟨hd0 p,by omega,by omega,by rw [← h2],h2⟩
  ·rintro ⟨q,h1,h2,h3,h4⟩
   obtain ⟨p',p1,p2⟩:=(h.pcov q).1 ⟨hv q (by omega) (by omega),by rw [hs];simp⟩
   rw [h4,← hpart p' p1 q p2]
   exact p1
 have e0:M63L1 (n:Int) (tab n (suc es)) big 0 (tab n fun _=>0) (tab n fun _=>0) [] [] 0=bind1 (xSortH σ.P) fun l=>some (l,0):=e
 rw [M63,gcheck n hn es hl hR,bind1_some,if_neg (by simp),M63K1,next_eq n hn es hl hR,bind1_some,mk_ok _ (by omega),bind1_some,bind1_some,M63K2,tab_repl,e0,hx,bind1_some,heq]
structure Rinv (n:Nat) (es:List TE) (a:Int) (I:Int→Int) (q:List Int):Prop where
 qr:∀ x∈q,0≤x∧x < n∧TC es a x
 b:∀ x,I x=0∨I x=1
 ir:∀ x,I x=1→0≤x∧x < n∧TC es a x
 fst:∀ y,Ed es a y→I y=1∨y∈q
 nxt:∀ x,I x=1→∀ y,Ed es x y→I y=1∨y∈q
end Go.Proofs.YtlecphianicdhaaGreat
end
section
namespace Go.Proofs.YtlecphianicdhaaGreat
open Go.S
set_option linter.unusedVariables false
set_option linter.unusedSimpArgs false
theorem equalL (l:List Int) (hl:l.length≤1000000):∀ (r i:Nat),i+r=l.length→∀ m,r < m→M11L1 l l m (i:Int)=some true:=by
 intro r
 induction r with
 | zero =>
  intro i hi m hm
  obtain ⟨m,rfl⟩:=dec m hm
  rw [M11L1,M11L1B,if_neg (by omega),M11K2]
 | succ r ih =>
  intro i hi m hm
  obtain ⟨m,rfl⟩:=dec m (by omega)
  have h1:i < l.length:=by omega
  rw [M11L1,M11L1B,if_pos (by omega),idx_ok h1,bind1_some,bind1_some,if_neg (by simp),isucc i (by omega),bind1_some,ih (i+1) (by omega) m (by omega)]
theorem equal_self (l:List Int) (hl:l.length≤1000000):M11 l l=some true:=by
 rw [M11,if_neg (by simp),M11K1]
 exact equalL l hl l.length 0 (by omega) big (lt_big (by omega))
end Go.Proofs.YtlecphianicdhaaGreat
end
section
namespace Go.Proofs.YtlecphianicdhaaGreat
open Go.S
set_option linter.unusedVariables false
set_option linter.unusedSimpArgs false
section
variable {α ρ σ:Type} {keep:α→Bool} {l0:List α} {z:α} {S:Nat→σ}
theorem delS_loop {F:Nat→List α→Int→Int→σ→Option ρ} (hl:l0.length≤1000000) (K:List α→σ→Option ρ)
  (hend:∀ n (l:List α) (i:Nat),l.length=l0.length→F (n+1) l (i:Nat) (l.length:Nat) (S l0.length)=bind1 (cut l (i:Nat) l.length) fun _=>bind1 (clr l (i:Nat) z) fun l59=>bind1 (cut l59 0 (i:Nat)) fun l60=>K l60 (S l0.length))
  (hstep:∀ n (l:List α) (i j:Nat) (h:j < l.length) (h0:j < l0.length),l.length=l0.length→l[j]=l0[j]→F (n+1) l (i:Nat) (j:Nat) (S j)=if keep l0[j]=true then bind1 (idx l (i:Nat)) fun _=>bind1 (upd l (i:Nat) l0[j]) fun l67=>bind1 (i64 ((i:Nat)+1)) fun x68=>bind1 (i64 ((j:Nat)+1)) fun x69=>F n l67 x68 x69 (S (j+1)) else bind1 (i64 ((j:Nat)+1)) fun x70=>F n l (i:Nat) x70 (S (j+1))) :
  ∀ (r j:Nat),j+r=l0.length→∀ (l:List α) (i:Nat) (n:Nat),r < n→i < j→l.length=l0.length→l.take i=(l0.take j).filter keep→l.drop j=l0.drop j→F n l (i:Nat) (j:Nat) (S j)=K (l0.filter keep) (S l0.length):=by
 intro r
 induction r with
 | zero =>
  intro j hj l i n hn hij hll ht hd
  obtain ⟨n,rfl⟩:=dec n hn
  have e:j=l.length:=by omega
  subst e
  have e1:l0.take l.length=l0:=List.take_of_length_le (by omega)
  rw [e1] at ht
  have e2:(l.take i++List.replicate (l.length - i) z).take i=l.take i:=List.take_left' (by rw [List.length_take];omega)
  have e3:=hend n l i hll
  rw [← hll] at e3
  rw [e3,cut_drop _ _ (by omega),bind1_some,clr_ok _ _ _ (by omega),bind1_some,cut_take _ _ (by rw [List.length_append,List.length_take,List.length_replicate];omega),bind1_some,e2,ht,hll]
 | succ r ih =>
  intro j hj l i n hn hij hll ht hd
  obtain ⟨n,rfl⟩:=dec n (by omega)
  have h1:j < l.length:=by omega
  have h2:j < l0.length:=by omega
  have e1:l[j]=l0[j]:=by
   have h3:=congrArg List.head? hd
   rw [drop_cons h1,drop_cons h2] at h3
   exact Option.some.inj h3
  have e2:l.drop (j+1)=l0.drop (j+1):=by
   have h3:=congrArg List.tail hd
   rw [drop_cons h1,drop_cons h2] at h3
   exact h3
  rw [hstep n l i j h1 h2 hll e1]
  by_cases c:keep l0[j]=true
  ·rw [if_pos c,idx_ok (by omega),bind1_some,upd_ok _ (by omega),bind1_some,isucc i (by omega),bind1_some,isucc j (by omega),bind1_some]
   refine ih (j+1) (by omega) _ (i+1) n (by omega) (by omega) (by simpa using hll) ?_ ?_
   ·rw [take_snoc (by simp;omega),List.getElem_set_self,List.take_set_of_le (Nat.le_refl _),ht,take_snoc h2,List.filter_append]
    simp [c]
   ·rw [List.drop_set_of_lt (by omega),e2]
  ·rw [if_neg c,isucc j (by omega),bind1_some]
   refine ih (j+1) (by omega) l i n (by omega) (by omega) hll ?_ e2
   rw [ht,take_snoc h2,List.filter_append]
   simp [c]
theorem delS_all {F1:Nat→Int→σ→Option ρ} {F:Nat→List α→Int→Int→σ→Option ρ} (hl:l0.length≤1000000) (K:List α→σ→Option ρ)
  (hend:∀ n (l:List α) (i:Nat),l.length=l0.length→F (n+1) l (i:Nat) (l.length:Nat) (S l0.length)=bind1 (cut l (i:Nat) l.length) fun _=>bind1 (clr l (i:Nat) z) fun l59=>bind1 (cut l59 0 (i:Nat)) fun l60=>K l60 (S l0.length))
  (hstep:∀ n (l:List α) (i j:Nat) (h:j < l.length) (h0:j < l0.length),l.length=l0.length→l[j]=l0[j]→F (n+1) l (i:Nat) (j:Nat) (S j)=if keep l0[j]=true then bind1 (idx l (i:Nat)) fun _=>bind1 (upd l (i:Nat) l0[j]) fun l67=>bind1 (i64 ((i:Nat)+1)) fun x68=>bind1 (i64 ((j:Nat)+1)) fun x69=>F n l67 x68 x69 (S (j+1)) else bind1 (i64 ((j:Nat)+1)) fun x70=>F n l (i:Nat) x70 (S (j+1)))
  (hend1:∀ n,F1 (n+1) (l0.length:Nat) (S l0.length)=K l0 (S l0.length))
  (hstep1:∀ n i (h:i < l0.length),F1 (n+1) (i:Nat) (S i)=if keep l0[i]=true then bind1 (i64 ((i:Nat)+1)) fun x=>F1 n x (S (i+1)) else bind1 (i64 ((i:Nat)+1)) fun x=>F big l0 (i:Nat) x (S (i+1))):F1 big 0 (S 0)=K (l0.filter keep) (S l0.length):=by
 have key:∀ (r i:Nat),i+r=l0.length→(∀ q (h:q < l0.length),q < i→keep l0[q]=true)→∀ n,r < n→F1 n (i:Nat) (S i)=K (l0.filter keep) (S l0.length):=by
  intro r
  induction r with
  | zero =>
   intro i hi hk n hn
   obtain ⟨n,rfl⟩:=dec n hn
   obtain rfl:i=l0.length:=by omega
   rw [hend1,List.filter_eq_self.2]
   intro x hx
   obtain ⟨q,hq,rfl⟩:=List.getElem_of_mem hx
   exact hk q hq hq
  | succ r ih =>
   intro i hi hk n hn
   obtain ⟨n,rfl⟩:=dec n (by omega)
   have h1:i < l0.length:=by omega
   rw [hstep1 n i h1]
   by_cases c:keep l0[i]=true
   ·rw [if_pos c,isucc i (by omega),bind1_some]
    refine ih (i+1) (by omega) (fun q hq hqi=>?_) n (by omega)
    by_cases c2:q=i
    ·subst c2;exact c
    ·exact hk q hq (by omega)
   ·rw [if_neg c,isucc i (by omega),bind1_some]
    refine delS_loop hl K hend hstep (l0.length - (i+1)) (i+1) (by omega) l0 i big (lt_big (by omega)) (by omega) rfl ?_ rfl
    rw [take_snoc h1,List.filter_append,List.filter_eq_self.2]
    ·simp [c]
    ·intro x hx
     obtain ⟨q,hq,rfl⟩:=List.getElem_of_mem hx
     rw [List.getElem_take]
     rw [List.length_take] at hq
     exact hk q (by omega) (by omega)
 exact key l0.length 0 (by omega) (fun q h h2=>absurd h2 (by omega)) big (lt_big (by omega))
end
def from_ (x:Int) (e:TE):Bool:=decide (e.From=x)
def both_ (k x:Int) (e:TE):Bool:=decide (e.To=k) && decide (e.From=x)
variable {n:Nat} {es:List TE}
def leftD (es:List TE) (D:Int→Bool):List TE:=es.filter fun e=>!D e.To
def Wd (es:List TE) (D:Int→Bool) (x:Int):Int:=if D x=true then -1 else ((leftD es D).countP (from_ x):Int)
structure Dinv (es:List TE) (D:Int→Bool):Prop where
 cl:∀ x,D x=true→∀ y,Ed es x y→D y=true
 ac:∀ x,D x=true→¬ TC es x x
def nd (D:Int→Bool) (n:Nat):Nat:=wh (fun x=>if D x=true then 1 else 0) n
def addD (D:Int→Bool) (k:Int):Int→Bool:=fun x=>if x=k then true else D x
theorem leftD_mem {D:Int→Bool} {e:TE}:e∈leftD es D↔e∈es∧D e.To=false:=by
 unfold leftD
 rw [List.mem_filter,Bool.not_eq_true']
theorem Dinv.add {D:Int→Bool} (h:Dinv es D) {k:Int} (hk:Wd es D k=0):Dinv es (addD D k):=by
 have hkD:D k=false:=by
  cases q:D k with
  | false=>rfl
  | true=>rw [Wd,q,if_pos rfl] at hk;omega
 have hs:∀ y,Ed es k y→D y=true:=fun y hy=>by
  cases q:D y with
  | true=>rfl
  | false =>
   have h1:0 < (leftD es D).countP (from_ k):=List.countP_pos_iff.2 ⟨⟨k,y⟩,leftD_mem.2 ⟨hy,q⟩,by unfold from_;simp⟩
   rw [Wd,hkD,if_neg ff] at hk
   omega
 have hi:∀ {y},D y=true→addD D k y=true:=fun {y} q=>by unfold addD;split <;> first | rfl | exact q
 refine ⟨fun x hx y hy=>?_,fun x hx=>?_⟩
 ·by_cases c:x=k
  ·rw [c] at hy;exact hi (hs y hy)
  ·exact hi (h.cl x (by rw [addD,if_neg c] at hx;exact hx) y hy)
 ·by_cases c:x=k
  ·rw [c]
   intro ht
   have:D k=true:=by
    cases ht with
    | single h1=>exact hs k h1
    | tail h2 h1 =>
     have hb:∀ y,TC es k y→D y=true:=fun y hy=>by
      induction hy with
      | single g=>exact hs _ g
      | tail _ g ih=>exact h.cl _ (ih) _ g
     exact h.cl _ (hb _ h2) _ h1
   rw [hkD] at this
   cases this
  ·exact h.ac x (by rw [addD,if_neg c] at hx;exact hx)
def cb (P:Int→Bool) (n:Nat):Nat:=wh (fun x=>if P x=true then 0 else 1) n
def onLoop (n:Nat) (C:Int→Int→Bool) (x:Int):Prop:=C x x=true∨∃ i:Int,0≤i∧i < n∧C x i=true∧C i i=true
def anyI (P:Int→Bool):Nat→Nat→Bool
 | _,0=>false
 | i,r+1=>P (i:Int) || anyI P (i+1) r
def isD (n:Nat) (C:Int→Int→Bool) (k:Int):Bool:=C k k || anyI (fun i=>C k i && C i i) 0 n
end Go.Proofs.YtlecphianicdhaaGreat
end
section
namespace Go.Proofs.YtlecphianicdhaaGreat
open Go.S
set_option linter.unusedVariables false
set_option linter.unusedSimpArgs false
variable {n:Nat} {es:List TE}
def lst (p:List Int):Int:=(p[p.length - 1]?).getD 0
theorem lst_get {p:List Int} (h:p≠[]):∃ h1:p.length - 1 < p.length,lst p=p[p.length - 1]:=by
 have h1:p.length - 1 < p.length:=by
  have:=List.length_pos_iff.2 h
  omega
 exact ⟨h1,by rw [lst,List.getElem?_eq_getElem h1,Option.getD_some]⟩
theorem idx_lst {p:List Int} (h:p≠[]):idx p ((p.length - 1:Nat):Int)=some (lst p):=by
 obtain ⟨h1,h2⟩:=lst_get h
 rw [idx_ok h1,h2]
theorem lst_mem {p:List Int} (h:p≠[]):lst p∈p:=by
 obtain ⟨h1,h2⟩:=lst_get h
 rw [h2]
 exact List.getElem_mem h1
theorem lst_max {p:List Int} (h:p.Pairwise (· < ·)) {x:Int} (hx:x∈p):x≤lst p:=by
 obtain ⟨h1,h2⟩:=lst_get (List.ne_nil_of_mem hx)
 obtain ⟨i,hi,rfl⟩:=List.getElem_of_mem hx
 rw [h2]
 by_cases c:i=p.length - 1
 ·subst c;exact Int.le_refl _
 ·exact Int.le_of_lt (List.pairwise_iff_getElem.1 h i (p.length - 1) hi h1 (by omega))
def selfE (h:Int) (e:TE):Bool:=decide (e.From=e.To) && decide (e.From=h)
def qual (left:List TE) (p:List Int):Bool:=left.any (selfE (hd0 p)) || decide (1 < p.length)
def worst (left:List TE):List (List Int)→Int→Int
 | [],w=>w
 | p :: P,w=>worst left P (if qual left p=true then max w (lst p) else w)
theorem worst_spec (left:List TE):∀ (P:List (List Int)) (w:Int),w≤worst left P w∧(worst left P w=w∨∃ p∈P,qual left p=true∧worst left P w=lst p)∧∀ p∈P,qual left p=true→lst p≤worst left P w
 | [],w=>⟨Int.le_refl _,.inl rfl,by simp⟩
 | p :: P,w=>by
  obtain ⟨h1,h2,h3⟩:=worst_spec left P (if qual left p=true then max w (lst p) else w)
  rw [worst]
  by_cases c:qual left p=true
  ·rw [if_pos c] at h1 h2 h3 ⊢
   have m1:w≤max w (lst p):=Int.le_max_left ..
   have m2:lst p≤max w (lst p):=Int.le_max_right ..
   refine ⟨Int.le_trans m1 h1,?_,fun q hq hc=>?_⟩
   ·rcases h2 with h2 | ⟨q,q1,q2,q3⟩
    ·by_cases e:lst p≤w
     ·rw [Int.max_eq_left e] at h2;rw [Int.max_eq_left e];exact .inl h2
     ·rw [Int.max_eq_right (by omega)] at h2;rw [Int.max_eq_right (by omega)];exact .inr ⟨p,List.mem_cons_self ..,c,h2⟩
    ·exact .inr ⟨q,List.mem_cons_of_mem _ q1,q2,q3⟩
   ·rcases List.mem_cons.1 hq with e | e
    ·rw [e];exact Int.le_trans m2 h1
    ·exact h3 q e hc
  ·rw [if_neg c] at h1 h2 h3 ⊢
   refine ⟨h1,?_,fun q hq hc=>?_⟩
   ·rcases h2 with h2 | ⟨q,q1,q2,q3⟩
    ·exact .inl h2
    ·exact .inr ⟨q,List.mem_cons_of_mem _ q1,q2,q3⟩
   ·rcases List.mem_cons.1 hq with e | e
    ·rw [e] at hc;exact absurd hc c
    ·exact h3 q e hc
def rworst (C:Int→Int→Bool):Nat→Nat→Int→Int
 | _,0,w=>w
 | i,r+1,w=>rworst C (i+1) r (if C i i=true then (i:Int) else w)
theorem rworst_spec (C:Int→Int→Bool):∀ (r i:Nat) (w:Int),w < i→w≤rworst C i r w∧(rworst C i r w=w∨∃ k:Int,(i:Int)≤k∧k < i+r∧C k k=true∧rworst C i r w=k)∧∀ k:Int,(i:Int)≤k→k < i+r→C k k=true→k≤rworst C i r w
 | 0,i,w,h=>⟨Int.le_refl _,.inl rfl,fun k h1 h2=>by omega⟩
 | r+1,i,w,h=>by
  obtain ⟨h1,h2,h3⟩:=rworst_spec C r (i+1) (if C i i=true then (i:Int) else w) (by split <;> omega)
  rw [rworst]
  by_cases c:C i i=true
  ·rw [if_pos c] at h1 h2 h3 ⊢
   refine ⟨by omega,?_,fun k k1 k2 k3=>?_⟩
   ·rcases h2 with h2 | ⟨k,k1,k2,k3⟩
    ·exact .inr ⟨i,by omega,by omega,c,h2⟩
    ·exact .inr ⟨k,by omega,by omega,k3⟩
   ·by_cases e:k=i
    ·rw [e];exact h1
    ·exact h3 k (by omega) (by omega) k3
  ·rw [if_neg c] at h1 h2 h3 ⊢
   refine ⟨h1,?_,fun k k1 k2 k3=>?_⟩
   ·rcases h2 with h2 | ⟨k,k1,k2,k3⟩
    ·exact .inl h2
    ·exact .inr ⟨k,by omega,by omega,k3⟩
   ·by_cases e:k=i
    ·rw [e] at k3;exact absurd k3 c
    ·exact h3 k (by omega) (by omega) k3
theorem tc_head {i j:Int} (h:TC es i j):∃ y,Ed es i y∧Rch es y j:=by
 induction h with
 | single h1=>exact ⟨_,h1,Rch.refl _⟩
 | tail _ h1 ih =>
  obtain ⟨y,h2,h3⟩:=ih
  exact ⟨y,h2,h3.trans (Rch.edge h1)⟩
theorem worst_eq (hR:InR n es) (C:Int→Int→Bool) (hC:∀ i j,C i j=true↔TC es i j):worst es (refParts n C 0 n) (-1)=rworst C 0 n (-1):=by
 obtain ⟨h1,h2,h3⟩:=worst_spec es (refParts n C 0 n) (-1)
 obtain ⟨g1,g2,g3⟩:=rworst_spec C n 0 (-1) (by omega)
 refine Int.le_antisymm ?_ ?_
 ·rcases h2 with h2 | ⟨p,p1,p2,p3⟩
  ·rw [h2];exact g1
  ·rw [p3]
   obtain ⟨q,q1,q2,_,rfl⟩:=(refParts_mem n 0).1 p1
   have hne:part n C q≠[]:=List.ne_nil_of_mem (part_mem.2 ⟨by omega,by omega,.inl rfl⟩:q∈part n C q)
   have hl:=lst_mem hne
   obtain ⟨l0,l1,_⟩:=part_mem.1 hl
   have hmut:∀ x∈part n C q,∀ y∈part n C q,x=y∨TC es x y:=by
    intro x hx y hy
    obtain ⟨_,_,a⟩:=part_mem.1 hx
    obtain ⟨_,_,b⟩:=part_mem.1 hy
    rcases a with a | ⟨a1,a2⟩
    ·rcases b with b | ⟨b1,b2⟩
     ·exact .inl (a.trans b.symm)
     ·rw [a];exact .inr ((hC _ _).1 b2)
    ·rcases b with b | ⟨b1,b2⟩
     ·rw [b];exact .inr ((hC _ _).1 a1)
     ·exact .inr (((hC _ _).1 a1).trans ((hC _ _).1 b2))
   have hback:∀ y∈part n C q,y≠lst (part n C q)→C (lst (part n C q)) (lst (part n C q))=true:=by
    intro y hy hne2
    rcases hmut _ hl y hy with e | e
    ·exact absurd e.symm hne2
    ·rcases hmut y hy _ hl with e2 | e2
     ·exact absurd e2 hne2
     ·exact (hC _ _).2 (TC.trans e e2)
   refine g3 _ (by omega) (by omega) ?_
   rw [qual,Bool.or_eq_true] at p2
   rcases p2 with p2 | p2
   ·obtain ⟨e,e1,e2⟩:=List.any_eq_true.1 p2
    rw [selfE,Bool.and_eq_true] at e2
    have e3:=of_decide_eq_true e2.1
    have e4:=of_decide_eq_true e2.2
    have hh:=hd0_mem hne
    by_cases c:hd0 (part n C q)=lst (part n C q)
    ·rw [← c]
     refine (hC _ _).2 (.single ?_)
     have:(⟨e.From,e.To⟩:TE)∈es:=e1
     rw [← e3,e4] at this
     exact this
    ·exact hback _ hh c
   ·have hlen:=of_decide_eq_true p2
    have hlt:=selI_lt (P:=fun i=>decide (i=q) || C i q && C q i) n 0
    have hp:part n C q=selI (fun i=>decide (i=q) || C i q && C q i) 0 n:=rfl
    rw [← hp] at hlt
    obtain ⟨z1,z2⟩:=lst_get hne
    refine hback ((part n C q)[0]'(by omega)) (List.getElem_mem _) ?_
    rw [z2]
    have:=List.pairwise_iff_getElem.1 hlt 0 ((part n C q).length - 1) (by omega) z1 (by omega)
    omega
 ·rcases g2 with g2 | ⟨k,k1,k2,k3,k4⟩
  ·rw [g2];exact h1
  ·rw [k4]
   have hk:k∈part n C k:=part_mem.2 ⟨by omega,by omega,.inl rfl⟩
   have hne:=List.ne_nil_of_mem hk
   have hlt:=selI_lt (P:=fun i=>decide (i=k) || C i k && C k i) n 0
   have hp:part n C k=selI (fun i=>decide (i=k) || C i k && C k i) 0 n:=rfl
   rw [← hp] at hlt
   have hm:=hd0_mem hne
   have hsame:part n C (hd0 (part n C k))=part n C k:=by
    obtain ⟨_,_,a⟩:=part_mem.1 hm
    rcases a with a | ⟨a1,a2⟩
    ·rw [a]
    ·refine uniq id _ _ (selI_lt n 0) hlt fun x=>?_
     rw [part_mem,part_mem]
     have tr:∀ {x y z:Int},C x y=true→C y z=true→C x z=true:=fun p q=>(hC _ _).2 (TC.trans ((hC _ _).1 p) ((hC _ _).1 q))
     constructor
     ·rintro ⟨x0,x1,x2⟩
      refine ⟨x0,x1,?_⟩
      rcases x2 with x2 | ⟨x2,x3⟩
      ·rw [x2];exact .inr ⟨a1,a2⟩
      ·exact .inr ⟨tr x2 a1,tr a2 x3⟩
     ·rintro ⟨x0,x1,x2⟩
      refine ⟨x0,x1,?_⟩
      rcases x2 with x2 | ⟨x2,x3⟩
      ·rw [x2];exact .inr ⟨a2,a1⟩
      ·exact .inr ⟨tr x2 a2,tr a1 x3⟩
   have hin:part n C k∈refParts n C 0 n:=by
    obtain ⟨m0,m1,_⟩:=part_mem.1 hm
    exact (refParts_mem n 0).2 ⟨hd0 (part n C k),by omega,by omega,by rw [hsame],hsame.symm⟩
   refine Int.le_trans (lst_max hlt hk) (h3 _ hin ?_)
   rw [qual,Bool.or_eq_true]
   obtain ⟨y,y1,y2⟩:=tc_head ((hC k k).1 k3)
   by_cases c:1 < (part n C k).length
   ·exact .inr (decide_eq_true c)
   ·left
    have hpos:=List.length_pos_iff.2 hne
    obtain ⟨a,ha⟩:∃ a,part n C k=[a]:=List.length_eq_one_iff.1 (by omega)
    have hka:k=a:=by rw [ha] at hk;exact List.mem_singleton.1 hk
    have hyk:y=k:=by
     rcases y2 with e | e
     ·exact e
     ·obtain ⟨_,_,r1,r2⟩:=hR _ y1
      have:y∈part n C k:=part_mem.2 ⟨r1,r2,.inr ⟨(hC _ _).2 e,(hC _ _).2 (.single y1)⟩⟩
      rw [ha] at this
      rw [hka]
      exact List.mem_singleton.1 this
    rw [hyk] at y1
    refine List.any_eq_true.2 ⟨⟨k,k⟩,y1,?_⟩
    rw [selfE,ha]
    simp [hd0,hka]
theorem selfL {left:List TE} (hl:left.length≤2000) {p:List Int} (hp:p≠[]) (g:Int) (go4:Int→Int→Option (List Int×Int)) (w:Int):∀ (r i:Nat),i+r=left.length→∀ m,r < m →
  M38L5 left p g go4 w m (i:Int)=M38K13 p g go4 w ((left.drop i).any (selfE (hd0 p))):=by
 have h14:∀ b:Bool,M38K14 p g go4 w b=M38K13 p g go4 w b:=fun b=>by
  rw [M38K14]
  cases b with
  | true=>rw [if_pos rfl]
  | false=>rw [if_neg ff]
 intro r
 induction r with
 | zero =>
  intro i hi m hm
  obtain ⟨m,rfl⟩:=dec m hm
  rw [M38L5,M38L5B,if_neg (by omega),M38K16,M38K15,h14,List.drop_eq_nil_of_le (by omega)]
  rfl
 | succ r ih =>
  intro i hi m hm
  obtain ⟨m,rfl⟩:=dec m (by omega)
  have h1:i < left.length:=by omega
  have no:selfE (hd0 p) left[i]=false→bind1 (i64 ((i:Int)+1)) (fun x56=>M38L5 left p g go4 w m x56)=M38K13 p g go4 w ((left.drop i).any (selfE (hd0 p))):=fun c=>by
   rw [isucc i (by omega),bind1_some,ih (i+1) (by omega) m (by omega),drop_cons h1,List.any_cons,c,Bool.false_or]
  rw [M38L5,M38L5B,if_pos (by omega),idx_ok h1,bind1_some]
  by_cases c:left[i].From=left[i].To
  ·rw [if_pos c,idx_hd hp,bind1_some,M38K17]
   by_cases c2:left[i].From=hd0 p
   ·rw [if_pos (decide_eq_true c2),M38K15,decide_eq_true (show (0:Int)≤(i:Int) by omega),h14,drop_cons h1,List.any_cons]
    have:selfE (hd0 p) left[i]=true:=by rw [selfE,decide_eq_true c,decide_eq_true c2];rfl
    rw [this,Bool.true_or]
   ·rw [if_neg (by simp [c2])]
    exact no (by rw [selfE,decide_eq_false c2,Bool.and_false])
  ·rw [if_neg c,M38K17,if_neg ff]
   exact no (by rw [selfE,decide_eq_false c,Bool.false_and])
theorem k13 {left:List TE} {p:List Int} (hp:p≠[]) (hl:p.length≤1000000) (g:Int) (go4:Int→Int→Option (List Int×Int)) (w:Int) :
  M38K13 p g go4 w (left.any (selfE (hd0 p)))=M38K12 g go4 (if qual left p=true then max w (lst p) else w):=by
 have hpos:=List.length_pos_iff.2 hp
 rw [M38K13,qual]
 by_cases c:left.any (selfE (hd0 p))=true
 ·rw [if_pos c,c,Bool.true_or,if_pos rfl,ipred _ hpos (by omega),bind1_some,idx_lst hp,bind1_some]
  split <;> rfl
 ·rw [if_neg c,Bool.eq_false_iff.2 c,Bool.false_or]
  by_cases c2:1 < p.length
  ·rw [if_pos (by omega),ipred _ hpos (by omega),bind1_some,idx_lst hp,bind1_some,if_pos (decide_eq_true c2)]
  ·rw [if_neg (by omega),if_neg (by simpa using c2)]
theorem worstL {left:List TE} (hl:left.length≤2000) {P:List (List Int)} (hP:P.length≤1000000) (hp:∀ p∈P,p≠[]∧p.length≤1000000) (out:List Int) (go1:List TE→List Int→Option (List Int×Int)):∀ (r i:Nat),i+r=P.length→∀ (w:Int) m,r < m →
  M38L4 P left out go1 m (i:Int) w=M38K2 out left go1 (worst left (P.drop i) w):=by
 intro r
 induction r with
 | zero =>
  intro i hi w m hm
  obtain ⟨m,rfl⟩:=dec m hm
  rw [M38L4,M38L4B,if_neg (by omega),List.drop_eq_nil_of_le (by omega),worst]
 | succ r ih =>
  intro i hi w m hm
  obtain ⟨m,rfl⟩:=dec m (by omega)
  have h1:i < P.length:=by omega
  obtain ⟨hne,hpl⟩:=hp P[i] (List.getElem_mem h1)
  have h2:=selfL hl hne (i:Int) (M38L4 P left out go1 m) w left.length 0 (by omega) big (lt_big (by omega))
  rw [show ((0:Nat):Int)=0 from rfl,List.drop_zero] at h2
  rw [M38L4,M38L4B,if_pos (by omega),idx_ok h1,bind1_some,h2,k13 hne hpl,M38K12,isucc i (by omega),bind1_some,ih (i+1) (by omega) _ m (by omega),drop_cons h1,worst]
theorem rworstL (hn:n≤60) (C:Int→Int→Bool) (out:List Int) (left:List TE) (go1:List Int→List TE→Option (List Int)):∀ (r i:Nat),i+r=n→∀ (w:Int) m,r < m →
  M19L4 (n:Int) (tt n C) out left go1 m (i:Int) w=M19K1 out left go1 (rworst C i r w):=by
 intro r
 induction r with
 | zero =>
  intro i hi w m hm
  obtain ⟨m,rfl⟩:=dec m hm
  rw [M19L4,M19L4B,if_neg (by omega),rworst]
 | succ r ih =>
  intro i hi w m hm
  obtain ⟨m,rfl⟩:=dec m (by omega)
  have i0:(0:Int)≤(i:Int):=by omega
  have i1:(i:Int) < (n:Nat):=by omega
  rw [M19L4,M19L4B,if_pos i1,tt_idx i0 i1,bind1_some,tab_idx i0 i1,bind1_some,rworst]
  by_cases c:C i i=true
  ·rw [if_pos c,if_pos c,isucc i (by omega),bind1_some,ih (i+1) (by omega) _ m (by omega)]
  ·rw [if_neg c,if_neg c,isucc i (by omega),bind1_some,ih (i+1) (by omega) _ m (by omega)]
def apart (w:Int) (e:TE):Bool:=!(decide (e.From=w) || decide (e.To=w))
theorem cutP {left:List TE} (hl:left.length≤2000) (w:Int) (out:List Int) (go1:List TE→List Int→Option (List Int×Int)):M38L3 left w go1 out big 0=go1 (left.filter (apart w)) out:=by
 have b9:∀ {ρ:Type} (e:TE) (f:Bool→ρ),(if e.From=w then f true else f (decide (e.To=w)))=f (decide (e.From=w) || decide (e.To=w)):=fun e f=>by
  by_cases c:e.From=w
  ·rw [if_pos c,decide_eq_true c,Bool.true_or]
  ·rw [if_neg c,decide_eq_false c,Bool.false_or]
 refine delS_all (F1:=fun m i (_:Unit)=>M38L3 left w go1 out m i) (F:=fun m l i j _=>M38L2 w go1 out m l i j) (l0:=left) (keep:=apart w) (z:=⟨0,0⟩) (S:=fun _=>()) (by omega) (fun l _=>go1 l out) (fun m l i hl2=>?_) (fun m l i j hj hj0 hl2 hlj=>?_) (fun m=>?_) (fun m i hi=>?_)
 ·show M38L2 w go1 out (m+1) l (i:Int) (l.length:Int)=_
  rw [M38L2,M38L2B,if_neg (by omega),M38K7]
  rfl
 ·show M38L2 w go1 out (m+1) l (i:Int) (j:Int)=_
  rw [M38L2,M38L2B,if_pos (by omega),M38K8,idx_ok hj,bind1_some,b9,M38K9,hlj,apart]
  cases (decide (left[j].From=w) || decide (left[j].To=w)) with
  | true=>rw [if_pos rfl,if_neg (by simp)]
  | false=>rw [if_neg ff,if_pos (by simp)]
 ·show M38L3 left w go1 out (m+1) (left.length:Int)=_
  rw [M38L3,M38L3B,if_neg (by omega),M38K10,M38K5,if_pos rfl,M38K4]
 ·show M38L3 left w go1 out (m+1) (i:Int)=_
  rw [M38L3,M38L3B,if_pos (by omega),idx_ok hi,bind1_some,b9,M38K11,apart]
  cases (decide (left[i].From=w) || decide (left[i].To=w)) with
  | true=>rw [if_pos rfl,if_neg (by simp),M38K5,if_neg (by omega),M38K6]
  | false=>rw [if_neg ff,if_pos (by simp)]
theorem cutR {left:List TE} (hl:left.length≤2000) (w:Int) (out:List Int) (go1:List Int→List TE→Option (List Int)):M19L3 left w go1 out big 0=go1 out (left.filter (apart w)):=by
 have b9:∀ {ρ:Type} (e:TE) (f:Bool→ρ),(if e.From=w then f true else f (decide (e.To=w)))=f (decide (e.From=w) || decide (e.To=w)):=fun e f=>by
  by_cases c:e.From=w
  ·rw [if_pos c,decide_eq_true c,Bool.true_or]
  ·rw [if_neg c,decide_eq_false c,Bool.false_or]
 refine delS_all (F1:=fun m i (_:Unit)=>M19L3 left w go1 out m i) (F:=fun m l i j _=>M19L2 w go1 out m l i j) (l0:=left) (keep:=apart w) (z:=⟨0,0⟩) (S:=fun _=>()) (by omega) (fun l _=>go1 out l) (fun m l i hl2=>?_) (fun m l i j hj hj0 hl2 hlj=>?_) (fun m=>?_) (fun m i hi=>?_)
 ·show M19L2 w go1 out (m+1) l (i:Int) (l.length:Int)=_
  rw [M19L2,M19L2B,if_neg (by omega),M19K6]
  rfl
 ·show M19L2 w go1 out (m+1) l (i:Int) (j:Int)=_
  rw [M19L2,M19L2B,if_pos (by omega),M19K7,idx_ok hj,bind1_some,b9,M19K8,hlj,apart]
  cases (decide (left[j].From=w) || decide (left[j].To=w)) with
  | true=>rw [if_pos rfl,if_neg (by simp)]
  | false=>rw [if_neg ff,if_pos (by simp)]
 ·show M19L3 left w go1 out (m+1) (left.length:Int)=_
  rw [M19L3,M19L3B,if_neg (by omega),M19K9,M19K4,if_pos rfl,M19K3]
 ·show M19L3 left w go1 out (m+1) (i:Int)=_
  rw [M19L3,M19L3B,if_pos (by omega),idx_ok hi,bind1_some,b9,M19K10,apart]
  cases (decide (left[i].From=w) || decide (left[i].To=w)) with
  | true=>rw [if_pos rfl,if_neg (by simp),M19K4,if_neg (by omega),M19K5]
  | false=>rw [if_neg ff,if_pos (by simp)]
theorem vict (hn:n≤60):∀ (u:Nat) (left:List TE) (out:List Int),left.length≤u→out.length+left.length≤2000→InR n left→∀ m m',u < m→u < m' →
  ∃ z,M38L1 (n:Int) m left out=some (z,0)∧M19L1 (n:Int) m' out left=some z∧z.length≤2000∧z.Pairwise (·≤·)∧∀ x∈z,x∈out∨∃ e∈left,e.From=x:=by
 intro u
 induction u with
 | zero =>
  intro left out hu ho hR m m' hm hm'
  obtain rfl:left=[]:=List.eq_nil_of_length_eq_zero (by omega)
  obtain ⟨m,rfl⟩:=dec m hm
  obtain ⟨m',rfl⟩:=dec m' hm'
  obtain ⟨C,hC,hCe⟩:=closure_tc n hn [] (by simp) hR
  have hw:=worst_eq hR C hC
  have hpl:=refParts_len (n:=n) (C:=C) n 0
  have h4:=worstL (left:=[]) (by simp) (P:=refParts n C 0 n) (by omega) (fun p hp=>by
   obtain ⟨q,q1,q2,_,rfl⟩:=(refParts_mem n 0).1 hp
   exact ⟨List.ne_nil_of_mem (part_mem.2 ⟨by omega,by omega,.inl rfl⟩:q∈part n C q),Nat.le_trans (selI_len n 0) (by omega)⟩) out (M38L1 (n:Int) m) (refParts n C 0 n).length 0 (by omega) (-1) big (lt_big (by omega))
  have h5:=rworstL hn C out [] (M19L1 (n:Int) m') n 0 (by omega) (-1) big (lt_big (by omega))
  rw [show ((0:Nat):Int)=0 from rfl] at h4 h5
  rw [List.drop_zero,hw] at h4
  have hneg:rworst C 0 n (-1) < 0:=by
   obtain ⟨_,g2,_⟩:=rworst_spec C n 0 (-1) (by omega)
   rcases g2 with g2 | ⟨k,_,_,k3,_⟩
   ·omega
   ·obtain ⟨y,y1,_⟩:=tc_head ((hC k k).1 k3)
    cases y1
  have hs:=srt_length out
  refine ⟨srt out,?_,?_,by omega,srt_le out,fun x hx=>.inl (srt_mem.1 hx)⟩
  ·rw [M38L1,M38L1B,parts_eq hn (by simp) hR C hC,bind2_some,h4,M38K2,if_pos hneg,xSort_ok (by omega),bind1_some]
  ·rw [M19L1,M19L1B,hCe,bind1_some,h5,M19K1,if_pos hneg,xSort_ok (by omega),bind1_some]
 | succ u ih =>
  intro left out hu ho hR m m' hm hm'
  obtain ⟨m,rfl⟩:=dec m (by omega)
  obtain ⟨m',rfl⟩:=dec m' (by omega)
  have hl:left.length≤2000:=by omega
  obtain ⟨C,hC,hCe⟩:=closure_tc n hn left hl hR
  have hw:=worst_eq hR C hC
  have hpl:=refParts_len (n:=n) (C:=C) n 0
  have h4:=worstL (left:=left) hl (P:=refParts n C 0 n) (by omega) (fun p hp=>by
   obtain ⟨q,q1,q2,_,rfl⟩:=(refParts_mem n 0).1 hp
   exact ⟨List.ne_nil_of_mem (part_mem.2 ⟨by omega,by omega,.inl rfl⟩:q∈part n C q),Nat.le_trans (selI_len n 0) (by omega)⟩) out (M38L1 (n:Int) m) (refParts n C 0 n).length 0 (by omega) (-1) big (lt_big (by omega))
  have h5:=rworstL hn C out left (M19L1 (n:Int) m') n 0 (by omega) (-1) big (lt_big (by omega))
  rw [show ((0:Nat):Int)=0 from rfl] at h4 h5
  rw [List.drop_zero,hw] at h4
  obtain ⟨_,g2,_⟩:=rworst_spec C n 0 (-1) (by omega)
  have hs:=srt_length out
  by_cases hneg:rworst C 0 n (-1) < 0
  ·refine ⟨srt out,?_,?_,by omega,srt_le out,fun x hx=>.inl (srt_mem.1 hx)⟩
   ·rw [M38L1,M38L1B,parts_eq hn hl hR C hC,bind2_some,h4,M38K2,if_pos hneg,xSort_ok (by omega),bind1_some]
   ·rw [M19L1,M19L1B,hCe,bind1_some,h5,M19K1,if_pos hneg,xSort_ok (by omega),bind1_some]
  ·obtain ⟨k,k1,k2,k3,k4⟩:=g2.resolve_left (by omega)
   generalize rworst C 0 n (-1)=w at *
   subst k4
   obtain ⟨y,y1,_⟩:=tc_head ((hC w w).1 k3)
   have hlt:(left.filter (apart w)).length < left.length:=by
    refine List.length_filter_lt_length_iff_exists.2 ⟨⟨w,y⟩,y1,?_⟩
    simp [apart]
   obtain ⟨z,z1,z2,z3,z4,z5⟩:=ih (left.filter (apart w)) (out++[w]) (by omega) (by simp only [List.length_append,List.length_cons,List.length_nil];omega) (fun e he=>hR e (List.mem_filter.1 he).1) m m' (by omega) (by omega)
   have hap:app out [w]=some (out++[w]):=app_ok (by simp only [List.length_cons,List.length_nil];omega)
   refine ⟨z,?_,?_,z3,z4,fun x hx=>?_⟩
   rotate_right
   ·rcases z5 x hx with h | ⟨e,he,hx⟩
    ·rcases List.mem_append.1 h with h | h
     ·exact .inl h
     ·exact .inr ⟨_,y1,(List.mem_singleton.1 h).symm⟩
    ·exact .inr ⟨e,(List.mem_filter.1 he).1,hx⟩
   ·rw [M38L1,M38L1B,parts_eq hn hl hR C hC,bind2_some,h4,M38K2,if_neg hneg,M38K3,hap,bind1_some,cutP hl,z1]
   ·rw [M19L1,M19L1B,hCe,bind1_some,h5,M19K1,if_neg hneg,M19K2,hap,bind1_some,cutR hl,z2]
theorem vict_eq (hn:n≤60) (hl:es.length≤2000) (hR:InR n es):∃ z,M38 (n:Int) es=some (z,0)∧M19 (n:Int) es=some z∧z.length≤2000∧z.Pairwise (·≤·)∧∀ x∈z,∃ e∈es,e.From=x:=by
 obtain ⟨z,h1,h2,h3,h4,h5⟩:=vict hn es.length es [] (Nat.le_refl _) (by simp only [List.length_nil];omega) hR big big (lt_big (by omega)) (lt_big (by omega))
 have hcl:M42 es=some es:=by
  rw [M42,app_ok (by simp only [List.length_nil];omega),bind1_some,List.nil_append]
 refine ⟨z,?_,?_,h3,h4,fun x hx=>(h5 x hx).resolve_left (by simp)⟩
 ·rw [M38,gcheck n hn es hl hR,bind1_some,if_neg (by simp),M38K1,hcl,bind1_some,h1]
 ·rw [M19,hcl,bind1_some,h2]
end Go.Proofs.YtlecphianicdhaaGreat
end
section
namespace Go.Proofs.YtlecphianicdhaaGreat
open Go.S
set_option linter.unusedVariables false
set_option linter.unusedSimpArgs false
def Qs (t:List TI):List Int:=t.flatMap fun x=>x.Queue.map TL.Tx
theorem Qs_cons (x:TI) (t:List TI):Qs (x :: t)=x.Queue.map TL.Tx++Qs t:=rfl
theorem Qs_snoc (t:List TI) (x:TI):Qs (t++[x])=Qs t++x.Queue.map TL.Tx:=by simp [Qs]
theorem Qs_mem {t:List TI} {a:Int}:a∈Qs t↔∃ x∈t,∃ q∈x.Queue,q.Tx=a:=by simp [Qs]
theorem Qs_rng {t:List TI} (hg:Good t) {a:Int} (h:a∈Qs t):0≤a∧a < 12:=by
 obtain ⟨x,hx,q,hq,rfl⟩:=Qs_mem.1 h
 exact tx_in (hg.rt x hx).queue hq
theorem late_count (H Q:List TL) (a:TL) (c:Int):((lateS H Q a).map TL.Tx).count c=(Q.map TL.Tx).count c+if c=a.Tx then 1 else 0:=by
 have h1:∀ (A B:List TL),((A++[a]++B).map TL.Tx).count c=((A++B).map TL.Tx).count c+if c=a.Tx then 1 else 0:=by
  intro A B
  simp only [List.map_append,List.map_cons,List.map_nil,List.count_append,List.count_cons,List.count_nil,beq_iff_eq]
  by_cases h:c=a.Tx
  ·rw [if_pos h,if_pos h.symm];omega
  ·rw [if_neg h,if_neg (Ne.symm h)];omega
 unfold lateS
 split
 ·rw [h1,List.take_append_drop]
 ·have:=h1 Q []
  simpa using this
theorem ins_q (item:Int) (a:TL) (c:Int):∀ t:List TI,(Qs (insS item a t).1).count c=(Qs t).count c+if (insS item a t).2=false∧c=a.Tx then 1 else 0
 | []=>by simp [insS,Qs]
 | x :: t=>by
  unfold insS
  split
  ·simp [Qs]
  ·split
   ·unfold askedS
    split
    ·simp [Qs]
    ·simp only [Qs_cons,List.count_append,late_count,true_and]
     omega
   ·simp only [Qs_cons,List.count_append,ins_q item a c t]
    omega
theorem any_q {t:List TI} {tx:Int}:(t.any fun x=>hasTx x.Queue tx)=true↔tx∈Qs t:=by
 rw [Qs_mem,List.any_eq_true]
 exact ⟨fun ⟨x,hx,h⟩=>⟨x,hx,hasTx_true.1 h⟩,fun ⟨x,hx,h⟩=>⟨x,hx,hasTx_true.2 h⟩⟩
theorem dropQ_q (c:Int):∀ (Q H:List TL) (g:List Int),(dropQ H Q g).2.2.count c+((dropQ H Q g).2.1.map TL.Tx).count c=g.count c+(Q.map TL.Tx).count c
 | [],H,g=>by simp [dropQ]
 | q :: Q,H,g=>by
  unfold dropQ
  split
  ·rw [dropQ_q c Q]
   simp only [List.count_append,List.map_cons,List.count_cons,List.count_nil,beq_iff_eq]
   omega
  ·rfl
theorem without_q (l:List TL) (tx c:Int):((without l tx).map TL.Tx).count c=if c=tx then 0 else (l.map TL.Tx).count c:=by
 induction l with
 | nil=>simp [without]
 | cons x l ih =>
  unfold without at ih ⊢
  by_cases h:x.Tx=tx
  ·rw [List.filter_cons_of_neg (by simp [h]),ih]
   by_cases hc:c=tx
   ·rw [if_pos hc,if_pos hc]
   ·rw [if_neg hc,if_neg hc,List.map_cons,List.count_cons_of_ne (by rw [h];exact Ne.symm hc)]
  ·rw [List.filter_cons_of_pos (by simp [h]),List.map_cons,List.count_cons,ih,List.map_cons,List.count_cons]
   by_cases hc:c=tx
   ·subst hc
    rw [if_pos rfl,if_pos rfl]
    simp [h]
   ·rw [if_neg hc,if_neg hc]
theorem dropT_q (tx c:Int):∀ (t out:List TI) (g:List Int),(dropT tx t out g).2.count c+(Qs (dropT tx t out g).1).count c≤g.count c+(Qs out).count c+if c=tx then 0 else (Qs t).count c
 | [],out,g=>by simp [dropT]
 | x :: t,out,g=>by
  unfold dropT
  have h1:=dropQ_q c (without x.Queue tx) (without x.Held tx) g
  rw [without_q] at h1
  have h2:=dropT_q tx c t (if (dropQ (without x.Held tx) (without x.Queue tx) g).1.isEmpty=true then out else out++[⟨x.Item,(dropQ (without x.Held tx) (without x.Queue tx) g).1,(dropQ (without x.Held tx) (without x.Queue tx) g).2.1⟩]) (dropQ (without x.Held tx) (without x.Queue tx) g).2.2
  have h3:(Qs (if (dropQ (without x.Held tx) (without x.Queue tx) g).1.isEmpty=true then out else out++[⟨x.Item,(dropQ (without x.Held tx) (without x.Queue tx) g).1,(dropQ (without x.Held tx) (without x.Queue tx) g).2.1⟩])).count c≤(Qs out).count c+((dropQ (without x.Held tx) (without x.Queue tx) g).2.1.map TL.Tx).count c:=by
   split
   ·omega
   ·rw [Qs_snoc,List.count_append];exact Nat.le_refl _
  rw [Qs_cons,List.count_append]
  by_cases hc:c=tx
  ·rw [if_pos hc] at h1 h2 ⊢;omega
  ·rw [if_neg hc] at h1 h2 ⊢;omega
theorem drop_q (t:List TI) (tx c:Int):(dropS t tx).2.count c+(Qs (dropS t tx).1).count c≤if c=tx then 0 else (Qs t).count c:=by
 have:=dropT_q tx c t [] []
 unfold dropS
 simpa [Qs] using this
theorem rowE_mem {T:Int→Int→Bool} {a:Int} {e:TE}:∀ (r b:Nat),e∈rowE T a b r→e.From=a∧(b:Int)≤e.To∧e.To < b+r∧T a e.To=true
 | 0,b,h=>by simp [rowE] at h
 | r+1,b,h=>by
  unfold rowE at h
  rcases List.mem_append.1 h with h | h
  ·split at h
   ·rename_i hT
    rw [List.mem_singleton.1 h]
    exact ⟨rfl,by simp,by simp only;omega,hT⟩
   ·cases h
  ·obtain ⟨h1,h2,h3,h4⟩:=rowE_mem r (b+1) h
   exact ⟨h1,by omega,by omega,h4⟩
theorem allE_mem {T:Int→Int→Bool} {e:TE}:∀ (r a:Nat),e∈allE T a r→(a:Int)≤e.From∧e.From < a+r∧0≤e.To∧e.To < 12∧T e.From e.To=true
 | 0,a,h=>by simp [allE] at h
 | r+1,a,h=>by
  unfold allE at h
  rcases List.mem_append.1 h with h | h
  ·obtain ⟨h1,h2,h3,h4⟩:=rowE_mem 12 0 h
   rw [h1]
   exact ⟨by omega,by omega,by omega,by omega,h4⟩
  ·obtain ⟨h1,h2,h3⟩:=allE_mem r (a+1) h
   exact ⟨by omega,by omega,h3⟩
theorem rq_mem {x:TI} {a b:Int}:∀ (Q:List TL) (i:Nat),rq x a b i Q=true→∃ q∈Q,q.Tx=a
 | [],i,h=>by simp [rq] at h
 | w :: Q,i,h=>by
  unfold rq at h
  split at h
  ·rename_i hw;exact ⟨w,by simp,hw⟩
  ·obtain ⟨q,hq,h⟩:=rq_mem Q (i+1) h
   exact ⟨q,by simp [hq],h⟩
theorem waits_from {t:List TI} {e:TE} (h:e∈waitsS t):e.From∈Qs t:=by
 obtain ⟨_,_,_,_,h⟩:=allE_mem 12 0 h
 obtain ⟨x,hx,h⟩:=List.any_eq_true.1 h
 obtain ⟨q,hq,h⟩:=rq_mem _ _ h
 exact Qs_mem.2 ⟨x,hx,q,hq,h⟩
theorem waits_in (t:List TI):InR 12 (waitsS t):=fun e he=>by
 obtain ⟨h1,h2,h3,h4,_⟩:=allE_mem 12 0 he
 exact ⟨by omega,by omega,h3,by omega⟩
theorem waits_len (t:List TI):(waitsS t).length≤144:=allE_len _ 12 0
theorem victims {t:List TI}:∃ z,M38 12 (waitsS t)=some (z,0)∧M19 12 (waitsS t)=some z∧z.length≤2000∧z.Pairwise (·≤·)∧∀ x∈z,x∈Qs t:=by
 obtain ⟨z,h1,h2,h3,h4,h5⟩:=vict_eq (n:=12) (by omega) (Nat.le_trans (waits_len t) (by omega)) (waits_in t)
 refine ⟨z,h1,h2,h3,h4,fun x hx=>?_⟩
 obtain ⟨e,he,rfl⟩:=h5 x hx
 exact waits_from he
theorem maxL {z:List Int} (hs:z.Pairwise (·≤·)) (hl:z.length≤1000000):∀ (r i:Nat) (h:i < z.length),i+1+r=z.length→∀ m,r < m→M21L1 z m z[i] ((i+1:Nat):Int)=some (z[z.length - 1]'(by omega)):=by
 intro r
 induction r with
 | zero =>
  intro i h hi m hm
  obtain ⟨m,rfl⟩:=dec m hm
  rw [M21L1,M21L1B,if_neg (by omega),M21K2]
  congr 1
  congr 1
  omega
 | succ r ih =>
  intro i h hi m hm
  obtain ⟨m,rfl⟩:=dec m (by omega)
  have h1:i+1 < z.length:=by omega
  have h2:z[i]≤z[i+1]:=List.pairwise_iff_getElem.1 hs i (i+1) h h1 (by omega)
  rw [M21L1,M21L1B,if_pos (by omega),idx_ok h1,bind1_some,isucc (i+1) (by omega),bind1_some,Int.max_eq_right h2,ih (i+1) h1 (by omega) m (by omega)]
theorem max_last {z:List Int} (hs:z.Pairwise (·≤·)) (hl:z.length≤1000000) (h:0 < z.length):M21 z=some (z[z.length - 1]'(by omega)):=by
 have h0:idx z 0=some z[0]:=idx_ok (i:=0) h
 have h1:=maxL hs hl (z.length - 1) 0 h (by omega) big (lt_big (by omega))
 rw [M21,if_neg (by omega),M21K1,h0,bind1_some]
 exact h1
end Go.Proofs.YtlecphianicdhaaGreat
end
section
namespace Go.Proofs.YtlecphianicdhaaGreat
open Go.S
set_option linter.unusedVariables false
set_option linter.unusedSimpArgs false
section
variable {α:Type} {l:List (Int×List α)} {a k:Int} {x:List α}
theorem msGet_eq (l:List (Int×List α)) (k:Int):msGet l k=if mhas l k=true then some (mget l k []) else none:=by
 unfold msGet mget
 cases hf:l.find? (fun p=>decide (p.1=k)) with
 | none =>
  have:mhas l k=false:=by
   unfold mhas
   rw [List.any_eq_false]
   exact fun p hp=>List.find?_eq_none.1 hf p hp
  rw [this];rfl
 | some p =>
  have h1:=List.mem_of_find?_eq_some hf
  have h2:=List.find?_some hf
  rw [if_pos (show mhas l k=true from List.any_eq_true.2 ⟨p,h1,h2⟩)];rfl
theorem mhas_mset:mhas (mset l a x) k=(mhas l k || decide (k=a)):=by
 unfold mset
 split
 ·rename_i hh
  by_cases h:k=a
  ·subst h
   rw [hh]
   obtain ⟨p,hp,hpa⟩:=List.any_eq_true.1 hh
   simp only [decide_true,Bool.or_true]
   exact List.any_eq_true.2 ⟨(k,x),List.mem_map.2 ⟨p,hp,by simp [show p.1=k by simpa using hpa]⟩,by simp⟩
  ·rw [decide_eq_false h,Bool.or_false]
   unfold mhas
   rw [List.any_map]
   congr 1
   funext p
   simp only [Function.comp]
   by_cases hp:p.1=a
   ·simp [hp,Ne.symm h]
   ·simp [hp]
 ·simp only [mhas,List.any_append,List.any_cons,List.any_nil,Bool.or_false]
  congr 1
  rw [decide_eq_decide]
  exact eq_comm
theorem mhas_mdel:mhas (mdel l a) k=(mhas l k && !decide (k=a)):=by
 unfold mhas mdel
 rw [List.any_filter]
 by_cases h:k=a
 ·subst h
  simp only [decide_true,Bool.not_true,Bool.and_false]
  rw [List.any_eq_false]
  intro p _
  cases decide (p.1=k) <;> simp
 ·simp only [decide_eq_false h,Bool.not_false,Bool.and_true]
  congr 1
  funext p
  by_cases hp:p.1=k
  ·have:p.1≠a:=fun c=>h (hp.symm.trans c)
   simp [hp,h]
  ·simp [hp]
theorem msGet_mset:msGet (mset l a x) k=if k=a then some x else msGet l k:=by
 rw [msGet_eq,msGet_eq,mhas_mset,mget_mset]
 by_cases h:k=a
 ·simp [h]
 ·simp [h]
theorem msGet_mdel:msGet (mdel l a) k=if k=a then none else msGet l k:=by
 rw [msGet_eq,msGet_eq,mhas_mdel,mget_mdel]
 by_cases h:k=a
 ·simp [h]
 ·simp [h]
theorem mhas_get:mhas l k=(msGet l k).isSome:=by
 rw [msGet_eq]
 split
 ·rename_i h;rw [h];rfl
 ·rename_i h;simpa using h
end
def setL (L:Int→List TOp) (a:Int) (v:List TOp):Int→List TOp:=fun i=>if i=a then v else L i
def sumN (L:Int→List TOp):Nat→Nat
 | 0=>0
 | n+1=>sumN L n+(L (n:Int)).length
abbrev sumL (L:Int→List TOp):Nat:=sumN L 12
theorem sumN_set (L:Int→List TOp) (a:Int) (v:List TOp):∀ n:Nat,sumN (setL L a v) n+(if 0≤a∧a < n then (L a).length else 0)=sumN L n+if 0≤a∧a < n then v.length else 0
 | 0=>by
  rw [if_neg (by omega),if_neg (by omega)];rfl
 | n+1=>by
  have:=sumN_set L a v n
  have e:setL L a v (n:Int)=if (n:Int)=a then v else L n:=rfl
  rw [sumN,sumN,e]
  by_cases h:(n:Int)=a
  ·rw [if_neg (by omega),if_neg (by omega)] at this
   rw [if_pos h,if_pos (by omega),if_pos (by omega),h]
   omega
  ·rw [if_neg h]
   by_cases h2:0≤a∧a < n
   ·rw [if_pos h2,if_pos h2] at this
    rw [if_pos (by omega),if_pos (by omega)]
    omega
   ·rw [if_neg h2,if_neg h2] at this
    rw [if_neg (by omega),if_neg (by omega)]
    omega
theorem sum_set {L:Int→List TOp} {a:Int} (v:List TOp) (h0:0≤a) (h1:a < 12):sumL (setL L a v)+(L a).length=sumL L+v.length:=by
 have:=sumN_set L a v 12
 rwa [if_pos (by omega),if_pos (by omega)] at this
theorem sum_le {L:Int→List TOp} {a:Int} (h0:0≤a) (h1:a < 12):(L a).length≤sumL L:=by
 have:=sum_set (L:=L) [] h0 h1
 simp only [List.length_nil] at this
 omega
structure OkOp (o:TOp):Prop where
 t0:0≤o.Tx
 t1:o.Tx < 12
 i0:0≤o.Item
 i1:o.Item≤19
def RL (L:Int→List TOp) (lm:List (Int×List TOp)):Prop:=∀ k:Int,0≤k→k < 12→msGet lm k=if (L k).isEmpty=true then none else some (L k)
def RD (D:Int→Bool) (dm:List (Int×Int)):Prop:=∀ k:Int,0≤k→k < 12→(0 < mget dm k 0↔D k=true)
structure Wv (t:List TI) (L:Int→List TOp) (P:List Int):Prop where
 good:Good t
 one:∀ a,P.count a+(Qs t).count a≤1
 late:∀ a,a∈P∨a∈Qs t→L a≠[]
 own:∀ a:Int,0≤a→a < 12→∀ o∈L a,OkOp o
 rng:∀ a∈P,0≤a∧a < 12
theorem RL.has {L:Int→List TOp} {lm:List (Int×List TOp)} (h:RL L lm) {k:Int} (h0:0≤k) (h1:k < 12):mhas lm k=true↔L k≠[]:=by
 rw [mhas_get,h k h0 h1]
 cases L k with
 | nil=>simp
 | cons x l=>simp
theorem RL.get {L:Int→List TOp} {lm:List (Int×List TOp)} (h:RL L lm) {k:Int} (h0:0≤k) (h1:k < 12) (hn:L k≠[]):msGet lm k=some (L k):=by
 rw [h k h0 h1,if_neg (by simpa using hn)]
theorem RL.set {L:Int→List TOp} {lm:List (Int×List TOp)} (h:RL L lm) (a:Int) {v:List TOp} (hv:v≠[]):RL (setL L a v) (mset lm a v):=fun k h0 h1=>by
 rw [msGet_mset]
 unfold setL
 by_cases c:k=a
 ·rw [if_pos c,if_pos c,if_neg (by simpa using hv)]
 ·rw [if_neg c,if_neg c];exact h k h0 h1
theorem RL.del {L:Int→List TOp} {lm:List (Int×List TOp)} (h:RL L lm) (a:Int):RL (setL L a []) (mdel lm a):=fun k h0 h1=>by
 rw [msGet_mdel]
 unfold setL
 by_cases c:k=a
 ·rw [if_pos c,if_pos c];rfl
 ·rw [if_neg c,if_neg c];exact h k h0 h1
theorem RD.kill {D:Int→Bool} {dm:List (Int×Int)} (h:RD D dm) (a:Int):RD (fun i=>if i=a then true else D i) (mset dm a 1):=fun k h0 h1=>by
 rw [mget_mset]
 by_cases c:k=a
 ·simp [c]
 ·simpa [c] using h k h0 h1
abbrev CS:=List TI×List (List TOp)×List Bool×List TOp
abbrev RS:=List TI×List (Int×List TOp)×List (Int×Int)×List TOp
abbrev CT:=List TI→List (List TOp)→List Bool→List TOp→TOp→Option CS
abbrev RT:=List TI→List (Int×List TOp)→List (Int×Int)→List TOp→TOp→Option RS
def Res (P:List Int) (o0:Nat) (B:Nat) (c:Option CS) (d:Option RS):Prop :=
 ∃ t L D out lm dm,c=some (t,tab 12 L,tab 12 D,out)∧d=some (t,lm,dm,out)∧RL L lm∧RD D dm∧Wv t L P∧out.length+sumL L≤B∧o0≤out.length
def bnd:Nat:=100000
def HR (s:Nat) (rec:CT) (rec':RT):Prop:=∀ (t:List TI) (L:Int→List TOp) (D:Int→Bool) (out:List TOp) (lm:List (Int×List TOp)) (dm:List (Int×Int)) (P:List Int) (o:TOp),
 RL L lm→RD D dm→Wv t L P→OkOp o→sumL L < s→out.length+sumL L≤bnd→Res P out.length (out.length+sumL L+1) (rec t (tab 12 L) (tab 12 D) out o) (rec' t lm dm out o)
section
variable {s:Nat} {rec:CT} {rec':RT}
theorem takesL (hr:HR s rec rec') {l:List TOp} (hl:l.length≤bnd) (ho:∀ o∈l,OkOp o) (g:Int) (go1:Int→List TI→List TOp→List (Int×List TOp)→List (Int×Int)→Option RS) (P:List Int):∀ (r i:Nat),i+r=l.length→∀ m m',r < m→r < m' →
  ∀ (t:List TI) (L:Int→List TOp) (D:Int→Bool) (out:List TOp) (lm:List (Int×List TOp)) (dm:List (Int×Int)),RL L lm→RD D dm→Wv t L P→sumL L+r≤s→out.length+sumL L+r≤bnd+1 →
  ∃ t' L' D' out' lm' dm',M23L1 l rec m (i:Int) t (tab 12 L) (tab 12 D) out=some (t',tab 12 L',tab 12 D',out') ∧
   M17L2 l rec' g go1 m' (i:Int) t out lm dm=M17K1 g go1 t' out' lm' dm'∧RL L' lm'∧RD D' dm'∧Wv t' L' P∧out'.length+sumL L'≤out.length+sumL L+r∧out.length≤out'.length:=by
 intro r
 have hbnd:bnd=100000:=rfl
 induction r with
 | zero =>
  intro i hi m m' hm hm' t L D out lm dm h1 h2 h3 h4 h5
  obtain ⟨m,rfl⟩:=dec m hm
  obtain ⟨m',rfl⟩:=dec m' hm'
  rw [M23L1,M23L1B,M17L2,M17L2B,if_neg (by omega),if_neg (by omega)]
  exact ⟨t,L,D,out,lm,dm,rfl,rfl,h1,h2,h3,by omega,by omega⟩
 | succ r ih =>
  intro i hi m m' hm hm' t L D out lm dm h1 h2 h3 h4 h5
  obtain ⟨m,rfl⟩:=dec m (by omega)
  obtain ⟨m',rfl⟩:=dec m' (by omega)
  have hil:i < l.length:=by omega
  obtain ⟨t1,L1,D1,out1,lm1,dm1,e1,e2,g1,g2,g3,g4,g5⟩:=hr t L D out lm dm P l[i] h1 h2 h3 (ho _ (List.getElem_mem hil)) (by omega) (by omega)
  rw [M23L1,M23L1B,M17L2,M17L2B,if_pos (by omega),if_pos (by omega),idx_ok hil,bind1_some,bind1_some,e1,e2,bind4_some,bind4_some,isucc i (by omega),bind1_some,bind1_some]
  obtain ⟨t',L',D',out',lm',dm',f1,f2,f3,f4,f5,f6,f7⟩:=ih (i+1) (by omega) m m' (by omega) (by omega) t1 L1 D1 out1 lm1 dm1 g1 g2 g3 (by omega) (by omega)
  exact ⟨t',L',D',out',lm',dm',f1,f2,f3,f4,f5,by omega,by omega⟩
theorem Wv.wake {t:List TI} {L:Int→List TOp} {k:Int} {P:List Int} (h:Wv t L (k :: P)):Wv t (setL L k []) P:=by
 have hk:P.count k=0∧(Qs t).count k=0:=by
  have:=h.one k
  rw [List.count_cons_self] at this
  omega
 refine ⟨h.good,fun a=>?_,fun a ha=>?_,fun a h0 h1 o ho=>?_,fun a ha=>h.rng a (List.mem_cons_of_mem _ ha)⟩
 ·have:=h.one a
  rw [List.count_cons] at this
  omega
 ·have hne:a≠k:=by
   rintro rfl
   rcases ha with ha | ha
   ·exact absurd hk.1 (by rw [List.count_eq_zero];simpa using ha)
   ·exact absurd hk.2 (by rw [List.count_eq_zero];simpa using ha)
  unfold setL
  rw [if_neg hne]
  exact h.late a (ha.imp (List.mem_cons_of_mem _) id)
 ·unfold setL at ho
  split at ho
  ·cases ho
  ·exact h.own a h0 h1 o ho
theorem wakes (hr:HR s rec rec') {P:List Int} {k:Int} (g:Int) (go1:Int→List TI→List TOp→List (Int×List TOp)→List (Int×Int)→Option RS) {t:List TI} {L:Int→List TOp} {D:Int→Bool} {out:List TOp} {lm:List (Int×List TOp)} {dm:List (Int×Int)}
  (h1:RL L lm) (h2:RD D dm) (h3:Wv t L (k :: P)) (h4:sumL L≤s+1) (h5:out.length+sumL L≤bnd+1) :
  ∃ t' L' D' out' lm' dm',M23 rec t (tab 12 L) (tab 12 D) out k=some (t',tab 12 L',tab 12 D',out') ∧
   (bind1 (msGet lm k) fun l18=>bind1 (idx l18 0) fun x32=>bind1 (app out ([x32])) fun l35=>bind1 (cut l18 1 l18.length) fun l37=>M17L2 l37 rec' g go1 big 0 t l35 (mdel lm k) dm)=M17K1 g go1 t' out' lm' dm' ∧
   RL L' lm'∧RD D' dm'∧Wv t' L' P∧out'.length+sumL L'≤out.length+sumL L∧out.length+1≤out'.length:=by
 have hbnd:bnd=100000:=rfl
 obtain ⟨k0,k1⟩:=h3.rng k List.mem_cons_self
 have hne:L k≠[]:=h3.late k (.inl List.mem_cons_self)
 have hsum:=sum_set (L:=L) [] k0 k1
 simp only [List.length_nil,Nat.add_zero] at hsum
 obtain ⟨x,l,hx⟩:=List.exists_cons_of_ne_nil hne
 have hidx:idx (L k) 0=some x:=by rw [hx];rfl
 have hcut:cut (L k) 1 (L k).length=some l:=by
  have:=cut_drop (L k) 1 (by rw [hx];simp)
  rw [show ((1:Nat):Int)=1 from rfl] at this
  rw [this,hx];rfl
 have hll:(L k).length=l.length+1:=by rw [hx];rfl
 have happ:app out [x]=some (out++[x]):=app_ok (by simp only [List.length_cons,List.length_nil];omega)
 obtain ⟨t',L',D',out',lm',dm',f1,f2,f3,f4,f5,f6,f7⟩:=takesL hr (l:=l) (by omega) (fun o ho=>h3.own k k0 k1 o (by rw [hx];exact List.mem_cons_of_mem _ ho)) g go1 P l.length 0 (by omega) big big (lt_big (by omega)) (lt_big (by omega)) t (setL L k []) D (out++[x]) (mdel lm k) dm (h1.del k) h2 h3.wake (by omega)
  (by simp only [List.length_append,List.length_cons,List.length_nil];omega)
 simp only [List.length_append,List.length_cons,List.length_nil] at f6 f7
 refine ⟨t',L',D',out',lm',dm',?_,?_,f3,f4,f5,by omega,by omega⟩
 ·rw [M23,arrN_ok (tab_length _ _),bind1_some,arrN_ok (tab_length _ _),bind1_some,tab_idxA k0 (by omega),bind1_some,hidx,bind1_some,happ,bind1_some,bind1_some,hcut,bind1_some,bind1_some,tab_upd _ k0 (by omega),bind1_some]
  exact f1
 ·rw [h1.get k0 k1 hne,bind1_some,hidx,bind1_some,happ,bind1_some,hcut,bind1_some]
  exact f2
end
end Go.Proofs.YtlecphianicdhaaGreat
end
section
namespace Go.Proofs.YtlecphianicdhaaGreat
open Go.S
set_option linter.unusedVariables false
set_option linter.unusedSimpArgs false
section
variable {s:Nat} {rec:CT} {rec':RT}
theorem dropsL (hr:HR s rec rec') (P:List Int) {gv:List Int} (hl:gv.length≤1000):∀ (r i:Nat),i+r=gv.length→∀ m m',r < m→r < m' →
  ∀ (t:List TI) (L:Int→List TOp) (D:Int→Bool) (out:List TOp) (lm:List (Int×List TOp)) (dm:List (Int×Int)),RL L lm→RD D dm→Wv t L (gv.drop i++P)→sumL L≤s+1→out.length+sumL L≤bnd+1 →
  Res P out.length (out.length+sumL L) (M13L1 gv rec m (i:Int) t (tab 12 L) (tab 12 D) out) (M17L1 gv rec' m' (i:Int) t out lm dm):=by
 intro r
 induction r with
 | zero =>
  intro i hi m m' hm hm' t L D out lm dm h1 h2 h3 h4 h5
  obtain ⟨m,rfl⟩:=dec m hm
  obtain ⟨m',rfl⟩:=dec m' hm'
  rw [M13L1,M13L1B,M17L1,M17L1B,if_neg (by omega),if_neg (by omega)]
  rw [List.drop_eq_nil_of_le (by omega),List.nil_append] at h3
  exact ⟨t,L,D,out,lm,dm,rfl,rfl,h1,h2,h3,Nat.le_refl _,Nat.le_refl _⟩
 | succ r ih =>
  intro i hi m m' hm hm' t L D out lm dm h1 h2 h3 h4 h5
  obtain ⟨m,rfl⟩:=dec m (by omega)
  obtain ⟨m',rfl⟩:=dec m' (by omega)
  have hil:i < gv.length:=by omega
  rw [drop_cons hil,List.cons_append] at h3
  obtain ⟨t1,L1,D1,out1,lm1,dm1,e1,e2,g1,g2,g3,g4,g5⟩:=wakes hr (i:Int) (M17L1 gv rec' m') h1 h2 h3 h4 h5
  rw [M13L1,M13L1B,M17L1,M17L1B,if_pos (by omega),if_pos (by omega),idx_ok hil,bind1_some,bind1_some,e1,bind4_some,isucc i (by omega),bind1_some,e2,M17K1,isucc i (by omega),bind1_some]
  obtain ⟨t',L',D',out',lm',dm',f1,f2,f3,f4,f5,f6,f7⟩:=ih (i+1) (by omega) m m' (by omega) (by omega) t1 L1 D1 out1 lm1 dm1 g1 g2 g3 (by omega) (by omega)
  exact ⟨t',L',D',out',lm',dm',f1,f2,f3,f4,f5,by omega,by omega⟩
theorem drops (hr:HR s rec rec') {P:List Int} {t:List TI} {L:Int→List TOp} {D:Int→Bool} {out:List TOp} {lm:List (Int×List TOp)} {dm:List (Int×Int)} {tx:Int} (k0:0≤tx) (k1:tx < 12) (h1:RL L lm) (h2:RD D dm) (hg:Good t)
  (one:∀ a,P.count a+(Qs t).count a≤1) (late:∀ a,a≠tx→a∈P∨a∈Qs t→L a≠[]) (htx:tx ∉ P) (own:∀ a:Int,0≤a→a < 12→∀ o∈L a,OkOp o) (rng:∀ a∈P,0≤a∧a < 12) (h4:sumL L≤s+1) (h5:out.length+sumL L≤bnd+1) :
  Res P out.length (out.length+sumL L) (M13 rec t (tab 12 L) (tab 12 D) out tx) (M17 rec' t lm dm out tx):=by
 have hin:∀ a,a∈(dropS t tx).2∨a∈Qs (dropS t tx).1→a≠tx∧a∈Qs t:=by
  intro a ha
  have hq:=drop_q t tx a
  have hpos:0 < (dropS t tx).2.count a+(Qs (dropS t tx).1).count a:=by
   rcases ha with ha | ha
   ·have:=List.count_pos_iff.2 ha;omega
   ·have:=List.count_pos_iff.2 ha;omega
  by_cases c:a=tx
  ·rw [if_pos c] at hq;omega
  ·rw [if_neg c] at hq
   exact ⟨c,List.count_pos_iff.1 (by omega)⟩
 have hw:Wv (dropS t tx).1 L ((dropS t tx).2++P):={
  good:=drop_good hg tx
  one:=fun a=>by
   have hq:=drop_q t tx a
   have:=one a
   rw [List.count_append]
   by_cases c:a=tx
   ·rw [if_pos c] at hq;omega
   ·rw [if_neg c] at hq;omega
  late:=fun a ha=>by
   rcases ha with ha | ha
   ·rcases List.mem_append.1 ha with ha | ha
    ·exact late a (hin a (.inl ha)).1 (.inr (hin a (.inl ha)).2)
    ·exact late a (fun c=>htx (c ▸ ha)) (.inl ha)
   ·exact late a (hin a (.inr ha)).1 (.inr (hin a (.inr ha)).2)
  own:=own
  rng:=fun a ha=>by
   rcases List.mem_append.1 ha with ha | ha
   ·exact Qs_rng hg (hin a (.inl ha)).2
   ·exact rng a ha }
 have hsz:=(drop_sz hg tx).2
 have:=dropsL hr P (gv:=(dropS t tx).2) (by omega) (dropS t tx).2.length 0 (by omega) big big (lt_big (by omega)) (lt_big (by omega)) (dropS t tx).1 L D out lm dm h1 h2 (by rw [List.drop_zero];exact hw) h4 h5
 rw [M13,M17,drop_lock hg k0 (by omega),drop_ref hg,bind3_some,bind2_some]
 exact this
theorem freeL (hr:HR s rec rec') (P:List Int):∀ (u m m':Nat),u < m→u < m' →
  ∀ (t:List TI) (L:Int→List TOp) (D:Int→Bool) (out:List TOp) (lm:List (Int×List TOp)) (dm:List (Int×Int)),RL L lm→RD D dm→Wv t L P→sumL L≤u→sumL L≤s+2→out.length+sumL L≤bnd+1 →
  Res P out.length (out.length+sumL L) (M16L1 rec m t (tab 12 L) (tab 12 D) out) (M12L1 rec' m' t out lm dm):=by
 intro u
 have hbnd:bnd=100000:=rfl
 induction u with
 | zero =>
  intro m m' hm hm' t L D out lm dm h1 h2 h3 hu h4 h5
  obtain ⟨m,rfl⟩:=dec m hm
  obtain ⟨m',rfl⟩:=dec m' hm'
  obtain ⟨z,z1,z2,z3,z4,z5⟩:=victims (t:=t)
  have hz:z=[]:=by
   cases z with
   | nil=>rfl
   | cons x z =>
    have hx:=z5 x List.mem_cons_self
    obtain ⟨k0,k1⟩:=Qs_rng h3.good hx
    have hne:=h3.late x (.inr hx)
    have h6:=sum_le (L:=L) k0 k1
    have:=List.length_pos_iff.2 hne
    omega
  subst hz
  rw [M16L1,M16L1B,M12L1,M12L1B,waits_lock h3.good,bind2_some,z1,bind2_some,if_pos len0,waits_ref h3.good,bind1_some,z2,bind1_some,if_pos len0]
  exact ⟨t,L,D,out,lm,dm,rfl,rfl,h1,h2,h3,Nat.le_refl _,Nat.le_refl _⟩
 | succ u ih =>
  intro m m' hm hm' t L D out lm dm h1 h2 h3 hu h4 h5
  obtain ⟨m,rfl⟩:=dec m (by omega)
  obtain ⟨m',rfl⟩:=dec m' (by omega)
  obtain ⟨z,z1,z2,z3,z4,z5⟩:=victims (t:=t)
  rw [M16L1,M16L1B,M12L1,M12L1B,waits_lock h3.good,bind2_some,z1,bind2_some,waits_ref h3.good,bind1_some,z2,bind1_some]
  by_cases hz:z.length=0
  ·rw [if_pos (by omega),if_pos (by omega)]
   exact ⟨t,L,D,out,lm,dm,rfl,rfl,h1,h2,h3,Nat.le_refl _,Nat.le_refl _⟩
  rw [if_neg (by omega),if_neg (by omega)]
  have hzl:z.length - 1 < z.length:=by omega
  have hidx:idx z ((z.length:Int) - 1)=some z[z.length - 1]:=by
   rw [show ((z.length:Int) - 1)=((z.length - 1:Nat):Int) by omega]
   exact idx_ok hzl
  have hv:=z5 _ (List.getElem_mem hzl)
  rw [M16K1,M12K6,i64_ok (by omega) (by omega),bind1_some,hidx,bind1_some,max_last z4 (by omega) (by omega),bind1_some,bind1_some]
  generalize z[z.length - 1]=v at hv
  obtain ⟨k0,k1⟩:=Qs_rng h3.good hv
  have hne:=h3.late v (.inr hv)
  have hpos:=List.length_pos_iff.2 hne
  have hsum:=sum_set (L:=L) [] k0 k1
  simp only [List.length_nil,Nat.add_zero] at hsum
  have happ:app out [(⟨v,4,0⟩:TOp)]=some (out++[⟨v,4,0⟩]):=app_ok (by simp only [List.length_cons,List.length_nil];omega)
  have hvP:v ∉ P:=fun hc=>by
   have h6:=h3.one v
   have h7:=List.count_pos_iff.2 hc
   have h8:=List.count_pos_iff.2 hv
   omega
  obtain ⟨t1,L1,D1,out1,lm1,dm1,e1,e2,g1,g2,g3,g4,g5⟩:=drops hr (L:=setL L v []) (D:=fun i=>if i=v then true else D i) (out:=out++[⟨v,4,0⟩]) k0 k1 (h1.del v) (h2.kill v) h3.good h3.one (fun a hav ha=>by
    unfold setL;rw [if_neg hav];exact h3.late a ha) hvP (fun a a0 a1 o ho=>by
    unfold setL at ho
    split at ho
    ·cases ho
    ·exact h3.own a a0 a1 o ho) h3.rng (by omega) (by simp only [List.length_append,List.length_cons,List.length_nil];omega)
  simp only [List.length_append,List.length_cons,List.length_nil] at g4 g5
  rw [tab_idxA k0 (by omega),bind1_some,arrN_ok (tab_length _ _),bind1_some,tab_upd _ k0 (by omega),bind1_some,tab_idxA k0 (by omega),bind1_some,tab_upd _ k0 (by omega),bind1_some,arrN_ok (tab_length _ _),bind1_some,arrN_ok (tab_length _ _),bind1_some,happ,bind1_some,bind1_some]
  have e1':M13 rec t (tab 12 fun i=>if i=v then [] else L i) (tab 12 fun i=>if i=v then true else D i) (out++[⟨v,4,0⟩]) v=some (t1,tab 12 L1,tab 12 D1,out1):=e1
  rw [e1',e2,bind4_some,bind4_some]
  obtain ⟨t',L',D',out',lm',dm',f1,f2,f3,f4,f5,f6,f7⟩:=ih m m' (by omega) (by omega) t1 L1 D1 out1 lm1 dm1 g1 g2 g3 (by omega) (by omega) (by omega)
  exact ⟨t',L',D',out',lm',dm',f1,f2,f3,f4,f5,by omega,by omega⟩
theorem mode_eq (o:TOp):M15 o=some (if o.Kind=2 then 5 else 3):=by
 unfold M15
 split <;> rfl
theorem take_step (hr:HR s rec rec'):HR (s+1) (M9a rec) (M12a rec'):=by
 have hbnd:bnd=100000:=rfl
 intro t L D out lm dm P o h1 h2 h3 ho h4 h5
 have hsl:=sum_le (L:=L) ho.t0 ho.t1
 rw [M9a,M12a,tab_idxA ho.t0 (by have:=ho.t1;omega),bind1_some,arrN_ok (tab_length _ _),bind1_some]
 by_cases hd:D o.Tx=true
 ·rw [if_pos hd,if_pos ((h2 o.Tx ho.t0 ho.t1).2 hd)]
  exact ⟨t,L,D,out,lm,dm,rfl,rfl,h1,h2,h3,by omega,Nat.le_refl _⟩
 rw [if_neg hd,if_neg (fun c=>hd ((h2 o.Tx ho.t0 ho.t1).1 c)),tab_idxA ho.t0 (by have:=ho.t1;omega),bind1_some,M12K1]
 by_cases hL:L o.Tx=[]
 ·
  rw [hL,if_neg (by simp),if_neg (fun c=>((h1.has ho.t0 ho.t1).1 c) hL),M9K3,if_neg ff,M12K2]
  have hnP:o.Tx ∉ P:=fun c=>h3.late _ (.inl c) hL
  have hnQ:o.Tx ∉ Qs t:=fun c=>h3.late _ (.inr c) hL
  have happ:app out [o]=some (out++[o]):=app_ok (by simp only [List.length_cons,List.length_nil];omega)
  by_cases hk:3≤o.Kind
  ·rw [if_pos hk,if_pos (by omega),arrN_ok (tab_length _ _),bind1_some,happ,bind1_some,bind1_some]
   obtain ⟨t1,L1,D1,out1,lm1,dm1,e1,e2,g1,g2,g3,g4,g5⟩:=drops hr (out:=out++[o]) ho.t0 ho.t1 h1 h2 h3.good h3.one (fun a _ ha=>h3.late a ha) hnP h3.own h3.rng (by omega) (by simp only [List.length_append,List.length_cons,List.length_nil];omega)
   simp only [List.length_append,List.length_cons,List.length_nil] at g4 g5
   rw [e1,e2,bind4_some,bind4_some]
   exact ⟨t1,L1,D1,out1,lm1,dm1,rfl,rfl,g1,g2,g3,by omega,by omega⟩
  ·rw [if_neg hk,if_neg (by omega),M9K1,M12K3,mode_eq,bind1_some]
   have hmd:Md (if o.Kind=2 then 5 else 3):=by split <;> exact ⟨by decide,by decide⟩
   have hq:(if o.Kind=2 then M12K4 t o out lm dm rec' 5 else M12K4 t o out lm dm rec' 3)=M12K4 t o out lm dm rec' (if o.Kind=2 then 5 else 3):=by split <;> rfl
   rw [hq]
   generalize (if o.Kind=2 then (5:Int) else 3)=mode at hmd
   have hask:askS t o.Tx o.Item mode=((insS o.Item ⟨o.Tx,mode⟩ t).1,(insS o.Item ⟨o.Tx,mode⟩ t).2,0):=by
    unfold askS
    rw [if_neg (fun c=>hnQ (any_q.1 c))]
   have hg:Good (insS o.Item ⟨o.Tx,mode⟩ t).1:=by
    have:=ask_good h3.good ho.t0 (by have:=ho.t1;omega) ho.i0 ho.i1 hmd (by rw [hask])
    rwa [hask] at this
   have hc:=fun c=>ins_q o.Item ⟨o.Tx,mode⟩ c t
   rw [M12K4,ask_lock h3.good ho.i0 ho.i1 ho.t0 (by have:=ho.t1;omega) hmd,ask_ref h3.good hmd,hask,bind3_some,bind3_some]
   generalize (insS o.Item ⟨o.Tx,mode⟩ t).1=t1 at *
   generalize (insS o.Item ⟨o.Tx,mode⟩ t).2=ok at *
   cases ok with
   | true =>
    rw [if_pos rfl,if_pos rfl,M9K2,if_pos rfl,arrN_ok (tab_length _ _),bind1_some,arrN_ok (tab_length _ _),bind1_some,happ,bind1_some,bind1_some]
    have hc':∀ c,(Qs t1).count c=(Qs t).count c:=fun c=>by
     rw [hc c,if_neg (fun h=>by cases h.1)];rfl
    refine ⟨t1,L,D,out++[o],lm,dm,rfl,rfl,h1,h2,⟨hg,fun a=>by rw [hc' a];exact h3.one a,fun a ha=>h3.late a (ha.imp id fun h=>?_),h3.own,h3.rng⟩,?_,?_⟩
    ·have:=List.count_pos_iff.2 h
     rw [hc' a] at this
     exact List.count_pos_iff.1 this
    ·simp only [List.length_append,List.length_cons,List.length_nil];omega
    ·simp only [List.length_append];omega
   | false =>
    have hc':∀ c,(Qs t1).count c=(Qs t).count c+if c=o.Tx then 1 else 0:=fun c=>by
     rw [hc c];simp
    have hsum:=sum_set (L:=L) [o] ho.t0 ho.t1
    rw [hL] at hsum
    simp only [List.length_cons,List.length_nil] at hsum
    have hw:Wv t1 (setL L o.Tx [o]) P:=⟨hg,fun a=>by
      rw [hc' a]
      have h6:=h3.one a
      by_cases c:a=o.Tx
      ·rw [if_pos c]
       have h7:=List.count_eq_zero.2 (c ▸ hnP)
       have h8:=List.count_eq_zero.2 (c ▸ hnQ)
       omega
      ·rw [if_neg c];omega,fun a ha=>by
      unfold setL
      by_cases c:a=o.Tx
      ·rw [if_pos c];simp
      ·rw [if_neg c]
       refine h3.late a (ha.imp id fun h=>?_)
       have:=List.count_pos_iff.2 h
       rw [hc' a,if_neg c] at this
       exact List.count_pos_iff.1 this,fun a a0 a1 q hq=>by
      unfold setL at hq
      split at hq
      ·rw [List.mem_singleton.1 hq];exact ho
      ·exact h3.own a a0 a1 q hq,h3.rng⟩
    obtain ⟨t2,L2,D2,out2,lm2,dm2,e1,e2,g1,g2,g3,g4,g5⟩:=freeL hr P (sumL (setL L o.Tx [o])) big big (lt_big (by omega)) (lt_big (by omega)) t1 (setL L o.Tx [o]) D out (mset lm o.Tx [o]) dm (h1.set o.Tx (by simp)) h2 hw (Nat.le_refl _) (by omega) (by omega)
    rw [if_neg ff,if_neg ff,M9K2,if_neg ff,M12K5,tab_idxA ho.t0 (by have:=ho.t1;omega),bind1_some,tab_upd _ ho.t0 (by have:=ho.t1;omega),bind1_some,e2,M16]
    have e1':M16L1 rec big t1 (tab 12 fun i=>if i=o.Tx then [o] else L i) (tab 12 D) out=some (t2,tab 12 L2,tab 12 D2,out2):=e1
    rw [e1',bind4_some]
    exact ⟨t2,L2,D2,out2,lm2,dm2,rfl,rfl,g1,g2,g3,by omega,g5⟩
 ·
  have hpos:=List.length_pos_iff.2 hL
  have happ:app (L o.Tx) [o]=some (L o.Tx++[o]):=app_ok (by simp only [List.length_cons,List.length_nil];omega)
  have hsum:=sum_set (L:=L) (L o.Tx++[o]) ho.t0 ho.t1
  simp only [List.length_append,List.length_cons,List.length_nil] at hsum
  rw [if_pos (by omega),if_pos ((h1.has ho.t0 ho.t1).2 hL),M9K3,if_pos rfl,tab_idxA ho.t0 (by have:=ho.t1;omega),bind1_some,happ,bind1_some,bind1_some,tab_upd _ ho.t0 (by have:=ho.t1;omega),bind1_some,h1.get ho.t0 ho.t1 hL,bind1_some,happ,bind1_some]
  refine ⟨t,setL L o.Tx (L o.Tx++[o]),D,out,_,dm,rfl,rfl,h1.set o.Tx (by simp),h2,⟨h3.good,h3.one,fun a ha=>?_,fun a a0 a1 q hq=>?_,h3.rng⟩,by omega,Nat.le_refl _⟩
  ·unfold setL
   split
   ·simp
   ·exact h3.late a ha
  ·unfold setL at hq
   split at hq
   ·rcases List.mem_append.1 hq with hq | hq
    ·exact h3.own _ ho.t0 ho.t1 q hq
    ·rw [List.mem_singleton.1 hq];exact ho
   ·exact h3.own a a0 a1 q hq
end
theorem goesTwo:∀ n:Nat,HR n (M9b n) (M12b n)
 | 0=>fun t L D out lm dm P o h1 h2 h3 h4 h5=>absurd h5 (Nat.not_lt_zero _)
 | n+1=>by
  have:=take_step (goesTwo n)
  intro t L D out lm dm P o
  rw [M9b,M12b]
  exact this t L D out lm dm P o
end Go.Proofs.YtlecphianicdhaaGreat
end
section
namespace Go.Proofs.YtlecphianicdhaaGreat
open Go.S
set_option linter.unusedVariables false
set_option linter.unusedSimpArgs false
theorem equalOpL (l:List TOp) (hl:l.length≤1000000):∀ (r i:Nat),i+r=l.length→∀ m,r < m→M10L1 l l m (i:Int)=some true:=by
 intro r
 induction r with
 | zero =>
  intro i hi m hm
  obtain ⟨m,rfl⟩:=dec m hm
  rw [M10L1,M10L1B,if_neg (by omega),M10K2]
 | succ r ih =>
  intro i hi m hm
  obtain ⟨m,rfl⟩:=dec m (by omega)
  have h1:i < l.length:=by omega
  rw [M10L1,M10L1B,if_pos (by omega),idx_ok h1,bind1_some,bind1_some,if_neg (by simp),isucc i (by omega),bind1_some,ih (i+1) (by omega) m (by omega)]
theorem equalOp_self (l:List TOp) (hl:l.length≤1000000):M10 l l=some true:=by
 rw [M10,if_neg (by simp),M10K1]
 exact equalOpL l hl l.length 0 (by omega) big (lt_big (by omega))
theorem same_self (p:TPlayed) (h1:p.Run.length≤1000000) (h2:p.Dead.length≤1000000) (h3:p.Late.length≤1000000):M6 p p=some true:=by
 rw [M6,equalOp_self _ h1,bind1_some,if_pos rfl,equal_self _ h2,bind1_some,if_pos rfl,M6K1,if_pos rfl,equal_self _ h3,bind1_some]
theorem nil_good:Good []:=⟨by simp,(fun x hx=>by cases hx),List.Pairwise.nil⟩
theorem endL {L:Int→List TOp} {D:Int→Bool} {lm:List (Int×List TOp)} {dm:List (Int×Int)} (h1:RL L lm) (h2:RD D dm) (out:List TOp):∀ (r i:Nat),i+r=12→∀ m m',r < m→r < m'→∀ a b:List Int,a.length≤i→b.length≤i →
  ∃ a' b',M4L1 (tab 12 D) (tab 12 L) out m (i:Int) a b=some (⟨out,a',b'⟩,0)∧M7L1 dm lm out m' (i:Int) a b=some ⟨out,a',b'⟩∧a'.length≤12∧b'.length≤12:=by
 intro r
 induction r with
 | zero =>
  intro i hi m m' hm hm' a b ha hb
  obtain ⟨m,rfl⟩:=dec m hm
  obtain ⟨m',rfl⟩:=dec m' hm'
  rw [M4L1,M4L1B,M7L1,M7L1B,if_neg (by omega),if_neg (by omega)]
  exact ⟨a,b,rfl,rfl,by omega,by omega⟩
 | succ r ih =>
  intro i hi m m' hm hm' a b ha hb
  obtain ⟨m,rfl⟩:=dec m (by omega)
  obtain ⟨m',rfl⟩:=dec m' (by omega)
  have k0:(0:Int)≤(i:Int):=by omega
  have k1:(i:Int) < 12:=by omega
  have e1:app a [(i:Int)]=some (a++[(i:Int)]):=app_ok (by simp only [List.length_cons,List.length_nil];omega)
  have e2:app b [(i:Int)]=some (b++[(i:Int)]):=app_ok (by simp only [List.length_cons,List.length_nil];omega)
  have hs:∀ (x:List Int),x.length≤i→(x++[(i:Int)]).length≤i+1:=fun x hx=>by simp only [List.length_append,List.length_cons,List.length_nil];omega
  have go:=fun a b ha hb=>ih (i+1) (by omega) m m' (by omega) (by omega) a b ha hb
  have hh:=h1.has k0 k1
  have hd:=h2 (i:Int) k0 k1
  rw [M4L1,M4L1B,M7L1,M7L1B,if_pos k1,if_pos k1,tab_idxA k0 (by omega),bind1_some]
  have hL:(0:Int) < ((L (i:Int)).length:Int)↔L (i:Int)≠[]:=by rw [← List.length_pos_iff];omega
  by_cases cD:D (i:Int)=true
  ·rw [if_pos cD,if_pos (hd.2 cD),e1,bind1_some,bind1_some,tab_idxA k0 (by omega),bind1_some,M7K3]
   by_cases cL:L (i:Int)=[]
   ·rw [if_neg (fun c=>(hL.1 c) cL),if_neg (fun c=>(hh.1 c) cL),isucc i (by omega),bind1_some,bind1_some]
    exact go _ _ (hs a ha) (by omega)
   ·rw [if_pos (hL.2 cL),if_pos (hh.2 cL),e2,bind1_some,bind1_some,isucc i (by omega),bind1_some,bind1_some]
    exact go _ _ (hs a ha) (hs b hb)
  ·rw [if_neg cD,if_neg (fun c=>cD (hd.1 c)),tab_idxA k0 (by omega),bind1_some,M7K3]
   by_cases cL:L (i:Int)=[]
   ·rw [if_neg (fun c=>(hL.1 c) cL),if_neg (fun c=>(hh.1 c) cL),isucc i (by omega),bind1_some,bind1_some]
    exact go _ _ (by omega) (by omega)
   ·rw [if_pos (hL.2 cL),if_pos (hh.2 cL),e2,bind1_some,bind1_some,isucc i (by omega),bind1_some,bind1_some]
    exact go _ _ (by omega) (hs b hb)
theorem playL (l:List TOp) (hl:l.length≤200) (ho:∀ o∈l,OkOp o):∀ (r i:Nat),i+r=l.length→∀ m m',r < m→r < m' →
  ∀ (t:List TI) (L:Int→List TOp) (D:Int→Bool) (out:List TOp) (lm:List (Int×List TOp)) (dm:List (Int×Int)),RL L lm→RD D dm→Wv t L []→out.length+sumL L≤i →
  ∃ p,M4L2 l m (i:Int) t (tab 12 L) (tab 12 D) out=some (p,0)∧M7L2 l m' (i:Int) t out dm lm=some p∧p.Run.length≤1000∧p.Dead.length≤12∧p.Late.length≤12:=by
 intro r
 have hbnd:bnd=100000:=rfl
 induction r with
 | zero =>
  intro i hi m m' hm hm' t L D out lm dm h1 h2 h3 h4
  obtain ⟨m,rfl⟩:=dec m hm
  obtain ⟨m',rfl⟩:=dec m' hm'
  obtain ⟨a,b,e1,e2,e3,e4⟩:=endL h1 h2 out 12 0 (by omega) big big (lt_big (by omega)) (lt_big (by omega)) [] [] (by simp) (by simp)
  rw [M4L2,M4L2B,M7L2,M7L2B,if_neg (by omega),if_neg (by omega),M4K1,arrN_ok (tab_length _ _),bind1_some,arrN_ok (tab_length _ _),bind1_some,M7K1]
  exact ⟨_,e1,e2,by show out.length≤1000;omega,e3,e4⟩
 | succ r ih =>
  intro i hi m m' hm hm' t L D out lm dm h1 h2 h3 h4
  obtain ⟨m,rfl⟩:=dec m (by omega)
  obtain ⟨m',rfl⟩:=dec m' (by omega)
  have hil:i < l.length:=by omega
  obtain ⟨t1,L1,D1,out1,lm1,dm1,e1,e2,g1,g2,g3,g4,g5⟩:=goesTwo big t L D out lm dm [] l[i] h1 h2 h3 (ho _ (List.getElem_mem hil)) (lt_big (by omega)) (by omega)
  rw [M4L2,M4L2B,M7L2,M7L2B,if_pos (by omega),if_pos (by omega),idx_ok hil,bind1_some,bind1_some,M9,M12,e1,e2,bind4_some,bind4_some,isucc i (by omega),bind1_some,bind1_some]
  exact ih (i+1) (by omega) m m' (by omega) (by omega) t1 L1 D1 out1 lm1 dm1 g1 g2 g3 (by omega)
theorem play_eq (l:List TOp) (hl:l.length≤200) (ho:∀ o∈l,OkOp o):∃ p,M4L2 l big 0 [] (List.replicate 12 ([]:List TOp)) (List.replicate 12 (false:Bool)) []=some (p,0)∧M7 l=some p∧p.Run.length≤1000∧p.Dead.length≤12∧p.Late.length≤12:=by
 have:=playL l hl ho l.length 0 (by omega) big big (lt_big (by omega)) (lt_big (by omega)) [] (fun _=>[]) (fun _=>false) [] [] [] (fun k _ _=>rfl) (fun k _ _=>by simp [mget]) ⟨nil_good,(fun a=>by simp [Qs]),(fun a ha=>by simp [Qs] at ha),(fun a _ _ o h=>by simp at h),(fun a h=>by cases h)⟩ (by decide)
 rw [tab_repl,tab_repl,M7]
 exact this
theorem law (l:List TOp):M3 l=some true:=by
 obtain ⟨e,h1,h2,h3⟩:=run_eq l
 rw [M3,M4,h2,bind1_some]
 by_cases he:e=0
 ·subst he
  have hg:=h3 rfl
  obtain ⟨p,p1,p2,p3,p4,p5⟩:=play_eq l hg.len fun o ho=>by
   obtain ⟨i,hi,rfl⟩:=List.mem_iff_getElem.1 ho
   have hf:=hg.fine i hi
   exact ⟨hf.t0,hf.t1,hf.i0,by have:=hf.i1;omega⟩
  rw [if_neg (by simp),p1,bind2_some,h1,bind1_some,if_neg (by simp),M3K1,if_neg ff,p2,bind1_some,same_self p (by omega) (by omega) (by omega),bind1_some,if_pos rfl,M3K2]
  rfl
 ·rw [if_pos he,bind2_some,h1,bind1_some,if_pos he,M3K1,if_pos rfl,same_self _ (by simp) (by simp) (by simp),bind1_some,if_pos rfl]
  simp
end Go.Proofs.YtlecphianicdhaaGreat
end
