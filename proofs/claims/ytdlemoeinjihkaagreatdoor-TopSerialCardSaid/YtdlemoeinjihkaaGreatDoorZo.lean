import Derived.Test.YtdlemoeinjihkaaGreatDoorZn
import Derived.Test.YtdlemoeinjihkaaGreatDoorZf
import Derived.Lib.ItoaLen
import Derived.Test.YtdlemoeinjihkaaGreatDoorRows
import Derived.Test.YtdlemoeinjihkaaGreatDoorChecked
import Derived.WalkKit
import Derived.ProofKit
import Derived.OpenShut
set_option linter.unusedVariables false
set_option linter.unusedSimpArgs false
section
namespace Go.Proofs.YtdlemoeinjihkaaGreatDoor
open Go.S
theorem qmy {α:Type} {n:Nat} (z:α) (h:n≤1000000):mk (n:Int) z=some (List.replicate n z):=by
 unfold mk
 rw [if_pos ⟨by omega,by omega⟩,Int.toNat_natCast]
theorem qbz {l:List Int} (h:l.length < 4611686018427387904):xT l=some (Go.Lib.compact l):=if_pos h
def InR (n:Nat) (es:List TE):Prop:=∀ e∈es,0≤e.From∧e.From < n∧0≤e.To∧e.To < n
def outs:List TE→Int→List Int
 | [],_=>[]
 | e :: es,x=>(if e.From=x then [e.To] else [])++outs es x
theorem qcN {x y:Int}:∀ {es:List TE},y∈outs es x↔(⟨x,y⟩:TE)∈es
 | []=>by simp [outs]
 | e :: es=>by
  rw [outs,List.mem_append,qcN (es:=es),List.mem_cons]
  by_cases c:e.From=x
  ·rw [if_pos c,List.mem_singleton]
   constructor
   ·rintro (h | h)
    ·left;rw [← c,h]
    ·exact .inr h
   ·rintro (h | h)
    ·left;rw [← h]
    ·exact .inr h
  ·rw [if_neg c]
   constructor
   ·rintro (h | h)
    ·cases h
    ·exact .inr h
   ·rintro (h | h)
    ·exact absurd (by rw [← h]) c
    ·exact .inr h
theorem yD (x:Int):∀ es:List TE,(outs es x).length≤es.length
 | []=>by simp [outs]
 | e :: es=>by
  have:=yD x es
  rw [outs,List.length_append,List.length_cons]
  split <;> simp <;> omega
theorem qla (n:Nat) (es:List TE) (hl:es.length≤2000) (h:InR n es):∀ (r i:Nat),i+r=es.length→∀ m,r < m→yV es (n:Int) m (i:Int)=some 0:=by
 intro r
 induction r with
 | zero =>
  intro i hi m hm
  obtain ⟨m,rfl⟩:=dec m hm
  rw [yV,qdk,if_neg (by omega),qi6]
 | succ r ih =>
  intro i hi m hm
  obtain ⟨m,rfl⟩:=dec m (by omega)
  have h1:i < es.length:=by omega
  obtain ⟨g1,g2,g3,g4⟩:=h es[i] (List.getElem_mem h1)
  rw [yV,qdk,if_pos (by omega),qk h1,qa,if_neg (by omega),if_neg (by omega),qeK,if_neg ff,if_neg (by omega),if_neg (by omega),qr i (by omega),qa,ih (i+1) (by omega) m (by omega)]
theorem qmO (n:Nat) (hn:n≤60) (es:List TE) (hl:es.length≤2000) (h:InR n es):M63 (n:Int) es=some 0:=by
 rw [M63,if_neg (by omega),if_neg (by omega),if_neg (by omega)]
 exact qla n es hl h es.length 0 (by omega) big (qK (by omega))
theorem qmv (n:Nat) (es:List TE) (hl:es.length≤2000) (h:InR n es):∀ (r i:Nat),i+r=es.length→∀ f:Int→List Int,(∀ x,(f x).length≤i)→∀ m,r < m →
  yT es m (tab n f) (i:Int)=qhc (tab n fun x=>f x++outs (es.drop i) x):=by
 intro r
 induction r with
 | zero =>
  intro i hi f hf m hm
  obtain ⟨m,rfl⟩:=dec m hm
  rw [yT,qdi,if_neg (by omega),List.drop_eq_nil_of_le (by omega)]
  congr 1
  apply zF
  intro x _ _
  simp [outs]
 | succ r ih =>
  intro i hi f hf m hm
  obtain ⟨m,rfl⟩:=dec m (by omega)
  have h1:i < es.length:=by omega
  obtain ⟨g1,g2,g3,g4⟩:=h es[i] (List.getElem_mem h1)
  have hfl:=hf es[i].From
  rw [yT,qdi,if_pos (by omega),qk h1,qa,xk g1 g2,qa,qH (by simp;omega),qa,qa,jW _ g1 g2,qa,qr i (by omega),qa,ih (i+1) (by omega) _ (fun x=>?_) m (by omega)]
  ·congr 1
   apply zF
   intro x _ _
   rw [qo h1,outs]
   by_cases c:x=es[i].From
   ·rw [if_pos c,if_pos c.symm,c,List.append_assoc]
   ·rw [if_neg c,if_neg (Ne.symm c),List.nil_append]
  ·show (if x=es[i].From then f es[i].From++[es[i].To] else f x).length≤i+1
   have:=hf x
   split
   ·simp;omega
   ·omega
def suc (es:List TE) (x:Int):List Int:=Go.Lib.compact (srt (outs es x))
theorem kb {es:List TE} {x y:Int}:y∈suc es x↔(⟨x,y⟩:TE)∈es:=by
 unfold suc
 rw [qch,qfP,qcN]
theorem qfN (es:List TE) (x:Int):(suc es x).length≤es.length:=by
 unfold suc
 have h1:=vV (srt (outs es x))
 have h2:=xe (outs es x)
 have h3:=yD x es
 omega
theorem qmw (n:Nat) (hn:n≤60) (gl1:List (List Int)) (hg:gl1.length=n) (f:Int→List Int) (hf:∀ x,(f x).length≤2000):∀ (r i:Nat),i+r=n→∀ m,r < m →
  yU gl1 m (tab n fun x=>if x < i then Go.Lib.compact (srt (f x)) else f x) (i:Int)=some (tab n fun x=>Go.Lib.compact (srt (f x))):=by
 intro r
 induction r with
 | zero =>
  intro i hi m hm
  obtain ⟨m,rfl⟩:=dec m hm
  rw [yU,qdj,if_neg (by omega),qi5]
  congr 1
  apply zF
  intro x _ _
  rw [if_pos (by omega)]
 | succ r ih =>
  intro i hi m hm
  obtain ⟨m,rfl⟩:=dec m (by omega)
  have h0:(0:Int)≤(i:Int):=by omega
  have h2:(i:Int) < (n:Nat):=by omega
  have hl1:=hf i
  have hl2:=xe (f i)
  rw [yU,qdj,if_pos (by omega),xk h0 h2,qa,if_neg (by omega),qcu (by omega),qa,jW _ h0 h2,qa,xk h0 h2,qa,if_pos rfl,qbz (by omega),qa,qa,jW _ h0 h2,qa,qr i (by omega),qa,← ih (i+1) (by omega) m (by omega)]
  congr 1
  apply zF
  intro x _ _
  by_cases c:x=i
  ·rw [if_pos c,if_pos (by omega),c]
  ·rw [if_neg c,if_neg c]
   by_cases c2:x < i
   ·rw [if_pos c2,if_pos (by omega)]
   ·rw [if_neg c2,if_neg (by omega)]
theorem qkO (n:Nat) (hn:n≤60) (es:List TE) (hl:es.length≤2000) (h:InR n es):M64 (n:Int) es=some (tab n (suc es)):=by
 have h1:=qmv n es hl h es.length 0 (by omega) (fun _=>[]) (by simp) big (qK (by omega))
 have h2:=qmw n hn (tab n (outs es)) (qZ ..) (outs es) (fun x=>Nat.le_trans (yD x es) hl) n 0 (by omega) big (qK (by omega))
 have e1:(tab n fun x:Int=>([]:List Int)++outs (es.drop 0) x)=tab n (outs es):=zF fun x _ _=>by simp
 have e2:(tab n fun x:Int=>if x < ((0:Nat):Int) then Go.Lib.compact (srt (outs es x)) else outs es x)=tab n (outs es):=zF fun x h0 _=>by rw [if_neg (by omega)]
 rw [e1,show ((0:Nat):Int)=0 from rfl] at h1
 rw [e2,show ((0:Nat):Int)=0 from rfl] at h2
 rw [M64,qmy _ (by omega),qa,qcx,h1,qhc,h2]
 rfl
def cnt (S:Int→List Int) (D:Int→Bool) (x:Int):Nat→Int
 | 0=>0
 | p+1=>cnt S D x p+if D (p:Int)=true then 0 else ((S (p:Int)).count x:Int)
theorem qgS {S:Int→List Int} (hS:∀ x,(S x).length≤2000) (D:Int→Bool) (x:Int):∀ p:Nat,0≤cnt S D x p∧cnt S D x p≤p*2000
 | 0=>by simp [cnt]
 | p+1=>by
  have h1:=qgS hS D x p
  have h2:(S (p:Int)).count x≤(S (p:Int)).length:=List.count_le_length
  have h3:=hS (p:Int)
  rw [cnt]
  split <;> omega
theorem jK {S:Int→List Int} {D:Int→Bool} {x:Int}:∀ n:Nat,cnt S D x n=0↔∀ p:Int,0≤p→p < n→x∈S p→D p=true
 | 0=>by simp [cnt];omega
 | n+1=>by
  have h1:0≤cnt S D x n:=by
   have:∀ p:Nat,0≤cnt S D x p:=by
    intro p
    induction p with
    | zero=>simp [cnt]
    | succ p ih=>rw [cnt];split <;> omega
   exact this n
  rw [cnt]
  constructor
  ·intro h p h0 hp hx
   by_cases c:D (n:Int)=true
   ·rw [if_pos c] at h
    by_cases e:p=n
    ·rw [e];exact c
    ·exact (jK n).1 (by omega) p h0 (by omega) hx
   ·rw [if_neg c] at h
    by_cases e:p=n
    ·have:0 < (S (n:Int)).count x:=List.count_pos_iff.2 (by rw [← e];exact hx)
     omega
    ·exact (jK n).1 (by omega) p h0 (by omega) hx
  ·intro h
   rw [(jK n).2 fun p h0 hp=>h p h0 (by omega)]
   by_cases c:D (n:Int)=true
   ·rw [if_pos c];rfl
   ·rw [if_neg c]
    have:x ∉ S (n:Int):=fun hx=>c (h n (by omega) (by omega) hx)
    rw [List.count_eq_zero_of_not_mem this]
    rfl
theorem yL {S:Int→List Int} {D:Int→Bool} {x k:Int} (hk:D k=false) (h0:0≤k):∀ n:Nat,cnt S (fun y=>if y=k then true else D y) x n=cnt S D x n - if k < n then ((S k).count x:Int) else 0
 | 0=>by rw [if_neg (by omega)];simp [cnt]
 | n+1=>by
  rw [cnt,cnt,yL hk h0 n]
  by_cases e:(n:Int)=k
  ·rw [if_pos e,if_pos rfl,if_neg (by omega),e,hk,if_neg ff,if_pos (by omega)];omega
  ·rw [if_neg e]
   by_cases c:k < n
   ·rw [if_pos c,if_pos (show k < ((n+1:Nat):Int) by omega)];omega
   ·rw [if_neg c,if_neg (show ¬k < ((n+1:Nat):Int) by omega)];omega
theorem qlv (n:Nat) (s:List Int) (hs:∀ x∈s,0≤x∧x < n) (hl:s.length≤2000) (p:Int) (go:List Int→Int→Option (List Int×Int)):∀ (r j:Nat),j+r=s.length→∀ g:Int→Int,(∀ x,-1000000≤g x∧g x+r≤1000000)→∀ m,r < m →
  yX s p go m (tab n g) (j:Int)=qhn p go (tab n fun x=>g x+((s.drop j).count x:Int)):=by
 intro r
 induction r with
 | zero =>
  intro j hj g hg m hm
  obtain ⟨m,rfl⟩:=dec m hm
  rw [yX,qdn,if_neg (by omega),List.drop_eq_nil_of_le (by omega)]
  congr 1
  apply zF
  intro x _ _
  simp
 | succ r ih =>
  intro j hj g hg m hm
  obtain ⟨m,rfl⟩:=dec m (by omega)
  have h1:j < s.length:=by omega
  obtain ⟨g1,g2⟩:=hs s[j] (List.getElem_mem h1)
  have hb:=hg s[j]
  rw [yX,qdn,if_pos (by omega),qk h1,qa,xk g1 g2,qa,qN (by omega) (by omega),qa,qa,jW _ g1 g2,qa,qr j (by omega),qa,ih (j+1) (by omega) _ (fun x=>?_) m (by omega)]
  ·congr 1
   apply zF
   intro x _ _
   rw [qo h1,List.count_cons]
   by_cases c:x=s[j]
   ·rw [if_pos c,← c];simp;omega
   ·rw [if_neg c];simp [Ne.symm c]
  ·have:=hg x
   show -1000000≤(if x=s[j] then g s[j]+1 else g x)∧(if x=s[j] then g s[j]+1 else g x)+r≤1000000
   split <;> omega
theorem qkC (n:Nat) (s:List Int) (hs:∀ x∈s,0≤x∧x < n) (hl:s.length≤2000) (gl6:List Int) (k:Int) (go:List Int→List Int→Option (List Int×Int)):∀ (r j:Nat),j+r=s.length→∀ g:Int→Int,(∀ x,-1000000+r≤g x∧g x≤1000000)→∀ m,r < m →
  yY s gl6 k go m (tab n g) (j:Int)=qho gl6 k go (tab n fun x=>g x - ((s.drop j).count x:Int)):=by
 intro r
 induction r with
 | zero =>
  intro j hj g hg m hm
  obtain ⟨m,rfl⟩:=dec m hm
  rw [yY,qdp,if_neg (by omega),List.drop_eq_nil_of_le (by omega)]
  congr 1
  apply zF
  intro x _ _
  simp
 | succ r ih =>
  intro j hj g hg m hm
  obtain ⟨m,rfl⟩:=dec m (by omega)
  have h1:j < s.length:=by omega
  obtain ⟨g1,g2⟩:=hs s[j] (List.getElem_mem h1)
  have hb:=hg s[j]
  rw [yY,qdp,if_pos (by omega),qk h1,qa,xk g1 g2,qa,qN (by omega) (by omega),qa,qa,jW _ g1 g2,qa,qr j (by omega),qa,ih (j+1) (by omega) _ (fun x=>?_) m (by omega)]
  ·congr 1
   apply zF
   intro x _ _
   rw [qo h1,List.count_cons]
   by_cases c:x=s[j]
   ·rw [if_pos c,← c];simp;omega
   ·rw [if_neg c];simp [Ne.symm c]
  ·have:=hg x
   show -1000000+r≤(if x=s[j] then g s[j] - 1 else g x)∧(if x=s[j] then g s[j] - 1 else g x)≤1000000
   split <;> omega
theorem qls (n:Nat) (hn:n≤60) (S:Int→List Int) (hS:∀ x,(S x).length≤2000) (hR:∀ x,∀ y∈S x,0≤y∧y < n):∀ (r p:Nat),p+r=n→∀ m,r < m →
  wu (tab n S) (n:Int) m (tab n fun x=>cnt S (fun _=>false) x p) (p:Int)=qhp (n:Int) (tab n S) (tab n fun x=>cnt S (fun _=>false) x n):=by
 intro r
 induction r with
 | zero =>
  intro p hp m hm
  obtain ⟨m,rfl⟩:=dec m hm
  rw [wu,qdo,if_neg (by rw [qZ];omega),show p=n by omega]
 | succ r ih =>
  intro p hp m hm
  obtain ⟨m,rfl⟩:=dec m (by omega)
  have h0:(0:Int)≤(p:Int):=by omega
  have h2:(p:Int) < (n:Nat):=by omega
  have hl:=hS (p:Int)
  have h3:=qlv n (S p) (hR p) hl (p:Int) (wu (tab n S) (n:Int) m) (S p).length 0 (by omega) (fun x=>cnt S (fun _=>false) x p) (fun x=>by
   have:=qgS hS (fun _=>false) x p
   omega) big (qK (by omega))
  rw [show ((0:Nat):Int)=0 from rfl,List.drop_zero] at h3
  rw [wu,qdo,if_pos (by rw [qZ];omega),xk h0 h2,qa,h3,qhn,qr p (by omega),qa,← ih (p+1) (by omega) m (by omega)]
  rfl
def qb7 (P:Int→Bool):Nat→Nat→Int
 | _,0=>-1
 | i,r+1=>if P (i:Int)=true then (i:Int) else qb7 P (i+1) r
theorem qiL {P R:Int→Bool}:∀ (r i:Nat),(∀ k:Int,(i:Int)≤k→k < i+r→P k=R k)→qb7 P i r=qb7 R i r
 | 0,i,_=>rfl
 | r+1,i,h=>by
  rw [qb7,qb7,h i (by omega) (by omega),qiL r (i+1) fun k h1 h2=>h k (by omega) (by omega)]
theorem qcX {P:Int→Bool}:∀ (r i:Nat),qb7 P i r=-1∨((i:Int)≤qb7 P i r∧qb7 P i r < i+r∧P (qb7 P i r)=true)
 | 0,i=>.inl rfl
 | r+1,i=>by
  rw [qb7]
  by_cases c:P (i:Int)=true
  ·rw [if_pos c];exact .inr ⟨by omega,by omega,c⟩
  ·rw [if_neg c]
   rcases qcX (P:=P) r (i+1) with h | ⟨h1,h2,h3⟩
   ·exact .inl h
   ·exact .inr ⟨by omega,by omega,h3⟩
theorem qmJ (n:Nat) (hn:n≤60) (g:Int→Int):∀ (r i:Nat),i+r=n→∀ m,r < m→jw (tab n g) 0 m (i:Int)=some (qb7 (fun x=>decide (g x=0)) i r):=by
 intro r
 induction r with
 | zero =>
  intro i hi m hm
  obtain ⟨m,rfl⟩:=dec m hm
  rw [jw,kK,if_neg (by rw [qZ];omega),qeL]
  rfl
 | succ r ih =>
  intro i hi m hm
  obtain ⟨m,rfl⟩:=dec m (by omega)
  have h0:(0:Int)≤(i:Int):=by omega
  have h2:(i:Int) < (n:Nat):=by omega
  rw [jw,kK,if_pos (by rw [qZ];omega),xk h0 h2,qa,qb7]
  by_cases c:g i=0
  ·rw [if_pos (by first | exact c | exact c.symm),if_pos (by simp [c])]
  ·rw [if_neg (by first | exact c | exact fun h=>c h.symm),if_neg (by simp [c]),qr i (by omega),qa,ih (i+1) (by omega) m (by omega)]
def qoZ (P:Int→Bool):Nat→Nat→Bool
 | _,0=>true
 | i,r+1=>P (i:Int) && qoZ P (i+1) r
def tt {α:Type} (n:Nat) (C:Int→Int→α):List (List α):=tab n fun i=>tab n (C i)
def qnq (n:Nat) (D:Int→Bool) (C:Int→Int→Bool) (k:Int):Bool:=!D k && qoZ (fun j=>D j || !C j k) 0 n
end Go.Proofs.YtdlemoeinjihkaaGreatDoor
end
section
namespace Go.Proofs.YtdlemoeinjihkaaGreatDoor
open Go.S
def Ed (es:List TE) (i j:Int):Prop:=(⟨i,j⟩:TE)∈es
def ah (S:Int→List Int) (D:Int→Bool) (n:Nat) (x:Int):Int:=if D x=true then -1 else cnt S D x n
def Closed (es:List TE) (D:Int→Bool):Prop:=∀ i k,D k=true→Ed es i k→D i=true
def qpe (n:Nat) (es:List TE):Prop:=∀ U:Int→Prop,(∃ k:Int,0≤k∧k < n∧U k)→∃ k:Int,0≤k∧k < n∧U k∧∀ p,U p→¬Ed es p k
theorem qf6 (n:Nat) (hn:n≤60) (es:List TE) (hl:es.length≤2000) (hR:InR n es) (hF:qpe n es):∀ (r:Nat) (D:Int→Bool) (out:List Int),Closed es D→out.length+r=n→(∀ x∈out,0≤x∧x < n)→out.Nodup→(∀ x,D x=true↔x∈out)→∀ m,r < m →
  ∃ z,wv (n:Int) (tab n (suc es)) m (tab n (ah (suc es) D n)) out=some (z,0)∧(∀ x∈z,0≤x∧x < n)∧z.length=n∧z.Nodup:=by
 have hsl:∀ x,(suc es x).length≤2000:=fun x=>Nat.le_trans (qfN es x) hl
 have hsr:∀ x,∀ y∈suc es x,0≤y∧y < n:=fun x y hy=>by
  obtain ⟨_,_,h1,h2⟩:=hR _ (kb.1 hy)
  exact ⟨h1,h2⟩
 intro r
 induction r with
 | zero =>
  intro D out hD ho hx hnd hDo m hm
  obtain ⟨m,rfl⟩:=dec m hm
  refine ⟨out,?_,hx,by omega,hnd⟩
  rw [wv,qdq,if_neg (by omega),qjd]
 | succ r ih =>
  intro D out hD ho hx hnd hDo m hm
  obtain ⟨m,rfl⟩:=dec m (by omega)
  have h1:=qmJ n hn (ah (suc es) D n) n 0 (by omega) big (qK (by omega))
  rw [show ((0:Nat):Int)=0 from rfl] at h1
  rw [wv,qdq,if_pos (by omega),M41,h1,qa]
  have hall:∃ k:Int,0≤k∧k < n∧D k=false:=by
   refine Classical.byContradiction fun hne=>?_
   have hsub:∀ k:Nat,k < n→(k:Int)∈out:=fun k hk=>(hDo _).1 (by
    cases q:D (k:Int) with
    | true=>rfl
    | false=>exact absurd ⟨(k:Int),by omega,by omega,q⟩ hne)
   have h2:((List.range n).map fun k:Nat=>(k:Int)).Nodup:=by
    rw [List.Nodup,List.pairwise_map]
    exact List.nodup_range.imp fun h e=>h (by omega)
   have:=h2.length_le_of_subset (fun x hx=>by
    obtain ⟨k,hk,rfl⟩:=List.mem_map.1 hx
    exact hsub k (List.mem_range.1 hk))
   simp at this
   omega
  obtain ⟨k',g0,g1,g2,g3⟩:=hF (fun k=>0≤k∧k < n∧D k=false) (by
   obtain ⟨k,h0,h1,h2⟩:=hall
   exact ⟨k,h0,h1,h0,h1,h2⟩)
  have hz':ah (suc es) D n k'=0:=by
   rw [ah,g2.2.2,if_neg ff]
   refine (jK n).2 fun p hp0 hp1 hp2=>?_
   cases q:D p with
   | true=>rfl
   | false=>exact absurd (kb.1 hp2) (g3 p ⟨hp0,hp1,q⟩)
  rcases qcX (P:=fun x=>decide (ah (suc es) D n x=0)) n 0 with h4 | ⟨h4,h5,h6⟩
  ·exfalso
   have:∀ (r i:Nat),(i:Int)≤k'→k' < i+r→qb7 (fun x=>decide (ah (suc es) D n x=0)) i r≠-1:=by
    intro r
    induction r with
    | zero=>intro i a b;omega
    | succ r ih =>
     intro i a b
     rw [qb7]
     by_cases c:decide (ah (suc es) D n (i:Int)=0)=true
     ·rw [if_pos c];omega
     ·rw [if_neg c]
      by_cases e:(i:Int)=k'
      ·rw [e] at c
       exact absurd (decide_eq_true hz') c
      ·exact ih (i+1) (by omega) (by omega)
   exact this n 0 (by omega) (by omega) h4
  ·generalize qb7 (fun x=>decide (ah (suc es) D n x=0)) 0 n=k at h4 h5 h6
   have k0:0≤k:=by omega
   have k1:k < n:=by omega
   have h7:ah (suc es) D n k=0:=of_decide_eq_true h6
   have hDk:D k=false:=by
    cases q:D k with
    | false=>rfl
    | true=>rw [ah,q,if_pos rfl] at h7;omega
   have hcz:cnt (suc es) D k n=0:=by rw [ah,hDk,if_neg ff] at h7;exact h7
   have hpre:∀ p,Ed es p k→D p=true:=fun p hp=>by
    obtain ⟨q1,q2,_,_⟩:=hR _ hp
    exact (jK n).1 hcz p q1 q2 (kb.2 hp)
   have hbd:∀ x,-1000≤(if x=k then (-1:Int) else ah (suc es) D n x)∧(if x=k then (-1:Int) else ah (suc es) D n x)≤1000000:=by
    intro x
    have:=qgS hsl D x n
    unfold ah
    split
    ·omega
    ·split <;> omega
   have h8:=qkC n (suc es k) (hsr k) (hsl k) out k (wv (n:Int) (tab n (suc es)) m) (suc es k).length 0 (by omega) (fun x=>if x=k then (-1:Int) else ah (suc es) D n x) (fun x=>by
    have:=hbd x
    have:=hsl k
    omega) big (qK (by have:=hsl k;omega))
   rw [show ((0:Nat):Int)=0 from rfl,List.drop_zero] at h8
   have hD':Closed es (fun y=>if y=k then true else D y):=by
    intro i y hy hi
    show (if i=k then true else D i)=true
    by_cases q:y=k
    ·rw [q] at hi
     by_cases q2:i=k
     ·rw [if_pos q2]
     ·rw [if_neg q2];exact hpre i hi
    ·have hy':D y=true:=by simpa [q] using hy
     by_cases q2:i=k
     ·rw [if_pos q2]
     ·rw [if_neg q2];exact hD i y hy' hi
   have he:(tab n fun x=>(if x=k then (-1:Int) else ah (suc es) D n x) - ((suc es k).count x:Int))=tab n (ah (suc es) (fun y=>if y=k then true else D y) n):=by
    apply zF
    intro x _ _
    by_cases q:x∈suc es k
    ·have hxk:x≠k:=by
      rintro rfl
      have:=hpre x (kb.1 q)
      rw [hDk] at this
      cases this
     have hDx:D x=false:=by
      cases q2:D x with
      | false=>rfl
      | true =>
       have:=hD k x q2 (kb.1 q)
       rw [hDk] at this
       cases this
     have:=yL (S:=suc es) (x:=x) hDk k0 n
     rw [if_pos k1] at this
     rw [if_neg hxk,ah,ah,if_neg hxk,hDx,if_neg ff,if_neg ff,this]
    ·have hc0:(suc es k).count x=0:=List.count_eq_zero_of_not_mem q
     have:=yL (S:=suc es) (x:=x) hDk k0 n
     rw [if_pos k1,hc0] at this
     rw [hc0,ah,ah]
     by_cases q2:x=k
     ·rw [if_pos q2,if_pos q2,if_pos rfl];rfl
     ·rw [if_neg q2,if_neg q2,this]
      by_cases q3:D x=true
      ·rw [if_pos q3,if_pos q3];rfl
      ·rw [if_neg q3,if_neg q3]
   have hap:app out [k]=some (out++[k]):=qH (by simp;omega)
   have hko:k ∉ out:=fun h=>by
    have:=(hDo k).2 h
    rw [hDk] at this
    cases this
   rw [if_neg (by omega),xk k0 k1,qa,jW _ k0 k1,qa,xk k0 k1,qa,h8,qho,hap,qa,he]
   refine ih _ _ hD' (by simp;omega) (fun x hx'=>?_) ?_ (fun x=>?_) m (by omega)
   ·rcases List.mem_append.1 hx' with h9 | h9
    ·exact hx x h9
    ·rw [List.mem_singleton] at h9;rw [h9];exact ⟨k0,k1⟩
   ·rw [List.nodup_append]
    exact ⟨hnd,by simp,fun a ha b hb e=>hko (by rw [← List.mem_singleton.1 hb,← e];exact ha)⟩
   ·rw [List.mem_append,List.mem_singleton,← hDo x]
    by_cases q:x=k
    ·simp [q]
    ·simp [q]
theorem qiw (n:Nat) (hn:n≤60) (es:List TE) (hl:es.length≤2000) (hR:InR n es) (hF:qpe n es):∃ z,M30 (n:Int) es=some (z,0)∧(∀ x∈z,0≤x∧x < n)∧z.length=n∧z.Nodup:=by
 have hsl:∀ x,(suc es x).length≤2000:=fun x=>Nat.le_trans (qfN es x) hl
 have hsr:∀ x,∀ y∈suc es x,0≤y∧y < n:=fun x y hy=>by
  obtain ⟨_,_,h1,h2⟩:=hR _ (kb.1 hy)
  exact ⟨h1,h2⟩
 obtain ⟨z,h1,h3⟩:=qf6 n hn es hl hR hF n (fun _=>false) [] (fun i k h=>by cases h) (by simp) (by simp) (by simp) (fun x=>by simp) big (qK (by omega))
 have h4:=qls n hn (suc es) hsl hsr n 0 (by omega) big (qK (by omega))
 have e1:(tab n fun x=>cnt (suc es) (fun _=>false) x 0)=tab n fun _=>0:=rfl
 have e2:(tab n fun x=>cnt (suc es) (fun _=>false) x n)=tab n (ah (suc es) (fun _=>false) n):=zF fun x _ _=>by rw [ah,if_neg ff]
 rw [e1,e2,show ((0:Nat):Int)=0 from rfl] at h4
 refine ⟨z,?_,h3⟩
 rw [M30,qmO n hn es hl hR,qa,if_neg (by decide),qkO n hn es hl hR,qa]
 have hmk:mk (n:Int) (0:Int)=some (tab n fun _=>0):=by rw [qmy _ (by omega),qcx]
 rw [hmk,qa,h4,qhp]
 exact h1
end Go.Proofs.YtdlemoeinjihkaaGreatDoor
end
section
namespace Go.Proofs.YtdlemoeinjihkaaGreatDoor
open Go.S Go.Sort
theorem qlu (x:TDep) : ¬ahd x x:=by unfold ahd;omega
theorem qg4 {x y z:TDep} (h1:ahd x y) (h2:ahd y z):ahd x z:=by unfold ahd at *;omega
theorem qlt {x y:TDep} (h1 : ¬ahd x y) (h2 : ¬ahd y x):x=y:=by
 unfold ahd at *
 cases x;cases y
 simp only at *
 congr <;> omega
def dd:TDep→List TDep→List TDep
 | _,[]=>[]
 | a,b :: r=>if b=a then dd a r else b :: dd b r
def xQ:List TDep→List TDep
 | []=>[]
 | a :: r=>a :: dd a r
theorem qgK {x:TDep}:∀ (a:TDep) (l:List TDep),x∈a :: dd a l↔x∈a :: l
 | a,[]=>by simp [dd]
 | a,b :: r=>by
  rw [dd]
  by_cases c:b=a
  ·rw [if_pos c,qgK a r,c];simp
  ·rw [if_neg c]
   have:=qgK (x:=x) b r
   constructor
   ·intro h
    rcases List.mem_cons.1 h with e | e
    ·simp [e]
    ·exact List.mem_cons_of_mem _ (this.1 e)
   ·intro h
    rcases List.mem_cons.1 h with e | e
    ·simp [e]
    ·exact List.mem_cons_of_mem _ (this.2 e)
theorem qba {x:TDep} (l:List TDep):x∈xQ l↔x∈l:=by
 cases l with
 | nil=>rfl
 | cons a r=>exact qgK a r
theorem vU:∀ (a:TDep) (l:List TDep),(a :: l).Pairwise (fun x y=>¬ahd y x)→(a :: dd a l).Pairwise ahd
 | a,[],_=>by simp [dd]
 | a,b :: r,h=>by
  rw [dd]
  have h':=List.pairwise_cons.1 h
  by_cases c:b=a
  ·rw [if_pos c]
   refine vU a r (List.pairwise_cons.2 ⟨fun y hy=>h'.1 y (by simp [hy]),(List.pairwise_cons.1 h'.2).2⟩)
  ·rw [if_neg c]
   have ih:=vU b r h'.2
   have hab:ahd a b:=by
    by_cases q:ahd a b
    ·exact q
    ·exact absurd (qlt q (h'.1 b (by simp))).symm c
   refine List.pairwise_cons.2 ⟨fun y hy=>?_,ih⟩
   rcases List.mem_cons.1 hy with e | e
   ·rw [e];exact hab
   ·exact qg4 hab ((List.pairwise_cons.1 ih).1 y e)
theorem qa9 {l:List TDep} (h:l.Pairwise (fun x y=>¬ahd y x)):(xQ l).Pairwise ahd:=by
 cases l with
 | nil=>exact List.Pairwise.nil
 | cons a r=>exact vU a r h
theorem qex (l:List TDep):(xE cfDep l).Pairwise (fun x y=>¬ahd y x):=by
 have h:=List.pairwise_mergeSort (le:=fun x y=>!(Go.Proofs.ltOf cfDep) y x) (fun a b c h1 h2=>by
  simp only [qkT,Bool.not_eq_true',decide_eq_false_iff_not] at *
  unfold ahd at *;omega) (fun a b=>by
  simp only [qkT,Bool.or_eq_true,Bool.not_eq_true',decide_eq_false_iff_not]
  unfold ahd at *;omega) l
 refine h.imp fun {a b} h=>?_
 simpa [qkT] using h
theorem qmY (l3:List TDep) (hl:l3.length≤100000000) (i:Nat):∀ (r q:Nat),i+q+r=l3.length→1≤q→∀ (g:List TDep) (k:Nat),k < i+q→g.length=l3.length→g.drop (i+q - 1)=l3.drop (i+q - 1)→(∀ h:i+q - 1 < l3.length,g.take k++dd l3[i+q - 1] (l3.drop (i+q))=xQ l3)→∀ n,r < n →
  yZ (i:Int) n g (k:Int) (q:Int)=some (xQ l3,0):=by
 intro r
 induction r with
 | zero =>
  intro q hq hq1 g k hk hg hgd hc n hn
  obtain ⟨n,rfl⟩:=dec n hn
  have h1:=hc (by omega)
  rw [List.drop_eq_nil_of_le (by omega),dd,List.append_nil] at h1
  have hlt:(g.take k).length=k:=by rw [List.length_take];omega
  rw [yZ,qdu,je g i (by omega),qa,if_neg (by rw [List.length_drop];omega),qje,je g k (by omega),qa,qgT g k _ (by omega),qa,vk _ k (by rw [List.length_append];omega),qa,List.take_left' hlt,qbl,h1]
 | succ r ih =>
  intro q hq hq1 g k hk hg hgd hc n hn
  obtain ⟨n,rfl⟩:=dec n (by omega)
  have hp:i+q - 1 < l3.length:=by omega
  have hp1:i+q < l3.length:=by omega
  obtain ⟨e1,e2⟩:g[i+q - 1]'(by omega)=l3[i+q - 1]∧g.drop (i+q - 1+1)=l3.drop (i+q - 1+1):=by
   have hd:=hgd
   rw [List.drop_eq_getElem_cons (show i+q - 1 < g.length by omega),List.drop_eq_getElem_cons hp] at hd
   injection hd with h1 h2
   exact ⟨h1,h2⟩
  rw [show i+q - 1+1=i+q by omega] at e2
  have e3:g[i+q]'(by omega)=l3[i+q]:=by
   have hd:=e2
   rw [List.drop_eq_getElem_cons (show i+q < g.length by omega),List.drop_eq_getElem_cons hp1] at hd
   injection hd with h1 h2
  have i1:idx (g.drop i) (q:Int)=some l3[i+q]:=by rw [z6,List.getElem?_drop,List.getElem?_eq_getElem (by omega),e3]
  have i2:idx (g.drop i) ((q - 1:Nat):Int)=some l3[i+q - 1]:=by rw [z6,List.getElem?_drop,show i+(q - 1)=i+q - 1 by omega,List.getElem?_eq_getElem (by omega),e1]
  have h1:=hc hp
  rw [qo hp1,dd] at h1
  rw [yZ,qdu,je g i (by omega),qa,if_pos (by rw [List.length_drop];omega),i1,qa,qiI q (by omega) (by omega),qa,i2,qa]
  by_cases c:l3[i+q]=l3[i+q - 1]
  ·rw [if_neg (by simp [c]),qr q (by omega),qa]
   rw [if_pos c] at h1
   refine ih (q+1) (by omega) (by omega) g k (by omega) hg (by rw [show i+(q+1) - 1=i+q by omega];exact e2) (fun h=>?_) n (by omega)
   rw [← h1]
   simp only [show i+(q+1)=i+q+1 by omega,Nat.add_sub_cancel,c]
  ·have hkl:k < g.length:=by omega
   rw [if_pos c,qa,qk hkl,qa,Go.S.upd_ok _ hkl,qa,qr k (by omega),qa,qr q (by omega),qa]
   rw [if_neg c] at h1
   refine ih (q+1) (by omega) (by omega) _ (k+1) (by omega) (by simpa using hg) ?_ (fun h=>?_) n (by omega)
   ·rw [show i+(q+1) - 1=i+q by omega,List.drop_set_of_lt (by omega)];exact e2
   ·rw [qs (by simpa using hkl),List.getElem_set_self,List.take_set_of_le (Nat.le_refl _),← h1]
    simp only [show i+(q+1)=i+q+1 by omega,Nat.add_sub_cancel,List.append_assoc,List.singleton_append]
theorem qmZ (l3:List TDep) (hl:l3.length≤100000000):∀ (r i:Nat),i+r=l3.length→1≤i→(∀ h:i - 1 < l3.length,l3.take i++dd l3[i - 1] (l3.drop i)=xQ l3)→∀ n,r < n→y0 l3 n (i:Int)=some (xQ l3,0):=by
 intro r
 induction r with
 | zero =>
  intro i hi hi1 hc n hn
  obtain ⟨n,rfl⟩:=dec n hn
  have h1:=hc (by omega)
  rw [List.drop_eq_nil_of_le (by omega),dd,List.append_nil,List.take_of_length_le (by omega)] at h1
  rw [y0,qdv,if_neg (by omega),qjg,qbl,← h1]
 | succ r ih =>
  intro i hi hi1 hc n hn
  obtain ⟨n,rfl⟩:=dec n (by omega)
  have hp:i - 1 < l3.length:=by omega
  have hil:i < l3.length:=by omega
  have h1:=hc hp
  rw [qo hil,dd] at h1
  rw [y0,qdv,if_pos (by omega),qk hil,qa,qiI i (by omega) (by omega),qa,qk hp,qa]
  by_cases c:l3[i]=l3[i - 1]
  ·rw [if_pos c] at h1
   rw [if_pos c,je l3 i (by omega),qa]
   have h2:=qmY l3 hl i r 1 (by omega) (Nat.le_refl _) l3 i (by omega) rfl rfl (fun h=>by
    rw [← h1]
    simp only [show i+1 - 1=i by omega,c]) big (qK (by omega))
   rw [show ((1:Nat):Int)=1 from rfl] at h2
   exact h2
  ·rw [if_neg c] at h1
   rw [if_neg c,qjf,qr i (by omega),qa]
   refine ih (i+1) (by omega) (by omega) (fun h=>?_) n (by omega)
   rw [qs hil,← h1,List.append_assoc]
   rfl
theorem qm0 (l:List TDep) (hl:l.length≤100000000):qeT l=some (xQ (xE cfDep l),0):=by
 have hlen:=vB cfDep l
 have hx:wF cfDep l=some (xE cfDep l):=if_pos (by omega)
 rw [qeT,qot,hx,qa]
 generalize xE cfDep l=l3 at hlen
 by_cases c:(l3.length:Int) < 2
 ·rw [if_pos c,qbl]
  congr 1
  match l3,c with
  | [],_=>rfl
  | [a],_=>rfl
  | a :: b :: r,c=>simp at c;omega
 ·rw [if_neg c]
  have h:=qmZ l3 (by omega) (l3.length - 1) 1 (by omega) (Nat.le_refl _) (fun h=>by
   cases l3 with
   | nil=>simp at h
   | cons a r=>rfl) big (qK (by omega))
  rw [show ((1:Nat):Int)=1 from rfl] at h
  exact h
def wq (f t k:Int):List TDep:=if f≠t∧0≤f then [⟨f,t,k⟩] else []
theorem vl (f t k:Int):(wq f t k).length≤1:=by unfold wq;split <;> simp
def vpr:List Int→List TDep
 | a :: b :: r=>wq a b 1++vpr (b :: r)
 | _=>[]
theorem qbD:∀ l:List Int,(vpr l).length≤l.length
 | []=>by simp [vpr]
 | [a]=>by simp [vpr]
 | a :: b :: r=>by
  have h1:=qbD (b :: r)
  have h2:=vl a b 1
  rw [vpr,List.length_append,List.length_cons]
  omega
def kh (s:TStory) (t:TTale) (g:TGot):List TDep:=wq g.From t.Tx 2++match idx s.Versions g.Item with
 | some l=>match idx l (fi g.From 0 l+1) with
  | some b=>wq t.Tx b 3
  | none=>[]
 | none=>[]
theorem vE (s:TStory) (t:TTale) (g:TGot):(kh s t g).length≤2:=by
 unfold kh
 have h1:=vl g.From t.Tx 2
 rw [List.length_append]
 split
 ·split
  ·have:=vl t.Tx (by assumption) 3
   omega
  ·simp;omega
 ·simp;omega
theorem qnO (l:List Int) (hl:l.length≤1048576) (gx29:Int) (go5:Int→List TDep→Option (List TDep×Int)):∀ (r i:Nat),i+r=l.length→1≤i→∀ acc:List TDep,acc.length+r≤100000000→∀ n,r < n →
  kU l gx29 go5 n (i:Int) acc=kM gx29 go5 (acc++vpr (l.drop (i - 1))):=by
 intro r
 induction r with
 | zero =>
  intro i hi hi1 acc hacc n hn
  obtain ⟨n,rfl⟩:=dec n hn
  have:vpr (l.drop (i - 1))=[]:=by
   have h1:i - 1 < l.length∨l.length≤i - 1:=by omega
   rcases h1 with h1 | h1
   ·rw [qo h1,List.drop_eq_nil_of_le (by omega)];rfl
   ·rw [List.drop_eq_nil_of_le h1];rfl
  rw [kU,qbi,if_neg (by omega),this,List.append_nil]
 | succ r ih =>
  intro i hi hi1 acc hacc n hn
  obtain ⟨n,rfl⟩:=dec n (by omega)
  have hp:i - 1 < l.length:=by omega
  have hil:i < l.length:=by omega
  have hd:l.drop (i - 1)=l[i - 1] :: l[i] :: l.drop (i+1):=by
   rw [qo hp]
   congr 1
   simp only [show i - 1+1=i by omega]
   exact qo hil
  have hd2:l.drop i=l[i] :: l.drop (i+1):=qo hil
  have hno:(wq l[i - 1] l[i] 1)=[]→kL (i:Int) (kU l gx29 go5 n) acc=kM gx29 go5 (acc++(wq l[i - 1] l[i] 1++vpr (l[i] :: l.drop (i+1)))):=by
   intro h
   rw [kL,qr i (by omega),qa,ih (i+1) (by omega) (by omega) acc (by omega) n (by omega),h,List.nil_append,show i+1 - 1=i by omega,hd2]
  rw [kU,qbi,if_pos (by omega),qiI i (by omega) (by omega),qa,qk hp,qa,qk hil,qa,hd,vpr]
  by_cases c1:l[i - 1]≠l[i]
  ·rw [if_pos c1]
   by_cases c2:0≤l[i - 1]
   ·have ha:wq l[i - 1] l[i] 1=[⟨l[i - 1],l[i],1⟩]:=if_pos ⟨c1,c2⟩
    rw [if_pos c2,qH (by simp;omega),qa,kL,qr i (by omega),qa,ih (i+1) (by omega) (by omega) _ (by simp;omega) n (by omega),ha,show i+1 - 1=i by omega,hd2,List.append_assoc]
   ·rw [if_neg c2];exact hno (if_neg fun h=>c2 h.2)
  ·rw [if_neg c1];exact hno (if_neg fun h=>c1 h.1)
theorem qnQ (s:TStory) (hlim:Lim s) (hv:s.Versions.length≤20):∀ (r i:Nat),i+r=s.Versions.length→∀ acc:List TDep,acc.length≤i*1048576→∀ n,r < n →
  kV s n (i:Int) acc=qhq s (acc++(s.Versions.drop i).flatMap vpr):=by
 intro r
 induction r with
 | zero =>
  intro i hi acc hacc n hn
  obtain ⟨n,rfl⟩:=dec n hn
  rw [kV,qdr,if_neg (by omega),List.drop_eq_nil_of_le (by omega)]
  simp
 | succ r ih =>
  intro i hi acc hacc n hn
  obtain ⟨n,rfl⟩:=dec n (by omega)
  have hil:i < s.Versions.length:=by omega
  have hll:=hlim.vs _ (List.getElem_mem hil)
  have hpl:=qbD s.Versions[i]
  have h20:i*1048576≤20*1048576:=Nat.mul_le_mul_right _ (by omega)
  rw [kV,qdr,if_pos (by omega),qk hil,qa,qo hil,List.flatMap_cons]
  by_cases c:s.Versions[i].length=0
  ·have hnil:s.Versions[i]=[]:=List.eq_nil_of_length_eq_zero c
   have h0:kU ([]:List Int) (i:Int) (kV s n) big 1 acc=kM (i:Int) (kV s n) acc:=by
    obtain ⟨q,hq⟩:=dec big (qK (by omega))
    rw [hq,kU,qbi,if_neg (show ¬((1:Int) < (([]:List Int).length:Int)) by decide)]
   rw [hnil,h0,kM,qr i (by omega),qa,ih (i+1) (by omega) acc (Nat.le_trans hacc (Nat.mul_le_mul_right _ (Nat.le_succ i))) n (by omega)]
   rfl
  ·have h2:=qnO s.Versions[i] hll (i:Int) (kV s n) (s.Versions[i].length - 1) 1 (by omega) (Nat.le_refl _) acc (by omega) big (qK (by omega))
   rw [show ((1:Nat):Int)=1 from rfl,Nat.sub_self,List.drop_zero] at h2
   rw [h2,kM,qr i (by omega),qa,ih (i+1) (by omega) _ (by rw [List.length_append,Nat.succ_mul];omega) n (by omega),List.append_assoc]
theorem qoa (s:TStory) (hlim:Lim s) (t:TTale) (ht:t∈s.Tales) (g:TGot) (hok:qjt s t g) (gx18:Int) (go4:Int→List TDep→Option (List TDep×Int)) (acc:List TDep) (hacc:acc.length≤100000000) (x50:Int) (hx:i64 (gx18+1)=some x50) :
  qbk s g t gx18 go4 acc=go4 x50 (acc++match idx s.Versions g.Item with
   | some l=>match idx l (fi g.From 0 l+1) with
    | some b=>wq t.Tx b 3
    | none=>[]
   | none=>[]):=by
 obtain ⟨q,hq⟩:=Int.eq_ofNat_of_zero_le hok.i0
 have hql:q < s.Versions.length:=by have:=hok.i1;omega
 have hll:=hlim.vs _ (List.getElem_mem hql)
 rw [qbk,hq,qk hql,qa,qcT _ _ (by omega),qa]
 generalize hl:s.Versions[q]=l at hll
 have hf:∃ f:Nat,fi g.From 0 l+1=(f:Int)∧f≤l.length:=by
  rcases vL g.From l 0 with ⟨h1,h2⟩ | ⟨j,h1,h2,_⟩
  ·exact ⟨0,by omega,by omega⟩
  ·exact ⟨j+1,by omega,(List.getElem?_eq_some_iff.1 h2).1⟩
 obtain ⟨f,hf,hfl⟩:=hf
 dsimp only
 rw [hf,qN (by omega) (by omega),qa]
 simp only [z6]
 by_cases c:f < l.length
 ·rw [if_pos (by omega),List.getElem?_eq_getElem c,qa]
  show _=go4 x50 (acc++wq t.Tx l[f] 3)
  by_cases c1:t.Tx≠l[f]
  ·rw [if_pos c1]
   by_cases c2:0≤t.Tx
   ·have ha:wq t.Tx l[f] 3=[⟨t.Tx,l[f],3⟩]:=if_pos ⟨c1,c2⟩
    rw [if_pos c2,qH (by simp;omega),qa,qbj,hx,qa,ha]
   ·have ha:wq t.Tx l[f] 3=[]:=if_neg fun h=>c2 h.2
    rw [if_neg c2,qbj,hx,qa,ha,List.append_nil]
  ·have ha:wq t.Tx l[f] 3=[]:=if_neg fun h=>c1 h.1
   rw [if_neg c1,qbj,hx,qa,ha,List.append_nil]
 ·rw [if_neg (by omega),List.getElem?_eq_none (by omega),hx,qa]
  show _=go4 x50 (acc++[])
  rw [List.append_nil]
theorem qpu (s:TStory) (hlim:Lim s) (t:TTale) (ht:t∈s.Tales) (hok:∀ g∈t.Reads,qjt s t g) (gx13:Int) (go3:Int→List TDep→Option (List TDep×Int)):∀ (r j:Nat),j+r=t.Reads.length→∀ acc:List TDep,acc.length+2*r≤100000000→∀ n,r < n →
  wx t s gx13 go3 n (j:Int) acc=qeS gx13 go3 (acc++(t.Reads.drop j).flatMap (kh s t)):=by
 have hrl:=hlim.rd t ht
 intro r
 induction r with
 | zero =>
  intro j hj acc hacc n hn
  obtain ⟨n,rfl⟩:=dec n hn
  rw [wx,qds,if_neg (by omega),List.drop_eq_nil_of_le (by omega)]
  simp
 | succ r ih =>
  intro j hj acc hacc n hn
  obtain ⟨n,rfl⟩:=dec n (by omega)
  have hjl:j < t.Reads.length:=by omega
  have hg:=hok _ (List.getElem_mem hjl)
  rw [wx,qds,if_pos (by omega),qk hjl,qa,qo hjl,List.flatMap_cons]
  generalize t.Reads[j]=g at hg
  have hgo:∀ a2:List TDep,a2=acc++wq g.From t.Tx 2→qbk s g t (j:Int) (wx t s gx13 go3 n) a2=qeS gx13 go3 (acc++(kh s t g++(t.Reads.drop (j+1)).flatMap (kh s t))):=by
   rintro a2 rfl
   have h1:=vl g.From t.Tx 2
   have h2:=vE s t g
   rw [qoa s hlim t ht g hg (j:Int) _ _ (by rw [List.length_append];omega) _ (qr j (by omega))]
   have h3:=ih (j+1) (by omega) (acc++kh s t g) (by rw [List.length_append];omega) n (by omega)
   refine Eq.trans ?_ (h3.trans ?_)
   ·rw [List.append_assoc];rfl
   ·rw [List.append_assoc]
  by_cases c1:g.From≠t.Tx
  ·rw [if_pos c1]
   by_cases c2:0≤g.From
   ·rw [if_pos c2,qH (by simp;omega),qa]
    exact hgo _ (by rw [show wq g.From t.Tx 2=[⟨g.From,t.Tx,2⟩] from if_pos ⟨c1,c2⟩])
   ·rw [if_neg c2]
    exact hgo _ (by rw [show wq g.From t.Tx 2=[] from if_neg fun h=>c2 h.2,List.append_nil])
  ·rw [if_neg c1]
   exact hgo _ (by rw [show wq g.From t.Tx 2=[] from if_neg fun h=>c1 h.1,List.append_nil])
theorem qlb {α β:Type} (f:α→List β) (c:Nat):∀ l:List α,(∀ x,(f x).length≤c)→(l.flatMap f).length≤c*l.length
 | [],_=>by simp
 | x :: l,h=>by
  have h1:=qlb f c l h
  have h2:=h x
  rw [List.flatMap_cons,List.length_append,List.length_cons,Nat.mul_succ]
  omega
theorem qmg (s:TStory) (hg:qbu s) (hlim:Lim s):∀ (r i:Nat),i+r=s.Tales.length→∀ acc:List TDep,acc.length≤20971520+i*2097152→∀ n,r < n →
  wy s n (i:Int) acc=qeT (acc++(s.Tales.drop i).flatMap fun t=>t.Reads.flatMap (kh s t)):=by
 have hnt:=hg.nt
 intro r
 induction r with
 | zero =>
  intro i hi acc hacc n hn
  obtain ⟨n,rfl⟩:=dec n hn
  rw [wy,qdt,if_neg (by omega),List.drop_eq_nil_of_le (by omega)]
  simp
 | succ r ih =>
  intro i hi acc hacc n hn
  obtain ⟨n,rfl⟩:=dec n (by omega)
  have hil:i < s.Tales.length:=by omega
  have hmem:=List.getElem_mem hil
  have hrl:=hlim.rd _ hmem
  have h12:i*2097152≤12*2097152:=Nat.mul_le_mul_right _ (by omega)
  have h2:=qpu s hlim s.Tales[i] hmem (hg.got _ hmem) (i:Int) (wy s n) s.Tales[i].Reads.length 0 (by omega) acc (by omega) big (qK (by omega))
  have h3:=qlb (kh s s.Tales[i]) 2 s.Tales[i].Reads (vE s s.Tales[i])
  rw [show ((0:Nat):Int)=0 from rfl,List.drop_zero] at h2
  rw [wy,qdt,if_pos (by omega),qk hil,qa,qo hil,List.flatMap_cons,h2,qeS,qr i (by omega),qa,ih (i+1) (by omega) _ (by rw [List.length_append];omega) n (by omega),List.append_assoc]
def w9 (s:TStory):List TDep:=s.Versions.flatMap vpr++s.Tales.flatMap fun t=>t.Reads.flatMap (kh s t)
theorem qiO (s:TStory) (hg:qbu s) (hlim:Lim s):M29 s=some (xQ (xE cfDep (w9 s)),0):=by
 have hnv:=hg.nv
 have hnt:=hg.nt
 have h1:=qnQ s hlim hnv s.Versions.length 0 (by omega) [] (by simp) big (qK (by omega))
 have hvl:∀ l:List (List Int),(∀ x∈l,x.length≤1048576)→(l.flatMap vpr).length≤1048576*l.length:=by
  intro l
  induction l with
  | nil=>simp
  | cons x l ih =>
   intro h
   have q1:=ih fun y hy=>h y (by simp [hy])
   have q2:=qbD x
   have q3:=h x (by simp)
   rw [List.flatMap_cons,List.length_append,List.length_cons,Nat.mul_succ]
   omega
 have hv:=hvl s.Versions hlim.vs
 have hv2:1048576*s.Versions.length≤1048576*20:=Nat.mul_le_mul_left _ hnv
 have h2:=qmg s hg hlim s.Tales.length 0 (by omega) (s.Versions.flatMap vpr) (by omega) big (qK (by omega))
 have htl:∀ l:List TTale,(∀ x∈l,x.Reads.length≤1048576)→(l.flatMap fun t=>t.Reads.flatMap (kh s t)).length≤2097152*l.length:=by
  intro l
  induction l with
  | nil=>simp
  | cons x l ih =>
   intro h
   have q1:=ih fun y hy=>h y (by simp [hy])
   have q2:=qlb (kh s x) 2 x.Reads (vE s x)
   have q3:=h x (by simp)
   rw [List.flatMap_cons,List.length_append,List.length_cons,Nat.mul_succ]
   omega
 have ht:=htl s.Tales hlim.rd
 have ht2:2097152*s.Tales.length≤2097152*12:=Nat.mul_le_mul_left _ hnt
 rw [show ((0:Nat):Int)=0 from rfl,List.drop_zero] at h1 h2
 rw [List.nil_append] at h1
 rw [M29,qaQ hg hlim,qa,if_neg (by decide),h1,qhq,h2,qm0 _ (by rw [List.length_append];omega)]
 rfl
end Go.Proofs.YtdlemoeinjihkaaGreatDoor
end
section
namespace Go.Proofs.YtdlemoeinjihkaaGreatDoor
open Go.S Go.Sort
def eo:List TDep→Int→List TE
 | [],_=>[]
 | d :: r,k=>(if d.Kind≤k then [⟨d.From,d.To⟩] else [])++eo r k
theorem qjU (k:Int):∀ l:List TDep,(eo l k).length≤l.length
 | []=>by simp [eo]
 | d :: r=>by
  have:=qjU k r
  rw [eo,List.length_append,List.length_cons]
  split <;> simp <;> omega
theorem qmT (k:Int):∀ l:List TDep,(∀ x∈l,0≤x.From∧x.From < 12∧0≤x.To∧x.To < 12)→InR 12 (eo l k)
 | [],_=>fun e he=>by simp [eo] at he
 | d :: r,h=>fun e he=>by
  rw [eo,List.mem_append] at he
  rcases he with he | he
  ·split at he
   ·rw [List.mem_singleton] at he
    subst he
    obtain ⟨h1,h2,h3,h4⟩:=h d (by simp)
    exact ⟨h1,by omega,h3,by omega⟩
   ·cases he
  ·exact qmT k r (fun x hx=>h x (by simp [hx])) e he
theorem qn7 (s:TStory) (l:List TDep) (hl:l.length≤1000) (hk:∀ x∈l,x.Kind < 4):∀ (r i:Nat),i+r=l.length→∀ acc:List TE,acc.length≤i→∀ n,r < n →
  qah l s n acc (i:Int)=qhI s (acc++eo (l.drop i) 3):=by
 intro r
 induction r with
 | zero =>
  intro i hi acc hacc n hn
  obtain ⟨n,rfl⟩:=dec n hn
  rw [qah,qd0,if_neg (by omega),List.drop_eq_nil_of_le (by omega),eo,List.append_nil]
 | succ r ih =>
  intro i hi acc hacc n hn
  obtain ⟨n,rfl⟩:=dec n (by omega)
  have h1:i < l.length:=by omega
  have h2:=hk _ (List.getElem_mem h1)
  rw [qah,qd0,if_pos (by omega),qk h1,qa,qo h1,eo,if_pos (by omega),qH (by simp;omega),qa,qr i (by omega),qa,ih (i+1) (by omega) _ (by simp;omega) n (by omega),List.append_assoc]
theorem sT4 (s:TStory) (hs:s.Tales.length≤12) (w:Int) (l6:List Int) (gx15:Int) (go3:Int→Option (List Int×Int)):∀ (r k:Nat),k+r=s.Tales.length→∀ n,r < n →
  qai s w l6 gx15 go3 n (k:Int)=yh l6 s gx15 go3 ((s.Tales.drop k).any fun t=>decide (t.Tx=w)):=by
 intro r
 induction r with
 | zero =>
  intro k hk n hn
  obtain ⟨n,rfl⟩:=dec n hn
  rw [qai,qd1,if_neg (by omega),qd6,yg,List.drop_eq_nil_of_le (by omega)]
  rfl
 | succ r ih =>
  intro k hk n hn
  obtain ⟨n,rfl⟩:=dec n (by omega)
  have h1:k < s.Tales.length:=by omega
  rw [qai,qd1,if_pos (by omega),qk h1,qa,qd5,v7 h1]
  by_cases c:s.Tales[k].Tx=w
  ·rw [if_pos (by simp [c]),yg,decide_eq_true (show (0:Int)≤k by omega),decide_eq_true c,Bool.true_or]
  ·rw [if_neg (by simp [c]),qr k (by omega),qa,ih (k+1) (by omega) n (by omega),decide_eq_false c,Bool.false_or]
theorem sT2 (s:TStory) (hs:s.Tales.length≤12) (w:Int) (gx10:Int) (go1:List Int→Int→Int→Option (List Int×Int)) (gl8:List Int) (gx9:Int):∀ (r k:Nat),k+r=s.Tales.length→∀ n,r < n →
  qaj s w gx10 go1 gl8 gx9 n (k:Int)=qfa gx10 go1 gl8 gx9 w ((s.Tales.drop k).any fun t=>decide (t.Tx=w)):=by
 intro r
 induction r with
 | zero =>
  intro k hk n hn
  obtain ⟨n,rfl⟩:=dec n hn
  rw [qaj,qd3,if_neg (by omega),qjq,qe9,List.drop_eq_nil_of_le (by omega)]
  rfl
 | succ r ih =>
  intro k hk n hn
  obtain ⟨n,rfl⟩:=dec n (by omega)
  have h1:k < s.Tales.length:=by omega
  rw [qaj,qd3,if_pos (by omega),qk h1,qa,qjp,v7 h1]
  by_cases c:s.Tales[k].Tx=w
  ·rw [if_pos (by simp [c]),qe9,decide_eq_true (show (0:Int)≤k by omega),decide_eq_true c,Bool.true_or]
  ·rw [if_neg (by simp [c]),qr k (by omega),qa,ih (k+1) (by omega) n (by omega),decide_eq_false c,Bool.false_or]
theorem qll {α:Type} {g x9:List α} {j:Nat} (h1:j < x9.length) (h2:j < g.length) (hgd:g.drop j=x9.drop j):g[j]=x9[j]∧g.drop (j+1)=x9.drop (j+1):=by
 refine ⟨?_,by rw [← List.drop_drop,← List.drop_drop,hgd]⟩
 have:=congrArg (fun q=>q[0]?) hgd
 simp only [List.getElem?_drop,Nat.add_zero] at this
 rw [List.getElem?_eq_getElem h1,List.getElem?_eq_getElem h2,Option.some.injEq] at this
 exact this
theorem qoi (s:TStory) (hs:s.Tales.length≤12) (x9:List Int) (hlen:x9.length≤200):∀ (r j:Nat),j+r=x9.length→∀ (g:List Int) (i:Nat),i≤j→g.length=x9.length→g.take i=(x9.take j).filter (isT s)→g.drop j=x9.drop j→∀ n,r < n →
  wD s n g (i:Int) (j:Int)=some (x9.filter (isT s),0):=by
 intro r
 induction r with
 | zero =>
  intro j hj g i hij hg hgi hgd n hn
  obtain ⟨n,rfl⟩:=dec n hn
  have hlt:(g.take i).length=i:=by rw [List.length_take];omega
  rw [wD,qd4,if_neg (by omega),qjs,je g i (by omega),qa,qgT g i 0 (by omega),qa,vk _ i (by rw [List.length_append];omega),qa,List.take_left' hlt,hgi,List.take_of_length_le (by omega),qfc]
 | succ r ih =>
  intro j hj g i hij hg hgi hgd n hn
  obtain ⟨n,rfl⟩:=dec n (by omega)
  have h1:j < x9.length:=by omega
  have h2:j < g.length:=by omega
  obtain ⟨hgj,hgd'⟩:=qll h1 h2 hgd
  have h3:=sT2 s hs x9[j] (j:Int) (wD s n) g (i:Int) s.Tales.length 0 (by omega) big (qK (by omega))
  rw [show ((0:Nat):Int)=0 from rfl,List.drop_zero] at h3
  change _=qfa (j:Int) _ g (i:Int) x9[j] (isT s x9[j]) at h3
  rw [wD,qd4,if_pos (by omega),qk h2,qa,hgj,h3,qfa,qjr]
  by_cases c:isT s x9[j]=true
  ·have hil:i < g.length:=by omega
   rw [if_neg (by simp [c]),qk hil,qa,Go.S.upd_ok _ hil,qa,qr i (by omega),qa,qr j (by omega),qa]
   refine ih (j+1) (by omega) _ (i+1) (by omega) (by simpa using hg) ?_ ?_ n (by omega)
   ·rw [qs (by simpa using hil),List.getElem_set_self,List.take_set_of_le (Nat.le_refl _),hgi,qs h1,List.filter_append]
    simp [c]
   ·rw [List.drop_set_of_lt (by omega)]
    exact hgd'
  ·rw [if_pos (by simp [c]),qr j (by omega),qa]
   refine ih (j+1) (by omega) g i (by omega) hg ?_ hgd' n (by omega)
   rw [hgi,qs h1,List.filter_append]
   simp [c]
theorem qpv (s:TStory) (hs:s.Tales.length≤12) (x9:List Int) (hlen:x9.length≤200):∀ (r i:Nat),i+r=x9.length→(∀ v∈x9.take i,isT s v=true)→∀ n,r < n →
  wC x9 s n (i:Int)=some (x9.filter (isT s),0):=by
 intro r
 induction r with
 | zero =>
  intro i hi hall n hn
  obtain ⟨n,rfl⟩:=dec n hn
  rw [wC,qd2,if_neg (by omega),qd8,qfb,if_pos rfl,qfc]
  rw [List.take_of_length_le (by omega)] at hall
  rw [List.filter_eq_self.2 hall]
 | succ r ih =>
  intro i hi hall n hn
  obtain ⟨n,rfl⟩:=dec n (by omega)
  have h1:i < x9.length:=by omega
  have h3:=sT4 s hs x9[i] x9 (i:Int) (wC x9 s n) s.Tales.length 0 (by omega) big (qK (by omega))
  rw [show ((0:Nat):Int)=0 from rfl,List.drop_zero] at h3
  change _=yh x9 s (i:Int) _ (isT s x9[i]) at h3
  rw [wC,qd2,if_pos (by omega),qk h1,qa,h3,yh,qd7]
  by_cases c:isT s x9[i]=true
  ·rw [if_neg (by simp [c]),qr i (by omega),qa]
   refine ih (i+1) (by omega) (fun u hu=>?_) n (by omega)
   rw [qs h1,List.mem_append,List.mem_singleton] at hu
   rcases hu with h | rfl
   ·exact hall u h
   ·exact c
  ·rw [if_pos (by simp [c]),qfb,if_neg (by omega),qr i (by omega),qa]
   refine qoi s hs x9 hlen r (i+1) (by omega) x9 i (by omega) rfl ?_ rfl big (qK (by omega))
   rw [qs h1,List.filter_append,List.filter_eq_self.2 hall]
   simp [c]
theorem qib (s:TStory) (hgs:qbu s) {z:List Int} (hz:∀ x∈z,0≤x∧x < 12) (hl:z.length=12) (hn:z.Nodup) (hT:(s.Tales.map TTale.Tx).Nodup):(z.filter (isT s)).length=s.Tales.length:=by
 have hall:∀ k:Int,0≤k→k < 12→k∈z:=fun k h0 h1=>by
  refine Classical.byContradiction fun hne=>?_
  have h2:(k :: z).Nodup:=List.nodup_cons.2 ⟨hne,hn⟩
  have:=xm 12 _ h2 fun x hx=>by
   rcases List.mem_cons.1 hx with e | hx
   ·rw [e];exact ⟨h0,by omega⟩
   ·have:=hz x hx;exact ⟨this.1,by omega⟩
  rw [List.length_cons] at this
  omega
 have hp:(z.filter (isT s)).Perm (s.Tales.map TTale.Tx):=by
  refine (List.perm_ext_iff_of_nodup (hn.filter _) hT).2 fun x=>?_
  rw [List.mem_filter,List.mem_map,isT,List.any_eq_true]
  constructor
  ·rintro ⟨_,t,ht,he⟩
   exact ⟨t,ht,by simpa using he⟩
  ·rintro ⟨t,ht,rfl⟩
   have:=hgs.tx t ht
   exact ⟨hall _ this.1 this.2,t,ht,by simp⟩
 rw [hp.length_eq,List.length_map]
theorem qfR (s:TStory) (hgs:qbu s) (hlim:Lim s) (hT:(s.Tales.map TTale.Tx).Nodup) (hdl:(xQ (xE cfDep (w9 s))).length≤1000) (hin:∀ x∈w9 s,0≤x.From∧x.From < 12∧0≤x.To∧x.To < 12∧x.Kind < 4)
  (hF:∀ U:Int→Prop,(∃ k:Int,0≤k∧k < 12∧U k)→∃ k:Int,0≤k∧k < 12∧U k∧∀ x∈w9 s,x.To=k→¬U x.From):∃ z,M12 s=some (z,0)∧z.length=s.Tales.length:=by
 have hmem:∀ x,x∈xQ (xE cfDep (w9 s))↔x∈w9 s:=fun x=>by
  rw [qba];unfold xE;exact List.mem_mergeSort
 have h5:=qn7 s (xQ (xE cfDep (w9 s))) hdl (fun x hx=>(hin x ((hmem x).1 hx)).2.2.2.2) (xQ (xE cfDep (w9 s))).length 0 (by omega) [] (by simp) big (qK (by omega))
 rw [show ((0:Nat):Int)=0 from rfl,List.drop_zero,List.nil_append] at h5
 have hR:=qmT 3 (xQ (xE cfDep (w9 s))) fun x hx=>by
  have:=hin x ((hmem x).1 hx)
  exact ⟨this.1,this.2.1,this.2.2.1,this.2.2.2.1⟩
 have hel:=qjU 3 (xQ (xE cfDep (w9 s)))
 have heo:∀ (l:List TDep) (p k:Int),Ed (eo l 3) p k→∃ x∈l,x.From=p∧x.To=k:=by
  intro l
  induction l with
  | nil=>intro p k h;simp [Ed,eo] at h
  | cons d r ih =>
   intro p k h
   rw [Ed,eo,List.mem_append] at h
   rcases h with h | h
   ·split at h
    ·rw [List.mem_singleton] at h
     injection h with h1 h2
     exact ⟨d,List.mem_cons_self,h1.symm,h2.symm⟩
    ·cases h
   ·obtain ⟨x,hx,e⟩:=ih p k h
    exact ⟨x,List.mem_cons_of_mem _ hx,e⟩
 obtain ⟨z,h1,h2,h3,h4⟩:=qiw 12 (by decide) (eo (xQ (xE cfDep (w9 s))) 3) (by omega) hR (fun U hU=>by
  obtain ⟨k,k0,k1,k2,k3⟩:=hF U hU
  refine ⟨k,k0,k1,k2,fun p hp he=>?_⟩
  obtain ⟨x,hx,e1,e2⟩:=heo _ _ _ he
  exact k3 x ((hmem x).1 hx) e2 (by rw [e1];exact hp))
 have h7:=qpv s hgs.nt z (by omega) z.length 0 (by omega) (by simp) big (qK (by omega))
 rw [show ((0:Nat):Int)=0 from rfl] at h7
 refine ⟨z.filter (isT s),?_,qib s hgs h2 h3 h4 hT⟩
 rw [M12,qiO s hgs hlim,qm,if_neg (by decide),h5,qhI]
 have h1':M30 12 (eo (xQ (xE cfDep (w9 s))) 3)=some (z,0):=h1
 rw [h1',qm,if_neg (by decide),h7]
end Go.Proofs.YtdlemoeinjihkaaGreatDoor
end
section
namespace Go.Proofs.YtdlemoeinjihkaaGreatDoor
open Go.S
def qfj (H:List Rc) (i:Nat):Int:=match H[i]? with
 | some x=>x.id
 | none=>-1
def wrB (H:List Rc) (k:Int) (i:Nat):Bool:=match H[i]? with
 | some x=>decide (k∈x.writes)
 | none=>false
def xC (H:List Rc) (k:Int):List Int:=((List.range H.length).filter (wrB H k)).map (qfj H)
theorem qa0 {H:List Rc} {z:Rc} {i:Nat} (h:i < H.length):qfj (H++[z]) i=qfj H i:=by
 unfold qfj;rw [List.getElem?_append_left h]
theorem qh3 {H:List Rc} {z:Rc} {k:Int} {i:Nat} (h:i < H.length):wrB (H++[z]) k i=wrB H k i:=by
 unfold wrB;rw [List.getElem?_append_left h]
theorem qen (H:List Rc) (z:Rc) (k:Int):xC (H++[z]) k=xC H k++if k∈z.writes then [z.id] else []:=by
 unfold xC
 rw [List.length_append,List.length_singleton,List.range_succ,List.filter_append,List.map_append]
 congr 1
 ·have e:(List.range H.length).filter (wrB (H++[z]) k)=(List.range H.length).filter (wrB H k):=List.filter_congr fun i hi=>qh3 (List.mem_range.1 hi)
  rw [e]
  exact List.map_congr_left fun i hi=>qa0 (List.mem_range.1 (List.mem_filter.1 hi).1)
 ·have h1:(H++[z])[H.length]?=some z:=by simp
  have h2:wrB (H++[z]) k H.length=decide (k∈z.writes):=by unfold wrB;rw [h1]
  have h3:qfj (H++[z]) H.length=z.id:=by unfold qfj;rw [h1]
  by_cases c:k∈z.writes
  ·rw [if_pos c,List.filter_cons,if_pos (by rw [h2];simp [c]),List.filter_nil,List.map_cons,h3];rfl
  ·rw [if_neg c,List.filter_cons,if_neg (by rw [h2];simp [c])];rfl
theorem xh {H:List Rc} {k a:Int} {p:Nat} (h:(xC H k)[p]?=some a):∃ i x,((List.range H.length).filter (wrB H k))[p]?=some i∧H[i]?=some x∧k∈x.writes∧x.id=a:=by
 unfold xC at h
 rw [List.getElem?_map] at h
 cases hi:((List.range H.length).filter (wrB H k))[p]? with
 | none=>rw [hi] at h;cases h
 | some i =>
  rw [hi,Option.map_some,Option.some.injEq] at h
  have hm:=List.mem_filter.1 (List.mem_of_getElem? hi)
  have hl:=List.mem_range.1 hm.1
  refine ⟨i,H[i],rfl,List.getElem?_eq_getElem hl,?_,?_⟩
  ·have:=hm.2
   unfold wrB at this
   rw [List.getElem?_eq_getElem hl] at this
   simpa using this
  ·unfold qfj at h
   rw [List.getElem?_eq_getElem hl] at h
   exact h
theorem yq {H:List Rc} {k:Int} {p q i j:Nat} (hp:((List.range H.length).filter (wrB H k))[p]?=some i) (hq:((List.range H.length).filter (wrB H k))[q]?=some j) (h:p < q):i < j:=by
 have hs:((List.range H.length).filter (wrB H k)).Pairwise (· < ·):=List.pairwise_lt_range.filter _
 obtain ⟨h1,e1⟩:=List.getElem?_eq_some_iff.1 hp
 obtain ⟨h2,e2⟩:=List.getElem?_eq_some_iff.1 hq
 have:=List.pairwise_iff_getElem.1 hs p q h1 h2 h
 rwa [e1,e2] at this
theorem qaA {H:List Rc} {k:Int} {i:Nat} {x:Rc} (h:H[i]?=some x) (hk:k∈x.writes):x.id∈xC H k:=by
 have hl:=(List.getElem?_eq_some_iff.1 h).1
 refine List.mem_map.2 ⟨i,List.mem_filter.2 ⟨List.mem_range.2 hl,?_⟩,?_⟩
 ·unfold wrB;rw [h];simpa using hk
 ·unfold qfj;rw [h]
def src (H:List Rc) (q:Int) (s:Nat):Int:=match zQ H q s with
 | some j=>qfj H j
 | none=>-1
theorem yv {H:List Rc} {z:Rc} {q:Int} {s:Nat} (h:s≤H.length):src (H++[z]) q s=src H q s:=by
 unfold src
 rw [ja h]
 cases hl:zQ H q s with
 | none=>rfl
 | some j=>exact qa0 (by have:=(zk hl).1;omega)
structure HT (H:List Rc):Prop where
 ok:Hok H
 id0:∀ (i:Nat) (x:Rc),H[i]?=some x→0≤x.id∧x.id < 12
 idn:∀ (i j:Nat) (x y:Rc),H[i]?=some x→H[j]?=some y→x.id=y.id→i=j
 told:∀ (i:Nat) (x:Rc),H[i]?=some x→x.told.length≤200∧∀ g∈x.told,0≤g.Item∧g.Item < 20∧g.Item∈x.reads∧g.From=src H g.Item x.from_.toNat
def qaD (x:Rc):TTale:=⟨x.id,x.told⟩
structure xS (H:List Rc) (s:TStory):Prop where
 t:s.Tales.Perm (H.map qaD)
 so:s.Tales.Pairwise fun a b=>a.Tx < b.Tx
 v:s.Versions=(List.range 20).map fun k:Nat=>xC H (k:Int)
section
variable {H:List Rc} {s:TStory}
theorem HT.len (h:HT H):H.length≤12:=by
 have hn:(H.map Rc.id).Nodup:=by
  rw [List.Nodup,List.pairwise_map,List.pairwise_iff_getElem]
  intro i j hi hj hij e
  have:=h.idn i j _ _ (List.getElem?_eq_getElem hi) (List.getElem?_eq_getElem hj) e
  omega
 have:=xm 12 _ hn fun x hx=>by
  obtain ⟨y,hy,rfl⟩:=List.mem_map.1 hx
  obtain ⟨i,hi⟩:=List.getElem?_of_mem hy
  exact h.id0 i y hi
 simpa using this
theorem qoQ (hS:xS H s) {k:Int} (h0:0≤k) (h1:k < 20):idx s.Versions k=some (xC H k):=by
 rw [hS.v,idx,if_pos h0,List.getElem?_map,List.getElem?_range (by omega),Option.map_some,show ((k.toNat:Nat):Int)=k by omega]
theorem qnP (hS:xS H s) {l:List Int} (h:l∈s.Versions):∃ k:Int,0≤k∧k < 20∧l=xC H k:=by
 rw [hS.v] at h
 obtain ⟨k,hk,rfl⟩:=List.mem_map.1 h
 have:=List.mem_range.1 hk
 exact ⟨(k:Int),by omega,by omega,rfl⟩
theorem qpo (H:List Rc) (k:Int):(xC H k).length≤H.length:=by
 unfold xC
 rw [List.length_map]
 exact Nat.le_trans (List.length_filter_le _ _) (by simp)
theorem qnj (hS:xS H s) {t:TTale} (h:t∈s.Tales):∃ (i:Nat) (x:Rc),H[i]?=some x∧t=qaD x:=by
 obtain ⟨x,hx,rfl⟩:=List.mem_map.1 (hS.t.mem_iff.1 h)
 obtain ⟨i,hi⟩:=List.getElem?_of_mem hx
 exact ⟨i,x,hi,rfl⟩
theorem qmD (h:HT H) (hS:xS H s):Lim s:=⟨fun t ht=>by
 obtain ⟨i,x,hi,rfl⟩:=qnj hS ht
 have:=(h.told i x hi).1
 show x.told.length≤_
 omega,fun l hl=>by
 obtain ⟨k,_,_,rfl⟩:=qnP hS hl
 have:=qpo H k
 have:=h.len
 omega⟩
theorem qcE {q:Int} {n:Nat}:src H q n=-1∧zQ H q n=none∨∃ j x,zQ H q n=some j∧H[j]?=some x∧q∈x.writes∧j < n∧src H q n=x.id:=by
 unfold src
 cases hl:zQ H q n with
 | none=>exact .inl ⟨rfl,rfl⟩
 | some j =>
  obtain ⟨h1,⟨x,hx,hq⟩,_⟩:=zk hl
  refine .inr ⟨j,x,rfl,hx,hq,h1,?_⟩
  show qfj H j=x.id
  unfold qfj;rw [hx]
theorem qk8 (h:HT H) (hS:xS H s):qbu s:=by
 have hl:=h.len
 refine ⟨by rw [hS.t.length_eq,List.length_map];exact hl,by rw [hS.v];simp,fun t ht=>?_,fun t ht g hg=>?_,fun l hl=>?_,fun q hq=>?_⟩
 ·obtain ⟨i,x,hi,rfl⟩:=qnj hS ht
  exact h.id0 i x hi
 ·obtain ⟨i,x,hi,rfl⟩:=qnj hS ht
  obtain ⟨g0,g1,g2,g3⟩:=(h.told i x hi).2 g hg
  have hfr:=h.ok.fr i x hi
  have hid:=h.id0 i x hi
  refine ⟨g0,by rw [hS.v];simp;omega,?_,?_⟩
  ·show g.From≠x.id
   rw [g3]
   rcases qcE (H:=H) (q:=g.Item) (n:=x.from_.toNat) with ⟨e,_⟩ | ⟨j,y,_,hy,_,hj,e⟩
   ·rw [e];omega
   ·rw [e]
    intro e2
    have:=h.idn j i y x hy hi e2
    omega
  ·rw [g3]
   rcases qcE (H:=H) (q:=g.Item) (n:=x.from_.toNat) with ⟨e,_⟩ | ⟨j,y,_,hy,hq,hj,e⟩
   ·exact .inl e
   ·right
    intro l hl2
    rw [qoQ hS g0 g1,Option.some.injEq] at hl2
    rw [← hl2,e]
    exact qaA hy hq
 ·obtain ⟨k,_,_,rfl⟩:=qnP hS hl
  refine ⟨fun w hw=>?_,fun j hj hm=>?_⟩
  ·obtain ⟨p,hp⟩:=List.getElem?_of_mem hw
   obtain ⟨i,x,_,hx,_,e⟩:=xh hp
   rw [isT,List.any_eq_true]
   refine ⟨qaD x,hS.t.mem_iff.2 (List.mem_map.2 ⟨x,List.mem_of_getElem? hx,rfl⟩),?_⟩
   exact decide_eq_true e
  ·obtain ⟨p,hp1,hp2⟩:=List.mem_take_iff_getElem.1 hm
   have hpj:p < j:=by omega
   obtain ⟨i1,x1,a1,a2,_,a3⟩:=xh (List.getElem?_eq_getElem (show p < (xC H k).length by omega))
   obtain ⟨i2,x2,b1,b2,_,b3⟩:=xh (List.getElem?_eq_getElem hj)
   have:=yq a1 b1 hpj
   have:=h.idn i1 i2 x1 x2 a2 b2 (by rw [a3,b3,hp2])
   omega
 ·exact List.pairwise_iff_getElem.1 hS.so q (q+1) (by omega) hq (by omega)
theorem qft:∀ (l:List Int) (x:TDep),x∈vpr l→∃ p,l[p]?=some x.From∧l[p+1]?=some x.To∧x.Kind=1∧x.From≠x.To
 | [],x,h=>by simp [vpr] at h
 | [a],x,h=>by simp [vpr] at h
 | a :: b :: r,x,h=>by
  rw [vpr,List.mem_append] at h
  rcases h with h | h
  ·unfold wq at h
   split at h
   ·rename_i c
    rw [List.mem_singleton] at h
    subst h
    exact ⟨0,rfl,rfl,rfl,c.1⟩
   ·cases h
  ·obtain ⟨p,h1,h2⟩:=qft (b :: r) x h
   exact ⟨p+1,h1,h2⟩
theorem qcf (h:HT H) (hS:xS H s) {x:TDep} (hx:x∈w9 s):∃ i j y z,H[i]?=some y∧H[j]?=some z∧y.id=x.From∧z.id=x.To∧Edg H i j∧x.Kind < 4:=by
 unfold w9 at hx
 rcases List.mem_append.1 hx with hx | hx
 ·obtain ⟨l,hl,hx⟩:=List.mem_flatMap.1 hx
  obtain ⟨k,_,_,rfl⟩:=qnP hS hl
  obtain ⟨p,h1,h2,h3,h4⟩:=qft _ _ hx
  obtain ⟨i,y,a1,a2,a3,a4⟩:=xh h1
  obtain ⟨j,z,b1,b2,b3,b4⟩:=xh h2
  have hij:=yq a1 b1 (Nat.lt_succ_self p)
  exact ⟨i,j,y,z,a2,b2,a4,b4,⟨by omega,y,z,a2,b2,.inl (h.ok.ww i j y z k hij a2 b2 a3 b3)⟩,by omega⟩
 ·obtain ⟨t,ht,hx⟩:=List.mem_flatMap.1 hx
  obtain ⟨g,hg,hx⟩:=List.mem_flatMap.1 hx
  obtain ⟨i,y,hi,rfl⟩:=qnj hS ht
  obtain ⟨g0,g1,g2,g3⟩:=(h.told i y hi).2 g hg
  have hfr:=h.ok.fr i y hi
  unfold kh at hx
  rw [qoQ hS g0 g1] at hx
  rcases List.mem_append.1 hx with hx | hx
  ·unfold wq at hx
   split at hx
   ·rename_i c
    rw [List.mem_singleton] at hx
    subst hx
    rcases qcE (H:=H) (q:=g.Item) (n:=y.from_.toNat) with ⟨e,_⟩ | ⟨j,z,_,hz,hq,hj,e⟩
    ·rw [g3,e] at c;omega
    ·exact ⟨j,i,z,y,hz,hi,by show z.id=g.From;rw [g3,e],rfl,⟨by omega,z,y,hz,hi,.inl (by omega)⟩,by show (2:Int) < 4;omega⟩
   ·cases hx
  ·simp only at hx
   split at hx
   ·rename_i b hb
    unfold wq at hx
    split at hx
    ·rename_i c
     rw [List.mem_singleton] at hx
     subst hx
     obtain ⟨f,hf⟩:∃ f:Nat,fi g.From 0 (xC H g.Item)+1=(f:Int):=by
      rcases vL g.From (xC H g.Item) 0 with ⟨h1,h2⟩ | ⟨j,h1,h2,_⟩
      ·exact ⟨0,by omega⟩
      ·exact ⟨j+1,by omega⟩
     rw [hf,z6] at hb
     obtain ⟨j,z,b1,b2,b3,b4⟩:=xh hb
     have hlate:y.from_ < (j:Int)+1:=by
      refine Classical.byContradiction fun hlt=>?_
      rcases qcE (H:=H) (q:=g.Item) (n:=y.from_.toNat) with ⟨e,hno⟩ | ⟨j0,z0,hl,hz0,hq0,hj0,e⟩
      ·exact kp hno j z (by omega) b2 b3
      ·rcases vL g.From (xC H g.Item) 0 with ⟨_,h2⟩ | ⟨p,h1,h2,_⟩
       ·exact h2 (by rw [g3,e];exact qaA hz0 hq0)
       ·obtain ⟨i1,x1,c1,c2,c3,c4⟩:=xh h2
        have hi1:i1=j0:=h.idn i1 j0 x1 z0 c2 hz0 (by rw [c4,g3,e])
        subst hi1
        have:=yq c1 b1 (by omega)
        exact (zk hl).2.2 j z this (by omega) b2 b3
     have hij:i≠j:=by
      rintro rfl
      rw [hi,Option.some.injEq] at b2
      subst b2
      exact c.1 b4
     exact ⟨i,j,y,z,hi,b2,rfl,b4,⟨hij,y,z,hi,b2,.inr ⟨hlate,g.Item,g2,b3⟩⟩,by show (3:Int) < 4;omega⟩
    ·cases hx
   ·cases hx
theorem qg5 {l:List TDep} (h:l.Pairwise ahd):l.Nodup:=h.imp fun h e=>by subst e;exact qlu _ h
theorem qiP {l:List TDep} (h:l.Nodup) (hin:∀ x∈l,0≤x.From∧x.From < 12∧0≤x.To∧x.To < 12∧1≤x.Kind∧x.Kind < 4):l.length≤432:=by
 have h2:(l.map fun x=>x.From*36+x.To*3+(x.Kind - 1)).Nodup:=by
  rw [List.Nodup,List.pairwise_map]
  refine List.pairwise_iff_forall_sublist.2 fun {x y} hsub e=>?_
  have hx:=hin x (hsub.subset (by simp))
  have hy:=hin y (hsub.subset (by simp))
  have hne:=List.pairwise_iff_forall_sublist.1 h hsub
  apply hne
  cases x;cases y
  simp only at *
  congr 1 <;> omega
 have:=xm 432 _ h2 fun x hx=>by
  obtain ⟨y,hy,rfl⟩:=List.mem_map.1 hx
  have:=hin y hy
  omega
 simpa using this
theorem qaF (h:HT H) (hS:xS H s):M28 s=some 0∧∃ z,M12 s=some (z,0)∧z.length=s.Tales.length:=by
 have hg:=qk8 h hS
 have hl:=qmD h hS
 have hin:∀ x∈w9 s,0≤x.From∧x.From < 12∧0≤x.To∧x.To < 12∧x.Kind < 4:=fun x hx=>by
  obtain ⟨i,j,y,z,h1,h2,h3,h4,_,h5⟩:=qcf h hS hx
  have a:=h.id0 i y h1
  have b:=h.id0 j z h2
  rw [← h3,← h4]
  exact ⟨a.1,a.2,b.1,b.2,h5⟩
 have hk1:∀ x∈w9 s,1≤x.Kind:=fun x hx=>by
  unfold w9 at hx
  rcases List.mem_append.1 hx with hx | hx
  ·obtain ⟨l,_,hx⟩:=List.mem_flatMap.1 hx
   obtain ⟨_,_,_,h3,_⟩:=qft _ _ hx
   omega
  ·obtain ⟨t,_,hx⟩:=List.mem_flatMap.1 hx
   obtain ⟨g,_,hx⟩:=List.mem_flatMap.1 hx
   unfold kh wq at hx
   rcases List.mem_append.1 hx with hx | hx
   ·split at hx
    ·rw [List.mem_singleton.1 hx];show (1:Int)≤2;omega
    ·cases hx
   ·split at hx
    ·split at hx
     ·split at hx
      ·rw [List.mem_singleton.1 hx];show (1:Int)≤3;omega
      ·cases hx
     ·cases hx
    ·cases hx
 have hmem:∀ x,x∈xQ (xE cfDep (w9 s))↔x∈w9 s:=fun x=>by
  rw [qba];unfold xE;exact List.mem_mergeSort
 have hfew:=qiP (qg5 (qa9 (qex (w9 s)))) fun x hx=>by
  have hx:=(hmem x).1 hx
  have a:=hin x hx
  exact ⟨a.1,a.2.1,a.2.2.1,a.2.2.2.1,hk1 x hx,a.2.2.2.2⟩
 refine ⟨qaQ hg hl,qfR s hg hl ?_ (by omega) hin fun U hU=>?_⟩
 ·rw [List.Nodup,List.pairwise_map]
  exact hS.so.imp fun h e=>by omega
 ·
  by_cases hc:∃ i:Nat,∃ x,H[i]?=some x∧U x.id
  ·obtain ⟨i0,x0,hx0,hu0⟩:=hc
   obtain ⟨j,⟨y,hy,huy⟩,hfree⟩:=free h.ok (fun i=>∃ x,H[i]?=some x∧U x.id) ⟨i0,x0,hx0,hu0⟩
   have hid:=h.id0 j y hy
   refine ⟨y.id,hid.1,hid.2,huy,fun x hx hto hp=>?_⟩
   obtain ⟨i,j',u,z,h1,h2,h3,h4,h5,_⟩:=qcf h hS hx
   have:j'=j:=h.idn j' j z y h2 hy (by rw [h4,hto])
   subst this
   exact hfree i ⟨u,h1,by rw [h3];exact hp⟩ h5
  ·obtain ⟨k,k0,k1,k2⟩:=hU
   refine ⟨k,k0,k1,k2,fun x hx hto hp=>?_⟩
   obtain ⟨i,j',u,z,h1,h2,h3,h4,h5,_⟩:=qcf h hS hx
   exact hc ⟨i,u,h1,by rw [h3];exact hp⟩
end
end Go.Proofs.YtdlemoeinjihkaaGreatDoor
end
section
namespace Go.Proofs.YtdlemoeinjihkaaGreatDoor
open Go.S
section
variable (a0:List TOp) (a1:List TDid)
def rd1 (tx:Int):Option TOp→Option TDid→List TGot
 | some o,some d=>if o.Tx=tx∧o.Kind=1∧d.From≠tx then [⟨o.Item,d.From⟩] else []
 | _,_=>[]
def rds (tx:Int):Nat→List TGot
 | 0=>[]
 | i+1=>rds tx i++rd1 tx a0[i]? a1[i]?
def qiR:Option TOp→Option TDid→Option Int
 | some o,some d=>if o.Kind=3∧d.OK=true then some o.Tx else none
 | _,_=>none
def com (i:Nat):Option Int:=qiR a0[i]? a1[i]?
def wro (i:Nat) (tx item:Int):Bool:=decide ((⟨tx,2,item⟩:TOp)∈a0.take i)
def tal:Nat→List TTale
 | 0=>[]
 | i+1=>tal i++(match com a0 a1 i with | some tx=>[⟨tx,rds a0 a1 tx i⟩] | none=>[])
def qhQ (i:Nat) (k:Int) (o:Option Int):List Int:=match o with
 | some tx=>if wro a0 i tx k=true then [tx] else []
 | none=>[]
def ver (k:Int):Nat→List Int
 | 0=>[]
 | i+1=>ver k i++qhQ a0 i k (com a0 a1 i)
def vers (i:Nat):List (List Int):=(List.range 20).map fun k:Nat=>ver a0 a1 (k:Int) i
end
section
variable {a0:List TOp} {a1:List TDid}
theorem qbP (tx:Int):∀ i,(rds a0 a1 tx i).length≤i
 | 0=>Nat.le_refl _
 | i+1=>by
  have:=qbP tx i
  rw [rds,List.length_append]
  have h:(rd1 tx a0[i]? a1[i]?).length≤1:=by
   unfold rd1
   split
   ·split <;> simp
   ·simp
  omega
theorem qbE:∀ i,(tal a0 a1 i).length≤i
 | 0=>Nat.le_refl _
 | i+1=>by
  have:=qbE i
  rw [tal,List.length_append]
  split <;> simp <;> omega
theorem qfw (k:Int):∀ i,(ver a0 a1 k i).length≤i
 | 0=>Nat.le_refl _
 | i+1=>by
  have:=qfw k i
  rw [ver,List.length_append]
  have h:(qhQ a0 i k (com a0 a1 i)).length≤1:=by
   unfold qhQ
   split
   ·split <;> simp
   ·simp
  omega
theorem kW (i:Nat):(vers a0 a1 i).length=20:=by simp [vers]
theorem yr {k:Nat} (i:Nat) (hk:k < 20):(vers a0 a1 i)[k]?=some (ver a0 a1 (k:Int) i):=by simp [vers,hk]
theorem qh8 {i:Nat} {l:List Int} (h:l∈vers a0 a1 i):l.length≤i:=by
 obtain ⟨k,_,rfl⟩:=List.mem_map.1 h
 exact qfw _ i
def qks (v:List (List Int)) (l:List Int) (tx:Int):List (List Int):=l.foldl (fun v k=>v.modify k.toNat (·++[tx])) v
theorem qcw (tx:Int):∀ (l:List Int) (v:List (List Int)),l.Nodup→(∀ k∈l,0≤k)→∀ q:Nat,(qks v l tx)[q]?=(v[q]?).map fun x=>if (q:Int)∈l then x++[tx] else x
 | [],v,_,_,q=>by
  simp only [qks,List.foldl_nil,List.not_mem_nil,if_false]
  cases v[q]? <;> rfl
 | k :: l,v,hn,h0,q=>by
  rw [List.nodup_cons] at hn
  have ih:=qcw tx l (v.modify k.toNat (·++[tx])) hn.2 (fun k hk=>h0 k (List.mem_cons_of_mem _ hk)) q
  unfold qks at *
  rw [List.foldl_cons,ih,List.getElem?_modify]
  have hk0:=h0 k List.mem_cons_self
  cases v[q]? with
  | none=>rfl
  | some x =>
   simp only [Option.map_some,Option.map_eq_map]
   by_cases c:k.toNat=q
   ·have hkq:(q:Int)=k:=by omega
    rw [if_pos c,hkq,if_neg hn.1,if_pos List.mem_cons_self]
   ·have hkq:(q:Int)≠k:=by omega
    rw [if_neg c]
    simp only [List.mem_cons,hkq,false_or]
theorem qh7 {i:Nat} {tx:Int} {l:List Int} (hc:com a0 a1 i=some tx) (hn:l.Nodup) (h0:∀ k∈l,0≤k) (hm:∀ k:Int,k∈l↔(⟨tx,2,k⟩:TOp)∈a0.take i):qks (vers a0 a1 i) l tx=vers a0 a1 (i+1):=by
 apply List.ext_getElem?
 intro q
 rw [qcw tx l _ hn h0]
 by_cases hq:q < 20
 ·rw [yr i hq,yr (i+1) hq,Option.map_some,ver,hc]
  unfold qhQ wro
  by_cases c:(q:Int)∈l
  ·rw [if_pos c];simp [(hm q).1 c]
  ·rw [if_neg c]
   have : ¬ (⟨tx,2,(q:Int)⟩:TOp)∈a0.take i:=fun h=>c ((hm q).2 h)
   simp [this]
 ·rw [List.getElem?_eq_none (by rw [kW];omega),List.getElem?_eq_none (by rw [kW];omega)]
  rfl
theorem jz {i:Nat} (hc:com a0 a1 i=none):vers a0 a1 (i+1)=vers a0 a1 i:=by
 unfold vers
 refine List.map_congr_left fun k _=>?_
 rw [ver,hc,qhQ,List.append_nil]
theorem kY {i:Nat} (hc:com a0 a1 i=none):tal a0 a1 (i+1)=tal a0 a1 i:=by rw [tal,hc,List.append_nil]
theorem qic {i:Nat} {tx:Int} (hc:com a0 a1 i=some tx):tal a0 a1 (i+1)=tal a0 a1 i++[⟨tx,rds a0 a1 tx i⟩]:=by rw [tal,hc]
theorem va {tx:Int}:∀ {i:Nat},(∀ o∈a0.take i,o.Tx≠tx)→rds a0 a1 tx i=[]
 | 0,_=>rfl
 | i+1,h=>by
  rw [rds]
  by_cases hi:i < a0.length
  ·rw [va fun o ho=>h o (by rw [qs hi];exact List.mem_append_left _ ho),List.nil_append,List.getElem?_eq_getElem hi]
   have h1:=h a0[i] (by rw [qs hi];exact List.mem_append_right _ (List.mem_singleton.2 rfl))
   unfold rd1
   split
   ·rename_i o d ho hd
    simp only [Option.some.injEq] at ho
    subst ho
    rw [if_neg fun c=>h1 c.1]
   ·rfl
  ·rw [va fun o ho=>h o (by rw [List.take_of_length_le (by omega)] at *;exact ho),List.nil_append,List.getElem?_eq_none (by omega)]
   rfl
def qaP (o:TOp):Prop:=0≤o.Tx∧o.Tx < 12∧0≤o.Item∧o.Item < 20
instance (o:TOp):Decidable (qaP o):=inferInstanceAs (Decidable (_∧_))
structure Inv (a0:List TOp) (a1:List TDid) (i:Nat) (t:List TTale) (v w:List (List Int)) (ks:List Int) (tl:List (Int×List TGot)):Prop where
 ht:t=tal a0 a1 i
 hv:v=vers a0 a1 i
 hw:w.length=12
 wn:∀ q (h:q < w.length),w[q].Nodup
 wl:∀ q (h:q < w.length),w[q].length≤i
 wm:∀ q (h:q < w.length),∀ k:Int,k∈w[q]↔(⟨(q:Int),2,k⟩:TOp)∈a0.take i
 kk:∀ q,q∈ks↔q∈tl.map (·.1)
 rd:∀ q,q∈ks→zZ tl q=some (rds a0 a1 q i)
 no:∀ q,q ∉ ks→∀ o∈a0.take i,o.Tx≠q
theorem qh9 {α:Type} {tl:List (Int×List α)} {a q:Int} {z:List α} (h:q≠a):zZ (vt tl a z) q=zZ tl q:=by
 unfold zZ vt
 induction tl with
 | nil=>rfl
 | cons p l ih =>
  rw [List.map_cons]
  by_cases c:p.1=a
  ·have : ¬ a=q:=fun e=>h e.symm
   simp only [c,if_true,List.find?_cons,this,decide_false]
   exact ih
  ·simp only [c,if_false,List.find?_cons]
   by_cases c2:p.1=q
   ·simp [c2]
   ·simp only [c2,decide_false]
    exact ih
theorem qfC {α:Type} {tl:List (Int×List α)} {a q:Int} {x:List α} (h:zZ tl q=some x) (z:List α):zZ (tl++[(a,z)]) q=some x:=by
 unfold zZ at *
 cases hf:tl.find? (fun p=>decide (p.1=q)) with
 | none=>simp [hf] at h
 | some p=>rw [List.find?_append,hf];simpa [hf] using h
theorem qfB {α:Type} {tl:List (Int×List α)} {a:Int} (h:a ∉ tl.map (·.1)) (z:List α):zZ (tl++[(a,z)]) a=some z:=by
 unfold zZ
 have:tl.find? (fun p=>decide (p.1=a))=none:=by
  rw [List.find?_eq_none]
  intro p hp
  have:p.1≠a:=fun c=>h (List.mem_map.2 ⟨p,hp,c⟩)
  simpa using this
 rw [List.find?_append,this]
 simp
theorem qkG {α:Type} (tl:List (Int×List α)) (a:Int) (z:List α):(vt tl a z).map (·.1)=tl.map (·.1):=yB tl a z
theorem Inv.step {i:Nat} {t t':List TTale} {v w v' w':List (List Int)} {ks:List Int} {tl tl':List (Int×List TGot)} (h:Inv a0 a1 i t v w ks tl) (hi:i < a0.length) (hk:a0[i].Tx∈ks) (ht:t'=tal a0 a1 (i+1)) (hv:v'=vers a0 a1 (i+1))
  (hw:w'.length=12) (hn:∀ q (h:q < w'.length),w'[q].Nodup) (hl:∀ q (h:q < w'.length),w'[q].length≤i+1) (hm:∀ q (h:q < w'.length),∀ k:Int,k∈w'[q]↔(⟨(q:Int),2,k⟩:TOp)∈a0.take (i+1))
  (hkk:tl'.map (·.1)=tl.map (·.1)) (hrd:∀ q,q∈ks→zZ tl' q=some (rds a0 a1 q (i+1))):Inv a0 a1 (i+1) t' v' w' ks tl' :=
 ⟨ht,hv,hw,hn,hl,hm,fun q=>by rw [hkk];exact h.kk q,hrd,fun q hq o ho=>by
  rw [qs hi,List.mem_append,List.mem_singleton] at ho
  rcases ho with ho | ho
  ·exact h.no q hq o ho
  ·subst ho
   intro e
   exact hq (e ▸ hk)⟩
end
end Go.Proofs.YtdlemoeinjihkaaGreatDoor
end
section
namespace Go.Proofs.YtdlemoeinjihkaaGreatDoor
open Go.S
section
variable {a0:List TOp} {a1:List TDid} {i:Nat} {t:List TTale} {v w:List (List Int)} {ks:List Int} {tl:List (Int×List TGot)}
theorem qm1 (hi:i < a0.length) (hj:i < a1.length):com a0 a1 i=if a0[i].Kind=3∧a1[i].OK=true then some a0[i].Tx else none:=by
 rw [com,List.getElem?_eq_getElem hi,List.getElem?_eq_getElem hj,qiR]
theorem qmr (hi:i < a0.length) (hj:i < a1.length) (tx:Int):rds a0 a1 tx (i+1)=rds a0 a1 tx i++if a0[i].Tx=tx∧a0[i].Kind=1∧a1[i].From≠tx then [⟨a0[i].Item,a1[i].From⟩] else []:=by
 rw [rds,List.getElem?_eq_getElem hi,List.getElem?_eq_getElem hj,rd1]
theorem vf (hi:i < a0.length) (x:TOp):x∈a0.take (i+1)↔x∈a0.take i∨x=a0[i]:=by
 rw [qs hi,List.mem_append,List.mem_singleton]
theorem qeB (v:List (List Int)) (k:Nat) (tx:Int) (h:k < v.length):v.modify k (·++[tx])=v.set k (v[k]++[tx]):=by
 apply List.ext_getElem?
 intro q
 rw [List.getElem?_modify,List.getElem?_set]
 by_cases c:k=q
 ·subst c
  rw [if_pos rfl,if_pos h,List.getElem?_eq_getElem h]
  simp
 ·rw [if_neg c]
  cases v[q]? with
  | none=>rfl
  | some x=>simp [c]
theorem qpD {α:Type} {l:List α} {k:Int} (h0:0≤k) (h1:k < l.length):idx l k=some (l[k.toNat]'(by omega)):=by
 have h:=qk (l:=l) (i:=k.toNat) (by omega)
 rwa [show ((k.toNat:Nat):Int)=k by omega] at h
theorem qoR {α:Type} {l:List α} {k:Int} (x:α) (h0:0≤k) (h1:k < l.length):upd l k x=some (l.set k.toNat x):=if_pos ⟨h0,h1⟩
theorem qoh (x:TOp) (ks:List Int) (tl:List (Int×List TGot)) (t:List TTale) (gi:Int) (go1:Int→List TTale→List (List Int)→List (List Int)→List Int→List (Int×List TGot)→Option (TStory×Int)) (w:List (List Int)) (l:List Int) (hl:l.length≤1000) (hk:∀ k∈l,0≤k∧k < 20) :
  ∀ (r j:Nat),j+r=l.length→∀ n,r < n→∀ v:List (List Int),v.length=20→(∀ y∈v,y.length+r≤1000000)→qan l x ks tl t gi go1 w n (j:Int) v=qhJ ks x tl t gi go1 w (qks v (l.drop j) x.Tx):=by
 intro r
 induction r with
 | zero =>
  intro j hj n hn v hv hy
  obtain ⟨n,rfl⟩:=dec n hn
  rw [qan,qec,if_neg (by omega),List.drop_eq_nil_of_le (by omega)]
  rfl
 | succ r ih =>
  intro j hj n hn v hv hy
  obtain ⟨n,rfl⟩:=dec n (by omega)
  have hjl:j < l.length:=by omega
  obtain ⟨h0,h1⟩:=hk l[j] (List.getElem_mem hjl)
  have hkv:(l[j]).toNat < v.length:=by omega
  have hyl:=hy _ (List.getElem_mem hkv)
  rw [qan,qec,if_pos (by omega),qk hjl,qa,qpD h0 (by omega),qa,qH (by simp;omega),qa,qa,qoR _ h0 (by omega),qa,qr j (by omega),qa]
  rw [ih (j+1) (by omega) n (by omega) _ (by simp [hv]) (fun y hy'=>?_),qo hjl,qks,qks,List.foldl_cons,qeB _ _ _ hkv]
  rcases List.mem_or_eq_of_mem_set hy' with h | h
  ·have:=hy y h;omega
  ·subst h;simp;omega
theorem qcq (hn:i < 1000) (go1:Int→List TTale→List (List Int)→List (List Int)→List Int→List (Int×List TGot)→Option (TStory×Int)) (t:List TTale) (v w:List (List Int)) (ks:List Int) (tl:List (Int×List TGot)) :
  qbt (i:Int) go1 t v w ks tl=go1 ((i+1:Nat):Int) t v w ks tl:=by
 rw [qbt,qr i (by omega),qa]
theorem qjM (hi:i < a0.length) (hd:a1.length=a0.length) (hn:a0.length≤200) (hok:qaP a0[i]) (hpre:∀ o∈a0.take i,qaP o) (hI:Inv a0 a1 i t v w ks tl) (hkey:a0[i].Tx∈ks)
  (go1:Int→List TTale→List (List Int)→List (List Int)→List Int→List (Int×List TGot)→Option (TStory×Int)) :
  ∃ t' v' w' tl',qfd a0[i] a1 (i:Int) go1 t v w ks tl=go1 ((i+1:Nat):Int) t' v' w' ks tl'∧Inv a0 a1 (i+1) t' v' w' ks tl':=by
 have hj:i < a1.length:=by omega
 have hce:=qm1 (a0:=a0) (a1:=a1) hi hj
 have hre:=qmr (a0:=a0) (a1:=a1) hi hj
 obtain ⟨hx0,hx1,hx2,hx3⟩:=hok
 have hwm:a0[i].Kind≠2→∀ q (h:q < w.length),∀ k:Int,k∈w[q]↔(⟨(q:Int),2,k⟩:TOp)∈a0.take (i+1):=by
  intro hk q h k
  rw [vf hi,hI.wm q h k]
  refine ⟨.inl,fun c=>c.elim id fun e=>?_⟩
  exact absurd (congrArg TOp.Kind e).symm hk
 have hwl:∀ q (h:q < w.length),w[q].length≤i+1:=fun q h=>Nat.le_succ_of_le (hI.wl q h)
 have stay:a0[i].Kind≠2→com a0 a1 i=none→(∀ q,q∈ks→rds a0 a1 q (i+1)=rds a0 a1 q i)→Inv a0 a1 (i+1) t v w ks tl:=fun hk2 hc hr =>
  hI.step hi hkey (by rw [kY hc,hI.ht]) (by rw [jz hc,hI.hv]) hI.hw hI.wn hwl (hwm hk2) rfl (fun q hq=>by rw [hr q hq];exact hI.rd q hq)
 have hrn:a0[i].Kind≠1→∀ q,rds a0 a1 q (i+1)=rds a0 a1 q i:=fun hk q=>by rw [hre,if_neg fun c=>hk c.2.1,List.append_nil]
 have hcn:a0[i].Kind≠3→com a0 a1 i=none:=fun hk=>by rw [hce,if_neg fun c=>hk c.1]
 have hgt:=hI.rd _ hkey
 have hrl:=qbP (a0:=a0) (a1:=a1) a0[i].Tx i
 have htxw:a0[i].Tx.toNat < w.length:=by rw [hI.hw];omega
 have htxc:((a0[i].Tx.toNat:Nat):Int)=a0[i].Tx:=by omega
 have hwA:zD 12 w a0[i].Tx=some (w[a0[i].Tx.toNat]):=by
  have:=qb4 htxw hI.hw
  rwa [htxc] at this
 rw [qfd]
 by_cases k1:a0[i].Kind=1
 ·rw [if_pos k1,qk hj,qa]
  by_cases c:a1[i].From≠a0[i].Tx
  ·rw [if_pos c,kQ,if_pos rfl,qcp,if_pos rfl,vu,if_pos hkey,qa,qa,qk hj,qa,hgt,qa,qH (by simp;omega),qa,qcq (by omega)]
   refine ⟨_,_,_,_,rfl,hI.step hi hkey (by rw [kY (hcn (by omega)),hI.ht]) (by rw [jz (hcn (by omega)),hI.hv]) hI.hw hI.wn hwl (hwm (by omega)) (qkG _ _ _) (fun q hq=>?_)⟩
   by_cases e:q=a0[i].Tx
   ·subst e
    rw [qaC hgt,hre,if_pos ⟨rfl,k1,c⟩]
   ·rw [qh9 e,hI.rd q hq,hre,if_neg fun c=>e c.1.symm,List.append_nil]
  ·rw [if_neg c,kQ,if_neg ff,qcp,if_neg ff,if_neg (by omega),qao,if_neg ff,qbr,if_neg ff,if_neg (by omega),wE,if_neg ff,qcq (by omega)]
   refine ⟨_,_,_,_,rfl,stay (by omega) (hcn (by omega)) fun q hq=>?_⟩
   rw [hre,if_neg,List.append_nil]
   rintro ⟨e1,_,e3⟩
   exact c (e1 ▸ e3)
 ·rw [if_neg k1,kQ,if_neg ff,qcp,if_neg ff]
  by_cases k2:a0[i].Kind=2
  ·have hxe:a0[i]=⟨a0[i].Tx,2,a0[i].Item⟩:=by
    cases hx:a0[i]
    rw [hx] at k2
    simp only at k2
    rw [k2]
   have hwl0:=hI.wl _ htxw
   rw [if_pos k2,hwA,qa,jv _ _ (by omega),qa]
   by_cases c:a0[i].Item∈w[a0[i].Tx.toNat]
   ·rw [if_pos (by simpa using c),qao,if_neg ff,qbr,if_neg ff,if_neg (by omega),wE,if_neg ff,qcq (by omega)]
    refine ⟨_,_,_,_,rfl,hI.step hi hkey (by rw [kY (hcn (by omega)),hI.ht]) (by rw [jz (hcn (by omega)),hI.hv]) hI.hw hI.wn hwl (fun q h k=>?_) rfl (fun q hq=>by rw [hrn k1];exact hI.rd q hq)⟩
    rw [vf hi,hI.wm q h k]
    refine ⟨.inl,fun e=>e.elim id fun e=>?_⟩
    have e1:(q:Int)=a0[i].Tx:=congrArg TOp.Tx e
    have e2:k=a0[i].Item:=congrArg TOp.Item e
    have h3:=(hI.wm _ htxw a0[i].Item).1 c
    rw [htxc] at h3
    rw [e1,e2]
    exact h3
   ·rw [if_neg (by simpa using c),qao,if_pos rfl,qbr,if_pos rfl,hwA,qa,qH (by simp;omega),qa,qa,qoR _ hx0 (by rw [hI.hw];omega),qa,qcq (by omega)]
    refine ⟨_,_,_,_,rfl,hI.step hi hkey (by rw [kY (hcn (by omega)),hI.ht]) (by rw [jz (hcn (by omega)),hI.hv]) (by simp [hI.hw]) (fun q h=>?_) (fun q h=>?_) (fun q h k=>?_) rfl (fun q hq=>by rw [hrn k1];exact hI.rd q hq)⟩
    ·rw [List.getElem_set]
     split
     ·rw [List.nodup_append]
      exact ⟨hI.wn _ htxw,by simp,fun a ha b hb hab=>by
       simp only [List.mem_singleton] at hb
       subst hb;subst hab
       exact c ha⟩
     ·exact hI.wn q (by simpa using h)
    ·rw [List.getElem_set]
     split
     ·simp;omega
     ·exact Nat.le_succ_of_le (hI.wl q (by simpa using h))
    ·rw [vf hi,List.getElem_set]
     by_cases e:a0[i].Tx.toNat=q
     ·subst e
      rw [if_pos rfl,List.mem_append,List.mem_singleton,hI.wm _ htxw k,htxc]
      refine or_congr Iff.rfl ⟨fun e=>?_,fun e=>congrArg TOp.Item e⟩
      rw [e];exact hxe.symm
     ·rw [if_neg e,hI.wm q (by simpa using h) k]
      refine ⟨.inl,fun e2=>e2.elim id fun e2=>?_⟩
      have:(q:Int)=a0[i].Tx:=congrArg TOp.Tx e2
      omega
  ·rw [if_neg k2,qao,if_neg ff,qbr,if_neg ff]
   by_cases k3:a0[i].Kind=3
   ·rw [if_pos k3,qk hj,qa]
    by_cases c:a1[i].OK=true
    ·have hc:com a0 a1 i=some a0[i].Tx:=by rw [hce,if_pos ⟨k3,c⟩]
     have hmem:=hI.wm _ htxw
     rw [htxc] at hmem
     have hwl0:=hI.wl _ htxw
     have h20:∀ k∈w[a0[i].Tx.toNat],0≤k∧k < 20:=fun k hk=>by
      have:=hpre _ ((hmem k).1 hk)
      exact ⟨this.2.2.1,this.2.2.2⟩
     have hv20:v.length=20:=by rw [hI.hv];exact kW i
     have htl:=qbE (a0:=a0) (a1:=a1) i
     have h5:=qoh a0[i] ks tl t (i:Int) go1 w _ (by omega) h20 w[a0[i].Tx.toNat].length 0 (by omega) big (qK (by omega)) v hv20 (fun y hy=>by
      rw [hI.hv] at hy
      have:=qh8 hy
      omega)
     rw [show ((0:Nat):Int)=0 from rfl,List.drop_zero] at h5
     rw [if_pos c,wE,if_pos rfl,hwA,qa,h5,qhJ,vu,if_pos hkey,qa,hgt,qa,qH (by rw [hI.ht];simp;omega),qa,qcq (by omega)]
     refine ⟨_,_,_,_,rfl,hI.step hi hkey (by rw [qic hc,hI.ht]) (by rw [hI.hv];exact qh7 hc (hI.wn _ htxw) (fun k hk=>(h20 k hk).1) hmem) hI.hw hI.wn hwl (hwm k2) rfl (fun q hq=>by rw [hrn k1];exact hI.rd q hq)⟩
    ·rw [if_neg c,wE,if_neg ff,qcq (by omega)]
     exact ⟨_,_,_,_,rfl,stay k2 (by rw [hce,if_neg fun e=>c e.2]) fun q hq=>hrn k1 q⟩
   ·rw [if_neg k3,wE,if_neg ff,qcq (by omega)]
    exact ⟨_,_,_,_,rfl,stay k2 (hcn k3) fun q hq=>hrn k1 q⟩
theorem Inv.key (hI:Inv a0 a1 i t v w ks tl) (tx:Int) (h:tx ∉ ks):Inv a0 a1 i t v w (ks++[tx]) (tl++[(tx,[])]):=by
 have h2:tx ∉ tl.map (·.1):=fun c=>h ((hI.kk tx).2 c)
 refine ⟨hI.ht,hI.hv,hI.hw,hI.wn,hI.wl,hI.wm,fun q=>?_,fun q hq=>?_,fun q hq=>hI.no q fun c=>hq (List.mem_append_left _ c)⟩
 ·rw [List.map_append,List.mem_append,List.mem_append,hI.kk q];rfl
 ·by_cases e:q=tx
  ·subst e
   rw [qfB h2,va (hI.no q h)]
  ·rcases List.mem_append.1 hq with hq | hq
   ·exact qfC (hI.rd q hq) _
   ·exact absurd (by simpa using hq) e
noncomputable def qkN (t:List TTale) (v:List (List Int)):Option (TStory×Int):=qhK t v [] []
theorem qmu (hd:a1.length=a0.length) (hn:a0.length≤200):∀ (r i:Nat),i+r=a0.length→(∀ o∈a0.take i,qaP o)→∀ n,r < n→∀ t v w ks tl,Inv a0 a1 i t v w ks tl →
  wc a0 a1 n (i:Int) t v w ks tl=if ∀ o∈a0.drop i,qaP o then qkN (tal a0 a1 a0.length) (vers a0 a1 a0.length) else some (⟨[],[]⟩,1):=by
 intro r
 induction r with
 | zero =>
  intro i hi hp n hn' t v w ks tl hI
  obtain ⟨n,rfl⟩:=dec n hn'
  obtain rfl:i=a0.length:=by omega
  rw [wc,qed,if_neg (by omega),if_pos (by simp),hI.ht,hI.hv]
  rfl
 | succ r ih =>
  intro i hi hp n hn' t v w ks tl hI
  obtain ⟨n,rfl⟩:=dec n (by omega)
  have hil:i < a0.length:=by omega
  rw [wc,qed,if_pos (by omega),qk hil,qa]
  have hbad : ¬ qaP a0[i]→¬ ∀ o∈a0.drop i,qaP o:=fun hb h=>hb (h _ (by rw [qo hil];exact List.mem_cons_self))
  by_cases c1:a0[i].Tx < 0
  ·rw [if_pos c1,qbs,if_pos rfl,if_neg (hbad fun h=>by unfold qaP at h;omega)]
  rw [if_neg c1]
  by_cases c2:12≤a0[i].Tx
  ·rw [if_pos c2,qbs,if_pos rfl,if_neg (hbad fun h=>by unfold qaP at h;omega)]
  rw [if_neg c2,qbs,if_neg ff]
  by_cases c3:a0[i].Item < 0
  ·rw [if_pos c3,if_neg (hbad fun h=>by unfold qaP at h;omega)]
  rw [if_neg c3]
  by_cases c4:20≤a0[i].Item
  ·rw [if_pos c4,if_neg (hbad fun h=>by unfold qaP at h;omega)]
  rw [if_neg c4,qgf]
  have hok:qaP a0[i]:=⟨by omega,by omega,by omega,by omega⟩
  have hnext:(∀ o∈a0.drop i,qaP o)↔∀ o∈a0.drop (i+1),qaP o:=by
   rw [qo hil,List.forall_mem_cons]
   exact ⟨fun h=>h.2,fun h=>⟨hok,h⟩⟩
  have hp':∀ o∈a0.take (i+1),qaP o:=fun o ho=>by
   rcases (vf hil o).1 ho with h | h
   ·exact hp o h
   ·rw [h];exact hok
  simp only [hnext]
  by_cases c:a0[i].Tx∈ks
  ·rw [if_pos c,if_neg (by simp)]
   obtain ⟨t',v',w',tl',h1,h2⟩:=qjM hil hd hn hok hp hI c (wc a0 a1 n)
   rw [h1]
   exact ih (i+1) (by omega) hp' n (by omega) _ _ _ _ _ h2
  ·rw [if_neg c,if_pos (show (none:Option Int).isNone=true from rfl),tsAdd,if_neg (fun h=>c (h.elim id fun h=>(hI.kk _).2 h)),qm]
   obtain ⟨t',v',w',tl',h1,h2⟩:=qjM hil hd hn hok hp (hI.key _ c) (by simp) (wc a0 a1 n)
   rw [h1]
   exact ih (i+1) (by omega) hp' n (by omega) _ _ _ _ _ h2
theorem qpC:Inv a0 a1 0 [] (List.replicate 20 []) (List.replicate 12 []) [] []:=by
 refine ⟨rfl,?_,by simp,fun q h=>by rw [List.getElem_replicate];exact List.nodup_nil,fun q h=>by rw [List.getElem_replicate];exact Nat.le_refl _,fun q h k=>by rw [List.getElem_replicate];simp,fun q=>by simp,fun q hq=>by simp at hq,fun q _ o ho=>by simp at ho⟩
 apply List.ext_getElem?
 intro q
 by_cases hq:q < 20
 ·rw [yr 0 hq,ver,List.getElem?_replicate,if_pos hq]
 ·rw [List.getElem?_eq_none (by simp;omega),List.getElem?_eq_none (by rw [kW];omega)]
theorem qog (hd:a1.length=a0.length) (hn:a0.length≤200):M11 a0 a1=if ∀ o∈a0,qaP o then qkN (tal a0 a1 a0.length) (vers a0 a1 a0.length) else some (⟨[],[]⟩,1):=by
 rw [M11,if_neg (by omega),if_neg (by omega),(show mk 20 ([]:List Int)=some (List.replicate 20 []) from if_pos (by decide)),qa]
 have:=qmu hd hn a0.length 0 (by omega) (by simp) big (qK (by omega)) _ _ _ _ _ qpC
 rw [List.drop_zero] at this
 exact this
end
end Go.Proofs.YtdlemoeinjihkaaGreatDoor
end
section
namespace Go.Proofs.YtdlemoeinjihkaaGreatDoor
open Go.S
def key (w n:Int):List UInt8:=Lib.itoa w++[46]++Lib.itoa n
theorem qiH:∀ w:Fin 12,∀ c∈Lib.itoa ((w:Nat):Int),c≠46:=by decide +kernel
theorem qiG:∀ w v:Fin 12,Lib.itoa ((w:Nat):Int)=Lib.itoa ((v:Nat):Int)→w=v:=by decide +kernel
theorem qkY {w v n m:Int} (h0:0≤w) (h1:w < 12) (h2:0≤v) (h3:v < 12) (h:key w n=key v m):w=v:=by
 have t:∀ (w n:Int),0≤w→w < 12→(key w n).takeWhile (fun c=>decide (c≠46))=Lib.itoa w:=fun w n h0 h1=>by
  have hd:=qiH ⟨w.toNat,by omega⟩
  rw [show (((⟨w.toNat,by omega⟩:Fin 12):Nat):Int)=w from by show ((w.toNat:Nat):Int)=w;omega] at hd
  unfold key
  rw [List.append_assoc,List.takeWhile_append_of_pos (fun c hc=>by simpa using hd c hc)]
  simp
 have e:Lib.itoa w=Lib.itoa v:=by rw [← t w n h0 h1,← t v m h2 h3,h]
 have:=qiG ⟨w.toNat,by omega⟩ ⟨v.toNat,by omega⟩ (by
  show Lib.itoa ((w.toNat:Nat):Int)=Lib.itoa ((v.toNat:Nat):Int)
  rw [show ((w.toNat:Nat):Int)=w by omega,show ((v.toNat:Nat):Int)=v by omega,e])
 have:=congrArg Fin.val this
 simp only at this
 omega
theorem qmF (w n:Int):key w n≠[]:=by simp [key]
section
variable {κ α:Type} [DecidableEq κ]
theorem xq (l:List (κ×α)) (k:κ) (v z:α):vi (qbw l k v) k z=v:=by
 unfold qbw
 split
 ·rename_i h
  unfold qkW at h
  rw [List.any_eq_true] at h
  obtain ⟨p,hp,hk⟩:=h
  unfold vi
  have:∀ l:List (κ×α),(∃ p∈l,p.1=k)→(l.map fun p=>if p.1=k then (k,v) else p).find? (fun p=>decide (p.1=k))=some (k,v):=by
   intro l
   induction l with
   | nil=>rintro ⟨p,hp,_⟩;cases hp
   | cons q l ih =>
    rintro ⟨p,hp,he⟩
    rw [List.map_cons,List.find?_cons]
    by_cases c:q.1=k
    ·simp [c]
    ·simp only [c,if_false,decide_false]
     rcases List.mem_cons.1 hp with rfl | hp
     ·exact absurd he c
     ·exact ih ⟨p,hp,he⟩
  rw [this l ⟨p,hp,by simpa using hk⟩]
 ·rename_i h
  unfold qkW at h
  unfold vi
  have:l.find? (fun p=>decide (p.1=k))=none:=by
   rw [List.find?_eq_none]
   intro p hp hk
   exact h (List.any_eq_true.2 ⟨p,hp,by simpa using hk⟩)
  rw [List.find?_append,this]
  simp
theorem jr (l:List (κ×α)) {k k':κ} (v z:α) (hne:k'≠k):vi (qbw l k v) k' z=vi l k' z:=by
 have hk : ¬k=k':=fun e=>hne e.symm
 unfold qbw
 split
 ·unfold vi
  have:∀ l:List (κ×α),(l.map fun p=>if p.1=k then (k,v) else p).find? (fun p=>decide (p.1=k'))=l.find? (fun p=>decide (p.1=k')):=by
   intro l
   induction l with
   | nil=>rfl
   | cons q l ih =>
    rw [List.map_cons,List.find?_cons,List.find?_cons,ih]
    by_cases c:q.1=k
    ·have c2 : ¬q.1=k':=fun e=>hk (c.symm.trans e)
     simp [c,hk]
    ·simp [c]
  rw [this l]
 ·unfold vi
  rw [List.find?_append]
  cases l.find? (fun p=>decide (p.1=k')) <;> simp [hk]
end
structure Named (nm:List (List UInt8×Int)) (w:Int) (x:List UInt8):Prop where
 k:∃ n,x=key w n
 g:vi nm x 0=w+1
theorem Named.set {nm:List (List UInt8×Int)} {w v m:Int} {x:List UInt8} (h:Named nm w x) (h0:0≤w) (h1:w < 12) (h2:0≤v) (h3:v < 12):Named (qbw nm (key v m) (v+1)) w x:=by
 refine ⟨h.k,?_⟩
 by_cases c:x=key v m
 ·obtain ⟨n,hn⟩:=h.k
  have:=qkY h0 h1 h2 h3 (hn.symm.trans c)
  subst this
  rw [c,xq]
 ·rw [jr _ _ _ c,h.g]
structure Nms (nm:List (List UInt8×Int)):Prop where
 e:vi nm [] 0=0
 b:∀ x,0≤vi nm x 0∧vi nm x 0≤12
theorem Nms.set {nm:List (List UInt8×Int)} (h:Nms nm) {v m:Int} (h2:0≤v) (h3:v < 12):Nms (qbw nm (key v m) (v+1)):=by
 refine ⟨?_,fun x=>?_⟩
 ·rw [jr _ _ _ (qmF v m).symm,h.e]
 ·by_cases c:x=key v m
  ·rw [c,xq];omega
  ·rw [jr _ _ _ c];exact h.b x
section
variable {a0:List TOp} {a1:List TDid} {o:TOp} {d:TDid}
theorem yA (tx:Int) (hd:a1.length=a0.length):∀ i,i≤a0.length→rds (a0++[o]) (a1++[d]) tx i=rds a0 a1 tx i
 | 0,_=>rfl
 | i+1,h=>by
  rw [rds,rds,yA tx hd i (by omega),List.getElem?_append_left (by omega),List.getElem?_append_left (by omega)]
theorem qgQ (hd:a1.length=a0.length) {i:Nat} (h:i < a0.length):com (a0++[o]) (a1++[d]) i=com a0 a1 i:=by
 rw [com,com,List.getElem?_append_left (by omega),List.getElem?_append_left (by omega)]
theorem qfs {i:Nat} (h:i≤a0.length) (tx item:Int):wro (a0++[o]) i tx item=wro a0 i tx item:=by
 unfold wro
 rw [List.take_append_of_le_length h]
theorem qfD (hd:a1.length=a0.length):∀ i,i≤a0.length→tal (a0++[o]) (a1++[d]) i=tal a0 a1 i
 | 0,_=>rfl
 | i+1,h=>by
  rw [tal,tal,qfD hd i (by omega),qgQ hd (by omega)]
  split
  ·rw [yA _ hd i (by omega)]
  ·rfl
theorem qfv (hd:a1.length=a0.length) (k:Int):∀ i,i≤a0.length→ver (a0++[o]) (a1++[d]) k i=ver a0 a1 k i
 | 0,_=>rfl
 | i+1,h=>by
  rw [ver,ver,qfv hd k i (by omega),qgQ hd (by omega)]
  unfold qhQ
  split
  ·rw [qfs (by omega)]
  ·rfl
theorem qdb (hd:a1.length=a0.length):(a0++[o])[a0.length]?=some o∧(a1++[d])[a0.length]?=some d:=⟨by simp,by rw [← hd];simp⟩
theorem qbQ (hd:a1.length=a0.length) (tx:Int):rds (a0++[o]) (a1++[d]) tx (a0++[o]).length=rds a0 a1 tx a0.length++rd1 tx (some o) (some d):=by
 rw [List.length_append,List.length_singleton,rds,yA tx hd _ (Nat.le_refl _),(qdb (o:=o) (d:=d) hd).1,(qdb (o:=o) (d:=d) hd).2]
theorem qgR (hd:a1.length=a0.length):com (a0++[o]) (a1++[d]) a0.length=qiR (some o) (some d):=by
 rw [com,(qdb (o:=o) (d:=d) hd).1,(qdb (o:=o) (d:=d) hd).2]
theorem qfE (hd:a1.length=a0.length):tal (a0++[o]) (a1++[d]) (a0++[o]).length=tal a0 a1 a0.length++(match qiR (some o) (some d) with | some tx=>[⟨tx,rds a0 a1 tx a0.length⟩] | none=>[]):=by
 rw [List.length_append,List.length_singleton,tal,qfD hd _ (Nat.le_refl _),qgR hd]
 cases qiR (some o) (some d) with
 | none=>rfl
 | some tx=>simp only [yA _ hd _ (Nat.le_refl _)]
theorem qfx (hd:a1.length=a0.length) (k:Int):ver (a0++[o]) (a1++[d]) k (a0++[o]).length=ver a0 a1 k a0.length++qhQ a0 a0.length k (qiR (some o) (some d)):=by
 rw [List.length_append,List.length_singleton,ver,qfv hd k _ (Nat.le_refl _),qgR hd]
 cases qiR (some o) (some d) with
 | none=>rfl
 | some tx=>simp only [qhQ,qfs (Nat.le_refl _)]
end
end Go.Proofs.YtdlemoeinjihkaaGreatDoor
end
section
namespace Go.Proofs.YtdlemoeinjihkaaGreatDoor
open Go.S
structure Ac (H:List Rc) (pl L:List Int) (I:List (List TVersion)) (ov:List Bool) (nm:List (List UInt8×Int)) (ops:List TOp) (dids:List TDid) (t:Ttx):Prop where
  fo:∀ (i:Nat) (a:Int),pl[i]?=some a→a ∉ L→(i:Int)+1≤t.from_
  it:∀ k:Nat,k < 20→∃ l,I[k]?=some l∧rdv l t.from_=kR H k t.from_.toNat
  ov:ov[t.id_.toNat]?=some false
  nm:∀ k∈t.writes_,Named nm t.id_ (qW t k)
  rd:∀ g∈rds ops dids t.id_ ops.length,0≤g.Item∧g.Item < 20∧g.Item∈t.reads_∧g.From=src H g.Item t.from_.toNat
  wr:∀ k:Int,(⟨t.id_,2,k⟩:TOp)∈ops↔k∈t.writes_
structure SI (T:List TStore) (D:List TDisk) (G:List TLog) (X:List Ttx) (s:Int) (ov:List Bool) (ops:List TOp) (dids:List TDid) (nm:List (List UInt8×Int)) (S:TStore) (H:List Rc) (pl:List Int):Prop where
  hs:idx T s=some S
  ok:StOk S X
  sm:Sm S
  lok:Lok D G S
  dl:∀ x∈G,x.d_ < D.length
  hT:∀ x∈T,TStore.ok73 X.length x
  now:S.now_=H.length
  ht:HT H
  pll:pl.length=H.length
  pa:∀ (i:Nat) (x:Rc) (a:Int),H[i]?=some x→pl[i]?=some a→∃ t,idx X a=some t∧t.at_=(i:Int)+1∧t.reads_=x.reads∧t.writes_=x.writes
  pn:∀ a∈S.active_,a ∉ pl
  fl:∀ (i j:Nat) (a b:Int),Skp H i j→pl[i]?=some a→pl[j]?=some b→(∀ t,idx X a=some t→t.out_=true)∧∀ t,idx X b=some t→t.in_=true
  it:∀ k:Nat,k < 20→∃ l,S.items_[k]?=some l∧rdv l S.now_=kR H k H.length
  ovl:ov.length=12
  ovh:∀ (i:Nat) (x:Rc),H[i]?=some x→ov[x.id.toNat]?=some true
  nms:Nms nm
  nmh:∀ (i:Nat) (x:Rc),H[i]?=some x→∀ k∈x.writes,Named nm x.id (x.text k)
  ol:ops.length≤200
  dlen:dids.length=ops.length
  oko:∀ o∈ops,qaP o
  ac:∀ x∈S.active_,∀ t,idx X x=some t→Ac H pl S.over_ S.items_ ov nm ops dids t
  rn:∀ w:Int,0≤w→w < 12→ov[w.toNat]?=some false→(∀ x∈S.active_,∀ t,idx X x=some t→t.id_≠w)→∀ o∈ops,o.Tx≠w
  tl:tal ops dids ops.length=H.map qaD
  vr:∀ k:Nat,k < 20→ver ops dids (k:Int) ops.length=xC H (k:Int)
section
variable {T:List TStore} {D:List TDisk} {G:List TLog} {X:List Ttx} {s:Int} {ov:List Bool} {ops:List TOp} {dids:List TDid} {nm:List (List UInt8×Int)} {S:TStore} {H:List Rc} {pl:List Int}
theorem SI.id01 (h:SI T D G X s ov ops dids nm S H pl) {x:Int} (hx:x∈S.active_) {t:Ttx} (ht:idx X x=some t):TxOk S.now_ t:=by
  obtain ⟨u,hu,hk⟩:=h.ok.ac x hx
  rw [ht,Option.some.injEq] at hu
  subst hu
  exact hk
theorem SI.name (h:SI T D G X s ov ops dids nm S H pl) {v m:Int} (h2:0≤v) (h3:v < 12):SI T D G X s ov ops dids (qbw nm (key v m) (v+1)) S H pl :=
  ⟨h.hs,h.ok,h.sm,h.lok,h.dl,h.hT,h.now,h.ht,h.pll,h.pa,h.pn,h.fl,h.it,h.ovl,h.ovh,h.nms.set h2 h3,
   fun i x hi k hk=>(h.nmh i x hi k hk).set (h.ht.id0 i x hi).1 (h.ht.id0 i x hi).2 h2 h3,h.ol,h.dlen,h.oko,
   fun x hx t ht=>by
     have ha:=h.ac x hx t ht
     have hk:=h.id01 hx ht
     exact ⟨ha.fo,ha.it,ha.ov,fun k hk2=>(ha.nm k hk2).set hk.i0 hk.i1 h2 h3,ha.rd,ha.wr⟩,h.rn,h.tl,h.vr⟩
theorem Ac.other {L:List Int} {I:List (List TVersion)} {t:Ttx} {o:TOp} {d:TDid} (hd:dids.length=ops.length) (h:Ac H pl L I ov nm ops dids t) (ho:o.Tx≠t.id_):Ac H pl L I ov nm (ops++[o]) (dids++[d]) t:=by
  refine ⟨h.fo,h.it,h.ov,h.nm,fun g hg=>?_,fun k=>?_⟩
  · rw [qbQ hd,rd1,if_neg fun c=>ho c.1,List.append_nil] at hg
    exact h.rd g hg
  · rw [List.mem_append,List.mem_singleton,h.wr k]
    refine ⟨fun c=>c.elim id fun e=>?_,.inl⟩
    exact absurd (congrArg TOp.Tx e).symm ho
theorem SI.begin (h:SI T D G X s ov ops dids nm S H pl) {id:Int} (h0:0≤id) (h1:id < 12) (hv:ov[id.toNat]?=some false):∃ T' X' e S',M6 s id T X=some (T',X',e)∧SI T' D G X' s ov ops dids nm S' H pl:=by
  rcases qiX h.hs h.ok h.hT id with ⟨e,g,_⟩ | ⟨g,_,_,g3,g4⟩
  · exact ⟨_,_,_,S,g,h⟩
  · refine ⟨_,_,_,qg0 S X.length,g,?_⟩
    have hn:=h.now
    have old:∀ {x:Int} {t:Ttx},x∈S.active_→idx (X++[jq id S.now_]) x=some t→idx X x=some t:=fun {x t} hx ht=>by
      obtain ⟨u,hu,_⟩:=h.ok.ac x hx
      rw [js hu] at ht
      rw [hu,ht]
    have hno:∀ o∈ops,o.Tx≠id:=h.rn id h0 h1 hv g4
    have pcase:∀ {x:Int} {t:Ttx},x∈(qg0 S X.length).active_→idx (X++[jq id S.now_]) x=some t→(x∈S.active_∧idx X x=some t)∨(x=X.length∧t=jq id S.now_):=fun {x t} hx ht=>by
      rcases List.mem_append.1 hx with hx | hx
      · exact .inl ⟨hx,old hx ht⟩
      · rw [List.mem_singleton.1 hx,qcU,Option.some.injEq] at ht
        exact .inr ⟨List.mem_singleton.1 hx,ht.symm⟩
    have pin:∀ a∈pl,a < X.length:=fun a ha=>by
      obtain ⟨i,hi⟩:=List.getElem?_of_mem ha
      have hl:=(List.getElem?_eq_some_iff.1 hi).1
      obtain ⟨t,ht,_⟩:=h.pa i _ a (List.getElem?_eq_getElem (show i < H.length by have:=h.pll;omega)) hi
      exact (qe ht).2.1
    have pold:∀ {a:Int} {t:Ttx},a∈pl→idx (X++[jq id S.now_]) a=some t→idx X a=some t:=fun {a t} ha ht=>by
      obtain ⟨i,hi⟩:=List.getElem?_of_mem ha
      have hl:=(List.getElem?_eq_some_iff.1 hi).1
      obtain ⟨u,hu,_⟩:=h.pa i _ a (List.getElem?_eq_getElem (show i < H.length by have:=h.pll;omega)) hi
      rw [js hu] at ht
      rw [hu,ht]
    refine ⟨qq h.hs,g3,h.sm,h.lok,h.dl,fun x hx=>?_,hn,h.ht,h.pll,fun i x a hi ha=>?_,fun a ha hp=>?_,fun i j a b hs ha hb=>?_,h.it,h.ovl,h.ovh,h.nms,h.nmh,h.ol,h.dlen,h.oko,fun x hx t ht=>?_,fun w hw0 hw1 hwv hwa=>?_,h.tl,h.vr⟩
    · rcases List.mem_or_eq_of_mem_set hx with hx | rfl
      · have:=h.hT x hx
        refine ⟨fun k hk=>?_,fun k hk=>?_⟩
        · have:=this.1 k hk;simp;omega
        · have:=this.2 k hk;simp;omega
      · exact ⟨g3.ac.lt,g3.ov.lt⟩
    · obtain ⟨t,h1,h2⟩:=h.pa i x a hi ha
      exact ⟨t,js h1,h2⟩
    · rcases List.mem_append.1 ha with ha | ha
      · exact h.pn a ha hp
      · have:=pin a hp
        rw [List.mem_singleton.1 ha] at this
        omega
    · obtain ⟨q1,q2⟩:=h.fl i j a b hs ha hb
      exact ⟨fun t ht=>q1 t (pold (List.mem_of_getElem? ha) ht),fun t ht=>q2 t (pold (List.mem_of_getElem? hb) ht)⟩
    · rcases pcase hx ht with ⟨hx,ht⟩ | ⟨_,rfl⟩
      · exact h.ac x hx t ht
      · refine ⟨fun i a ha _=>?_,fun k hk=>?_,hv,fun k hk=>by simp [jq] at hk,fun g hg=>?_,fun k=>?_⟩
        · have:=(List.getElem?_eq_some_iff.1 ha).1
          have:=h.pll
          show _≤S.now_
          omega
        · obtain ⟨l,q1,q2⟩:=h.it k hk
          refine ⟨l,q1,?_⟩
          show rdv l S.now_=kR H k S.now_.toNat
          rw [q2,hn];simp
        · change g∈rds ops dids id ops.length at hg
          rw [va (fun o ho=>hno o (List.mem_of_mem_take ho))] at hg
          cases hg
        · refine ⟨fun c=>absurd rfl (hno _ c),fun c=>?_⟩
          simp [jq] at c
    · refine h.rn w hw0 hw1 hwv fun x hx t ht=>hwa x (List.mem_append_left _ hx) t (js ht)
theorem SI.turn (h:SI T D G X s ov ops dids nm S H pl) (hol:ops.length < 200) {a:Int} {t u:Ttx} (ha:a∈S.active_) (ht:idx X a=some t) (hk:Kin t u) {o:TOp} {d:TDid} (ho:o.Tx=t.id_) (hk3:o.Kind≠3) (hi0:0≤o.Item) (hi1:o.Item < 20) (hac:Ac H pl S.over_ S.items_ ov nm (ops++[o]) (dids++[d]) u):SI T D G (X.set a.toNat u) s ov (ops++[o]) (dids++[d]) nm S H pl:=by
  have htk:=h.id01 ha ht
  have hcom:qiR (some o) (some d)=none:=if_neg fun c=>hk3 c.1
  have hap:a ∉ pl:=h.pn a ha
  have pne:∀ {b:Int} {v:Ttx},b∈pl→idx (X.set a.toNat u) b=some v→idx X b=some v:=fun {b v} hb hv=>by
    obtain ⟨i,hi⟩:=List.getElem?_of_mem hb
    have hl:=(List.getElem?_eq_some_iff.1 hi).1
    obtain ⟨w,hw,_⟩:=h.pa i _ b (List.getElem?_eq_getElem (show i < H.length by have:=h.pll;omega)) hi
    rw [kH hw (qe ht).1 (fun e=>hap (e ▸ hb))] at hv
    rw [hw,hv]
  refine ⟨h.hs,h.ok.stay (Stay.set ht hk.i hk.ok),h.sm,h.lok,h.dl,fun x hx=>by rw [List.length_set];exact h.hT x hx,h.now,h.ht,h.pll,fun i x b hi hb=>?_,h.pn,fun i j b c hs hb hc=>?_,h.it,h.ovl,h.ovh,h.nms,h.nmh,by rw [List.length_append,List.length_singleton];omega,by rw [List.length_append,List.length_append,h.dlen];rfl,fun o' ho'=>?_,fun x hx v hv=>?_,fun w hw0 hw1 hwv hwa o' ho'=>?_,?_,fun k hk2=>?_⟩
  · obtain ⟨v,q1,q2⟩:=h.pa i x b hi hb
    exact ⟨v,kH q1 (qe ht).1 (fun e=>hap (e ▸ List.mem_of_getElem? hb)),q2⟩
  · obtain ⟨q1,q2⟩:=h.fl i j b c hs hb hc
    exact ⟨fun v hv=>q1 v (pne (List.mem_of_getElem? hb) hv),fun v hv=>q2 v (pne (List.mem_of_getElem? hc) hv)⟩
  · rcases List.mem_append.1 ho' with ho' | ho'
    · exact h.oko o' ho'
    · rw [List.mem_singleton.1 ho']
      exact ⟨by rw [ho];exact htk.i0,by rw [ho];exact htk.i1,hi0,hi1⟩
  · by_cases c:x=a
    · subst c
      rw [qq ht,Option.some.injEq] at hv
      subst hv
      exact hac
    · obtain ⟨w,hw,_⟩:=h.ok.ac x hx
      have hv2:=hv
      rw [kH hw (qe ht).1 (fun e=>c e.symm),Option.some.injEq] at hv2
      subst hv2
      exact (h.ac x hx w hw).other h.dlen fun e=>c (h.ok.ai x hx a ha w t hw ht (by rw [← e,ho]))
  · have hne:t.id_≠w:=by rw [← hk.i];exact hwa a ha u (qq ht)
    rcases List.mem_append.1 ho' with ho' | ho'
    · refine h.rn w hw0 hw1 hwv (fun x hx v hv=>?_) o' ho'
      by_cases c:x=a
      · subst c
        rw [ht,Option.some.injEq] at hv
        subst hv
        exact hne
      · exact hwa x hx v (kH hv (qe ht).1 (fun e=>c e.symm))
    · rw [List.mem_singleton.1 ho',ho];exact hne
  · rw [qfE h.dlen,hcom,List.append_nil,h.tl]
  · rw [qfx h.dlen,hcom,qhQ,List.append_nil,h.vr k hk2]
theorem SI.seen (h:SI T D G X s ov ops dids nm S H pl) (q:Int) {n:Nat} (hn:n≤H.length):vi nm (kR H q n) 0 - 1=src H q n:=by
  unfold src kR
  cases hl:zQ H q n with
  | none=>simp only;rw [h.nms.e];rfl
  | some j =>
    obtain ⟨_,⟨x,hx,hq⟩,_⟩:=zk hl
    simp only
    rw [hx]
    simp only
    rw [(h.nmh j x hx q hq).g]
    unfold qfj
    rw [hx]
    simp only
    omega
theorem SI.read (h:SI T D G X s ov ops dids nm S H pl) (hol:ops.length < 200) (id item:Int):∃ X' x e,M7 s id item T X=some (X',x,e)∧((e≠0∧X'=X)∨(e=0∧SI T D G X' s ov (ops++[⟨id,1,item⟩]) (dids++[⟨true,vi nm x 0 - 1⟩]) nm S H pl)):=by
  rcases qis h.hs h.ok id item with ⟨e,g,he⟩ | ⟨a,t,u,x,l,ha,ht,hid,hi0,hi1,g,hk,huw,hut,hur,hl,hx⟩
  · exact ⟨_,_,_,g,.inl ⟨he,rfl⟩⟩
  · refine ⟨_,_,_,g,.inr ⟨rfl,h.turn hol ha ht hk hid.symm (show (1:Int)≠3 by decide) hi0 hi1 ?_⟩⟩
    have hac:=h.ac a ha t ht
    have htk:=h.id01 ha ht
    have hn:=h.now
    refine ⟨fun i b hb hb2=>by rw [hk.f];exact hac.fo i b hb hb2,fun k hk2=>by rw [hk.f];exact hac.it k hk2,by rw [hk.i];exact hac.ov,fun k hk2=>?_,fun g2 hg=>?_,fun k=>?_⟩
    · have e:qW u k=qW t k:=by unfold qW;rw [hut]
      rw [e,hk.i]
      rw [huw] at hk2
      exact hac.nm k hk2
    · rw [hk.i,qbQ h.dlen,List.mem_append] at hg
      rw [hk.f]
      rcases hg with hg | hg
      · obtain ⟨q1,q2,q3,q4⟩:=hac.rd g2 hg
        exact ⟨q1,q2,hur _ q3,q4⟩
      · change g2∈(if id=t.id_∧(1:Int)=1∧vi nm x 0 - 1≠t.id_ then [(⟨item,vi nm x 0 - 1⟩:TGot)] else []) at hg
        split at hg
        · rename_i c
          rw [List.mem_singleton] at hg
          subst hg
          rcases hx with ⟨hw,rfl⟩ | ⟨hw,hr,rfl⟩
          · exfalso
            refine c.2.2 ?_
            show vi nm (qW t item) 0 - 1=t.id_
            rw [(hac.nm item hw).g];omega
          · refine ⟨hi0,hi1,hr,?_⟩
            show vi nm (rdv l t.from_) 0 - 1=src H item t.from_.toNat
            obtain ⟨l',q1,q2⟩:=hac.it item.toNat (by omega)
            have e1:l'=l:=by
              have:=(qe hl).2.2
              rw [q1,Option.some.injEq] at this
              exact this
            rw [show ((item.toNat:Nat):Int)=item by omega] at q2
            rw [← e1,q2]
            have:=htk.f1
            exact h.seen item (by omega)
        · cases hg
    · rw [hk.i,huw,List.mem_append,List.mem_singleton,hac.wr k]
      refine ⟨fun c=>c.elim (fun q=>q) fun e=>?_,.inl⟩
      exact absurd (congrArg TOp.Kind e) (show ¬(2:Int)=1 by decide)
theorem SI.write (h:SI T D G X s ov ops dids nm S H pl) (hol:ops.length < 200) (id item m:Int) (hg:vi nm (key id m) 0=id+1):∃ X' e,M9 s id item (key id m) T X=some (X',e)∧((e≠0∧X'=X)∨(e=0∧SI T D G X' s ov (ops++[⟨id,2,item⟩]) (dids++[⟨true,-1⟩]) nm S H pl)):=by
  rcases qh2 h.hs h.ok id item (key id m) with ⟨e,g,he⟩ | ⟨a,t,u,g,ha,ht,hid,hi0,hi1,hk,hur,huw,hut⟩
  · exact ⟨_,_,g,.inl ⟨he,rfl⟩⟩
  · refine ⟨_,_,g,.inr ⟨rfl,h.turn hol ha ht hk hid.symm (show (2:Int)≠3 by decide) hi0 hi1 ?_⟩⟩
    have hac:=h.ac a ha t ht
    have htk:=h.id01 ha ht
    have h20:=htk.t20
    refine ⟨fun i b hb hb2=>by rw [hk.f];exact hac.fo i b hb hb2,fun k hk2=>by rw [hk.f];exact hac.it k hk2,by rw [hk.i];exact hac.ov,fun k hk2=>?_,fun g2 hg=>?_,fun k=>?_⟩
    · rw [hk.i]
      by_cases c:k=item
      · subst c
        have e:qW u k=key id m:=by
          unfold qW
          rw [hut,List.getD_eq_getElem?_getD,List.getElem?_set,if_pos rfl,if_pos (by omega)];rfl
        rw [e,hid]
        exact ⟨⟨m,rfl⟩,hg⟩
      · have hkt:k∈t.writes_:=((huw k).1 hk2).elim (fun q=>q) fun e=>absurd e c
        have hk0:=htk.w.2.2 k hkt
        have e:qW u k=qW t k:=by
          unfold qW
          rw [hut,List.getD_eq_getElem?_getD,List.getD_eq_getElem?_getD,List.getElem?_set,if_neg (by omega)]
        rw [e]
        exact hac.nm k hkt
    · rw [hk.i,qbQ h.dlen,rd1,if_neg fun c=>absurd c.2.1 (show ¬(2:Int)=1 by decide),List.append_nil] at hg
      rw [hk.f,hur]
      exact hac.rd g2 hg
    · rw [hk.i,huw k,List.mem_append,List.mem_singleton,hac.wr k]
      refine or_congr Iff.rfl ⟨fun e=>congrArg TOp.Item e,fun e=>by rw [e,hid]⟩
end
end Go.Proofs.YtdlemoeinjihkaaGreatDoor
end
section
namespace Go.Proofs.YtdlemoeinjihkaaGreatDoor
open Go.S
theorem HT.snoc {H:List Rc} {z:Rc} (h:HT H) (hok:Hok (H++[z])) (h0:0≤z.id) (h1:z.id < 12) (hn:∀ (i:Nat) (x:Rc),H[i]?=some x→x.id≠z.id) (ht:z.told.length≤200∧∀ g∈z.told,0≤g.Item∧g.Item < 20∧g.Item∈z.reads∧g.From=src H g.Item z.from_.toNat):HT (H++[z]):=by
 have hfz:=(hok.fr H.length z (by simp)).2
 refine ⟨hok,fun i x hi=>?_,fun i j x y hi hj e=>?_,fun i x hi=>?_⟩
 ·rcases qE hi with ⟨_,q⟩ | ⟨_,rfl⟩
  ·exact h.id0 i x q
  ·exact ⟨h0,h1⟩
 ·rcases qE hi with ⟨_,q⟩ | ⟨q,rfl⟩ <;> rcases qE hj with ⟨_,r⟩ | ⟨r,rfl⟩
  ·exact h.idn i j x y q r e
  ·exact absurd e (hn i x q)
  ·exact absurd e.symm (hn j y r)
  ·omega
 ·rcases qE hi with ⟨hl,q⟩ | ⟨_,rfl⟩
  ·have hf:=(h.ok.fr i x q)
   obtain ⟨p1,p2⟩:=h.told i x q
   exact ⟨p1,fun g hg=>by rw [yv (by omega)];exact p2 g hg⟩
  ·exact ⟨ht.1,fun g hg=>by rw [yv (by omega)];exact ht.2 g hg⟩
theorem qcJ {x:List TVersion} {v:TVersion} {q:Int}:rdv (x++[v]) q=if v.At≤q then v.Text else rdv x q:=by
 unfold rdv vis
 rw [List.filter_append]
 by_cases c:v.At≤q
 ·rw [if_pos c,List.filter_cons,if_pos (by simpa using c)];simp
 ·rw [if_neg c,List.filter_cons,if_neg (by simpa using c)];simp
theorem qit {x:List TVersion} {now q:Int} (hv:∀ v∈x,v.At≤now) (hq:now≤q):rdv x q=rdv x now:=by
 unfold rdv vis
 rw [List.filter_congr (q:=fun v=>decide (v.At≤now)) fun v hm=>?_]
 have:=hv v hm
 rw [decide_eq_decide]
 omega
section
variable {T:List TStore} {D:List TDisk} {G:List TLog} {X:List Ttx} {s:Int} {ov:List Bool} {ops:List TOp} {dids:List TDid} {nm:List (List UInt8×Int)} {S:TStore} {H:List Rc} {pl:List Int}
theorem wQ {id w:Int} (h:ov.length=12) (h0:0≤id) (h1:id < 12) (hw:0≤w):(ov.set id.toNat true)[w.toNat]?=if w=id then some true else ov[w.toNat]?:=by
 rw [List.getElem?_set]
 by_cases c:w=id
 ·subst c;rw [if_pos rfl,if_pos rfl,if_pos (by omega)]
 ·rw [if_neg (by omega),if_neg c]
theorem SI.fall (h:SI T D G X s ov ops dids nm S H pl) {a:Int} {t:Ttx} {b:List Int} {f:Int} (ha:a∈S.active_) (ht:idx X a=some t)
  (hok:StOk (dropped S a b fun x=>!(decide ((kX X x).at_≤f))) X) (hsm:Sm (dropped S a b fun x=>!(decide ((kX X x).at_≤f)))) (hf:f≤S.now_) (hb:∀ x∈S.active_,x≠a→∀ t,idx X x=some t→t.from_∈b∧f≤t.from_) :
  SI (T.set s.toNat (dropped S a b fun x=>!(decide ((kX X x).at_≤f)))) D G X s (ov.set t.id_.toNat true) ops dids nm (dropped S a b fun x=>!(decide ((kX X x).at_≤f))) H pl:=by
 have htk:=h.id01 ha ht
 have hm:∀ x∈S.active_.filter (fun x=>!(decide (x=a))),x∈S.active_∧x≠a:=fun x hx=>by
  have:=List.mem_filter.1 hx
  simpa using this
 have hat:∀ (i:Nat) (c:Int),pl[i]?=some c→(kX X c).at_=(i:Int)+1:=fun i c hc=>by
  have hl:=(List.getElem?_eq_some_iff.1 hc).1
  obtain ⟨v,q1,q2,_⟩:=h.pa i _ c (List.getElem?_eq_getElem (show i < H.length by have:=h.pll;omega)) hc
  rw [xj q1,q2]
 refine ⟨qq h.hs,hok,hsm,h.lok,h.dl,fun x hx=>?_,h.now,h.ht,h.pll,h.pa,fun x hx=>h.pn x (hm x hx).1,h.fl,fun k hk=>?_,by simp [h.ovl],fun i x hi=>?_,h.nms,h.nmh,h.ol,h.dlen,h.oko,fun x hx v hv=>?_,fun w hw0 hw1 hwv hwa=>?_,h.tl,h.vr⟩
 ·rcases List.mem_or_eq_of_mem_set hx with hx | rfl
  ·exact h.hT x hx
  ·exact ⟨hok.ac.lt,hok.ov.lt⟩
 ·obtain ⟨l,q1,q2⟩:=h.it k hk
  refine ⟨left l b S.now_,?_,?_⟩
  ·show (S.items_.map _)[k]?=_
   rw [List.getElem?_map,q1];rfl
  ·show rdv (left l b S.now_) S.now_=_
   rw [qb0 (h.ok.vs l (List.mem_of_getElem? q1)) (.inr rfl),q2]
 ·have:=h.ht.id0 i x hi
  rw [wQ h.ovl htk.i0 htk.i1 this.1]
  split
  ·rfl
  ·exact h.ovh i x hi
 ·obtain ⟨hx1,hx2⟩:=hm x hx
  have hac:=h.ac x hx1 v hv
  have hvk:=h.id01 hx1 hv
  obtain ⟨hb1,hb2⟩:=hb x hx1 hx2 v hv
  refine ⟨fun i c hc hno=>?_,fun k hk=>?_,?_,hac.nm,hac.rd,hac.wr⟩
  ·by_cases c2:c∈S.over_
   ·have:(kX X c).at_≤f:=by
     refine Classical.byContradiction fun hlt=>hno (List.mem_filter.2 ⟨c2,by simp;omega⟩)
    rw [hat i c hc] at this
    omega
   ·exact hac.fo i c hc c2
  ·obtain ⟨l,q1,q2⟩:=hac.it k hk
   refine ⟨left l b S.now_,?_,?_⟩
   ·show (S.items_.map _)[k]?=_
    rw [List.getElem?_map,q1];rfl
   ·rw [qb0 (h.ok.vs l (List.mem_of_getElem? q1)) (.inl hb1),q2]
  ·rw [wQ h.ovl htk.i0 htk.i1 hvk.i0,if_neg (fun e=>hx2 (h.ok.ai x hx1 a ha v t hv ht e))]
   exact hac.ov
 ·rw [wQ h.ovl htk.i0 htk.i1 hw0] at hwv
  split at hwv
  ·cases hwv
  ·rename_i hne
   refine h.rn w hw0 hw1 hwv fun x hx v hv=>?_
   by_cases c:x=a
   ·subst c
    rw [ht,Option.some.injEq] at hv
    subst hv
    exact fun e=>hne e.symm
   ·exact hwa x (List.mem_filter.2 ⟨hx,by simpa using c⟩) v hv
def qir (t:Ttx) (l:List TGot):Rc:=⟨t.id_,t.from_,t.reads_,t.writes_,qW t,l⟩
theorem SI.done (h:SI T D G X s ov ops dids nm S H pl) (hol:ops.length < 200) {a:Int} {t:Ttx} {D':List TDisk} {S':TStore} {Z:List Ttx} {G':List TLog} (ha:a∈S.active_) (ht:idx X a=some t)
  (hc:Com X S a t Z S') (hok:StOk S' Z) (hsm:Sm S') (hdl:∀ x∈G',x.d_ < D'.length) (hlok:Lok D' G' S') :
  SI (T.set s.toNat S') D' G' Z s (ov.set t.id_.toNat true) (ops++[⟨t.id_,3,0⟩]) (dids++[⟨true,-1⟩]) nm S' (H++[qir t (rds ops dids t.id_ ops.length)]) (pl++[a]):=by
 have htk:=h.id01 ha ht
 have hac:=h.ac a ha t ht
 have hn:=h.now
 have hpl:=h.pll
 have hap:a ∉ pl:=h.pn a ha
 obtain ⟨ins,outs,hmay,hin1,hin2,hout1,hout2⟩:=hc.may
 obtain ⟨b,f,hf,hb,hover,hitems⟩:=hc.rest
 have hact:∀ x∈S'.active_,x∈S.active_∧x≠a:=fun x hx=>by
  rw [hc.act] at hx
  have:=List.mem_filter.1 hx
  simpa using this
 have oth:∀ {x:Int} {v:Ttx},x≠a→idx X x=some v→∃ u,idx Z x=some u∧Up v u:=fun {x v} hx hv=>hc.lk.h x v (kH hv (qe ht).1 fun e=>hx e.symm)
 obtain ⟨ua,hua,hup⟩:=hc.lk.h a (wk t (S.now_+1)) (qq ht)
 have hlen:(H++[qir t (rds ops dids t.id_ ops.length)]).length=H.length+1:=by simp
 have plH:∀ {i:Nat} {c:Int},pl[i]?=some c→∃ x,H[i]?=some x∧c≠a:=fun {i c} hi=>by
  have hl:=(List.getElem?_eq_some_iff.1 hi).1
  exact ⟨_,List.getElem?_eq_getElem (show i < H.length by omega),fun e=>hap (e ▸ List.mem_of_getElem? hi)⟩
 have Hpl:∀ {i:Nat} {x:Rc},H[i]?=some x→∃ c,pl[i]?=some c:=fun {i x} hi=>by
  have hl:=(List.getElem?_eq_some_iff.1 hi).1
  exact ⟨_,List.getElem?_eq_getElem (show i < pl.length by omega)⟩
 have plcase:∀ {i:Nat} {c:Int},(pl++[a])[i]?=some c→(i < H.length∧pl[i]?=some c)∨(i=H.length∧c=a):=fun {i c} hi=>by
  rcases Nat.lt_trichotomy i pl.length with q | q | q
  ·rw [List.getElem?_append_left q] at hi;exact .inl ⟨by omega,hi⟩
  ·subst q;simp at hi;exact .inr ⟨by omega,hi.symm⟩
  ·rw [List.getElem?_eq_none (by simp;omega)] at hi;cases hi
 have fine:∀ (j:Nat) (y:Rc),H[j]?=some y→t.from_ < (j:Int)+1→∃ c u,pl[j]?=some c∧c∈S.over_∧idx X c=some u∧u.at_=(j:Int)+1∧u.reads_=y.reads∧u.writes_=y.writes∧qnh t u:=fun j y hj hlt=>by
  obtain ⟨c,hpc⟩:=Hpl hj
  obtain ⟨u,q1,q2,q3,q4⟩:=h.pa j y c hj hpc
  have hco:c∈S.over_:=by
   refine Classical.byContradiction fun hno=>?_
   have:=hac.fo j c hpc hno
   omega
  exact ⟨c,u,hpc,hco,q1,q2,q3,q4,hmay.fine c hco u q1 (by omega)⟩
 have qiy:∀ (j:Nat) (c:Int) (u:Ttx),pl[j]?=some c→idx X c=some u→u.out_=false→∀ q,¬Skp H j q:=fun j c u hpc hu ho q hs=>by
  obtain ⟨_,x,y,hx,hy,_⟩:=id hs
  obtain ⟨c2,hpc2⟩:=Hpl hy
  have:=(h.fl j q c c2 hs hpc hpc2).1 u hu
  rw [ho] at this;cases this
 have noIn:∀ (j:Nat) (c:Int) (u:Ttx),pl[j]?=some c→idx X c=some u→u.in_=false→∀ q,¬Skp H q j:=fun j c u hpc hu ho q hs=>by
  obtain ⟨_,x,y,hx,hy,_⟩:=id hs
  obtain ⟨c2,hpc2⟩:=Hpl hx
  have:=(h.fl q j c2 c hs hpc2 hpc).2 u hu
  rw [ho] at this;cases this
 have hHok:Hok (H++[qir t (rds ops dids t.id_ ops.length)]):=by
  refine h.ht.ok.snoc ⟨htk.f0,by have:=htk.f1;show t.from_≤_;omega⟩ (fun j y k hj hlt hky hkz=>?_) (fun j y k hj hlt hkz hky=>?_) (fun j y k hj hlt hky hkz=>?_) fun j y k j' y' k' hj hlt hkz hky hj' hlt' hky' hkz'=>?_
  ·obtain ⟨c,u,p1,p2,p3,p4,p5,p6,p7⟩:=fine j y hj hlt
   exact p7.w ⟨k,hkz,by rw [p6];exact hky⟩
  ·obtain ⟨c,u,p1,p2,p3,p4,p5,p6,p7⟩:=fine j y hj hlt
   obtain ⟨r1,r2⟩:=p7.a ⟨k,hkz,by rw [p6];exact hky⟩
   exact ⟨qiy j c u p1 p3 r1,fun r hr hrz=>r2 ⟨r,by rw [p5];exact hr,hrz⟩⟩
  ·obtain ⟨c,u,p1,p2,p3,p4,p5,p6,p7⟩:=fine j y hj hlt
   exact noIn j c u p1 p3 (p7.b ⟨k,by rw [p5];exact hky,hkz⟩)
  ·have hlt:t.from_ < (j:Int)+1:=hlt
   have hlt':t.from_ < (j':Int)+1:=hlt'
   obtain ⟨c,u,p1,p2,p3,p4,p5,p6,p7⟩:=fine j y hj hlt
   obtain ⟨c',u',p1',p2',p3',p4',p5',p6',p7'⟩:=fine j' y' hj' hlt'
   exact hmay.both (.inr ⟨c',p2',u',p3',by omega,k',by rw [p5'];exact hky',hkz'⟩) (.inr ⟨c,p2,u,p3,by omega,k,hkz,by rw [p6];exact hky⟩)
 have hidn:∀ (i:Nat) (x:Rc),H[i]?=some x→x.id≠t.id_:=fun i x hi e=>by
  have h1:=h.ovh i x hi
  rw [e,hac.ov] at h1
  cases h1
 have hrl:=qbP (a0:=ops) (a1:=dids) t.id_ ops.length
 have hHT:HT (H++[qir t (rds ops dids t.id_ ops.length)]):=h.ht.snoc hHok htk.i0 htk.i1 hidn ⟨by show (rds ops dids t.id_ ops.length).length≤200;omega,hac.rd⟩
 have hcom:qiR (some (⟨t.id_,3,0⟩:TOp)) (some (⟨true,-1⟩:TDid))=some t.id_:=by
  show (if (3:Int)=3∧true=true then some t.id_ else none)=_
  exact if_pos ⟨rfl,rfl⟩
 have hat:∀ (i:Nat) (c:Int),(pl++[a])[i]?=some c→(kX Z c).at_=(i:Int)+1:=fun i c hi=>by
  rcases plcase hi with ⟨_,q⟩ | ⟨q,rfl⟩
  ·obtain ⟨x,hx,hca⟩:=plH q
   obtain ⟨v,q1,q2,_⟩:=h.pa i x c hx q
   obtain ⟨u,q3,q4⟩:=oth hca q1
   rw [xj q3,q4.a,q2]
  ·rw [xj hua,hup.a]
   show S.now_+1=_
   omega
 refine ⟨qq h.hs,hok,hsm,hlok,hdl,fun x hx=>?_,by rw [hc.now,hlen];omega,hHT,by simp [hpl],fun i x c hi hpc=>?_,fun x hx hp=>?_,fun i j c c' hs hpc hpc'=>?_,fun k hk=>?_,by simp [h.ovl],fun i x hi=>?_,h.nms,fun i x hi=>?_,by rw [List.length_append,List.length_singleton];omega,by rw [List.length_append,List.length_append,h.dlen];rfl,fun o ho=>?_,fun x hx u hu=>?_,fun w hw0 hw1 hwv hwa o ho=>?_,?_,fun k hk=>?_⟩
 ·rcases List.mem_or_eq_of_mem_set hx with hx | rfl
  ·have hl:=hc.lk.l
   rw [List.length_set] at hl
   rw [hl]
   exact h.hT x hx
  ·exact ⟨hok.ac.lt,hok.ov.lt⟩
 ·
  rcases plcase hpc with ⟨hil,q⟩ | ⟨rfl,rfl⟩
  ·rw [List.getElem?_append_left hil] at hi
   obtain ⟨_,_,hca⟩:=plH q
   obtain ⟨v,q1,q2,q3,q4⟩:=h.pa i x c hi q
   obtain ⟨u,q5,q6⟩:=oth hca q1
   exact ⟨u,q5,by rw [q6.a,q2],by rw [q6.s.r,q3],by rw [q6.s.w,q4]⟩
  ·simp at hi
   subst hi
   exact ⟨ua,hua,by rw [hup.a];show S.now_+1=_;omega,hup.s.r,hup.s.w⟩
 ·obtain ⟨hx1,hx2⟩:=hact x hx
  rcases List.mem_append.1 hp with hp | hp
  ·exact h.pn x hx1 hp
  ·exact hx2 (List.mem_singleton.1 hp)
 ·
  rcases hs.snoc with q | ⟨rfl,y,k,hy,hlt,hkz,hky⟩ | ⟨rfl,y,k,hy,hlt,hky,hkz⟩
  ·obtain ⟨_,x,y,hx,hy,_⟩:=id q
   have e1:=(List.getElem?_eq_some_iff.1 hx).1
   have e2:=(List.getElem?_eq_some_iff.1 hy).1
   rw [List.getElem?_append_left (by omega)] at hpc hpc'
   obtain ⟨f1,f2⟩:=h.fl i j c c' q hpc hpc'
   obtain ⟨_,_,g1⟩:=plH hpc
   obtain ⟨_,_,g2⟩:=plH hpc'
   obtain ⟨v,v1,_⟩:=h.pa i x c hx hpc
   obtain ⟨v',v1',_⟩:=h.pa j y c' hy hpc'
   obtain ⟨u,u1,u2⟩:=oth g1 v1
   obtain ⟨u',u1',u2'⟩:=oth g2 v1'
   refine ⟨fun w hw=>?_,fun w hw=>?_⟩
   ·rw [u1,Option.some.injEq] at hw
    subst hw
    exact u2.o (f1 v v1)
   ·rw [u1',Option.some.injEq] at hw
    subst hw
    exact u2'.n (f2 v' v1')
  ·have hlt:t.from_ < (j:Int)+1:=hlt
   obtain ⟨c2,u,p1,p2,p3,p4,p5,p6,p7⟩:=fine j y hy hlt
   have e2:=(List.getElem?_eq_some_iff.1 hy).1
   rw [List.getElem?_append_left (by omega),p1,Option.some.injEq] at hpc'
   subst hpc'
   have hci:c2∈ins:=hmay.ins c2 p2 u p3 (by omega) ⟨k,hkz,by rw [p6];exact hky⟩
   have hca:c=a:=by
    rcases plcase hpc with ⟨q,_⟩ | ⟨_,q⟩
    ·omega
    ·exact q
   subst hca
   exact ⟨hin2 (fun e=>by rw [e] at hci;cases hci),hin1 c2 hci⟩
  ·have hlt:t.from_ < (i:Int)+1:=hlt
   obtain ⟨c2,u,p1,p2,p3,p4,p5,p6,p7⟩:=fine i y hy hlt
   have e2:=(List.getElem?_eq_some_iff.1 hy).1
   rw [List.getElem?_append_left (by omega),p1,Option.some.injEq] at hpc
   subst hpc
   have hco:c2∈outs:=hmay.outs c2 p2 u p3 (by omega) ⟨k,by rw [p5];exact hky,hkz⟩
   have hca:c'=a:=by
    rcases plcase hpc' with ⟨q,_⟩ | ⟨_,q⟩
    ·omega
    ·exact q
   subst hca
   exact ⟨hout1 c2 hco,hout2 (fun e=>by rw [e] at hco;cases hco)⟩
 ·
  obtain ⟨x,y,r1,r2,r3⟩:=hitems k hk
  obtain ⟨l,q1,q2⟩:=h.it k hk
  rw [r1,Option.some.injEq] at q1
  subst q1
  have hvs:=h.ok.vs x (List.mem_of_getElem? r1)
  refine ⟨y,r2,?_⟩
  rw [hc.now,r3 _ (.inl rfl),hlen,qfy]
  show _=if (k:Int)∈t.writes_ then qW t k else _
  split
  ·rw [qcJ,if_pos (Int.le_refl _)]
  ·rw [qit (fun v hv=>(hvs.b v hv).2.1) (by omega),q2]
 ·have hi2:0≤x.id∧x.id < 12:=hHT.id0 i x hi
  rw [wQ h.ovl htk.i0 htk.i1 hi2.1]
  split
  ·rfl
  ·rename_i hne
   rcases qE hi with ⟨_,q⟩ | ⟨_,q⟩
   ·exact h.ovh i x q
   ·exact absurd (congrArg Rc.id q) hne
 ·rcases qE hi with ⟨_,q⟩ | ⟨_,rfl⟩
  ·exact h.nmh i x q
  ·exact hac.nm
 ·rcases List.mem_append.1 ho with ho | ho
  ·exact h.oko o ho
  ·rw [List.mem_singleton.1 ho]
   exact ⟨htk.i0,htk.i1,Int.le_refl 0,by show (0:Int) < 20;decide⟩
 ·
  obtain ⟨hx1,hx2⟩:=hact x hx
  obtain ⟨v,hv,hvk⟩:=h.ok.ac x hx1
  obtain ⟨u',hu',hvu⟩:=oth hx2 hv
  rw [hu,Option.some.injEq] at hu'
  subst hu'
  have hacv:=(h.ac x hx1 v hv).other (o:=⟨t.id_,3,0⟩) (d:=⟨true,-1⟩) h.dlen (fun e=>hx2 (h.ok.ai x hx1 a ha v t hv ht e.symm))
  obtain ⟨hb1,hb2⟩:=hb x hx1 hx2 v hv
  have hvf:=hvk.f1
  have hvf0:=hvk.f0
  refine ⟨fun i c hpc hno=>?_,fun k hk=>?_,?_,fun k hk=>?_,fun g hg=>?_,fun k=>?_⟩
  ·rw [hvu.s.f]
   by_cases c2:c∈S.over_++[a]
   ·have:(kX Z c).at_≤f:=by
     refine Classical.byContradiction fun hlt=>hno ?_
     rw [hover]
     exact List.mem_filter.2 ⟨c2,by simp;omega⟩
    rw [hat i c hpc] at this
    omega
   ·rcases plcase hpc with ⟨_,q⟩ | ⟨_,q⟩
    ·exact hacv.fo i c q fun hm=>c2 (List.mem_append_left _ hm)
    ·exact absurd (by rw [q];simp) c2
  ·obtain ⟨x',y,r1,r2,r3⟩:=hitems k hk
   obtain ⟨l,q1,q2⟩:=hacv.it k hk
   rw [r1,Option.some.injEq] at q1
   subst q1
   refine ⟨y,r2,?_⟩
   rw [hvu.s.f,r3 _ (.inr hb1),qeo (by omega),← q2]
   split
   ·rw [qcJ,if_neg (by show ¬S.now_+1≤_;omega)]
   ·rfl
  ·rw [hvu.s.i,wQ h.ovl htk.i0 htk.i1 hvk.i0,if_neg (fun e=>hx2 (h.ok.ai x hx1 a ha v t hv ht e))]
   exact hacv.ov
  ·have e:qW u k=qW v k:=by unfold qW;rw [hvu.s.x]
   rw [e,hvu.s.i]
   rw [hvu.s.w] at hk
   exact hacv.nm k hk
  ·rw [hvu.s.i] at hg
   rw [hvu.s.f,hvu.s.r,yv (by omega)]
   exact hacv.rd g hg
  ·rw [hvu.s.i,hvu.s.w]
   exact hacv.wr k
 ·rw [wQ h.ovl htk.i0 htk.i1 hw0] at hwv
  split at hwv
  ·cases hwv
  ·rename_i hne
   rcases List.mem_append.1 ho with ho | ho
   ·refine h.rn w hw0 hw1 hwv (fun x hx v hv=>?_) o ho
    by_cases c:x=a
    ·subst c
     rw [ht,Option.some.injEq] at hv
     subst hv
     exact fun e=>hne e.symm
    ·obtain ⟨u,hu,hvu⟩:=oth c hv
     rw [← hvu.s.i]
     refine hwa x ?_ u hu
     rw [hc.act]
     exact List.mem_filter.2 ⟨hx,by simpa using c⟩
   ·rw [List.mem_singleton.1 ho]
    exact fun e=>hne e.symm
 ·rw [qfE h.dlen,hcom,h.tl,List.map_append]
  rfl
 ·rw [qfx h.dlen,hcom,qhQ,h.vr k hk,qen]
  congr 1
  have e:wro ops ops.length t.id_ (k:Int)=decide ((k:Int)∈t.writes_):=by
   unfold wro
   rw [List.take_length,decide_eq_decide]
   exact hac.wr k
  rw [e]
  show (if decide ((k:Int)∈t.writes_)=true then _ else _)=if (k:Int)∈t.writes_ then _ else _
  by_cases c:(k:Int)∈t.writes_
  ·rw [if_pos c,if_pos (by simpa using c)];rfl
  ·rw [if_neg c,if_neg (by simpa using c)]
theorem SI.commit (h:SI T D G X s ov ops dids nm S H pl) (hol:ops.length < 200) (id:Int):∃ T' X' D' G' e,M10 s id T X D G=some (T',X',D',G',e) ∧
  ((e≠0∧e≠12∧T'=T∧X'=X∧D'=D∧G'=G)∨(e=12∧∃ S',SI T' D' G' X' s (ov.set id.toNat true) ops dids nm S' H pl)∨(e=0∧∃ S' H' pl',SI T' D' G' X' s (ov.set id.toNat true) (ops++[⟨id,3,0⟩]) (dids++[⟨true,-1⟩]) nm S' H' pl')):=by
 have hl:=h.ht.len
 rcases qgP h.hs h.ok h.sm (by have:=h.now;omega) h.lok h.dl id with ⟨e,g,h1,h2⟩ | ⟨a,t,b,f,ha,ht,rfl,g,h1,h2,h3,h4⟩ | ⟨a,t,D',S',Z,G',ha,ht,rfl,g,h1,h2,h3,h4,h5,h6,h7⟩
 ·exact ⟨_,_,_,_,_,g,.inl ⟨h1,h2,rfl,rfl,rfl,rfl⟩⟩
 ·exact ⟨_,_,_,_,_,g,.inr (.inl ⟨rfl,_,h.fall ha ht h1 h2 h3 h4⟩)⟩
 ·exact ⟨_,_,_,_,_,g,.inr (.inr ⟨rfl,_,_,_,h.done hol ha ht h1 h2 h3 h6 h7⟩)⟩
end
end Go.Proofs.YtdlemoeinjihkaaGreatDoor
end
section
namespace Go.Proofs.YtdlemoeinjihkaaGreatDoor
open Go.S Go.Sort
theorem qey {z:List TTale} (h:qO cfT z):z.Pairwise fun a b=>a.Tx≤b.Tx:=by
 unfold qO at h
 refine h.imp fun {a b} h=>?_
 rw [qns] at h
 have:=of_decide_eq_false h
 omega
theorem qfQ {z:List TTale} (h:z.Pairwise fun a b=>a.Tx≤b.Tx) (hn:(z.map TTale.Tx).Nodup):z.Pairwise fun a b=>a.Tx < b.Tx:=by
 rw [List.Nodup,List.pairwise_map] at hn
 exact (h.and hn).imp fun {a b} h=>by have:=h.1;have:=h.2;omega
section
variable {T:List TStore} {D:List TDisk} {G:List TLog} {X:List Ttx} {s:Int} {ov:List Bool} {ops:List TOp} {dids:List TDid} {nm:List (List UInt8×Int)} {S:TStore} {H:List Rc} {pl:List Int}
theorem SI.vers (h:SI T D G X s ov ops dids nm S H pl):vers ops dids ops.length=(List.range 20).map fun k:Nat=>xC H (k:Int) :=
 List.map_congr_left fun k hk=>h.vr k (List.mem_range.1 hk)
theorem qgp (h:HT H):((H.map qaD).map TTale.Tx).Nodup:=by
 rw [List.map_map,List.Nodup,List.pairwise_map,List.pairwise_iff_getElem]
 intro i j hi hj hij e
 have:=h.idn i j _ _ (List.getElem?_eq_getElem hi) (List.getElem?_eq_getElem hj) e
 omega
theorem SI.story (h:SI T D G X s ov ops dids nm S H pl) {z:List TTale} (hp:z.Perm (tal ops dids ops.length)) (hs:qO cfT z):xS H ⟨z,Go.Proofs.YtdlemoeinjihkaaGreatDoor.vers ops dids ops.length⟩:=by
 rw [h.tl] at hp
 exact ⟨hp,qfQ (qey hs) ((hp.map _).nodup_iff.2 (qgp h.ht)),h.vers⟩
theorem qf7 {z l:List TTale} (hp:z.Perm l) (hz:z.Pairwise fun a b=>a.Tx < b.Tx) (hl:l.Pairwise fun a b=>a.Tx < b.Tx):z=l :=
 List.Perm.eq_of_pairwise (le:=fun a b=>a.Tx < b.Tx) (fun a b ha hb h1 h2=>by omega) hz hl hp
theorem SI.end (h:SI T D G X s ov ops dids nm S H pl):qne T D G X ops dids nm=some true:=by
 have hof:=qog h.dlen h.ol
 rw [if_pos h.oko] at hof
 have hlen:(tal ops dids ops.length).length≤200:=Nat.le_trans (qbE _) h.ol
 obtain ⟨z0,hp0,hs0⟩:∃ z0:List TTale,z0.Perm (tal ops dids ops.length)∧qO cfT z0:=⟨xE cfT (tal ops dids ops.length),by unfold xE;exact List.mergeSort_perm _ _,xF qfM _⟩
 have hst0:=h.story hp0 hs0
 obtain ⟨hc0,w,hw,hwl⟩:=qaF h.ht hst0
 have hofe:M11 ops dids=some (⟨z0,Go.Proofs.YtdlemoeinjihkaaGreatDoor.vers ops dids ops.length⟩,0):=by
  rw [hof,qkN,qhK,qoY]
  refine qeI qfM (by omega) fun z hp hs=>?_
  have hz:z=z0:=qf7 (hp.trans hp0.symm) (h.story hp hs).so hst0.so
  subst hz
  rw [hc0,qa,if_neg (by simp)]
 rw [qne,hofe,qm,if_neg (by simp),hw,qm,if_pos rfl]
 simp only [hwl,decide_true]
theorem qia (a0:List TWish) (hl:a0.length≤9223372036854775807):∀ (r i:Nat),i+r=a0.length→∀ n,r < n→∀ (T:List TStore) (D:List TDisk) (G:List TLog) (X:List Ttx) (ov:List Bool) (ops:List TOp) (dids:List TDid) (nm:List (List UInt8×Int)) (S:TStore) (H:List Rc) (pl:List Int),SI T D G X s ov ops dids nm S H pl →
  qfp a0 s n (i:Int) T D G X ov ops dids nm=some true:=by
 intro r
 induction r with
 | zero =>
  intro i hi n hn T D G X ov ops dids nm S H pl h
  obtain ⟨n,rfl⟩:=dec n (by omega)
  rw [qfp,qja,if_neg (by omega)]
  exact h.end
 | succ r ih =>
  intro i hi n hn T D G X ov ops dids nm S H pl h
  obtain ⟨n,rfl⟩:=dec n (by omega)
  have hil:i < a0.length:=by omega
  have k2:∀ {T:List TStore} {D:List TDisk} {G:List TLog} {X:List Ttx} {ov:List Bool} {ops:List TOp} {dids:List TDid} {nm:List (List UInt8×Int)} {S:TStore} {H:List Rc} {pl:List Int},SI T D G X s ov ops dids nm S H pl→qhe (i:Int) (qfp a0 s n) T D G X ov ops dids nm=some true:=fun h=>by
   rw [qhe,qr i (by omega),qa]
   exact ih (i+1) (by omega) n (by omega) _ _ _ _ _ _ _ _ _ _ _ h
  rw [qfp,qja,if_pos (by omega),qk hil,qa]
  generalize a0[i]=x
  by_cases c1:x.Tx < 0
  ·rw [if_pos c1,qj5,if_pos rfl];exact k2 h
  rw [if_neg c1]
  by_cases c2:12≤x.Tx
  ·rw [if_pos c2,qj5,if_pos rfl];exact k2 h
  have h0:0≤x.Tx:=by omega
  have h1:x.Tx < 12:=by omega
  have hovl:=h.ovl
  have hol:=h.ol
  have hdl:=h.dlen
  have hid:zD 12 ov x.Tx=some (ov[x.Tx.toNat]'(by omega)):=by
   have:=qb4 (n:=12) (l:=ov) (i:=x.Tx.toNat) (by omega) hovl
   rwa [show ((x.Tx.toNat:Nat):Int)=x.Tx by omega] at this
  rw [if_neg c2,qj5,if_neg ff,hid,qa]
  cases hb:ov[x.Tx.toNat]'(by omega) with
  | true=>rw [if_pos rfl];exact k2 h
  | false =>
   rw [if_neg ff]
   have hv:ov[x.Tx.toNat]?=some false:=by rw [List.getElem?_eq_getElem (by omega),hb]
   by_cases c3:(ops.length:Int)=200
   ·rw [if_pos c3];exact k2 h
   rw [if_neg c3]
   have hol2:ops.length < 200:=by omega
   by_cases k1:x.Kind=1
   ·rw [if_pos k1]
    obtain ⟨T',X',e,S',g,h'⟩:=h.begin h0 h1 hv
    rw [g,zx]
    exact k2 h'
   rw [if_neg k1]
   have k4:∀ {T:List TStore} {D:List TDisk} {G:List TLog} {X:List Ttx} {ov:List Bool} {nm:List (List UInt8×Int)} {S:TStore} {H:List Rc} {pl:List Int} (e fr kd im:Int),(e≠0→SI T D G X s ov ops dids nm S H pl)→(e=0→SI T D G X s ov (ops++[⟨x.Tx,kd,im⟩]) (dids++[⟨true,fr⟩]) nm S H pl)→qj4 ops x dids (i:Int) (qfp a0 s n) e T D G X fr kd im ov nm=some true:=fun e fr kd im hne heq=>by
    rw [qj4]
    by_cases c:e=0
    ·rw [if_pos c,qH (by simp;omega),qa,qH (by simp;omega),qa]
     exact k2 (heq c)
    ·rw [if_neg c];exact k2 (hne c)
   by_cases kd2:x.Kind=2
   ·rw [if_pos kd2,ql5,if_pos rfl]
    obtain ⟨X',t,e,g,hx⟩:=h.read hol2 x.Tx x.Item
    have hkb:=h.nms.b t
    rw [g,zx,qN (by omega) (by omega),qa]
    refine k4 (S:=S) (H:=H) (pl:=pl) e _ 1 x.Item (fun c=>?_) fun c=>?_
    ·rcases hx with ⟨_,rfl⟩ | ⟨q,_⟩
     ·exact h
     ·exact absurd q c
    ·rcases hx with ⟨q,_⟩ | ⟨_,q⟩
     ·exact absurd c q
     ·exact q
   rw [if_neg kd2]
   have k6:qlB x ops s T X nm dids (i:Int) (qfp a0 s n) D G ov false=some true:=by
    rw [qlB,if_neg ff]
    by_cases kd4:x.Kind=4
    ·rw [if_pos kd4]
     obtain ⟨T',X',D',G',e,g,hx⟩:=h.commit hol2 x.Tx
     have hup:∀ b,upd ov x.Tx b=some (ov.set x.Tx.toNat b):=fun b=>if_pos ⟨h0,by omega⟩
     rw [g,w4]
     by_cases ce:e=0
     ·rw [if_pos ce,hid,qa,hup,qa]
      rcases hx with ⟨q,_⟩ | ⟨q,_⟩ | ⟨_,S',H',pl',q⟩
      ·exact absurd ce q
      ·omega
      ·exact k4 e (-1) 3 0 (fun c=>absurd ce c) fun _=>q
     ·rw [if_neg ce,hid,qa,hup,qa]
      rcases hx with ⟨_,q,rfl,rfl,rfl,rfl⟩ | ⟨q,S',q2⟩ | ⟨q,_⟩
      ·have:ov.set x.Tx.toNat (decide (e=12))=ov:=by
        rw [show decide (e=12)=false from decide_eq_false q,← hb,List.set_getElem_self]
       rw [this]
       exact k4 e (-1) 3 0 (fun _=>h) fun c=>absurd c ce
      ·rw [show decide (e=12)=true from decide_eq_true q]
       exact k4 e (-1) 3 0 (fun _=>q2) fun c=>absurd c ce
      ·exact absurd q ce
    ·rw [if_neg kd4];exact k2 h
   rw [ql5,if_neg ff]
   by_cases kd3:x.Kind=3
   ·have hi1:∀ m:Int,0≤m→m≤1000→qek m=some (Lib.itoa m):=fun m h0 h1=>if_pos ⟨by omega,by omega⟩
    have hil2:∀ m:Int,0≤m→m≤1000→(Lib.itoa m).length≤21:=fun m h0 h1=>Lib.itoa_length_le m (by omega) (by omega)
    have l1:=hil2 x.Tx h0 (by omega)
    have l2:=hil2 (ops.length:Int) (by omega) (by omega)
    have h':=h.name (m:=(ops.length:Int)) h0 h1
    obtain ⟨X',e,g,hx⟩:=h'.write hol2 x.Tx x.Item (ops.length:Int) (xq _ _ _ _)
    have hc1:yM (Lib.itoa x.Tx) [46]=some (Lib.itoa x.Tx++[46]):=if_pos (by simp;omega)
    have hc2:yM (Lib.itoa x.Tx++[46]) (Lib.itoa (ops.length:Int))=some (key x.Tx (ops.length:Int)):=if_pos (by simp;omega)
    rw [if_pos kd3,qlB,if_pos rfl,hi1 _ h0 (by omega),qa,hc1,qa,hi1 _ (by omega) (by omega),qa,hc2,qa,g,qm,qN (by omega) (by omega),qa,qa]
    refine k4 (S:=S) (H:=H) (pl:=pl) e (-1) 2 x.Item (fun c=>?_) fun c=>?_
    ·rcases hx with ⟨_,rfl⟩ | ⟨q,_⟩
     ·exact h'
     ·exact absurd q c
    ·rcases hx with ⟨q,_⟩ | ⟨_,q⟩
     ·exact absurd c q
     ·exact q
   ·rw [if_neg kd3];exact k6
end
def qk9 (T:List TStore) (D:List TDisk) (G:List TLog) (X:List Ttx) (s:Int):Bool:=match idx T s with
 | some S=>match zD 2 S.logs_ S.half_ with
  | some gc=>match idx G gc with
   | some l=>match idx D l.d_ with
    | some d=>decide (S.logs_.length=2∧S.items_=List.replicate 20 [⟨0,[]⟩]∧S.now_=0∧S.active_=[]∧S.over_=[]) && decide (l.fell_=false∧0≤l.from_∧0≤l.at_∧l.from_+l.size_≤200∧(0≤l.epoch_∧l.epoch_≤1000000)∧0≤l.seq_∧l.seq_≤l.at_∧l.at_≤l.size_∧d.late_=[]∧d.left_=-1∧d.safe_.length=200∧d.seen_.length=200) && (d.safe_.all (fun x=>decide (x.length=64)) && d.seen_.all (fun x=>decide (x.length=64))) && decide (∀ x∈G,x.d_ < D.length) && decide (∀ x∈T,(∀ k∈x.active_,k < X.length)∧∀ k∈x.over_,k < X.length)
    | none=>false
   | none=>false
  | none=>false
 | none=>false
def qjI (r:Option (List TStore×List Ttx×List TDisk×List TLog×Bool)):Bool:=match r with
 | some (T,X,D,G,b)=>b && (match M5 200 T D G with
  | some (T',D',G',d,s,b')=>b' && qk9 T' D' G' X s
  | none=>false)
 | none=>false
set_option maxRecDepth 100000 in
theorem qew:qjI (M4 [] [] [] [])=true:=by decide +kernel
theorem qk7 {T:List TStore} {D:List TDisk} {G:List TLog} {X:List Ttx} {s:Int} (h:qk9 T D G X s=true):∃ S,SI T D G X s (List.replicate 12 false) [] [] [] S [] []:=by
 unfold qk9 at h
 split at h
 ·rename_i S hs
  split at h
  ·rename_i gc hgc
   split at h
   ·rename_i l hl
    split at h
    ·rename_i d hd
     simp only [Bool.and_eq_true,decide_eq_true_eq,List.all_eq_true] at h
     obtain ⟨⟨⟨⟨⟨a1,a2,a3,a4,a5⟩,b1,b2,b3,b4,b5,b6,b7,b8,b9,b10,b11,b12⟩,c1,c2⟩,d1⟩,d2⟩:=h
     have hit:∀ l∈S.items_,l=[⟨0,[]⟩]:=fun l hl=>by rw [a2] at hl;exact (List.mem_replicate.1 hl).2
     have hv:∀ k:Nat,k < 20→S.items_[k]?=some [⟨0,[]⟩]:=fun k hk=>by rw [a2,List.getElem?_replicate,if_pos hk]
     refine ⟨S,hs,⟨a1,by rw [a2];simp,fun l hl=>?_,by omega,by omega,fun x hx=>(by rw [a4] at hx;cases hx),by rw [a4];simp,by rw [a4];exact List.nodup_nil,fun x hx=>(by rw [a4] at hx;cases hx),fun x hx=>(by rw [a5] at hx;cases hx),by rw [a5,a3];simp,fun x hx=>(by rw [a4] at hx;cases hx)⟩,fun l hl=>by rw [hit l hl];simp,⟨200,gc,l,d,hgc,hl,b1,b2,b3,hd,⟨b11,b12,by omega,c1,c2,fun w hw=>(by rw [b9] at hw;cases hw),by omega,by omega,by rw [b9];simp⟩,b4,b5,b6,b7,b8,b9,b10⟩,d1,d2,by rw [a3];rfl,⟨⟨fun i x hx=>by simp at hx,fun i j k hs=>by obtain ⟨_,x,y,hx,_⟩:=hs;simp at hx,fun i j x y k _ hx=>by simp at hx⟩,fun i x hx=>by simp at hx,fun i j x y hx=>by simp at hx,fun i x hx=>by simp at hx⟩,rfl,fun i x a hx=>by simp at hx,fun a ha=>by simp,fun i j a b hs=>by obtain ⟨_,x,y,hx,_⟩:=hs;simp at hx,fun k hk=>⟨_,hv k hk,?_⟩,by simp,fun i x hx=>by simp at hx,⟨rfl,fun x=>⟨Int.le_refl 0,by show (0:Int)≤12;decide⟩⟩,fun i x hx=>by simp at hx,by simp,rfl,fun o ho=>(by cases ho),fun x hx=>(by rw [a4] at hx;cases hx),fun w _ _ _ _ o ho=>(by cases ho),rfl,fun k hk=>rfl⟩
     ·rw [hit l hl]
      exact ⟨by simp,fun i hi=>by simp at hi,fun v hv=>by rw [List.mem_singleton.1 hv,a3];exact ⟨Int.le_refl 0,Int.le_refl 0,by simp⟩,by simp⟩
     ·rw [a3];rfl
    ·cases h
   ·cases h
  ·cases h
 ·cases h
theorem qbK (a0:List TWish) (hl:a0.length≤9223372036854775807):M3 a0=some true:=by
 have h:=qew
 unfold qjI at h
 rw [M3]
 cases hw:M4 [] [] [] [] with
 | none=>rw [hw] at h;cases h
 | some r =>
  obtain ⟨T,X,D,G,b⟩:=r
  rw [hw] at h
  simp only [Bool.and_eq_true] at h
  obtain ⟨rfl,h⟩:=h
  rw [w4,if_pos rfl]
  cases ho:M5 200 T D G with
  | none=>rw [ho] at h;cases h
  | some r =>
   obtain ⟨T',D',G',d,s,b'⟩:=r
   rw [ho] at h
   simp only [Bool.and_eq_true] at h
   obtain ⟨rfl,h⟩:=h
   obtain ⟨S,hS⟩:=qk7 h
   rw [qeH,if_pos rfl]
   exact qia a0 hl a0.length 0 (by omega) big (by rw [qP];omega) _ _ _ _ _ _ _ _ _ _ _ hS
end Go.Proofs.YtdlemoeinjihkaaGreatDoor
end
section
namespace Go.Proofs.YtdlemoeinjihkaaGreatDoor.topSerial
open Go.ChangeShapes Go.WideShapes Go.ChangeAt Go.RowKit Go.Proofs.YtdlemoeinjihkaaGreatDoor
set_option maxRecDepth 100000
set_option maxHeartbeats 8000000
theorem j1:OpenClaim.wf (OpenSpec.ofChange Rows.topSerialSpec) Rows.topSerialRow=true:=by kernel_rfl
theorem j2:laidOutB Tryz.pinned.checked.prog=true:=by kernel_rfl
theorem j3:mapsRowed Tryz.pinned.checked.prog=true:=by kernel_rfl
theorem j4:(Tryz.f3.params.all fun x=>Tryz.pinned.checked.prog.readableRec x)=true:=by kernel_rfl
theorem j5:namedTie Tryz.pinned.checked.prog Rows.topSerialRow.named Rows.topSerialSpec.vars=true:=by kernel_rfl
theorem j6:(Rows.topSerialRow.stops == [])=true:=by kernel_rfl
theorem j7:(Tryz.pinned.checked.prog.stops == [])=true:=by kernel_rfl
theorem j8:(Rows.topSerialRow.knobs == [])=true:=by kernel_rfl
theorem j9:(Tryz.pinned.checked.prog.stopKnobs == [])=true:=by kernel_rfl
theorem j10:(Rows.topSerialRow.inPlace == Tryz.pinned.checked.prog.inPlace 3)=true:=by kernel_rfl
theorem j11:(Rows.topSerialRow.unfollowed == Tryz.pinned.checked.prog.unfollowed 3)=true:=by kernel_rfl
theorem j12:(Rows.topSerialRow.recurses == Tryz.pinned.checked.prog.recurses 3)=true:=by kernel_rfl
theorem j13:(Rows.topSerialRow.named == Tryz.pinned.checked.prog.varsNamed 3)=true:=by kernel_rfl
theorem j14:(Rows.topSerialRow.maps == (Tryz.f3.params.toList++Rows.topSerialSpec.plain.varTypes Tryz.pinned.checked.prog).any fun x=>Tryz.pinned.checked.prog.mapsRec x)=true:=by kernel_rfl
theorem j15:(Rows.topSerialRow.ifaces == (Tryz.f3.params.toList++Rows.topSerialSpec.plain.varTypes Tryz.pinned.checked.prog).any fun x=>Tryz.pinned.checked.prog.ifacesRec x)=true:=by kernel_rfl
theorem j16:(Rows.topSerialRow.mapsOut == Tryz.pinned.checked.prog.mapsAmong Tryz.f3.resultTypes.toList)=true:=by kernel_rfl
theorem j17:(Rows.topSerialRow.loops == (Tryz.f3.params.toList++Rows.topSerialSpec.plain.varTypes Tryz.pinned.checked.prog).any fun x=>Tryz.pinned.checked.prog.loopsFrom x)=true:=by kernel_rfl
theorem j18:(Rows.topSerialRow.wideKeys == (Tryz.f3.params.toList++Rows.topSerialSpec.plain.varTypes Tryz.pinned.checked.prog++Tryz.f3.resultTypes.toList).any fun x=>Tryz.pinned.checked.prog.wideKeysFrom x)=true:=by kernel_rfl
theorem j19:(Rows.topSerialSpec.vars.all fun x=>Tryz.pinned.checked.prog.varReadable x)=true:=by kernel_rfl
theorem j20:(Tryz.f3.resultTypes.all fun t=>Tryz.pinned.checked.prog.readableRec t && decide (t < Tryz.pinned.checked.prog.types.size))=true:=by kernel_rfl
theorem j21:(Rows.topSerialRow.ifacesOut == Tryz.f3.resultTypes.toList.any fun x=>Tryz.pinned.checked.prog.ifacesRec x)=true:=by kernel_rfl
theorem j22:(Rows.topSerialRow.loopsOut == Tryz.f3.resultTypes.toList.any fun x=>Tryz.pinned.checked.prog.loopsFrom x)=true:=by kernel_rfl
theorem j23:(Rows.topSerialRow.plainKeys == Tryz.pinned.checked.prog.plainKeys)=true:=by kernel_rfl
theorem j24:Rows.topSerialRow.shortTexts.isNone=true:=by kernel_rfl
theorem j25:Tryz.pinned.checked.prog.stopsHeard=true:=by kernel_rfl
theorem j26:Tryz.pinned.checked.prog.mayEnter=true:=by kernel_rfl
theorem j27:(Rows.topSerialRow.lifted == Tryz.pinned.checked.prog.liftsFinal)=true:=by kernel_rfl
theorem j28:(Tryz.pinned.checked.prog.make == some Rows.topSerialRow.make)=true:=by kernel_rfl
theorem j29:(Rows.topSerialRow.kinds == (if Rows.topSerialRow.domain.isEmpty then [] else Tryz.f3.params.toList.map fun t=>match Tryz.pinned.checked.prog.underlying t with | some (.int k)=>some k | _=>none))=true:=by kernel_rfl
theorem j30:(Rows.topSerialRow.pinned == Rows.topSerialRow.pinnedBy)=true:=by kernel_rfl
theorem j31:(Rows.topSerialRow.veiled == (Tryz.f3.params.toList++Rows.topSerialSpec.plain.varTypes Tryz.pinned.checked.prog++Tryz.f3.resultTypes.toList).any fun x=>Tryz.pinned.checked.prog.veiledRec x)=true:=by kernel_rfl
theorem j32:Rows.topSerialRow.veiledFits Tryz.pinned.checked.prog Tryz.f3.params.toList (Tryz.f3.params.toList++Rows.topSerialSpec.plain.varTypes Tryz.pinned.checked.prog++Tryz.f3.resultTypes.toList)=true:=by kernel_rfl
theorem closed:joinedFacts Tryz.pinned.checked.prog 3 Tryz.f3 Rows.topSerialSpec Rows.topSerialRow=true:=by
 unfold joinedFacts
 simp only [Bool.and_eq_true]
 exact ⟨⟨⟨⟨⟨⟨⟨⟨⟨⟨⟨⟨⟨⟨⟨⟨⟨⟨⟨⟨⟨⟨⟨⟨⟨⟨⟨⟨⟨⟨⟨j1,j2⟩,j3⟩,j4⟩,j5⟩,j6⟩,j7⟩,j8⟩,j9⟩,j10⟩,j11⟩,j12⟩,j13⟩,j14⟩,j15⟩,j16⟩,j17⟩,j18⟩,j19⟩,j20⟩,j21⟩,j22⟩,j23⟩,j24⟩,j25⟩,j26⟩,j27⟩,j28⟩,j29⟩,j30⟩,j31⟩,j32⟩
end Go.Proofs.YtdlemoeinjihkaaGreatDoor.topSerial
end
