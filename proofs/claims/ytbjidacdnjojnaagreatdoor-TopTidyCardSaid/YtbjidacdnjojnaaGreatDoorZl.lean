import Derived.Test.YtbjidacdnjojnaaGreatDoorZk
set_option linter.unusedVariables false
set_option linter.unusedSimpArgs false
section
namespace Go.Proofs.YtbjidacdnjojnaaGreatDoor
open Go.S
def xo (l:List TVersion):Prop:=∀ i (h:i+1 < l.length),l[i].At < l[i+1].At
def yO (l:List TVersion):Nat→Int
  | 0=>0
  | i+1=>match l[i]? with
    | some v=>v.At
    | none=>0
theorem kT {l:List TVersion} {i:Nat} (h:i < l.length):yO l (i+1)=l[i].At:=by simp [yO,h]
theorem qjd (a:List Int) (now:Int) (hl:a.length≤12) (ha:∀ s∈a,0≤s∧s≤now):∀ (r i:Nat),i+r=a.length→∀ n,r < n→wM a now n (i:Int)=some 0:=by
  intro r
  induction r with
  | zero =>
    intro i hi n hn
    obtain ⟨n,rfl⟩:=Nat.exists_eq_add_one.2 hn
    rw [wM,qbG,if_neg (by omega),qf9]
  | succ r ih =>
    intro i hi n hn
    obtain ⟨n,rfl⟩:=Nat.exists_eq_add_one.2 (show 0 < n by omega)
    have h1:i < a.length:=by omega
    have h2:=ha a[i] (List.getElem_mem h1)
    rw [wM,qbG,if_pos (by omega),qM h1,qa,if_neg (by omega),if_neg (by omega),qS i (by omega),qa]
    exact ih (i+1) (by omega) n (by omega)
theorem qg8 (l:List TVersion) (a:List Int) (now:Int) (hl:l.length≤100) (ha1:a.length≤12) (ha:∀ s∈a,0≤s∧s≤now) (hs:xo l) (hv:∀ v∈l,1≤v.At∧v.At≤now):∀ (r i:Nat),i+r=l.length→∀ n,r < n→wL l now a n (yO l i) (i:Int)=some 0:=by
  intro r
  induction r with
  | zero =>
    intro i hi n hn
    obtain ⟨n,rfl⟩:=Nat.exists_eq_add_one.2 hn
    rw [wL,qbF,if_neg (by omega),qga]
    exact qjd a now ha1 ha a.length 0 (by omega) big (by rw [qy];omega)
  | succ r ih =>
    intro i hi n hn
    obtain ⟨n,rfl⟩:=Nat.exists_eq_add_one.2 (show 0 < n by omega)
    have h1:i < l.length:=by omega
    have h2:=hv l[i] (List.getElem_mem h1)
    have h3:yO l i < l[i].At:=by
      cases i with
      | zero=>simp only [yO];omega
      | succ i=>rw [kT (by omega)];exact hs i h1
    rw [wL,qbF,if_pos (by omega),qM h1,qa,if_neg (by omega),if_neg (by omega),qS i (by omega),qa]
    have:=ih (i+1) (by omega) n (by omega)
    rw [kT h1] at this
    exact this
theorem qfT {l:List TVersion} {a:List Int} {now:Int} (h0:0≤now) (hl:l.length≤100) (ha1:a.length≤12) (ha:∀ s∈a,0≤s∧s≤now) (hs:xo l) (hv:∀ v∈l,1≤v.At∧v.At≤now):M94 l a now=some 0:=by
  rw [M94,if_neg (by omega),if_neg (by omega),if_neg (by omega)]
  exact qg8 l a now hl ha1 ha hs hv l.length 0 (by omega) big (by rw [qy];omega)
def lst (l:List TVersion) (s:Int):Nat→Int
  | 0=>-1
  | i+1=>match l[i]? with
    | some v=>if v.At≤s then (i:Int) else lst l s i
    | none=>lst l s i
theorem wv {l:List TVersion} {i:Nat} (s:Int) (h:i < l.length):lst l s (i+1)=if l[i].At≤s then (i:Int) else lst l s i:=by simp [lst,h]
theorem qgE (l:List TVersion) (s:Int):∀ i,-1≤lst l s i∧lst l s i < i
  | 0=>by simp [lst]
  | i+1=>by
    have:=qgE l s i
    simp only [lst]
    split
    · split <;> omega
    · omega
theorem qjG (l:List TVersion) (s:Int) (hl:l.length≤1000):∀ (r i:Nat),i+r=l.length→∀ n,r < n→wT l s n (lst l s i) (i:Int)=qcW l (lst l s l.length):=by
  intro r
  induction r with
  | zero =>
    intro i hi n hn
    obtain ⟨n,rfl⟩:=Nat.exists_eq_add_one.2 hn
    rw [wT,qbO,if_neg (by omega),show i=l.length by omega]
  | succ r ih =>
    intro i hi n hn
    obtain ⟨n,rfl⟩:=Nat.exists_eq_add_one.2 (show 0 < n by omega)
    have h1:i < l.length:=by omega
    rw [wT,qbO,if_pos (by omega),qM h1,qa,qS i (by omega),qa,qa]
    have:=ih (i+1) (by omega) n (by omega)
    rw [wv s h1] at this
    by_cases c:l[i].At≤s
    · rw [if_pos c] at this ⊢;exact this
    · rw [if_neg c] at this ⊢;exact this
theorem qdj (l:List TVersion) (s:Int) (hl:l.length≤1000):∃ t b,M36 l s=some (t,b):=by
  have h1:=qjG l s hl l.length 0 (by omega) big (by rw [qy];omega)
  have hb:=qgE l s l.length
  have hk:∃ t b,qcW l (lst l s l.length)=some (t,b):=by
    rw [qcW]
    by_cases c:lst l s l.length < 0
    · rw [if_pos c];exact ⟨_,_,rfl⟩
    · obtain ⟨j,hj⟩:=Int.eq_ofNat_of_zero_le (show 0≤lst l s l.length by omega)
      rw [if_neg c,hj,qM (by omega),qa]
      exact ⟨_,_,rfl⟩
  obtain ⟨t,b,hk⟩:=hk
  exact ⟨t,b,by rw [M36];exact h1.trans hk⟩
theorem yz {l:List TVersion} (hs:xo l):∀ (d i:Nat) (h:i+d < l.length),l[i].At≤l[i+d].At
  | 0,i,h=>Int.le_refl _
  | d+1,i,h=>by
    have h1:=yz hs d i (by omega)
    have h2:=hs (i+d) (by omega)
    simp only [← Nat.add_assoc]
    omega
theorem jE {l:List TVersion} (hs:xo l) {i j:Nat} (hij:i≤j) (hj:j < l.length):l[i].At≤l[j].At:=by
  obtain ⟨d,rfl⟩:∃ d,j=i+d:=⟨j - i,by omega⟩
  exact yz hs d i hj
theorem qiM {l:List TVersion} (s:Int) (k:Nat) (hk:k≤l.length) (h1:∀ i (h:i < l.length),i < k→l[i].At≤s) (h2:∀ i (h:i < l.length),k≤i→s < l[i].At):∀ i,k≤i→i≤l.length→lst l s i=(k:Int) - 1:=by
  intro i hki
  induction i with
  | zero => intro _; have : k = 0 := by omega
            subst this;simp [lst]
  | succ i ih =>
    intro hi
    rw [wv s (by omega)]
    by_cases c:k≤i
    · rw [if_neg (by have:=h2 i (by omega) c;omega)];exact ih c (by omega)
    · have:k=i+1:=by omega
      subst this
      rw [if_pos (h1 i (by omega) (by omega))];omega
theorem qcw (l:List TVersion) (hs:xo l) (s:Int) (hl:l.length≤100):∀ (d i j:Nat),j - i≤d→i≤j→j≤l.length→(∀ q (h:q < l.length),q < i→l[q].At≤s)→(∀ q (h:q < l.length),j≤q→s < l[q].At)→∀ n,d < n →
    wK l s n (i:Int) (j:Int)=some (lst l s l.length):=by
  intro d
  induction d with
  | zero =>
    intro i j hd hij hj h1 h2 n hn
    obtain ⟨n,rfl⟩:=Nat.exists_eq_add_one.2 hn
    have:i=j:=by omega
    subst this
    rw [wK,qbE,if_neg (by omega),qiM s i hj h1 h2 l.length hj (Nat.le_refl _),qf8]
    have hk:∀ b,qcS (i:Int) b=some ((i:Int) - 1):=fun b=>by rw [qcS,qr (by omega) (by omega),qa]
    by_cases c:(i:Int) < l.length
    · rw [if_pos c,qM (by omega),qa,qcR,qcR,hk,hk]
      simp
    · rw [if_neg c,hk]
  | succ d ih =>
    intro i j hd hij hj h1 h2 n hn
    obtain ⟨n,rfl⟩:=Nat.exists_eq_add_one.2 (show 0 < n by omega)
    by_cases hlt:i < j
    · rw [wK,qbE,if_pos (by omega),qr (by omega) (by omega),qa]
      have e1:IntKind.wrap .u64 ((i:Int)+(j:Int))=((i+j:Nat):Int):=by rw [xS];omega
      rw [e1,show (1:Int)=((1:Nat):Int) by rfl,ko _ _ (by decide),qa]
      have e2:IntKind.wrap .i64 (((i+j) / 2 ^ 1:Nat):Int)=(((i+j) / 2:Nat):Int):=by rw [xv (by omega) (by omega)]
      simp only [qeI,e2]
      have hm:(i+j) / 2 < l.length:=by omega
      rw [qM hm,qa]
      by_cases c:l[(i+j) / 2].At≤s
      · rw [if_pos c,if_pos (by omega),qS _ (by omega),qa]
        exact ih ((i+j) / 2+1) j (by omega) (by omega) hj (fun q hq hlt'=>by have:=jE hs (show q≤(i+j) / 2 by omega) hm;omega) h2 n (by omega)
      · rw [if_neg c,if_neg (by omega)]
        exact ih i ((i+j) / 2) (by omega) (by omega) (by omega) h1 (fun q hq hle=>by have:=jE hs hle hq;omega) n (by omega)
    · exact (by
        have:i=j:=by omega
        subst this
        have h0:=ih i i (by omega) (by omega) hj h1 h2 (n+1) (by omega)
        exact h0)
theorem qj2 (l:List TVersion) (hs:xo l) (s:Int) (hl:l.length≤100):M95 l s=some (lst l s l.length) :=
  qcw l hs s hl l.length 0 l.length (by omega) (by omega) (Nat.le_refl _) (by omega) (by omega) big (by rw [qy];omega)
def kg (l:List TVersion) (c:Nat→Bool):Nat→Nat→List TVersion
  | 0,_=>[]
  | r+1,i=>match l[i]? with
    | some v=>if c i=true then v :: kg l c r (i+1) else kg l c r (i+1)
    | none=>[]
theorem js {l:List TVersion} (c:Nat→Bool) (r:Nat) {i:Nat} (h:i < l.length):kg l c (r+1) i=if c i=true then l[i] :: kg l c r (i+1) else kg l c r (i+1):=by simp [kg,h]
theorem qfC (l:List TVersion) (m:List (Int×Int)) (hl:l.length≤100):∀ (r i:Nat),i+r=l.length→∀ n,r < n→∀ o:List TVersion,o.length+r≤1000 →
    wQ l m n o (i:Int)=some (o++kg l (fun i=>decide (0 < xP m (i:Int) 0)) r i,0):=by
  intro r
  induction r with
  | zero =>
    intro i hi n hn o _
    obtain ⟨n,rfl⟩:=Nat.exists_eq_add_one.2 hn
    rw [wQ,qbK,if_neg (by omega),qgc,kg,List.append_nil]
  | succ r ih =>
    intro i hi n hn o ho
    obtain ⟨n,rfl⟩:=Nat.exists_eq_add_one.2 (show 0 < n by omega)
    have h1:i < l.length:=by omega
    rw [wQ,qbK,if_pos (by omega),qM h1,qa,qS i (by omega),js _ _ h1]
    by_cases c:0 < xP m (i:Int) 0
    · rw [if_pos c,qX (by simp;omega),qa,qa,ih (i+1) (by omega) n (by omega) _ (by simp;omega),if_pos (by simpa using c)]
      simp
    · rw [if_neg c,qa,ih (i+1) (by omega) n (by omega) o (by omega),if_neg (by simpa using c)]
theorem qey (l:List TVersion) (hs:xo l) (hl:l.length≤100) (a:List Int) (ha:a.length≤13):∀ (r i:Nat),i+r=a.length→∀ n,r < n→∀ m:List (Int×Int),(∀ k,0≤xP m k 0∧xP m k 0≤i)→(∀ k,0 < xP m k 0↔∃ s∈a.take i,lst l s l.length=k) →
    ∃ m',wP a l n (i:Int) m=qeM l m'∧∀ k,0 < xP m' k 0↔∃ s∈a,lst l s l.length=k:=by
  intro r
  induction r with
  | zero =>
    intro i hi n hn m h1 h2
    obtain ⟨n,rfl⟩:=Nat.exists_eq_add_one.2 hn
    refine ⟨m,by rw [wP,qbJ,if_neg (by omega)],fun k=>?_⟩
    rw [h2 k,List.take_of_length_le (by omega)]
  | succ r ih =>
    intro i hi n hn m h1 h2
    obtain ⟨n,rfl⟩:=Nat.exists_eq_add_one.2 (show 0 < n by omega)
    have hil:i < a.length:=by omega
    have hb:=h1 (lst l a[i] l.length)
    rw [wP,qbJ,if_pos (by omega),qM hil,qa,qj2 l hs _ hl,qa,qr (by omega) (by omega),qa,qa,qS i (by omega),qa]
    refine ih (i+1) (by omega) n (by omega) _ (fun k=>?_) (fun k=>?_)
    · rw [yM]
      have:=h1 k
      split <;> omega
    · rw [yM,List.take_succ_eq_append_getElem hil]
      by_cases c:k=lst l a[i] l.length
      · rw [if_pos c]
        refine ⟨fun _=>⟨a[i],List.mem_append.2 (.inr (List.mem_singleton.2 rfl)),c.symm⟩,fun _=>by omega⟩
      · rw [if_neg c,h2 k]
        constructor
        · rintro ⟨s,hs1,hs2⟩;exact ⟨s,List.mem_append.2 (.inl hs1),hs2⟩
        · rintro ⟨s,hs1,hs2⟩
          rcases List.mem_append.1 hs1 with h | h
          · exact ⟨s,h,hs2⟩
          · rw [List.mem_singleton] at h;subst h;exact absurd hs2.symm c
def vo (l:List TVersion) (b:List Int):Nat→Bool:=fun i=>decide (∃ s∈b,lst l s l.length=(i:Int))
theorem qhC {l:List TVersion} {a:List Int} {now:Int} (h0:0≤now) (hl:l.length≤100) (ha1:a.length≤12) (ha:∀ s∈a,0≤s∧s≤now) (hs:xo l) (hv:∀ v∈l,1≤v.At∧v.At≤now) :
    M77 l a now=some (kg l (vo l (a++[now])) l.length 0,0):=by
  rw [M77,qfT h0 hl ha1 ha hs hv]
  simp only [qa]
  rw [if_neg (by decide),M57,qX (by simp;omega),qa,qa,List.nil_append,qX (by simp;omega),qa]
  obtain ⟨m',h1,h2⟩:=qey l hs hl (a++[now]) (by simp;omega) (a++[now]).length 0 (by omega) big (by rw [qy];simp;omega) [] (by simp [xP]) (by simp [xP])
  rw [show ((0:Nat):Int)=0 by rfl] at h1
  rw [h1,qeM]
  have:=qfC l m' hl l.length 0 (by omega) big (by rw [qy];omega) [] (by simp;omega)
  rw [show ((0:Nat):Int)=0 by rfl] at this
  rw [this,List.nil_append]
  congr 2
  have:(fun i:Nat=>decide (0 < xP m' (i:Int) 0))=vo l (a++[now]):=funext fun i=>decide_eq_decide.2 (h2 i)
  rw [this]
theorem ww (l:List TVersion) (c:Nat→Bool):∀ r i,(kg l c r i).Sublist (l.drop i)
  | 0,i=>by rw [kg];exact List.nil_sublist _
  | r+1,i=>by
    by_cases h:i < l.length
    · rw [js c r h,List.drop_eq_getElem_cons h]
      have:=ww l c r (i+1)
      split
      · exact this.cons_cons _
      · exact this.cons _
    · simp only [kg]
      rw [List.getElem?_eq_none (by omega)]
      exact List.nil_sublist _
theorem yP (l:List TVersion) (c:Nat→Bool) (hl:0 < l.length) (hc:c (l.length - 1)=true):∀ r i,i+r=l.length→i < l.length→(kg l c r i).getLast?=l.getLast?
  | 0,i,h,h2=>by omega
  | r+1,i,h,h2=>by
    rw [js c r h2]
    by_cases e:i+1=l.length
    · have hi:i=l.length - 1:=by omega
      have hci:c i=true:=by rw [hi];exact hc
      have hr:r=0:=by omega
      subst hr
      rw [if_pos hci,List.getLast?_eq_getElem? (l:=l),← hi,List.getElem?_eq_getElem h2]
      rfl
    · have ih:=yP l c hl hc r (i+1) (by omega) (by omega)
      split
      · rw [List.getLast?_cons,ih]
        rw [List.getLast?_eq_getElem?,List.getElem?_eq_getElem (by omega)]
        rfl
      · exact ih
theorem yQ (l:List TVersion) {c c':Nat→Bool}:∀ r i,(∀ j,i≤j→c j=c' j)→kg l c r i=kg l c' r i
  | 0,i,_=>rfl
  | r+1,i,h=>by
    simp only [kg]
    rw [h i (Nat.le_refl _),yQ l r (i+1) fun j hj=>h j (by omega)]
theorem jK (l:List TVersion) (f:Int→Int):∀ r i (b:List Int),(kg l (fun i=>decide (∃ s∈b,f s=(i:Int))) r i).length≤b.length
  | 0,i,b=>by simp [kg]
  | r+1,i,b=>by
    by_cases h:i < l.length
    · rw [js _ r h]
      by_cases c:∃ s∈b,f s=(i:Int)
      · rw [if_pos (by simpa using c)]
        have e:kg l (fun i=>decide (∃ s∈b,f s=(i:Int))) r (i+1)=kg l (fun i'=>decide (∃ s∈b.filter (fun s=>decide (f s≠(i:Int))),f s=(i':Int))) r (i+1):=by
          apply yQ
          intro j hj
          apply decide_eq_decide.2
          constructor
          · rintro ⟨s,h1,h2⟩
            exact ⟨s,List.mem_filter.2 ⟨h1,by simp;omega⟩,h2⟩
          · rintro ⟨s,h1,h2⟩
            exact ⟨s,(List.mem_filter.1 h1).1,h2⟩
        have ih:=jK l f r (i+1) (b.filter (fun s=>decide (f s≠(i:Int))))
        have hlt:(b.filter (fun s=>decide (f s≠(i:Int)))).length < b.length:=by
          obtain ⟨s,h1,h2⟩:=c
          exact List.length_filter_lt_length_iff_exists.2 ⟨s,h1,by simp [h2]⟩
        rw [e,List.length_cons]
        omega
      · rw [if_neg (by simpa using c)]
        exact jK l f r (i+1) b
    · simp only [kg]
      rw [List.getElem?_eq_none (by omega)]
      simp
end Go.Proofs.YtbjidacdnjojnaaGreatDoor
end
section
namespace Go.Proofs.YtbjidacdnjojnaaGreatDoor
open Go.S
theorem qcL (l:List Int) (a:Int) (hl:l.length≤1000):∀ (r i:Nat),i+r=l.length→∀ n,r < n→∃ k,wS l a n (i:Int)=some k∧(0≤k↔a∈l.drop i):=by
 intro r
 induction r with
 | zero =>
  intro i hi n hn
  obtain ⟨n,rfl⟩:=Nat.exists_eq_add_one.2 hn
  rw [wS,qbM,if_neg (by omega),qgg,List.drop_eq_nil_of_le (by omega)]
  exact ⟨-1,rfl,by simp⟩
 | succ r ih =>
  intro i hi n hn
  obtain ⟨n,rfl⟩:=Nat.exists_eq_add_one.2 (show 0 < n by omega)
  have h1:i < l.length:=by omega
  rw [wS,qbM,if_pos (by omega),qM h1,qa,qi6 h1]
  by_cases c:a=l[i]
  ·rw [if_pos c]
   exact ⟨i,rfl,⟨fun _=>by rw [← c];exact List.mem_cons_self,fun _=>by omega⟩⟩
  ·rw [if_neg c,qS i (by omega),qa]
   obtain ⟨k,g1,g2⟩:=ih (i+1) (by omega) n (by omega)
   refine ⟨k,g1,g2.trans ⟨fun h=>List.mem_cons_of_mem _ h,fun h=>?_⟩⟩
   rcases List.mem_cons.1 h with h | h
   ·exact absurd h c
   ·exact h
theorem qbp {l:List Int} (a:Int) (hl:l.length≤1000):M31 l a=some (decide (a∈l)):=by
 obtain ⟨k,h1,h2⟩:=qcL l a hl l.length 0 (by omega) big (by rw [qy];omega)
 rw [List.drop_zero] at h2
 rw [M31,M51]
 rw [show ((0:Nat):Int)=0 by rfl] at h1
 rw [h1,qa,decide_eq_decide.2 h2]
theorem qdY (a b:List Int) (ha:a.length≤1000) (hb:b.length≤1000):∀ (r i:Nat),i+r=a.length→∀ n,r < n→∃ x,wR a b n (i:Int)=some x:=by
 intro r
 induction r with
 | zero =>
  intro i hi n hn
  obtain ⟨n,rfl⟩:=Nat.exists_eq_add_one.2 hn
  rw [wR,qbL,if_neg (by omega)]
  exact ⟨_,rfl⟩
 | succ r ih =>
  intro i hi n hn
  obtain ⟨n,rfl⟩:=Nat.exists_eq_add_one.2 (show 0 < n by omega)
  have h1:i < a.length:=by omega
  rw [wR,qbL,if_pos (by omega),qM h1,qa,qbp _ hb,qa,qge]
  split
  ·exact ⟨_,rfl⟩
  ·rw [qS i (by omega),qa]
   exact ih (i+1) (by omega) n (by omega)
theorem wu {a b:List Int} (ha:a.length≤1000) (hb:b.length≤1000):∃ x,M52 a b=some x:=by
 obtain ⟨x,h⟩:=qdY a b ha hb a.length 0 (by omega) big (by rw [qy];omega)
 exact ⟨x,by simpa [M52] using h⟩
structure TxOk (now:Int) (t:Ttx):Prop where
 i0:0≤t.id_
 i1:t.id_ < 12
 f0:0≤t.from_
 f1:t.from_≤now
 r:t.reads_.length≤20∧t.reads_.Nodup∧∀ k∈t.reads_,0≤k∧k < 20
 w:t.writes_.length≤20∧t.writes_.Nodup∧∀ k∈t.writes_,0≤k∧k < 20
 t20:t.texts_.length=20
 tl:∀ x∈t.texts_,x.length≤20
def Txs (X:List Ttx) (now:Int) (l:List Int):Prop:=∀ x∈l,∃ t,idx X x=some t∧TxOk now t
structure Vs (now:Int) (l:List TVersion):Prop where
 ne:l≠[]
 s:xo l
 b:∀ v∈l,0≤v.At∧v.At≤now∧v.Text.length≤20
 n:l.length≤50
def qkG (X:List Ttx) (l:List Int):List Int:=l.map fun x=>(X.getD x.toNat default).id_
structure StOk (S:TStore) (X:List Ttx):Prop where
 lg:S.logs_.length=2
 it:S.items_.length=20
 vs:∀ l∈S.items_,Vs S.now_ l
 n0:0≤S.now_
 n1:S.now_≤2513169434000
 ac:Txs X S.now_ S.active_
 a12:S.active_.length≤12
 an:S.active_.Nodup
 ai:∀ x∈S.active_,∀ y∈S.active_,∀ t u,idx X x=some t→idx X y=some u→t.id_=u.id_→x=y
 ov:Txs X S.now_ S.over_
 ol:(S.over_.length:Int)≤S.now_
 ao:∀ x∈S.active_,x ∉ S.over_
section
variable {T:List TStore} {X:List Ttx} {s:Int} {S:TStore}
theorem qej (id:Int) (ha:Txs X S.now_ S.active_) (hl:S.active_.length≤1000):∀ (r i:Nat),i+r=S.active_.length→(∀ x∈S.active_.take i,∀ t,idx X x=some t→t.id_≠id)→∀ n,r < n →
  ∃ k,w9 S X id n (i:Int)=some k∧((0≤k∧k∈S.active_∧∃ t,idx X k=some t∧t.id_=id)∨(k=-1∧∀ x∈S.active_,∀ t,idx X x=some t→t.id_≠id)):=by
 intro r
 induction r with
 | zero =>
  intro i hi h0 n hn
  obtain ⟨n,rfl⟩:=Nat.exists_eq_add_one.2 hn
  rw [w9,qb8,if_neg (by omega),qgm,qc3,if_pos (by omega)]
  rw [List.take_of_length_le (by omega)] at h0
  exact ⟨-1,rfl,.inr ⟨rfl,h0⟩⟩
 | succ r ih =>
  intro i hi h0 n hn
  obtain ⟨n,rfl⟩:=Nat.exists_eq_add_one.2 (show 0 < n by omega)
  have h1:i < S.active_.length:=by omega
  obtain ⟨t,ht,hk⟩:=ha S.active_[i] (List.getElem_mem h1)
  rw [w9,qb8,if_pos (by omega),qM h1,qa,ht,qa,qgl]
  by_cases c:t.id_=id
  ·rw [if_pos (by simpa using c),qc3,if_neg (by omega),qM h1,qa]
   exact ⟨_,rfl,.inl ⟨(qm ht).1,List.getElem_mem h1,t,ht,c⟩⟩
  ·rw [if_neg (by simpa using c),qS i (by omega),qa]
   refine ih (i+1) (by omega) (fun x hx u hu=>?_) n (by omega)
   rw [List.take_succ_eq_append_getElem h1] at hx
   rcases List.mem_append.1 hx with hx | hx
   ·exact h0 x hx u hu
   ·rw [List.mem_singleton.1 hx,ht,Option.some.injEq] at hu
    rw [← hu];exact c
theorem qei (hs:idx T s=some S) (h:StOk S X) (id:Int):∃ k,M29 s id T X=some k∧((0≤k∧k∈S.active_∧∃ t,idx X k=some t∧t.id_=id)∨(k=-1∧∀ x∈S.active_,∀ t,idx X x=some t→t.id_≠id)):=by
 have:=h.a12
 obtain ⟨k,h1,h2⟩:=qej (X:=X) (S:=S) id h.ac (by omega) S.active_.length 0 (by omega) (by simp) big (by rw [qy];omega)
 refine ⟨k,?_,h2⟩
 rw [M29,hs,qa,qs h.lg,qa,qs h.it,qa]
 exact h1
theorem qfY (hs:idx T s=some S) (h:StOk S X) (id item:Int):∃ k e,M30 s id item T X=some (k,e) ∧
  ((e=0∧S.down_=false∧0≤k∧k∈S.active_∧0≤item∧item < 20∧∃ t,idx X k=some t∧t.id_=id)∨(e=13∧S.down_=true)∨e=1∨e=6):=by
 have hb:∀ b,∃ k e,qah item s id T X b=some (k,e)∧((e=0∧b=false∧0≤k∧k∈S.active_∧0≤item∧item < 20∧∃ t,idx X k=some t∧t.id_=id)∨e=1∨e=6):=by
  intro b
  rw [qah]
  cases b with
  | true=>rw [if_pos rfl];exact ⟨_,_,rfl,.inr (.inl rfl)⟩
  | false =>
   rw [if_neg (by simp)]
   split
   ·exact ⟨_,_,rfl,.inr (.inl rfl)⟩
   ·split
    ·exact ⟨_,_,rfl,.inr (.inl rfl)⟩
    ·obtain ⟨k,h1,h2⟩:=qei hs h id
     rw [h1,qa,hs,qa]
     rcases h2 with ⟨g1,g2,g3⟩ | ⟨g1,g2⟩
     ·rw [if_pos g1]
      exact ⟨_,_,rfl,.inl ⟨rfl,rfl,g1,g2,by omega,by omega,g3⟩⟩
     ·rw [if_neg (by omega)]
      exact ⟨_,_,rfl,.inr (.inr rfl)⟩
 rw [M30,hs,qa,qs h.lg,qa]
 cases hd:S.down_ with
 | true=>rw [if_pos rfl];exact ⟨_,_,rfl,.inr (.inl ⟨rfl,rfl⟩)⟩
 | false =>
  rw [if_neg (by simp)]
  have fin:∀ b,∃ k e,qah item s id T X b=some (k,e)∧((e=0∧false=false∧0≤k∧k∈S.active_∧0≤item∧item < 20∧∃ t,idx X k=some t∧t.id_=id)∨(e=13∧false=true)∨e=1∨e=6):=fun b=>by
   obtain ⟨k,e,g1,g2⟩:=hb b
   refine ⟨k,e,g1,?_⟩
   rcases g2 with ⟨g2,_,g3⟩ | g2 | g2
   ·exact .inl ⟨g2,rfl,g3⟩
   ·exact .inr (.inr (.inl g2))
   ·exact .inr (.inr (.inr g2))
  split
  ·exact fin _
  ·split
   ·exact fin _
   ·exact fin _
theorem qfv (hs:idx T s=some S) (h:StOk S X) {a:Int} {t:Ttx} (ha:idx X a=some t) (htk:TxOk S.now_ t) (hao:a ∉ S.over_):∀ (r i:Nat),i+r=S.over_.length→∀ n,r < n→∀ (ins outs:List Int) (b1 b2:Bool),(∀ x∈ins,x∈S.over_)→(∀ x∈outs,x∈S.over_)→ins.length≤i→outs.length≤i →
  ∃ ins' outs' b,jd S X a n ins outs b1 b2 (i:Int)=some (ins',outs',b)∧(∀ x∈ins',x∈S.over_)∧(∀ x∈outs',x∈S.over_)∧ins'.length≤S.over_.length∧outs'.length≤S.over_.length:=by
 have hol:=h.ol
 have hn1:=h.n1
 intro r
 induction r with
 | zero =>
  intro i hi n hn ins outs b1 b2 h1 h2 h3 h4
  obtain ⟨n,rfl⟩:=Nat.exists_eq_add_one.2 hn
  rw [jd,qb7,if_neg (by omega),qgk]
  split <;> exact ⟨_,_,_,rfl,h1,h2,by omega,by omega⟩
 | succ r ih =>
  intro i hi n hn ins outs b1 b2 h1 h2 h3 h4
  obtain ⟨n,rfl⟩:=Nat.exists_eq_add_one.2 (show 0 < n by omega)
  have hio:i < S.over_.length:=by omega
  obtain ⟨u,hu,huk⟩:=h.ov S.over_[i] (List.getElem_mem hio)
  have hne:a≠S.over_[i]:=fun e=>hao (by rw [e];exact List.getElem_mem hio)
  rw [jd,qb7,if_pos (by omega),qM hio,qa,hu,qa,ha,qa,xn hne,qa]
  have next:∀ (ins' outs':List Int) (b1 b2:Bool),(∀ x∈ins',x∈S.over_)→(∀ x∈outs',x∈S.over_)→ins'.length≤i+1→outs'.length≤i+1→∃ ins'' outs'' b,(qb (i64 ((i:Int)+1)) fun x=>jd S X a n ins' outs' b1 b2 x)=some (ins'',outs'',b)∧(∀ x∈ins'',x∈S.over_)∧(∀ x∈outs'',x∈S.over_)∧ins''.length≤S.over_.length∧outs''.length≤S.over_.length:=by
   intro ins' outs' b1 b2 g1 g2 g3 g4
   rw [qS i (by omega),qa]
   exact ih (i+1) (by omega) n (by omega) ins' outs' b1 b2 g1 g2 g3 g4
  have no:∃ ins'' outs'' b,(some ([],[],false):Option (List Int×List Int×Bool))=some (ins'',outs'',b)∧(∀ x∈ins'',x∈S.over_)∧(∀ x∈outs'',x∈S.over_)∧ins''.length≤S.over_.length∧outs''.length≤S.over_.length:=⟨[],[],false,rfl,by simp,by simp,by simp,by simp⟩
  have k5:∀ (g12 g11 g15 g14:Bool) (ins' outs':List Int),(∀ x∈ins',x∈S.over_)→(∀ x∈outs',x∈S.over_)→ins'.length≤i+1→outs'.length≤i+1→∃ ins'' outs'' b,qc2 g12 g11 (i:Int) (jd S X a n) ins' g15 g14 outs'=some (ins'',outs'',b)∧(∀ x∈ins'',x∈S.over_)∧(∀ x∈outs'',x∈S.over_)∧ins''.length≤S.over_.length∧outs''.length≤S.over_.length:=by
   intro g12 g11 g15 g14 ins' outs' q1 q2 q3 q4
   simp only [qc2,qc1,qc0,qcZ]
   repeat' split
   all_goals exact next _ _ _ _ q1 q2 q3 q4
  have k3:∀ (g14 g15 g12 g11:Bool),∃ ins'' outs'' b,qeW g14 ins S.over_[i] g15 outs g12 g11 (i:Int) (jd S X a n)=some (ins'',outs'',b)∧(∀ x∈ins'',x∈S.over_)∧(∀ x∈outs'',x∈S.over_)∧ins''.length≤S.over_.length∧outs''.length≤S.over_.length:=by
   intro g14 g15 g12 g11
   have e1:∀ x∈ins++[S.over_[i]],x∈S.over_:=fun x hx=>by
    rcases List.mem_append.1 hx with hx | hx
    ·exact h1 x hx
    ·rw [List.mem_singleton.1 hx];exact List.getElem_mem hio
   have e2:∀ x∈outs++[S.over_[i]],x∈S.over_:=fun x hx=>by
    rcases List.mem_append.1 hx with hx | hx
    ·exact h2 x hx
    ·rw [List.mem_singleton.1 hx];exact List.getElem_mem hio
   simp only [qeW,qeV]
   rw [qX (by simp;omega),qa,qX (by simp;omega)]
   simp only [qa]
   repeat' split
   ·exact k5 _ _ _ _ _ _ e1 e2 (by simp;omega) (by simp;omega)
   ·exact k5 _ _ _ _ _ _ e1 h2 (by simp;omega) (by omega)
   ·exact k5 _ _ _ _ _ _ h1 e2 (by omega) (by simp;omega)
   ·exact k5 _ _ _ _ _ _ h1 h2 (by omega) (by omega)
  have k2:∀ (g14 g15:Bool),∃ ins'' outs'' b,qag X a S.over_[i] ins outs b2 b1 (i:Int) (jd S X a n) g14 g15=some (ins'',outs'',b)∧(∀ x∈ins'',x∈S.over_)∧(∀ x∈outs'',x∈S.over_)∧ins''.length≤S.over_.length∧outs''.length≤S.over_.length:=by
   intro g14 g15
   obtain ⟨b,hb⟩:=wu (a:=t.writes_) (b:=u.writes_) (by have:=htk.w.1;omega) (by have:=huk.w.1;omega)
   rw [qag,ha,qa,hu,qa,hb,qa]
   have k10:∀ b,∃ ins'' outs'' c,vl g14 ins S.over_[i] g15 outs b2 b1 (i:Int) (jd S X a n) b=some (ins'',outs'',c)∧(∀ x∈ins'',x∈S.over_)∧(∀ x∈outs'',x∈S.over_)∧ins''.length≤S.over_.length∧outs''.length≤S.over_.length:=by
    intro b
    rw [vl]
    cases b with
    | true=>rw [if_pos rfl];exact no
    | false=>rw [if_neg (by simp)];exact k3 _ _ _ _
   have k9:∀ b,∃ ins'' outs'' c,w8 g15 u g14 ins S.over_[i] outs b2 b1 (i:Int) (jd S X a n) b=some (ins'',outs'',c)∧(∀ x∈ins'',x∈S.over_)∧(∀ x∈outs'',x∈S.over_)∧ins''.length≤S.over_.length∧outs''.length≤S.over_.length:=by
    intro b
    rw [w8,qs huk.t20,qa]
    cases b with
    | true=>rw [if_pos rfl];exact no
    | false =>
     rw [if_neg (by simp)]
     split
     ·split <;> exact k10 _
     ·exact k10 _
   rw [qs huk.t20,qa]
   split
   ·exact k9 _
   ·split
    ·split
     ·exact k9 _
     ·split <;> exact k9 _
    ·exact k9 _
  split
  ·exact next _ _ _ _ h1 h2 (by omega) (by omega)
  ·obtain ⟨b3,hb3⟩:=wu (a:=t.reads_) (b:=u.writes_) (by have:=htk.r.1;omega) (by have:=huk.w.1;omega)
   obtain ⟨b4,hb4⟩:=wu (a:=u.reads_) (b:=t.writes_) (by have:=huk.r.1;omega) (by have:=htk.w.1;omega)
   rw [hb3,qa,hb4]
   simp only [qa]
   repeat' split
   all_goals exact k2 _ _
theorem qhx (hs:idx T s=some S) (h:StOk S X) {a:Int} {t:Ttx} (ha:idx X a=some t) (htk:TxOk S.now_ t) (hao:a ∉ S.over_):∃ ins outs b,M32 s a T X=some (ins,outs,b)∧(∀ x∈ins,x∈S.over_)∧(∀ x∈outs,x∈S.over_)∧ins.length≤S.over_.length∧outs.length≤S.over_.length:=by
 have hol:=h.ol
 have hn1:=h.n1
 have:=qfv hs h ha htk hao S.over_.length 0 (by omega) big (by rw [qy];omega) [] [] false false (by simp) (by simp) (by simp) (by simp)
 rw [M32,hs,qa,qs h.lg,qa,qs h.it,qa]
 exact this
end
end Go.Proofs.YtbjidacdnjojnaaGreatDoor
end
section
namespace Go.Proofs.YtbjidacdnjojnaaGreatDoor
open Go.S
section
variable {α ρ:Type} {keep:α→Bool} {l0:List α} {z:α}
theorem qfN {F:Nat→List α→Int→Int→Option ρ} (hl:l0.length≤9223372036854775800) (K:List α→Option ρ)
  (hend:∀ n (l:List α) (i:Nat),l.length=l0.length→F (n+1) l (i:Nat) (l.length:Nat)=qb (cut l (i:Nat) l.length) fun _=>qb (clr l (i:Nat) z) fun l59=>qb (cut l59 0 (i:Nat)) fun l60=>K l60)
  (hstep:∀ n (l:List α) (i j:Nat) (h:j < l.length),l.length=l0.length→l[j]∈l0→F (n+1) l (i:Nat) (j:Nat)=if keep l[j]=true then qb (idx l (i:Nat)) fun _=>qb (upd l (i:Nat) l[j]) fun l67=>qb (i64 ((i:Nat)+1)) fun x68=>qb (i64 ((j:Nat)+1)) fun x69=>F n l67 x68 x69 else qb (i64 ((j:Nat)+1)) fun x70=>F n l (i:Nat) x70) :
  ∀ (r j:Nat),j+r=l0.length→∀ (l:List α) (i:Nat) (n:Nat),r < n→i < j→l.length=l0.length→l.take i=(l0.take j).filter keep→l.drop j=l0.drop j→F n l (i:Nat) (j:Nat)=K (l0.filter keep):=by
 intro r
 induction r with
 | zero =>
  intro j hj l i n hn hij hll ht hd
  obtain ⟨n,rfl⟩:=Nat.exists_eq_add_one.2 hn
  have e:j=l.length:=by omega
  subst e
  have e1:l0.take l.length=l0:=List.take_of_length_le (by omega)
  rw [e1] at ht
  have e2:(l.take i++List.replicate (l.length - i) z).take i=l.take i:=List.take_left' (by rw [List.length_take];omega)
  rw [hend n l i hll,qfQ _ _ (by omega),qa,qi7 _ _ _ (by omega),qa,qfP _ _ (by rw [List.length_append,List.length_take,List.length_replicate];omega),qa,e2,ht]
 | succ r ih =>
  intro j hj l i n hn hij hll ht hd
  obtain ⟨n,rfl⟩:=Nat.exists_eq_add_one.2 (show 0 < n by omega)
  have h1:j < l.length:=by omega
  have h2:j < l0.length:=by omega
  have e1:l[j]=l0[j]:=by
   have h3:=congrArg List.head? hd
   rw [xc h1,xc h2] at h3
   exact Option.some.inj h3
  have e2:l.drop (j+1)=l0.drop (j+1):=by
   have h3:=congrArg List.tail hd
   rw [xc h1,xc h2] at h3
   exact h3
  rw [hstep n l i j h1 hll (by rw [e1];exact List.getElem_mem h2),e1]
  by_cases c:keep l0[j]=true
  ·rw [if_pos c,qM (by omega),qa,qu (qM (i:=i) (by omega)),qa,qS i (by omega),qa,qS j (by omega),qa,Int.toNat_natCast]
   refine ih (j+1) (by omega) _ (i+1) n (by omega) (by omega) (by simpa using hll) ?_ ?_
   ·rw [qR (by simp;omega),List.getElem_set_self,List.take_set_of_le (Nat.le_refl _),ht,qR h2,List.filter_append]
    simp [c]
   ·rw [List.drop_set_of_lt (by omega),e2]
  ·rw [if_neg c,qS j (by omega),qa]
   refine ih (j+1) (by omega) l i n (by omega) (by omega) hll ?_ e2
   rw [ht,qR h2,List.filter_append]
   simp [c]
theorem qev {F1:Nat→Int→Option ρ} {F:Nat→List α→Int→Int→Option ρ} (hl:l0.length≤9223372036854775800) (K:List α→Option ρ)
  (hend:∀ n (l:List α) (i:Nat),l.length=l0.length→F (n+1) l (i:Nat) (l.length:Nat)=qb (cut l (i:Nat) l.length) fun _=>qb (clr l (i:Nat) z) fun l59=>qb (cut l59 0 (i:Nat)) fun l60=>K l60)
  (hstep:∀ n (l:List α) (i j:Nat) (h:j < l.length),l.length=l0.length→l[j]∈l0→F (n+1) l (i:Nat) (j:Nat)=if keep l[j]=true then qb (idx l (i:Nat)) fun _=>qb (upd l (i:Nat) l[j]) fun l67=>qb (i64 ((i:Nat)+1)) fun x68=>qb (i64 ((j:Nat)+1)) fun x69=>F n l67 x68 x69 else qb (i64 ((j:Nat)+1)) fun x70=>F n l (i:Nat) x70)
  (hend1:∀ n,F1 (n+1) (l0.length:Nat)=K l0)
  (hstep1:∀ n i (h:i < l0.length),F1 (n+1) (i:Nat)=if keep l0[i]=true then qb (i64 ((i:Nat)+1)) fun x=>F1 n x else qb (i64 ((i:Nat)+1)) fun x=>F big l0 (i:Nat) x):F1 big 0=K (l0.filter keep):=by
 have key:∀ (r i:Nat),i+r=l0.length→(∀ q (h:q < l0.length),q < i→keep l0[q]=true)→∀ n,r < n→F1 n (i:Nat)=K (l0.filter keep):=by
  intro r
  induction r with
  | zero =>
   intro i hi hk n hn
   obtain ⟨n,rfl⟩:=Nat.exists_eq_add_one.2 hn
   obtain rfl:i=l0.length:=by omega
   rw [hend1,List.filter_eq_self.2]
   intro x hx
   obtain ⟨q,hq,rfl⟩:=List.getElem_of_mem hx
   exact hk q hq hq
  | succ r ih =>
   intro i hi hk n hn
   obtain ⟨n,rfl⟩:=Nat.exists_eq_add_one.2 (show 0 < n by omega)
   have h1:i < l0.length:=by omega
   rw [hstep1 n i h1]
   have htk:l0.take i=(l0.take i).filter keep:=by
    rw [List.filter_eq_self.2]
    intro x hx
    obtain ⟨q,hq,rfl⟩:=List.getElem_of_mem hx
    rw [List.length_take] at hq
    rw [List.getElem_take]
    exact hk q (by omega) (by omega)
   by_cases c:keep l0[i]=true
   ·rw [if_pos c,qS i (by omega),qa]
    refine ih (i+1) (by omega) (fun q hq hqi=>?_) n (by omega)
    by_cases e:q=i
    ·subst e;exact c
    ·exact hk q hq (by omega)
   ·rw [if_neg c,qS i (by omega),qa]
    refine qfN hl K hend hstep r (i+1) (by omega) l0 i big (by rw [qy];omega) (by omega) rfl ?_ rfl
    rw [qR h1,List.filter_append,← htk]
    simp [c]
 exact key l0.length 0 (by omega) (fun q hq h=>by omega) big (by rw [qy];omega)
theorem kx {F:Nat→List α→Int→Option ρ} {K:List α→Option ρ} (f:α→α) (hl:l0.length≤1000)
  (hend:∀ n (g:List α),g.length=l0.length→F (n+1) g (l0.length:Nat)=K g)
  (hstep:∀ n (g:List α) (i:Nat) (h:i < l0.length),g.length=l0.length→idx g (i:Nat)=some l0[i]→F (n+1) g (i:Nat)=qb (i64 ((i:Nat)+1)) fun x=>F n (g.set i (f l0[i])) x):F big l0 0=K (l0.map f):=by
 have key:∀ (r i:Nat),i+r=l0.length→∀ n,r < n→F n ((l0.take i).map f++l0.drop i) (i:Nat)=K (l0.map f):=by
  intro r
  induction r with
  | zero =>
   intro i hi n hn
   obtain ⟨n,rfl⟩:=Nat.exists_eq_add_one.2 hn
   obtain rfl:i=l0.length:=by omega
   rw [hend _ _ (by simp)]
   simp
  | succ r ih =>
   intro i hi n hn
   obtain ⟨n,rfl⟩:=Nat.exists_eq_add_one.2 (show 0 < n by omega)
   have h1:i < l0.length:=by omega
   have hli:((l0.take i).map f).length=i:=by simp;omega
   rw [hstep _ _ i h1 (by simp;omega) (by rw [zm,List.getElem?_append_right (by omega),hli,Nat.sub_self,List.getElem?_drop,Nat.add_zero,List.getElem?_eq_getElem h1]),qS i (by omega),qa]
   have e:((l0.take i).map f++l0.drop i).set i (f l0[i])=(l0.take (i+1)).map f++l0.drop (i+1):=by
    rw [List.set_append_right _ _ (by omega),hli,Nat.sub_self,xc h1,List.set_cons_zero,qR h1,List.map_append,List.append_assoc]
    rfl
   rw [e]
   exact ih (i+1) (by omega) n (by omega)
 have:=key l0.length 0 (by omega) big (by rw [qy];omega)
 simpa using this
end
def incV (v:TVersion):TVersion:=⟨v.At+1,v.Text⟩
def qih (v:TVersion):TVersion:=⟨v.At - 1,v.Text⟩
def left (x:List TVersion) (b:List Int) (now:Int):List TVersion:=if 1 < x.length then (kg (x.map incV) (vo (x.map incV) (b.map (·+1)++[now+1])) x.length 0).map qih else x
theorem vL {x:List TVersion} (h:xo x):xo (x.map incV):=fun i hi=>by
 have h2:i+1 < x.length:=by simpa using hi
 have:=h i h2
 rw [List.getElem_map,List.getElem_map]
 simp only [incV];omega
theorem xf {x:List TVersion}:xo x↔x.Pairwise (fun a b=>a.At < b.At):=by
 constructor
 ·intro h
  rw [List.pairwise_iff_getElem]
  intro i j hi hj hij
  have h1:=jE h (show i+1≤j by omega) hj
  have h2:=h i (by omega)
  omega
 ·intro h i hi
  exact List.pairwise_iff_getElem.1 h i (i+1) (by omega) hi (by omega)
theorem qaL {x:List TVersion} {b:List Int} {now:Int} (hv:Vs now x) (hb:b.length≤12) (hn:0≤now):Vs now (left x b now)∧(left x b now).length≤13∧(left x b now).getLast?.map (·.Text)=x.getLast?.map (·.Text):=by
 unfold left
 by_cases c:1 < x.length
 ·rw [if_pos c]
  have hxl:(x.map incV).length=x.length:=by simp
  have hs:=vL hv.s
  have hsub:=ww (x.map incV) (vo (x.map incV) (b.map (·+1)++[now+1])) x.length 0
  rw [List.drop_zero] at hsub
  have hlastc:vo (x.map incV) (b.map (·+1)++[now+1]) ((x.map incV).length - 1)=true:=by
   refine decide_eq_true ⟨now+1,by simp,?_⟩
   have h1:x.length - 1 < (x.map incV).length:=by omega
   have h2:=hv.b x[x.length - 1] (List.getElem_mem (by omega))
   rw [show (x.map incV).length=(x.length - 1)+1 by omega,wv _ h1,if_pos (by rw [List.getElem_map];simp only [incV];omega)]
   omega
  have hlast:=yP (x.map incV) (vo (x.map incV) (b.map (·+1)++[now+1])) (by omega) hlastc x.length 0 (by omega) (by omega)
  have hcnt:=jK (x.map incV) (fun s=>lst (x.map incV) s (x.map incV).length) x.length 0 (b.map (·+1)++[now+1])
  have hcnt2:(kg (x.map incV) (vo (x.map incV) (b.map (·+1)++[now+1])) x.length 0).length≤13:=by
   refine Nat.le_trans hcnt ?_
   simp;omega
  generalize hkk:kg (x.map incV) (vo (x.map incV) (b.map (·+1)++[now+1])) x.length 0=K at hsub hlast hcnt2
  have hgl:(K.map qih).getLast?.map (·.Text)=x.getLast?.map (·.Text):=by
   rw [List.getLast?_map,hlast,List.getLast?_map,Option.map_map,Option.map_map]
   rfl
  refine ⟨⟨?_,?_,?_,by simp;omega⟩,by simpa using hcnt2,hgl⟩
  ·intro h0
   rw [h0] at hgl
   cases hx:x.getLast? with
   | none =>
    rw [List.getLast?_eq_none_iff] at hx
    exact hv.ne hx
   | some v=>rw [hx] at hgl;simp at hgl
  ·rw [xf,List.pairwise_map]
   have:=(xf.1 hs).sublist hsub
   exact this.imp fun h=>by simp only [qih];omega
  ·intro v hv'
   obtain ⟨u,hu,rfl⟩:=List.mem_map.1 hv'
   obtain ⟨w,hw,rfl⟩:=List.mem_map.1 (hsub.subset hu)
   have:=hv.b w hw
   refine ⟨?_,?_,this.2.2⟩
   ·show 0≤w.At+1 - 1;omega
   ·show w.At+1 - 1≤now;omega
 ·rw [if_neg c]
  exact ⟨hv,by omega,rfl⟩
section
variable {T:List TStore} {X:List Ttx} {s:Int} {S:TStore}
theorem qfr {x:List TVersion} {b:List Int} (hv:Vs S.now_ x) (hc:1 < x.length) (hb:b.length≤12) (hb2:∀ k∈b,0≤k∧k≤S.now_) (hn:0≤S.now_) (hn1:S.now_≤4611686018427387904) (g:List (List TVersion)) (i:Int) (go:List Int→Int→List (List TVersion)→Option (List TStore)) :
  vt x b S g i go big x 0=qeU g i go b (left x b S.now_):=by
 have hxn:=hv.n
 rw [left,if_pos hc]
 rw [kx (l0:=x) (F:=fun n g' i'=>vt x b S g i go n g' i') (K:=fun g'=>qeT b S g i go g') incV (by omega)
  (fun n g' hg'=>by rw [vt,qbU,if_neg (by omega)])
  (fun n g' j hj hg' hx=>by
   have hvb:=hv.b x[j] (List.getElem_mem hj)
   rw [vt,qbU,if_pos (by omega),hx,qa,qr (by omega) (by omega),qa,qa,qu hx,qa,Int.toNat_natCast];rfl)]
 rw [qeT]
 rw [kx (l0:=b) (F:=fun n g' i'=>wZ b S (x.map incV) g i go n g' i') (K:=fun g'=>qeS S (x.map incV) g i go g') (·+1) (by omega)
  (fun n g' hg'=>by rw [wZ,qbV,if_neg (by omega)])
  (fun n g' j hj hg' hx=>by
   have hvb:=hb2 b[j] (List.getElem_mem hj)
   rw [wZ,qbV,if_pos (by omega),hx,qa,qr (by omega) (by omega),qa,qa,qu hx,qa,Int.toNat_natCast])]
 have hkeep:=qhC (l:=x.map incV) (a:=b.map (·+1)) (now:=S.now_+1) (by omega) (by simp;omega) (by simp;omega) (fun k hk=>by
   obtain ⟨u,hu,rfl⟩:=List.mem_map.1 hk
   have:=hb2 u hu
   omega) (vL hv.s) (fun v hv'=>by
   obtain ⟨w,hw,rfl⟩:=List.mem_map.1 hv'
   have:=hv.b w hw
   simp only [incV]
   omega)
 have hsub:=ww (x.map incV) (vo (x.map incV) (b.map (·+1)++[S.now_+1])) x.length 0
 rw [List.length_map] at hkeep
 rw [qeS,qr (by omega) (by omega),qa,hkeep,qg]
 generalize kg (x.map incV) (vo (x.map incV) (b.map (·+1)++[S.now_+1])) x.length 0=K at hsub
 have hKl:K.length≤100:=by
  have:=hsub.length_le
  simp at this
  omega
 rw [kx (l0:=K) (F:=fun n g' i'=>w4 K (b.map (·+1)) g i go n g' i') (K:=fun g'=>qeR (b.map (·+1)) g i go g') qih (by omega)
  (fun n g' hg'=>by rw [w4,qbW,if_neg (by omega)])
  (fun n g' j hj hg' hx=>by
   have hm:K[j]∈x.map incV:=by
    have:=hsub.subset (List.getElem_mem hj)
    rwa [List.drop_zero] at this
   obtain ⟨w,hw,hwe⟩:=List.mem_map.1 hm
   have hvb:=hv.b w hw
   have hat:K[j].At=w.At+1:=by rw [← hwe];rfl
   rw [w4,qbW,if_pos (by omega),hx,qa,qr (by omega) (by omega),qa,qa,qu hx,qa,Int.toNat_natCast];rfl)]
 rw [qeR]
 rw [kx (l0:=b.map (·+1)) (F:=fun n g' i'=>w5 (b.map (·+1)) g i go (K.map qih) n g' i') (K:=fun g'=>qeQ g i go (K.map qih) g') (· - 1) (by simp;omega)
  (fun n g' hg'=>by rw [w5,qbX,if_neg (by omega)])
  (fun n g' j hj hg' hx=>by
   have hj':j < b.length:=by simpa using hj
   have hvb:=hb2 b[j] (List.getElem_mem hj')
   have hat:(b.map (·+1))[j]=b[j]+1:=by rw [List.getElem_map]
   rw [w5,qbX,if_pos (by omega),hx,qa,qr (by omega) (by omega),qa,qa,qu hx,qa,Int.toNat_natCast])]
 rw [qeQ]
 congr 1
 rw [List.map_map]
 have:((fun x:Int=>x - 1) ∘ fun x=>x+1)=id:=funext fun x=>by simp only [Function.comp_apply,id];omega
 rw [this,List.map_id]
end
end Go.Proofs.YtbjidacdnjojnaaGreatDoor
end
section
namespace Go.Proofs.YtbjidacdnjojnaaGreatDoor
open Go.S
section
variable {T:List TStore} {X:List Ttx} {s:Int} {S:TStore}
structure qg4 (S:TStore) (X:List Ttx) (a:Int):Prop where
 lg:S.logs_.length=2
 it:S.items_.length=20
 vs:∀ l∈S.items_,Vs S.now_ l
 n0:0≤S.now_
 n1:S.now_≤2513169434000
 ac:Txs X S.now_ S.active_
 a12:S.active_.length≤12
 ov:Txs X S.now_ S.over_
 ol:S.over_.length≤2513169434900
 a:∃ t,idx X a=some t
theorem qcJ (h:∀ l∈S.items_,Vs S.now_ l) (hit:S.items_.length=20) (hs:idx T s=some S) (hn0:0≤S.now_) (hn1:S.now_≤4611686018427387904) {b:List Int} (hb:b.length≤12) (hb2:∀ k∈b,0≤k∧k≤S.now_) (ac ov:List Int):∀ (r i:Nat),i+r=20→∀ n,r < n →
  w7 S T s ac ov n b (i:Int) ((S.items_.take i).map (fun x=>left x b S.now_)++S.items_.drop i)=some (T.set s.toNat ⟨S.logs_,S.half_,S.gen_,S.down_,S.now_,S.items_.map (fun x=>left x b S.now_),ac,ov⟩):=by
 intro r
 induction r with
 | zero =>
  intro i hi n hn
  obtain ⟨n,rfl⟩:=Nat.exists_eq_add_one.2 hn
  obtain rfl:i=20:=by omega
  rw [w7,qbY,if_neg (by omega),qu hs,qa,List.take_of_length_le (by omega),List.drop_eq_nil_of_le (by omega),List.append_nil]
 | succ r ih =>
  intro i hi n hn
  obtain ⟨n,rfl⟩:=Nat.exists_eq_add_one.2 (show 0 < n by omega)
  have h1:i < S.items_.length:=by omega
  have hv:=h S.items_[i] (List.getElem_mem h1)
  have hli:((S.items_.take i).map (fun x=>left x b S.now_)).length=i:=by simp;omega
  have hx:idx ((S.items_.take i).map (fun x=>left x b S.now_)++S.items_.drop i) (i:Int)=some S.items_[i]:=by
   rw [zm,List.getElem?_append_right (by omega),hli,Nat.sub_self,List.getElem?_drop,Nat.add_zero,List.getElem?_eq_getElem h1]
  have e:((S.items_.take i).map (fun x=>left x b S.now_)++S.items_.drop i).set i (left S.items_[i] b S.now_)=(S.items_.take (i+1)).map (fun x=>left x b S.now_)++S.items_.drop (i+1):=by
   rw [List.set_append_right _ _ (by omega),hli,Nat.sub_self,xc h1,List.set_cons_zero,qR h1,List.map_append,List.append_assoc]
   rfl
  rw [w7,qbY,if_pos (by omega),kW h1 hit,qa]
  by_cases c:1 < S.items_[i].length
  ·have hvn:=hv.n
   rw [if_pos (by omega),M76,qX (by simp;omega),qa,qa,List.nil_append,qfr hv c hb hb2 hn0 hn1,qeU]
   have hxA:za 20 ((S.items_.take i).map (fun x=>left x b S.now_)++S.items_.drop i) (i:Int)=some S.items_[i]:=by
    rw [za,if_pos (by omega)];exact hx
   rw [hxA,qa,qu hx,qa,qS i (by omega),qa,Int.toNat_natCast,e]
   exact ih (i+1) (by omega) n (by omega)
  ·have e2:left S.items_[i] b S.now_=S.items_[i]:=if_neg c
   rw [if_neg (by omega),qS i (by omega),qa]
   have e3:((S.items_.take i).map (fun x=>left x b S.now_)++S.items_.drop i).set i (left S.items_[i] b S.now_)=(S.items_.take i).map (fun x=>left x b S.now_)++S.items_.drop i:=by
    rw [e2]
    have:=qP hx
    rwa [Int.toNat_natCast] at this
   rw [← e3,e]
   exact ih (i+1) (by omega) n (by omega)
theorem qcP {L:List Int} (hL:Txs X S.now_ L) (hl:L.length≤1000):∀ (r i:Nat),i+r=L.length→∀ n,r < n→∀ (b:List Int) (f:Int),b.length≤i→(∀ k∈b,0≤k∧k≤S.now_)→∃ b' f',wW L X S T s n b (i:Int) f=qcY S X T s L b' f'∧b'.length≤L.length∧∀ k∈b',0≤k∧k≤S.now_:=by
 intro r
 induction r with
 | zero =>
  intro i hi n hn b f hb hb2
  obtain ⟨n,rfl⟩:=Nat.exists_eq_add_one.2 hn
  exact ⟨b,f,by rw [wW,qbR,if_neg (by omega)],by omega,hb2⟩
 | succ r ih =>
  intro i hi n hn b f hb hb2
  obtain ⟨n,rfl⟩:=Nat.exists_eq_add_one.2 (show 0 < n by omega)
  have h1:i < L.length:=by omega
  obtain ⟨t,ht,hk⟩:=hL L[i] (List.getElem_mem h1)
  rw [wW,qbR,if_pos (by omega),qM h1,qa,ht,qa,qX (by simp;omega),qa,qS i (by omega),qa]
  refine ih (i+1) (by omega) n (by omega) _ _ (by simp;omega) fun k hk2=>?_
  rcases List.mem_append.1 hk2 with hk2 | hk2
  ·exact hb2 k hk2
  ·rw [List.mem_singleton.1 hk2]
   exact ⟨hk.f0,hk.f1⟩
def qg9 (X:List Ttx) (x:Int):Ttx:=X.getD x.toNat default
theorem jA {x:Int} {t:Ttx} (h:idx X x=some t):qg9 X x=t:=by
 obtain ⟨h0,h1,h2⟩:=qm h
 unfold qg9
 rw [List.getD_eq_getElem?_getD,h2];rfl
theorem qhn {L:List Int} {b:List Int} {f:Int} (h:Txs X S.now_ S.over_) (hol:S.over_.length≤2513169434900):qcY S X T s L b f=qaW S T s L b (S.over_.filter fun x=>!(decide ((qg9 X x).at_≤f))):=by
 rw [qcY]
 refine qev (F1:=fun n i=>wX S X T s L b f n i) (F:=fun n l i j=>wY X f S T s L b n l i j) (z:=-1) (by omega) (K:=fun l=>qaW S T s L b l) ?_ ?_ ?_ ?_
 ·intro n l i hl
  simp only [wY,qbT]
  rw [if_neg (by omega),qb6]
 ·intro n l i j hj hl hm
  obtain ⟨t,ht,_⟩:=h _ hm
  simp only [wY,qbT]
  rw [if_pos (by omega),qM hj,qa,ht,qa,qb5,jA ht]
  by_cases c:t.at_≤f
  ·rw [if_pos (by simpa using c),if_neg (by simpa using c)]
  ·rw [if_neg (by simpa using c),if_pos (by simpa using c)]
 ·intro n
  simp only [wX,qbS]
  rw [if_neg (by omega),qb4,qcX,if_pos rfl]
 ·intro n i hi
  obtain ⟨t,ht,_⟩:=h _ (List.getElem_mem hi)
  simp only [wX,qbS]
  rw [if_pos (by omega),qM hi,qa,ht,qa,qb3,jA ht]
  by_cases c:t.at_≤f
  ·rw [if_pos (by simpa using c),if_neg (by simpa using c),qcX,if_neg (by omega)]
  ·rw [if_neg (by simpa using c),if_pos (by simpa using c)]
theorem qaR (hs:idx T s=some S) {a:Int} (h:qg4 S X a):∃ b p,b.length≤12∧M33 s a T X=some (T.set s.toNat ⟨S.logs_,S.half_,S.gen_,S.down_,S.now_,S.items_.map (fun x=>left x b S.now_),S.active_.filter (fun x=>!(decide (x=a))),S.over_.filter p⟩):=by
 obtain ⟨u,hu⟩:=h.a
 have hn0:=h.n0
 have hn1:=h.n1
 have ha12:=h.a12
 have hfl:=List.length_filter_le (fun x=>!(decide (x=a))) S.active_
 have hac:Txs X S.now_ (S.active_.filter fun x=>!(decide (x=a))):=fun x hx=>h.ac x (List.mem_filter.1 hx).1
 obtain ⟨b,f,g1,g2,g3⟩:=qcP (T:=T) (s:=s) hac (by omega) (S.active_.filter fun x=>!(decide (x=a))).length 0 (by omega) big (by rw [qy];omega) [] S.now_ (by simp) (by simp)
 refine ⟨b,fun x=>!(decide ((qg9 X x).at_≤f)),by omega,?_⟩
 have e1:M33 s a T X=qaX X S T s (S.active_.filter fun x=>!(decide (x=a))):=by
  rw [M33,hs,qa,qs h.lg,qa,qs h.it,qa]
  refine qev (F1:=fun n i=>jx S X a T s n i) (F:=fun n l i j=>wV X a S T s n l i j) (z:=-1) (by omega) (K:=fun l=>qaX X S T s l) ?_ ?_ ?_ ?_
  ·intro n l i hl
   simp only [wV,qbQ]
   rw [if_neg (by omega),qb2]
  ·intro n l i j hj hl hm
   obtain ⟨t,ht,_⟩:=h.ac _ hm
   simp only [wV,qbQ]
   rw [if_pos (by omega),qM hj,qa,ht,qa,hu,qa,qb1]
  ·intro n
   simp only [jx,w6]
   rw [if_neg (by omega),qb0,wa,if_pos rfl]
  ·intro n i hi
   obtain ⟨t,ht,_⟩:=h.ac _ (List.getElem_mem hi)
   simp only [jx,w6]
   rw [if_pos (by omega),qM hi,qa,ht,qa,hu,qa,qbZ]
   by_cases c:S.active_[i]=a
   ·rw [if_pos (by simpa using c),if_neg (by simpa using c),wa,if_neg (by omega)]
   ·rw [if_neg (by simpa using c),if_pos (by simpa using c)]
 rw [e1,qaX]
 rw [show ((0:Nat):Int)=0 from rfl] at g1
 rw [g1,qhn h.ov h.ol,qaW]
 have:=qcJ h.vs h.it hs hn0 (by omega) (b:=b) (by omega) g3 (S.active_.filter fun x=>!(decide (x=a))) (S.over_.filter fun x=>!(decide ((qg9 X x).at_≤f))) 20 0 (by omega) big (by rw [qy];omega)
 simpa using this
end
end Go.Proofs.YtbjidacdnjojnaaGreatDoor
end
section
namespace Go.Proofs.YtbjidacdnjojnaaGreatDoor
open Go.S
theorem qe9 {l:List Int} (h:l.length < 4611686018427387904):qcn l=some (srt l):=if_pos h
theorem wg {l:List Int} {x:Int}:x∈srt l↔x∈l:=by unfold srt;exact List.mem_mergeSort
theorem qa7 (f:Int→List UInt8):∀ (ks:List Int) (v:SS) (i:Nat),(∀ k∈ks,0≤k∧k < v.length)→i < v.length→(xg v (ks.map fun k=>(k,f k)))[i]?=if (i:Int)∈ks then some (f i) else v[i]?
 | [],v,i,_,_=>by simp [xg]
 | k :: ks,v,i,h,hi=>by
  have hk:=h k List.mem_cons_self
  have ih:=qa7 f ks (v.set k.toNat (f k)) i (fun q hq=>by simpa using h q (List.mem_cons_of_mem _ hq)) (by simpa using hi)
  have e:xg v ((k :: ks).map fun k=>(k,f k))=xg (v.set k.toNat (f k)) (ks.map fun k=>(k,f k)):=rfl
  rw [e,ih]
  by_cases c:(i:Int)∈ks
  ·rw [if_pos c,if_pos (List.mem_cons_of_mem _ c)]
  ·rw [if_neg c]
   by_cases c2:(i:Int)=k
   ·rw [if_pos (by rw [c2];exact List.mem_cons_self),show k.toNat=i by omega,List.getElem?_set_self hi,c2]
   ·rw [if_neg (by simp [c,c2]),List.getElem?_set_ne (by omega)]
structure Ap (v:SS) (t:Ttx) (v':SS):Prop where
 l:v'.length=20
 h:∀ i:Nat,i < 20→v'[i]?=if (i:Int)∈t.writes_ then t.texts_[i]? else v[i]?
theorem Ap.eq {v a b:SS} {t:Ttx} (h1:Ap v t a) (h2:Ap v t b):a=b:=by
 have:=h1.l
 have:=h2.l
 apply List.ext_getElem?
 intro i
 by_cases c:i < 20
 ·rw [h1.h i c,h2.h i c]
 ·rw [List.getElem?_eq_none (by omega),List.getElem?_eq_none (by omega)]
def zk (t:Ttx) (k:Int):List UInt8:=t.texts_.getD k.toNat []
theorem zj {t:Ttx} {now k:Int} (h:TxOk now t) (h0:0≤k) (h1:k < 20):za 20 t.texts_ k=some (zk t k)∧(zk t k).length≤20∧t.texts_[k.toNat]?=some (zk t k):=by
 have h20:=h.t20
 have hl:k.toNat < t.texts_.length:=by omega
 have e:t.texts_[k.toNat]?=some (zk t k):=by
  rw [zk,List.getD_eq_getElem?_getD,List.getElem?_eq_getElem hl];rfl
 refine ⟨?_,h.tl _ (List.mem_of_getElem? e),e⟩
 rw [za,if_pos (by omega),idx,if_pos h0,e]
theorem qj3 {t:Ttx} {now:Int} {v:SS} (h:TxOk now t) (hv:v.length=20):Ap v t (xg v ((srt t.writes_).map fun k=>(k,zk t k))):=by
 refine ⟨by rw [xI,hv],fun i hi=>?_⟩
 rw [qa7 (zk t) (srt t.writes_) v i (fun k hk=>by have:=h.w.2.2 k (wg.1 hk);omega) (by omega)]
 have e:=(zj h (k:=(i:Int)) (by omega) (by omega)).2.2
 by_cases c:(i:Int)∈t.writes_
 ·rw [if_pos (wg.2 c),if_pos c]
  rw [Int.toNat_natCast] at e
  exact e.symm
 ·rw [if_neg (fun h=>c (wg.1 h)),if_neg c]
def yo (t:Ttx) (ks:List Int):Pairs:=ks.map fun k=>(k,zk t k)
theorem qhj (a b:Pairs):prs (a++b)=prs a++prs b:=by simp [prs,List.flatMap_append]
section
variable {T:List TStore} {X:List Ttx} {s a:Int} {S:TStore} {D:List TDisk} {G:List TLog} {t:Ttx}
theorem qd3 (ha:idx X a=some t) (ht:TxOk S.now_ t) {L:List Int} (hL:∀ k∈L,0≤k∧k < 20) (hl:L.length≤20):∀ (r i:Nat),i+r=L.length→∀ n,r < n→wU L X a T s D G n (67 :: prs (yo t (L.take i))) (i:Int)=qeP T s D G (67 :: prs (yo t L)):=by
 have hps:∀ ks:List Int,(∀ k∈ks,0≤k∧k < 20)→∀ p∈yo t ks,zU p:=fun ks hk p hp=>by
  obtain ⟨k,hk1,rfl⟩:=List.mem_map.1 hp
  have:=hk k hk1
  exact ⟨this.1,this.2,(zj ht this.1 this.2).2.1⟩
 intro r
 induction r with
 | zero =>
  intro i hi n hn
  obtain ⟨n,rfl⟩:=Nat.exists_eq_add_one.2 hn
  rw [wU,qbP,if_neg (by omega),List.take_of_length_le (by omega)]
 | succ r ih =>
  intro i hi n hn
  obtain ⟨n,rfl⟩:=Nat.exists_eq_add_one.2 (show 0 < n by omega)
  have h1:i < L.length:=by omega
  have hk:=hL L[i] (List.getElem_mem h1)
  have hpk:=hps [L[i]] (fun k hk2=>by rw [List.mem_singleton.1 hk2];exact hk) (L[i],zk t L[i]) (by simp [yo])
  have hl1:=wq (hps (L.take i) fun k hk2=>hL k (List.mem_of_mem_take hk2))
  have hl2:=vF hpk
  have hl3:(yo t (L.take i)).length≤20:=by simp [yo];omega
  rw [wU,qbP,if_pos (by omega),qM h1,qa,ha,qa,(zj ht hk.1 hk.2).1,qa,kK hpk,qa,qV (by simp at hl2 ⊢;omega),qa,qS i (by omega),qa]
  have e:(67 :: prs (yo t (L.take i)):List UInt8)++pr L[i] (zk t L[i])=67 :: prs (yo t (L.take (i+1))):=by
   have e2:yo t (L.take i++[L[i]])=yo t (L.take i)++[(L[i],zk t L[i])]:=List.map_append
   have e3:prs [(L[i],zk t L[i])]=pr L[i] (zk t L[i]):=by simp [prs]
   rw [qR h1,e2,qhj,e3,List.cons_append]
  rw [e]
  exact ih (i+1) (by omega) n (by omega)
theorem jP (hs:idx T s=some S) (hlg:S.logs_.length=2) (e:Int):M25 s e T=some (T.set s.toNat ⟨S.logs_,S.half_,S.gen_,S.down_ || decide (e≠0),S.now_,S.items_,S.active_,S.over_⟩,e):=by
 rw [M25,hs,qa,qs hlg,qa]
 cases h:S.down_ with
 | true=>rw [if_pos rfl,qu hs,qa];rfl
 | false=>rw [if_neg (by simp),qu hs,qa];simp
theorem qep (hs:idx T s=some S) (hlg:S.logs_.length=2) (hd:S.down_=false):M25 s 0 T=some (T,0):=by
 rw [jP hs hlg]
 have:(⟨S.logs_,S.half_,S.gen_,S.down_ || decide ((0:Int)≠0),S.now_,S.items_,S.active_,S.over_⟩:TStore)=S:=by
  obtain ⟨x1,x2,x3,x4,x5,x6,x7,x8⟩:=S
  simp only at hd
  subst hd;rfl
 rw [this,qP hs]
variable {N z:Nat} {p:Int} {d:TDisk} {gc go:Int} {lc lo:TLog} {tc to_:SS} {sure:SS} {P:qn→Prop}
theorem qhB (hs:idx T s=some S) (hlg:S.logs_.length=2) (hd:S.down_=false) (hgc:za 2 S.logs_ S.half_=some gc) (ha:idx X a=some t) (ht:TxOk S.now_ t) (hsl:sure.length=20) (hD:Duo N z D G p d S.half_ gc go lc lo tc to_ S.gen_ sure P) (hleft:d.left_=-1) :
  (∃ e,M34 s a D T X G=some (D,T,G,e)∧(e=2∨e=8)) ∨
  ∃ D' G' d' lc' tc' sure',M34 s a D T X G=some (D',T,G',0)∧Ap sure t sure'∧d'.left_=-1∧D'.length=D.length∧G'.length=G.length∧(∀ x∈G',x.d_∈G.map (·.d_))∧Duo N z D' G' p d' S.half_ gc go lc' lo tc' to_ S.gen_ sure' P:=by
 rw [M34,hs,qa,ha,qa]
 by_cases c:(t.writes_.length:Int)=0
 ·right
  rw [if_pos c]
  refine ⟨D,G,d,lc,tc,sure,rfl,⟨hsl,fun i hi=>?_⟩,hleft,rfl,rfl,fun x hx=>List.mem_map.2 ⟨x,hx,rfl⟩,hD⟩
  have:t.writes_=[]:=List.eq_nil_of_length_eq_zero (by omega)
  rw [if_neg (by rw [this];simp)]
 ·have hw:=ht.w
  have hsl2:=jD t.writes_
  have hLk:∀ k∈srt t.writes_,0≤k∧k < 20:=fun k hk=>hw.2.2 k (wg.1 hk)
  have hloop:=qd3 (T:=T) (D:=D) (G:=G) (s:=s) ha ht hLk (by omega) (srt t.writes_).length 0 (by omega) big (by rw [qy];omega)
  have e0:(67 :: prs (yo t ((srt t.writes_).take 0)):List UInt8)=[67]:=by simp [yo,prs]
  rw [e0,show ((0:Nat):Int)=0 from rfl] at hloop
  rw [if_neg c,M57,qX (by simp;omega),qa,qa,List.nil_append,qe9 (by omega),qa,hloop,qeP,hs,qa,qs hlg,qa,hgc,qa]
  have hpo:∀ q∈yo t (srt t.writes_),zU q:=fun q hq=>by
   obtain ⟨k,hk1,rfl⟩:=List.mem_map.1 hq
   have:=hLk k hk1
   exact ⟨this.1,this.2,(zj ht this.1 this.2).2.1⟩
  by_cases cl:(67 :: prs (yo t (srt t.writes_)):List UInt8).length≤300
  ·have himg:Img (tc++[67 :: prs (yo t (srt t.writes_))]) ⟨S.gen_,true,xg sure (yo t (srt t.writes_))⟩:=.put hD.ic hpo (by simp [yo];omega)
   rcases hD.commit hleft cl himg with g | ⟨D1,G1,D2,d2,lc2,g1,g2,g3,g4,g5,g6,g7,g8⟩
   ·left
    rw [g,ql,if_neg (by decide),if_neg (by decide),if_pos rfl]
    exact ⟨8,rfl,.inr rfl⟩
   ·right
    rw [g1,ql,if_pos rfl,g2,ql,qep hs hlg hd,qg,hs,qa]
    refine ⟨D2,G1,d2,lc2,_,_,rfl,qj3 ht hsl,g3,g4,by rw [g5];simp,fun x hx=>?_,g8⟩
    rw [g5] at hx
    rcases List.mem_or_eq_of_mem_set hx with hx | rfl
    ·exact List.mem_map.2 ⟨x,hx,rfl⟩
    ·exact List.mem_map.2 ⟨lc,zW hD.hgc,g6.symm⟩
  ·left
   obtain ⟨mc,Rc,hc,_⟩:=hD.c
   have g:M27 gc (67 :: prs (yo t (srt t.writes_))) D G=some (D,G,2):=by
    rw [M27,hD.hgc,qa,if_neg (by simp [hc.fell]),if_pos (by omega)]
   rw [g,ql,if_neg (by decide),if_pos rfl]
   exact ⟨2,rfl,.inl rfl⟩
end
end Go.Proofs.YtbjidacdnjojnaaGreatDoor
end
section
namespace Go.Proofs.YtbjidacdnjojnaaGreatDoor
open Go.S
def xb (l:List TVersion):List UInt8:=(l.getLast?.map (·.Text)).getD []
def VOk (S:TStore) (sure:SS):Prop:=sure=S.items_.map xb
def Sm (S:TStore):Prop:=∀ l∈S.items_,l.length≤13
theorem qd0 {x:List TVersion} {b:List Int} {now:Int} (hv:Vs now x) (hb:b.length≤12) (hn:0≤now):xb (left x b now)=xb x:=by
 unfold xb
 rw [(qaL hv hb hn).2.2]
theorem TxOk.mono {now now':Int} {t:Ttx} (h:TxOk now t) (hn:now≤now'):TxOk now' t:=⟨h.i0,h.i1,h.f0,Int.le_trans h.f1 hn,h.r,h.w,h.t20,h.tl⟩
structure Same (t u:Ttx):Prop where
 i:u.id_=t.id_
 f:u.from_=t.from_
 r:u.reads_=t.reads_
 w:u.writes_=t.writes_
 x:u.texts_=t.texts_
theorem Same.refl (t:Ttx):Same t t:=⟨rfl,rfl,rfl,rfl,rfl⟩
theorem Same.trans {t u v:Ttx} (h:Same t u) (h2:Same u v):Same t v:=⟨h2.i.trans h.i,h2.f.trans h.f,h2.r.trans h.r,h2.w.trans h.w,h2.x.trans h.x⟩
theorem Same.ok {t u:Ttx} {now:Int} (h:Same t u) (ht:TxOk now t):TxOk now u:=⟨by rw [h.i];exact ht.i0,by rw [h.i];exact ht.i1,by rw [h.f];exact ht.f0,by rw [h.f];exact ht.f1,by rw [h.r];exact ht.r,by rw [h.w];exact ht.w,by rw [h.x];exact ht.t20,by rw [h.x];exact ht.tl⟩
structure Like (X X':List Ttx):Prop where
 l:X'.length=X.length
 h:∀ x t,idx X x=some t→∃ u,idx X' x=some u∧Same t u
theorem Like.refl (X:List Ttx):Like X X:=⟨rfl,fun x t h=>⟨t,h,.refl t⟩⟩
theorem Like.trans {X Y Z:List Ttx} (h:Like X Y) (h2:Like Y Z):Like X Z:=⟨h2.l.trans h.l,fun x t hx=>by
 obtain ⟨u,g1,g2⟩:=h.h x t hx
 obtain ⟨v,g3,g4⟩:=h2.h x u g1
 exact ⟨v,g3,g2.trans g4⟩⟩
theorem Like.set {X:List Ttx} {a:Int} {t u:Ttx} (h:idx X a=some t) (hs:Same t u):Like X (X.set a.toNat u):=⟨by simp,fun x v hx=>by
 by_cases c:x=a
 ·subst c
  rw [h,Option.some.injEq] at hx
  exact ⟨u,qp h,by rw [← hx];exact hs⟩
 ·exact ⟨v,kV hx (qm h).1 fun e=>c e.symm,.refl v⟩⟩
theorem Like.txs {X X':List Ttx} {now now':Int} {l:List Int} (h:Like X X') (hn:now≤now') (hl:Txs X now l):Txs X' now' l:=fun x hx=>by
 obtain ⟨t,h1,h2⟩:=hl x hx
 obtain ⟨u,h3,h4⟩:=h.h x t h1
 exact ⟨u,h3,h4.ok (h2.mono hn)⟩
section
variable {T:List TStore} {X:List Ttx} {s a:Int} {S:TStore} {D:List TDisk} {G:List TLog} {t:Ttx}
def dropped (S:TStore) (a:Int) (b:List Int) (p:Int→Bool):TStore:=⟨S.logs_,S.half_,S.gen_,S.down_,S.now_,S.items_.map (fun x=>left x b S.now_),S.active_.filter (fun x=>!(decide (x=a))),S.over_.filter p⟩
theorem vT {b:List Int} {p:Int→Bool} (hb:b.length≤12) (lg:S.logs_.length=2) (it:S.items_.length=20) (vs:∀ l∈S.items_,Vs S.now_ l) (n0:0≤S.now_) (n1:S.now_≤2513169434000) (ac:Txs X S.now_ S.active_) (a12:S.active_.length≤12) (an:S.active_.Nodup)
  (ai:∀ x∈S.active_,∀ y∈S.active_,∀ t u,idx X x=some t→idx X y=some u→t.id_=u.id_→x=y) (ov:Txs X S.now_ S.over_) (ol:(S.over_.length:Int)≤S.now_) (ao:∀ x∈S.active_,x≠a→x ∉ S.over_) {sure:SS} (hv:VOk S sure) :
  StOk (dropped S a b p) X∧Sm (dropped S a b p)∧VOk (dropped S a b p) sure:=by
 have hf:=List.length_filter_le (fun x=>!(decide (x=a))) S.active_
 have hf2:=List.length_filter_le p S.over_
 have hm:∀ x∈S.active_.filter (fun x=>!(decide (x=a))),x∈S.active_∧x≠a:=fun x hx=>by
  have:=List.mem_filter.1 hx
  simpa using this
 refine ⟨⟨lg,by simpa [dropped] using it,fun l hl=>?_,n0,n1,fun x hx=>ac x (hm x hx).1,Nat.le_trans hf a12,an.filter _,fun x hx y hy=>ai x (hm x hx).1 y (hm y hy).1,fun x hx=>ov x (List.mem_filter.1 hx).1,?_,fun x hx h=>ao x (hm x hx).1 (hm x hx).2 (List.mem_filter.1 h).1⟩,fun l hl=>?_,?_⟩
 ·obtain ⟨x,hx,rfl⟩:=List.mem_map.1 hl
  exact (qaL (vs x hx) hb n0).1
 ·show ((S.over_.filter p).length:Int)≤S.now_
  omega
 ·obtain ⟨x,hx,rfl⟩:=List.mem_map.1 hl
  exact (qaL (vs x hx) hb n0).2.1
 ·unfold VOk at hv ⊢
  rw [hv]
  show _=(S.items_.map (fun x=>left x b S.now_)).map xb
  rw [List.map_map]
  apply List.map_congr_left
  intro x hx
  exact (qd0 (vs x hx) hb n0).symm
theorem qdI {Y:List Ttx} (hXY:Like X Y) {now:Int} {L:List Int} (hL:Txs X now L) (hl:L.length≤4611686018427387904) (ha:∃ t,idx X a=some t∧TxOk now t):∀ (r i:Nat),i+r=L.length→∀ n,r < n→∀ Z,Like X Z→∃ Z',Like X Z'∧yg L a s D G T n (i:Int) Z=qe1 a s D G T Z':=by
 intro r
 induction r with
 | zero =>
  intro i hi n hn Z hZ
  obtain ⟨n,rfl⟩:=Nat.exists_eq_add_one.2 hn
  exact ⟨Z,hZ,by rw [yg,qcg,if_neg (by omega)]⟩
 | succ r ih =>
  intro i hi n hn Z hZ
  obtain ⟨n,rfl⟩:=Nat.exists_eq_add_one.2 (show 0 < n by omega)
  have h1:i < L.length:=by omega
  obtain ⟨y,hy1,hy2⟩:=hL L[i] (List.getElem_mem h1)
  obtain ⟨y',hy3,hy4⟩:=hZ.h _ _ hy1
  obtain ⟨t,ht1,ht2⟩:=ha
  have hZ1:Like Z (Z.set (L[i]).toNat ⟨y'.id_,y'.from_,y'.at_,y'.reads_,y'.writes_,y'.texts_,y'.in_,true⟩):=.set hy3 ⟨rfl,rfl,rfl,rfl,rfl⟩
  obtain ⟨t',ht3,ht4⟩:=(hZ.trans hZ1).h _ _ ht1
  rw [yg,qcg,if_pos (by omega),qM h1,qa,hy3,qa,qs (hy4.ok hy2).t20,qa,qu hy3,qa,ht3,qa,qs (ht4.ok ht2).t20,qa,qS i (by omega),qa,qu ht3,qa]
  exact ih (i+1) (by omega) n (by omega) _ ((hZ.trans hZ1).trans (.set ht3 ⟨rfl,rfl,rfl,rfl,rfl⟩))
theorem qfG {now:Int} {L L2:List Int} (hL:Txs X now L) (hl:L.length≤4611686018427387904) (ha:∃ t,idx X a=some t∧TxOk now t):∀ (r i:Nat),i+r=L.length→∀ n,r < n→∀ Z,Like X Z→∃ Z',Like X Z'∧yf L a L2 s D G T n (i:Int) Z=qe2 L2 a s D G T Z':=by
 intro r
 induction r with
 | zero =>
  intro i hi n hn Z hZ
  obtain ⟨n,rfl⟩:=Nat.exists_eq_add_one.2 hn
  exact ⟨Z,hZ,by rw [yf,qcf,if_neg (by omega)]⟩
 | succ r ih =>
  intro i hi n hn Z hZ
  obtain ⟨n,rfl⟩:=Nat.exists_eq_add_one.2 (show 0 < n by omega)
  have h1:i < L.length:=by omega
  obtain ⟨y,hy1,hy2⟩:=hL L[i] (List.getElem_mem h1)
  obtain ⟨y',hy3,hy4⟩:=hZ.h _ _ hy1
  obtain ⟨t,ht1,ht2⟩:=ha
  have hZ1:Like Z (Z.set (L[i]).toNat ⟨y'.id_,y'.from_,y'.at_,y'.reads_,y'.writes_,y'.texts_,true,y'.out_⟩):=.set hy3 ⟨rfl,rfl,rfl,rfl,rfl⟩
  obtain ⟨t',ht3,ht4⟩:=(hZ.trans hZ1).h _ _ ht1
  rw [yf,qcf,if_pos (by omega),qM h1,qa,hy3,qa,qs (hy4.ok hy2).t20,qa,qu hy3,qa,ht3,qa,qs (ht4.ok ht2).t20,qa,qS i (by omega),qa,qu ht3,qa]
  exact ih (i+1) (by omega) n (by omega) _ ((hZ.trans hZ1).trans (.set ht3 ⟨rfl,rfl,rfl,rfl,rfl⟩))
def zx (S:TStore) (I:List (List TVersion)):TStore:=⟨S.logs_,S.half_,S.gen_,S.down_,S.now_,I,S.active_,S.over_⟩
theorem qdk {now:Int} (ht:TxOk now t) (hlg:S.logs_.length=2) (hs:idx T s=some S):∀ (r i:Nat),i+r=t.writes_.length→∀ n,r < n→∀ I:List (List TVersion),I.length=20→(∀ l∈I,l.length≤1000) →
  (∀ k:Nat,k < 20→I[k]?=if (k:Int)∈t.writes_.take i then S.items_[k]?.map (·++[⟨S.now_,zk t k⟩]) else S.items_[k]?)→(∀ l∈S.items_,l.length≤100) →
  ∃ I':List (List TVersion),I'.length=20∧(∀ k:Nat,k < 20→I'[k]?=if (k:Int)∈t.writes_ then S.items_[k]?.map (·++[⟨S.now_,zk t k⟩]) else S.items_[k]?) ∧
  yh t s a X D G n (i:Int) (T.set s.toNat (zx S I))=qe0 s a X D G (T.set s.toNat (zx S I')):=by
 have hw:=ht.w
 intro r
 induction r with
 | zero =>
  intro i hi n hn I hI hI2 hI3 hS
  obtain ⟨n,rfl⟩:=Nat.exists_eq_add_one.2 hn
  refine ⟨I,hI,fun k hk=>?_,by rw [yh,qch,if_neg (by omega)]⟩
  rw [hI3 k hk,List.take_of_length_le (by omega)]
 | succ r ih =>
  intro i hi n hn I hI hI2 hI3 hS
  obtain ⟨n,rfl⟩:=Nat.exists_eq_add_one.2 (show 0 < n by omega)
  have h1:i < t.writes_.length:=by omega
  have hk:=hw.2.2 t.writes_[i] (List.getElem_mem h1)
  obtain ⟨x,hx1,hx2⟩:=jL hI hk.1 hk.2
  have hxl:=hI2 x (zW hx2)
  have hsI:idx (T.set s.toNat (zx S I)) s=some (zx S I):=qp hs
  have hsI2:=hsI
  simp only [zx] at hsI2
  rw [yh,qch,if_pos (by omega),qM h1,qa,hsI,qa]
  simp only [zx]
  rw [hx1,qa,qs hlg,qa,(zj ht hk.1 hk.2).1,qa,qX (by simp;omega),qa,qa,qu hx2,qa,qS i (by omega),qa,qu hsI2,qa,qD]
  have hnot:t.writes_[i] ∉ t.writes_.take i:=by
   intro hm
   obtain ⟨q,hq,he⟩:=List.getElem_of_mem hm
   rw [List.length_take] at hq
   rw [List.getElem_take] at he
   exact List.pairwise_iff_getElem.1 hw.2.1 q i (by omega) h1 (by omega) he
  have hIk:I[(t.writes_[i]).toNat]?=some x:=(qm hx2).2.2
  have hSk:S.items_[(t.writes_[i]).toNat]?=some x:=by
   have:=hI3 (t.writes_[i]).toNat (by omega)
   rw [if_neg (by rw [Int.toNat_of_nonneg hk.1];exact hnot),hIk] at this
   exact this.symm
  have hx100:=hS x (List.mem_of_getElem? hSk)
  refine ih (i+1) (by omega) n (by omega) (I.set (t.writes_[i]).toNat (x++[⟨S.now_,zk t t.writes_[i]⟩])) (by simpa using hI) (fun l hl=>?_) (fun k hk2=>?_) hS
  ·rcases List.mem_or_eq_of_mem_set hl with h | rfl
   ·exact hI2 l h
   ·simp;omega
  ·rw [qR h1]
   by_cases c:(k:Int)=t.writes_[i]
   ·have hkn:(t.writes_[i]).toNat=k:=by omega
    rw [hkn] at hSk
    rw [if_pos (List.mem_append_right _ (List.mem_singleton.2 c)),hkn,List.getElem?_set_self (by omega),hSk,Option.map_some,c]
   ·rw [List.getElem?_set_ne (by omega),hI3 k hk2]
    by_cases c2:(k:Int)∈t.writes_.take i
    ·rw [if_pos c2,if_pos (List.mem_append_left _ c2)]
    ·rw [if_neg c2,if_neg fun h=>(List.mem_append.1 h).elim c2 fun h=>c (List.mem_singleton.1 h)]
end
end Go.Proofs.YtbjidacdnjojnaaGreatDoor
end
section
namespace Go.Proofs.YtbjidacdnjojnaaGreatDoor
open Go.S
theorem Vs.mono {now now':Int} {l:List TVersion} (h:Vs now l) (hn:now≤now'):Vs now' l:=⟨h.ne,h.s,fun v hv=>by have:=h.b v hv;exact ⟨this.1,by omega,this.2.2⟩,h.n⟩
theorem Vs.snoc {now:Int} {l:List TVersion} (h:Vs now l) (h0:0≤now) (hl:l.length≤13) {x:List UInt8} (hx:x.length≤20):Vs (now+1) (l++[⟨now+1,x⟩]):=by
 refine ⟨by simp,?_,fun v hv=>?_,by simp;omega⟩
 ·rw [xf,List.pairwise_append]
  refine ⟨xf.1 h.s,by simp,fun a ha b hb=>?_⟩
  have:=h.b a ha
  rw [List.mem_singleton.1 hb]
  show a.At < now+1
  omega
 ·rcases List.mem_append.1 hv with hv | hv
  ·have:=h.b v hv
   exact ⟨this.1,by omega,this.2.2⟩
  ·rw [List.mem_singleton.1 hv]
   exact ⟨by show 0≤now+1;omega,by show now+1≤now+1;omega,hx⟩
theorem qcI (l:List TVersion) (v:TVersion):xb (l++[v])=v.Text:=by simp [xb]
section
variable {T:List TStore} {X:List Ttx} {s:Int} {S:TStore} {D:List TDisk} {G:List TLog}
variable {N z:Nat} {p:Int} {d:TDisk} {gc go:Int} {lc lo:TLog} {tc to_:SS} {sure:SS} {P:qn→Prop}
theorem StOk.drop (h:StOk S X) {a:Int} (ha:a∈S.active_):qg4 S X a:=by
 have h1:=h.ol
 have h2:=h.n1
 obtain ⟨t,ht,_⟩:=h.ac a ha
 exact ⟨h.lg,h.it,h.vs,h.n0,h.n1,h.ac,h.a12,h.ov,by omega,t,ht⟩
theorem StOk.dropped (h:StOk S X) {a:Int} {b:List Int} {q:Int→Bool} (hb:b.length≤12) (hv:VOk S sure):StOk (dropped S a b q) X∧Sm (dropped S a b q)∧VOk (dropped S a b q) sure :=
 vT hb h.lg h.it h.vs h.n0 h.n1 h.ac h.a12 h.an h.ai h.ov h.ol (fun x hx _=>h.ao x hx) hv
theorem qf2 (hs:idx T s=some S) (h:StOk S X) (hv:VOk S sure) (id:Int) :
  (∃ e,M19 s id T X=some (T,e)∧e≠0) ∨
  ∃ a b q,a∈S.active_∧M19 s id T X=some (T.set s.toNat (dropped S a b q),0)∧StOk (dropped S a b q) X∧Sm (dropped S a b q)∧VOk (dropped S a b q) sure:=by
 obtain ⟨k,e,g1,g2⟩:=qfY hs h id 0
 rw [M19,hs,qa,g1,qg,qa]
 rcases g2 with ⟨rfl,hd,hk0,hk,_,_,t,ht,hid⟩ | g2
 ·right
  obtain ⟨b,q,hb,g3⟩:=qaR hs (h.drop hk)
  rw [if_pos rfl,g3,qa,qp hs,qa]
  exact ⟨k,b,q,hk,rfl,h.dropped hb hv⟩
 ·left
  have he:e≠0:=by omega
  rw [if_neg he]
  exact ⟨e,rfl,he⟩
def Quiet (e:Int):Prop:=e=13∨e=1∨e=6∨e=2∨e=8
theorem qez (hs:idx T s=some S) (h:StOk S X) (hv:VOk S sure) (hsm:Sm S) (hn:S.now_ < 2513169434000) (hgc:za 2 S.logs_ S.half_=some gc) (hD:Duo N z D G p d S.half_ gc go lc lo tc to_ S.gen_ sure P) (hleft:d.left_=-1) (id:Int) :
  (∃ e,M16 s id D T X G=some (D,T,X,G,e)∧Quiet e∧(e=13→S.down_=true)) ∨
  (∃ a b q,a∈S.active_∧M16 s id D T X G=some (D,T.set s.toNat (dropped S a b q),X,G,12)∧StOk (dropped S a b q) X∧Sm (dropped S a b q)∧VOk (dropped S a b q) sure) ∨
  (∃ a t D' S' X' G' d' lc' tc' sure',a∈S.active_∧idx X a=some t∧t.id_=id∧M16 s id D T X G=some (D',T.set s.toNat S',X',G',0)∧S'.logs_=S.logs_∧S'.half_=S.half_∧S'.gen_=S.gen_∧S'.down_=S.down_∧S'.now_=S.now_+1∧S'.active_=S.active_.filter (fun x=>!(decide (x=a)))∧(∀ x∈S'.over_,x∈S.over_∨x=a) ∧
   StOk S' X'∧Sm S'∧VOk S' sure'∧Like X X'∧Ap sure t sure'∧d'.left_=-1∧D'.length=D.length∧G'.length=G.length∧(∀ x∈G',x.d_∈G.map (·.d_))∧Duo N z D' G' p d' S.half_ gc go lc' lo tc' to_ S.gen_ sure' P):=by
 obtain ⟨a,e,g1,g2⟩:=qfY hs h id 0
 rw [M16,hs,qa,g1,qg,qa]
 rcases g2 with ⟨rfl,hd,hk0,hk,_,_,t,ht,hid⟩ | g2
 ·have hn0:=h.n0
  obtain ⟨t',ht',htk⟩:=h.ac a hk
  rw [ht,Option.some.injEq] at ht'
  subst ht'
  obtain ⟨ins,outs,b11,g3,g4,g5,g6,g7⟩:=qhx hs h ht htk (h.ao a hk)
  rw [if_neg (by simp),g3,ql,qa]
  cases b11 with
  | false =>
   right;left
   obtain ⟨b,q,hb,g8⟩:=qaR hs (h.drop hk)
   rw [if_neg (by simp),g8,qa,qp hs,qa]
   exact ⟨a,b,q,hk,rfl,h.dropped hb hv⟩
  | true =>
   rw [if_pos rfl]
   have hsl:sure.length=20:=by rw [hv];simp [h.it]
   rcases qhB (T:=T) (X:=X) hs h.lg hd hgc ht htk hsl hD hleft with ⟨e,g8,g9⟩ | ⟨D',G',d',lc',tc',sure',g8,hap,hl',hDl,hGl,hGd,hD'⟩
   ·left
    rw [g8,zI,hs,qa,if_pos (by omega)]
    exact ⟨e,rfl,by unfold Quiet;omega,fun h=>by omega⟩
   ·right;right
    have hol:=h.ol
    obtain ⟨S1,hS1⟩:∃ S1,S1=(⟨S.logs_,S.half_,S.gen_,S.down_,S.now_+1,S.items_,S.active_,S.over_⟩:TStore):=⟨_,rfl⟩
    rw [g8,zI,hs,qa,if_neg (by simp),qs h.lg,qa,qr (by omega) (by omega),qa,qu hs,qa,ht,qa,qu ht,qa,← hS1]
    have hl1:Like X (X.set a.toNat ⟨t.id_,t.from_,S.now_+1,t.reads_,t.writes_,t.texts_,t.in_,t.out_⟩):=.set ht ⟨rfl,rfl,rfl,rfl,rfl⟩
    have hti:Txs X S.now_ ins:=fun x hx=>h.ov x (g4 x hx)
    have hto:Txs X S.now_ outs:=fun x hx=>h.ov x (g5 x hx)
    obtain ⟨Z1,hZ1,e1⟩:=qfG (T:=T.set s.toNat S1) (s:=s) (D:=D') (G:=G') (L2:=outs) hti (by omega) ⟨t,ht,htk⟩ ins.length 0 (by omega) big (by rw [qy];omega) _ hl1
    rw [show ((0:Nat):Int)=0 from rfl] at e1
    obtain ⟨Z2,hZ2,e2⟩:=qdI (T:=T.set s.toNat S1) (s:=s) (D:=D') (G:=G') hZ1 hto (by omega) ⟨t,ht,htk⟩ outs.length 0 (by omega) big (by rw [qy];omega) _ hZ1
    rw [show ((0:Nat):Int)=0 from rfl] at e2
    obtain ⟨u,hu,hsame⟩:=hZ2.h a t ht
    have huk:=hsame.ok htk
    have hs1:idx (T.set s.toNat S1) s=some S1:=qp hs
    have hS1i:S1.items_=S.items_:=by rw [hS1]
    have hS1l:S1.logs_=S.logs_:=by rw [hS1]
    have hS1n:S1.now_=S.now_+1:=by rw [hS1]
    have hS1a:S1.active_=S.active_:=by rw [hS1]
    have hS1o:S1.over_=S.over_:=by rw [hS1]
    obtain ⟨I',hI,hI2,e3⟩:=qdk (X:=Z2) (a:=a) (D:=D') (G:=G') huk (by rw [hS1l];exact h.lg) hs1 u.writes_.length 0 (by omega) big (by have:=huk.w.1;rw [qy];omega) S1.items_ (by rw [hS1i];exact h.it) (fun l hl=>by rw [hS1i] at hl;have:=hsm l hl;omega) (fun k _=>by simp) (fun l hl=>by rw [hS1i] at hl;have:=hsm l hl;omega)
    have hsame1:(T.set s.toNat S1).set s.toNat (zx S1 S1.items_)=T.set s.toNat S1:=by rw [qD];rfl
    rw [hsame1,show ((0:Nat):Int)=0 from rfl,qD] at e3
    rw [e1,qe2,e2,qe1,hu,qa,e3,qe0,qp hs,qa]
    simp only [zx]
    obtain ⟨S2,hS2⟩:∃ S2,S2=(⟨S1.logs_,S1.half_,S1.gen_,S1.down_,S1.now_,I',S1.active_,S1.over_++[a]⟩:TStore):=⟨_,rfl⟩
    have hs3:idx (T.set s.toNat (⟨S1.logs_,S1.half_,S1.gen_,S1.down_,S1.now_,I',S1.active_,S1.over_⟩:TStore)) s=some (⟨S1.logs_,S1.half_,S1.gen_,S1.down_,S1.now_,I',S1.active_,S1.over_⟩:TStore):=qp hs
    rw [qs (by rw [hS1l];exact h.lg),qa,qs hI,qa,qX (by rw [hS1o];simp;omega),qa,qu hs3,qa,qD,← hS2]
    have hs2:idx (T.set s.toNat S2) s=some S2:=qp hs
    have lg2:S2.logs_.length=2:=by rw [hS2];simp only [hS1l];exact h.lg
    have it2:S2.items_.length=20:=by rw [hS2];exact hI
    have nw2:S2.now_=S.now_+1:=by rw [hS2];exact hS1n
    have ac2:S2.active_=S.active_:=by rw [hS2];exact hS1a
    have ov2:S2.over_=S.over_++[a]:=by rw [hS2];simp only [hS1o]
    have i2:S2.items_=I':=by rw [hS2]
    have hIk:∀ k:Nat,k < 20→I'[k]?=if (k:Int)∈t.writes_ then S.items_[k]?.map (·++[⟨S.now_+1,zk t k⟩]) else S.items_[k]?:=fun k hk=>by
     have e:zk u (k:Int)=zk t k:=by unfold zk;rw [hsame.x]
     rw [hI2 k hk,hsame.w,e,hS1i,hS1n]
    have vs2:∀ l∈S2.items_,Vs S2.now_ l:=fun l hl=>by
     rw [i2] at hl
     obtain ⟨k,hk,rfl⟩:=List.getElem_of_mem hl
     have e:=hIk k (by omega)
     have hki:k < S.items_.length:=by rw [h.it];omega
     have hvk:=h.vs S.items_[k] (List.getElem_mem hki)
     rw [List.getElem?_eq_getElem hk,List.getElem?_eq_getElem hki] at e
     rw [nw2]
     split at e
     ·rw [Option.map_some,Option.some.injEq] at e
      rw [e]
      exact hvk.snoc hn0 (hsm _ (List.getElem_mem hki)) (zj htk (by omega) (by omega)).2.1
     ·rw [Option.some.injEq] at e
      rw [e];exact hvk.mono (by omega)
    have acT:Txs Z2 S2.now_ S2.active_:=by rw [nw2,ac2];exact hZ2.txs (by omega) h.ac
    have ovT:Txs Z2 S2.now_ S2.over_:=by
     rw [nw2,ov2]
     intro x hx
     rcases List.mem_append.1 hx with hx | hx
     ·exact hZ2.txs (show S.now_≤S.now_+1 by omega) h.ov x hx
     ·rw [List.mem_singleton.1 hx];exact ⟨u,hu,huk.mono (by omega)⟩
    have ai2:∀ x∈S2.active_,∀ y∈S2.active_,∀ t u,idx Z2 x=some t→idx Z2 y=some u→t.id_=u.id_→x=y:=by
     rw [ac2]
     intro x hx y hy t1 u1 hx1 hy1 hi
     obtain ⟨t0,ht0,_⟩:=h.ac x hx
     obtain ⟨u0,hu0,_⟩:=h.ac y hy
     obtain ⟨t2,ht2,hts⟩:=hZ2.h x t0 ht0
     obtain ⟨u2,hu2,hus⟩:=hZ2.h y u0 hu0
     rw [hx1,Option.some.injEq] at ht2
     rw [hy1,Option.some.injEq] at hu2
     subst ht2
     subst hu2
     exact h.ai x hx y hy t0 u0 ht0 hu0 (by rw [← hts.i,← hus.i,hi])
    have hv2:VOk S2 sure':=by
     unfold VOk
     rw [i2]
     apply List.ext_getElem?
     intro k
     by_cases hk:k < 20
     ·rw [hap.h k hk,List.getElem?_map,hIk k hk,hv]
      have hki:k < S.items_.length:=by rw [h.it];omega
      rw [List.getElem?_map,List.getElem?_eq_getElem hki]
      split
      ·rw [Option.map_some,Option.map_some,qcI]
       have:=(zj htk (k:=(k:Int)) (by omega) (by omega)).2.2
       rw [Int.toNat_natCast] at this
       exact this
      ·rfl
     ·rw [List.getElem?_eq_none (by have:=hap.l;omega),List.getElem?_eq_none (by simp [hI];omega)]
    obtain ⟨b,q,hb,g9⟩:=qaR hs2 (a:=a) ⟨lg2,it2,vs2,by omega,by omega,acT,by rw [ac2];exact h.a12,ovT,by rw [ov2];simp;omega,u,hu⟩
    obtain ⟨f1,f2,f3⟩:=vT (X:=Z2) (a:=a) (p:=q) hb lg2 it2 vs2 (by omega) (by omega) acT (by rw [ac2];exact h.a12) (by rw [ac2];exact h.an) ai2 ovT (by rw [ov2];simp;omega) (fun x hx hxa=>by
     rw [ac2] at hx
     rw [ov2]
     intro hm
     rcases List.mem_append.1 hm with hm | hm
     ·exact h.ao x hx hm
     ·exact hxa (List.mem_singleton.1 hm)) hv2
    rw [g9,qa,qD,qp hs,qa]
    refine ⟨a,t,D',_,Z2,G',d',lc',tc',sure',hk,ht,hid,rfl,?_,?_,?_,?_,nw2,?_,?_,f1,f2,f3,hZ2,hap,hl',hDl,hGl,hGd,hD'⟩
    ·show S2.logs_=_;rw [hS2];exact hS1l
    ·show S2.half_=_;rw [hS2,hS1]
    ·show S2.gen_=_;rw [hS2,hS1]
    ·show S2.down_=_;rw [hS2,hS1]
    ·show S2.active_.filter _=_;rw [ac2]
    ·intro x hx
     have:=(List.mem_filter.1 hx).1
     rw [ov2] at this
     rcases List.mem_append.1 this with hm | hm
     ·exact .inl hm
     ·exact .inr (List.mem_singleton.1 hm)
 ·left
  have he:e≠0:=by omega
  rw [if_pos he]
  refine ⟨e,rfl,by unfold Quiet;omega,fun h=>?_⟩
  rcases g2 with g2 | g2
  ·exact g2.2
  ·omega
end
end Go.Proofs.YtbjidacdnjojnaaGreatDoor
end
section
namespace Go.Proofs.YtbjidacdnjojnaaGreatDoor
open Go.S
theorem jr:∀ (n:Nat) (l:List Int),l.Nodup→(∀ x∈l,0≤x∧x < n)→l.length≤n
 | 0,[],_,_=>Nat.le_refl _
 | 0,x :: l,_,h=>by have:=h x List.mem_cons_self;omega
 | n+1,l,hn,h=>by
  have ih:=jr n (l.filter fun x=>decide (x≠(n:Int))) (hn.filter _) fun x hx=>by
   obtain ⟨h1,h2⟩:=List.mem_filter.1 hx
   have:=h x h1
   simp at h2
   omega
  by_cases c:(n:Int)∈l
  ·have h1:=List.length_erase_of_mem c
   have h2:=hn.erase_eq_filter (n:Int)
   have h3:(l.filter fun x=>decide (x≠(n:Int)))=l.filter fun x=>x != (n:Int):=by
    apply List.filter_congr
    intro x _
    by_cases e:x=(n:Int) <;> simp [e]
   rw [h3,← h2,h1] at ih
   omega
  ·have h1:(l.filter fun x=>decide (x≠(n:Int)))=l:=by
    rw [List.filter_eq_self]
    intro x hx
    simp only [decide_eq_true_eq]
    rintro rfl
    exact c hx
   rw [h1] at ih
   omega
structure Stay (X X':List Ttx):Prop where
 l:X.length≤X'.length
 h:∀ x t,idx X x=some t→∃ u,idx X' x=some u∧u.id_=t.id_∧∀ now,TxOk now t→TxOk now u
theorem Stay.set {X:List Ttx} {a:Int} {t u:Ttx} (h:idx X a=some t) (hi:u.id_=t.id_) (ho:∀ now,TxOk now t→TxOk now u):Stay X (X.set a.toNat u):=⟨by simp,fun x v hx=>by
 by_cases c:x=a
 ·subst c
  rw [h,Option.some.injEq] at hx
  subst hx
  exact ⟨u,qp h,hi,ho⟩
 ·exact ⟨v,kV hx (qm h).1 fun e=>c e.symm,rfl,fun _ h=>h⟩⟩
theorem wz {α:Type} {l:List α} {x:Int} {t u:α} (h:idx l x=some t):idx (l++[u]) x=some t:=by
 obtain ⟨h0,h1,h2⟩:=qm h
 unfold idx
 rw [if_pos h0,List.getElem?_append_left (by omega),h2]
theorem Stay.snoc (X:List Ttx) (u:Ttx):Stay X (X++[u]):=⟨by simp,fun x t h=>⟨t,wz h,rfl,fun _ h=>h⟩⟩
theorem StOk.stay {S:TStore} {X X':List Ttx} (h:StOk S X) (hs:Stay X X'):StOk S X':=by
 refine ⟨h.lg,h.it,h.vs,h.n0,h.n1,fun x hx=>?_,h.a12,h.an,fun x hx y hy t u ht hu hi=>?_,fun x hx=>?_,h.ol,h.ao⟩
 ·obtain ⟨t,h1,h2⟩:=h.ac x hx
  obtain ⟨u,h3,h4,h5⟩:=hs.h x t h1
  exact ⟨u,h3,h5 _ h2⟩
 ·obtain ⟨t0,h1,_⟩:=h.ac x hx
  obtain ⟨u0,h2,_⟩:=h.ac y hy
  obtain ⟨t1,h3,h4,_⟩:=hs.h x t0 h1
  obtain ⟨u1,h5,h6,_⟩:=hs.h y u0 h2
  rw [ht,Option.some.injEq] at h3
  rw [hu,Option.some.injEq] at h5
  subst h3
  subst h5
  exact h.ai x hx y hy t0 u0 h1 h2 (by omega)
 ·obtain ⟨t,h1,h2⟩:=h.ov x hx
  obtain ⟨u,h3,h4,h5⟩:=hs.h x t h1
  exact ⟨u,h3,h5 _ h2⟩
theorem Txs.lt {X:List Ttx} {now:Int} {l:List Int} (h:Txs X now l):∀ k∈l,k < X.length:=fun k hk=>by
 obtain ⟨t,h1,_⟩:=h k hk
 exact (qm h1).2.1
section
variable {T:List TStore} {X:List Ttx} {s:Int} {S:TStore}
def kQ (id now:Int):Ttx:=⟨id,now,0,[],[],List.replicate 20 [],false,false⟩
def qfW (S:TStore) (x:Int):TStore:=⟨S.logs_,S.half_,S.gen_,S.down_,S.now_,S.items_,S.active_++[x],S.over_⟩
theorem qft {id now:Int} (h0:0≤id) (h1:id < 12) (hn:0≤now):TxOk now (kQ id now):=by
 refine ⟨h0,h1,hn,Int.le_refl _,by simp [kQ],by simp [kQ],by simp [kQ],fun x hx=>?_⟩
 rw [(List.mem_replicate.1 hx).2];simp
theorem qfX (hs:idx T s=some S) (h:StOk S X) (hT:∀ x∈T,TStore.ok88 X.length x) (id:Int) :
  (∃ e,M14 s id T X=some (T,X,e)∧e≠0) ∨
  (M14 s id T X=some (T.set s.toNat (qfW S X.length),X++[kQ id S.now_],0)∧0≤id∧id < 12∧StOk (qfW S X.length) (X++[kQ id S.now_])∧∀ x∈S.active_,∀ t,idx X x=some t→t.id_≠id):=by
 rw [M14,hs,qa,qs h.lg,qa]
 have ktrue:∃ e,qak T X s id true=some (T,X,e)∧e≠0:=⟨1,by rw [qak,if_pos rfl],by decide⟩
 split
 ·exact .inl ⟨13,rfl,by decide⟩
 ·split
  ·exact .inl ktrue
  ·split
   ·exact .inl ktrue
   ·rename_i h1 h2
    obtain ⟨k,g1,g2⟩:=qei hs h id
    rw [qak,if_neg (by simp),g1,qa,hs,qa]
    rcases g2 with ⟨g2,_⟩ | ⟨g2,g3⟩
    ·rw [if_pos g2];exact .inl ⟨7,rfl,by decide⟩
    ·right
     have hn0:=h.n0
     have ha12:=h.a12
     rw [if_neg (by omega),qs h.lg,qa,qs h.it,qa,xn ⟨hT,h.ac.lt,h.ov.lt⟩,qa,qcD,qg,qX (by simp;omega),qa,qu hs,qa]
     have hst:=h.stay (Stay.snoc X (kQ id S.now_))
     have hX:idx (X++[kQ id S.now_]) (X.length:Int)=some (kQ id S.now_):=qL
     have hnx:∀ x∈S.active_,x≠(X.length:Int):=fun x hx e=>by have:=h.ac.lt x hx;omega
     have hok:=qft (id:=id) (now:=S.now_) (by omega) (by omega) hn0
     refine ⟨rfl,by omega,by omega,⟨h.lg,h.it,h.vs,hn0,h.n1,fun x hx=>?_,?_,?_,?_,hst.ov,h.ol,?_⟩,g3⟩
     ·rcases List.mem_append.1 hx with hx | hx
      ·exact hst.ac x hx
      ·rw [List.mem_singleton.1 hx];exact ⟨_,hX,hok⟩
     ·
      have hids:(S.active_.map fun x=>(qg9 X x).id_).Nodup:=by
       rw [List.Nodup,List.pairwise_map]
       refine List.pairwise_iff_forall_sublist.2 fun {x y} hsub e=>?_
       have hx:=hsub.subset (show x∈[x,y] by simp)
       have hy:=hsub.subset (show y∈[x,y] by simp)
       obtain ⟨t,ht,_⟩:=h.ac x hx
       obtain ⟨u,hu,_⟩:=h.ac y hy
       rw [jA ht,jA hu] at e
       exact List.pairwise_iff_forall_sublist.1 h.an hsub (h.ai x hx y hy t u ht hu e)
      have hall:((S.active_.map fun x=>(qg9 X x).id_)++[id]).Nodup:=by
       rw [List.nodup_append]
       refine ⟨hids,by simp,fun a ha b hb e=>?_⟩
       rw [List.mem_singleton.1 hb] at e
       obtain ⟨x,hx,rfl⟩:=List.mem_map.1 ha
       obtain ⟨t,ht,_⟩:=h.ac x hx
       rw [jA ht] at e
       exact g3 x hx t ht e
      have:=jr 12 _ hall fun x hx=>by
       rcases List.mem_append.1 hx with hx | hx
       ·obtain ⟨y,hy,rfl⟩:=List.mem_map.1 hx
        obtain ⟨t,ht,hk⟩:=h.ac y hy
        rw [jA ht]
        exact ⟨hk.i0,hk.i1⟩
       ·rw [List.mem_singleton.1 hx];omega
      simpa [qfW] using this
     ·show (S.active_++[(X.length:Int)]).Nodup
      rw [List.nodup_append]
      exact ⟨h.an,by simp,fun a ha b hb e=>hnx a ha (by rw [e,List.mem_singleton.1 hb])⟩
     ·intro x hx y hy t u ht hu hi
      rcases List.mem_append.1 hx with hx | hx <;> rcases List.mem_append.1 hy with hy | hy
      ·exact hst.ai x hx y hy t u ht hu hi
      ·rw [List.mem_singleton.1 hy,hX,Option.some.injEq] at hu
       obtain ⟨t0,ht0,_⟩:=h.ac x hx
       rw [wz ht0,Option.some.injEq] at ht
       subst ht
       subst hu
       exact absurd hi (g3 x hx t0 ht0)
      ·rw [List.mem_singleton.1 hx,hX,Option.some.injEq] at ht
       obtain ⟨u0,hu0,_⟩:=h.ac y hy
       rw [wz hu0,Option.some.injEq] at hu
       subst ht
       subst hu
       exact absurd hi.symm (g3 y hy u0 hu0)
      ·rw [List.mem_singleton.1 hx,List.mem_singleton.1 hy]
     ·intro x hx hm
      rcases List.mem_append.1 hx with hx | hx
      ·exact h.ao x hx hm
      ·have:=h.ov.lt x hm
       rw [List.mem_singleton.1 hx] at this
       omega
theorem qfm (hs:idx T s=some S) (h:StOk S X) (id item:Int):∃ X' x e,M18 s id item T X=some (X',x,e)∧X'.length=X.length∧Stay X X'∧∀ a t,idx X a=some t→∃ u,idx X' a=some u∧u.id_=t.id_∧u.writes_=t.writes_∧u.texts_=t.texts_:=by
 have hno:∀ a t,idx X a=some t→∃ u,idx X a=some u∧u.id_=t.id_∧u.writes_=t.writes_∧u.texts_=t.texts_:=fun a t h=>⟨t,h,rfl,rfl,rfl⟩
 have hst:Stay X X:=⟨Nat.le_refl _,fun x t h=>⟨t,h,rfl,fun _ h=>h⟩⟩
 obtain ⟨k,e,g1,g2⟩:=qfY hs h id item
 rw [M18,hs,qa,g1,qg,qa]
 rcases g2 with ⟨rfl,_,hk0,hk,hi0,hi1,t,ht,hid⟩ | g2
 ·obtain ⟨t',ht',htk⟩:=h.ac k hk
  rw [ht,Option.some.injEq] at ht'
  subst ht'
  have hr:=htk.r
  have k1:∀ X' u,idx X' k=some u→∃ x e,qc8 T s k item X'=some (X',x,e):=by
   intro X' u hu
   obtain ⟨l,hl1,hl2⟩:=jL h.it hi0 hi1
   have hv:=h.vs l (zW hl2)
   obtain ⟨x,b,hx⟩:=qdj l u.from_ (by have:=hv.n;omega)
   rw [qc8,hs,qa,hu,qa,hl1,qa,qs h.lg,qa,hx,qg]
   exact ⟨_,_,rfl⟩
  rw [if_neg (by simp),ht,qa,qbp _ (by have:=htk.w.1;omega),qa]
  split
  ·rw [(zj htk hi0 hi1).1,qa]
   exact ⟨X,_,_,rfl,rfl,hst,hno⟩
  ·rw [qbp _ (by omega),qa]
   by_cases c:item∈t.reads_
   ·rw [if_pos (by simpa using c)]
    obtain ⟨x,e,hx⟩:=k1 X t ht
    exact ⟨X,x,e,hx,rfl,hst,hno⟩
   ·rw [if_neg (by simpa using c),qX (by simp;omega),qa,qu ht,qa]
    obtain ⟨x,e,hx⟩:=k1 (X.set k.toNat ⟨t.id_,t.from_,t.at_,t.reads_++[item],t.writes_,t.texts_,t.in_,t.out_⟩) _ (qp ht)
    refine ⟨_,x,e,hx,by simp,.set ht rfl fun now hh=>?_,fun a v hv=>?_⟩
    ·have hnd:(t.reads_++[item]).Nodup:=by
      rw [List.nodup_append]
      exact ⟨hh.r.2.1,by simp,fun a ha b hb e=>c (by rw [← List.mem_singleton.1 hb,← e];exact ha)⟩
     have hin:∀ k∈t.reads_++[item],0≤k∧k < 20:=fun k hk=>by
      rcases List.mem_append.1 hk with hk | hk
      ·exact hh.r.2.2 k hk
      ·rw [List.mem_singleton.1 hk];exact ⟨hi0,hi1⟩
     exact ⟨hh.i0,hh.i1,hh.f0,hh.f1,⟨jr 20 _ hnd hin,hnd,hin⟩,hh.w,hh.t20,hh.tl⟩
    ·by_cases ca:a=k
     ·subst ca
      rw [ht,Option.some.injEq] at hv
      subst hv
      exact ⟨_,qp ht,rfl,rfl,rfl⟩
     ·exact ⟨v,kV hv (qm ht).1 fun e=>ca e.symm,rfl,rfl,rfl⟩
 ·have he:e≠0:=by omega
  rw [if_pos he]
  exact ⟨X,_,_,rfl,rfl,hst,hno⟩
theorem qdi (hs:idx T s=some S) (h:StOk S X) (id item:Int) (x:List UInt8) :
  (∃ e,M15 s id item x T X=some (X,e)∧e≠0) ∨
  ∃ a t u,M15 s id item x T X=some (X.set a.toNat u,0)∧a∈S.active_∧idx X a=some t∧t.id_=id∧0≤item∧item < 20∧u.id_=t.id_∧(∀ now,TxOk now t→TxOk now u)∧(∀ k,k∈u.writes_↔k∈t.writes_∨k=item)∧u.texts_=t.texts_.set item.toNat x:=by
 obtain ⟨k,e,g1,g2⟩:=qfY hs h id item
 rw [M15,hs,qa,g1,qg,qa]
 rcases g2 with ⟨rfl,_,hk0,hk,hi0,hi1,t,ht,hid⟩ | g2
 ·obtain ⟨t',ht',htk⟩:=h.ac k hk
  rw [ht,Option.some.injEq] at ht'
  subst ht'
  rw [if_neg (by simp)]
  by_cases cl:20 < (x.length:Int)
  ·rw [if_pos cl];exact .inl ⟨2,rfl,by decide⟩
  ·right
   have hx20:=htk.t20
   have hup:upd t.texts_ item x=some (t.texts_.set item.toNat x):=by
    obtain ⟨y,hy1,hy2⟩:=jL hx20 hi0 hi1
    exact qu hy2
   have htl:∀ now,TxOk now t→(t.texts_.set item.toNat x).length=20∧∀ y∈t.texts_.set item.toNat x,y.length≤20:=fun now hh=>⟨by simpa using hh.t20,xA (P:=fun y=>y.length≤20) hh.tl (by omega)⟩
   have hw:=htk.w
   rw [if_neg cl,ht,qa,qbp _ (by omega),qa]
   by_cases c:item∈t.writes_
   ·rw [if_pos (by simpa using c),(zj htk hi0 hi1).1,qa,hup,qa,qu ht,qa]
    refine ⟨k,t,_,rfl,hk,ht,hid,hi0,hi1,rfl,fun now hh=>⟨hh.i0,hh.i1,hh.f0,hh.f1,hh.r,hh.w,(htl now hh).1,(htl now hh).2⟩,fun q=>⟨.inl,fun hq=>hq.elim (fun h=>h) fun e=>by rw [e];exact c⟩,rfl⟩
   ·rw [if_neg (by simpa using c),qX (by simp;omega),qa,(zj htk hi0 hi1).1,qa,hup,qa,qu ht,qa]
    refine ⟨k,t,_,rfl,hk,ht,hid,hi0,hi1,rfl,fun now hh=>?_,fun q=>by simp,rfl⟩
    have hnd:(t.writes_++[item]).Nodup:=by
     rw [List.nodup_append]
     exact ⟨hh.w.2.1,by simp,fun a ha b hb e=>c (by rw [← List.mem_singleton.1 hb,← e];exact ha)⟩
    have hin:∀ k∈t.writes_++[item],0≤k∧k < 20:=fun k hk=>by
     rcases List.mem_append.1 hk with hk | hk
     ·exact hh.w.2.2 k hk
     ·rw [List.mem_singleton.1 hk];exact ⟨hi0,hi1⟩
    exact ⟨hh.i0,hh.i1,hh.f0,hh.f1,hh.r,⟨jr 20 _ hnd hin,hnd,hin⟩,(htl now hh).1,(htl now hh).2⟩
 ·have he:e≠0:=by omega
  rw [if_pos he]
  exact .inl ⟨e,rfl,he⟩
theorem qas (hit:S.items_.length=20) (hv:∀ l∈S.items_,l≠[]∧l.length≤1000):∀ (r i:Nat),i+r=20→∀ n,r < n→yj S n (i:Int) ((S.items_.take i).map xb++List.replicate r [])=some (S.items_.map xb):=by
 intro r
 induction r with
 | zero =>
  intro i hi n hn
  obtain ⟨n,rfl⟩:=Nat.exists_eq_add_one.2 hn
  obtain rfl:i=20:=by omega
  rw [yj,qcj,if_neg (by omega),List.take_of_length_le (by omega),List.replicate_zero,List.append_nil,qgq,qs (by simpa using hit),qa,qs (by simp),qa,qa,qa]
 | succ r ih =>
  intro i hi n hn
  obtain ⟨n,rfl⟩:=Nat.exists_eq_add_one.2 (show 0 < n by omega)
  have h1:i < S.items_.length:=by omega
  obtain ⟨hne,hl⟩:=hv S.items_[i] (List.getElem_mem h1)
  have hpos:=List.length_pos_iff.2 hne
  have hli:((S.items_.take i).map xb).length=i:=by simp;omega
  have hx:idx ((S.items_.take i).map xb++List.replicate (r+1) []) (i:Int)=some []:=by
   rw [zm,List.getElem?_append_right (by omega),hli,Nat.sub_self]
   simp
  have hxA:za 20 ((S.items_.take i).map xb++List.replicate (r+1) []) (i:Int)=some []:=by
   rw [za,if_pos (by omega)];exact hx
  rw [yj,qcj,if_pos (by omega),kW h1 hit,qa,qr (by omega) (by omega),qa,show ((S.items_[i].length:Int) - 1)=((S.items_[i].length - 1:Nat):Int) by omega,qM (by omega),qa,hxA,qa,qu hx,qa,qS i (by omega),qa,Int.toNat_natCast]
  have e:((S.items_.take i).map xb++List.replicate (r+1) []).set i (S.items_[i])[S.items_[i].length - 1].Text=(S.items_.take (i+1)).map xb++List.replicate r []:=by
   rw [List.set_append_right _ _ (by omega),hli,Nat.sub_self,List.replicate_succ,List.set_cons_zero,qR h1,List.map_append,List.append_assoc]
   congr 1
   simp only [List.map_cons,List.map_nil,List.singleton_append,List.cons.injEq,and_true]
   unfold xb
   rw [List.getLast?_eq_getElem?,List.getElem?_eq_getElem (by omega)]
   rfl
  rw [e]
  exact ih (i+1) (by omega) n (by omega)
theorem kE (hs:idx T s=some S) (hlg:S.logs_.length=2) (hit:S.items_.length=20) (hv:∀ l∈S.items_,l≠[]∧l.length≤1000):M11 s T=some (S.items_.map xb):=by
 rw [M11,hs,qa,qs hlg,qa,qs hit,qa]
 exact qas hit hv 20 0 (by omega) big (by rw [qy];omega)
end
end Go.Proofs.YtbjidacdnjojnaaGreatDoor
end
section
namespace Go.Proofs.YtbjidacdnjojnaaGreatDoor
open Go.S
def turned (S:TStore) (h g:Int) (dn:Bool):TStore:=⟨S.logs_,h,g,dn,S.now_,S.items_,S.active_,S.over_⟩
theorem StOk.turned {S:TStore} {X:List Ttx} (h:StOk S X) (a g:Int) (dn:Bool):StOk (turned S a g dn) X:=⟨h.lg,h.it,h.vs,h.n0,h.n1,h.ac,h.a12,h.an,h.ai,h.ov,h.ol,h.ao⟩
def qeH (N z:Nat) (T:List TStore) (s:Int) (S:TStore) (p:Int) (sure:SS) (left0:Int) (nD nG:Nat) (o:Option (List TDisk×List TStore×List TLog×Int)):Prop :=
  ∃ D' h' g' dn' G' e,o=some (D',T.set s.toNat (turned S h' g' dn'),G',e)∧(e=0∨e=8∨e=13)∧D'.length=nD∧G'.length=nG∧(∀ x∈G',x.d_ < nD) ∧
    ((∃ d' gc' go' lc' lo' tc' to',za 2 S.logs_ h'=some gc'∧za 2 S.logs_ (1 - h')=some go'∧(left0=-1→d'.left_=-1)∧Duo N z D' G' p d' h' gc' go' lc' lo' tc' to' g' sure (OtherS h' g')) ∨
     (left0≠-1∧∃ d',idx D' p=some d'∧Dk N d'∧vZ d' z sure))
def rows (ps:Pairs):SS:=ps.map fun p=>83 :: prs [p]
section
variable {T:List TStore} {s:Int} {S:TStore} {N z:Nat} {p left0:Int} {gc go:Int} {lc:TLog} {tc:SS} {sure:SS}
theorem kF (S:TStore):turned S S.half_ S.gen_ S.down_=S:=rfl
theorem qdo (hs:idx T s=some S) (hlg:S.logs_.length=2) (hgc:za 2 S.logs_ S.half_=some gc) (hgo:za 2 S.logs_ (1 - S.half_)=some go) {ps:Pairs} (hps:∀ q∈ps,zU q) (hsure:xg (List.replicate 20 []) ps=sure) (hpl:ps.length≤20) (nD nG:Nat):∀ (ps2 ps1:Pairs),ps=ps1++ps2 →
    ∀ (D:List TDisk) (G:List TLog) (d:TDisk) (lo:TLog) (to_:SS),Duo N z D G p d S.half_ gc go lc lo tc to_ S.gen_ sure (OtherS S.half_ S.gen_)→Img to_ ⟨S.gen_+1,false,xg (List.replicate 20 []) ps1⟩→to_≠[]→S.gen_+1≤lc.epoch_+lo.epoch_→(left0=-1→d.left_=-1)→D.length=nD→G.length=nG→(∀ x∈G,x.d_ < nD)→∀ n,ps2.length+1 < n →
    qeH N z T s S p sure left0 nD nG (vv (rows ps++[[68]]) go T s S.logs_ S.half_ S.gen_ S.down_ S.now_ S.items_ S.active_ S.over_ n (ps1.length:Int) D G):=by
  have hset:∀ (G:List TLog) (l':TLog),l'.d_=p→p < nD→(∀ x∈G,x.d_ < nD)→∀ x∈G.set go.toNat l',x.d_ < nD:=fun G l' h1 h2 h3 x hx=>by
    rcases List.mem_or_eq_of_mem_set hx with h | rfl
    · exact h3 x h
    · omega
  have hid:T.set s.toNat (⟨S.logs_,S.half_,S.gen_,S.down_,S.now_,S.items_,S.active_,S.over_⟩:TStore)=T:=qP hs
  have hupd:upd T s (⟨S.logs_,S.half_,S.gen_,S.down_,S.now_,S.items_,S.active_,S.over_⟩:TStore)=some T:=by rw [qu hs,hid]
  intro ps2
  induction ps2 with
  | nil =>
    intro ps1 hpp D G d lo to_ hD hi hne hgE hl hDn hGn hGd n hn
    rw [List.append_nil] at hpp
    subst hpp
    obtain ⟨n,rfl⟩:=Nat.exists_eq_add_one.2 (show 0 < n by omega)
    have hx:idx (rows ps++[[68]]) (ps.length:Int)=some [68]:=by
      rw [zm,List.getElem?_append_right (by simp [rows])]
      simp [rows]
    have hpD:p < nD:=by have:=(qm hD.hp).2.1;omega
    rw [vv,qal,if_pos (by simp [rows];omega),hx,qa]
    rw [hsure] at hi
    rcases hD.append hne (t:=[68]) (by simp) (qfI hi hD.g1) (fun m hm=>hm) with g | ⟨d',l',g,gl,ge,gd,hD'⟩ | ⟨d',l',g,gd,g0,gn,gk,gr⟩
    · rw [g,ql,if_neg (by decide),if_pos rfl,hupd,qa]
      exact ⟨D,S.half_,S.gen_,S.down_,G,8,by rw [kF,qP hs],.inr (.inl rfl),hDn,hGn,hGd,.inl ⟨d,gc,go,lc,lo,tc,to_,hgc,hgo,hl,hD⟩⟩
    · rw [g,ql,if_pos rfl,qS _ (by omega),qa]
      obtain ⟨n,rfl⟩:=Nat.exists_eq_add_one.2 (show 0 < n by simp at hn;omega)
      rw [vv,qal,if_neg (by simp [rows]),qgp]
      rcases hD'.turn (fun m hm=>hm) (.done hi) (by omega) with ⟨d2,k,kl,hD2⟩ | ⟨l2,k,kd,k0,kr⟩
      · have hh:=hD.hh
        rw [k,ql,if_neg (by simp),qs hlg,qa,qr (by omega) (by omega),qa]
        have hg0:=hD.g0
        have hE1:=hD.c
        obtain ⟨mc,Rc,hc,_⟩:=hD.c
        obtain ⟨mo,Ro,ho⟩:=hD.o
        have e1:=hc.v.A1.2
        have e2:=ho.v.A1.2
        rw [qr (by omega) (by omega),qa,qu hs,qa]
        refine ⟨_,1 - S.half_,S.gen_+1,S.down_,_,0,rfl,.inl rfl,by simpa using hDn,by simpa using hGn,hset G l' gd hpD hGd,.inl ⟨d2,go,gc,l',lc,_,tc,hgo,?_,fun h=>kl (gl (hl h)),hD2⟩⟩
        rw [show 1 - (1 - S.half_)=S.half_ by omega]
        exact hgc
      · rw [k,ql,if_pos (by decide),hupd,qa,jP hs hlg,qg,qp hs,qa]
        refine ⟨_,S.half_,S.gen_,S.down_ || decide ((13:Int)≠0),_,13,rfl,.inr (.inr rfl),by simpa using hDn,by simpa using hGn,hset _ l2 kd hpD (hset G l' gd hpD hGd),.inr ⟨fun h=>?_,d',hD'.hp,hD'.hk,kr⟩⟩
        have:=gl (hl h)
        omega
    · rw [g,ql,if_neg (by decide),if_neg (by decide),hupd,qa,jP hs hlg,qg,qp hs,qa]
      exact ⟨_,S.half_,S.gen_,S.down_ || decide ((13:Int)≠0),_,13,rfl,.inr (.inr rfl),by simpa using hDn,by simpa using hGn,hset G l' gd hpD hGd,.inr ⟨fun h=>gn (hl h),d',qp hD.hp,gk,gr⟩⟩
  | cons q ps2 ih =>
    intro ps1 hpp D G d lo to_ hD hi hne hgE hl hDn hGn hGd n hn
    obtain ⟨n,rfl⟩:=Nat.exists_eq_add_one.2 (show 0 < n by omega)
    have hpl':ps.length=ps1.length+(ps2.length+1):=by rw [hpp];simp
    have hx:idx (rows ps++[[68]]) (ps1.length:Int)=some (83 :: prs [q]):=by
      rw [zm,List.getElem?_append_left (by simp [rows];omega),rows,List.getElem?_map,hpp,List.getElem?_append_right (by omega)]
      simp
    have hq:zU q:=hps q (by rw [hpp];simp)
    have hql:=vF hq
    have hrl:(83 :: prs [q]:List UInt8).length≤300:=by simp [prs];omega
    have hpD:p < nD:=by have:=(qm hD.hp).2.1;omega
    have hsp:xg (xg (List.replicate 20 []) ps1) [q]=xg (List.replicate 20 []) (ps1++[q]):=by simp [xg]
    have hi2:Img (to_++[83 :: prs [q]]) ⟨S.gen_+1,false,xg (List.replicate 20 []) (ps1++[q])⟩:=by
      rw [← hsp]
      exact .val hi (fun r hr=>by rw [List.mem_singleton.1 hr];exact hq) (by simp)
    rw [vv,qal,if_pos (by simp [rows];omega),hx,qa]
    rcases hD.append hne hrl (wx hi2 hD.g1) (fun m hm=>hm.ok sure) with g | ⟨d',l',g,gl,ge,gd,hD'⟩ | ⟨d',l',g,gd,g0,gn,gk,gr⟩
    · rw [g,ql,if_neg (by decide),if_pos rfl,hupd,qa]
      exact ⟨D,S.half_,S.gen_,S.down_,G,8,by rw [kF,qP hs],.inr (.inl rfl),hDn,hGn,hGd,.inl ⟨d,gc,go,lc,lo,tc,to_,hgc,hgo,hl,hD⟩⟩
    · rw [g,ql,if_pos rfl,qS _ (by omega),qa]
      have:=ih (ps1++[q]) (by rw [hpp];simp) _ _ d' l' _ hD' hi2 (by simp) (by omega) (fun h=>gl (hl h)) (by simpa using hDn) (by simpa using hGn) (hset G l' gd hpD hGd) n (by simp at hn;omega)
      rw [List.length_append,List.length_singleton] at this
      exact this
    · rw [g,ql,if_neg (by decide),if_neg (by decide),hupd,qa,jP hs hlg,qg,qp hs,qa]
      exact ⟨_,S.half_,S.gen_,S.down_ || decide ((13:Int)≠0),_,13,rfl,.inr (.inr rfl),by simpa using hDn,by simpa using hGn,hset G l' gd hpD hGd,.inr ⟨fun h=>gn (hl h),d',qp hD.hp,gk,gr⟩⟩
def qcz (v:SS) (k:Nat):Option (Int×List UInt8):=if v.getD k []=[] then none else some ((k:Int),v.getD k [])
def zy (v:SS) (i:Nat):Pairs:=(List.range i).filterMap (qcz v)
theorem kH (v:SS) (i:Nat):zy v (i+1)=zy v i++(qcz v i).toList:=by
  unfold zy
  rw [List.range_succ,List.filterMap_append]
  cases h:qcz v i <;> simp [h]
theorem vD (v:SS) (i:Nat):(zy v i).length≤i:=by
  have:=List.length_filterMap_le (qcz v) (List.range i)
  simpa [zy] using this
theorem qdz {v:SS} (hv:v.length=20) (h20:∀ x∈v,x.length≤20):∀ {i:Nat},i≤20→∀ q∈zy v i,zU q:=by
  intro i hi q hq
  obtain ⟨k,hk,he⟩:=List.mem_filterMap.1 hq
  have hk2:=List.mem_range.1 hk
  unfold qcz at he
  split at he
  · cases he
  · rw [Option.some.injEq] at he
    subst he
    refine ⟨by show (0:Int)≤(k:Int);omega,by show ((k:Int)) < 20;omega,h20 _ ?_⟩
    rw [List.getD_eq_getElem?_getD,List.getElem?_eq_getElem (by omega)]
    exact List.getElem_mem _
theorem qfg (v:SS) (a b:Pairs):xg v (a++b)=xg (xg v a) b:=by simp [xg,List.foldl_append]
theorem qcy {v:SS} (hv:v.length=20):xg (List.replicate 20 []) (zy v 20)=v:=by
  have key:∀ i,i≤20→xg (List.replicate 20 []) (zy v i)=v.take i++List.replicate (20 - i) []:=by
    intro i
    induction i with
    | zero=>intro _;simp [zy,xg]
    | succ i ih =>
      intro hi
      have h1:i < v.length:=by omega
      rw [kH,qfg,ih (by omega)]
      have hg:v.getD i []=v[i]:=by rw [List.getD_eq_getElem?_getD,List.getElem?_eq_getElem h1];rfl
      have hlt:(v.take i).length=i:=by simp;omega
      have hrep:List.replicate (20 - i) ([]:List UInt8)=[] :: List.replicate (20 - (i+1)) []:=by
        rw [show 20 - i=(20 - (i+1))+1 by omega,List.replicate_succ]
      rw [qR h1,hrep]
      by_cases c:v[i]=[]
      · have:qcz v i=none:=by unfold qcz;rw [hg,if_pos c]
        rw [this,c]
        simp [xg]
      · have:qcz v i=some ((i:Int),v[i]):=by unfold qcz;rw [hg,if_neg c]
        rw [this]
        show (v.take i++[] :: List.replicate (20 - (i+1)) []).set (i:Int).toNat v[i]=_
        rw [Int.toNat_natCast,List.set_append_right _ _ (by omega),hlt,Nat.sub_self,List.set_cons_zero,List.append_assoc]
        rfl
  rw [key 20 (Nat.le_refl _),List.take_of_length_le (by omega)]
  simp
theorem qct {v:SS} (hv:v.length=20) (h20:∀ x∈v,x.length≤20) (x5:Int) (D:List TDisk) (G:List TLog):∀ (r i:Nat),i+r=20→∀ n,r < n→yi v x5 T s D G S n (rows (zy v i)) (i:Int)=qe3 x5 T s D G (rows (zy v 20)) S.logs_ S.half_ S.gen_ S.down_ S.now_ S.items_ S.active_ S.over_:=by
  intro r
  induction r with
  | zero =>
    intro i hi n hn
    obtain ⟨n,rfl⟩:=Nat.exists_eq_add_one.2 hn
    obtain rfl:i=20:=by omega
    rw [yi,qci,if_neg (by omega)]
  | succ r ih =>
    intro i hi n hn
    obtain ⟨n,rfl⟩:=Nat.exists_eq_add_one.2 (show 0 < n by omega)
    have h1:i < v.length:=by omega
    have hl:=vD v i
    have hrl:(rows (zy v i)).length≤20:=by simp [rows];omega
    have hg:v.getD i []=v[i]:=by rw [List.getD_eq_getElem?_getD,List.getElem?_eq_getElem h1];rfl
    rw [yi,qci,if_pos (by omega),kW h1 hv,qa]
    have hrec:=ih (i+1) (by omega) n (by omega)
    rw [kH] at hrec
    by_cases c:v[i]=[]
    · have:qcz v i=none:=by unfold qcz;rw [hg,if_pos c]
      rw [this] at hrec
      rw [if_neg (by simpa using c),qS i (by omega),qa]
      simpa using hrec
    · have hf:qcz v i=some ((i:Int),v[i]):=by unfold qcz;rw [hg,if_neg c]
      have hpo:zU ((i:Int),v[i]):=⟨by show (0:Int)≤(i:Int);omega,by show ((i:Int)) < 20;omega,h20 _ (List.getElem_mem h1)⟩
      have hpl:=vF hpo
      have hpt:=kK hpo
      simp only at hpl hpt
      rw [hf] at hrec
      have e:rows (zy v i++(some ((i:Int),v[i])).toList)=rows (zy v i)++[83 :: pr (i:Int) v[i]]:=by simp [rows,prs]
      rw [e] at hrec
      rw [if_pos c,hpt,qa,qV (by simp;omega),qa,qX (by simp;omega),qa,qS i (by omega),qa]
      exact hrec
theorem qdn {X:List Ttx} {D:List TDisk} {G:List TLog} {d:TDisk} {lo:TLog} {to_:SS} (hs:idx T s=some S) (h:StOk S X) (hv:VOk S sure) (hgc:za 2 S.logs_ S.half_=some gc) (hgo:za 2 S.logs_ (1 - S.half_)=some go) (hD:Duo N z D G p d S.half_ gc go lc lo tc to_ S.gen_ sure (OtherS S.half_ S.gen_)) (hGd:∀ x∈G,x.d_ < D.length) :
    qeH N z T s S p sure d.left_ D.length G.length (M13 s D T G):=by
  have hpD:p < D.length:=(qm hD.hp).2.1
  have hset:∀ (l':TLog),l'.d_=p→∀ x∈G.set go.toNat l',x.d_ < D.length:=fun l' h1 x hx=>by
    rcases List.mem_or_eq_of_mem_set hx with h | rfl
    · exact hGd x h
    · omega
  rw [M13,hs,qa,qs h.lg,qa]
  cases hd:S.down_ with
  | true =>
    rw [if_pos rfl]
    exact ⟨D,S.half_,S.gen_,S.down_,G,13,by rw [kF,qP hs],.inr (.inr rfl),rfl,rfl,hGd,.inl ⟨d,gc,go,lc,lo,tc,to_,hgc,hgo,fun h=>h,hD⟩⟩
  | false =>
    have hg0:=hD.g0
    have hh:=hD.hh
    obtain ⟨mc,Rc,hc,_⟩:=hD.c
    obtain ⟨mo,Ro,ho⟩:=hD.o
    have e1:=hc.v.A1.2
    have e2:=ho.v.A1.2
    have hgE:=hD.gE
    have hpi:=z8 (S.gen_+1)
    rw [if_neg (by simp),qr (by omega) (by omega),qa,hgo,qa,qr (by omega) (by omega),qa,yD (by omega) (by omega),qa,qV (by simp;omega),qa]
    obtain ⟨d',l',e,g,gd,g2⟩:=hD.reset fun m hm=>hm.ok sure
    rw [show ([72]++pI (S.gen_+1):List UInt8)=Hd (S.gen_+1) from rfl,g,ql]
    rcases g2 with ⟨rfl,rfl,rfl⟩ | ⟨rfl,g0,gn,gk,gr⟩ | ⟨rfl,gl,ge,hD'⟩
    · rw [if_pos (by decide),jP hs h.lg,qg,qp hs,qa,qP hD.hp,qP hD.hgo]
      exact ⟨D,S.half_,S.gen_,S.down_ || decide ((8:Int)≠0),G,8,rfl,.inr (.inl rfl),rfl,rfl,hGd,.inl ⟨_,gc,go,lc,_,tc,to_,hgc,hgo,fun h=>h,hD⟩⟩
    · rw [if_pos (by decide),jP hs h.lg,qg,qp hs,qa]
      exact ⟨_,S.half_,S.gen_,S.down_ || decide ((13:Int)≠0),_,13,rfl,.inr (.inr rfl),by simp,by simp,hset l' gd,.inr ⟨gn,d',qp hD.hp,gk,gr⟩⟩
    · have hsl:sure.length=20:=by rw [hv];simp [h.it]
      have hs20:∀ x∈sure,x.length≤20:=fun x hx=>by
        rw [hv] at hx
        obtain ⟨l,hl,rfl⟩:=List.mem_map.1 hx
        have hvl:=h.vs l hl
        unfold xb
        cases hlast:l.getLast? with
        | none=>simp
        | some v=>exact (hvl.b v (List.mem_of_getLast? hlast)).2.2
      have hvals:M11 s T=some sure:=by
        rw [hv]
        exact kE hs h.lg h.it fun l hl=>⟨(h.vs l hl).ne,by have:=(h.vs l hl).n;omega⟩
      rw [if_neg (by simp),hvals,qa,qa]
      have htx:=qct (T:=T) (s:=s) (S:=S) hsl hs20 go (D.set p.toNat d') (G.set go.toNat l') 20 0 (by omega) big (by rw [qy];omega)
      have e0:rows (zy sure 0)=[]:=by simp [rows,zy]
      rw [e0,show ((0:Nat):Int)=0 from rfl] at htx
      have hrl:=vD sure 20
      rw [htx,qe3,qX (by simp [rows];omega),qa]
      have himg:Img [Hd (S.gen_+1)] ⟨S.gen_+1,false,xg (List.replicate 20 []) []⟩:=.head (by omega) (by omega)
      have:=qdo (T:=T) (N:=N) (z:=z) (p:=p) (left0:=d.left_) (lc:=lc) (tc:=tc) hs h.lg hgc hgo (qdz hsl hs20 (Nat.le_refl 20)) (qcy hsl) hrl D.length G.length (zy sure 20) [] rfl (D.set p.toNat d') (G.set go.toNat l') d' l' _ hD' himg (by simp) (by omega) gl (by simp) (by simp) (hset l' gd) big (by rw [qy];omega)
      exact this
end
end Go.Proofs.YtbjidacdnjojnaaGreatDoor
end
section
namespace Go.Proofs.YtbjidacdnjojnaaGreatDoor
open Go.S
def vn (logs:List Int) (h g:Int) (I:List (List TVersion)):TStore:=⟨logs,h,g,false,0,I,[],[]⟩
def qC (v:SS):List (List TVersion):=v.map fun x=>[⟨0,x⟩]
section
variable {T:List TStore} {D:List TDisk} {G:List TLog} {logs:List Int} {m:qn}
theorem wm {α:Type} (l:List α) (x y:α):(l++[x]).set (l.length:Int).toNat y=l++[y]:=by simp
theorem qiH (hlg:logs.length=2) (hm:m.values_.length=20) (h g:Int):∀ (r i:Nat),i+r=20→∀ n,r < n→ym m (T.length:Int) D G n (i:Int) (T++[vn logs h g (qC (m.values_.take i)++List.replicate r [])])=some (D,T++[vn logs h g (qC m.values_)],G,(T.length:Int),0):=by
 intro r
 induction r with
 | zero =>
  intro i hi n hn
  obtain ⟨n,rfl⟩:=Nat.exists_eq_add_one.2 hn
  rw [ym,qcl,if_neg (by omega),qgs,List.take_of_length_le (by omega),List.replicate_zero,List.append_nil]
 | succ r ih =>
  intro i hi n hn
  obtain ⟨n,rfl⟩:=Nat.exists_eq_add_one.2 (show 0 < n by omega)
  have h1:i < m.values_.length:=by omega
  have hli:(qC (m.values_.take i)).length=i:=by simp [qC];omega
  have hx:idx (qC (m.values_.take i)++List.replicate (r+1) []) (i:Int)=some []:=by
   rw [zm,List.getElem?_append_right (by omega),hli,Nat.sub_self];simp
  have hxA:za 20 (qC (m.values_.take i)++List.replicate (r+1) []) (i:Int)=some []:=by
   rw [za,if_pos (by omega)];exact hx
  have e:(qC (m.values_.take i)++List.replicate (r+1) []).set i [⟨0,m.values_[i]⟩]=qC (m.values_.take (i+1))++List.replicate r []:=by
   rw [List.set_append_right _ _ (by omega),hli,Nat.sub_self,List.replicate_succ,List.set_cons_zero,qR h1,qC,qC,List.map_append,List.append_assoc]
   rfl
  rw [ym,qcl,if_pos (by omega),kW h1 hm,qa,qL,qa]
  simp only [vn]
  rw [hxA,qa,qs hlg,qa,qu hx,qa,qS i (by omega),qa,qu qL,qa,wm,Int.toNat_natCast,e]
  exact ih (i+1) (by omega) n (by omega)
theorem qiG (hlg:logs.length=2) (hm:m.values_.length=20) (h g:Int):∀ (r i:Nat),i+r=20→∀ n,r < n→yl m (T.length:Int) D G n (i:Int) (T++[vn logs h g (qC (m.values_.take i)++List.replicate r [])])=some (D,T++[vn logs h g (qC m.values_)],G,(T.length:Int),0):=by
 intro r
 induction r with
 | zero =>
  intro i hi n hn
  obtain ⟨n,rfl⟩:=Nat.exists_eq_add_one.2 hn
  rw [yl,qck,if_neg (by omega),qgr,List.take_of_length_le (by omega),List.replicate_zero,List.append_nil]
 | succ r ih =>
  intro i hi n hn
  obtain ⟨n,rfl⟩:=Nat.exists_eq_add_one.2 (show 0 < n by omega)
  have h1:i < m.values_.length:=by omega
  have hli:(qC (m.values_.take i)).length=i:=by simp [qC];omega
  have hx:idx (qC (m.values_.take i)++List.replicate (r+1) []) (i:Int)=some []:=by
   rw [zm,List.getElem?_append_right (by omega),hli,Nat.sub_self];simp
  have hxA:za 20 (qC (m.values_.take i)++List.replicate (r+1) []) (i:Int)=some []:=by
   rw [za,if_pos (by omega)];exact hx
  have e:(qC (m.values_.take i)++List.replicate (r+1) []).set i [⟨0,m.values_[i]⟩]=qC (m.values_.take (i+1))++List.replicate r []:=by
   rw [List.set_append_right _ _ (by omega),hli,Nat.sub_self,List.replicate_succ,List.set_cons_zero,qR h1,qC,qC,List.map_append,List.append_assoc]
   rfl
  rw [yl,qck,if_pos (by omega),kW h1 hm,qa,qL,qa]
  simp only [vn]
  rw [hxA,qa,qs hlg,qa,qu hx,qa,qS i (by omega),qa,qu qL,qa,wm,Int.toNat_natCast,e]
  exact ih (i+1) (by omega) n (by omega)
theorem qhp {m0 m1:qn} (hlg:logs.length=2) (h0:m0.values_.length=20) (h1:m1.values_.length=20) (b:Bool) (hw:(if b=true then m1 else m0).whole_=true):qao logs m1 T D G m0 b=some (D,T++[vn logs (if b=true then 1 else 0) (if b=true then m1 else m0).gen_ (qC (if b=true then m1 else m0).values_)],G,(T.length:Int),0):=by
 rw [qao]
 cases b with
 | true =>
  rw [if_pos rfl] at hw
  rw [if_pos rfl,qs hlg,qa,if_pos hw,qcD,qg]
  have:=qiG (T:=T) (D:=D) (G:=G) hlg h1 1 m1.gen_ 20 0 (by omega) big (by rw [qy];omega)
  simpa [vn,qC] using this
 | false =>
  rw [if_neg (by simp)] at hw
  rw [if_neg (by simp),qs hlg,qa,if_pos hw,qcD,qg]
  have:=qiH (T:=T) (D:=D) (G:=G) hlg h0 0 m0.gen_ 20 0 (by omega) big (by rw [qy];omega)
  simpa [vn,qC] using this
def pick (m0 m1:qn):Bool:=decide (m1.whole_=true∧(m0.gen_ < m1.gen_∨m0.whole_=false))
theorem qfh {m0 m1:qn} {sure:SS} (h:Sel m0 m1 sure):(if pick m0 m1=true then m1 else m0).whole_=true∧(if pick m0 m1=true then m1 else m0).values_=sure:=by
 unfold Sel at h
 unfold pick
 by_cases c:m1.whole_=true∧(m0.gen_ < m1.gen_∨m0.whole_=false)
 ·rw [if_pos c] at h
  rw [decide_eq_true c,if_pos rfl]
  exact ⟨c.1,h⟩
 ·rw [if_neg c] at h
  rw [decide_eq_false c,if_neg (by simp)]
  exact h
variable {p:Int} {d:TDisk} {N z:Nat} {C:SS}
def zl (C:SS) (z:Nat) (A0 A1:Int):SS:=(C.set 0 (pad (aT (A0+1)))).set z (pad (aT (A1+1)))
def flat (C:SS):TDisk:=⟨C,C,[],-1⟩
theorem qaM {k:Dk N d} (hC:C.length=N) (h64:∀ x∈C,x.length=64):Dk N (flat C):=⟨hC,hC,k.n,h64,h64,fun w hw=>(by cases hw),Int.le_refl _,qdP,by simp [flat]⟩
theorem vJ (hp:idx D p=some (flat C)) (hk:Dk N (flat C)) (hz:z=N / 2) (hz2:2≤z) {A0 A1:Int} {t0 t1:SS} {m0 m1:qn} {sure:SS} (h0:Tells (reg C 0 z) A0 t0) (h1:Tells (reg C z z) A1 t1) (i0:Img t0 m0) (i1:Img t1 m1) (l0:t0.length≤300) (l1:t1.length≤300) (hs:Sel m0 m1 sure) (hT:∀ x∈T,TStore.ok100 G.length x) :
  (∃ D' G',D'.length=D.length∧M10 p D T G=some (D',T,G',-1,8)) ∨
  (A0 < 1000000∧A1 < 1000000∧∃ rs0 rs1,Reads (reg C 0 z) A0 1 0 0 rs0∧Reads (reg C z z) A1 1 0 0 rs1∧rs0.map (·.2)=t0∧rs1.map (·.2)=t1 ∧
   M10 p D T G=some (D.set p.toNat (flat (zl C z A0 A1)),T++[vn [(G.length:Int),(G.length:Int)+1] (if pick m0 m1=true then 1 else 0) (if pick m0 m1=true then m1 else m0).gen_ (qC sure)],
    G++[⟨p,0,z,A0+1,(xd 1 0 rs0:Nat),rs0.length,false⟩]++[⟨p,z,z,A1+1,(xd 1 0 rs1:Nat),rs1.length,false⟩],(T.length:Int),0)):=by
 have hCl:C.length=N:=hk.s
 have hkn:=hk.n
 obtain ⟨s0,ha0,he0⟩:=h0.a
 obtain ⟨s1,ha1,he1⟩:=h1.a
 obtain ⟨rs0,hr0,ht0,hn0⟩:=h0.r
 obtain ⟨rs1,hr1,ht1,hn1⟩:=h1.r
 have hL0:(reg C 0 z).length=z:=zt (by omega)
 have hL1:(reg C z z).length=z:=zt (by omega)
 have hP0:Pt D p 0 (flat C) N (reg C 0 z):=⟨hp,hk,rfl,Int.le_refl _,by omega,by omega,by rw [hL0];rfl⟩
 have hdiv:qgV .i64 (N:Int) 2=some (z:Int):=by
  rw [qgV,if_pos (by decide),show (N:Int).tdiv 2=(z:Int) by rw [hz];exact (Int.ofNat_tdiv N 2).symm,xv (by omega) (by omega)]
 have hall:wJ (List.replicate 2 (-1:Int)) G.length=true:=by
  simp [wJ];omega
 have hlen:=qdZ (D:=D) (p:=p) hp hk
 rw [M10,hlen,qa,hdiv,qa,qr (by omega) (by omega),qa,xn ⟨hT,hall⟩,qa,Int.zero_mul]
 by_cases c0:A0 < 1000000
 ·have e0:=qdM (G:=G) hP0 h0.eA c0 ha0 he0 hr0 hn0
  rw [hL0] at e0
  rw [e0,qN,if_neg (by simp),ht0,qgH i0 (by omega),qg,if_pos rfl,qs (by simp),qa,qs i0.len,qa]
  have ei:za 2 (List.replicate 2 (-1:Int)) 0=some (-1):=by decide
  have eu:upd (List.replicate 2 (-1:Int)) 0 (G.length:Int)=some [(G.length:Int),-1]:=by
   rw [qu (x:=-1) (by decide)];rfl
  have hall2:wJ [(G.length:Int),-1] (G++[(⟨p,0,z,A0+1,(xd 1 0 rs0:Nat),rs0.length,false⟩:TLog)]).length=true:=by
   simp [wJ];omega
  rw [ei,qa,eu,qa,qr (by omega) (by omega),qa,xn ⟨fun x hx k hkk=>by have:=hT x hx k hkk;simp;omega,hall2⟩,qa,Int.one_mul]
  have hse:(flat C).seen_=C:=rfl
  have hC1:(C.set (0:Int).toNat (pad (aT (A0+1)))).length=N:=by simp [hCl]
  have ha15:=xR (A0+1)
  have h64:∀ x∈C.set (0:Int).toNat (pad (aT (A0+1))),x.length=64:=xA (P:=fun x=>x.length=64) hk.s64 (xh (by omega))
  have hk1:Dk N (flat (C.set (0:Int).toNat (pad (aT (A0+1))))):=qaM (k:=hk) hC1 h64
  have hreg1:reg (C.set (0:Int).toNat (pad (aT (A0+1)))) z z=reg C z z:=by
   have:=xW (S:=C) (P:=[pad (aT (A0+1))]) (a:=0) (f:=z) (z:=z) (by omega) (by simp;omega) (by simp;omega)
   simpa [put] using this
  have hP1:Pt (D.set p.toNat (flat (C.set (0:Int).toNat (pad (aT (A0+1)))))) p z (flat (C.set (0:Int).toNat (pad (aT (A0+1))))) N (reg C z z):=⟨qp hp,hk1,rfl,by omega,by omega,by omega,by rw [hL1,← hreg1];rfl⟩
  rw [show (⟨(flat C).seen_.set (0:Int).toNat (pad (aT (A0+1))),(flat C).seen_.set (0:Int).toNat (pad (aT (A0+1))),[],-1⟩:TDisk)=flat (C.set (0:Int).toNat (pad (aT (A0+1)))) from rfl]
  by_cases c1:A1 < 1000000
  ·right
   have e1:=qdM (G:=G++[(⟨p,0,z,A0+1,(xd 1 0 rs0:Nat),rs0.length,false⟩:TLog)]) hP1 h1.eA c1 ha1 he1 hr1 hn1
   rw [hL1] at e1
   rw [e1,qN,if_neg (by simp),ht1,qgH i1 (by omega),qg,if_pos rfl,qs i1.len,qa]
   have ei2:za 2 [(G.length:Int),-1] 1=some (-1):=by simp [za,idx]
   have eu2:upd [(G.length:Int),-1] 1 ((G++[(⟨p,0,z,A0+1,(xd 1 0 rs0:Nat),rs0.length,false⟩:TLog)]).length:Int)=some [(G.length:Int),(G.length:Int)+1]:=by
    rw [qu (x:=-1) (by simp [idx])]
    simp
   obtain ⟨w1,w2⟩:=qfh hs
   rw [ei2,qa,eu2,qa,qD]
   refine ⟨c0,c1,rs0,rs1,hr0,hr1,ht0,ht1,?_⟩
   have hK:=qhp (T:=T) (D:=D.set p.toNat (flat (zl C z A0 A1))) (G:=G++[(⟨p,0,z,A0+1,(xd 1 0 rs0:Nat),rs0.length,false⟩:TLog)]++[(⟨p,z,z,A1+1,(xd 1 0 rs1:Nat),rs1.length,false⟩:TLog)]) (logs:=[(G.length:Int),(G.length:Int)+1]) rfl i0.len i1.len (pick m0 m1) w1
   rw [w2] at hK
   have hfl:(⟨(flat (C.set (0:Int).toNat (pad (aT (A0+1))))).seen_.set (z:Int).toNat (pad (aT (A1+1))),(flat (C.set (0:Int).toNat (pad (aT (A0+1))))).seen_.set (z:Int).toNat (pad (aT (A1+1))),[],-1⟩:TDisk)=flat (zl C z A0 A1):=by
    simp [flat,zl]
   rw [hfl]
   unfold pick at hK
   cases hw1:m1.whole_ with
   | false =>
    rw [if_neg (by simp)]
    rw [hw1] at hK
    simpa [pick,hw1] using hK
   | true =>
    rw [if_pos rfl]
    by_cases cg:m0.gen_ < m1.gen_
    ·rw [if_pos cg]
     simpa [pick,hw1,cg] using hK
    ·rw [if_neg cg]
     cases hw0:m0.whole_ with
     | true=>rw [if_pos rfl];simpa [pick,hw1,cg,hw0] using hK
     | false=>rw [if_neg (by simp)];simpa [pick,hw1,cg,hw0] using hK
  ·left
   have h1A:=h1.eA.2
   have hA1:A1=1000000:=by omega
   rw [hA1] at he1 hr1
   obtain ⟨G',e1⟩:=yI (G:=G++[(⟨p,0,z,A0+1,(xd 1 0 rs0:Nat),rs0.length,false⟩:TLog)]) hP1 ha1 he1 hr1 hn1
   rw [hL1] at e1
   rw [e1,qN,if_pos (by decide)]
   exact ⟨_,_,by simp,rfl⟩
 ·left
  have h0A:=h0.eA.2
  have hA0:A0=1000000:=by omega
  rw [hA0] at he0 hr0
  obtain ⟨G',e0⟩:=yI (G:=G) hP0 ha0 he0 hr0 hn0
  rw [hL0] at e0
  rw [e0,qN,if_pos (by decide)]
  exact ⟨_,_,rfl,rfl⟩
end
end Go.Proofs.YtbjidacdnjojnaaGreatDoor
end
section
namespace Go.Proofs.YtbjidacdnjojnaaGreatDoor
open Go.S
section
variable {α:Type} {l:List (Int×List α)} {a k:Int} {v:List α}
theorem yJ:ze ([]:List (Int×List α)) k=none:=rfl
theorem zw (p:Int×List α):ze (p :: l) k=if p.1=k then some p.2 else ze l k:=by
 unfold ze
 rw [List.find?_cons]
 by_cases c:p.1=k <;> simp [c]
theorem yL:∀ (l:List (Int×List α)),ze (l++[(a,v)]) k=match ze l k with
  | some x=>some x
  | none=>if a=k then some v else none
 | []=>by simp [zw,yJ]
 | p :: l=>by
  rw [List.cons_append,zw,zw,yL l]
  by_cases c:p.1=k <;> simp [c]
theorem yK:∀ (l:List (Int×List α)),ze (l.map fun p=>if p.1=a then (a,v) else p) k=if k=a then (if kS l a=true then some v else none) else ze l k
 | []=>by simp [yJ,kS]
 | p :: l=>by
  rw [List.map_cons,zw,zw,yK l]
  by_cases c:p.1=a
  ·by_cases c2:k=a
   ·subst c2;simp [c,kS]
   ·have : ¬ a=k:=fun e=>c2 e.symm
    simp [c,c2,this]
  ·have hm:kS (p :: l) a=kS l a:=by simp [kS,c]
   rw [hm]
   by_cases c2:k=a
   ·subst c2;simp [c]
   ·simp [c,c2]
theorem qbk:∀ {l:List (Int×List α)},kS l a=false→ze l a=none
 | [],_=>rfl
 | p :: l,h=>by
  simp only [kS,List.any_cons,Bool.or_eq_false_iff,decide_eq_false_iff_not] at h
  rw [zw,if_neg h.1]
  exact qbk (by simp only [kS];exact h.2)
theorem zv:ze (qU l a v) k=if k=a then some v else ze l k:=by
 unfold qU
 by_cases c:kS l a=true
 ·rw [if_pos c,yK,if_pos c]
 ·rw [if_neg c,yL]
  have h:=qbk (by simpa using c)
  by_cases c2:k=a
  ·subst c2;rw [h]
  ·have : ¬ a=k:=fun e=>c2 e.symm
   rw [if_neg c2,if_neg this]
   cases ze l k <;> rfl
theorem qfB (h:(l.map (·.1)).Nodup):((qU l a v).map (·.1)).Nodup:=by
 unfold qU
 split
 ·have:(l.map fun p=>if p.1=a then (a,v) else p).map (·.1)=l.map (·.1):=by
   rw [List.map_map]
   apply List.map_congr_left
   intro p _
   simp only [Function.comp_apply]
   split
   ·rename_i e;exact e.symm
   ·rfl
  rw [this];exact h
 ·rename_i c
  rw [List.map_append,List.nodup_append]
  refine ⟨h,by simp,fun x hx y hy e=>c ?_⟩
  obtain ⟨p,hp,rfl⟩:=List.mem_map.1 hx
  rw [List.map_cons,List.map_nil,List.mem_singleton] at hy
  exact List.any_eq_true.2 ⟨p,hp,by simp [e,hy]⟩
theorem qfu {q:Int×List α} (h:q∈qU l a v):q.1=a∨q∈l:=by
 unfold qU at h
 split at h
 ·obtain ⟨p,hp,he⟩:=List.mem_map.1 h
  split at he
  ·exact .inl (by rw [← he])
  ·exact .inr (by rw [← he];exact hp)
 ·rcases List.mem_append.1 h with h | h
  ·exact .inr h
  ·exact .inl (by rw [List.mem_singleton.1 h])
end
structure MOk (m:Pairs):Prop where
 n:(m.map (·.1)).Nodup
 k:∀ q∈m,0≤q.1∧q.1 < 20
theorem MOk.nil:MOk []:=⟨by simp,fun q h=>(by cases h)⟩
theorem MOk.set {m:Pairs} (h:MOk m) {k:Int} {x:List UInt8} (h0:0≤k) (h1:k < 20):MOk (qU m k x):=⟨qfB h.n,fun q hq=>by
 rcases qfu hq with e | e
 ·omega
 ·exact h.k q e⟩
theorem qgz:∀ (m:Pairs) (v:SS) (i:Nat),MOk m→v.length=20→i < 20→(xg v m)[i]?=match ze m (i:Int) with
  | some x=>some x
  | none=>v[i]?
 | [],v,i,_,_,_=>rfl
 | q :: m,v,i,h,hv,hi=>by
  have hm:MOk m:=⟨(List.nodup_cons.1 (by simpa using h.n)).2,fun r hr=>h.k r (List.mem_cons_of_mem _ hr)⟩
  have hq:=h.k q List.mem_cons_self
  have hno:ze m q.1=none:=by
   cases hg:ze m q.1 with
   | none=>rfl
   | some x =>
    have:=xa hg
    exact absurd (List.mem_map.2 ⟨_,this,rfl⟩) (List.nodup_cons.1 (show ((q.1 :: m.map (·.1)):List Int).Nodup by simpa using h.n)).1
  have e:xg v (q :: m)=xg (v.set q.1.toNat q.2) m:=rfl
  rw [e,qgz m _ i hm (by simpa using hv) hi,zw]
  by_cases c:q.1=(i:Int)
  ·rw [if_pos c,← c,hno]
   show (v.set q.1.toNat q.2)[i]?=some q.2
   rw [show q.1.toNat=i by omega,List.getElem?_set_self (by omega)]
  ·rw [if_neg c]
   cases ze m (i:Int) with
   | some x=>rfl
   | none =>
    show (v.set q.1.toNat q.2)[i]?=v[i]?
    rw [List.getElem?_set_ne (by omega)]
def Of (m:Pairs) (t:Ttx):Prop:=∀ k,ze m k=if k∈t.writes_ then some (zk t k) else none
theorem qk0 {m:Pairs} {t:Ttx} {now:Int} {sure:SS} (h:MOk m) (ho:Of m t) (ht:TxOk now t) (hs:sure.length=20):Ap sure t (xg sure m):=by
 refine ⟨by rw [xI,hs],fun i hi=>?_⟩
 rw [qgz m sure i h hs hi,ho]
 have:=(zj ht (k:=(i:Int)) (by omega) (by omega)).2.2
 rw [Int.toNat_natCast] at this
 split
 ·rename_i heq
  split at heq
  ·rename_i c
   rw [if_pos c,this,← heq]
  ·cases heq
 ·rename_i heq
  split at heq
  ·cases heq
  ·rename_i c
   rw [if_neg c]
abbrev qeG:=List (Int×Pairs)
structure Inv (N z:Nat) (D:List TDisk) (T:List TStore) (G:List TLog) (X:List Ttx) (p s:Int) (sure:SS) (wrote:qeG) (i:Nat):Prop where
 ex:∃ S d gc go lc lo tc to_,idx T s=some S∧StOk S X∧Sm S∧VOk S sure∧2*S.now_+(S.active_.length:Int)≤i∧za 2 S.logs_ S.half_=some gc∧za 2 S.logs_ (1 - S.half_)=some go∧d.left_=-1∧Duo N z D G p d S.half_ gc go lc lo tc to_ S.gen_ sure (OtherS S.half_ S.gen_) ∧
  (∀ a∈S.active_,∀ t,idx X a=some t→∃ m,ze wrote t.id_=some m∧Of m t)
 wk:∀ k m,ze wrote k=some m→MOk m
 a1:∀ x∈T,TStore.ok100 G.length x
 a2:∀ x∈T,TStore.ok88 X.length x
 a3:∀ x∈G,x.d_ < D.length
section
variable {N z:Nat} {D:List TDisk} {T:List TStore} {G:List TLog} {X:List Ttx} {p s:Int} {sure:SS} {wrote:qeG} {i:Nat}
theorem Inv.more (h:Inv N z D T G X p s sure wrote i):Inv N z D T G X p s sure wrote (i+1):=by
 obtain ⟨S,d,gc,go,lc,lo,tc,to_,h1,h2,h3,h4,h5,h6⟩:=h.ex
 exact ⟨⟨S,d,gc,go,lc,lo,tc,to_,h1,h2,h3,h4,by omega,h6⟩,h.wk,h.a1,h.a2,h.a3⟩
theorem Inv.sl (h:Inv N z D T G X p s sure wrote i):sure.length=20:=by
 obtain ⟨S,d,gc,go,lc,lo,tc,to_,h1,h2,h3,h4,_⟩:=h.ex
 rw [h4];simp [h2.it]
theorem zF {α:Type} {P:α→Prop} {l:List α} {k:Nat} {y:α} (h:∀ x∈l,P x) (hy:P y):∀ x∈l.set k y,P x:=fun x hx=>by
 rcases List.mem_or_eq_of_mem_set hx with h1 | rfl
 ·exact h x h1
 ·exact hy
theorem qd6 (h:Inv N z D T G X p s sure wrote i) (id:Int):∃ T' X' e,M14 s id T X=some (T',X',e)∧(e=0→Inv N z D T' G X' p s sure (qU wrote id []) (i+1))∧(e≠0→Inv N z D T' G X' p s sure wrote (i+1)):=by
 obtain ⟨S,d,gc,go,lc,lo,tc,to_,h1,h2,h3,h4,h5,h6,h7,h8,h9,h10⟩:=h.ex
 rcases qfX h1 h2 h.a2 id with ⟨e,g1,g2⟩ | ⟨g1,g2,g3,g4,g5⟩
 ·exact ⟨T,X,e,g1,fun h=>absurd h g2,fun _=>h.more⟩
 ·refine ⟨_,_,0,g1,fun _=>⟨⟨qfW S X.length,d,gc,go,lc,lo,tc,to_,qp h1,g4,h3,h4,?_,h6,h7,h8,h9,?_⟩,?_,?_,?_,h.a3⟩,fun h=>absurd rfl h⟩
  ·show 2*S.now_+((S.active_++[(X.length:Int)]).length:Int)≤((i+1:Nat):Int)
   simp;omega
  ·intro a ha t ht
   rcases List.mem_append.1 ha with ha | ha
   ·obtain ⟨t0,ht0,_⟩:=h2.ac a ha
    rw [wz ht0,Option.some.injEq] at ht
    subst ht
    obtain ⟨m,hm,ho⟩:=h10 a ha t0 ht0
    exact ⟨m,by rw [zv,if_neg (g5 a ha t0 ht0)];exact hm,ho⟩
   ·rw [List.mem_singleton.1 ha,qL,Option.some.injEq] at ht
    subst ht
    refine ⟨[],by rw [zv,if_pos (show (kQ id S.now_).id_=id from rfl)],fun k=>?_⟩
    rw [if_neg (by simp [kQ])];rfl
  ·intro k m hm
   rw [zv] at hm
   split at hm
   ·rw [Option.some.injEq] at hm
    rw [← hm];exact .nil
   ·exact h.wk k m hm
  ·exact zF h.a1 (h.a1 S (zW h1))
  ·refine zF (fun x hx=>?_) ⟨g4.ac.lt,g4.ov.lt⟩
   obtain ⟨q1,q2⟩:=h.a2 x hx
   exact ⟨fun k hk=>by have:=q1 k hk;simp;omega,fun k hk=>by have:=q2 k hk;simp;omega⟩
theorem qfE (h:Inv N z D T G X p s sure wrote i) {X':List Ttx} (hl:X'.length=X.length) (hst:Stay X X') (hw:∀ a t,idx X a=some t→∃ u,idx X' a=some u∧u.id_=t.id_∧u.writes_=t.writes_∧u.texts_=t.texts_):Inv N z D T G X' p s sure wrote (i+1):=by
 obtain ⟨S,d,gc,go,lc,lo,tc,to_,h1,h2,h3,h4,h5,h6,h7,h8,h9,h10⟩:=h.ex
 refine ⟨⟨S,d,gc,go,lc,lo,tc,to_,h1,h2.stay hst,h3,h4,by omega,h6,h7,h8,h9,fun a ha t ht=>?_⟩,h.wk,h.a1,fun x hx=>?_,h.a3⟩
 ·obtain ⟨t0,ht0,_⟩:=h2.ac a ha
  obtain ⟨u,hu,e1,e2,e3⟩:=hw a t0 ht0
  rw [ht,Option.some.injEq] at hu
  subst hu
  obtain ⟨m,hm,ho⟩:=h10 a ha t0 ht0
  refine ⟨m,by rw [e1];exact hm,fun k=>?_⟩
  have:zk t k=zk t0 k:=by unfold zk;rw [e3]
  rw [ho k,e2,this]
 ·have:=h.a2 x hx
  rw [hl];exact this
theorem qfF (h:Inv N z D T G X p s sure wrote i) (id item:Int):∃ X' x e,M18 s id item T X=some (X',x,e)∧Inv N z D T G X' p s sure wrote (i+1):=by
 obtain ⟨S,d,gc,go,lc,lo,tc,to_,h1,h2,_⟩:=h.ex
 obtain ⟨X',x,e,g1,g2,g3,g4⟩:=qfm h1 h2 id item
 exact ⟨X',x,e,g1,qfE h g2 g3 g4⟩
theorem qd5 (h:Inv N z D T G X p s sure wrote i) (id item:Int) (x:List UInt8):∃ X' e,M15 s id item x T X=some (X',e)∧(e=0→∃ m,ze wrote id=some m∧Inv N z D T G X' p s sure (qU wrote id (qU m item x)) (i+1))∧(e≠0→Inv N z D T G X' p s sure wrote (i+1)):=by
 obtain ⟨S,d,gc,go,lc,lo,tc,to_,h1,h2,h3,h4,h5,h6,h7,h8,h9,h10⟩:=h.ex
 rcases qdi h1 h2 id item x with ⟨e,g1,g2⟩ | ⟨a,t,u,g1,g2,g3,g4,g5,g6,g7,g8,g9,g10⟩
 ·exact ⟨X,e,g1,fun h=>absurd h g2,fun _=>h.more⟩
 ·refine ⟨_,0,g1,fun _=>?_,fun h=>absurd rfl h⟩
  obtain ⟨m,hm,ho⟩:=h10 a g2 t g3
  obtain ⟨t',ht',htk⟩:=h2.ac a g2
  rw [g3,Option.some.injEq] at ht'
  subst ht'
  rw [g4] at hm
  have hmk:=h.wk id m hm
  refine ⟨m,hm,⟨⟨S,d,gc,go,lc,lo,tc,to_,h1,h2.stay (.set g3 g7 g8),h3,h4,by omega,h6,h7,h8,h9,fun b hb v hv=>?_⟩,fun k m' hm'=>?_,h.a1,fun y hy=>?_,h.a3⟩⟩
  ·by_cases c:b=a
   ·subst c
    rw [qp g3,Option.some.injEq] at hv
    subst hv
    refine ⟨qU m item x,by rw [zv,if_pos (by omega)],fun k=>?_⟩
    rw [zv,ho k]
    have h20:=htk.t20
    by_cases ck:k=item
    ·subst ck
     rw [if_pos rfl,if_pos ((g9 k).2 (.inr rfl))]
     congr 1
     unfold zk
     rw [g10,List.getD_eq_getElem?_getD,List.getElem?_set_self (by omega)];rfl
    ·rw [if_neg ck]
     by_cases cw:k∈t.writes_
     ·rw [if_pos cw,if_pos ((g9 k).2 (.inl cw))]
      have hk:=htk.w.2.2 k cw
      congr 1
      unfold zk
      rw [g10,List.getD_eq_getElem?_getD,List.getD_eq_getElem?_getD,List.getElem?_set_ne (by omega)]
     ·rw [if_neg cw,if_neg fun h=>((g9 k).1 h).elim cw ck]
   ·have hv':idx X b=some v:=by
     obtain ⟨v0,hv0,_⟩:=h2.ac b hb
     rw [kV hv0 (qm g3).1 fun e=>c e.symm,Option.some.injEq] at hv
     rw [← hv];exact hv0
    obtain ⟨m',hm',ho'⟩:=h10 b hb v hv'
    refine ⟨m',?_,ho'⟩
    rw [zv,if_neg fun e=>c (h2.ai b hb a g2 v t hv' g3 (by rw [e,g4])),hm']
  ·rw [zv] at hm'
   split at hm'
   ·rw [Option.some.injEq] at hm'
    rw [← hm'];exact hmk.set g5 g6
   ·exact h.wk k m' hm'
  ·have:=h.a2 y hy
   rw [List.length_set];exact this
theorem qbm (h:Inv N z D T G X p s sure wrote i) {S:TStore} (hs:idx T s=some S) {a:Int} {b:List Int} {q:Int→Bool} (h1:StOk (dropped S a b q) X) (h2:Sm (dropped S a b q)) (h3:VOk (dropped S a b q) sure):Inv N z D (T.set s.toNat (dropped S a b q)) G X p s sure wrote (i+1):=by
 obtain ⟨S',d,gc,go,lc,lo,tc,to_,g1,g2,g3,g4,g5,g6,g7,g8,g9,g10⟩:=h.ex
 rw [hs,Option.some.injEq] at g1
 subst g1
 have hf:=List.length_filter_le (fun x=>!(decide (x=a))) S.active_
 refine ⟨⟨_,d,gc,go,lc,lo,tc,to_,qp hs,h1,h2,h3,?_,g6,g7,g8,g9,fun x hx t ht=>g10 x (List.mem_filter.1 hx).1 t ht⟩,h.wk,zF h.a1 (h.a1 S (zW hs)),zF h.a2 ⟨h1.ac.lt,h1.ov.lt⟩,h.a3⟩
 show 2*S.now_+((S.active_.filter fun x=>!(decide (x=a))).length:Int)≤((i+1:Nat):Int)
 omega
theorem qd7 (h:Inv N z D T G X p s sure wrote i) (id:Int):∃ T' e,M19 s id T X=some (T',e)∧Inv N z D T' G X p s sure wrote (i+1):=by
 obtain ⟨S,d,gc,go,lc,lo,tc,to_,h1,h2,h3,h4,_⟩:=h.ex
 rcases qf2 h1 h2 h4 id with ⟨e,g1,_⟩ | ⟨a,b,q,_,g1,g2,g3,g4⟩
 ·exact ⟨T,e,g1,h.more⟩
 ·exact ⟨_,0,g1,qbm h h1 g2 g3 g4⟩
theorem qcN {l:List Int} {a:Int} (h:a∈l):(l.filter fun x=>!(decide (x=a))).length+1≤l.length:=by
 have:(l.filter fun x=>!(decide (x=a))).length < l.length:=List.length_filter_lt_length_iff_exists.2 ⟨a,h,by simp⟩
 omega
theorem qcK (h:Inv N z D T G X p s sure wrote i) (hi:i≤5000000000000) (id:Int):∃ D' T' X' G' e,M16 s id D T X G=some (D',T',X',G',e)∧(e=0→∃ m,ze wrote id=some m∧Inv N z D' T' G' X' p s (xg sure m) wrote (i+1))∧(e≠0→Inv N z D' T' G' X' p s sure wrote (i+1)):=by
 obtain ⟨S,d,gc,go,lc,lo,tc,to_,h1,h2,h3,h4,h5,h6,h7,h8,h9,h10⟩:=h.ex
 rcases qez h1 h2 h4 h3 (by omega) h6 h9 h8 id with ⟨e,g1,g2,_⟩ | ⟨a,b,q,_,g1,g2,g3,g4⟩ | ⟨a,t,D',S',X',G',d',lc',tc',sure',ha,ht,hid,g1,e1,e2,e3,e4,e5,e6,e7,k1,k2,k3,hlike,hap,hl',hD',hG',hGd,hduo⟩
 ·have he:e≠0:=by unfold Quiet at g2;omega
  exact ⟨D,T,X,G,e,g1,fun h=>absurd h he,fun _=>h.more⟩
 ·exact ⟨D,_,X,G,12,g1,fun h=>absurd h (by decide),fun _=>qbm h h1 g2 g3 g4⟩
 ·refine ⟨D',_,X',G',0,g1,fun _=>?_,fun h=>absurd rfl h⟩
  obtain ⟨m,hm,ho⟩:=h10 a ha t ht
  obtain ⟨t',ht',htk⟩:=h2.ac a ha
  rw [ht,Option.some.injEq] at ht'
  subst ht'
  rw [hid] at hm
  have hsl:sure.length=20:=by rw [h4];simp [h2.it]
  have hse:sure'=xg sure m:=hap.eq (qk0 (h.wk id m hm) ho htk hsl)
  have hfl:=qcN ha
  refine ⟨m,hm,?_⟩
  rw [← hse]
  refine ⟨⟨S',d',gc,go,lc',lo,tc',to_,qp h1,k1,k2,k3,by rw [e5,e6];push_cast;omega,by rw [e1,e2];exact h6,by rw [e1,e2];exact h7,hl',by rw [e2,e3];exact hduo,fun x hx v hv=>?_⟩,h.wk,?_,?_,fun x hx=>?_⟩
  ·rw [e6] at hx
   have hx':=(List.mem_filter.1 hx).1
   obtain ⟨t0,ht0,_⟩:=h2.ac x hx'
   obtain ⟨u,hu,hsame⟩:=hlike.h x t0 ht0
   rw [hv,Option.some.injEq] at hu
   subst hu
   obtain ⟨m',hm',ho'⟩:=h10 x hx' t0 ht0
   refine ⟨m',by rw [hsame.i];exact hm',fun k=>?_⟩
   have:zk v k=zk t0 k:=by unfold zk;rw [hsame.x]
   rw [ho' k,hsame.w,this]
  ·rw [hG']
   exact zF h.a1 (by
    show ∀ k∈S'.logs_,k < (G.length:Int)
    rw [e1];exact h.a1 S (zW h1))
  ·rw [hlike.l]
   refine zF h.a2 ⟨?_,?_⟩
   ·have:=k1.ac.lt;rw [hlike.l] at this;exact this
   ·have:=k1.ov.lt;rw [hlike.l] at this;exact this
  ·rw [hD']
   obtain ⟨y,hy,he⟩:=List.mem_map.1 (hGd x hx)
   rw [← he];exact h.a3 y hy
theorem qfD (h:Inv N z D T G X p s sure wrote i):∃ D' T' G' e,M13 s D T G=some (D',T',G',e)∧Inv N z D' T' G' X p s sure wrote (i+1):=by
 obtain ⟨S,d,gc,go,lc,lo,tc,to_,h1,h2,h3,h4,h5,h6,h7,h8,h9,h10⟩:=h.ex
 obtain ⟨D',h',g',dn',G',e,q1,q2,q3,q4,q5,q6⟩:=qdn h1 h2 h4 h6 h7 h9 h.a3
 refine ⟨D',_,G',e,q1,?_⟩
 rcases q6 with ⟨d',gc',go',lc',lo',tc',to',r1,r2,r3,r4⟩ | ⟨r1,_⟩
 ·refine ⟨⟨turned S h' g' dn',d',gc',go',lc',lo',tc',to',qp h1,h2.turned h' g' dn',h3,h4,?_,r1,r2,r3 h8,r4,h10⟩,h.wk,?_,zF h.a2 (h.a2 S (zW h1)),fun x hx=>by rw [q3];exact q5 x hx⟩
  ·show 2*S.now_+(S.active_.length:Int)≤((i+1:Nat):Int)
   omega
  ·rw [q4];exact zF h.a1 (h.a1 S (zW h1))
 ·exact absurd h8 r1
end
end Go.Proofs.YtbjidacdnjojnaaGreatDoor
end
section
namespace Go.Proofs.YtbjidacdnjojnaaGreatDoor
open Go.S
def empty20:SS:=List.replicate 20 []
theorem vK (v:SS):(qC v).map xb=v:=by
 unfold qC
 rw [List.map_map]
 have:(xb ∘ fun x=>[(⟨0,x⟩:TVersion)])=id:=funext fun x=>rfl
 rw [this,List.map_id]
section
variable {D:List TDisk} {T:List TStore} {G:List TLog} {X:List Ttx}
theorem qcC {p:Int} {d:TDisk} {N:Nat} (hp:idx D p=some d) (hk:Dk N d) (hN:N / 2 < 2) (hT:∀ x∈T,TStore.ok100 G.length x):M10 p D T G=some (D,T,G,-1,1):=by
 have hkn:=hk.n
 have hdiv:qgV .i64 (N:Int) 2=some ((N / 2:Nat):Int):=by
  rw [qgV,if_pos (by decide),show (N:Int).tdiv 2=((N / 2:Nat):Int) from (Int.ofNat_tdiv N 2).symm,xv (by omega) (by omega)]
 have hall:wJ (List.replicate 2 (-1:Int)) G.length=true:=by
  simp [wJ];omega
 rw [M10,qdZ hp hk,qa,hdiv,qa,qr (by omega) (by omega),qa,xn ⟨hT,hall⟩,qa,M21,if_neg (by omega),if_pos (by omega),qa0,if_pos rfl,qN,if_pos (by decide)]
theorem qa2 {N f z:Nat} (h:f+z≤N):reg (List.replicate N zsec) f z=List.replicate z zsec:=by
 unfold reg
 rw [List.drop_replicate,List.take_replicate,Nat.min_eq_left (by omega)]
theorem vx {z:Nat} (hz:2≤z):Tells (List.replicate z zsec) 0 []:=by
 refine ⟨⟨Int.le_refl _,by decide⟩,⟨zsec,?_,qbx ⟨Int.le_refl _,by decide⟩ (.inr ⟨rfl,rfl⟩)⟩,⟨[],.stop (.dead (x:=zsec) ?_ (Dead.zero 0)),rfl,by simp⟩⟩
 ·rw [List.getElem?_replicate,if_pos (by omega)]
 ·rw [List.getElem?_replicate,if_pos (by omega)]
theorem vN {C:SS} {N z f:Nat} {p:Int} {l:TLog} (hC:C.length=N) (hf:f+z≤N) (hz:2≤z) (h0:C[f]?=some (pad (aT 1))) (h1:∀ i,1≤i→i < z→C[f+i]?=some zsec) (hl:l=⟨p,f,z,1,1,0,false⟩):∃ m R,Half (flat C) l p f z [] m R∧reg C f z=R:=by
 have hlen:(reg C f z).length=z:=zt (by omega)
 have h00:(reg C f z)[0]?=some (pad (aT 1)):=by rw [xX (by omega)];exact h0
 have hE:Ep (1:Int):=⟨by decide,by decide⟩
 subst hl
 refine ⟨0,reg C f z,⟨⟨Int.le_refl _,hE,⟨hE,.inl rfl,fun t h=>(by cases h),⟨(reg C f z).drop 1,by simp [lay],fun x hx=>?_⟩⟩,Near.refl _ _,h00,by simp,hz,fun w hw=>(by cases hw)⟩,rfl,h00,rfl,rfl,rfl,rfl,rfl,rfl⟩,rfl⟩
 obtain ⟨i,hi,rfl⟩:=List.getElem_of_mem hx
 rw [List.length_drop] at hi
 have e:((reg C f z).drop 1)[i]?=some zsec:=by
  rw [List.getElem?_drop,xX (by omega)]
  exact h1 (1+i) (by omega) (by omega)
 rw [List.getElem?_eq_getElem (by simp;omega),Option.some.injEq] at e
 rw [e]
 exact Dead.zero 0
theorem qdL (n:Int) (a1:∀ x∈T,TStore.ok100 G.length x) (a2:∀ x∈T,TStore.ok88 X.length x) (a3:∀ x∈G,x.d_ < D.length) :
  (∃ l1 l2 l3 x y,M6 n D T G=some (l1,l2,l3,x,y,false))∨∃ N z D' T' G' p s,M6 n D T G=some (D',T',G',p,s,true)∧z=N / 2∧2≤z∧Inv N z D' T' G' X p s empty20 [] 0:=by
 rw [M6,xn a3,qa]
 by_cases c1:n < 1
 ·rw [M17,if_pos c1,ql,if_pos (by decide)]
  exact .inl ⟨_,_,_,_,_,rfl⟩
 by_cases c2:256 < n
 ·rw [M17,if_neg c1,if_pos c2,ql,if_pos (by decide)]
  exact .inl ⟨_,_,_,_,_,rfl⟩
 obtain ⟨N,rfl⟩:=Int.eq_ofNat_of_zero_le (show 0≤n by omega)
 have hN:N≤256:=by omega
 rw [qiK (by omega) hN,ql,if_neg (by simp),if_neg (by omega)]
 have hk:Dk N (flat (List.replicate N zsec)):=Dk.new hN
 have hp:idx (D++[flat (List.replicate N zsec)]) (D.length:Int)=some (flat (List.replicate N zsec)):=qL
 rw [show (⟨List.replicate N zsec,List.replicate N zsec,[],-1⟩:TDisk)=flat (List.replicate N zsec) from rfl]
 by_cases cz:N / 2 < 2
 ·rw [qcC hp hk cz a1,qN,xn rfl,qa,if_neg (by decide)]
  exact .inl ⟨_,_,_,_,_,rfl⟩
 ·have hz2:2≤N / 2:=by omega
  have hT0:Tells (reg (List.replicate N zsec) 0 (N / 2)) 0 []:=by rw [qa2 (by omega)];exact vx hz2
  have hT1:Tells (reg (List.replicate N zsec) (N / 2) (N / 2)) 0 []:=by rw [qa2 (by omega)];exact vx hz2
  have hsel:Sel ⟨0,true,List.replicate 20 []⟩ ⟨0,true,List.replicate 20 []⟩ empty20:=by
   unfold Sel
   rw [if_neg (by simp)]
   exact ⟨rfl,rfl⟩
  rcases vJ hp hk rfl hz2 hT0 hT1 .nil .nil (by simp) (by simp) hsel a1 with ⟨D',G',hlen,g⟩ | ⟨_,_,rs0,rs1,_,_,hr0,hr1,g⟩
  ·left
   rw [g,qN,xn hlen,qa,if_neg (by decide)]
   exact ⟨_,_,_,_,_,rfl⟩
  ·right
   have e0:rs0=[]:=by simpa using hr0
   have e1:rs1=[]:=by simpa using hr1
   subst e0
   subst e1
   have hpick:pick ⟨0,true,List.replicate 20 []⟩ ⟨0,true,List.replicate 20 []⟩=false:=by decide
   rw [hpick] at g
   simp only [Bool.false_eq_true,if_false] at g
   rw [g,qN,xn (by simp),qa,if_pos rfl]
   have hd:decide (0≤(T.length:Int))=true:=decide_eq_true (by omega)
   rw [hd]
   obtain ⟨C2,hC2⟩:∃ C2,C2=zl (List.replicate N zsec) (N / 2) 0 0:=⟨_,rfl⟩
   rw [← hC2]
   refine ⟨N,N / 2,_,_,_,_,_,rfl,rfl,hz2,?_⟩
   have hCl:C2.length=N:=by rw [hC2];simp [zl]
   have ha:=xR (0+1)
   have hz64:∀ x∈List.replicate N zsec,x.length=64:=hk.s64
   have h64:∀ x∈C2,x.length=64:=by
    rw [hC2]
    exact xA (P:=fun x=>x.length=64) (xA (P:=fun x=>x.length=64) hz64 (xh (by omega))) (xh (by omega))
   have hdk:Dk N (flat C2):=qaM (k:=hk) hCl h64
   have hget:∀ i,i < N→C2[i]?=if i=0∨i=N / 2 then some (pad (aT 1)) else some zsec:=by
    intro i hi
    rw [hC2]
    unfold zl
    by_cases q1:i=N / 2
    ·rw [if_pos (.inr q1),← q1,List.getElem?_set_self (by simp;omega)];rfl
    ·rw [List.getElem?_set_ne (by omega)]
     by_cases q0:i=0
     ·subst q0
      rw [if_pos (.inl rfl),List.getElem?_set_self (by simp;omega)];rfl
     ·rw [if_neg (by omega),List.getElem?_set_ne (by omega),List.getElem?_replicate,if_pos hi]
   have hf0:=vN (l:=(⟨(D.length:Int),0,((N / 2:Nat):Int),0+1,(xd 1 0 []:Nat),([]:Recs).length,false⟩:TLog)) (p:=(D.length:Int)) (f:=0) (z:=N / 2) hCl (by omega) hz2 (by rw [hget 0 (by omega),if_pos (.inl rfl)]) (fun i h1 h2=>by rw [Nat.zero_add,hget i (by omega),if_neg (by omega)]) rfl
   have hf1:=vN (l:=(⟨(D.length:Int),((N / 2:Nat):Int),((N / 2:Nat):Int),0+1,(xd 1 0 []:Nat),([]:Recs).length,false⟩:TLog)) (p:=(D.length:Int)) (f:=N / 2) (z:=N / 2) hCl (by omega) hz2 (by rw [hget _ (by omega),if_pos (.inr rfl)]) (fun i h1 h2=>by rw [hget _ (by omega),if_neg (by omega)]) rfl
   obtain ⟨m0,R0,q0,q1⟩:=hf0
   obtain ⟨m1,R1,q2,q3⟩:=hf1
   have hset:(D++[flat (List.replicate N zsec)]).set (D.length:Int).toNat (flat C2)=D++[flat C2]:=wm _ _ _
   rw [hset]
   refine ⟨⟨vn [(G.length:Int),(G.length:Int)+1] 0 0 (qC empty20),flat C2,(G.length:Int),(G.length:Int)+1,_,_,[],[],qL,?_,?_,?_,?_,?_,?_,rfl,⟨qL,hdk,by omega,.inl rfl,?_,?_,by omega,⟨m0,R0,q0,q1,fun w hw=>(by cases hw)⟩,⟨m1,R1,q2⟩,by simp [flat],.nil,fun k=>⟨_,by rw [List.take_nil];exact .nil,fun _=>Int.le_refl _⟩,Int.le_refl _,Int.le_refl _,by show (0:Int)≤0+1+(0+1);decide⟩,fun a ha=>(by cases ha)⟩,fun k m hm=>(by cases hm),fun x hx=>?_,fun x hx=>?_,fun x hx=>?_⟩
   ·refine ⟨rfl,by simp [vn,qC,empty20],fun l hl=>?_,Int.le_refl _,by show (0:Int)≤_;decide,fun x hx=>(by cases hx),by simp [vn],by simp [vn],fun x hx=>(by cases hx),fun x hx=>(by cases hx),by simp [vn],fun x hx=>(by cases hx)⟩
    obtain ⟨x,hx,rfl⟩:=List.mem_map.1 hl
    have hx0:x=[]:=(List.mem_replicate.1 hx).2
    refine ⟨by simp,fun i hi=>by simp at hi,fun v hv=>?_,by simp⟩
    rw [List.mem_singleton.1 hv,hx0]
    exact ⟨Int.le_refl _,Int.le_refl _,by simp⟩
   ·intro l hl
    obtain ⟨x,hx,rfl⟩:=List.mem_map.1 hl
    simp
   ·exact (vK _).symm
   ·simp [vn]
   ·simp [vn,za,idx]
   ·simp [vn,za,idx]
   ·rw [zm,List.getElem?_append_left (by simp),List.getElem?_append_right (by omega)]
    simp
   ·rw [show ((G.length:Int)+1)=((G.length+1:Nat):Int) by push_cast;rfl,zm,List.getElem?_append_right (by simp)]
    simp
   ·rcases List.mem_append.1 hx with hx | hx
    ·intro k hk
     have:=a1 x hx k hk
     simp;omega
    ·rw [List.mem_singleton.1 hx]
     intro k hk
     simp [vn] at hk
     simp;omega
   ·rcases List.mem_append.1 hx with hx | hx
    ·exact a2 x hx
    ·rw [List.mem_singleton.1 hx]
     exact ⟨fun k hk=>(by cases hk),fun k hk=>(by cases hk)⟩
   ·rcases List.mem_append.1 hx with hx | hx
    ·rcases List.mem_append.1 hx with hx | hx
     ·have:=a3 x hx
      simp;omega
     ·rw [List.mem_singleton.1 hx]
      simp;omega
    ·rw [List.mem_singleton.1 hx]
     simp;omega
end
end Go.Proofs.YtbjidacdnjojnaaGreatDoor
end
section
namespace Go.Proofs.YtbjidacdnjojnaaGreatDoor
open Go.S
structure qju (N z:Nat) (D:List TDisk) (T:List TStore) (G:List TLog) (p:Int) (sure:SS):Prop where
  ex:∃ d,idx D p=some d∧Dk N d∧vZ d z sure
  a1:∀ x∈T,TStore.ok100 G.length x
section
variable {D:List TDisk} {T:List TStore} {G:List TLog} {p:Int} {N z:Nat} {sure:SS}
theorem qaC {C:SS} {A0 A1:Int} (hC:z+z≤C.length) (hz:2≤z):reg (zl C z A0 A1) 0 z=(reg C 0 z).set 0 (pad (aT (A0+1)))∧reg (zl C z A0 A1) z z=(reg C z z).set 0 (pad (aT (A1+1))):=by
  unfold zl
  constructor
  · have h1:=xW (S:=C.set 0 (pad (aT (A0+1)))) (P:=[pad (aT (A1+1))]) (a:=z) (f:=0) (z:=z) (by simp;omega) (by simp;omega) (by simp)
    rw [put,put] at h1
    rw [h1,qaA (by omega) (by omega)]
  · rw [qaA (by simp;omega) (by omega)]
    congr 1
    have h1:=xW (S:=C) (P:=[pad (aT (A0+1))]) (a:=0) (f:=z) (z:=z) (by omega) (by simp;omega) (by simp;omega)
    rw [put,put] at h1
    exact h1
theorem qiA (h:qju N z D T G p sure) (hz:z=N / 2) (hz2:2≤z) (hsl:sure.length=20) (keep:List Bool):∃ D1,M9 p keep D=some D1 ∧
    ((∃ D' G',M10 p D1 T G=some (D',T,G',-1,8)) ∨
     (∃ D' S' G',M10 p D1 T G=some (D',T++[S'],G',(T.length:Int),0)∧M11 (T.length:Int) (T++[S'])=some sure∧qju N z D' (T++[S']) G' p sure)):=by
  obtain ⟨d,hp,hk,hr⟩:=h.ex
  refine ⟨_,qfR hp hk keep,?_⟩
  have hkc:=hk.crashed keep
  have hrec:=hr keep
  have hCl:(qY keep 0 d.late_ d.safe_).length=N:=hkc.s
  have hkn:=hk.n
  rw [show (⟨qY keep 0 d.late_ d.safe_,qY keep 0 d.late_ d.safe_,[],-1⟩:TDisk)=flat (qY keep 0 d.late_ d.safe_) from rfl] at hkc ⊢
  generalize qY keep 0 d.late_ d.safe_=C at hkc hrec hCl
  have hp2:idx (D.set p.toNat (flat C)) p=some (flat C):=qp hp
  obtain ⟨A0,A1,t0,t1,m0,m1,h0,h1,i0,i1,l0,l1,hs⟩:=hrec
  rcases vJ hp2 hkc hz hz2 h0 h1 i0 i1 l0 l1 hs h.a1 with ⟨D',G',_,g⟩ | ⟨c0,c1,rs0,rs1,_,_,_,_,g⟩
  · exact .inl ⟨D',G',g⟩
  · right
    obtain ⟨r0,r1⟩:=qaC (C:=C) (A0:=A0) (A1:=A1) (by omega) hz2
    have ha0:=xR (A0+1)
    have ha1:=xR (A1+1)
    have h0e:=h0.eA.1
    have h1e:=h1.eA.1
    have h64:∀ x∈zl C z A0 A1,x.length=64:=xA (P:=fun x=>x.length=64) (xA (P:=fun x=>x.length=64) hkc.s64 (xh (by omega))) (xh (by omega))
    have hk2:Dk N (flat (zl C z A0 A1)):=qaM (k:=hk) (by simp [zl,hCl]) h64
    refine ⟨_,_,_,g,?_,⟨⟨_,qp hp2,hk2,fun keep'=>?_⟩,fun x hx=>?_⟩⟩
    · rw [kE qL rfl (by simp [vn,qC,hsl]) fun l hl=>?_]
      · show some ((qC sure).map xb)=some sure
        rw [vK]
      · obtain ⟨x,hx,rfl⟩:=List.mem_map.1 hl
        simp
    · show Rec (qY keep' 0 [] (zl C z A0 A1)) z sure
      rw [qY]
      refine ⟨A0+1,A1+1,t0,t1,m0,m1,?_,?_,i0,i1,l0,l1,hs⟩
      · rw [r0];exact h0.anchor (by omega) ⟨by omega,by omega⟩
      · rw [r1];exact h1.anchor (by omega) ⟨by omega,by omega⟩
    · rcases List.mem_append.1 hx with hx | hx
      · intro k hk
        have:=h.a1 x hx k hk
        simp;omega
      · rw [List.mem_singleton.1 hx]
        intro k hk
        simp [vn] at hk
        simp;omega
end
abbrev Go2:=Int→List TDisk→List TStore→List TLog→List Ttx→SS→SS→Bool→qeG→Option Bool
theorem MOk.erase {m:Pairs} (h:MOk m) (j:Nat):MOk (m.eraseIdx j):=by
  have hs:=List.eraseIdx_sublist m j
  exact ⟨h.n.sublist (hs.map _),fun q hq=>h.k q (hs.subset hq)⟩
theorem vC:∀ (m:Pairs) (v:SS) (j:Nat) (x:Int×List UInt8),MOk m→m[j]?=some x→xg (v.set x.1.toNat x.2) (m.eraseIdx j)=xg v m
  | [],v,j,x,_,h=>by simp at h
  | q :: m,v,0,x,_,h=>by
    simp only [List.getElem?_cons_zero,Option.some.injEq] at h
    subst h
    rfl
  | q :: m,v,j+1,x,hm,h=>by
    simp only [List.getElem?_cons_succ] at h
    have hn:(q.1 :: m.map (·.1)).Nodup:=by simpa using hm.n
    have hm':MOk m:=⟨(List.nodup_cons.1 hn).2,fun r hr=>hm.k r (List.mem_cons_of_mem _ hr)⟩
    have hxm:=List.mem_of_getElem? h
    have hne:q.1≠x.1:=fun e=>(List.nodup_cons.1 hn).1 (by rw [e];exact List.mem_map.2 ⟨x,hxm,rfl⟩)
    have hq:=hm.k q List.mem_cons_self
    have hx:=hm'.k x hxm
    have ih:=vC m (v.set q.1.toNat q.2) j x hm' h
    show xg ((v.set x.1.toNat x.2).set q.1.toNat q.2) (m.eraseIdx j)=xg (v.set q.1.toNat q.2) m
    rw [List.set_comm _ _ (by omega)]
    exact ih
def qhL (r:Option ((List TDisk)×(List TStore)×(List Ttx)×(List TLog)×Bool)):Bool:=match r with
  | some (D,T,X,G,b)=>b && decide (∀ x∈T,∀ k∈x.logs_,k < G.length) && decide (∀ x∈T,(∀ k∈x.active_,k < X.length)∧∀ k∈x.over_,k < X.length) && decide (∀ x∈G,x.d_ < D.length)
  | none=>false
set_option maxRecDepth 100000 in
theorem qcr:qhL (M5 [] [] [] [])=true:=by decide +kernel
theorem qfa:∃ D T X G,M5 [] [] [] []=some (D,T,X,G,true)∧(∀ x∈T,TStore.ok100 G.length x)∧(∀ x∈T,TStore.ok88 X.length x)∧∀ x∈G,x.d_ < D.length:=by
  have h:=qcr
  cases hw:M5 [] [] [] [] with
  | none=>rw [hw] at h;simp [qhL] at h
  | some r =>
    obtain ⟨D,T,X,G,b⟩:=r
    rw [hw] at h
    simp only [qhL,Bool.and_eq_true,decide_eq_true_eq] at h
    obtain ⟨⟨⟨h1,h2⟩,h3⟩,h4⟩:=h
    subst h1
    exact ⟨D,T,X,G,rfl,h2,h3,h4⟩
end Go.Proofs.YtbjidacdnjojnaaGreatDoor
end
