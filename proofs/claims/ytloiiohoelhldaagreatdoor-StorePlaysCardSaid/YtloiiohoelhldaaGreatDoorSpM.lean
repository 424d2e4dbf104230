import Derived.Test.YtloiiohoelhldaaGreatDoorZc
import Derived.Test.YtloiiohoelhldaaGreatDoorZb
namespace Go.Proofs.YtloiiohoelhldaaGreatDoor
open Go.S
set_option linter.unusedVariables false
structure Twrite where
 at_:Int
 text_:(List UInt8)
 deriving DecidableEq,Inhabited
def Twrite.row(x:Twrite):List Value:=[.int .i64 x.at_,st x.text_]
structure TDisk where
 safe_:(List (List UInt8))
 seen_:(List (List UInt8))
 late_:(List Twrite)
 left_:Int
 deriving DecidableEq,Inhabited
def TDisk.rowA(x:TDisk)(vs:List Value):List Value:=[gv vs 0,gv vs 1,gv vs 2,.int .i64 x.left_]
def TDisk.subA(x:TDisk)(vs:List Value):List As:=[.sl (gv vs 0) 9 1 (x.safe_.map SR),.sl (gv vs 1) 9 1 (x.seen_.map SR),.sl (gv vs 2) 91 2 (x.late_.map Twrite.row)]
abbrev jX(kD:Nat→Nat)(gh:Nat→List Value)(l:List TDisk)(hs:List Nat):As:=arn (TDisk.rowA) (TDisk.subA) 57 kD gh l hs
structure TDisk51 where
 Seen:(List (List UInt8))
 Safe:(List (List UInt8))
 late_:(List Int)
 texts_:(List (List UInt8))
 left_:Int
 deriving DecidableEq,Inhabited
def TDisk51.rowA(x:TDisk51)(vs:List Value):List Value:=[gv vs 0,gv vs 1,gv vs 2,gv vs 3,.int .i64 x.left_]
def TDisk51.subA(x:TDisk51)(vs:List Value):List As:=[.sl (gv vs 0) 9 1 (x.Seen.map SR),.sl (gv vs 1) 9 1 (x.Safe.map SR),.sl (gv vs 2) 3 1 (x.late_.map I),.sl (gv vs 3) 9 1 (x.texts_.map SR)]
abbrev yS(kF:Nat→Nat)(gh:Nat→List Value)(l:List TDisk51)(hs:List Nat):As:=arn (TDisk51.rowA) (TDisk51.subA) 51 kF gh l hs
structure TLog where
 d_:Int
 from_:Int
 size_:Int
 epoch_:Int
 at_:Int
 seq_:Int
 fell_:Bool
 deriving DecidableEq,Inhabited
def TLog.rowA(kD:Nat→Nat)(x:TLog)(vs:List Value):List Value:=[VP kD x.d_,.int .i64 x.from_,.int .i64 x.size_,.int .i64 x.epoch_,.int .i64 x.at_,.int .i64 x.seq_,.bool x.fell_]
def TLog.subA(kD:Nat→Nat)(x:TLog)(vs:List Value):List As:=[]
abbrev jV(kD kB:Nat→Nat)(gh:Nat→List Value)(l:List TLog)(hs:List Nat):As:=arn (TLog.rowA kD) (TLog.subA kD) 108 kB gh l hs
abbrev TLog.ok57(n:Nat)(x:TLog):Prop:=(x.d_<n)
theorem TLog.cg57{kD:Nat→Nat}{n n':Nat}{g':Nat→Nat}{x:TLog}{v:List Value}(h:Gr kD n g' n')(hx:x.ok57 n):TLog.rowA kD x v=TLog.rowA g' x v∧TLog.subA kD x v=TLog.subA g' x v:=by
 have h0:=hx
 constructor<;>simp only[TLog.rowA,TLog.subA,qjd h h0]
theorem qf4{kD kB:Nat→Nat}{n n':Nat}{g':Nat→Nat}{gh:Nat→List Value}{l:List TLog}{hs:List Nat}(h:Gr kD n g' n')(hx:∀x∈l,TLog.ok57 n x):jV kD kB gh l hs=jV g' kB gh l hs:=qaL fun x hm v=>TLog.cg57 h (hx x hm)
structure Trecord where
 epoch_:Int
 text_:(List UInt8)
 size_:Int
 deriving DecidableEq,Inhabited
def Trecord.row(x:Trecord):List Value:=[.int .i64 x.epoch_,st x.text_,.int .i64 x.size_]
structure Timage where
 gen_:Int
 whole_:Bool
 values_:(List (List UInt8))
 deriving DecidableEq,Inhabited
structure TVersion where
 At:Int
 Text:(List UInt8)
 deriving DecidableEq,Inhabited
def TVersion.row(x:TVersion):List Value:=[.int .i64 x.At,st x.Text]
structure TStore where
 logs_:(List Int)
 half_:Int
 gen_:Int
 down_:Bool
 now_:Int
 items_:(List (List TVersion))
 active_:(List Int)
 over_:(List Int)
 deriving DecidableEq,Inhabited
def TStore.rowA(kB kA:Nat→Nat)(x:TStore)(vs:List Value):List Value:=List.flatten [(zr (fzr (PR kB)) (fun _=>[]) x.logs_).flatten,[.int .i64 x.half_],[.int .i64 x.gen_],[.bool x.down_],[.int .i64 x.now_],(zr qn (qN vs 2) x.items_).flatten,[gv vs 0],[gv vs 1]]
def TStore.subA(kB kA:Nat→Nat)(x:TStore)(vs:List Value):List As:=[.sl (gv vs 0) 127 1 (x.active_.map (PR kA)),.sl (gv vs 1) 127 1 (x.over_.map (PR kA)),.ss (zs sd0 (fun _=>[]) x.logs_),.ss (zs (zv 76 2 TVersion.row) (qN vs 2) x.items_)]
abbrev kZ(kG kB kA:Nat→Nat)(gh:Nat→List Value)(l:List TStore)(hs:List Nat):As:=arn (TStore.rowA kB kA) (TStore.subA kB kA) 67 kG gh l hs
abbrev TStore.ok108(n:Nat)(x:TStore):Prop:=(∀k∈x.logs_,k<n)
theorem TStore.cg108{kB kA:Nat→Nat}{n n':Nat}{g':Nat→Nat}{x:TStore}{v:List Value}(h:Gr kB n g' n')(hx:x.ok108 n):TStore.rowA kB kA x v=TStore.rowA g' kA x v∧TStore.subA kB kA x v=TStore.subA g' kA x v:=by
 have h0:=hx
 constructor<;>simp only[TStore.rowA,TStore.subA,qcg h _ _ h0]
theorem qaM{kG kB kA:Nat→Nat}{n n':Nat}{g':Nat→Nat}{gh:Nat→List Value}{l:List TStore}{hs:List Nat}(h:Gr kB n g' n')(hx:∀x∈l,TStore.ok108 n x):kZ kG kB kA gh l hs=kZ kG g' kA gh l hs:=qaL fun x hm v=>TStore.cg108 h (hx x hm)
abbrev TStore.ok130(n:Nat)(x:TStore):Prop:=(∀k∈x.active_,k<n)∧(∀k∈x.over_,k<n)
theorem TStore.cg130{kB kA:Nat→Nat}{n n':Nat}{g':Nat→Nat}{x:TStore}{v:List Value}(h:Gr kA n g' n')(hx:x.ok130 n):TStore.rowA kB kA x v=TStore.rowA kB g' x v∧TStore.subA kB kA x v=TStore.subA kB g' x v:=by
 obtain⟨h0,h1⟩:=hx
 constructor<;>simp only[TStore.rowA,TStore.subA,qf5 h h0,qf5 h h1]
theorem qf2{kG kB kA:Nat→Nat}{n n':Nat}{g':Nat→Nat}{gh:Nat→List Value}{l:List TStore}{hs:List Nat}(h:Gr kA n g' n')(hx:∀x∈l,TStore.ok130 n x):kZ kG kB kA gh l hs=kZ kG kB g' gh l hs:=qaL fun x hm v=>TStore.cg130 h (hx x hm)
structure TLog122 where
 d_:Int
 from_:Int
 size_:Int
 epoch_:Int
 at_:Int
 seq_:Int
 fell_:Bool
 deriving DecidableEq,Inhabited
def TLog122.rowA(kF:Nat→Nat)(x:TLog122)(vs:List Value):List Value:=[VP kF x.d_,.int .i64 x.from_,.int .i64 x.size_,.int .i64 x.epoch_,.int .i64 x.at_,.int .i64 x.seq_,.bool x.fell_]
def TLog122.subA(kF:Nat→Nat)(x:TLog122)(vs:List Value):List As:=[]
abbrev xL(kF kC:Nat→Nat)(gh:Nat→List Value)(l:List TLog122)(hs:List Nat):As:=arn (TLog122.rowA kF) (TLog122.subA kF) 122 kC gh l hs
abbrev TLog122.ok51(n:Nat)(x:TLog122):Prop:=(x.d_<n)
theorem TLog122.cg51{kF:Nat→Nat}{n n':Nat}{g':Nat→Nat}{x:TLog122}{v:List Value}(h:Gr kF n g' n')(hx:x.ok51 n):TLog122.rowA kF x v=TLog122.rowA g' x v∧TLog122.subA kF x v=TLog122.subA g' x v:=by
 have h0:=hx
 constructor<;>simp only[TLog122.rowA,TLog122.subA,qjd h h0]
theorem qf3{kF kC:Nat→Nat}{n n':Nat}{g':Nat→Nat}{gh:Nat→List Value}{l:List TLog122}{hs:List Nat}(h:Gr kF n g' n')(hx:∀x∈l,TLog122.ok51 n x):xL kF kC gh l hs=xL g' kC gh l hs:=qaL fun x hm v=>TLog122.cg51 h (hx x hm)
structure TStore81 where
 logs_:(List Int)
 half_:Int
 gen_:Int
 down_:Bool
 now_:Int
 first_:(List (List UInt8))
 deals_:(List Int)
 deriving DecidableEq,Inhabited
def TStore81.rowA(kC kE:Nat→Nat)(x:TStore81)(vs:List Value):List Value:=List.flatten [(zr (fzr (PR kC)) (fun _=>[]) x.logs_).flatten,[.int .i64 x.half_],[.int .i64 x.gen_],[.bool x.down_],[.int .i64 x.now_],(zr (fzr SR) (fun _=>[]) x.first_).flatten,[gv vs 0]]
def TStore81.subA(kC kE:Nat→Nat)(x:TStore81)(vs:List Value):List As:=[.sl (gv vs 0) 143 1 (x.deals_.map (PR kE)),.ss (zs sd0 (fun _=>[]) x.logs_),.ss (zs sd0 (fun _=>[]) x.first_)]
abbrev jS(kI kC kE:Nat→Nat)(gh:Nat→List Value)(l:List TStore81)(hs:List Nat):As:=arn (TStore81.rowA kC kE) (TStore81.subA kC kE) 81 kI gh l hs
abbrev TStore81.ok122(n:Nat)(x:TStore81):Prop:=(∀k∈x.logs_,k<n)
theorem TStore81.cg122{kC kE:Nat→Nat}{n n':Nat}{g':Nat→Nat}{x:TStore81}{v:List Value}(h:Gr kC n g' n')(hx:x.ok122 n):TStore81.rowA kC kE x v=TStore81.rowA g' kE x v∧TStore81.subA kC kE x v=TStore81.subA g' kE x v:=by
 have h0:=hx
 constructor<;>simp only[TStore81.rowA,TStore81.subA,qcg h _ _ h0]
theorem qf1{kI kC kE:Nat→Nat}{n n':Nat}{g':Nat→Nat}{gh:Nat→List Value}{l:List TStore81}{hs:List Nat}(h:Gr kC n g' n')(hx:∀x∈l,TStore81.ok122 n x):jS kI kC kE gh l hs=jS kI g' kE gh l hs:=qaL fun x hm v=>TStore81.cg122 h (hx x hm)
abbrev TStore81.ok149(n:Nat)(x:TStore81):Prop:=(∀k∈x.deals_,k<n)
theorem TStore81.cg149{kC kE:Nat→Nat}{n n':Nat}{g':Nat→Nat}{x:TStore81}{v:List Value}(h:Gr kE n g' n')(hx:x.ok149 n):TStore81.rowA kC kE x v=TStore81.rowA kC g' x v∧TStore81.subA kC kE x v=TStore81.subA kC g' x v:=by
 have h0:=hx
 constructor<;>simp only[TStore81.rowA,TStore81.subA,qf5 h h0]
theorem qf0{kI kC kE:Nat→Nat}{n n':Nat}{g':Nat→Nat}{gh:Nat→List Value}{l:List TStore81}{hs:List Nat}(h:Gr kE n g' n')(hx:∀x∈l,TStore81.ok149 n x):jS kI kC kE gh l hs=jS kI kC g' gh l hs:=qaL fun x hm v=>TStore81.cg149 h (hx x hm)
structure Ttx where
 id_:Int
 from_:Int
 at_:Int
 reads_:(List Int)
 writes_:(List Int)
 texts_:(List (List UInt8))
 in_:Bool
 out_:Bool
 deriving DecidableEq,Inhabited
def Ttx.rowA(x:Ttx)(vs:List Value):List Value:=List.flatten [[.int .i64 x.id_],[.int .i64 x.from_],[.int .i64 x.at_],[gv vs 0],[gv vs 1],(zr (fzr SR) (fun _=>[]) x.texts_).flatten,[.bool x.in_],[.bool x.out_]]
def Ttx.subA(x:Ttx)(vs:List Value):List As:=[.sl (gv vs 0) 3 1 (x.reads_.map I),.sl (gv vs 1) 3 1 (x.writes_.map I),.ss (zs sd0 (fun _=>[]) x.texts_)]
abbrev yV(kA:Nat→Nat)(gh:Nat→List Value)(l:List Ttx)(hs:List Nat):As:=arn (Ttx.rowA) (Ttx.subA) 130 kA gh l hs
structure TWish where
 Kind:Int
 Tx:Int
 Item:Int
 Text:(List UInt8)
 deriving DecidableEq,Inhabited
def TWish.row(x:TWish):List Value:=[.int .i64 x.Kind,.int .i64 x.Tx,.int .i64 x.Item,st x.Text]
structure TTold where
 Err:Int
 Text:(List UInt8)
 deriving DecidableEq,Inhabited
def TTold.row(x:TTold):List Value:=[.int .i64 x.Err,st x.Text]
structure TOp where
 Tx:Int
 Kind:Int
 Item:Int
 deriving DecidableEq,Inhabited
def TOp.row(x:TOp):List Value:=[.int .i64 x.Tx,.int .i64 x.Kind,.int .i64 x.Item]
structure TDeal where
 id_:Int
 from_:Int
 at_:Int
 over_:Bool
 Ops:(List TOp)
 texts_:Option (List (Int×(List UInt8)))
 deriving DecidableEq,Inhabited
def TDeal.rowA(x:TDeal)(vs:List Value):List Value:=[.int .i64 x.id_,.int .i64 x.from_,.int .i64 x.at_,.bool x.over_,gv vs 0,gv vs 1]
def TDeal.subA(x:TDeal)(vs:List Value):List As:=[.sl (gv vs 0) 151 3 (x.Ops.map TOp.row),mpo st (gv vs 1) x.texts_]
abbrev zP(kE:Nat→Nat)(gh:Nat→List Value)(l:List TDeal)(hs:List Nat):As:=arn (TDeal.rowA) (TDeal.subA) 149 kE gh l hs
structure TStoreDeed where
 Wish:TWish
 Fuse:Int
 Keep:(List Bool)
 deriving DecidableEq,Inhabited
def TStoreDeed.rowv(x:TStoreDeed)(vs:List Value):List Value:=[.int .i64 x.Wish.Kind,.int .i64 x.Wish.Tx,.int .i64 x.Wish.Item,st x.Wish.Text,.int .i64 x.Fuse,gv vs 0]
def TStoreDeed.sds(x:TStoreDeed)(vs:List Value):List Sd:=[⟨gv vs 0,4,1,x.Keep.map B⟩]
def qm0(gx1:Int)(gl3:(List TDisk)):Option ((List TDisk)×Int×Int):=
 qb (idx gl3 gx1) fun th5=>qb (app [] th5.safe_) fun l7=>qb (upd gl3 gx1 (⟨th5.safe_,l7,th5.late_,th5.left_⟩:TDisk)) fun l8=>some (l8,gx1,0)
def qju(go1:Int→(List TDisk)→Option ((List TDisk)×Int×Int))(a0 x11 gx6:Int)(gl7:(List TDisk)):Option ((List TDisk)×Int×Int):=
 if gx6<a0 then qb (idx gl7 x11) fun zV=>qb (xj ([0]) 64) fun s33=>qb (app zV.safe_ ([s33])) fun l37=>qb (i64 (gx6+1)) fun x39=>qb (upd gl7 x11 (⟨l37,zV.seen_,zV.late_,zV.left_⟩:TDisk)) fun l40=>go1 x39 l40 else qm0 x11 gl7
def qiq(a0 x11:Int):Nat→Int→(List TDisk)→Option ((List TDisk)×Int×Int)
 | 0,_,_=>none
 | n+1,gx6,gl7=>qju (qiq a0 x11 n) a0 x11 gx6 gl7
def M4(a0:Int)(A57:(List TDisk)):Option ((List TDisk)×Int×Int):=
 if a0<1 then some (A57,(-1),1) else if 256<a0 then some (A57,(-1),1) else qo (qal A57 (⟨[],[],[],(-1)⟩:TDisk)) fun x11 l12=>qiq a0 x11 big 0 l12
def M18(a0:Int):Option (List UInt8):=
 qb (xj ([0]) a0) fun s1=>some s1
def qmZ(gx1:Int)(gl3:(List TDisk51)):Option ((List TDisk51)×Int):=
 some (gl3,gx1)
def qjq(go1:Int→(List TDisk51)→Option ((List TDisk51)×Int))(a0 x3 gx6:Int)(gl7:(List TDisk51)):Option ((List TDisk51)×Int):=
 if gx6<a0 then qb (idx gl7 x3) fun th9=>qb (M18 64) fun s41=>qb (app th9.Seen ([s41])) fun l45=>qb (M18 64) fun s46=>qb (app th9.Safe ([s46])) fun l50=>qb (i64 (gx6+1)) fun x53=>qb (upd gl7 x3 (⟨l45,l50,th9.late_,th9.texts_,th9.left_⟩:TDisk51)) fun l54=>go1 x53 l54 else qmZ x3 gl7
def qip(a0 x3:Int):Nat→Int→(List TDisk51)→Option ((List TDisk51)×Int)
 | 0,_,_=>none
 | n+1,gx6,gl7=>qjq (qip a0 x3 n) a0 x3 gx6 gl7
def M5(a0:Int)(A51:(List TDisk51)):Option ((List TDisk51)×Int):=
 qo (qal A51 (⟨[],[],[],[],(-1)⟩:TDisk51)) fun x3 l4=>qip a0 x3 big 0 l4
def M19(a0:Int)(A57:(List TDisk)):Option Int:=
 qb (idx A57 a0) fun th1=>some (th1.safe_.length:Int)
def M16(a0 a1:Int)(A57:(List TDisk)):Option ((List UInt8)×Int):=
 if a1<0 then some ([],1) else qb (idx A57 a0) fun th2=>if(th2.safe_.length:Int)≤a1 then some ([],1) else if th2.left_=0 then some ([],13) else qb (idx th2.seen_ a1) fun x5=>some (x5,0)
def qdr(gs1:(List UInt8)):Option (List UInt8):=
 some gs1
def qb9(go1:(List UInt8)→Option (List UInt8))(a1:Int)(gs2:(List UInt8)):Option (List UInt8):=
 if 0<(gs2.length:Int) then qb (i64 ((gs2.length:Int)-1)) fun x2=>qb (qaj gs2 x2) fun x3=>if x3=a1 then qb (i64 ((gs2.length:Int)-1)) fun x5=>qb (cut gs2 0 x5) fun s6=>go1 s6 else qdr gs2 else qdr gs2
def vU(a1:Int):Nat→(List UInt8)→Option (List UInt8)
 | 0,_=>none
 | n+1,gs2=>qb9 (vU a1 n) a1 gs2
def qm4(a0:(List UInt8))(a1:Int):Option (List UInt8):=
 vU a1 big a0
def qds(gs1:(List UInt8)):Option (List UInt8):=
 some gs1
def qca(go1:(List UInt8)→Option (List UInt8))(a1:Int)(gs2:(List UInt8)):Option (List UInt8):=
 if 0<(gs2.length:Int) then qb (qaj gs2 0) fun x2=>if x2=a1 then qb (cut gs2 1 gs2.length) fun s4=>go1 s4 else qds gs2 else qds gs2
def vV(a1:Int):Nat→(List UInt8)→Option (List UInt8)
 | 0,_=>none
 | n+1,gs2=>qca (vV a1 n) a1 gs2
def qm5(a0:(List UInt8))(a1:Int):Option (List UInt8):=
 vV a1 big a0
def qie(gl1:(List Bool)):Option ((List Bool)×Bool):=
 qb (qs 256 gl1) fun _=>qb (qs 256 gl1) fun _=>qb (qs 256 gl1) fun _=>qb (qs 256 gl1) fun _=>some (gl1,true)
def qid(go1:Int→(List Bool)→Option ((List Bool)×Bool))(a0:(List UInt8))(gx2:Int)(gl3:(List Bool)):Option ((List Bool)×Bool):=
 if gx2<(a0.length:Int) then qb (qaj a0 gx2) fun x7=>if 128≤x7 then qb (qs 256 gl3) fun _=>qb (qs 256 gl3) fun _=>qb (qs 256 gl3) fun _=>qb (qs 256 gl3) fun _=>some (gl3,false) else qb (zd 256 gl3 x7) fun x13=>qb (upd gl3 x7 true) fun l14=>qb (i64 (gx2+1)) fun x15=>go1 x15 l14 else qie gl3
def qaW(a0:(List UInt8)):Nat→Int→(List Bool)→Option ((List Bool)×Bool)
 | 0,_,_=>none
 | n+1,gx2,gl3=>qid (qaW a0 n) a0 gx2 gl3
def qn7(a0:(List UInt8)):Option ((List Bool)×Bool):=
 qaW a0 big 0 (List.replicate 256 (false:Bool))
def qn6(a0:Int):Option Bool:=
 some (decide ((Go.bits .and .u8 a0 192)≠128))
def qdn(gb2:Bool):Option Bool:=
 if gb2=true then some true else some false
def qdo(a0:Int)(gb1:Bool):Option Bool:=
 if gb1=true then some true else if 57343<a0 then if a0≤1114111 then qdn true else qdn false else qdn false
def qn4(a0:Int):Option Bool:=
 if 0≤a0 then if a0<55296 then qdo a0 true else qdo a0 false else qdo a0 false
def qn3(a0:Int):Option Int:=
 qb (i64 (a0+16)) fun x1=>qb (qcT .i64 x1 8) fun x2=>some x2
def M80(a0 a1:(List UInt8)):Option (List UInt8):=
 if a0=[] then some a0 else if a1=[] then some a0 else if(a1.length:Int)=1 then qb (qaj a1 0) fun x4=>if x4<128 then qb (qaj a1 0) fun x6=>qb (qm4 a0 x6) fun s7=>qb (qaj a1 0) fun x9=>qb (qm5 s7 x9) fun s10=>some s10 else none else none
def qjk:Option (Int×Int×Int):=
 some (0,0,3)
def qc1(gx2 x2 gx1:Int)(go1:Int→Int→Option (Int×Int×Int)):Option (Int×Int×Int):=
 qb (i64 (7*gx2)) fun x3=>qb (qgu .u64 (IntKind.wrap .u64 (Go.bits .and .u8 x2 127)) x3) fun x4=>if x2<128 then if x2=0 then if 0<gx2 then some (0,0,4) else qb (i64 (gx2+1)) fun x8=>some (Go.bits .or .u64 gx1 x4,x8,0) else qb (i64 (gx2+1)) fun x9=>some (Go.bits .or .u64 gx1 x4,x9,0) else qb (i64 (gx2+1)) fun x10=>go1 (Go.bits .or .u64 gx1 x4) x10
def qeT(go1:Int→Int→Option (Int×Int×Int))(a0:(List UInt8))(gx1 gx2:Int):Option (Int×Int×Int):=
 if gx2<(a0.length:Int) then qb (qaj a0 gx2) fun x2=>if gx2=9 then if 1<x2 then some (0,0,2) else qc1 gx2 x2 gx1 go1 else qc1 gx2 x2 gx1 go1 else qjk
def wS(a0:(List UInt8)):Nat→Int→Int→Option (Int×Int×Int)
 | 0,_,_=>none
 | n+1,gx1,gx2=>qeT (wS a0 n) a0 gx1 gx2
def M83(a0:(List UInt8)):Option (Int×Int×Int):=
 wS a0 big 0 0
def M47(a0:(List UInt8)):Option (Int×Int×Int):=
 qI (M83 a0) fun x1 x2 x3=>if x3≠0 then some (0,0,x3) else qb (qgt .u64 x1 1) fun x6=>if(Go.bits .and .u64 x1 1)=1 then some (IntKind.wrap .i64 (qmo .u64 x6),x2,0) else some (IntKind.wrap .i64 x6,x2,0)
def qfE(gx1:Int)(gl3:(List Int)):Option (List UInt8):=
 qb (app gl3 ([IntKind.wrap .u8 gx1])) fun l3=>some (bytesOf l3)
def qec(go1:Int→(List Int)→Option (List UInt8))(gx4:Int)(gl6:(List Int)):Option (List UInt8):=
 if 128≤gx4 then qb (app gl6 ([Go.bits .or .u8 (IntKind.wrap .u8 gx4) 128])) fun l7=>qb (qgt .u64 gx4 7) fun x8=>go1 x8 l7 else qfE gx4 gl6
def wK:Nat→Int→(List Int)→Option (List UInt8)
 | 0,_,_=>none
 | n+1,gx4,gl6=>qec (wK n) gx4 gl6
def qli(a0:Int):Option (List UInt8):=
 wK big a0 []
def M63(a0:Int):Option (List UInt8):=
 qb (qgu .u64 (IntKind.wrap .u64 a0) 1) fun x1=>if a0<0 then qb (qli (qmo .u64 x1)) fun s3=>some s3 else qb (qli x1) fun s5=>some s5
def qaV(gx1 gx2:Int):Option Int:=
 qb (qgu .u32 gx2 16) fun x1=>some (Go.bits .or .u32 x1 gx1)
def qb4(go1:Int→Int→Int→Option Int)(a0:(List UInt8))(gx3 gx4 gx5:Int):Option Int:=
 if gx5<(a0.length:Int) then qb (qaj a0 gx5) fun x3=>qb (qew (IntKind.wrap .u32 (gx3+(IntKind.wrap .u32 x3))) 65521) fun x4=>qb (qew (IntKind.wrap .u32 (gx4+x4)) 65521) fun x5=>qb (i64 (gx5+1)) fun x6=>go1 x4 x5 x6 else qaV gx3 gx4
def vP(a0:(List UInt8)):Nat→Int→Int→Int→Option Int
 | 0,_,_,_=>none
 | n+1,gx3,gx4,gx5=>qb4 (vP a0 n) a0 gx3 gx4 gx5
def qlB(a0:(List UInt8)):Option Int:=
 vP a0 big 1 0 0
def qjE(a0:(List UInt8)):Option ((List UInt8)×Int):=
 if 4096<(a0.length:Int) then some ([],2) else qb (qlB a0) fun x2=>qb (qgt .u32 x2 24) fun x4=>qb (qgt .u32 x2 16) fun x5=>qb (qgt .u32 x2 8) fun x6=>qb (kp a0 (bytesOf ([IntKind.wrap .u8 x4,IntKind.wrap .u8 x5,IntKind.wrap .u8 x6,IntKind.wrap .u8 x2]))) fun s8=>some (s8,0)
def M81(a0:Int):Option (List UInt8):=
 qb (M63 a0) fun s1=>qo (qjE s1) fun s3 x4=>qb (kp ([3]) s3) fun s6=>some s6
def qdb(x5:Int)(s9 a0:(List UInt8))(gb1:Bool):Option (Int×Int):=
 if gb1=true then some (0,4) else if 1000000<x5 then some (0,4) else qb (i64 (64-(s9.length:Int))) fun x12=>qb (xj ([0]) x12) fun s13=>qb (kp s9 s13) fun s15=>if s15≠a0 then some (0,4) else some (x5,0)
def M44(a0:(List UInt8)):Option (Int×Int):=
 qb (M80 a0 ([0])) fun s1=>if s1=[] then some (0,0) else qb (cut a0 1 a0.length) fun s4=>qI (M47 s4) fun x5 x6 x7=>qb (M81 x5) fun s9=>if x7≠0 then qdb x5 s9 a0 true else if x5<0 then qdb x5 s9 a0 true else qdb x5 s9 a0 false
def M82(a0:(List UInt8))(a1:Int):Option (Int×(List UInt8)×Bool):=
 qb (cut a0 0 1) fun s1=>if s1≠([1]) then some (0,[],false) else qb (cut a0 1 a0.length) fun s3=>qI (M47 s3) fun x4 x5 x6=>if x6≠0 then some (0,[],false) else qb (i64 (1+x5)) fun x9=>qb (cut a0 x9 a0.length) fun s10=>qI (M47 s10) fun x11 x12 x13=>qb (i64 (1+x5)) fun x15=>qb (i64 (x15+x12)) fun x16=>qb (cut a0 x16 a0.length) fun s17=>if x13=0 then some (x4,s17,decide (x11=a1)) else some (x4,s17,false)
def M84(a0:(List UInt8))(a1 a2:Int):Option (List UInt8):=
 qb (M63 a1) fun s1=>qb (kp a0 s1) fun s3=>qb (M63 a2) fun s4=>qb (kp s3 s4) fun s6=>some s6
def M77(a0 a1:(List UInt8)):Option Bool:=
 if(a1.length:Int)≤(a0.length:Int) then qb (cut a0 0 (a1.length:Int)) fun s2=>some (decide (s2=a1)) else some false
def M39(a0 a1:(List UInt8)):Option Bool:=
 qb (M77 a0 a1) fun b1=>some b1
def M85(a0:(List UInt8)):Option ((List UInt8)×Int):=
 qb (i64 ((a0.length:Int)-4)) fun x1=>if x1<0 then some ([],3) else if 4096<x1 then some ([],2) else qb (cut a0 0 x1) fun s4=>qo (qjE s4) fun s5 x6=>if s5≠a0 then some ([],5) else qb (cut a0 0 x1) fun s9=>some (s9,0)
def qhZ(x35 x29 x23:Int)(gs1:(List UInt8))(gx2:Int):Option (Trecord×Bool):=
 qb (cut gs1 0 x35) fun s36=>qo (M85 s36) fun s37 x38=>if x38≠0 then some ((⟨0,[],0⟩:Trecord),false) else qb (cut s37 x29 s37.length) fun s41=>some ((⟨x23,s41,gx2⟩:Trecord),true)
def qfk(go1:(List UInt8)→Int→Option (Trecord×Bool))(x35 a1:Int)(kQ:(List TLog))(a0:Int)(A57:(List TDisk))(s42:(List UInt8))(x29 x23:Int)(gs3:(List UInt8))(gx4:Int):Option (Trecord×Bool):=
 if(gs3.length:Int)<x35 then qb (i64 (a1+gx4)) fun x45=>qb (idx kQ a0) fun xB=>if xB.size_≤x45 then some ((⟨0,[],0⟩:Trecord),false) else qb (i64 (xB.from_+a1)) fun x63=>qb (i64 (x63+gx4)) fun x64=>qo (M16 xB.d_ x64 A57) fun s65 x66=>if x66≠0 then some ((⟨0,[],0⟩:Trecord),false) else qb (M39 s65 s42) fun b70=>if b70=true then qb (cut s65 (s42.length:Int) s65.length) fun s72=>qb (kp gs3 s72) fun s73=>qb (i64 (gx4+1)) fun x74=>go1 s73 x74 else some ((⟨0,[],0⟩:Trecord),false) else qhZ x35 x29 x23 gs3 gx4
def qbO(x35 a1:Int)(kQ:(List TLog))(a0:Int)(A57:(List TDisk))(s42:(List UInt8))(x29 x23:Int):Nat→(List UInt8)→Int→Option (Trecord×Bool)
 | 0,_,_=>none
 | n+1,gs3,gx4=>qfk (qbO x35 a1 kQ a0 A57 s42 x29 x23 n) x35 a1 kQ a0 A57 s42 x29 x23 gs3 gx4
def M45(a0 a1 a2:Int)(A57:(List TDisk))(kQ:(List TLog)):Option (Trecord×Bool):=
 qb (idx kQ a0) fun th2=>if th2.size_≤a1 then some ((⟨0,[],0⟩:Trecord),false) else qb (i64 (th2.from_+a1)) fun x17=>qo (M16 th2.d_ x17 A57) fun s18 x19=>if x19≠0 then some ((⟨0,[],0⟩:Trecord),false) else qI (M82 s18 a2) fun x23 s24 b25=>if b25=true then qI (M83 s24) fun x28 x29 x30=>if x30≠0 then some ((⟨0,[],0⟩:Trecord),false) else if 300<x28 then some ((⟨0,[],0⟩:Trecord),false) else qb (i64 (x29+(IntKind.wrap .i64 x28))) fun x34=>qb (i64 (x34+4)) fun x35=>qb (M84 ([2]) x23 a2) fun s42=>qbO x35 a1 kQ a0 A57 s42 x29 x23 big s24 1 else some ((⟨0,[],0⟩:Trecord),false)
def qlC(a0:Int)(A57:(List TDisk)):Option ((List TDisk)×Int):=
 qb (idx A57 a0) fun th1=>if th1.left_=0 then some (A57,13) else if 0<th1.left_ then qb (i64 (th1.left_-1)) fun x4=>qb (upd A57 a0 (⟨th1.safe_,th1.seen_,th1.late_,x4⟩:TDisk)) fun l5=>some (l5,0) else some (A57,0)
def M86(a0 a1:Int)(a2:(List UInt8))(A57:(List TDisk)):Option ((List TDisk)×Int):=
 if a1<0 then some (A57,1) else qb (idx A57 a0) fun th2=>if(th2.safe_.length:Int)≤a1 then some (A57,1) else if 64<(a2.length:Int) then some (A57,2) else qo (qlC a0 A57) fun l5 x6=>if x6≠0 then some (l5,x6) else qb (i64 (64-(a2.length:Int))) fun x10=>qb (xj ([0]) x10) fun s11=>qb (kp a2 s11) fun s13=>qb (idx l5 a0) fun xW=>qb (idx xW.seen_ a1) fun x15=>qb (upd xW.seen_ a1 s13) fun l16=>qb (app xW.late_ ([(⟨a1,s13⟩:Twrite)])) fun l19=>qb (upd l5 a0 (⟨xW.safe_,l16,l19,xW.left_⟩:TDisk)) fun l20=>some (l20,0)
def M87(a0 a1:Int)(kQ:(List TLog)):Option ((List TLog)×Int):=
 qb (idx kQ a0) fun th1=>if th1.fell_=true then qb (upd kQ a0 (⟨th1.d_,th1.from_,th1.size_,th1.epoch_,th1.at_,th1.seq_,true⟩:TLog)) fun l3=>some (l3,a1) else qb (upd kQ a0 (⟨th1.d_,th1.from_,th1.size_,th1.epoch_,th1.at_,th1.seq_,decide (a1≠0)⟩:TLog)) fun l5=>some (l5,a1)
def M88(a0:Int)(A57:(List TDisk)):Option ((List TDisk)×Int):=
 qo (qlC a0 A57) fun l1 x2=>if x2≠0 then some (l1,x2) else qb (idx l1 a0) fun th6=>qb (upd l1 a0 (⟨(cpy th6.safe_ th6.seen_),th6.seen_,[],th6.left_⟩:TDisk)) fun l9=>some (l9,0)
def M46(a0:Int)(A57:(List TDisk))(kQ:(List TLog)):Option ((List TDisk)×(List TLog)×Int):=
 qb (idx kQ a0) fun th1=>if 1000000≤th1.epoch_ then some (A57,kQ,8) else qb (i64 (th1.epoch_+1)) fun x31=>qb (M81 x31) fun s32=>qo (M86 th1.d_ th1.from_ s32 A57) fun l34 x35=>if x35≠0 then qo (M87 a0 x35 kQ) fun l40 x41=>some (l34,l40,x41) else qb (idx kQ a0) fun th44=>qo (M88 th44.d_ l34) fun l45 x46=>if x46≠0 then qo (M87 a0 x46 kQ) fun l50 x51=>some (l45,l50,x51) else qb (idx kQ a0) fun th54=>qb (i64 (th54.epoch_+1)) fun x55=>qb (upd kQ a0 (⟨th54.d_,th54.from_,th54.size_,x55,th54.at_,th54.seq_,th54.fell_⟩:TLog)) fun l56=>some (l45,l56,0)
def qea(A57:(List TDisk))(gx2:Int)(gl4:(List (List UInt8)))(gl6:(List TLog)):Option ((List TDisk)×(List TLog)×Int×(List (List UInt8))×Int):=
 qI (M46 gx2 A57 gl6) fun l17 l18 x19=>qb (ck (l18.length=gl6.length)) fun _=>if x19≠0 then some (l17,l18,(-1),[],x19) else some (l17,l18,gx2,gl4,0)
def qgr(kY:(List TLog))(x26 jN:Int)(A57:(List TDisk))(kO:(List (List UInt8)))(go1:(List (List UInt8))→Int→(List TLog)→Option ((List TDisk)×(List TLog)×Int×(List (List UInt8))×Int))(yI:Int)(zQ:(List UInt8))(xC:Int)(xX:Bool):Option ((List TDisk)×(List TLog)×Int×(List (List UInt8))×Int):=
 if xX=true then qb (idx kY x26) fun th32=>if yI<jN then qea A57 x26 kO kY else if th32.epoch_<yI then qea A57 x26 kO kY else qb (i64 (th32.at_+xC)) fun x39=>qb (app kO ([zQ])) fun l42=>qb (i64 (th32.seq_+1)) fun x43=>qb (upd kY x26 (⟨th32.d_,th32.from_,th32.size_,th32.epoch_,x39,x43,th32.fell_⟩:TLog)) fun l44=>go1 l42 yI l44 else qb (idx kY x26) fun zK=>qea A57 x26 kO kY
def qia(go1:(List (List UInt8))→Int→(List TLog)→Option ((List TDisk)×(List TLog)×Int×(List (List UInt8))×Int))(x26:Int)(A57:(List TDisk))(kO:(List (List UInt8)))(jN:Int)(kY:(List TLog)):Option ((List TDisk)×(List TLog)×Int×(List (List UInt8))×Int):=
 qb (idx kY x26) fun xB=>qo (M45 x26 xB.at_ xB.seq_ A57 kY) fun x68 b69=>if b69=true then qgr kY x26 jN A57 kO go1 x68.epoch_ x68.text_ x68.size_ true else qgr kY x26 jN A57 kO go1 x68.epoch_ x68.text_ x68.size_ false
def qdl(x26:Int)(A57:(List TDisk)):Nat→(List (List UInt8))→Int→(List TLog)→Option ((List TDisk)×(List TLog)×Int×(List (List UInt8))×Int)
 | 0,_,_,_=>none
 | n+1,kO,jN,kY=>qia (qdl x26 A57 n) x26 A57 kO jN kY
def qdm(A57:(List TDisk))(kQ:(List TLog))(a0 a1 a2:Int)(gb1:Bool):Option ((List TDisk)×(List TLog)×Int×(List (List UInt8))×Int):=
 if gb1=true then some (A57,kQ,(-1),[],1) else qb (M19 a0 A57) fun x1=>if x1<a1 then some (A57,kQ,(-1),[],1) else qb (M19 a0 A57) fun x4=>qb (i64 (x4-a1)) fun x6=>if x6<a2 then some (A57,kQ,(-1),[],1) else qo (M16 a0 a1 A57) fun s9 x10=>if x10≠0 then some (A57,kQ,(-1),[],x10) else qo (M44 s9) fun x13 x14=>if x14≠0 then some (A57,kQ,(-1),[],x14) else qo (qal kQ (⟨a0,a1,a2,x13,1,0,false⟩:TLog)) fun x26 l27=>qdl x26 A57 big [] 0 l27
def M20(a0 a1 a2:Int)(A57:(List TDisk))(kQ:(List TLog)):Option ((List TDisk)×(List TLog)×Int×(List (List UInt8))×Int):=
 if a1<0 then qdm A57 kQ a0 a1 a2 true else if a2<2 then qdm A57 kQ a0 a1 a2 true else qdm A57 kQ a0 a1 a2 false
def M89(a0:(List UInt8)):Option ((List UInt8)×Int×Int):=
 qI (M83 a0) fun x1 x2 x3=>if x3≠0 then some ([],0,x3) else if 4096<x1 then some ([],0,2) else qb (i64 ((a0.length:Int)-x2)) fun x7=>if(IntKind.wrap .u64 x7)<x1 then some ([],0,3) else qb (i64 (x2+(IntKind.wrap .i64 x1))) fun x9=>qb (cut a0 x2 x9) fun s10=>qb (i64 (x2+(IntKind.wrap .i64 x1))) fun x11=>some (s10,x11,0)
def qda(x1:Int)(a0:(List UInt8))(x2:Int)(gb1:Bool):Option (Int×(List UInt8)×(List UInt8)×Bool):=
 if gb1=true then some (0,[],[],false) else if 20≤x1 then some (0,[],[],false) else qb (cut a0 x2 a0.length) fun s6=>qI (M89 s6) fun s7 x8 x9=>if x9≠0 then some (0,[],[],false) else if 20<(s7.length:Int) then some (0,[],[],false) else qb (i64 (x2+x8)) fun x13=>qb (cut a0 x13 a0.length) fun s14=>some (x1,s7,s14,true)
def M48(a0:(List UInt8)):Option (Int×(List UInt8)×(List UInt8)×Bool):=
 qI (M47 a0) fun x1 x2 x3=>if x3≠0 then qda x1 a0 x2 true else if x1<0 then qda x1 a0 x2 true else qda x1 a0 x2 false
def qjB(gx1:Int)(gb2:Bool)(gl3:(List (List UInt8))):Option (Timage×Bool):=
 qb (qs 20 gl3) fun _=>some ((⟨gx1,gb2,gl3⟩:Timage),true)
def qah(gx4:Int)(go1:Int→Int→Bool→(List (List UInt8))→Option (Timage×Bool))(gx8:Int)(gb9:Bool)(kO:(List (List UInt8))):Option (Timage×Bool):=
 qb (i64 (gx4+1)) fun x6=>go1 x6 gx8 gb9 kO
def qh9(go2:(List UInt8)→(List (List UInt8))→Option (Timage×Bool))(gx5:Int)(gb6:Bool)(gx4:Int)(go1:Int→Int→Bool→(List (List UInt8))→Option (Timage×Bool))(gs15:(List UInt8))(xY:(List (List UInt8))):Option (Timage×Bool):=
 if gs15≠[] then wP (M48 gs15) fun x14 s15 s16 b17=>if b17=true then qb (zd 20 xY x14) fun x20=>qb (upd xY x14 s15) fun l21=>go2 s16 l21 else qb (qs 20 xY) fun _=>some ((⟨gx5,gb6,xY⟩:Timage),false) else qah gx4 go1 gx5 gb6 xY
def jf(gx5:Int)(gb6:Bool)(gx4:Int)(go1:Int→Int→Bool→(List (List UInt8))→Option (Timage×Bool)):Nat→(List UInt8)→(List (List UInt8))→Option (Timage×Bool)
 | 0,_,_=>none
 | n+1,gs15,xY=>qh9 (jf gx5 gb6 gx4 go1 n) gx5 gb6 gx4 go1 gs15 xY
def qgo(gx5:Int)(gb6:Bool)(gx4:Int)(go1:Int→Int→Bool→(List (List UInt8))→Option (Timage×Bool))(s11:(List UInt8))(gl7:(List (List UInt8)))(yG:Bool):Option (Timage×Bool):=
 if yG=true then jf gx5 gb6 gx4 go1 big s11 gl7 else qb (qs 20 gl7) fun _=>some ((⟨gx5,gb6,gl7⟩:Timage),false)
def qkf(go3:(List UInt8)→(List (List UInt8))→Option (Timage×Bool))(gx5:Int)(gb6:Bool)(gx4:Int)(go1:Int→Int→Bool→(List (List UInt8))→Option (Timage×Bool))(zQ:(List UInt8))(zC:(List (List UInt8))):Option (Timage×Bool):=
 if zQ≠[] then wP (M48 zQ) fun x26 s27 s28 b29=>if b29=true then qb (zd 20 zC x26) fun x32=>qb (upd zC x26 s27) fun l33=>go3 s28 l33 else qb (qs 20 zC) fun _=>some ((⟨gx5,gb6,zC⟩:Timage),false) else qah gx4 go1 gx5 gb6 zC
def qbW(gx5:Int)(gb6:Bool)(gx4:Int)(go1:Int→Int→Bool→(List (List UInt8))→Option (Timage×Bool)):Nat→(List UInt8)→(List (List UInt8))→Option (Timage×Bool)
 | 0,_,_=>none
 | n+1,zQ,zC=>qkf (qbW gx5 gb6 gx4 go1 n) gx5 gb6 gx4 go1 zQ zC
def qgp(gx5:Int)(gb6:Bool)(gx4:Int)(go1:Int→Int→Bool→(List (List UInt8))→Option (Timage×Bool))(s11:(List UInt8))(gl7:(List (List UInt8)))(s10:(List UInt8))(yD:Bool):Option (Timage×Bool):=
 if yD=true then qbW gx5 gb6 gx4 go1 big s11 gl7 else if s10=([67]) then if gb6=true then qgo gx5 gb6 gx4 go1 s11 gl7 true else qgo gx5 gb6 gx4 go1 s11 gl7 false else qgo gx5 gb6 gx4 go1 s11 gl7 false
def qke(go4:(List UInt8)→(List (List UInt8))→Option (Timage×Bool))(gx5:Int)(gb6:Bool)(gx4:Int)(go1:Int→Int→Bool→(List (List UInt8))→Option (Timage×Bool))(gs21:(List UInt8))(zR:(List (List UInt8))):Option (Timage×Bool):=
 if gs21≠[] then wP (M48 gs21) fun x40 s41 s42 b43=>if b43=true then qb (zd 20 zR x40) fun x46=>qb (upd zR x40 s41) fun l47=>go4 s42 l47 else qb (qs 20 zR) fun _=>some ((⟨gx5,gb6,zR⟩:Timage),false) else qah gx4 go1 gx5 gb6 zR
def qbV(gx5:Int)(gb6:Bool)(gx4:Int)(go1:Int→Int→Bool→(List (List UInt8))→Option (Timage×Bool)):Nat→(List UInt8)→(List (List UInt8))→Option (Timage×Bool)
 | 0,_,_=>none
 | n+1,gs21,zR=>qke (qbV gx5 gb6 gx4 go1 n) gx5 gb6 gx4 go1 gs21 zR
def qgm(gx5:Int)(gb6:Bool)(gx4:Int)(go1:Int→Int→Bool→(List (List UInt8))→Option (Timage×Bool))(s11:(List UInt8))(gl7:(List (List UInt8)))(xZ:Bool):Option (Timage×Bool):=
 if xZ=true then qbV gx5 gb6 gx4 go1 big s11 gl7 else qb (qs 20 gl7) fun _=>some ((⟨gx5,gb6,gl7⟩:Timage),false)
def qkd(go5:(List UInt8)→(List (List UInt8))→Option (Timage×Bool))(gx5:Int)(gb6:Bool)(gx4:Int)(go1:Int→Int→Bool→(List (List UInt8))→Option (Timage×Bool))(gs23:(List UInt8))(yT:(List (List UInt8))):Option (Timage×Bool):=
 if gs23≠[] then wP (M48 gs23) fun x52 s53 s54 b55=>if b55=true then qb (zd 20 yT x52) fun x58=>qb (upd yT x52 s53) fun l59=>go5 s54 l59 else qb (qs 20 yT) fun _=>some ((⟨gx5,gb6,yT⟩:Timage),false) else qah gx4 go1 gx5 gb6 yT
def qbU(gx5:Int)(gb6:Bool)(gx4:Int)(go1:Int→Int→Bool→(List (List UInt8))→Option (Timage×Bool)):Nat→(List UInt8)→(List (List UInt8))→Option (Timage×Bool)
 | 0,_,_=>none
 | n+1,gs23,yT=>qkd (qbU gx5 gb6 gx4 go1 n) gx5 gb6 gx4 go1 gs23 yT
def qgn(gx5:Int)(gb6:Bool)(gx4:Int)(go1:Int→Int→Bool→(List (List UInt8))→Option (Timage×Bool))(s11:(List UInt8))(gl7:(List (List UInt8)))(s10:(List UInt8))(xX:Bool):Option (Timage×Bool):=
 if xX=true then qbU gx5 gb6 gx4 go1 big s11 gl7 else if s10=([67]) then if gb6=true then qgm gx5 gb6 gx4 go1 s11 gl7 true else qgm gx5 gb6 gx4 go1 s11 gl7 false else qgm gx5 gb6 gx4 go1 s11 gl7 false
def qgq(s11:(List UInt8))(gx4:Int)(go1:Int→Int→Bool→(List (List UInt8))→Option (Timage×Bool))(gx5:Int)(gl7:(List (List UInt8)))(s10:(List UInt8))(gb6 jP:Bool):Option (Timage×Bool):=
 if jP=true then if s11=[] then qah gx4 go1 gx5 true gl7 else if s10=([83]) then if gb6=true then qgn gx5 gb6 gx4 go1 s11 gl7 s10 false else qgn gx5 gb6 gx4 go1 s11 gl7 s10 true else qgn gx5 gb6 gx4 go1 s11 gl7 s10 false else if s10=([83]) then if gb6=true then qgp gx5 gb6 gx4 go1 s11 gl7 s10 false else qgp gx5 gb6 gx4 go1 s11 gl7 s10 true else qgp gx5 gb6 gx4 go1 s11 gl7 s10 false
def qbX(gl7:(List (List UInt8)))(gx5:Int)(gb6:Bool)(x66:Int)(s11:(List UInt8))(gx4:Int)(go1:Int→Int→Bool→(List (List UInt8))→Option (Timage×Bool))(x65:Int)(gb25:Bool):Option (Timage×Bool):=
 if gb25=true then qb (qs 20 gl7) fun _=>some ((⟨gx5,gb6,gl7⟩:Timage),false) else if x66≠(s11.length:Int) then qb (qs 20 gl7) fun _=>some ((⟨gx5,gb6,gl7⟩:Timage),false) else qah gx4 go1 x65 false gl7
def qaw(s11:(List UInt8))(gl7:(List (List UInt8)))(gx5:Int)(gb6:Bool)(gx4:Int)(go1:Int→Int→Bool→(List (List UInt8))→Option (Timage×Bool))(s10:(List UInt8))(jF:Bool):Option (Timage×Bool):=
 if jF=true then qI (M47 s11) fun x65 x66 x67=>if x67≠0 then qbX gl7 gx5 gb6 x66 s11 gx4 go1 x65 true else if x65<1 then qbX gl7 gx5 gb6 x66 s11 gx4 go1 x65 true else qbX gl7 gx5 gb6 x66 s11 gx4 go1 x65 false else if s10=([68]) then if gb6=true then qgq s11 gx4 go1 gx5 gl7 s10 gb6 false else qgq s11 gx4 go1 gx5 gl7 s10 gb6 true else qgq s11 gx4 go1 gx5 gl7 s10 gb6 false
def wJ(s11:(List UInt8))(gl7:(List (List UInt8)))(gx5:Int)(gb6:Bool)(gx4:Int)(go1:Int→Int→Bool→(List (List UInt8))→Option (Timage×Bool))(s10:(List UInt8))(gb26:Bool):Option (Timage×Bool):=
 if gb26=true then qaw s11 gl7 gx5 gb6 gx4 go1 s10 true else qaw s11 gl7 gx5 gb6 gx4 go1 s10 false
def qfs(go1:Int→Int→Bool→(List (List UInt8))→Option (Timage×Bool))(a0:(List (List UInt8)))(gx4 gx5:Int)(gb6:Bool)(gl7:(List (List UInt8))):Option (Timage×Bool):=
 if gx4<(a0.length:Int) then qb (idx a0 gx4) fun x7=>if x7=[] then qb (qs 20 gl7) fun _=>some ((⟨gx5,gb6,gl7⟩:Timage),false) else qb (cut x7 0 1) fun s10=>qb (cut x7 1 x7.length) fun s11=>if s10=([72]) then if gx4=0 then wJ s11 gl7 gx5 gb6 gx4 go1 s10 true else wJ s11 gl7 gx5 gb6 gx4 go1 s10 false else wJ s11 gl7 gx5 gb6 gx4 go1 s10 false else qjB gx5 gb6 gl7
def kj(a0:(List (List UInt8))):Nat→Int→Int→Bool→(List (List UInt8))→Option (Timage×Bool)
 | 0,_,_,_,_=>none
 | n+1,gx4,gx5,gb6,gl7=>qfs (kj a0 n) a0 gx4 gx5 gb6 gl7
def M21(a0:(List (List UInt8))):Option (Timage×Bool):=
 qb (qs 20 (List.replicate 20 ([]:(List UInt8)))) fun _=>kj a0 big 0 0 true (List.replicate 20 ([]:(List UInt8)))
def qmY(l52:(List TDisk))(l53:(List TLog))(gx2:Int)(gl4:(List TStore)):Option ((List TDisk)×(List TStore)×(List TLog)×Int×Int):=
 some (l52,gl4,l53,gx2,0)
def qjn(go1:Int→(List TStore)→Option ((List TDisk)×(List TStore)×(List TLog)×Int×Int))(x19:Timage)(x97:Int)(l52:(List TDisk))(l53:(List TLog))(gx7:Int)(gl8:(List TStore)):Option ((List TDisk)×(List TStore)×(List TLog)×Int×Int):=
 if gx7<20 then qb (zd 20 x19.values_ gx7) fun x103=>qb (idx gl8 x97) fun xQ=>qb (zd 20 xQ.items_ gx7) fun x106=>qb (qs 2 xQ.logs_) fun _=>qb (upd xQ.items_ gx7 ([(⟨0,x103⟩:TVersion)])) fun l108=>qb (i64 (gx7+1)) fun x110=>qb (upd gl8 x97 (⟨xQ.logs_,xQ.half_,xQ.gen_,xQ.down_,xQ.now_,l108,xQ.active_,xQ.over_⟩:TStore)) fun l112=>go1 x110 l112 else qmY l52 l53 x97 gl8
def qgz(x19:Timage)(x97:Int)(l52:(List TDisk))(l53:(List TLog)):Nat→Int→(List TStore)→Option ((List TDisk)×(List TStore)×(List TLog)×Int×Int)
 | 0,_,_=>none
 | n+1,gx7,gl8=>qjn (qgz x19 x97 l52 l53 n) x19 x97 l52 l53 gx7 gl8
def qnK(l52:(List TDisk))(l53:(List TLog))(jN:Int)(zD:(List TStore)):Option ((List TDisk)×(List TStore)×(List TLog)×Int×Int):=
 some (l52,zD,l53,jN,0)
def qmB(go2:Int→(List TStore)→Option ((List TDisk)×(List TStore)×(List TLog)×Int×Int))(x63:Timage)(x117:Int)(l52:(List TDisk))(l53:(List TLog))(yI:Int)(jA:(List TStore)):Option ((List TDisk)×(List TStore)×(List TLog)×Int×Int):=
 if yI<20 then qb (zd 20 x63.values_ yI) fun x123=>qb (idx jA x117) fun xD=>qb (zd 20 xD.items_ yI) fun x126=>qb (qs 2 xD.logs_) fun _=>qb (upd xD.items_ yI ([(⟨0,x123⟩:TVersion)])) fun l128=>qb (i64 (yI+1)) fun x130=>qb (upd jA x117 (⟨xD.logs_,xD.half_,xD.gen_,xD.down_,xD.now_,l128,xD.active_,xD.over_⟩:TStore)) fun l132=>go2 x130 l132 else qnK l52 l53 x117 jA
def qjm(x63:Timage)(x117:Int)(l52:(List TDisk))(l53:(List TLog)):Nat→Int→(List TStore)→Option ((List TDisk)×(List TStore)×(List TLog)×Int×Int)
 | 0,_,_=>none
 | n+1,yI,jA=>qmB (qjm x63 x117 l52 l53 n) x63 x117 l52 l53 yI jA
def qf7(l90:(List Int))(x63:Timage)(A67:(List TStore))(l52:(List TDisk))(l53:(List TLog))(x19:Timage)(gb1:Bool):Option ((List TDisk)×(List TStore)×(List TLog)×Int×Int):=
 if gb1=true then qb (qs 2 l90) fun _=>if x63.whole_=true then qo (qal A67 (⟨l90,1,x63.gen_,false,0,(List.replicate 20 ([]:(List TVersion))),[],[]⟩:TStore)) fun x117 l118=>qjm x63 x117 l52 l53 big 0 l118 else some (l52,A67,l53,(-1),4) else qb (qs 2 l90) fun _=>if x19.whole_=true then qo (qal A67 (⟨l90,0,x19.gen_,false,0,(List.replicate 20 ([]:(List TVersion))),[],[]⟩:TStore)) fun x97 l98=>qgz x19 x97 l52 l53 big 0 l98 else some (l52,A67,l53,(-1),4)
def M6(a0:Int)(A57:(List TDisk))(A67:(List TStore))(kQ:(List TLog)):Option ((List TDisk)×(List TStore)×(List TLog)×Int×Int):=
 qb (M19 a0 A57) fun x1=>qb (qcT .i64 x1 2) fun x3=>qb (i64 (0*x3)) fun x6=>qb (ck ((∀x∈A67,TStore.ok108 kQ.length x)∧(qdZ (List.replicate 2 ((-1):Int)) kQ.length=true))) fun _=>vG (M20 a0 x6 x3 A57 kQ) fun l8 l9 x10 l11 x13=>if x13≠0 then some (l8,A67,l9,(-1),x13) else qo (M21 l11) fun x19 b20=>if b20=true then qb (qs 20 (List.replicate 20 ([]:(List UInt8)))) fun _=>qb (qs 20 x19.values_) fun _=>qb (zd 2 (List.replicate 2 ((-1):Int)) 0) fun x46=>qb (upd (List.replicate 2 ((-1):Int)) 0 x10) fun l47=>qb (i64 (1*x3)) fun x50=>qb (ck ((∀x∈A67,TStore.ok108 l9.length x)∧(qdZ l47 l9.length=true))) fun _=>vG (M20 a0 x50 x3 l8 l9) fun l52 l53 x54 l55 x57=>if x57≠0 then some (l52,A67,l53,(-1),x57) else qo (M21 l55) fun x63 b64=>if b64=true then qb (qs 20 x63.values_) fun _=>qb (zd 2 l47 1) fun x89=>qb (upd l47 1 x54) fun l90=>if x63.whole_=true then if x19.gen_<x63.gen_ then qf7 l90 x63 A67 l52 l53 x19 true else if x19.whole_=true then qf7 l90 x63 A67 l52 l53 x19 false else qf7 l90 x63 A67 l52 l53 x19 true else qf7 l90 x63 A67 l52 l53 x19 false else qb (qs 20 x63.values_) fun _=>some (l52,A67,l53,(-1),4) else qb (qs 20 (List.replicate 20 ([]:(List UInt8)))) fun _=>qb (qs 20 x19.values_) fun _=>some (l8,A67,l9,(-1),4)
def M49(a0:Int)(A51:(List TDisk51)):Option Bool:=
 qb (idx A51 a0) fun th1=>some (decide (th1.left_=0))
def qjj:Option (Int×Int×Int):=
 some (0,0,3)
def qji(gx1:Int)(go1:Int→Option (Int×Int×Int)):Option (Int×Int×Int):=
 qb (i64 (gx1+1)) fun x2=>go1 x2
def qjh(gx1 gx2:Int):Option (Int×Int×Int):=
 qb (i64 (gx1+1)) fun x5=>some (gx2,x5,0)
def qeR(go2:Int→Int→Option (Int×Int×Int))(a0:(List UInt8))(gx1 gx3 gx4:Int):Option (Int×Int×Int):=
 if 0≤gx4 then qb (qaj a0 gx4) fun x7=>qb (qew x7 128) fun x8=>qb (i64 (gx4-1)) fun x9=>go2 (IntKind.wrap .u64 ((IntKind.wrap .u64 (gx3*128))+(IntKind.wrap .u64 x8))) x9 else qjh gx1 gx3
def qby(a0:(List UInt8))(gx1:Int):Nat→Int→Int→Option (Int×Int×Int)
 | 0,_,_=>none
 | n+1,gx3,gx4=>qeR (qby a0 gx1 n) a0 gx1 gx3 gx4
def qf6(a0:(List UInt8))(gx1:Int):Option (Int×Int×Int):=
 qby a0 gx1 big 0 gx1
def qc0(a0:(List UInt8))(gx1:Int)(go1:Int→Option (Int×Int×Int)):Option (Int×Int×Int):=
 qb (qaj a0 gx1) fun x3=>if 128≤x3 then qji gx1 go1 else qb (qaj a0 gx1) fun x10=>if x10=0 then if 0<gx1 then some (0,0,4) else qf6 a0 gx1 else qf6 a0 gx1
def qeS(go1:Int→Option (Int×Int×Int))(a0:(List UInt8))(gx1:Int):Option (Int×Int×Int):=
 if gx1<(a0.length:Int) then if gx1=9 then qb (qaj a0 gx1) fun x14=>if 1<x14 then some (0,0,2) else qc0 a0 gx1 go1 else qc0 a0 gx1 go1 else qjj
def wR(a0:(List UInt8)):Nat→Int→Option (Int×Int×Int)
 | 0,_=>none
 | n+1,gx1=>qeS (wR a0 n) a0 gx1
def M91(a0:(List UInt8)):Option (Int×Int×Int):=
 wR a0 big 0
def M53(a0:(List UInt8)):Option (Int×Int×Int):=
 qI (M91 a0) fun x1 x2 x3=>if x3≠0 then some (0,0,x3) else qb (qew x1 2) fun x6=>if x6=1 then qb (qcT .u64 x1 2) fun x8=>qb (i64 ((IntKind.wrap .i64 (-(IntKind.wrap .i64 x8)))-1)) fun x9=>some (x9,x2,0) else qb (qcT .u64 x1 2) fun x10=>some (IntKind.wrap .i64 x10,x2,0)
def qfB(gs1:(List UInt8)):Option (List UInt8):=
 some gs1
def qlg(rec:Int→Option (List UInt8))(a0:Int):Option (List UInt8):=
 if a0<128 then some (bytesOf ([IntKind.wrap .u8 a0])) else qb (qew a0 128) fun x4=>qb (qcT .u64 a0 128) fun x5=>qb (rec x5) fun s8=>qb (kp (bytesOf ([IntKind.wrap .u8 (IntKind.wrap .u64 (x4+128))])) s8) fun s11=>qfB s11
def qdt:Nat→Int→Option (List UInt8)
 | 0,_=>none
 | n+1,a0=>qlg (qdt n) a0
def qmE(a0:Int):Option (List UInt8):=qdt big a0
def M74(a0:Int):Option (List UInt8):=
 if a0<0 then qb (i64 (a0+1)) fun x2=>qb (qmE (IntKind.wrap .u64 ((IntKind.wrap .u64 ((IntKind.wrap .u64 (IntKind.wrap .i64 (-x2)))*2))+1))) fun s3=>some s3 else qb (qmE (IntKind.wrap .u64 ((IntKind.wrap .u64 a0)*2))) fun s5=>some s5
def qaU(gx1 gx2:Int):Option Int:=
 qb (qew gx2 65521) fun x1=>qb (qew gx1 65521) fun x2=>some (IntKind.wrap .u32 (IntKind.wrap .u64 ((IntKind.wrap .u64 (x1*65536))+x2)))
def qb3(go1:Int→Int→Int→Option Int)(a0:(List UInt8))(gx3 gx4 gx5:Int):Option Int:=
 if gx5<(a0.length:Int) then qb (qaj a0 gx5) fun x4=>qb (qaj a0 gx5) fun x5=>qb (i64 ((a0.length:Int)-gx5)) fun x6=>qb (i64 (gx5+1)) fun x7=>go1 (IntKind.wrap .u64 (gx3+(IntKind.wrap .u64 x4))) (IntKind.wrap .u64 (gx4+(IntKind.wrap .u64 ((IntKind.wrap .u64 x5)*(IntKind.wrap .u64 x6))))) x7 else qaU gx3 gx4
def vO(a0:(List UInt8)):Nat→Int→Int→Int→Option Int
 | 0,_,_,_=>none
 | n+1,gx3,gx4,gx5=>qb3 (vO a0 n) a0 gx3 gx4 gx5
def qlA(a0:(List UInt8)):Option Int:=
 vO a0 big 1 (IntKind.wrap .u64 (a0.length:Int)) 0
def qkg(a0:(List UInt8)):Option ((List UInt8)×Int):=
 if 4096<(a0.length:Int) then some ([],2) else qb (qlA a0) fun x2=>qb (qcT .u32 x2 16777216) fun x4=>qb (qcT .u32 x2 65536) fun x5=>qb (qew x5 256) fun x6=>qb (qcT .u32 x2 256) fun x7=>qb (qew x7 256) fun x8=>qb (qew x2 256) fun x9=>qb (kp a0 (bytesOf ([IntKind.wrap .u8 x4,IntKind.wrap .u8 x6,IntKind.wrap .u8 x8,IntKind.wrap .u8 x9]))) fun s11=>some (s11,0)
def M90(a0:Int):Option (List UInt8):=
 qb (M74 a0) fun s1=>qo (qkg s1) fun s3 x4=>qb (kp ([3]) s3) fun s6=>qb (i64 (63-(s3.length:Int))) fun x7=>qb (M18 x7) fun s8=>qb (kp s6 s8) fun s10=>some s10
def qc9(x5:Int)(a0:(List UInt8))(gb1:Bool):Option Int:=
 if gb1=true then if x5≤1000000 then qb (M90 x5) fun s10=>if s10=a0 then some x5 else some (-1) else some (-1) else some (-1)
def M50(a0:(List UInt8)):Option Int:=
 qb (M18 64) fun s1=>if a0=s1 then some 0 else qb (cut a0 1 a0.length) fun s4=>qI (M53 s4) fun x5 x6 x7=>if x7=0 then if 0≤x5 then qc9 x5 a0 true else qc9 x5 a0 false else qc9 x5 a0 false
def qle(gs1:(List UInt8)):Option (List UInt8):=
 some gs1
def M92(a0 a1 a2:Int):Option (List UInt8):=
 qb (M74 a1) fun s4=>qb (M74 a2) fun y6=>qb (kp (bytesOf ([a0])) s4) fun s9=>qb (kp s9 y6) fun s11=>qle s11
def M93(a0:(List UInt8)):Option ((List UInt8)×Int):=
 if(a0.length:Int)<4 then some ([],3) else if 4100<(a0.length:Int) then some ([],2) else qb (i64 ((a0.length:Int)-4)) fun x3=>qb (cut a0 0 x3) fun s4=>qo (qkg s4) fun s5 x6=>if s5≠a0 then some ([],5) else qb (i64 ((a0.length:Int)-4)) fun x9=>qb (cut a0 0 x9) fun s10=>some (s10,0)
def qhY(x24 x23 x7 gx2:Int)(gs3:(List UInt8)):Option (Int×(List UInt8)×Int):=
 qb (i64 (x24+(IntKind.wrap .i64 x23))) fun x29=>qb (i64 (x29+4)) fun x30=>qb (cut gs3 0 x30) fun s31=>qo (M93 s31) fun s32 x33=>if x33≠0 then some (0,[],0) else qb (cut s32 x24 s32.length) fun s36=>some (x7,s36,gx2)
def qfj(go1:Int→(List UInt8)→Option (Int×(List UInt8)×Int))(x24 x23 x7 a1:Int)(a0:(List (List UInt8)))(gx4:Int)(gs5:(List UInt8)):Option (Int×(List UInt8)×Int):=
 qb (i64 (x24+(IntKind.wrap .i64 x23))) fun x37=>qb (i64 (x37+4)) fun x38=>if(gs5.length:Int)<x38 then qb (M92 2 x7 a1) fun s40=>if gx4=(a0.length:Int) then some (0,[],0) else qb (idx a0 gx4) fun x43=>qb (cut x43 0 (s40.length:Int)) fun s44=>if s44≠s40 then some (0,[],0) else qb (idx a0 gx4) fun x46=>qb (cut x46 (s40.length:Int) x46.length) fun s47=>qb (kp gs5 s47) fun s48=>qb (i64 (gx4+1)) fun x49=>go1 x49 s48 else qhY x24 x23 x7 gx4 gs5
def qbN(x24 x23 x7 a1:Int)(a0:(List (List UInt8))):Nat→Int→(List UInt8)→Option (Int×(List UInt8)×Int)
 | 0,_,_=>none
 | n+1,gx4,gs5=>qfj (qbN x24 x23 x7 a1 a0 n) x24 x23 x7 a1 a0 gx4 gs5
def qc8(x14 a1:Int)(a0:(List (List UInt8)))(x8 x15 x7:Int)(gb1:Bool):Option (Int×(List UInt8)×Int):=
 if gb1=true then some (0,[],0) else if x14≠a1 then some (0,[],0) else qb (idx a0 0) fun x19=>qb (i64 (1+x8)) fun x20=>qb (i64 (x20+x15)) fun x21=>qb (cut x19 x21 x19.length) fun s22=>qI (M91 s22) fun x23 x24 x25=>if x25≠0 then some (0,[],0) else if 300<x23 then some (0,[],0) else qbN x24 x23 x7 a1 a0 big 1 s22
def M51(a0:(List (List UInt8)))(a1:Int):Option (Int×(List UInt8)×Int):=
 if(a0.length:Int)=0 then some (0,[],0) else qb (idx a0 0) fun x2=>qb (qaj x2 0) fun x3=>if x3≠1 then some (0,[],0) else qb (idx a0 0) fun x5=>qb (cut x5 1 x5.length) fun s6=>qI (M53 s6) fun x7 x8 x9=>qb (idx a0 0) fun x11=>qb (i64 (1+x8)) fun x12=>qb (cut x11 x12 x11.length) fun s13=>qI (M53 s13) fun x14 x15 x16=>if x9≠0 then qc8 x14 a1 a0 x8 x15 x7 true else if x16≠0 then qc8 x14 a1 a0 x8 x15 x7 true else qc8 x14 a1 a0 x8 x15 x7 false
def qjg(gl1:(List TDisk51)):Option ((List TDisk51)×Int):=
 some (gl1,0)
def M94(a0 a1:Int)(a2:(List UInt8))(A51:(List TDisk51)):Option ((List TDisk51)×Int):=
 if a1<0 then some (A51,1) else qb (idx A51 a0) fun th2=>if(th2.Seen.length:Int)≤a1 then some (A51,1) else if 64<(a2.length:Int) then some (A51,2) else if th2.left_=0 then some (A51,13) else qb (i64 (th2.left_-1)) fun x10=>qb (i64 (64-(a2.length:Int))) fun x20=>qb (M18 x20) fun s21=>qb (kp a2 s21) fun s24=>qb (idx th2.Seen a1) fun x26=>qb (upd th2.Seen a1 s24) fun l27=>qb (idx l27 a1) fun x52=>qb (app th2.late_ ([a1])) fun l55=>qb (app th2.texts_ ([x52])) fun l58=>qb (upd A51 a0 (⟨l27,th2.Safe,l55,l58,(max x10 (min th2.left_ (-1)))⟩:TDisk51)) fun l61=>qjg l61
def M36(a0:(List (List UInt8))):Option (List (List UInt8)):=
 qb (app [] a0) fun l3=>some l3
def M95(a0:Int)(A51:(List TDisk51)):Option ((List TDisk51)×Int):=
 qb (idx A51 a0) fun th1=>if th1.left_=0 then some (A51,13) else qb (i64 (th1.left_-1)) fun x7=>qb (M36 th1.Seen) fun l8=>qb (upd A51 a0 (⟨th1.Seen,l8,[],[],(max x7 (min th1.left_ (-1)))⟩:TDisk51)) fun l11=>some (l11,0)
def M96(a0 a1:Int)(kT:(List TLog122)):Option ((List TLog122)×Int):=
 if a1≠0 then qb (idx kT a0) fun th2=>qb (upd kT a0 (⟨th2.d_,th2.from_,th2.size_,th2.epoch_,th2.at_,th2.seq_,true⟩:TLog122)) fun l3=>some (l3,a1) else some (kT,a1)
def M52(a0:Int)(A51:(List TDisk51))(kT:(List TLog122)):Option ((List TDisk51)×(List TLog122)×Int):=
 qb (idx kT a0) fun th1=>if 1000000≤th1.epoch_ then some (A51,kT,8) else qb (i64 (th1.epoch_+1)) fun x31=>qb (M90 x31) fun s32=>qo (M94 th1.d_ th1.from_ s32 A51) fun l34 x35=>if x35=0 then qb (idx kT a0) fun th40=>qo (M95 th40.d_ l34) fun l41 x42=>if x42=0 then qb (idx kT a0) fun xB=>qb (i64 (xB.epoch_+1)) fun x47=>qb (upd kT a0 (⟨xB.d_,xB.from_,xB.size_,x47,xB.at_,xB.seq_,xB.fell_⟩:TLog122)) fun l48=>qo (M96 a0 x42 l48) fun l50 x51=>some (l41,l50,x51) else qo (M96 a0 x42 kT) fun l54 x55=>some (l41,l54,x55) else if x35=0 then none else qo (M96 a0 x35 kT) fun l59 x60=>some (l34,l59,x60)
def qgl(A51:(List TDisk51))(gx2:Int)(gl4:(List (List UInt8)))(gl6:(List TLog122)):Option ((List TDisk51)×(List TLog122)×Int×(List (List UInt8))×Int):=
 qI (M52 gx2 A51 gl6) fun l15 l16 x17=>qb (ck (l16.length=gl6.length)) fun _=>if x17≠0 then some (l15,l16,(-1),[],x17) else some (l15,l16,gx2,gl4,0)
def qdj(A51:(List TDisk51))(x24:Int)(kO:(List (List UInt8)))(kY:(List TLog122))(x31:Int)(s32:(List UInt8))(x33:Int)(go1:(List (List UInt8))→Int→(List TLog122)→Option ((List TDisk51)×(List TLog122)×Int×(List (List UInt8))×Int))(jH:Bool):Option ((List TDisk51)×(List TLog122)×Int×(List (List UInt8))×Int):=
 if jH=true then qgl A51 x24 kO kY else qb (idx kY x24) fun th35=>if th35.epoch_<x31 then qgl A51 x24 kO kY else qb (app kO ([s32])) fun l39=>qb (i64 (th35.at_+x33)) fun x45=>qb (i64 (th35.seq_+1)) fun x46=>qb (upd kY x24 (⟨th35.d_,th35.from_,th35.size_,th35.epoch_,x45,x46,th35.fell_⟩:TLog122)) fun l48=>go1 l39 x31 l48
def qh8(go1:(List (List UInt8))→Int→(List TLog122)→Option ((List TDisk51)×(List TLog122)×Int×(List (List UInt8))×Int))(x24:Int)(l9:(List (List UInt8)))(A51:(List TDisk51))(kO:(List (List UInt8)))(jN:Int)(kY:(List TLog122)):Option ((List TDisk51)×(List TLog122)×Int×(List (List UInt8))×Int):=
 qb (idx kY x24) fun th29=>qb (cut l9 th29.at_ l9.length) fun l30=>qI (M51 l30 th29.seq_) fun x31 s32 x33=>if x33=0 then qdj A51 x24 kO kY x31 s32 x33 go1 true else if x31<jN then qdj A51 x24 kO kY x31 s32 x33 go1 true else qdj A51 x24 kO kY x31 s32 x33 go1 false
def qdi(x24:Int)(l9:(List (List UInt8)))(A51:(List TDisk51)):Nat→(List (List UInt8))→Int→(List TLog122)→Option ((List TDisk51)×(List TLog122)×Int×(List (List UInt8))×Int)
 | 0,_,_,_=>none
 | n+1,kO,jN,kY=>qh8 (qdi x24 l9 A51 n) x24 l9 A51 kO jN kY
def qdk(A51:(List TDisk51))(kT:(List TLog122))(a0 a1 a2:Int)(gb1:Bool):Option ((List TDisk51)×(List TLog122)×Int×(List (List UInt8))×Int):=
 if gb1=true then some (A51,kT,(-1),[],1) else qb (idx A51 a0) fun th1=>if(th1.Seen.length:Int)<a1 then some (A51,kT,(-1),[],1) else qb (i64 ((th1.Seen.length:Int)-a1)) fun x3=>if x3<a2 then some (A51,kT,(-1),[],1) else qb (M49 a0 A51) fun b5=>if b5=true then some (A51,kT,(-1),[],13) else qb (idx A51 a0) fun th7=>qb (i64 (a1+a2)) fun x8=>qb (cut th7.Seen a1 x8) fun l9=>qb (idx l9 0) fun x10=>qb (M50 x10) fun x11=>if x11<0 then some (A51,kT,(-1),[],4) else qo (qal kT (⟨a0,a1,a2,x11,1,0,false⟩:TLog122)) fun x24 l25=>qdi x24 l9 A51 big [] 0 l25
def M22(a0 a1 a2:Int)(A51:(List TDisk51))(kT:(List TLog122)):Option ((List TDisk51)×(List TLog122)×Int×(List (List UInt8))×Int):=
 if a1<0 then qdk A51 kT a0 a1 a2 true else if a2<2 then qdk A51 kT a0 a1 a2 true else qdk A51 kT a0 a1 a2 false
def M54(a0:(List UInt8)):Option ((List UInt8)×Int×Int):=
 qI (M91 a0) fun x1 x2 x3=>if x3≠0 then some ([],0,x3) else if 4096<x1 then some ([],0,2) else qb (i64 ((a0.length:Int)-x2)) fun x7=>if x7<(IntKind.wrap .i64 x1) then some ([],0,3) else qb (i64 (x2+(IntKind.wrap .i64 x1))) fun x9=>qb (cut a0 x2 x9) fun s10=>qb (i64 (x2+(IntKind.wrap .i64 x1))) fun x11=>some (s10,x11,0)
def qjA(gx1:Int)(gb2:Bool)(gl3:(List (List UInt8))):Option (Int×Bool×(List (List UInt8))×Bool):=
 if gb2=true then qb (qs 20 gl3) fun _=>qb (qs 20 gl3) fun _=>qb (qs 20 gl3) fun _=>qb (qs 20 gl3) fun _=>some (gx1,true,gl3,true) else qb (qs 20 gl3) fun _=>qb (qs 20 gl3) fun _=>qb (qs 20 gl3) fun _=>qb (qs 20 gl3) fun _=>some (gx1,false,gl3,true)
def qdh(gx6:Int)(go1:Int→Bool→Int→(List (List UInt8))→Option (Int×Bool×(List (List UInt8))×Bool))(gx8:Int)(gb9:Bool)(kO:(List (List UInt8))):Option (Int×Bool×(List (List UInt8))×Bool):=
 if gb9=true then qb (i64 (gx6+1)) fun x16=>go1 gx8 true x16 kO else qb (i64 (gx6+1)) fun x15=>go1 gx8 false x15 kO
def qdg(kX:(List (List UInt8)))(x26:Int)(gs14:(List UInt8))(x27:Int)(go2:(List UInt8)→(List (List UInt8))→Option (Int×Bool×(List (List UInt8))×Bool))(gb16:Bool):Option (Int×Bool×(List (List UInt8))×Bool):=
 if gb16=true then qb (qs 20 kX) fun _=>qb (qs 20 kX) fun _=>qb (qs 20 kX) fun _=>qb (qs 20 kX) fun _=>some (0,false,kX,false) else if 19<x26 then qb (qs 20 kX) fun _=>qb (qs 20 kX) fun _=>qb (qs 20 kX) fun _=>qb (qs 20 kX) fun _=>some (0,false,kX,false) else qb (cut gs14 x27 gs14.length) fun s37=>qI (M54 s37) fun s38 x39 x40=>if x40≠0 then qb (qs 20 kX) fun _=>qb (qs 20 kX) fun _=>qb (qs 20 kX) fun _=>qb (qs 20 kX) fun _=>some (0,false,kX,false) else if 20<(s38.length:Int) then qb (qs 20 kX) fun _=>qb (qs 20 kX) fun _=>qb (qs 20 kX) fun _=>qb (qs 20 kX) fun _=>some (0,false,kX,false) else qb (i64 (x27+x39)) fun x62=>qb (cut gs14 x62 gs14.length) fun s63=>qb (zd 20 kX x26) fun x65=>qb (upd kX x26 s38) fun l66=>go2 s63 l66
def qh7(go2:(List UInt8)→(List (List UInt8))→Option (Int×Bool×(List (List UInt8))×Bool))(gx6:Int)(go1:Int→Bool→Int→(List (List UInt8))→Option (Int×Bool×(List (List UInt8))×Bool))(gx4:Int)(gb5:Bool)(gs14:(List UInt8))(kX:(List (List UInt8))):Option (Int×Bool×(List (List UInt8))×Bool):=
 if gs14≠[] then qI (M53 gs14) fun x26 x27 x28=>if x28≠0 then qdg kX x26 gs14 x27 go2 true else if x26<0 then qdg kX x26 gs14 x27 go2 true else qdg kX x26 gs14 x27 go2 false else qdh gx6 go1 gx4 gb5 kX
def qau(gx6:Int)(go1:Int→Bool→Int→(List (List UInt8))→Option (Int×Bool×(List (List UInt8))×Bool))(gx4:Int)(gb5:Bool):Nat→(List UInt8)→(List (List UInt8))→Option (Int×Bool×(List (List UInt8))×Bool)
 | 0,_,_=>none
 | n+1,gs14,kX=>qh7 (qau gx6 go1 gx4 gb5 n) gx6 go1 gx4 gb5 gs14 kX
def qav(x17:(List UInt8))(gx6:Int)(go1:Int→Bool→Int→(List (List UInt8))→Option (Int×Bool×(List (List UInt8))×Bool))(gx4:Int)(gb5:Bool)(gl7:(List (List UInt8)))(yD:Bool):Option (Int×Bool×(List (List UInt8))×Bool):=
 if yD=true then qb (cut x17 1 x17.length) fun s24=>qau gx6 go1 gx4 gb5 big s24 gl7 else qb (qs 20 gl7) fun _=>qb (qs 20 gl7) fun _=>qb (qs 20 gl7) fun _=>qb (qs 20 gl7) fun _=>some (0,false,gl7,false)
def qd7(x17:(List UInt8))(gx6:Int)(go1:Int→Bool→Int→(List (List UInt8))→Option (Int×Bool×(List (List UInt8))×Bool))(gx4:Int)(gb5:Bool)(gl7:(List (List UInt8)))(gb18:Bool):Option (Int×Bool×(List (List UInt8))×Bool):=
 if gb18=true then qav x17 gx6 go1 gx4 gb5 gl7 true else qav x17 gx6 go1 gx4 gb5 gl7 false
def qd8(x17:(List UInt8))(gx6:Int)(go1:Int→Bool→Int→(List (List UInt8))→Option (Int×Bool×(List (List UInt8))×Bool))(gx4:Int)(gb5:Bool)(gl7:(List (List UInt8)))(gb17:Bool):Option (Int×Bool×(List (List UInt8))×Bool):=
 if gb17=true then qav x17 gx6 go1 gx4 gb5 gl7 true else qb (M39 x17 ([67])) fun b76=>if b76=true then if gb5=true then qd7 x17 gx6 go1 gx4 gb5 gl7 true else qd7 x17 gx6 go1 gx4 gb5 gl7 false else qd7 x17 gx6 go1 gx4 gb5 gl7 false
def qd9(gx6:Int)(go1:Int→Bool→Int→(List (List UInt8))→Option (Int×Bool×(List (List UInt8))×Bool))(gx4:Int)(gl7:(List (List UInt8)))(x17:(List UInt8))(gb5 jP:Bool):Option (Int×Bool×(List (List UInt8))×Bool):=
 if jP=true then qdh gx6 go1 gx4 true gl7 else qb (M39 x17 ([83])) fun b79=>if b79=true then if gb5=true then qd8 x17 gx6 go1 gx4 gb5 gl7 false else qd8 x17 gx6 go1 gx4 gb5 gl7 true else qd8 x17 gx6 go1 gx4 gb5 gl7 false
def qdf(gl7:(List (List UInt8)))(x85 gx6:Int)(go1:Int→Bool→Int→(List (List UInt8))→Option (Int×Bool×(List (List UInt8))×Bool))(xX:Bool):Option (Int×Bool×(List (List UInt8))×Bool):=
 if xX=true then qb (qs 20 gl7) fun _=>qb (qs 20 gl7) fun _=>qb (qs 20 gl7) fun _=>qb (qs 20 gl7) fun _=>some (0,false,gl7,false) else if x85<1 then qb (qs 20 gl7) fun _=>qb (qs 20 gl7) fun _=>qb (qs 20 gl7) fun _=>qb (qs 20 gl7) fun _=>some (0,false,gl7,false) else qdh gx6 go1 x85 false gl7
def qbT(x17:(List UInt8))(gl7:(List (List UInt8)))(gx6:Int)(go1:Int→Bool→Int→(List (List UInt8))→Option (Int×Bool×(List (List UInt8))×Bool))(gb5:Bool)(gx4:Int)(jF:Bool):Option (Int×Bool×(List (List UInt8))×Bool):=
 if jF=true then qb (cut x17 1 x17.length) fun s84=>qI (M53 s84) fun x85 x86 x87=>if x87≠0 then qdf gl7 x85 gx6 go1 true else qb (i64 ((x17.length:Int)-1)) fun x103=>if x86≠x103 then qdf gl7 x85 gx6 go1 true else qdf gl7 x85 gx6 go1 false else if x17=([68]) then if gb5=true then qd9 gx6 go1 gx4 gl7 x17 gb5 false else qd9 gx6 go1 gx4 gl7 x17 gb5 true else qd9 gx6 go1 gx4 gl7 x17 gb5 false
def kz(x17:(List UInt8))(gl7:(List (List UInt8)))(gx6:Int)(go1:Int→Bool→Int→(List (List UInt8))→Option (Int×Bool×(List (List UInt8))×Bool))(gb5:Bool)(gx4:Int)(xZ:Bool):Option (Int×Bool×(List (List UInt8))×Bool):=
 if xZ=true then qbT x17 gl7 gx6 go1 gb5 gx4 true else qbT x17 gl7 gx6 go1 gb5 gx4 false
def qfr(go1:Int→Bool→Int→(List (List UInt8))→Option (Int×Bool×(List (List UInt8))×Bool))(a0:(List (List UInt8)))(gx4:Int)(gb5:Bool)(gx6:Int)(gl7:(List (List UInt8))):Option (Int×Bool×(List (List UInt8))×Bool):=
 if gx6<(a0.length:Int) then qb (idx a0 gx6) fun x17=>if gx6=0 then qb (M39 x17 ([72])) fun b106=>if b106=true then kz x17 gl7 gx6 go1 gb5 gx4 true else kz x17 gl7 gx6 go1 gb5 gx4 false else kz x17 gl7 gx6 go1 gb5 gx4 false else qjA gx4 gb5 gl7
def ki(a0:(List (List UInt8))):Nat→Int→Bool→Int→(List (List UInt8))→Option (Int×Bool×(List (List UInt8))×Bool)
 | 0,_,_,_,_=>none
 | n+1,gx4,gb5,gx6,gl7=>qfr (ki a0 n) a0 gx4 gb5 gx6 gl7
def M23(a0:(List (List UInt8))):Option (Int×Bool×(List (List UInt8))×Bool):=
 ki a0 big 0 true 0 (List.replicate 20 ([]:(List UInt8)))
def qmX(gx1:Int)(gl2:(List TDisk51))(gl5:(List TStore81))(gl9:(List TLog122)):Option ((List TDisk51)×(List TStore81)×(List TLog122)×Int×Int):=
 qb (idx gl5 gx1) fun th4=>qb (qs 2 th4.logs_) fun _=>if th4.half_<0 then some (gl2,gl5,gl9,(-1),4) else some (gl2,gl5,gl9,gx1,0)
def qgy(zE:(List (List UInt8)))(l30:(List Int))(jI:TStore81)(jK:Int)(kX:(List TStore81))(x8 gx22:Int)(go1:Int→(List TDisk51)→(List TStore81)→(List TLog122)→Option ((List TDisk51)×(List TStore81)×(List TLog122)×Int×Int))(l16:(List TDisk51))(l17:(List TLog122))(gb27:Bool):Option ((List TDisk51)×(List TStore81)×(List TLog122)×Int×Int):=
 if gb27=true then qb (qs 20 zE) fun _=>qb (qs 2 l30) fun _=>qb (qs 20 jI.first_) fun _=>qb (qs 20 zE) fun _=>qb (i64 (jK+1)) fun x51=>qb (upd kX x8 (⟨l30,jK,gx22,jI.down_,jI.now_,zE,jI.deals_⟩:TStore81)) fun l53=>go1 x51 l16 l53 l17 else qb (i64 (jK+1)) fun x31=>qb (upd kX x8 (⟨l30,jI.half_,jI.gen_,jI.down_,jI.now_,jI.first_,jI.deals_⟩:TStore81)) fun l33=>go1 x31 l16 l33 l17
def qdy(kX:(List TStore81))(x8 jK x18:Int)(go1:Int→(List TDisk51)→(List TStore81)→(List TLog122)→Option ((List TDisk51)×(List TStore81)×(List TLog122)×Int×Int))(l16:(List TDisk51))(l17:(List TLog122))(gx22:Int)(gb23:Bool)(zE:(List (List UInt8)))(gb26:Bool):Option ((List TDisk51)×(List TStore81)×(List TLog122)×Int×Int):=
 if gb26=true then qb (idx kX x8) fun jI=>qb (zd 2 jI.logs_ jK) fun x29=>qb (upd jI.logs_ jK x18) fun l30=>if gb23=true then qb (qs 2 l30) fun _=>if jI.half_<0 then qgy zE l30 jI jK kX x8 gx22 go1 l16 l17 true else if jI.gen_<gx22 then qgy zE l30 jI jK kX x8 gx22 go1 l16 l17 true else qgy zE l30 jI jK kX x8 gx22 go1 l16 l17 false else qgy zE l30 jI jK kX x8 gx22 go1 l16 l17 false else some (l16,kX,l17,(-1),4)
def qhJ(go1:Int→(List TDisk51)→(List TStore81)→(List TLog122)→Option ((List TDisk51)×(List TStore81)×(List TLog122)×Int×Int))(x2 a0 x8 jK:Int)(zD:(List TDisk51))(kX:(List TStore81))(jE:(List TLog122)):Option ((List TDisk51)×(List TStore81)×(List TLog122)×Int×Int):=
 if jK<2 then qb (i64 (jK*x2)) fun x14=>qb (ck (∀x∈kX,TStore81.ok122 jE.length x)) fun _=>vG (M22 a0 x14 x2 zD jE) fun l16 l17 x18 l19 x21=>if x21≠0 then some (l16,kX,l17,(-1),x21) else wP (M23 l19) fun x58 b59 x60 b61=>if b59=true then if b61=true then qb (qs 20 (List.replicate 20 ([]:(List UInt8)))) fun _=>qb (qs 20 x60) fun _=>qdy kX x8 jK x18 go1 l16 l17 x58 true x60 true else qb (qs 20 (List.replicate 20 ([]:(List UInt8)))) fun _=>qb (qs 20 x60) fun _=>qdy kX x8 jK x18 go1 l16 l17 x58 true x60 false else if b61=true then qb (qs 20 (List.replicate 20 ([]:(List UInt8)))) fun _=>qb (qs 20 x60) fun _=>qdy kX x8 jK x18 go1 l16 l17 x58 false x60 true else qb (qs 20 (List.replicate 20 ([]:(List UInt8)))) fun _=>qb (qs 20 x60) fun _=>qdy kX x8 jK x18 go1 l16 l17 x58 false x60 false else qmX x8 zD kX jE
def qdx(x2 a0 x8:Int):Nat→Int→(List TDisk51)→(List TStore81)→(List TLog122)→Option ((List TDisk51)×(List TStore81)×(List TLog122)×Int×Int)
 | 0,_,_,_,_=>none
 | n+1,jK,zD,kX,jE=>qhJ (qdx x2 a0 x8 n) x2 a0 x8 jK zD kX jE
def M7(a0:Int)(A51:(List TDisk51))(A81:(List TStore81))(kT:(List TLog122)):Option ((List TDisk51)×(List TStore81)×(List TLog122)×Int×Int):=
 qb (idx A51 a0) fun th1=>qb (qcT .i64 (th1.Seen.length:Int) 2) fun x2=>qo (qal A81 (⟨(List.replicate 2 ((-1):Int)),(-1),0,false,0,(List.replicate 20 ([]:(List UInt8))),[]⟩:TStore81)) fun x8 l9=>qdx x2 a0 x8 big 0 A51 l9 kT
def qgi(th1:TStore)(gx1:Int):Option Int:=
 if gx1<0 then some (-1) else qb (idx th1.active_ gx1) fun x6=>some x6
def qjt(th1:TStore):Option Int:=
 qgi th1 (-1)
def qjs(th1:TStore)(gx2:Int)(go1:Int→Option Int)(gb3:Bool):Option Int:=
 if gb3=true then qgi th1 gx2 else qb (i64 (gx2+1)) fun x9=>go1 x9
def qfi(go1:Int→Option Int)(th1:TStore)(kK:(List Ttx))(a1 gx2:Int):Option Int:=
 if gx2<(th1.active_.length:Int) then qb (idx th1.active_ gx2) fun x8=>qb (idx kK x8) fun zS=>qjs th1 gx2 go1 (decide (zS.id_=a1)) else qjt th1
def qbM(th1:TStore)(kK:(List Ttx))(a1:Int):Nat→Int→Option Int
 | 0,_=>none
 | n+1,gx2=>qfi (qbM th1 kK a1 n) th1 kK a1 gx2
def M55(a0 a1:Int)(A67:(List TStore))(kK:(List Ttx)):Option Int:=
 qb (idx A67 a0) fun th1=>qb (qs 2 th1.logs_) fun _=>qb (qs 20 th1.items_) fun _=>qbM th1 kK a1 big 0
def qbS(A67:(List TStore))(kK:(List Ttx))(a0 a1:Int)(gb1:Bool):Option ((List TStore)×(List Ttx)×Int):=
 if gb1=true then some (A67,kK,1) else qb (M55 a0 a1 A67 kK) fun x4=>qb (idx A67 a0) fun th6=>if 0≤x4 then some (A67,kK,7) else qb (qs 2 th6.logs_) fun _=>qb (qs 20 th6.items_) fun _=>qb (ck ((∀x∈A67,TStore.ok130 kK.length x)∧(∀k∈th6.active_,k<kK.length)∧(∀k∈th6.over_,k<kK.length))) fun _=>qo (qal kK (⟨a1,th6.now_,0,[],[],(List.replicate 20 ([]:(List UInt8))),false,false⟩:Ttx)) fun x68 l69=>qb (app th6.active_ ([x68])) fun l75=>qb (upd A67 a0 (⟨th6.logs_,th6.half_,th6.gen_,th6.down_,th6.now_,th6.items_,l75,th6.over_⟩:TStore)) fun l78=>some (l78,l69,0)
def M24(a0 a1:Int)(A67:(List TStore))(kK:(List Ttx)):Option ((List TStore)×(List Ttx)×Int):=
 qb (idx A67 a0) fun th1=>qb (qs 2 th1.logs_) fun _=>if th1.down_=true then some (A67,kK,13) else if a1<0 then qbS A67 kK a0 a1 true else if 12≤a1 then qbS A67 kK a0 a1 true else qbS A67 kK a0 a1 false
def qgh(a2 a0 a1:Int)(A67:(List TStore))(kK:(List Ttx))(gb1:Bool):Option (Int×Int):=
 if gb1=true then some ((-1),1) else if a2<0 then some ((-1),1) else if 20≤a2 then some ((-1),1) else qb (M55 a0 a1 A67 kK) fun x6=>qb (idx A67 a0) fun th8=>if 0≤x6 then some (x6,0) else some ((-1),6)
def M56(a0 a1 a2:Int)(A67:(List TStore))(kK:(List Ttx)):Option (Int×Int):=
 qb (idx A67 a0) fun th1=>qb (qs 2 th1.logs_) fun _=>if th1.down_=true then some ((-1),13) else if a1<0 then qgh a2 a0 a1 A67 kK true else if 12≤a1 then qgh a2 a0 a1 A67 kK true else qgh a2 a0 a1 A67 kK false
def qjf:Option Int:=
 some (-1)
def qeQ(go1:Int→Option Int)(a0:(List Int))(a1 gx1:Int):Option Int:=
 if gx1<(a0.length:Int) then qb (idx a0 gx1) fun x2=>if a1=x2 then some gx1 else qb (i64 (gx1+1)) fun x4=>go1 x4 else qjf
def qbx(a0:(List Int))(a1:Int):Nat→Int→Option Int
 | 0,_=>none
 | n+1,gx1=>qeQ (qbx a0 a1 n) a0 a1 gx1
def M99(a0:(List Int))(a1:Int):Option Int:=
 qbx a0 a1 big 0
def M57(a0:(List Int))(a1:Int):Option Bool:=
 qb (M99 a0 a1) fun x1=>some (decide (0≤x1))
def qhX(a0:(List TVersion))(gx1:Int):Option ((List UInt8)×Bool):=
 if gx1<0 then some ([],false) else qb (idx a0 gx1) fun x2=>some (x2.Text,true)
def qfh(go1:Int→Int→Option ((List UInt8)×Bool))(a0:(List TVersion))(a1 gx2 gx3:Int):Option ((List UInt8)×Bool):=
 if gx3<(a0.length:Int) then qb (idx a0 gx3) fun x4=>if x4.At≤a1 then qb (i64 (gx3+1)) fun x7=>go1 gx3 x7 else qb (i64 (gx3+1)) fun x8=>go1 gx2 x8 else qhX a0 gx2
def qbL(a0:(List TVersion))(a1:Int):Nat→Int→Int→Option ((List UInt8)×Bool)
 | 0,_,_=>none
 | n+1,gx2,gx3=>qfh (qbL a0 a1 n) a0 a1 gx2 gx3
def M58(a0:(List TVersion))(a1:Int):Option ((List UInt8)×Bool):=
 qbL a0 a1 big (-1) 0
def qgk(x2:Int)(th5:TStore)(a2:Int)(gl1:(List Ttx)):Option ((List Ttx)×(List UInt8)×Int):=
 qb (idx gl1 x2) fun zS=>qb (zd 20 th5.items_ a2) fun x11=>qb (qs 2 th5.logs_) fun _=>qo (M58 x11 zS.from_) fun s13 b14=>some (gl1,s13,0)
def M25(a0 a1 a2:Int)(A67:(List TStore))(kK:(List Ttx)):Option ((List Ttx)×(List UInt8)×Int):=
 qb (idx A67 a0) fun th1=>qo (M56 a0 a1 a2 A67 kK) fun x2 x3=>qb (idx A67 a0) fun th5=>if x3≠0 then some (kK,[],x3) else qb (idx kK x2) fun th7=>qb (M57 th7.writes_ a2) fun b8=>if b8=true then qb (zd 20 th7.texts_ a2) fun x23=>some (kK,x23,0) else qb (M57 th7.reads_ a2) fun b16=>if b16=true then qgk x2 th5 a2 kK else qb (app th7.reads_ ([a2])) fun l20=>qb (upd kK x2 (⟨th7.id_,th7.from_,th7.at_,l20,th7.writes_,th7.texts_,th7.in_,th7.out_⟩:Ttx)) fun l22=>qgk x2 th5 a2 l22
def M26(a0 a1 a2:Int)(a3:(List UInt8))(A67:(List TStore))(kK:(List Ttx)):Option ((List Ttx)×Int):=
 qb (idx A67 a0) fun th1=>qo (M56 a0 a1 a2 A67 kK) fun x2 x3=>qb (idx A67 a0) fun th5=>if x3≠0 then some (kK,x3) else if 20<(a3.length:Int) then some (kK,2) else qb (idx kK x2) fun th8=>qb (M57 th8.writes_ a2) fun b9=>if b9=true then qb (zd 20 th8.texts_ a2) fun x18=>qb (upd th8.texts_ a2 a3) fun l19=>qb (upd kK x2 (⟨th8.id_,th8.from_,th8.at_,th8.reads_,th8.writes_,l19,th8.in_,th8.out_⟩:Ttx)) fun l21=>some (l21,0) else qb (app th8.writes_ ([a2])) fun l13=>qb (zd 20 th8.texts_ a2) fun x14=>qb (upd th8.texts_ a2 a3) fun l15=>qb (upd kK x2 (⟨th8.id_,th8.from_,th8.at_,th8.reads_,l13,l15,th8.in_,th8.out_⟩:Ttx)) fun l17=>some (l17,0)
def qik(gb1:Bool):Option Bool:=
 some gb1
def qfG(gx2:Int):Option Bool:=
 qik (decide (0≤gx2))
def qij:Option Bool:=
 qfG (-1)
def qfF(gx3:Int)(go1:Int→Option Bool)(gb4:Bool):Option Bool:=
 if gb4=true then qfG gx3 else qb (i64 (gx3+1)) fun x4=>go1 x4
def qcd(go1:Int→Option Bool)(a0 a1:(List Int))(gx3:Int):Option Bool:=
 if gx3<(a0.length:Int) then qb (idx a0 gx3) fun x3=>qb (M57 a1 x3) fun b5=>qfF gx3 go1 b5 else qij
def vX(a0 a1:(List Int)):Nat→Int→Option Bool
 | 0,_=>none
 | n+1,gx3=>qcd (vX a0 a1 n) a0 a1 gx3
def qki(a0 a1:(List Int)):Option Bool:=
 vX a0 a1 big 0
def qjr(gl2 gl4:(List Int))(gb5 gb6:Bool):Option ((List Int)×(List Int)×Bool):=
 if gb5=true then some (gl2,gl4,(!gb6)) else some (gl2,gl4,true)
def qge(jB:Int)(go1:(List Int)→(List Int)→Bool→Bool→Int→Option ((List Int)×(List Int)×Bool))(jA jE:(List Int))(gb21:Bool):Option ((List Int)×(List Int)×Bool):=
 if gb21=true then qb (i64 (jB+1)) fun x13=>go1 jA jE true false x13 else qb (i64 (jB+1)) fun x12=>go1 jA jE false false x12
def qgd(jB:Int)(go1:(List Int)→(List Int)→Bool→Bool→Int→Option ((List Int)×(List Int)×Bool))(jA jE:(List Int))(gb22:Bool):Option ((List Int)×(List Int)×Bool):=
 if gb22=true then qb (i64 (jB+1)) fun x17=>go1 jA jE true true x17 else qb (i64 (jB+1)) fun x16=>go1 jA jE false true x16
def qgf(jF:Bool)(jB:Int)(go1:(List Int)→(List Int)→Bool→Bool→Int→Option ((List Int)×(List Int)×Bool))(jA jE:(List Int))(jH xZ:Bool):Option ((List Int)×(List Int)×Bool):=
 if xZ=true then if jF=true then qgd jB go1 jA jE true else if jH=true then qgd jB go1 jA jE true else qgd jB go1 jA jE false else if jF=true then qge jB go1 jA jE true else if jH=true then qge jB go1 jA jE true else qge jB go1 jA jE false
def qgg(jP jF:Bool)(jB:Int)(go1:(List Int)→(List Int)→Bool→Bool→Int→Option ((List Int)×(List Int)×Bool))(jA:(List Int))(jH yG:Bool)(jE:(List Int)):Option ((List Int)×(List Int)×Bool):=
 if jP=true then qgf jF jB go1 jA jE jH true else if yG=true then qgf jF jB go1 jA jE jH true else qgf jF jB go1 jA jE jH false
def qhV(jH:Bool)(kO:(List Int))(x6:Int)(jP jF:Bool)(jB:Int)(go1:(List Int)→(List Int)→Bool→Bool→Int→Option ((List Int)×(List Int)×Bool))(yG:Bool)(jA:(List Int)):Option ((List Int)×(List Int)×Bool):=
 if jH=true then qb (app kO ([x6])) fun l25=>qgg jP jF jB go1 jA jH yG l25 else qgg jP jF jB go1 jA jH yG kO
def qhW(yG:Bool)(gl8:(List Int))(x6:Int)(jH:Bool)(kO:(List Int))(jP jF:Bool)(jB:Int)(go1:(List Int)→(List Int)→Bool→Bool→Int→Option ((List Int)×(List Int)×Bool)):Option ((List Int)×(List Int)×Bool):=
 if yG=true then qb (app gl8 ([x6])) fun l29=>qhV jH kO x6 jP jF jB go1 yG l29 else qhV jH kO x6 jP jF jB go1 yG gl8
def wI(yG:Bool)(gl8:(List Int))(x6:Int)(jH:Bool)(kO:(List Int))(jP jF:Bool)(jB:Int)(go1:(List Int)→(List Int)→Bool→Bool→Int→Option ((List Int)×(List Int)×Bool))(zW:Bool):Option ((List Int)×(List Int)×Bool):=
 if zW=true then some ([],[],false) else qhW yG gl8 x6 jH kO jP jF jB go1
def qae(jH:Bool)(zK:Ttx)(yG:Bool)(gl8:(List Int))(x6:Int)(kO:(List Int))(jP jF:Bool)(jB:Int)(go1:(List Int)→(List Int)→Bool→Bool→Int→Option ((List Int)×(List Int)×Bool))(gb23:Bool):Option ((List Int)×(List Int)×Bool):=
 if gb23=true then some ([],[],false) else if jH=true then qb (qs 20 zK.texts_) fun _=>if zK.in_=true then wI yG gl8 x6 jH kO jP jF jB go1 true else wI yG gl8 x6 jH kO jP jF jB go1 false else wI yG gl8 x6 jH kO jP jF jB go1 false
def qc7(kK:(List Ttx))(a1 x6:Int)(gl8 kO:(List Int))(jP jF:Bool)(jB:Int)(go1:(List Int)→(List Int)→Bool→Bool→Int→Option ((List Int)×(List Int)×Bool))(yG jH:Bool):Option ((List Int)×(List Int)×Bool):=
 qb (idx kK a1) fun xM=>qb (idx kK x6) fun zK=>qb (qki xM.writes_ zK.writes_) fun b35=>if b35=true then qae jH zK yG gl8 x6 kO jP jF jB go1 true else if yG=true then qb (qs 20 zK.texts_) fun _=>if zK.out_=true then qae jH zK yG gl8 x6 kO jP jF jB go1 true else if jH=true then qae jH zK yG gl8 x6 kO jP jF jB go1 true else qae jH zK yG gl8 x6 kO jP jF jB go1 false else qae jH zK yG gl8 x6 kO jP jF jB go1 false
def qfg(go1:(List Int)→(List Int)→Bool→Bool→Int→Option ((List Int)×(List Int)×Bool))(th1:TStore)(kK:(List Ttx))(a1:Int)(gl8 kO:(List Int))(jF jP:Bool)(jB:Int):Option ((List Int)×(List Int)×Bool):=
 if jB<(th1.over_.length:Int) then qb (idx th1.over_ jB) fun x6=>qb (idx kK x6) fun th7=>qb (idx kK a1) fun th8=>qb (ck (a1≠x6)) fun _=>if th7.at_≤th8.from_ then qb (i64 (jB+1)) fun x11=>go1 gl8 kO jF jP x11 else qb (qki th8.reads_ th7.writes_) fun b41=>if b41=true then qb (qki th7.reads_ th8.writes_) fun b45=>if b45=true then qc7 kK a1 x6 gl8 kO jP jF jB go1 true true else qc7 kK a1 x6 gl8 kO jP jF jB go1 true false else qb (qki th7.reads_ th8.writes_) fun b43=>if b43=true then qc7 kK a1 x6 gl8 kO jP jF jB go1 false true else qc7 kK a1 x6 gl8 kO jP jF jB go1 false false else qjr gl8 kO jF jP
def kr(th1:TStore)(kK:(List Ttx))(a1:Int):Nat→(List Int)→(List Int)→Bool→Bool→Int→Option ((List Int)×(List Int)×Bool)
 | 0,_,_,_,_,_=>none
 | n+1,gl8,kO,jF,jP,jB=>qfg (kr th1 kK a1 n) th1 kK a1 gl8 kO jF jP jB
def M59(a0 a1:Int)(A67:(List TStore))(kK:(List Ttx)):Option ((List Int)×(List Int)×Bool):=
 qb (idx A67 a0) fun th1=>qb (qs 2 th1.logs_) fun _=>qb (qs 20 th1.items_) fun _=>kr th1 kK a1 big [] [] false false 0
def qm3(a0:(List TVersion)):Option (List TVersion):=
 qb (app [] a0) fun l3=>some l3
def qfw:Option Int:=
 some 0
def qb2(go1:Int→Option Int)(a1:(List Int))(a2 gx1:Int):Option Int:=
 if gx1<(a1.length:Int) then qb (idx a1 gx1) fun x5=>if x5<0 then some 1 else if a2<x5 then some 1 else qb (i64 (gx1+1)) fun x8=>go1 x8 else qfw
def vL(a1:(List Int))(a2:Int):Nat→Int→Option Int
 | 0,_=>none
 | n+1,gx1=>qb2 (vL a1 a2 n) a1 a2 gx1
def qfx(a1:(List Int))(a2:Int):Option Int:=
 vL a1 a2 big 0
def qb1(go2:Int→Int→Option Int)(a0:(List TVersion))(a2:Int)(a1:(List Int))(gx2 gx3:Int):Option Int:=
 if gx3<(a0.length:Int) then qb (idx a0 gx3) fun x10=>if x10.At≤gx2 then some 4 else if a2<x10.At then some 4 else qb (i64 (gx3+1)) fun x14=>go2 x10.At x14 else qfx a1 a2
def vK(a0:(List TVersion))(a2:Int)(a1:(List Int)):Nat→Int→Int→Option Int
 | 0,_,_=>none
 | n+1,gx2,gx3=>qb1 (vK a0 a2 a1 n) a0 a2 a1 gx2 gx3
def qmC(a0:(List TVersion))(a1:(List Int))(a2:Int):Option Int:=
 if 100<(a0.length:Int) then some 2 else if 12<(a1.length:Int) then some 2 else if a2<0 then some 1 else vK a0 a2 a1 big 0 0
def qlG(a0:(List Int)):Option (List Int):=
 qb (app [] a0) fun l3=>some l3
def qn5(a0:TVersion)(a1:Int):Option Int:=
 if a0.At≤a1 then some (-1) else some 1
def qaT(gx1:Int)(gb2:Bool):Option Int:=
 qb (i64 (gx1-1)) fun x1=>some x1
def qaS(gx3 gx4:Int):Option Int:=
 qaT gx3 (decide (gx4=0))
def qfv(a0:(List TVersion))(a1 gx3:Int):Option Int:=
 if gx3<(a0.length:Int) then qb (idx a0 gx3) fun x3=>if x3.At≤a1 then qaS gx3 (-1) else qaS gx3 1 else qaT gx3 false
def qdp(x8:Int)(go1:Int→Int→Option Int)(gx6 gx5 gx7:Int):Option Int:=
 if gx7<0 then qb (i64 ((IntKind.wrap .i64 x8)+1)) fun x11=>go1 x11 gx6 else go1 gx5 (IntKind.wrap .i64 x8)
def qb0(go1:Int→Int→Option Int)(a0:(List TVersion))(a1 gx5 gx6:Int):Option Int:=
 if gx5<gx6 then qb (i64 (gx5+gx6)) fun x7=>qb (qgt .u64 (IntKind.wrap .u64 x7) 1) fun x8=>qb (idx a0 (IntKind.wrap .i64 x8)) fun x9=>if x9.At≤a1 then qdp x8 go1 gx6 gx5 (-1) else qdp x8 go1 gx6 gx5 1 else qfv a0 a1 gx5
def vJ(a0:(List TVersion))(a1:Int):Nat→Int→Int→Option Int
 | 0,_,_=>none
 | n+1,gx5,gx6=>qb0 (vJ a0 a1 n) a0 a1 gx5 gx6
def qm2(a0:(List TVersion))(a1:Int):Option Int:=
 vJ a0 a1 big 0 (a0.length:Int)
def qfz(gl3:(List TVersion)):Option ((List TVersion)×Int):=
 some (gl3,0)
def qb7(go1:(List TVersion)→Int→Option ((List TVersion)×Int))(a0:(List TVersion))(gl1:(List (Int×Int)))(gl5:(List TVersion))(gx6:Int):Option ((List TVersion)×Int):=
 if gx6<(a0.length:Int) then qb (idx a0 gx6) fun x6=>if 0<(ju gl1 gx6 0) then qb (app gl5 ([x6])) fun l11=>qb (i64 (gx6+1)) fun x12=>go1 l11 x12 else qb (i64 (gx6+1)) fun x13=>go1 gl5 x13 else qfz gl5
def vT(a0:(List TVersion))(gl1:(List (Int×Int))):Nat→(List TVersion)→Int→Option ((List TVersion)×Int)
 | 0,_,_=>none
 | n+1,gl5,gx6=>qb7 (vT a0 gl1 n) a0 gl1 gl5 gx6
def qdq(a0:(List TVersion))(gl1:(List (Int×Int))):Option ((List TVersion)×Int):=
 vT a0 gl1 big [] 0
def qb6(go2:Int→(List (Int×Int))→Option ((List TVersion)×Int))(l19:(List Int))(a0:(List TVersion))(gx7:Int)(gl8:(List (Int×Int))):Option ((List TVersion)×Int):=
 if gx7<(l19.length:Int) then qb (idx l19 gx7) fun x21=>qb (qm2 a0 x21) fun x22=>qb (i64 ((ju gl8 x22 0)+1)) fun x24=>qb (some (wM gl8 x22 x24)) fun l25=>qb (i64 (gx7+1)) fun x26=>go2 x26 (wM gl8 x22 x24) else qdq a0 gl8
def vS(l19:(List Int))(a0:(List TVersion)):Nat→Int→(List (Int×Int))→Option ((List TVersion)×Int)
 | 0,_,_=>none
 | n+1,gx7,gl8=>qb6 (vS l19 a0 n) l19 a0 gx7 gl8
def qmD(a0:(List TVersion))(a1:(List Int))(a2:Int):Option ((List TVersion)×Int):=
 qb (qmC a0 a1 a2) fun x1=>if x1≠0 then some ([],x1) else qb (qlG a1) fun l14=>qb (app l14 ([a2])) fun l19=>vS l19 a0 big 0 []
def qhU(kO:(List (List TVersion)))(gx9:Int)(go1:(List Int)→Int→(List (List TVersion))→Option (List TStore))(yZ:(List Int))(gl28:(List TVersion)):Option (List TStore):=
 qb (zd 20 kO gx9) fun x36=>qb (upd kO gx9 gl28) fun l37=>qb (i64 (gx9+1)) fun x40=>go1 yZ x40 l37
def qhQ(kO:(List (List TVersion)))(gx9:Int)(go1:(List Int)→Int→(List (List TVersion))→Option (List TStore))(zI:(List TVersion))(jD:(List Int)):Option (List TStore):=
 qhU kO gx9 go1 jD zI
def qe6(go2:(List Int)→Int→Option (List TStore))(jM:(List Int))(kO:(List (List TVersion)))(gx9:Int)(go1:(List Int)→Int→(List (List TVersion))→Option (List TStore))(zI:(List TVersion))(gl33:(List Int))(gx34:Int):Option (List TStore):=
 if gx34<(jM.length:Int) then qb (idx gl33 gx34) fun x50=>qb (i64 (x50-1)) fun x51=>qb (idx gl33 gx34) fun x52=>qb (upd gl33 gx34 x51) fun l53=>qb (i64 (gx34+1)) fun x54=>go2 l53 x54 else qhQ kO gx9 go1 zI gl33
def qbI(jM:(List Int))(kO:(List (List TVersion)))(gx9:Int)(go1:(List Int)→Int→(List (List TVersion))→Option (List TStore))(zI:(List TVersion)):Nat→(List Int)→Int→Option (List TStore)
 | 0,_,_=>none
 | n+1,gl33,gx34=>qe6 (qbI jM kO gx9 go1 zI n) jM kO gx9 go1 zI gl33 gx34
def qhR(jM:(List Int))(kO:(List (List TVersion)))(gx9:Int)(go1:(List Int)→Int→(List (List TVersion))→Option (List TStore))(zI:(List TVersion)):Option (List TStore):=
 qbI jM kO gx9 go1 zI big jM 0
def qe5(go3:(List TVersion)→Int→Option (List TStore))(l45:(List TVersion))(jM:(List Int))(kO:(List (List TVersion)))(gx9:Int)(go1:(List Int)→Int→(List (List TVersion))→Option (List TStore))(jL:(List TVersion))(gx36:Int):Option (List TStore):=
 if gx36<(l45.length:Int) then qb (idx jL gx36) fun x56=>qb (i64 (x56.At-1)) fun x57=>qb (idx jL gx36) fun x58=>qb (upd jL gx36 (⟨x57,x58.Text⟩:TVersion)) fun l59=>qb (i64 (gx36+1)) fun x60=>go3 l59 x60 else qhR jM kO gx9 go1 jL
def qbH(l45:(List TVersion))(jM:(List Int))(kO:(List (List TVersion)))(gx9:Int)(go1:(List Int)→Int→(List (List TVersion))→Option (List TStore)):Nat→(List TVersion)→Int→Option (List TStore)
 | 0,_,_=>none
 | n+1,jL,gx36=>qe5 (qbH l45 jM kO gx9 go1 n) l45 jM kO gx9 go1 jL gx36
def qhS(th1:TStore)(jQ:(List TVersion))(kO:(List (List TVersion)))(gx9:Int)(go1:(List Int)→Int→(List (List TVersion))→Option (List TStore))(jM:(List Int)):Option (List TStore):=
 qb (i64 (th1.now_+1)) fun x44=>qo (qmD jQ jM x44) fun l45 x47=>qbH l45 jM kO gx9 go1 big l45 0
def qe4(go4:(List Int)→Int→Option (List TStore))(gl8:(List Int))(th1:TStore)(jQ:(List TVersion))(kO:(List (List TVersion)))(gx9:Int)(go1:(List Int)→Int→(List (List TVersion))→Option (List TStore))(yC:(List Int))(gx38:Int):Option (List TStore):=
 if gx38<(gl8.length:Int) then qb (idx yC gx38) fun x62=>qb (i64 (x62+1)) fun x63=>qb (idx yC gx38) fun x64=>qb (upd yC gx38 x63) fun l65=>qb (i64 (gx38+1)) fun x66=>go4 l65 x66 else qhS th1 jQ kO gx9 go1 yC
def qbG(gl8:(List Int))(th1:TStore)(jQ:(List TVersion))(kO:(List (List TVersion)))(gx9:Int)(go1:(List Int)→Int→(List (List TVersion))→Option (List TStore)):Nat→(List Int)→Int→Option (List TStore)
 | 0,_,_=>none
 | n+1,yC,gx38=>qe4 (qbG gl8 th1 jQ kO gx9 go1 n) gl8 th1 jQ kO gx9 go1 yC gx38
def qhT(gl8:(List Int))(th1:TStore)(kO:(List (List TVersion)))(gx9:Int)(go1:(List Int)→Int→(List (List TVersion))→Option (List TStore))(jQ:(List TVersion)):Option (List TStore):=
 qbG gl8 th1 jQ kO gx9 go1 big gl8 0
def qe3(go5:(List TVersion)→Int→Option (List TStore))(l41:(List TVersion))(gl8:(List Int))(th1:TStore)(kO:(List (List TVersion)))(gx9:Int)(go1:(List Int)→Int→(List (List TVersion))→Option (List TStore))(gl39:(List TVersion))(gx40:Int):Option (List TStore):=
 if gx40<(l41.length:Int) then qb (idx gl39 gx40) fun x68=>qb (i64 (x68.At+1)) fun x69=>qb (idx gl39 gx40) fun x70=>qb (upd gl39 gx40 (⟨x69,x70.Text⟩:TVersion)) fun l71=>qb (i64 (gx40+1)) fun x72=>go5 l71 x72 else qhT gl8 th1 kO gx9 go1 gl39
def qas(l41:(List TVersion))(gl8:(List Int))(th1:TStore)(kO:(List (List TVersion)))(gx9:Int)(go1:(List Int)→Int→(List (List TVersion))→Option (List TStore)):Nat→(List TVersion)→Int→Option (List TStore)
 | 0,_,_=>none
 | n+1,gl39,gx40=>qe3 (qas l41 gl8 th1 kO gx9 go1 n) l41 gl8 th1 kO gx9 go1 gl39 gx40
def qe7(go1:(List Int)→Int→(List (List TVersion))→Option (List TStore))(th1:TStore)(A67:(List TStore))(a0:Int)(gl2 gl7 gl8:(List Int))(gx9:Int)(kO:(List (List TVersion))):Option (List TStore):=
 if gx9<20 then qb (zd 20 th1.items_ gx9) fun x7=>if 1<(x7.length:Int) then qb (qm3 x7) fun l41=>qas l41 gl8 th1 kO gx9 go1 big l41 0 else qb (i64 (gx9+1)) fun x73=>go1 gl8 x73 kO else qb (upd A67 a0 (⟨th1.logs_,th1.half_,th1.gen_,th1.down_,th1.now_,kO,gl2,gl7⟩:TStore)) fun l75=>some l75
def qbK(th1:TStore)(A67:(List TStore))(a0:Int)(gl2 gl7:(List Int)):Nat→(List Int)→Int→(List (List TVersion))→Option (List TStore)
 | 0,_,_,_=>none
 | n+1,gl8,gx9,kO=>qe7 (qbK th1 A67 a0 gl2 gl7 n) th1 A67 a0 gl2 gl7 gl8 gx9 kO
def qd4(th1:TStore)(A67:(List TStore))(a0:Int)(gl2 gl4 gl7:(List Int)):Option (List TStore):=
 qbK th1 A67 a0 gl2 gl7 big gl4 0 th1.items_
def qff(th1:TStore)(A67:(List TStore))(a0:Int)(gl2 gl4 gl42:(List Int))(gx43:Int):Option (List TStore):=
 qb (cut gl42 gx43 gl42.length) fun l77=>qb (clr gl42 gx43 (-1)) fun l78=>qb (cut l78 0 gx43) fun l79=>qd4 th1 A67 a0 gl2 gl4 l79
def qfe(gx46:Int)(go6:(List Int)→Int→Int→Option (List TStore))(xE:(List Int))(gx45 x83:Int)(gb47:Bool):Option (List TStore):=
 if gb47=true then qb (i64 (gx46+1)) fun x88=>go6 xE gx45 x88 else qb (idx xE gx45) fun x84=>qb (upd xE gx45 x83) fun l85=>qb (i64 (gx45+1)) fun x86=>qb (i64 (gx46+1)) fun x87=>go6 l85 x86 x87
def qe2(go6:(List Int)→Int→Int→Option (List TStore))(kK:(List Ttx))(gx5:Int)(th1:TStore)(A67:(List TStore))(a0:Int)(gl2 gl4 xE:(List Int))(gx45 gx46:Int):Option (List TStore):=
 if gx46<(xE.length:Int) then qb (idx xE gx46) fun x83=>qb (idx kK x83) fun th89=>qfe gx46 go6 xE gx45 x83 (decide (th89.at_≤gx5)) else qff th1 A67 a0 gl2 gl4 xE gx45
def qbF(kK:(List Ttx))(gx5:Int)(th1:TStore)(A67:(List TStore))(a0:Int)(gl2 gl4:(List Int)):Nat→(List Int)→Int→Int→Option (List TStore)
 | 0,_,_,_=>none
 | n+1,xE,gx45,gx46=>qe2 (qbF kK gx5 th1 A67 a0 gl2 gl4 n) kK gx5 th1 A67 a0 gl2 gl4 xE gx45 gx46
def qgb(th1:TStore)(A67:(List TStore))(a0:Int)(gl2 gl4:(List Int))(kK:(List Ttx))(gx5 gx41:Int):Option (List TStore):=
 if gx41=(-1) then qd4 th1 A67 a0 gl2 gl4 th1.over_ else qb (i64 (gx41+1)) fun x81=>qbF kK gx5 th1 A67 a0 gl2 gl4 big th1.over_ gx41 x81
def qfd(th1:TStore)(A67:(List TStore))(a0:Int)(gl2 gl4:(List Int))(kK:(List Ttx))(gx5:Int):Option (List TStore):=
 qgb th1 A67 a0 gl2 gl4 kK gx5 (-1)
def qfc(th1:TStore)(A67:(List TStore))(a0:Int)(gl2 gl4:(List Int))(kK:(List Ttx))(gx5 gx48:Int)(go7:Int→Option (List TStore))(gb49:Bool):Option (List TStore):=
 if gb49=true then qgb th1 A67 a0 gl2 gl4 kK gx5 gx48 else qb (i64 (gx48+1)) fun x92=>go7 x92
def qe1(go7:Int→Option (List TStore))(th1:TStore)(kK:(List Ttx))(A67:(List TStore))(a0:Int)(gl2 gl4:(List Int))(gx5 gx48:Int):Option (List TStore):=
 if gx48<(th1.over_.length:Int) then qb (idx th1.over_ gx48) fun x91=>qb (idx kK x91) fun th93=>qfc th1 A67 a0 gl2 gl4 kK gx5 gx48 go7 (decide (th93.at_≤gx5)) else qfd th1 A67 a0 gl2 gl4 kK gx5
def qbE(th1:TStore)(kK:(List Ttx))(A67:(List TStore))(a0:Int)(gl2 gl4:(List Int))(gx5:Int):Nat→Int→Option (List TStore)
 | 0,_=>none
 | n+1,gx48=>qe1 (qbE th1 kK A67 a0 gl2 gl4 gx5 n) th1 kK A67 a0 gl2 gl4 gx5 gx48
def qgc(th1:TStore)(kK:(List Ttx))(A67:(List TStore))(a0:Int)(gl2 gl4:(List Int))(gx5:Int):Option (List TStore):=
 qbE th1 kK A67 a0 gl2 gl4 gx5 big 0
def qe0(go8:(List Int)→Int→Int→Option (List TStore))(gl2:(List Int))(kK:(List Ttx))(th1:TStore)(A67:(List TStore))(a0:Int)(gl51:(List Int))(gx52 gx53:Int):Option (List TStore):=
 if gx52<(gl2.length:Int) then qb (idx gl2 gx52) fun x95=>qb (idx kK x95) fun zX=>qb (app gl51 ([zX.from_])) fun l103=>qb (i64 (gx52+1)) fun x104=>go8 l103 x104 (min gx53 zX.from_) else qgc th1 kK A67 a0 gl2 gl51 gx53
def qbD(gl2:(List Int))(kK:(List Ttx))(th1:TStore)(A67:(List TStore))(a0:Int):Nat→(List Int)→Int→Int→Option (List TStore)
 | 0,_,_,_=>none
 | n+1,gl51,gx52,gx53=>qe0 (qbD gl2 kK th1 A67 a0 n) gl2 kK th1 A67 a0 gl51 gx52 gx53
def qd5(kK:(List Ttx))(th1:TStore)(A67:(List TStore))(a0:Int)(gl2:(List Int)):Option (List TStore):=
 qbD gl2 kK th1 A67 a0 big [] 0 th1.now_
def qfb(kK:(List Ttx))(th1:TStore)(A67:(List TStore))(a0:Int)(gl55:(List Int))(gx56:Int):Option (List TStore):=
 qb (cut gl55 gx56 gl55.length) fun l106=>qb (clr gl55 gx56 (-1)) fun l107=>qb (cut l107 0 gx56) fun l108=>qd5 kK th1 A67 a0 l108
def qfa(x112 a1:Int)(xR:(List Int))(gx58 gx59:Int)(go9:(List Int)→Int→Int→Option (List TStore)):Option (List TStore):=
 if(!(decide (x112=a1)))=true then qb (idx xR gx58) fun x114=>qb (upd xR gx58 x112) fun l115=>qb (i64 (gx58+1)) fun x116=>qb (i64 (gx59+1)) fun x117=>go9 l115 x116 x117 else qb (i64 (gx59+1)) fun x118=>go9 xR gx58 x118
def qeZ(go9:(List Int)→Int→Int→Option (List TStore))(kK:(List Ttx))(a1:Int)(th1:TStore)(A67:(List TStore))(a0:Int)(xR:(List Int))(gx58 gx59:Int):Option (List TStore):=
 if gx59<(xR.length:Int) then qb (idx xR gx59) fun x112=>qb (idx kK x112) fun th119=>qb (idx kK a1) fun th120=>qfa x112 a1 xR gx58 gx59 go9 else qfb kK th1 A67 a0 xR gx58
def qbC(kK:(List Ttx))(a1:Int)(th1:TStore)(A67:(List TStore))(a0:Int):Nat→(List Int)→Int→Int→Option (List TStore)
 | 0,_,_,_=>none
 | n+1,xR,gx58,gx59=>qeZ (qbC kK a1 th1 A67 a0 n) kK a1 th1 A67 a0 xR gx58 gx59
def qaQ(kK:(List Ttx))(th1:TStore)(A67:(List TStore))(a0 a1 gx54:Int):Option (List TStore):=
 if gx54=(-1) then qd5 kK th1 A67 a0 th1.active_ else qb (i64 (gx54+1)) fun x110=>qbC kK a1 th1 A67 a0 big th1.active_ gx54 x110
def qe9(kK:(List Ttx))(th1:TStore)(A67:(List TStore))(a0 a1:Int):Option (List TStore):=
 qaQ kK th1 A67 a0 a1 (-1)
def qe8(x122 a1:Int)(kK:(List Ttx))(th1:TStore)(A67:(List TStore))(a0 gx60:Int)(go10:Int→Option (List TStore)):Option (List TStore):=
 if(decide (x122=a1))=true then qaQ kK th1 A67 a0 a1 gx60 else qb (i64 (gx60+1)) fun x123=>go10 x123
def qbJ(go10:Int→Option (List TStore))(th1:TStore)(kK:(List Ttx))(a1:Int)(A67:(List TStore))(a0 gx60:Int):Option (List TStore):=
 if gx60<(th1.active_.length:Int) then qb (idx th1.active_ gx60) fun x122=>qb (idx kK x122) fun th124=>qb (idx kK a1) fun xD=>qe8 x122 a1 kK th1 A67 a0 gx60 go10 else qe9 kK th1 A67 a0 a1
def vI(th1:TStore)(kK:(List Ttx))(a1:Int)(A67:(List TStore))(a0:Int):Nat→Int→Option (List TStore)
 | 0,_=>none
 | n+1,gx60=>qbJ (vI th1 kK a1 A67 a0 n) th1 kK a1 A67 a0 gx60
def M60(a0 a1:Int)(A67:(List TStore))(kK:(List Ttx)):Option (List TStore):=
 qb (idx A67 a0) fun th1=>qb (qs 2 th1.logs_) fun _=>qb (qs 20 th1.items_) fun _=>vI th1 kK a1 A67 a0 big 0
def qlF(a0:(List UInt8)):Option ((List UInt8)×Int):=
 if 4096<(a0.length:Int) then some ([],2) else qb (qli (IntKind.wrap .u64 (a0.length:Int))) fun s2=>qb (kp s2 a0) fun s4=>some (s4,0)
def M65(a0:Int)(a1:(List UInt8)):Option (List UInt8):=
 qo (qlF a1) fun s1 x2=>qb (M63 a0) fun s4=>qb (kp s4 s1) fun s6=>some s6
def qii(gl2:(List (List UInt8))):Option (List (List UInt8)):=
 some gl2
def qed(go1:(List UInt8)→(List (List UInt8))→(List UInt8)→Option (List (List UInt8)))(a0 a1:Int)(gs3:(List UInt8))(gl5:(List (List UInt8)))(gs6:(List UInt8)):Option (List (List UInt8)):=
 if gs3≠[] then qb (M84 gs6 a0 a1) fun s8=>qb (i64 (64-(s8.length:Int))) fun x10=>qb (cut gs3 0 (min x10 (gs3.length:Int))) fun s11=>qb (kp s8 s11) fun s12=>qb (app gl5 ([s12])) fun l15=>qb (cut gs3 (min x10 (gs3.length:Int)) gs3.length) fun s16=>go1 s16 l15 ([2]) else qii gl5
def km(a0 a1:Int):Nat→(List UInt8)→(List (List UInt8))→(List UInt8)→Option (List (List UInt8))
 | 0,_,_,_=>none
 | n+1,gs3,gl5,gs6=>qed (km a0 a1 n) a0 a1 gs3 gl5 gs6
def qlj(a0 a1:Int)(a2:(List UInt8)):Option (List (List UInt8)):=
 qo (qlF a2) fun s1 x2=>qo (qjE s1) fun s4 x5=>km a0 a1 big s4 [] ([1])
def qjp(kQ:(List TLog))(a0:Int)(l5:(List (List UInt8)))(gl1:(List TDisk)):Option ((List TDisk)×(List TLog)×Int):=
 qb (idx kQ a0) fun oA=>qb (i64 (oA.at_+(l5.length:Int))) fun x12=>qb (i64 (oA.seq_+1)) fun x13=>qb (upd kQ a0 (⟨oA.d_,oA.from_,oA.size_,oA.epoch_,x12,x13,oA.fell_⟩:TLog)) fun l14=>some (gl1,l14,0)
def qeX(go1:Int→(List TDisk)→Option ((List TDisk)×(List TLog)×Int))(l5:(List (List UInt8)))(kQ:(List TLog))(a0 gx3:Int)(gl4:(List TDisk)):Option ((List TDisk)×(List TLog)×Int):=
 if gx3<(l5.length:Int) then qb (idx l5 gx3) fun x17=>qb (idx kQ a0) fun th18=>qb (i64 (th18.from_+th18.at_)) fun x44=>qb (i64 (x44+gx3)) fun x45=>qo (M86 th18.d_ x45 x17 gl4) fun l46 x47=>if x47≠0 then qo (M87 a0 x47 kQ) fun l52 x53=>some (l46,l52,x53) else qb (i64 (gx3+1)) fun x56=>go1 x56 l46 else qjp kQ a0 l5 gl4
def qbA(l5:(List (List UInt8)))(kQ:(List TLog))(a0:Int):Nat→Int→(List TDisk)→Option ((List TDisk)×(List TLog)×Int)
 | 0,_,_=>none
 | n+1,gx3,gl4=>qeX (qbA l5 kQ a0 n) l5 kQ a0 gx3 gl4
def M66(a0:Int)(a1:(List UInt8))(A57:(List TDisk))(kQ:(List TLog)):Option ((List TDisk)×(List TLog)×Int):=
 qb (idx kQ a0) fun th1=>if th1.fell_=true then some (A57,kQ,10) else if 300<(a1.length:Int) then some (A57,kQ,2) else qb (qlj th1.epoch_ th1.seq_ a1) fun l5=>qb (i64 (th1.at_+(l5.length:Int))) fun x9=>if th1.size_<x9 then some (A57,kQ,8) else qbA l5 kQ a0 big 0 A57
def M64(a0 a1:Int)(A67:(List TStore)):Option ((List TStore)×Int):=
 qb (idx A67 a0) fun th1=>qb (qs 2 th1.logs_) fun _=>if th1.down_=true then qb (upd A67 a0 (⟨th1.logs_,th1.half_,th1.gen_,true,th1.now_,th1.items_,th1.active_,th1.over_⟩:TStore)) fun l5=>some (l5,a1) else qb (upd A67 a0 (⟨th1.logs_,th1.half_,th1.gen_,(decide (a1≠0)),th1.now_,th1.items_,th1.active_,th1.over_⟩:TStore)) fun l7=>some (l7,a1)
def M67(a0:Int)(A57:(List TDisk))(kQ:(List TLog)):Option ((List TDisk)×(List TLog)×Int):=
 qb (idx kQ a0) fun th1=>if th1.fell_=true then some (A57,kQ,10) else qo (M88 th1.d_ A57) fun l3 x4=>qo (M87 a0 x4 kQ) fun l7 x8=>some (l3,l7,x8)
def qhP(th1:TStore)(A57:(List TDisk))(kQ:(List TLog))(a0:Int)(A67:(List TStore))(gs1:(List UInt8)):Option ((List TDisk)×(List TStore)×(List TLog)×Int):=
 qb (qs 2 th1.logs_) fun _=>qb (zd 2 th1.logs_ th1.half_) fun x9=>qI (M66 x9 gs1 A57 kQ) fun l10 l11 x12=>if x12=0 then qI (M67 x9 l10 l11) fun l17 l18 x19=>qo (M64 a0 x19 A67) fun l23 x24=>qb (idx l23 a0) fun yU=>some (l17,l23,l18,x24) else if x12=2 then some (l10,A67,l11,x12) else if x12=8 then some (l10,A67,l11,x12) else qo (M64 a0 x12 A67) fun l30 x31=>qb (idx l30 a0) fun th34=>some (l10,l30,l11,x31)
def qeY(go1:(List UInt8)→Int→Option ((List TDisk)×(List TStore)×(List TLog)×Int))(l7:(List Int))(kK:(List Ttx))(a1:Int)(th1:TStore)(A57:(List TDisk))(kQ:(List TLog))(a0:Int)(A67:(List TStore))(gs2:(List UInt8))(gx3:Int):Option ((List TDisk)×(List TStore)×(List TLog)×Int):=
 if gx3<(l7.length:Int) then qb (idx l7 gx3) fun x36=>qb (idx kK a1) fun xS=>qb (zd 20 xS.texts_ x36) fun x38=>qb (M65 x36 x38) fun s39=>qb (kp gs2 s39) fun s41=>qb (i64 (gx3+1)) fun x42=>go1 s41 x42 else qhP th1 A57 kQ a0 A67 gs2
def qbB(l7:(List Int))(kK:(List Ttx))(a1:Int)(th1:TStore)(A57:(List TDisk))(kQ:(List TLog))(a0:Int)(A67:(List TStore)):Nat→(List UInt8)→Int→Option ((List TDisk)×(List TStore)×(List TLog)×Int)
 | 0,_,_=>none
 | n+1,gs2,gx3=>qeY (qbB l7 kK a1 th1 A57 kQ a0 A67 n) l7 kK a1 th1 A57 kQ a0 A67 gs2 gx3
def M61(a0 a1:Int)(A57:(List TDisk))(A67:(List TStore))(kQ:(List TLog))(kK:(List Ttx)):Option ((List TDisk)×(List TStore)×(List TLog)×Int):=
 qb (idx A67 a0) fun th1=>qb (idx kK a1) fun th2=>if(th2.writes_.length:Int)=0 then some (A57,A67,kQ,0) else qb (qlG th2.writes_) fun l4=>qb (qfI l4) fun l7=>qbB l7 kK a1 th1 A57 kQ a0 A67 big ([67]) 0
def qh4(kV:TStore)(x2:Int)(l16:(List TStore))(a0 x26:Int)(gl3:(List Ttx))(l15:(List TDisk))(l17:(List TLog))(gl5:(List (List TVersion))):Option ((List TDisk)×(List TStore)×(List TLog)×(List Ttx)×Int):=
 qb (qs 20 gl5) fun _=>qb (app kV.over_ ([x2])) fun l31=>qb (upd l16 a0 (⟨kV.logs_,kV.half_,kV.gen_,kV.down_,x26,gl5,kV.active_,l31⟩:TStore)) fun l33=>qb (M60 a0 x2 l33 gl3) fun l34=>qb (idx l34 a0) fun xS=>some (l15,l34,l17,gl3,0)
def qfq(go1:Int→(List (List TVersion))→Option ((List TDisk)×(List TStore)×(List TLog)×(List Ttx)×Int))(jO:Ttx)(x26:Int)(kV:TStore)(x2:Int)(l16:(List TStore))(a0:Int)(gl3:(List Ttx))(l15:(List TDisk))(l17:(List TLog))(gx7:Int)(gl8:(List (List TVersion))):Option ((List TDisk)×(List TStore)×(List TLog)×(List Ttx)×Int):=
 if gx7<(jO.writes_.length:Int) then qb (idx jO.writes_ gx7) fun x40=>qb (zd 20 gl8 x40) fun x69=>qb (zd 20 jO.texts_ x40) fun x70=>qb (app x69 ([(⟨x26,x70⟩:TVersion)])) fun l73=>qb (zd 20 gl8 x40) fun x76=>qb (upd gl8 x40 l73) fun l77=>qb (i64 (gx7+1)) fun x79=>go1 x79 l77 else qh4 kV x2 l16 a0 x26 gl3 l15 l17 gl8
def qbR(jO:Ttx)(x26:Int)(kV:TStore)(x2:Int)(l16:(List TStore))(a0:Int)(gl3:(List Ttx))(l15:(List TDisk))(l17:(List TLog)):Nat→Int→(List (List TVersion))→Option ((List TDisk)×(List TStore)×(List TLog)×(List Ttx)×Int)
 | 0,_,_=>none
 | n+1,gx7,gl8=>qfq (qbR jO x26 kV x2 l16 a0 gl3 l15 l17 n) jO x26 kV x2 l16 a0 gl3 l15 l17 gx7 gl8
def qh5(x2 x26:Int)(kV:TStore)(l16:(List TStore))(a0:Int)(l15:(List TDisk))(l17:(List TLog))(gl3:(List Ttx)):Option ((List TDisk)×(List TStore)×(List TLog)×(List Ttx)×Int):=
 qb (idx gl3 x2) fun jO=>qbR jO x26 kV x2 l16 a0 gl3 l15 l17 big 0 kV.items_
def qfp(go2:Int→(List Ttx)→Option ((List TDisk)×(List TStore)×(List TLog)×(List Ttx)×Int))(l9:(List Int))(x2 x26:Int)(kV:TStore)(l16:(List TStore))(a0:Int)(l15:(List TDisk))(l17:(List TLog))(gx10:Int)(jR:(List Ttx)):Option ((List TDisk)×(List TStore)×(List TLog)×(List Ttx)×Int):=
 if gx10<(l9.length:Int) then qb (idx l9 gx10) fun x81=>qb (idx jR x81) fun zJ=>qb (qs 20 zJ.texts_) fun _=>qb (upd jR x81 (⟨zJ.id_,zJ.from_,zJ.at_,zJ.reads_,zJ.writes_,zJ.texts_,zJ.in_,true⟩:Ttx)) fun l85=>qb (idx l85 x2) fun th86=>qb (qs 20 th86.texts_) fun _=>qb (i64 (gx10+1)) fun x88=>qb (upd l85 x2 (⟨th86.id_,th86.from_,th86.at_,th86.reads_,th86.writes_,th86.texts_,true,th86.out_⟩:Ttx)) fun l90=>go2 x88 l90 else qh5 x2 x26 kV l16 a0 l15 l17 jR
def qbQ(l9:(List Int))(x2 x26:Int)(kV:TStore)(l16:(List TStore))(a0:Int)(l15:(List TDisk))(l17:(List TLog)):Nat→Int→(List Ttx)→Option ((List TDisk)×(List TStore)×(List TLog)×(List Ttx)×Int)
 | 0,_,_=>none
 | n+1,gx10,jR=>qfp (qbQ l9 x2 x26 kV l16 a0 l15 l17 n) l9 x2 x26 kV l16 a0 l15 l17 gx10 jR
def qh6(l9:(List Int))(x2 x26:Int)(kV:TStore)(l16:(List TStore))(a0:Int)(l15:(List TDisk))(l17:(List TLog))(gl1:(List Ttx)):Option ((List TDisk)×(List TStore)×(List TLog)×(List Ttx)×Int):=
 qbQ l9 x2 x26 kV l16 a0 l15 l17 big 0 gl1
def qfo(go3:Int→(List Ttx)→Option ((List TDisk)×(List TStore)×(List TLog)×(List Ttx)×Int))(l7:(List Int))(x2:Int)(l9:(List Int))(x26:Int)(kV:TStore)(l16:(List TStore))(a0:Int)(l15:(List TDisk))(l17:(List TLog))(jB:Int)(zL:(List Ttx)):Option ((List TDisk)×(List TStore)×(List TLog)×(List Ttx)×Int):=
 if jB<(l7.length:Int) then qb (idx l7 jB) fun x94=>qb (idx zL x94) fun th95=>qb (qs 20 th95.texts_) fun _=>qb (upd zL x94 (⟨th95.id_,th95.from_,th95.at_,th95.reads_,th95.writes_,th95.texts_,true,th95.out_⟩:Ttx)) fun l98=>qb (idx l98 x2) fun th99=>qb (qs 20 th99.texts_) fun _=>qb (i64 (jB+1)) fun x101=>qb (upd l98 x2 (⟨th99.id_,th99.from_,th99.at_,th99.reads_,th99.writes_,th99.texts_,th99.in_,true⟩:Ttx)) fun l103=>go3 x101 l103 else qh6 l9 x2 x26 kV l16 a0 l15 l17 zL
def qag(l7:(List Int))(x2:Int)(l9:(List Int))(x26:Int)(kV:TStore)(l16:(List TStore))(a0:Int)(l15:(List TDisk))(l17:(List TLog)):Nat→Int→(List Ttx)→Option ((List TDisk)×(List TStore)×(List TLog)×(List Ttx)×Int)
 | 0,_,_=>none
 | n+1,jB,zL=>qfo (qag l7 x2 l9 x26 kV l16 a0 l15 l17 n) l7 x2 l9 x26 kV l16 a0 l15 l17 jB zL
def M27(a0 a1:Int)(A57:(List TDisk))(A67:(List TStore))(kQ:(List TLog))(kK:(List Ttx)):Option ((List TDisk)×(List TStore)×(List TLog)×(List Ttx)×Int):=
 qb (idx A67 a0) fun th1=>qo (M56 a0 a1 0 A67 kK) fun x2 x3=>qb (idx A67 a0) fun th5=>if x3≠0 then some (A57,A67,kQ,kK,x3) else qI (M59 a0 x2 A67 kK) fun l7 l9 b11=>qb (idx A67 a0) fun zG=>if b11=true then wP (M61 a0 x2 A57 A67 kQ kK) fun l15 l16 l17 x18=>qb (idx l16 a0) fun kV=>if x18≠0 then some (l15,l16,l17,kK,x18) else qb (qs 2 kV.logs_) fun _=>qb (i64 (kV.now_+1)) fun x26=>qb (idx kK x2) fun yU=>qb (upd kK x2 (⟨yU.id_,yU.from_,x26,yU.reads_,yU.writes_,yU.texts_,yU.in_,yU.out_⟩:Ttx)) fun l92=>qag l7 x2 l9 x26 kV l16 a0 l15 l17 big 0 l92 else qb (M60 a0 x2 A67 kK) fun l104=>qb (idx l104 a0) fun th107=>some (A57,l104,kQ,kK,12)
def M28(a0 a1:Int)(A67:(List TStore))(kK:(List Ttx)):Option ((List TStore)×Int):=
 qb (idx A67 a0) fun th1=>qo (M56 a0 a1 0 A67 kK) fun x2 x3=>qb (idx A67 a0) fun th5=>if x3=0 then qb (M60 a0 x2 A67 kK) fun l7=>qb (idx l7 a0) fun zS=>some (l7,x3) else some (A67,x3)
def M62(a0:Int)(a1:(List UInt8))(A57:(List TDisk))(kQ:(List TLog)):Option ((List TDisk)×(List TLog)×Int):=
 qb (idx kQ a0) fun th1=>if th1.fell_=true then some (A57,kQ,10) else if 300<(a1.length:Int) then some (A57,kQ,2) else qb (i64 (th1.epoch_+1)) fun x4=>qb (qlj x4 0 a1) fun l5=>if 1<(l5.length:Int) then some (A57,kQ,8) else qI (M46 a0 A57 kQ) fun l9 l10 x11=>if x11≠0 then some (l9,l10,x11) else qb (idx l10 a0) fun yH=>qb (i64 (yH.from_+1)) fun x54=>qb (qlj yH.epoch_ 0 a1) fun l55=>qb (idx l55 0) fun x59=>qo (M86 yH.d_ x54 x59 l9) fun l60 x61=>if x61≠0 then qo (M87 a0 x61 l10) fun l66 x67=>some (l60,l66,x67) else qb (idx l10 a0) fun jG=>qo (M88 jG.d_ l60) fun l71 x72=>if x72≠0 then qo (M87 a0 x72 l10) fun l76 x77=>some (l71,l76,x77) else qb (idx l10 a0) fun th80=>qb (upd l10 a0 (⟨th80.d_,th80.from_,th80.size_,th80.epoch_,2,1,th80.fell_⟩:TLog)) fun l81=>some (l71,l81,0)
def qjD(gl1:(List (List UInt8))):Option (List (List UInt8)):=
 qb (qs 20 gl1) fun _=>qb (qs 20 (List.replicate 20 ([]:(List UInt8)))) fun _=>qb (qs 20 gl1) fun _=>qb (qs 20 gl1) fun _=>some gl1
def qfu(go1:Int→(List (List UInt8))→Option (List (List UInt8)))(th1:TStore)(gx2:Int)(gl3:(List (List UInt8))):Option (List (List UInt8)):=
 if gx2<20 then qb (zd 20 th1.items_ gx2) fun x11=>qb (i64 ((x11.length:Int)-1)) fun x12=>qb (idx x11 x12) fun x13=>qb (zd 20 gl3 gx2) fun x14=>qb (upd gl3 gx2 x13.Text) fun l15=>qb (i64 (gx2+1)) fun x16=>go1 x16 l15 else qjD gl3
def qbZ(th1:TStore):Nat→Int→(List (List UInt8))→Option (List (List UInt8))
 | 0,_,_=>none
 | n+1,gx2,gl3=>qfu (qbZ th1 n) th1 gx2 gl3
def M14(a0:Int)(A67:(List TStore)):Option (List (List UInt8)):=
 qb (idx A67 a0) fun th1=>qb (qs 2 th1.logs_) fun _=>qb (qs 20 th1.items_) fun _=>qbZ th1 big 0 (List.replicate 20 ([]:(List UInt8)))
def qjz(x5:Int)(A67:(List TStore))(a0:Int)(gl5:(List Int))(gx6 gx7:Int)(gb8:Bool)(gx9:Int)(kO:(List (List TVersion)))(jR kY:(List Int))(zD:(List TDisk))(kX:(List TLog)):Option ((List TDisk)×(List TStore)×(List TLog)×Int):=
 qI (M67 x5 zD kX) fun l21 l22 x23=>if x23≠0 then qb (upd A67 a0 (⟨gl5,gx6,gx7,gb8,gx9,kO,jR,kY⟩:TStore)) fun l29=>qo (M64 a0 x23 l29) fun l30 x31=>qb (idx l30 a0) fun th34=>some (l21,l30,l22,x31) else qb (qs 2 gl5) fun _=>qb (i64 (1-gx6)) fun x41=>qb (upd A67 a0 (⟨gl5,x41,(IntKind.wrap .i64 (gx7+1)),gb8,gx9,kO,jR,kY⟩:TStore)) fun l44=>some (l21,l44,l22,0)
def qde(go1:Int→(List TDisk)→(List TLog)→Option ((List TDisk)×(List TStore)×(List TLog)×Int))(l47:(List (List UInt8)))(x5:Int)(A67:(List TStore))(a0:Int)(gl5:(List Int))(gx6 gx7:Int)(gb8:Bool)(gx9:Int)(kO:(List (List TVersion)))(jR kY:(List Int))(gx17:Int)(zC:(List TDisk))(zU:(List TLog)):Option ((List TDisk)×(List TStore)×(List TLog)×Int):=
 if gx17<(l47.length:Int) then qb (idx l47 gx17) fun x49=>qI (M66 x5 x49 zC zU) fun l50 l51 x52=>if x52=0 then qb (i64 (gx17+1)) fun x57=>go1 x57 l50 l51 else if x52=8 then qb (upd A67 a0 (⟨gl5,gx6,gx7,gb8,gx9,kO,jR,kY⟩:TStore)) fun l60=>some (l50,l60,l51,x52) else qb (upd A67 a0 (⟨gl5,gx6,gx7,gb8,gx9,kO,jR,kY⟩:TStore)) fun l62=>qo (M64 a0 x52 l62) fun l63 x64=>qb (idx l63 a0) fun th67=>some (l50,l63,l51,x64) else qjz x5 A67 a0 gl5 gx6 gx7 gb8 gx9 kO jR kY zC zU
def wT(l47:(List (List UInt8)))(x5:Int)(A67:(List TStore))(a0:Int)(gl5:(List Int))(gx6 gx7:Int)(gb8:Bool)(gx9:Int)(kO:(List (List TVersion)))(jR kY:(List Int)):Nat→Int→(List TDisk)→(List TLog)→Option ((List TDisk)×(List TStore)×(List TLog)×Int)
 | 0,_,_,_=>none
 | n+1,gx17,zC,zU=>qde (wT l47 x5 A67 a0 gl5 gx6 gx7 gb8 gx9 kO jR kY n) l47 x5 A67 a0 gl5 gx6 gx7 gb8 gx9 kO jR kY gx17 zC zU
def qh3(x5:Int)(A67:(List TStore))(a0:Int)(l9:(List TDisk))(l10:(List TLog))(gl2:(List (List UInt8)))(gl5:(List Int))(gx6 gx7:Int)(gb8:Bool)(gx9:Int)(kO:(List (List TVersion)))(jR kY:(List Int)):Option ((List TDisk)×(List TStore)×(List TLog)×Int):=
 qb (app gl2 ([[68]])) fun l47=>wT l47 x5 A67 a0 gl5 gx6 gx7 gb8 gx9 kO jR kY big 0 l9 l10
def qfn(go2:(List (List UInt8))→Int→Option ((List TDisk)×(List TStore)×(List TLog)×Int))(x68:(List (List UInt8)))(x5:Int)(A67:(List TStore))(a0:Int)(l9:(List TDisk))(l10:(List TLog))(jG:TStore)(yQ:(List (List UInt8)))(gx24:Int):Option ((List TDisk)×(List TStore)×(List TLog)×Int):=
 if gx24<20 then qb (zd 20 x68 gx24) fun x72=>if x72≠[] then qb (M65 gx24 x72) fun s74=>qb (kp ([83]) s74) fun s76=>qb (app yQ ([s76])) fun l79=>qb (i64 (gx24+1)) fun x80=>go2 l79 x80 else qb (i64 (gx24+1)) fun x81=>go2 yQ x81 else qh3 x5 A67 a0 l9 l10 yQ jG.logs_ jG.half_ jG.gen_ jG.down_ jG.now_ jG.items_ jG.active_ jG.over_
def qbP(x68:(List (List UInt8)))(x5:Int)(A67:(List TStore))(a0:Int)(l9:(List TDisk))(l10:(List TLog))(jG:TStore):Nat→(List (List UInt8))→Int→Option ((List TDisk)×(List TStore)×(List TLog)×Int)
 | 0,_,_=>none
 | n+1,yQ,gx24=>qfn (qbP x68 x5 A67 a0 l9 l10 jG n) x68 x5 A67 a0 l9 l10 jG yQ gx24
def M29(a0:Int)(A57:(List TDisk))(A67:(List TStore))(kQ:(List TLog)):Option ((List TDisk)×(List TStore)×(List TLog)×Int):=
 qb (idx A67 a0) fun th1=>qb (qs 2 th1.logs_) fun _=>if th1.down_=true then some (A57,A67,kQ,13) else qb (i64 (1-th1.half_)) fun x4=>qb (zd 2 th1.logs_ x4) fun x5=>qb (M63 (IntKind.wrap .i64 (th1.gen_+1))) fun s6=>qb (kp ([72]) s6) fun s8=>qI (M62 x5 s8 A57 kQ) fun l9 l10 x11=>if x11≠0 then qo (M64 a0 x11 A67) fun l16 x17=>qb (idx l16 a0) fun th20=>some (l9,l16,l10,x17) else qb (M14 a0 A67) fun x68=>qb (idx A67 a0) fun jG=>qbP x68 x5 A67 a0 l9 l10 jG big [] 0
def M8(a0:Int)(a1:TWish)(A57:(List TDisk))(A67:(List TStore))(kQ:(List TLog))(kK:(List Ttx)):Option ((List TDisk)×(List TStore)×(List TLog)×(List Ttx)×TTold):=
 qb (idx A67 a0) fun th1=>if a1.Kind=1 then qI (M24 a0 a1.Tx A67 kK) fun l6 l7 x8=>qb (idx l6 a0) fun zG=>some (A57,l6,kQ,l7,(⟨x8,[]⟩:TTold)) else if a1.Kind=2 then qI (M25 a0 a1.Tx a1.Item A67 kK) fun l15 s16 x17=>qb (ck (l15.length=kK.length)) fun _=>qb (idx A67 a0) fun th21=>some (A57,A67,kQ,l15,(⟨x17,s16⟩:TTold)) else if a1.Kind=3 then qo (M26 a0 a1.Tx a1.Item a1.Text A67 kK) fun l23 x24=>qb (ck (l23.length=kK.length)) fun _=>qb (idx A67 a0) fun jI=>some (A57,A67,kQ,l23,(⟨x24,[]⟩:TTold)) else if a1.Kind=4 then vG (M27 a0 a1.Tx A57 A67 kQ kK) fun l30 l31 l32 l33 x34=>qb (ck (l33.length=kK.length)) fun _=>qb (idx l31 a0) fun jT=>some (l30,l31,l32,l33,(⟨x34,[]⟩:TTold)) else if a1.Kind=5 then qo (M28 a0 a1.Tx A67 kK) fun l43 x44=>qb (idx l43 a0) fun th47=>some (A57,l43,kQ,kK,(⟨x44,[]⟩:TTold)) else if a1.Kind=6 then wP (M29 a0 A57 A67 kQ) fun l49 l50 l51 x52=>qb (idx l50 a0) fun th57=>some (l49,l50,l51,kK,(⟨x52,[]⟩:TTold)) else some (A57,A67,kQ,kK,(⟨0,[]⟩:TTold))
def qih:Option Int:=
 some (-1)
def qcc(go1:Int→Option Int)(th1:TStore81)(kJ:(List TDeal))(a1 gx1:Int):Option Int:=
 if gx1<(th1.deals_.length:Int) then qb (idx th1.deals_ gx1) fun x5=>qb (idx kJ x5) fun th6=>if th6.id_=a1 then if th6.over_=true then qb (i64 (gx1+1)) fun x9=>go1 x9 else some x5 else qb (i64 (gx1+1)) fun x10=>go1 x10 else qih
def va(th1:TStore81)(kJ:(List TDeal))(a1:Int):Nat→Int→Option Int
 | 0,_=>none
 | n+1,gx1=>qcc (va th1 kJ a1 n) th1 kJ a1 gx1
def qlE(a0 a1:Int)(A81:(List TStore81))(kJ:(List TDeal)):Option Int:=
 qb (idx A81 a0) fun th1=>qb (qs 2 th1.logs_) fun _=>qb (qs 20 th1.first_) fun _=>va th1 kJ a1 big 0
def qd0(x2:Int)(gb4:Bool):Option (Int×Int):=
 if gb4=true then some ((-1),6) else some (x2,0)
def qd1(a3:Bool)(x2:Int)(gb3:Bool):Option (Int×Int):=
 if gb3=true then some ((-1),7) else if a3=true then qd0 x2 false else if x2<0 then qd0 x2 true else qd0 x2 false
def qd2(a3:Bool)(x2:Int)(gb2:Bool):Option (Int×Int):=
 if gb2=true then some ((-1),1) else if a3=true then if 0≤x2 then qd1 a3 x2 true else qd1 a3 x2 false else qd1 a3 x2 false
def qd3(a2:Int)(a3:Bool)(x2:Int)(gb1:Bool):Option (Int×Int):=
 if gb1=true then some ((-1),1) else if a2<0 then qd2 a3 x2 true else if 19<a2 then qd2 a3 x2 true else qd2 a3 x2 false
def M68(a0 a1 a2:Int)(a3:Bool)(A81:(List TStore81))(kJ:(List TDeal)):Option (Int×Int):=
 qb (idx A81 a0) fun th1=>qb (qlE a0 a1 A81 kJ) fun x2=>qb (idx A81 a0) fun th4=>qb (qs 2 th4.logs_) fun _=>if th4.down_=true then some ((-1),13) else if a1<0 then qd3 a2 a3 x2 true else if 11<a1 then qd3 a2 a3 x2 true else qd3 a2 a3 x2 false
def M30(a0 a1:Int)(A81:(List TStore81))(kJ:(List TDeal)):Option ((List TStore81)×(List TDeal)×Int):=
 qb (idx A81 a0) fun th1=>qo (M68 a0 a1 0 true A81 kJ) fun x2 x3=>qb (idx A81 a0) fun th5=>if x3=0 then qb (qs 2 th5.logs_) fun _=>qb (qs 20 th5.first_) fun _=>qb (ck ((∀x∈A81,TStore81.ok149 kJ.length x)∧(∀k∈th5.deals_,k<kJ.length))) fun _=>qo (qal kJ (⟨a1,th5.now_,0,false,[],(some [])⟩:TDeal)) fun x91 l92=>qb (app th5.deals_ ([x91])) fun l98=>qb (upd A81 a0 (⟨th5.logs_,th5.half_,th5.gen_,th5.down_,th5.now_,th5.first_,l98⟩:TStore81)) fun l101=>some (l101,l92,x3) else some (A81,kJ,x3)
def qjy(gs1:(List UInt8)):Option (List UInt8):=
 some gs1
def qh0(kJ:(List TDeal))(x6 gx3 a2 gx4:Int)(go1:(List UInt8)→Int→Int→Option (List UInt8))(gs2 gs5:(List UInt8))(gb6:Bool):Option (List UInt8):=
 if gb6=true then qb (idx kJ x6) fun th8=>if gx3<th8.at_ then if th8.at_≤a2 then qb (i64 (gx4+1)) fun x11=>go1 gs5 th8.at_ x11 else qb (i64 (gx4+1)) fun x12=>go1 gs2 gx3 x12 else qb (i64 (gx4+1)) fun x13=>go1 gs2 gx3 x13 else qb (i64 (gx4+1)) fun x7=>go1 gs2 gx3 x7
def qfl(go1:(List UInt8)→Int→Int→Option (List UInt8))(th1:TStore81)(kJ:(List TDeal))(a1 a2:Int)(gs2:(List UInt8))(gx3 gx4:Int):Option (List UInt8):=
 if gx4<(th1.deals_.length:Int) then qb (idx th1.deals_ gx4) fun x6=>qb (idx kJ x6) fun xW=>if(vp (moL xW.texts_) a1)=true then qh0 kJ x6 gx3 a2 gx4 go1 gs2 (ju (moL xW.texts_) a1 []) true else qh0 kJ x6 gx3 a2 gx4 go1 gs2 (ju (moL xW.texts_) a1 []) false else qjy gs2
def qat(th1:TStore81)(kJ:(List TDeal))(a1 a2:Int):Nat→(List UInt8)→Int→Int→Option (List UInt8)
 | 0,_,_,_=>none
 | n+1,gs2,gx3,gx4=>qfl (qat th1 kJ a1 a2 n) th1 kJ a1 a2 gs2 gx3 gx4
def M37(a0 a1 a2:Int)(A81:(List TStore81))(kJ:(List TDeal)):Option (List UInt8):=
 qb (idx A81 a0) fun th1=>qb (zd 20 th1.first_ a1) fun x2=>qb (qs 2 th1.logs_) fun _=>qb (qs 20 th1.first_) fun _=>qat th1 kJ a1 a2 big x2 0 0
def M31(a0 a1 a2:Int)(A81:(List TStore81))(kJ:(List TDeal)):Option ((List TDeal)×(List UInt8)×Int):=
 qb (idx A81 a0) fun th1=>qo (M68 a0 a1 a2 false A81 kJ) fun x2 x3=>qb (idx A81 a0) fun th5=>if x3≠0 then some (kJ,[],x3) else qb (idx kJ x2) fun th7=>if(vp (moL th7.texts_) a2)=true then some (kJ,(ju (moL th7.texts_) a2 []),0) else qb (app th7.Ops ([(⟨0,1,a2⟩:TOp)])) fun l11=>qb (upd kJ x2 (⟨th7.id_,th7.from_,th7.at_,th7.over_,l11,th7.texts_⟩:TDeal)) fun l12=>qb (M37 a0 a2 th7.from_ A81 l12) fun s14=>qb (idx A81 a0) fun yH=>some (l12,s14,0)
def M32(a0 a1 a2:Int)(a3:(List UInt8))(A81:(List TStore81))(kJ:(List TDeal)):Option ((List TDeal)×Int):=
 qb (idx A81 a0) fun th1=>qo (M68 a0 a1 a2 false A81 kJ) fun x2 x3=>qb (idx A81 a0) fun th5=>if x3≠0 then some (kJ,x3) else if 20<(a3.length:Int) then some (kJ,2) else qb (idx kJ x2) fun th8=>qb th8.texts_ fun l9=>qb (upd kJ x2 (⟨th8.id_,th8.from_,th8.at_,th8.over_,th8.Ops,(some (wM l9 a2 a3))⟩:TDeal)) fun l12=>some (l12,0)
def qfD(gb1:Bool):Option Bool:=
 some gb1
def qdu(gx2:Int):Option Bool:=
 qfD (decide (0≤gx2))
def qig:Option Bool:=
 qdu (-1)
def qfC(gx3:Int)(go1:Int→Option Bool)(gb4:Bool):Option Bool:=
 if gb4=true then qdu gx3 else qb (i64 (gx3+1)) fun x8=>go1 x8
def qcb(go1:Int→Option Bool)(th4:TDeal)(kJ:(List TDeal))(a1 a0 gx3:Int):Option Bool:=
 if gx3<(th4.Ops.length:Int) then qb (idx th4.Ops gx3) fun x7=>qb (idx kJ a1) fun zS=>qb (ck (a1≠a0)) fun _=>qfC gx3 go1 (vp (moL zS.texts_) x7.Item) else qig
def vW(th4:TDeal)(kJ:(List TDeal))(a1 a0:Int):Nat→Int→Option Bool
 | 0,_=>none
 | n+1,gx3=>qcb (vW th4 kJ a1 a0 n) th4 kJ a1 a0 gx3
def qkh(a0 a1 a2 a3:Int)(kJ:(List TDeal)):Option Bool:=
 qb (idx kJ a1) fun th2=>if a2≤th2.from_ then some false else qb (idx kJ a0) fun th4=>if a3≤th4.from_ then some false else vW th4 kJ a1 a0 big 0
def qlf:Option Bool:=
 some false
def qhO(gx3:Int)(go1:Int→Option Bool):Option Bool:=
 qb (i64 (gx3+1)) fun x6=>go1 x6
def qhN(gx3:Int)(go1:Int→Option Bool)(gb4 gb5:Bool):Option Bool:=
 if gb4=true then if gb5=true then some true else qhO gx3 go1 else qhO gx3 go1
def qf9(gx8:Int)(go2:Bool→Bool→Int→Option Bool)(gb10:Bool):Option Bool:=
 if gb10=true then qb (i64 (gx8+1)) fun x16=>go2 false true x16 else qb (i64 (gx8+1)) fun x15=>go2 false false x15
def qhL(x7 x11 jN:Int)(kJ:(List TDeal))(gx8:Int)(go2:Bool→Bool→Int→Option Bool)(jK:Int):Option Bool:=
 qb (qkh x7 x11 jN jK kJ) fun b18=>if b18=true then qf9 gx8 go2 true else qf9 gx8 go2 false
def qhM(kJ:(List TDeal))(x11 a1:Int)(th1:TStore81)(x7 gx8:Int)(go2:Bool→Bool→Int→Option Bool)(jN:Int):Option Bool:=
 qb (idx kJ x11) fun th20=>qb (idx kJ a1) fun th21=>if x11=a1 then qb (qs 2 th1.logs_) fun _=>qb (i64 (th1.now_+1)) fun x24=>qhL x7 x11 jN kJ gx8 go2 x24 else qb (idx kJ x11) fun th25=>qhL x7 x11 jN kJ gx8 go2 th25.at_
def qf8(gx8:Int)(go2:Bool→Bool→Int→Option Bool)(yD:Bool):Option Bool:=
 if yD=true then qb (i64 (gx8+1)) fun x33=>go2 true true x33 else qb (i64 (gx8+1)) fun x32=>go2 true false x32
def qc5(x7 x11 zA:Int)(kJ:(List TDeal))(gx8:Int)(go2:Bool→Bool→Int→Option Bool)(gx15:Int):Option Bool:=
 qb (qkh x7 x11 zA gx15 kJ) fun b35=>if b35=true then qf8 gx8 go2 true else qf8 gx8 go2 false
def qc6(kJ:(List TDeal))(x11 a1:Int)(th1:TStore81)(x7 gx8:Int)(go2:Bool→Bool→Int→Option Bool)(zA:Int):Option Bool:=
 qb (idx kJ x11) fun xS=>qb (idx kJ a1) fun jO=>if x11=a1 then qb (qs 2 th1.logs_) fun _=>qb (i64 (th1.now_+1)) fun x41=>qc5 x7 x11 zA kJ gx8 go2 x41 else qb (idx kJ x11) fun th42=>qc5 x7 x11 zA kJ gx8 go2 th42.at_
def qga(gb7:Bool)(gx8:Int)(go2:Bool→Bool→Int→Option Bool)(kJ:(List TDeal))(x7 a1:Int)(th1:TStore81)(x11:Int)(gb9:Bool):Option Bool:=
 if gb9=true then if gb7=true then qf8 gx8 go2 true else qb (idx kJ x7) fun th43=>qb (idx kJ a1) fun th44=>if x7=a1 then qb (qs 2 th1.logs_) fun _=>qb (i64 (th1.now_+1)) fun x47=>qc6 kJ x11 a1 th1 x7 gx8 go2 x47 else qb (idx kJ x7) fun th48=>qc6 kJ x11 a1 th1 x7 gx8 go2 th48.at_ else if gb7=true then qf9 gx8 go2 true else qb (idx kJ x7) fun th26=>qb (idx kJ a1) fun yU=>if x7=a1 then qb (qs 2 th1.logs_) fun _=>qb (i64 (th1.now_+1)) fun x30=>qhM kJ x11 a1 th1 x7 gx8 go2 x30 else qb (idx kJ x7) fun zK=>qhM kJ x11 a1 th1 x7 gx8 go2 zK.at_
def qc3(x11 x7 yI:Int)(kJ:(List TDeal))(gb7:Bool)(gx8:Int)(go2:Bool→Bool→Int→Option Bool)(a1:Int)(th1:TStore81)(gx17:Int):Option Bool:=
 qb (qkh x11 x7 yI gx17 kJ) fun b50=>if b50=true then qga gb7 gx8 go2 kJ x7 a1 th1 x11 true else qga gb7 gx8 go2 kJ x7 a1 th1 x11 false
def qc4(kJ:(List TDeal))(x7 a1:Int)(th1:TStore81)(x11:Int)(gb7:Bool)(gx8:Int)(go2:Bool→Bool→Int→Option Bool)(yI:Int):Option Bool:=
 qb (idx kJ x7) fun th52=>qb (idx kJ a1) fun th53=>if x7=a1 then qb (qs 2 th1.logs_) fun _=>qb (i64 (th1.now_+1)) fun x56=>qc3 x11 x7 yI kJ gb7 gx8 go2 a1 th1 x56 else qb (idx kJ x7) fun th57=>qc3 x11 x7 yI kJ gb7 gx8 go2 a1 th1 th57.at_
def qaP(go2:Bool→Bool→Int→Option Bool)(gl2:(List Int))(kJ:(List TDeal))(x7 a1:Int)(th1:TStore81)(gx3:Int)(go1:Int→Option Bool)(gb6 gb7:Bool)(gx8:Int):Option Bool:=
 if gx8<(gl2.length:Int) then qb (idx gl2 gx8) fun x11=>qb (idx kJ x11) fun th12=>qb (idx kJ x7) fun zG=>if x11≠x7 then if gb6=true then qga gb7 gx8 go2 kJ x7 a1 th1 x11 true else qb (idx kJ x11) fun th58=>qb (idx kJ a1) fun th59=>if x11=a1 then qb (qs 2 th1.logs_) fun _=>qb (i64 (th1.now_+1)) fun x62=>qc4 kJ x7 a1 th1 x11 gb7 gx8 go2 x62 else qb (idx kJ x11) fun th63=>qc4 kJ x7 a1 th1 x11 gb7 gx8 go2 th63.at_ else qb (i64 (gx8+1)) fun x64=>go2 gb6 gb7 x64 else qhN gx3 go1 gb6 gb7
def qaq(gl2:(List Int))(kJ:(List TDeal))(x7 a1:Int)(th1:TStore81)(gx3:Int)(go1:Int→Option Bool):Nat→Bool→Bool→Int→Option Bool
 | 0,_,_,_=>none
 | n+1,gb6,gb7,gx8=>qaP (qaq gl2 kJ x7 a1 th1 gx3 go1 n) gl2 kJ x7 a1 th1 gx3 go1 gb6 gb7 gx8
def qeW(go1:Int→Option Bool)(gl2:(List Int))(kJ:(List TDeal))(a1:Int)(th1:TStore81)(gx3:Int):Option Bool:=
 if gx3<(gl2.length:Int) then qb (idx gl2 gx3) fun x7=>qaq gl2 kJ x7 a1 th1 gx3 go1 big false false 0 else qlf
def qar(gl2:(List Int))(kJ:(List TDeal))(a1:Int)(th1:TStore81):Nat→Int→Option Bool
 | 0,_=>none
 | n+1,gx3=>qeW (qar gl2 kJ a1 th1 n) gl2 kJ a1 th1 gx3
def qjo(kJ:(List TDeal))(a1:Int)(th1:TStore81)(gl2:(List Int)):Option Bool:=
 qar gl2 kJ a1 th1 big 0
def wH(xF:Int)(go3:(List Int)→Int→Option Bool)(zR:(List Int)):Option Bool:=
 qb (i64 (xF+1)) fun x68=>go3 zR x68
def qhK(go4:(List (Int×(List UInt8)))→Option Bool)(xF:Int)(go3:(List Int)→Int→Option Bool)(l74:(List Int))(kJ:(List TDeal))(a1 x69:Int)(jG:TDeal)(yQ:(List (Int×(List UInt8)))):Option Bool:=
 qnn yQ (wH xF go3 l74) fun x79 x80 l81=>qb (idx kJ a1) fun zJ=>qb (ck (a1≠x69)) fun _=>if(vp (moL zJ.texts_) x79)=true then if zJ.from_<jG.at_ then some true else go4 l81 else go4 l81
def qc2(xF:Int)(go3:(List Int)→Int→Option Bool)(l74:(List Int))(kJ:(List TDeal))(a1 x69:Int)(jG:TDeal):Nat→(List (Int×(List UInt8)))→Option Bool
 | 0,_=>none
 | n+1,yQ=>qhK (qc2 xF go3 l74 kJ a1 x69 jG n) xF go3 l74 kJ a1 x69 jG yQ
def qeV(go3:(List Int)→Int→Option Bool)(th1:TStore81)(kJ:(List TDeal))(a1:Int)(jE:(List Int))(xF:Int):Option Bool:=
 if xF<(th1.deals_.length:Int) then qb (idx th1.deals_ xF) fun x69=>qb (idx kJ x69) fun jG=>if jG.at_=0 then wH xF go3 jE else qb (app jE ([x69])) fun l74=>qb jG.texts_ fun l75=>qc2 xF go3 l74 kJ a1 x69 jG big l75 else qjo kJ a1 th1 jE
def qap(th1:TStore81)(kJ:(List TDeal))(a1:Int):Nat→(List Int)→Int→Option Bool
 | 0,_,_=>none
 | n+1,jE,xF=>qeV (qap th1 kJ a1 n) th1 kJ a1 jE xF
def M69(a0 a1:Int)(A81:(List TStore81))(kJ:(List TDeal)):Option Bool:=
 qb (idx A81 a0) fun th1=>qb (qs 2 th1.logs_) fun _=>qb (qs 20 th1.first_) fun _=>qap th1 kJ a1 big ([a1]) 0
def qlD(a0:(List UInt8)):Option (List UInt8):=
 qb (qmE (IntKind.wrap .u64 (a0.length:Int))) fun s1=>qb (kp s1 a0) fun s3=>some s3
def M70(a0:Int)(a1:(List UInt8)):Option (List UInt8):=
 qb (M74 a0) fun s1=>qb (qlD a1) fun s3=>qb (kp s1 s3) fun s5=>some s5
def qif(gl2:(List (List UInt8))):Option (List (List UInt8)):=
 some gl2
def qai(gs3:(List UInt8))(gl5:(List (List UInt8)))(go1:(List UInt8)→(List (List UInt8))→Option (List (List UInt8)))(gs6:(List UInt8)):Option (List (List UInt8)):=
 qb (i64 (64-(gs6.length:Int))) fun x9=>if(gs3.length:Int)<x9 then qb (cut gs3 0 (gs3.length:Int)) fun s19=>qb (cut gs3 (gs3.length:Int) gs3.length) fun s20=>qb (kp gs6 s19) fun s21=>qb (app gl5 ([s21])) fun l24=>go1 s20 l24 else qb (cut gs3 0 x9) fun s34=>qb (cut gs3 x9 gs3.length) fun s35=>qb (kp gs6 s34) fun s36=>qb (app gl5 ([s36])) fun l39=>go1 s35 l39
def qeb(go1:(List UInt8)→(List (List UInt8))→Option (List (List UInt8)))(a0 a1:Int)(gs3:(List UInt8))(gl5:(List (List UInt8))):Option (List (List UInt8)):=
 if gs3≠[] then qb (M92 2 a0 a1) fun s7=>if(gl5.length:Int)=0 then qb (M92 1 a0 a1) fun s42=>qai gs3 gl5 go1 s42 else qai gs3 gl5 go1 s7 else qif gl5
def kl(a0 a1:Int):Nat→(List UInt8)→(List (List UInt8))→Option (List (List UInt8))
 | 0,_,_=>none
 | n+1,gs3,gl5=>qeb (kl a0 a1 n) a0 a1 gs3 gl5
def qlh(a0 a1:Int)(a2:(List UInt8)):Option (List (List UInt8)):=
 qb (qlD a2) fun s1=>qo (qkg s1) fun s3 x4=>kl a0 a1 big s3 []
def qjl(kT:(List TLog122))(a0:Int)(l5:(List (List UInt8)))(gl1:(List TDisk51)):Option ((List TDisk51)×(List TLog122)×Int):=
 qb (idx kT a0) fun oA=>qb (i64 (oA.at_+(l5.length:Int))) fun x17=>qb (i64 (oA.seq_+1)) fun x18=>qb (upd kT a0 (⟨oA.d_,oA.from_,oA.size_,oA.epoch_,x17,x18,oA.fell_⟩:TLog122)) fun l20=>some (gl1,l20,0)
def qeU(go1:Int→(List TDisk51)→Option ((List TDisk51)×(List TLog122)×Int))(l5:(List (List UInt8)))(kT:(List TLog122))(a0 gx3:Int)(gl4:(List TDisk51)):Option ((List TDisk51)×(List TLog122)×Int):=
 if gx3<(l5.length:Int) then qb (idx l5 gx3) fun x23=>qb (idx kT a0) fun th24=>qb (i64 (th24.from_+th24.at_)) fun x50=>qb (i64 (x50+gx3)) fun x51=>qo (M94 th24.d_ x51 x23 gl4) fun l52 x53=>if x53≠0 then qo (M96 a0 x53 kT) fun l58 x59=>some (l52,l58,x59) else qb (i64 (gx3+1)) fun x62=>go1 x62 l52 else qjl kT a0 l5 gl4
def qbz(l5:(List (List UInt8)))(kT:(List TLog122))(a0:Int):Nat→Int→(List TDisk51)→Option ((List TDisk51)×(List TLog122)×Int)
 | 0,_,_=>none
 | n+1,gx3,gl4=>qeU (qbz l5 kT a0 n) l5 kT a0 gx3 gl4
def M71(a0:Int)(a1:(List UInt8))(A51:(List TDisk51))(kT:(List TLog122)):Option ((List TDisk51)×(List TLog122)×Int):=
 qb (idx kT a0) fun th1=>if th1.fell_=true then some (A51,kT,10) else if 300<(a1.length:Int) then some (A51,kT,2) else qb (qlh th1.epoch_ th1.seq_ a1) fun l5=>qb (i64 (th1.size_-th1.at_)) fun x9=>if x9<(l5.length:Int) then some (A51,kT,8) else qbz l5 kT a0 big 0 A51
def M72(a0:Int)(A51:(List TDisk51))(kT:(List TLog122)):Option ((List TDisk51)×(List TLog122)×Int):=
 qb (idx kT a0) fun th1=>if th1.fell_=true then some (A51,kT,10) else qo (M95 th1.d_ A51) fun l3 x4=>qo (M96 a0 x4 kT) fun l7 x8=>some (l3,l7,x8)
def qdd(th9:TStore81)(kJ:(List TDeal))(x2:Int)(A81:(List TStore81))(a0:Int)(gl1:(List TDisk51))(gl3:(List TLog122)):Option ((List TDisk51)×(List TStore81)×(List TLog122)×(List TDeal)×Int):=
 qb (qs 2 th9.logs_) fun _=>qb (i64 (th9.now_+1)) fun x11=>qb (idx kJ x2) fun th12=>qb (upd kJ x2 (⟨th12.id_,th12.from_,x11,true,th12.Ops,th12.texts_⟩:TDeal)) fun l13=>qb (upd A81 a0 (⟨th9.logs_,th9.half_,th9.gen_,th9.down_,x11,th9.first_,th9.deals_⟩:TStore81)) fun l16=>some (gl1,l16,gl3,l13,0)
def qh2(th9:TStore81)(A51:(List TDisk51))(kT:(List TLog122))(A81:(List TStore81))(kJ:(List TDeal))(a0 x2:Int)(gs5:(List UInt8)):Option ((List TDisk51)×(List TStore81)×(List TLog122)×(List TDeal)×Int):=
 qb (qs 2 th9.logs_) fun _=>qb (zd 2 th9.logs_ th9.half_) fun x39=>qI (M71 x39 gs5 A51 kT) fun l40 l41 x42=>if x42=2 then some (l40,A81,l41,kJ,x42) else if x42=8 then some (l40,A81,l41,kJ,x42) else if x42=0 then qb (zd 2 th9.logs_ th9.half_) fun x67=>qI (M72 x67 l40 l41) fun l68 l69 x70=>if x70≠0 then qb (upd A81 a0 (⟨th9.logs_,th9.half_,th9.gen_,true,th9.now_,th9.first_,th9.deals_⟩:TStore81)) fun l77=>some (l68,l77,l69,kJ,x70) else qdd th9 kJ x2 A81 a0 l68 l69 else if x42≠0 then qb (upd A81 a0 (⟨th9.logs_,th9.half_,th9.gen_,true,th9.now_,th9.first_,th9.deals_⟩:TStore81)) fun l80=>some (l40,l80,l41,kJ,x42) else none
def qfm(go1:(List UInt8)→Int→Option ((List TDisk51)×(List TStore81)×(List TLog122)×(List TDeal)×Int))(kJ:(List TDeal))(x2:Int)(th9:TStore81)(A51:(List TDisk51))(kT:(List TLog122))(A81:(List TStore81))(a0:Int)(gs6:(List UInt8))(gx7:Int):Option ((List TDisk51)×(List TStore81)×(List TLog122)×(List TDeal)×Int):=
 if gx7<20 then qb (idx kJ x2) fun zJ=>if(vp (moL zJ.texts_) gx7)=true then qb (M70 gx7 (ju (moL zJ.texts_) gx7 [])) fun s84=>qb (kp gs6 s84) fun s86=>qb (i64 (gx7+1)) fun x87=>go1 s86 x87 else qb (i64 (gx7+1)) fun x88=>go1 gs6 x88 else qh2 th9 A51 kT A81 kJ a0 x2 gs6
def qaf(kJ:(List TDeal))(x2:Int)(th9:TStore81)(A51:(List TDisk51))(kT:(List TLog122))(A81:(List TStore81))(a0:Int):Nat→(List UInt8)→Int→Option ((List TDisk51)×(List TStore81)×(List TLog122)×(List TDeal)×Int)
 | 0,_,_=>none
 | n+1,gs6,gx7=>qfm (qaf kJ x2 th9 A51 kT A81 a0 n) kJ x2 th9 A51 kT A81 a0 gs6 gx7
def M33(a0 a1:Int)(A51:(List TDisk51))(A81:(List TStore81))(kT:(List TLog122))(kJ:(List TDeal)):Option ((List TDisk51)×(List TStore81)×(List TLog122)×(List TDeal)×Int):=
 qb (idx A81 a0) fun th1=>qo (M68 a0 a1 0 false A81 kJ) fun x2 x3=>qb (idx A81 a0) fun th5=>if x3≠0 then some (A51,A81,kT,kJ,x3) else qb (M69 a0 x2 A81 kJ) fun b7=>qb (idx A81 a0) fun th9=>if b7=true then qb (idx kJ x2) fun th89=>qb (upd kJ x2 (⟨th89.id_,th89.from_,th89.at_,true,th89.Ops,th89.texts_⟩:TDeal)) fun l90=>some (A51,A81,kT,l90,12) else qb (idx kJ x2) fun zV=>if 0<((moL zV.texts_).length:Int) then qaf kJ x2 th9 A51 kT A81 a0 big ([67]) 0 else qdd th9 kJ x2 A81 a0 A51 kT
def M34(a0 a1:Int)(A81:(List TStore81))(kJ:(List TDeal)):Option ((List TDeal)×Int):=
 qb (idx A81 a0) fun th1=>qo (M68 a0 a1 0 false A81 kJ) fun x2 x3=>qb (idx A81 a0) fun th5=>if x3=0 then qb (idx kJ x2) fun th7=>qb (upd kJ x2 (⟨th7.id_,th7.from_,th7.at_,true,th7.Ops,none⟩:TDeal)) fun l8=>some (l8,x3) else some (kJ,x3)
def M73(a0:Int)(a1:(List UInt8))(A51:(List TDisk51))(kT:(List TLog122)):Option ((List TDisk51)×(List TLog122)×Int):=
 qb (idx kT a0) fun th1=>if th1.fell_=true then some (A51,kT,10) else if 300<(a1.length:Int) then some (A51,kT,2) else qb (i64 (th1.epoch_+1)) fun x4=>qb (qlh x4 0 a1) fun l5=>if(l5.length:Int)≠1 then some (A51,kT,8) else qI (M52 a0 A51 kT) fun l9 l10 x11=>if x11≠0 then some (l9,l10,x11) else qb (idx l10 a0) fun yH=>qb (i64 (yH.from_+1)) fun x54=>qb (qlh yH.epoch_ 0 a1) fun l55=>qb (idx l55 0) fun x59=>qo (M94 yH.d_ x54 x59 l9) fun l60 x61=>if x61=0 then qb (idx l10 a0) fun th66=>qo (M95 th66.d_ l60) fun l67 x68=>if x68=0 then qb (idx l10 a0) fun th72=>qb (upd l10 a0 (⟨th72.d_,th72.from_,th72.size_,th72.epoch_,2,1,th72.fell_⟩:TLog122)) fun l73=>qo (M96 a0 x68 l73) fun l75 x76=>some (l67,l75,x76) else qo (M96 a0 x68 l10) fun l79 x80=>some (l67,l79,x80) else if x61=0 then none else qo (M96 a0 x61 l10) fun l84 x85=>some (l60,l84,x85)
def qjC(a0:Int)(gl1:(List TStore81))(gl5:(List (List UInt8)))(gl6:(List Int))(gx7 gx8:Int)(gb9:Bool)(gx10:Int)(jR:(List (List UInt8)))(zD:(List Int)):Option ((List TStore81)×(List (List UInt8))):=
 qb (qs 20 gl5) fun _=>qb (qs 20 (List.replicate 20 ([]:(List UInt8)))) fun _=>qb (qs 20 gl5) fun _=>qb (upd gl1 a0 (⟨gl6,gx7,gx8,gb9,gx10,jR,zD⟩:TStore81)) fun l8=>qb (qs 20 gl5) fun _=>some (l8,gl5)
def qft(go1:Int→(List TStore81)→(List (List UInt8))→(List Int)→Int→Int→Bool→Int→(List (List UInt8))→(List Int)→Option ((List TStore81)×(List (List UInt8))))(a0:Int)(kJ:(List TDeal))(zZ:Int)(yZ:(List TStore81))(jM:(List (List UInt8)))(zI:(List Int))(gx32 gx33:Int)(gb34:Bool)(gx35:Int)(gl36:(List (List UInt8)))(gl38:(List Int)):Option ((List TStore81)×(List (List UInt8))):=
 if zZ<20 then qb (qs 2 zI) fun _=>qb (upd yZ a0 (⟨zI,gx32,gx33,gb34,gx35,gl36,gl38⟩:TStore81)) fun l13=>qb (M37 a0 zZ gx35 l13 kJ) fun s14=>qb (idx l13 a0) fun yH=>qb (zd 20 jM zZ) fun x17=>qb (upd jM zZ s14) fun l18=>qb (i64 (zZ+1)) fun x19=>go1 x19 l13 l18 yH.logs_ yH.half_ yH.gen_ yH.down_ yH.now_ yH.first_ yH.deals_ else qjC a0 yZ jM zI gx32 gx33 gb34 gx35 gl36 gl38
def qbY(a0:Int)(kJ:(List TDeal)):Nat→Int→(List TStore81)→(List (List UInt8))→(List Int)→Int→Int→Bool→Int→(List (List UInt8))→(List Int)→Option ((List TStore81)×(List (List UInt8)))
 | 0,_,_,_,_,_,_,_,_,_,_=>none
 | n+1,zZ,yZ,jM,zI,gx32,gx33,gb34,gx35,gl36,gl38=>qft (qbY a0 kJ n) a0 kJ zZ yZ jM zI gx32 gx33 gb34 gx35 gl36 gl38
def M15(a0:Int)(A81:(List TStore81))(kJ:(List TDeal)):Option ((List TStore81)×(List (List UInt8))):=
 qb (idx A81 a0) fun th1=>qbY a0 kJ big 0 A81 (List.replicate 20 ([]:(List UInt8))) th1.logs_ th1.half_ th1.gen_ th1.down_ th1.now_ th1.first_ th1.deals_
def qd6(kO:(List Int))(gl6:(List TStore81))(a0 jN jK zA:Int)(kX:(List (List UInt8)))(jA:(List Int))(yD:Bool)(gx23:Int)(yT:(List TDisk51))(yZ:(List TLog122)):Option ((List TDisk51)×(List TStore81)×(List TLog122)×Int):=
 if gx23≠0 then qb (qs 2 kO) fun _=>qb (upd gl6 a0 (⟨kO,jN,jK,true,zA,kX,jA⟩:TStore81)) fun l18=>some (yT,l18,yZ,gx23) else qb (qs 2 kO) fun _=>qb (i64 (1-jN)) fun x25=>qb (upd gl6 a0 (⟨kO,x25,(IntKind.wrap .i64 (jK+1)),yD,zA,kX,jA⟩:TStore81)) fun l28=>some (yT,l28,yZ,0)
def qdc(x5:Int)(kO:(List Int))(gl6:(List TStore81))(a0 jN jK zA:Int)(kX:(List (List UInt8)))(jA:(List Int))(yD:Bool)(xC:Int)(jE:(List TDisk51))(gl21:(List TLog122)):Option ((List TDisk51)×(List TStore81)×(List TLog122)×Int):=
 if xC=0 then qI (M72 x5 jE gl21) fun l30 l31 x32=>qd6 kO gl6 a0 jN jK zA kX jA yD x32 l30 l31 else qd6 kO gl6 a0 jN jK zA kX jA yD xC jE gl21
def qh1(x5 a0 gx1:Int)(gl2:(List TDisk51))(gl4:(List TLog122))(gl6:(List TStore81))(kO:(List Int))(jN jK:Int)(yD:Bool)(zA:Int)(kX:(List (List UInt8)))(jA:(List Int)):Option ((List TDisk51)×(List TStore81)×(List TLog122)×Int):=
 if gx1=0 then qI (M71 x5 ([68]) gl2 gl4) fun l37 l38 x39=>if x39=8 then qb (upd gl6 a0 (⟨kO,jN,jK,yD,zA,kX,jA⟩:TStore81)) fun l45=>some (l37,l45,l38,x39) else qdc x5 kO gl6 a0 jN jK zA kX jA yD x39 l37 l38 else qdc x5 kO gl6 a0 jN jK zA kX jA yD gx1 gl2 gl4
def qaR(go1:Int→Int→(List TDisk51)→(List TLog122)→Option ((List TDisk51)×(List TStore81)×(List TLog122)×Int))(x47:(List (List UInt8)))(x5:Int)(l46:(List TStore81))(a0:Int)(zM:TStore81)(jC gx29:Int)(jM:(List TDisk51))(jD:(List TLog122)):Option ((List TDisk51)×(List TStore81)×(List TLog122)×Int):=
 if gx29<20 then qb (zd 20 x47 gx29) fun x52=>if jC=0 then if x52≠[] then qb (M70 gx29 x52) fun s55=>qb (kp ([83]) s55) fun s57=>qI (M71 x5 s57 jM jD) fun l58 l59 x60=>if x60=8 then some (l58,l46,l59,x60) else qb (i64 (gx29+1)) fun x65=>go1 x60 x65 l58 l59 else qb (i64 (gx29+1)) fun x66=>go1 jC x66 jM jD else qb (i64 (gx29+1)) fun x67=>go1 jC x67 jM jD else qh1 x5 a0 jC jM jD l46 zM.logs_ zM.half_ zM.gen_ zM.down_ zM.now_ zM.first_ zM.deals_
def ww(x47:(List (List UInt8)))(x5:Int)(l46:(List TStore81))(a0:Int)(zM:TStore81):Nat→Int→Int→(List TDisk51)→(List TLog122)→Option ((List TDisk51)×(List TStore81)×(List TLog122)×Int)
 | 0,_,_,_,_=>none
 | n+1,jC,gx29,jM,jD=>qaR (ww x47 x5 l46 a0 zM n) x47 x5 l46 a0 zM jC gx29 jM jD
def M35(a0:Int)(A51:(List TDisk51))(A81:(List TStore81))(kT:(List TLog122))(kJ:(List TDeal)):Option ((List TDisk51)×(List TStore81)×(List TLog122)×Int):=
 qb (idx A81 a0) fun th1=>qb (qs 2 th1.logs_) fun _=>if th1.down_=true then some (A51,A81,kT,13) else qb (i64 (1-th1.half_)) fun x4=>qb (zd 2 th1.logs_ x4) fun x5=>qb (M74 (IntKind.wrap .i64 (th1.gen_+1))) fun s6=>qb (kp ([72]) s6) fun s8=>qI (M73 x5 s8 A51 kT) fun l9 l10 x11=>qo (M15 a0 A81 kJ) fun l46 x47=>qb (idx l46 a0) fun zM=>ww x47 x5 l46 a0 zM big x11 0 l9 l10
def M9(a0:Int)(a1:TWish)(A51:(List TDisk51))(A81:(List TStore81))(kT:(List TLog122))(kJ:(List TDeal)):Option ((List TDisk51)×(List TStore81)×(List TLog122)×(List TDeal)×TTold):=
 qb (idx A81 a0) fun th1=>if a1.Kind=1 then qI (M30 a0 a1.Tx A81 kJ) fun l6 l7 x8=>qb (idx l6 a0) fun zG=>some (A51,l6,kT,l7,(⟨x8,[]⟩:TTold)) else if a1.Kind=2 then qI (M31 a0 a1.Tx a1.Item A81 kJ) fun l15 s16 x17=>qb (ck (l15.length=kJ.length)) fun _=>qb (idx A81 a0) fun th21=>some (A51,A81,kT,l15,(⟨x17,s16⟩:TTold)) else if a1.Kind=3 then qo (M32 a0 a1.Tx a1.Item a1.Text A81 kJ) fun l23 x24=>qb (ck (l23.length=kJ.length)) fun _=>qb (idx A81 a0) fun jI=>some (A51,A81,kT,l23,(⟨x24,[]⟩:TTold)) else if a1.Kind=4 then vG (M33 a0 a1.Tx A51 A81 kT kJ) fun l30 l31 l32 l33 x34=>qb (ck (l33.length=kJ.length)) fun _=>qb (idx l31 a0) fun jT=>some (l30,l31,l32,l33,(⟨x34,[]⟩:TTold)) else if a1.Kind=5 then qo (M34 a0 a1.Tx A81 kJ) fun l43 x44=>qb (ck (l43.length=kJ.length)) fun _=>qb (idx A81 a0) fun th48=>some (A51,A81,kT,l43,(⟨x44,[]⟩:TTold)) else if a1.Kind=6 then wP (M35 a0 A51 A81 kT kJ) fun l50 l51 l52 x53=>qb (idx l51 a0) fun th58=>some (l50,l51,l52,kJ,(⟨x53,[]⟩:TTold)) else some (A51,A81,kT,kJ,(⟨1,[]⟩:TTold))
def M10(a0 a1:Int)(A57:(List TDisk)):Option (List TDisk):=
 qb (idx A57 a0) fun th1=>qb (upd A57 a0 (⟨th1.safe_,th1.seen_,th1.late_,(max a1 (-1))⟩:TDisk)) fun l2=>some l2
def M11(a0 a1:Int)(A51:(List TDisk51)):Option (List TDisk51):=
 qb (idx A51 a0) fun th1=>if a1<0 then qb (upd A51 a0 (⟨th1.Seen,th1.Safe,th1.late_,th1.texts_,(-1)⟩:TDisk51)) fun l3=>some l3 else qb (upd A51 a0 (⟨th1.Seen,th1.Safe,th1.late_,th1.texts_,a1⟩:TDisk51)) fun l5=>some l5
def qic(a0:Int)(gl1:(List TDisk)):Option (List TDisk):=
 qb (idx gl1 a0) fun th1=>qb (upd gl1 a0 (⟨th1.safe_,(cpy th1.seen_ th1.safe_),[],(-1)⟩:TDisk)) fun l4=>some l4
def qfA(go1:Int→(List (List UInt8))→Option (List TDisk))(th6:TDisk)(a1:(List Bool))(A57:(List TDisk))(a0 gx3:Int)(gl4:(List (List UInt8))):Option (List TDisk):=
 if gx3<(th6.late_.length:Int) then qb (idx th6.late_ gx3) fun x8=>if gx3<(a1.length:Int) then qb (idx a1 gx3) fun x11=>if x11=true then qb (idx gl4 x8.at_) fun x18=>qb (upd gl4 x8.at_ x8.text_) fun l19=>qb (i64 (gx3+1)) fun x20=>go1 x20 l19 else qb (i64 (gx3+1)) fun x21=>go1 x21 gl4 else qb (i64 (gx3+1)) fun x22=>go1 x22 gl4 else qb (upd A57 a0 (⟨gl4,th6.seen_,th6.late_,th6.left_⟩:TDisk)) fun l23=>qic a0 l23
def qb8(th6:TDisk)(a1:(List Bool))(A57:(List TDisk))(a0:Int):Nat→Int→(List (List UInt8))→Option (List TDisk)
 | 0,_,_=>none
 | n+1,gx3,gl4=>qfA (qb8 th6 a1 A57 a0 n) th6 a1 A57 a0 gx3 gl4
def M12(a0:Int)(a1:(List Bool))(A57:(List TDisk)):Option (List TDisk):=
 qb (idx A57 a0) fun th6=>qb8 th6 a1 A57 a0 big 0 th6.safe_
def qib(a0:Int)(gl1:(List TDisk51)):Option (List TDisk51):=
 qb (idx gl1 a0) fun th1=>qb (M36 th1.Safe) fun l2=>qb (upd gl1 a0 (⟨l2,th1.Safe,[],[],(-1)⟩:TDisk51)) fun l5=>some l5
def qfy(go1:Int→(List (List UInt8))→Option (List TDisk51))(th7:TDisk51)(a1:(List Bool))(A51:(List TDisk51))(a0 gx3:Int)(gl4:(List (List UInt8))):Option (List TDisk51):=
 if gx3<(th7.late_.length:Int) then qb (idx th7.late_ gx3) fun x9=>if gx3<(a1.length:Int) then qb (idx a1 gx3) fun x11=>if x11=true then qb (idx th7.texts_ gx3) fun x18=>qb (idx gl4 x9) fun x20=>qb (upd gl4 x9 x18) fun l21=>qb (i64 (gx3+1)) fun x22=>go1 x22 l21 else qb (i64 (gx3+1)) fun x23=>go1 x23 gl4 else qb (i64 (gx3+1)) fun x24=>go1 x24 gl4 else qb (upd A51 a0 (⟨th7.Seen,gl4,th7.late_,th7.texts_,th7.left_⟩:TDisk51)) fun l25=>qib a0 l25
def qb5(th7:TDisk51)(a1:(List Bool))(A51:(List TDisk51))(a0:Int):Nat→Int→(List (List UInt8))→Option (List TDisk51)
 | 0,_,_=>none
 | n+1,gx3,gl4=>qfy (qb5 th7 a1 A51 a0 n) th7 a1 A51 a0 gx3 gl4
def M13(a0:Int)(a1:(List Bool))(A51:(List TDisk51)):Option (List TDisk51):=
 qb (idx A51 a0) fun th7=>qb5 th7 a1 A51 a0 big 0 th7.Safe
def qnL:Option Bool:=
 some true
def qjw(go1:Int→Option Bool)(jT:TDisk51)(x3:Int)(l38:(List TDisk))(zZ:Int):Option Bool:=
 if zZ<(jT.Seen.length:Int) then qb (idx jT.Seen zZ) fun x43=>qo (M16 x3 zZ l38) fun s44 x45=>if x45≠0 then some false else if s44≠x43 then some false else qb (i64 (zZ+1)) fun x49=>go1 x49 else qnL
def qjx(jT:TDisk51)(x3:Int)(l38:(List TDisk)):Nat→Int→Option Bool
 | 0,_=>none
 | n+1,zZ=>qjw (qjx jT x3 l38 n) jT x3 l38 zZ
def qm1(x3 x10:Int)(gl3:(List TDisk51))(gl6:(List TStore81))(gl9:(List TLog122))(jR:(List TDisk))(zL:(List TStore))(jA:(List TLog))(zU:(List Ttx))(yQ:(List TDeal)):Option Bool:=
 qb (M10 x3 (-1) jR) fun l38=>qb (idx gl3 x10) fun jT=>qjx jT x3 l38 big 0
def qkb(jC:Int)(go2:Int→Int→Int→(List TDisk51)→(List TStore81)→(List TLog122)→(List TDisk)→(List TStore)→(List TLog)→(List Ttx)→(List TDeal)→Option Bool)(gx51 gx52:Int)(gl53:(List TDisk51))(gl56:(List TStore81))(gl59:(List TLog122))(gl61:(List TDisk))(gl64:(List TStore))(gl67:(List TLog))(gl70:(List Ttx))(gl73:(List TDeal)):Option Bool:=
 qb (M14 gx51 gl64) fun x53=>qo (M15 gx52 gl56 gl73) fun l55 x56=>qb (qs 20 x53) fun _=>qb (qs 20 x56) fun _=>if x53≠x56 then some false else qb (i64 (jC+1)) fun x62=>go2 gx51 gx52 x62 gl53 l55 gl59 gl61 gl64 gl67 gl70 gl73
def qgj(xG:Int)(x51:TStoreDeed)(yC:(List TDisk))(yJ:(List TStore))(yK:(List TLog))(yA:(List Ttx))(xH:Int)(jQ:(List TDisk51))(jD:(List TStore81))(jL:(List TLog122))(jW:(List TDeal))(jC:Int)(go2:Int→Int→Int→(List TDisk51)→(List TStore81)→(List TLog122)→(List TDisk)→(List TStore)→(List TLog)→(List Ttx)→(List TDeal)→Option Bool)(x3 x10:Int)(gb75:Bool):Option Bool:=
 if gb75=true then vG (M8 xG (⟨x51.Wish.Kind,x51.Wish.Tx,x51.Wish.Item,x51.Wish.Text⟩:TWish) yC yJ yK yA) fun l244 l245 l246 l247 x248=>vG (M9 xH (⟨x51.Wish.Kind,x51.Wish.Tx,x51.Wish.Item,x51.Wish.Text⟩:TWish) jQ jD jL jW) fun l255 l256 l257 l258 x259=>if x248≠x259 then some false else qkb jC go2 xG xH l255 l256 l257 l244 l245 l246 l247 l258 else if x51.Wish.Kind=7 then qb (M10 x3 x51.Fuse yC) fun l64=>qb (M11 x10 x51.Fuse jQ) fun l67=>qkb jC go2 xG xH l67 jD jL l64 yJ yK yA jW else if x51.Wish.Kind=8 then qb (M12 x3 x51.Keep yC) fun l71=>qb (M13 x10 x51.Keep jQ) fun l74=>vG (M6 x3 l71 yJ yK) fun l77 l78 l79 x80 x81=>vG (M7 x10 l74 jD jL) fun l88 l89 l90 x91 x92=>if x92≠0 then if x81=x92 then some (decide (x80<0)) else some false else if x81≠0 then some false else if x80<0 then some false else qkb jC go2 x80 x91 l88 l89 l90 l77 l78 l79 yA jW else qkb jC go2 xG xH jQ jD jL yC yJ yK yA jW
def qjv(go2:Int→Int→Int→(List TDisk51)→(List TStore81)→(List TLog122)→(List TDisk)→(List TStore)→(List TLog)→(List Ttx)→(List TDeal)→Option Bool)(a1:(List TStoreDeed))(x3 x10 xG xH jC:Int)(jQ:(List TDisk51))(jD:(List TStore81))(jL:(List TLog122))(yC:(List TDisk))(yJ:(List TStore))(yK:(List TLog))(yA:(List Ttx))(jW:(List TDeal)):Option Bool:=
 if jC<(a1.length:Int) then qb (idx a1 jC) fun x51=>if x51.Wish.Kind=1 then qgj xG x51 yC yJ yK yA xH jQ jD jL jW jC go2 x3 x10 true else if x51.Wish.Kind=2 then qgj xG x51 yC yJ yK yA xH jQ jD jL jW jC go2 x3 x10 true else if x51.Wish.Kind=3 then qgj xG x51 yC yJ yK yA xH jQ jD jL jW jC go2 x3 x10 true else if x51.Wish.Kind=4 then qgj xG x51 yC yJ yK yA xH jQ jD jL jW jC go2 x3 x10 true else if x51.Wish.Kind=5 then qgj xG x51 yC yJ yK yA xH jQ jD jL jW jC go2 x3 x10 true else if x51.Wish.Kind=6 then qgj xG x51 yC yJ yK yA xH jQ jD jL jW jC go2 x3 x10 true else qgj xG x51 yC yJ yK yA xH jQ jD jL jW jC go2 x3 x10 false else qm1 x3 x10 jQ jD jL yC yJ yK yA jW
def qgA(a1:(List TStoreDeed))(x3 x10:Int):Nat→Int→Int→Int→(List TDisk51)→(List TStore81)→(List TLog122)→(List TDisk)→(List TStore)→(List TLog)→(List Ttx)→(List TDeal)→Option Bool
 | 0,_,_,_,_,_,_,_,_,_,_,_=>none
 | n+1,xG,xH,jC,jQ,jD,jL,yC,yJ,yK,yA,jW=>qjv (qgA a1 x3 x10 n) a1 x3 x10 xG xH jC jQ jD jL yC yJ yK yA jW
def qlz(x18 x29 x17:Int)(a1:(List TStoreDeed))(x3 x10 x28:Int)(l25:(List TDisk51))(l26:(List TStore81))(l27:(List TLog122))(l14:(List TDisk))(l15:(List TStore))(l16:(List TLog))(gb2:Bool):Option Bool:=
 if gb2=true then if x18=x29 then some (decide (x17<0)) else some false else if x18≠0 then some false else if x17<0 then some false else qgA a1 x3 x10 big x17 x28 0 l25 l26 l27 l14 l15 l16 ([]:List Ttx) ([]:List TDeal)
def qly(gb76:Bool):Option Bool:=
 some gb76
def qkc(x4 a0 x3:Int)(l2:(List TDisk))(a1:(List TStoreDeed))(gb1:Bool):Option Bool:=
 if gb1=true then if x4=1 then if a0<1 then qly true else qly (decide (256<a0)) else qly false else qb (ck (∀x∈([]:List TLog122),TLog122.ok51 ([]:List TDisk51).length x)) fun _=>qo (M5 a0 ([]:List TDisk51)) fun l9 x10=>vG (M6 x3 l2 ([]:List TStore) ([]:List TLog)) fun l14 l15 l16 x17 x18=>vG (M7 x10 l9 ([]:List TStore81) ([]:List TLog122)) fun l25 l26 l27 x28 x29=>if x29≠0 then qlz x18 x29 x17 a1 x3 x10 x28 l25 l26 l27 l14 l15 l16 true else qlz x18 x29 x17 a1 x3 x10 x28 l25 l26 l27 l14 l15 l16 false
def M3(a0:Int)(a1:(List TStoreDeed)):Option Bool:=
 qb (ck (∀x∈([]:List TLog),TLog.ok57 ([]:List TDisk).length x)) fun _=>qI (M4 a0 ([]:List TDisk)) fun l2 x3 x4=>if x4≠0 then qkc x4 a0 x3 l2 a1 true else if x3<0 then qkc x4 a0 x3 l2 a1 true else qkc x4 a0 x3 l2 a1 false
end Go.Proofs.YtloiiohoelhldaaGreatDoor
