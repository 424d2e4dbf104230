import Derived.Test.YtlecphianicdhaaGreatZc
namespace Go.Proofs.YtlecphianicdhaaGreat
open Go.S
set_option linter.unusedVariables false
structure TOp where
 Tx:Int
 Kind:Int
 Item:Int
 deriving DecidableEq,Inhabited
def TOp.row (x:TOp):List Value:=[.int .i64 x.Tx,.int .i64 x.Kind,.int .i64 x.Item]
structure TL where
 Tx:Int
 Mode:Int
 deriving DecidableEq,Inhabited
def TL.row (x:TL):List Value:=[.int .i64 x.Tx,.int .i64 x.Mode]
structure TI where
 Item:Int
 Held:(List TL)
 Queue:(List TL)
 deriving DecidableEq,Inhabited
def TI.rowv (x:TI) (vs:List Value):List Value:=[.int .i64 x.Item,gv vs 0,gv vs 1]
def TI.sds (x:TI) (vs:List Value):List Sd:=[⟨gv vs 0,68,2,x.Held.map TL.row⟩,⟨gv vs 1,68,2,x.Queue.map TL.row⟩]
structure TE where
 From:Int
 To:Int
 deriving DecidableEq,Inhabited
def TE.row (x:TE):List Value:=[.int .i64 x.From,.int .i64 x.To]
structure TPlayed where
 Run:(List TOp)
 Dead:(List Int)
 Late:(List Int)
 deriving DecidableEq,Inhabited
def TPlayed.rowv (x:TPlayed) (vs:List Value):List Value:=[gv vs 0,gv vs 1,gv vs 2]
def TPlayed.sds (x:TPlayed) (vs:List Value):List Sd:=[⟨gv vs 0,40,3,x.Run.map TOp.row⟩,⟨gv vs 1,3,1,x.Dead.map I⟩,⟨gv vs 2,3,1,x.Late.map I⟩]
def M8K2:Option Int :=
 some 0
def M8K3 (gx1:Int) (go1:Int→(List Bool)→Option Int) (gl3:(List Bool)):Option Int :=
 bind1 (i64 (gx1+1)) fun x3=>go1 x3 gl3
def M8K5 (gl2:(List Bool)) (x4:TOp) (gx1:Int) (go1:Int→(List Bool)→Option Int):Option Int :=
 bind1 (idxA 12 gl2 x4.Tx) fun x6=>if x6=true then some 4 else bind1 (idxA 12 gl2 x4.Tx) fun x8=>bind1 (upd gl2 x4.Tx (decide (3≤x4.Kind))) fun l9=>M8K3 gx1 go1 l9
def M8K6 (gl2:(List Bool)) (x4:TOp) (gx1:Int) (go1:Int→(List Bool)→Option Int) (gb4:Bool):Option Int :=
 if gb4=true then M8K5 gl2 x4 gx1 go1 else if x4.Kind=3 then if x4.Item≠0 then some 4 else M8K5 gl2 x4 gx1 go1 else if x4.Kind=4 then if x4.Item≠0 then some 4 else M8K5 gl2 x4 gx1 go1 else some 4
def M8K4 (x4:TOp) (gl2:(List Bool)) (gx1:Int) (go1:Int→(List Bool)→Option Int):Option Int :=
 if x4.Kind=1 then M8K6 gl2 x4 gx1 go1 true else if x4.Kind=2 then M8K6 gl2 x4 gx1 go1 true else M8K6 gl2 x4 gx1 go1 false
def M8K7 (x4:TOp) (gl2:(List Bool)) (gx1:Int) (go1:Int→(List Bool)→Option Int) (gb5:Bool):Option Int :=
 if gb5=true then some 1 else if x4.Item < 0 then some 1 else if 20≤x4.Item then some 1 else M8K4 x4 gl2 gx1 go1
def M8L1B (go1:Int→(List Bool)→Option Int) (a0:(List TOp)) (gx1:Int) (gl2:(List Bool)):Option Int :=
 if gx1 < (a0.length:Int) then bind1 (idx a0 gx1) fun x4=>if x4.Tx < 0 then M8K7 x4 gl2 gx1 go1 true else if 12≤x4.Tx then M8K7 x4 gl2 gx1 go1 true else M8K7 x4 gl2 gx1 go1 false else M8K2
def M8L1 (a0:(List TOp)):Nat→Int→(List Bool)→Option Int
 | 0,_,_=>none
 | n+1,gx1,gl2=>M8L1B (M8L1 a0 n) a0 gx1 gl2
def M8K1 (a0:(List TOp)):Option Int :=
 M8L1 a0 big 0 (List.replicate 12 (false:Bool))
def M8 (a0:(List TOp)):Option Int :=
 if 200 < (a0.length:Int) then some 2 else M8K1 a0
def M25 (a0:Int):Option Bool :=
 if 1≤a0 then some (decide (a0≤5)) else some false
def M59 (a0:Int):Option Int :=
 if a0=1 then some 30 else if a0=2 then some 6 else if a0=3 then some 10 else if a0=4 then some 2 else some 0
def M75K1 (a0:Int) (a1:Int):Option (Int×Int) :=
 if (min a0 a1)=2 then if (max a0 a1)=3 then some (4,0) else some ((max a0 a1),0) else some ((max a0 a1),0)
def M75 (a0:Int) (a1:Int):Option (Int×Int) :=
 bind1 (M25 a0) fun b3=>if b3=true then bind1 (M25 a1) fun b5=>if b5=true then M75K1 a0 a1 else some (0,1) else some (0,1)
def M57K1 (a1:TL):Option Int :=
 some a1.Mode
def M57L1B (go1:Int→Option Int) (a0:TI) (a1:TL) (gx1:Int):Option Int :=
 if gx1 < (a0.Held.length:Int) then bind1 (idx a0.Held gx1) fun x4=>if x4.Tx=a1.Tx then bind2 (M75 x4.Mode a1.Mode) fun x7 x8=>some x7 else bind1 (i64 (gx1+1)) fun x10=>go1 x10 else M57K1 a1
def M57L1 (a0:TI) (a1:TL):Nat→Int→Option Int
 | 0,_=>none
 | n+1,gx1=>M57L1B (M57L1 a0 a1 n) a0 a1 gx1
def M57 (a0:TI) (a1:TL):Option Int :=
 M57L1 a0 a1 big 0
def M33K1 (gb1:Bool):Option Bool :=
 some (!gb1)
def M33K2 (gx2:Int):Option Bool :=
 M33K1 (decide (0≤gx2))
def M33K3:Option Bool :=
 M33K2 (-1)
def M33K4 (gx3:Int) (go1:Int→Option Bool) (gb4:Bool):Option Bool :=
 if gb4=true then M33K2 gx3 else bind1 (i64 (gx3+1)) fun x8=>go1 x8
def M33L1B (go1:Int→Option Bool) (a0:TI) (a1:TL) (x3:Int) (gx3:Int):Option Bool :=
 if gx3 < (a0.Held.length:Int) then bind1 (idx a0.Held gx3) fun x7=>if x7.Tx≠a1.Tx then bind1 (M59 x3) fun x11=>bind1 (shrW .i64 x11 x7.Mode) fun x13=>M33K4 gx3 go1 (decide ((Go.bits .and .i64 x13 1)=0)) else M33K4 gx3 go1 false else M33K3
def M33L1 (a0:TI) (a1:TL) (x3:Int):Nat→Int→Option Bool
 | 0,_=>none
 | n+1,gx3=>M33L1B (M33L1 a0 a1 x3 n) a0 a1 x3 gx3
def M33 (a0:TI) (a1:TL):Option Bool :=
 bind1 (M57 a0 a1) fun x3=>M33L1 a0 a1 x3 big 0
def M53K3 (a0:TI):Option Int :=
 if 0 < (a0.Queue.length:Int) then bind1 (idx a0.Queue 0) fun x5=>bind1 (M33 a0 x5) fun b6=>if b6=true then some 4 else some 0 else some 0
def M53K4 (x9:TL) (gl2:(List Int)) (gx1:Int) (go1:Int→(List Int)→Option Int) (gb3:Bool):Option Int :=
 if gb3=true then some 4 else bind1 (M25 x9.Mode) fun b11=>if b11=true then bind1 (idxA 12 gl2 x9.Tx) fun x13=>if 0 < x13 then some 4 else bind1 (idxA 12 gl2 x9.Tx) fun x15=>bind1 (upd gl2 x9.Tx x9.Mode) fun l16=>bind1 (i64 (gx1+1)) fun x17=>go1 x17 l16 else some 4
def M53L1B (go1:Int→(List Int)→Option Int) (a0:TI) (gx1:Int) (gl2:(List Int)):Option Int :=
 if gx1 < (a0.Queue.length:Int) then bind1 (idx a0.Queue gx1) fun x9=>if x9.Tx < 0 then M53K4 x9 gl2 gx1 go1 true else if 12≤x9.Tx then M53K4 x9 gl2 gx1 go1 true else M53K4 x9 gl2 gx1 go1 false else M53K3 a0
def M53L1 (a0:TI):Nat→Int→(List Int)→Option Int
 | 0,_,_=>none
 | n+1,gx1,gl2=>M53L1B (M53L1 a0 n) a0 gx1 gl2
def M53K2 (a0:TI):Option Int :=
 M53L1 a0 big 0 (List.replicate 12 (0:Int))
def M53K5 (gx4:Int) (go2:Int→Option Int):Option Int :=
 bind1 (i64 (gx4+1)) fun x21=>go2 x21
def M53L3B (go3:Int→Option Int) (l25:(List TL)) (x22:TL) (gx4:Int) (go2:Int→Option Int) (gx5:Int):Option Int :=
 if gx5 < (l25.length:Int) then bind1 (idx l25 gx5) fun x27=>bind1 (M59 x22.Mode) fun x29=>bind1 (shrW .i64 x29 x27.Mode) fun x31=>if (Go.bits .and .i64 x31 1)=0 then some 4 else bind1 (i64 (gx5+1)) fun x33=>go3 x33 else M53K5 gx4 go2
def M53L3 (l25:(List TL)) (x22:TL) (gx4:Int) (go2:Int→Option Int):Nat→Int→Option Int
 | 0,_=>none
 | n+1,gx5=>M53L3B (M53L3 l25 x22 gx4 go2 n) l25 x22 gx4 go2 gx5
def M53L2B (go2:Int→Option Int) (a0:TI) (gx4:Int):Option Int :=
 if gx4 < (a0.Held.length:Int) then bind1 (idx a0.Held gx4) fun x22=>bind1 (i64 (gx4+1)) fun x24=>bind1 (cut a0.Held x24 a0.Held.length) fun l25=>M53L3 l25 x22 gx4 go2 big 0 else M53K2 a0
def M53L2 (a0:TI):Nat→Int→Option Int
 | 0,_=>none
 | n+1,gx4=>M53L2B (M53L2 a0 n) a0 gx4
def M53K1 (a0:TI):Option Int :=
 M53L2 a0 big 0
def M53K6 (x35:TL) (gl7:(List Int)) (gx6:Int) (go4:Int→(List Int)→Option Int) (gb8:Bool):Option Int :=
 if gb8=true then some 4 else bind1 (M25 x35.Mode) fun b37=>if b37=true then bind1 (idxA 12 gl7 x35.Tx) fun x39=>if 0 < x39 then some 4 else bind1 (idxA 12 gl7 x35.Tx) fun x41=>bind1 (upd gl7 x35.Tx x35.Mode) fun l42=>bind1 (i64 (gx6+1)) fun x43=>go4 x43 l42 else some 4
def M53L4B (go4:Int→(List Int)→Option Int) (a0:TI) (gx6:Int) (gl7:(List Int)):Option Int :=
 if gx6 < (a0.Held.length:Int) then bind1 (idx a0.Held gx6) fun x35=>if x35.Tx < 0 then M53K6 x35 gl7 gx6 go4 true else if 12≤x35.Tx then M53K6 x35 gl7 gx6 go4 true else M53K6 x35 gl7 gx6 go4 false else M53K1 a0
def M53L4 (a0:TI):Nat→Int→(List Int)→Option Int
 | 0,_,_=>none
 | n+1,gx6,gl7=>M53L4B (M53L4 a0 n) a0 gx6 gl7
def M53 (a0:TI):Option Int :=
 M53L4 a0 big 0 (List.replicate 12 (0:Int))
def M24K2:Option Int :=
 some 0
def M24K4 (x2:TI) (gx1:Int) (go1:Int→Option Int) (gb2:Bool):Option Int :=
 if gb2=true then some 4 else if (x2.Held.length:Int)=0 then some 4 else bind1 (M53 x2) fun x5=>if x5≠0 then some x5 else bind1 (i64 (gx1+1)) fun x8=>go1 x8
def M24K3 (gx1:Int) (a0:(List TI)) (x2:TI) (go1:Int→Option Int):Option Int :=
 if 0 < gx1 then bind1 (i64 (gx1 - 1)) fun x10=>bind1 (idx a0 x10) fun x11=>if x2.Item≤x11.Item then M24K4 x2 gx1 go1 true else M24K4 x2 gx1 go1 false else M24K4 x2 gx1 go1 false
def M24L1B (go1:Int→Option Int) (a0:(List TI)) (gx1:Int):Option Int :=
 if gx1 < (a0.length:Int) then bind1 (idx a0 gx1) fun x2=>if x2.Item < 0 then some 1 else if 20≤x2.Item then some 1 else M24K3 gx1 a0 x2 go1 else M24K2
def M24L1 (a0:(List TI)):Nat→Int→Option Int
 | 0,_=>none
 | n+1,gx1=>M24L1B (M24L1 a0 n) a0 gx1
def M24K1 (a0:(List TI)):Option Int :=
 M24L1 a0 big 0
def M24 (a0:(List TI)):Option Int :=
 if 20 < (a0.length:Int) then some 2 else M24K1 a0
def M54 (a0:(List TL)):Option (List TL) :=
 bind1 (app [] a0) fun l3=>some l3
def M28K1 (gl2:(List TI)):Option (List TI) :=
 some gl2
def M28L1B (go1:(List TI)→Int→Option (List TI)) (a0:(List TI)) (gl5:(List TI)) (gx7:Int):Option (List TI) :=
 if gx7 < (a0.length:Int) then bind1 (idx a0 gx7) fun x2=>bind1 (M54 x2.Held) fun l66=>bind1 (M54 x2.Queue) fun l69=>bind1 (app gl5 ([(⟨x2.Item,l66,l69⟩:TI)])) fun l75=>bind1 (i64 (gx7+1)) fun x79=>go1 l75 x79 else M28K1 gl5
def M28L1 (a0:(List TI)):Nat→(List TI)→Int→Option (List TI)
 | 0,_,_=>none
 | n+1,gl5,gx7=>M28L1B (M28L1 a0 n) a0 gl5 gx7
def M28 (a0:(List TI)):Option (List TI) :=
 M28L1 a0 big [] 0
def M22K3 (gl3:(List TI)) (gl8:(List Int)):Option ((List TI)×(List Int)×Int) :=
 some (gl3,gl8,0)
def M22K4 (gx17:Int) (go1:(List TI)→(List Int)→Int→Option ((List TI)×(List Int)×Int)) (gl20:(List TI)) (gl25:(List Int)):Option ((List TI)×(List Int)×Int) :=
 bind1 (i64 (gx17+1)) fun x13=>go1 gl20 gl25 x13
def M22K6 (gl11:(List TI)) (x14:TI) (gx17:Int) (go1:(List TI)→(List Int)→Int→Option ((List TI)×(List Int)×Int)) (gl36:(List Int)) (gl38:(List TL)) (gl40:(List TL)):Option ((List TI)×(List Int)×Int) :=
 if 0 < (gl38.length:Int) then bind1 (app gl11 ([(⟨x14.Item,gl38,gl40⟩:TI)])) fun l23=>M22K4 gx17 go1 l23 gl36 else M22K4 gx17 go1 gl11 gl36
def M22K8 (gl63:(List TL)) (gl59:(List Int)) (go2:(List Int)→(List TL)→(List TL)→Option ((List TI)×(List Int)×Int)) (gl71:(List TL)):Option ((List TI)×(List Int)×Int) :=
 bind1 (idx gl63 0) fun x28=>bind1 (app gl59 ([x28.Tx])) fun l31=>bind1 (cut gl63 1 gl63.length) fun l32=>go2 l31 gl71 l32
def M22K9 (gl61:(List TL)) (x27:TL) (x34:Int) (gl63:(List TL)) (gl59:(List Int)) (go2:(List Int)→(List TL)→(List TL)→Option ((List TI)×(List Int)×Int)):Option ((List TI)×(List Int)×Int) :=
 bind1 (app gl61 ([(⟨x27.Tx,x34⟩:TL)])) fun l49=>M22K8 gl63 gl59 go2 l49
def M22L3B (go3:Int→Option ((List TI)×(List Int)×Int)) (gl61:(List TL)) (x27:TL) (x34:Int) (gl63:(List TL)) (gl59:(List Int)) (go2:(List Int)→(List TL)→(List TL)→Option ((List TI)×(List Int)×Int)) (gx76:Int):Option ((List TI)×(List Int)×Int) :=
 if gx76 < (gl61.length:Int) then bind1 (idx gl61 gx76) fun x52=>if x52.Tx=x27.Tx then bind1 (idx gl61 gx76) fun x54=>bind1 (upd gl61 gx76 (⟨x54.Tx,x34⟩:TL)) fun l55=>M22K8 gl63 gl59 go2 l55 else bind1 (i64 (gx76+1)) fun x56=>go3 x56 else M22K9 gl61 x27 x34 gl63 gl59 go2
def M22L3 (gl61:(List TL)) (x27:TL) (x34:Int) (gl63:(List TL)) (gl59:(List Int)) (go2:(List Int)→(List TL)→(List TL)→Option ((List TI)×(List Int)×Int)):Nat→Int→Option ((List TI)×(List Int)×Int)
 | 0,_=>none
 | n+1,gx76=>M22L3B (M22L3 gl61 x27 x34 gl63 gl59 go2 n) gl61 x27 x34 gl63 gl59 go2 gx76
def M22K7 (gl63:(List TL)) (x14:TI) (gl61:(List TL)) (gl59:(List Int)) (go2:(List Int)→(List TL)→(List TL)→Option ((List TI)×(List Int)×Int)):Option ((List TI)×(List Int)×Int) :=
 bind1 (idx gl63 0) fun x27=>bind1 (M57 (⟨x14.Item,gl61,gl63⟩:TI) x27) fun x34=>M22L3 gl61 x27 x34 gl63 gl59 go2 big 0
def M22L2B (go2:(List Int)→(List TL)→(List TL)→Option ((List TI)×(List Int)×Int)) (x14:TI) (gl11:(List TI)) (gx17:Int) (go1:(List TI)→(List Int)→Int→Option ((List TI)×(List Int)×Int)) (gl59:(List Int)) (gl61:(List TL)) (gl63:(List TL)):Option ((List TI)×(List Int)×Int) :=
 if 0 < (gl63.length:Int) then bind1 (idx gl63 0) fun x58=>bind1 (M33 (⟨x14.Item,gl61,gl63⟩:TI) x58) fun b59=>if b59=true then M22K7 gl63 x14 gl61 gl59 go2 else M22K6 gl11 x14 gx17 go1 gl59 gl61 gl63 else M22K6 gl11 x14 gx17 go1 gl59 gl61 gl63
def M22L2 (x14:TI) (gl11:(List TI)) (gx17:Int) (go1:(List TI)→(List Int)→Int→Option ((List TI)×(List Int)×Int)):Nat→(List Int)→(List TL)→(List TL)→Option ((List TI)×(List Int)×Int)
 | 0,_,_,_=>none
 | n+1,gl59,gl61,gl63=>M22L2B (M22L2 x14 gl11 gx17 go1 n) x14 gl11 gx17 go1 gl59 gl61 gl63
def M22K5 (x14:TI) (gl11:(List TI)) (gx17:Int) (go1:(List TI)→(List Int)→Int→Option ((List TI)×(List Int)×Int)) (gl16:(List Int)) (gl29:(List TL)) (gl31:(List TL)):Option ((List TI)×(List Int)×Int) :=
 M22L2 x14 gl11 gx17 go1 big gl16 gl29 gl31
def M22K11 (x14:TI) (gl11:(List TI)) (gx17:Int) (go1:(List TI)→(List Int)→Int→Option ((List TI)×(List Int)×Int)) (gl16:(List Int)) (gl106:(List TL)) (gl110:(List TL)):Option ((List TI)×(List Int)×Int) :=
 M22K5 x14 gl11 gx17 go1 gl16 gl106 gl110
def M22K14 (x14:TI) (gl11:(List TI)) (gx17:Int) (go1:(List TI)→(List Int)→Int→Option ((List TI)×(List Int)×Int)) (gl16:(List Int)) (gl106:(List TL)) (gl116:(List TL)) (gx117:Int):Option ((List TI)×(List Int)×Int) :=
 bind1 (cut gl116 gx117 gl116.length) fun l83=>bind1 (clr gl116 gx117 (⟨0,0⟩:TL)) fun l84=>bind1 (cut l84 0 gx117) fun l85=>M22K11 x14 gl11 gx17 go1 gl16 gl106 l85
def M22K16 (x88:TL) (a1:Int) (gl122:(List TL)) (gx123:Int) (gx124:Int) (go4:(List TL)→Int→Int→Option ((List TI)×(List Int)×Int)):Option ((List TI)×(List Int)×Int) :=
 if (!(decide (x88.Tx=a1)))=true then bind1 (idx gl122 gx123) fun x91=>bind1 (upd gl122 gx123 x88) fun l92=>bind1 (i64 (gx123+1)) fun x93=>bind1 (i64 (gx124+1)) fun x94=>go4 l92 x93 x94 else bind1 (i64 (gx124+1)) fun x95=>go4 gl122 gx123 x95
def M22K15 (gl122:(List TL)) (gx124:Int) (a1:Int) (gx123:Int) (go4:(List TL)→Int→Int→Option ((List TI)×(List Int)×Int)):Option ((List TI)×(List Int)×Int) :=
 bind1 (idx gl122 gx124) fun x88=>M22K16 x88 a1 gl122 gx123 gx124 go4
def M22L4B (go4:(List TL)→Int→Int→Option ((List TI)×(List Int)×Int)) (a1:Int) (x14:TI) (gl11:(List TI)) (gx17:Int) (go1:(List TI)→(List Int)→Int→Option ((List TI)×(List Int)×Int)) (gl16:(List Int)) (gl106:(List TL)) (gl122:(List TL)) (gx123:Int) (gx124:Int):Option ((List TI)×(List Int)×Int) :=
 if gx124 < (gl122.length:Int) then M22K15 gl122 gx124 a1 gx123 go4 else M22K14 x14 gl11 gx17 go1 gl16 gl106 gl122 gx123
def M22L4 (a1:Int) (x14:TI) (gl11:(List TI)) (gx17:Int) (go1:(List TI)→(List Int)→Int→Option ((List TI)×(List Int)×Int)) (gl16:(List Int)) (gl106:(List TL)):Nat→(List TL)→Int→Int→Option ((List TI)×(List Int)×Int)
 | 0,_,_,_=>none
 | n+1,gl122,gx123,gx124=>M22L4B (M22L4 a1 x14 gl11 gx17 go1 gl16 gl106 n) a1 x14 gl11 gx17 go1 gl16 gl106 gl122 gx123 gx124
def M22K13 (gx111:Int) (a1:Int) (x14:TI) (gl11:(List TI)) (gx17:Int) (go1:(List TI)→(List Int)→Int→Option ((List TI)×(List Int)×Int)) (gl16:(List Int)) (gl106:(List TL)):Option ((List TI)×(List Int)×Int) :=
 bind1 (i64 (gx111+1)) fun x87=>M22L4 a1 x14 gl11 gx17 go1 gl16 gl106 big x14.Queue gx111 x87
def M22K12 (x14:TI) (gl11:(List TI)) (gx17:Int) (go1:(List TI)→(List Int)→Int→Option ((List TI)×(List Int)×Int)) (gl16:(List Int)) (gl106:(List TL)) (a1:Int) (gx111:Int):Option ((List TI)×(List Int)×Int) :=
 if gx111=(-1) then M22K11 x14 gl11 gx17 go1 gl16 gl106 x14.Queue else M22K13 gx111 a1 x14 gl11 gx17 go1 gl16 gl106
def M22K17 (x14:TI) (gl11:(List TI)) (gx17:Int) (go1:(List TI)→(List Int)→Int→Option ((List TI)×(List Int)×Int)) (gl16:(List Int)) (gl106:(List TL)) (a1:Int):Option ((List TI)×(List Int)×Int) :=
 M22K12 x14 gl11 gx17 go1 gl16 gl106 a1 (-1)
def M22K18 (x100:TL) (a1:Int) (x14:TI) (gl11:(List TI)) (gx17:Int) (go1:(List TI)→(List Int)→Int→Option ((List TI)×(List Int)×Int)) (gl16:(List Int)) (gl106:(List TL)) (gx135:Int) (go5:Int→Option ((List TI)×(List Int)×Int)):Option ((List TI)×(List Int)×Int) :=
 if (decide (x100.Tx=a1))=true then M22K12 x14 gl11 gx17 go1 gl16 gl106 a1 gx135 else bind1 (i64 (gx135+1)) fun x101=>go5 x101
def M22L5B (go5:Int→Option ((List TI)×(List Int)×Int)) (x14:TI) (a1:Int) (gl11:(List TI)) (gx17:Int) (go1:(List TI)→(List Int)→Int→Option ((List TI)×(List Int)×Int)) (gl16:(List Int)) (gl106:(List TL)) (gx135:Int):Option ((List TI)×(List Int)×Int) :=
 if gx135 < (x14.Queue.length:Int) then bind1 (idx x14.Queue gx135) fun x100=>M22K18 x100 a1 x14 gl11 gx17 go1 gl16 gl106 gx135 go5 else M22K17 x14 gl11 gx17 go1 gl16 gl106 a1
def M22L5 (x14:TI) (a1:Int) (gl11:(List TI)) (gx17:Int) (go1:(List TI)→(List Int)→Int→Option ((List TI)×(List Int)×Int)) (gl16:(List Int)) (gl106:(List TL)):Nat→Int→Option ((List TI)×(List Int)×Int)
 | 0,_=>none
 | n+1,gx135=>M22L5B (M22L5 x14 a1 gl11 gx17 go1 gl16 gl106 n) x14 a1 gl11 gx17 go1 gl16 gl106 gx135
def M22K10 (x14:TI) (a1:Int) (gl11:(List TI)) (gx17:Int) (go1:(List TI)→(List Int)→Int→Option ((List TI)×(List Int)×Int)) (gl16:(List Int)) (gl106:(List TL)):Option ((List TI)×(List Int)×Int) :=
 M22L5 x14 a1 gl11 gx17 go1 gl16 gl106 big 0
def M22K21 (x14:TI) (a1:Int) (gl11:(List TI)) (gx17:Int) (go1:(List TI)→(List Int)→Int→Option ((List TI)×(List Int)×Int)) (gl16:(List Int)) (gl145:(List TL)) (gx146:Int):Option ((List TI)×(List Int)×Int) :=
 bind1 (cut gl145 gx146 gl145.length) fun l103=>bind1 (clr gl145 gx146 (⟨0,0⟩:TL)) fun l104=>bind1 (cut l104 0 gx146) fun l105=>M22K10 x14 a1 gl11 gx17 go1 gl16 l105
def M22K23 (x108:TL) (a1:Int) (gl151:(List TL)) (gx152:Int) (gx153:Int) (go6:(List TL)→Int→Int→Option ((List TI)×(List Int)×Int)):Option ((List TI)×(List Int)×Int) :=
 if (!(decide (x108.Tx=a1)))=true then bind1 (idx gl151 gx152) fun x111=>bind1 (upd gl151 gx152 x108) fun l112=>bind1 (i64 (gx152+1)) fun x113=>bind1 (i64 (gx153+1)) fun x114=>go6 l112 x113 x114 else bind1 (i64 (gx153+1)) fun x115=>go6 gl151 gx152 x115
def M22K22 (gl151:(List TL)) (gx153:Int) (a1:Int) (gx152:Int) (go6:(List TL)→Int→Int→Option ((List TI)×(List Int)×Int)):Option ((List TI)×(List Int)×Int) :=
 bind1 (idx gl151 gx153) fun x108=>M22K23 x108 a1 gl151 gx152 gx153 go6
def M22L6B (go6:(List TL)→Int→Int→Option ((List TI)×(List Int)×Int)) (a1:Int) (x14:TI) (gl11:(List TI)) (gx17:Int) (go1:(List TI)→(List Int)→Int→Option ((List TI)×(List Int)×Int)) (gl16:(List Int)) (gl151:(List TL)) (gx152:Int) (gx153:Int):Option ((List TI)×(List Int)×Int) :=
 if gx153 < (gl151.length:Int) then M22K22 gl151 gx153 a1 gx152 go6 else M22K21 x14 a1 gl11 gx17 go1 gl16 gl151 gx152
def M22L6 (a1:Int) (x14:TI) (gl11:(List TI)) (gx17:Int) (go1:(List TI)→(List Int)→Int→Option ((List TI)×(List Int)×Int)) (gl16:(List Int)):Nat→(List TL)→Int→Int→Option ((List TI)×(List Int)×Int)
 | 0,_,_,_=>none
 | n+1,gl151,gx152,gx153=>M22L6B (M22L6 a1 x14 gl11 gx17 go1 gl16 n) a1 x14 gl11 gx17 go1 gl16 gl151 gx152 gx153
def M22K20 (gx140:Int) (a1:Int) (x14:TI) (gl11:(List TI)) (gx17:Int) (go1:(List TI)→(List Int)→Int→Option ((List TI)×(List Int)×Int)) (gl16:(List Int)):Option ((List TI)×(List Int)×Int) :=
 bind1 (i64 (gx140+1)) fun x107=>M22L6 a1 x14 gl11 gx17 go1 gl16 big x14.Held gx140 x107
def M22K19 (x14:TI) (a1:Int) (gl11:(List TI)) (gx17:Int) (go1:(List TI)→(List Int)→Int→Option ((List TI)×(List Int)×Int)) (gl16:(List Int)) (gx140:Int):Option ((List TI)×(List Int)×Int) :=
 if gx140=(-1) then M22K10 x14 a1 gl11 gx17 go1 gl16 x14.Held else M22K20 gx140 a1 x14 gl11 gx17 go1 gl16
def M22K24 (x14:TI) (a1:Int) (gl11:(List TI)) (gx17:Int) (go1:(List TI)→(List Int)→Int→Option ((List TI)×(List Int)×Int)) (gl16:(List Int)):Option ((List TI)×(List Int)×Int) :=
 M22K19 x14 a1 gl11 gx17 go1 gl16 (-1)
def M22K25 (x120:TL) (a1:Int) (x14:TI) (gl11:(List TI)) (gx17:Int) (go1:(List TI)→(List Int)→Int→Option ((List TI)×(List Int)×Int)) (gl16:(List Int)) (gx164:Int) (go7:Int→Option ((List TI)×(List Int)×Int)):Option ((List TI)×(List Int)×Int) :=
 if (decide (x120.Tx=a1))=true then M22K19 x14 a1 gl11 gx17 go1 gl16 gx164 else bind1 (i64 (gx164+1)) fun x121=>go7 x121
def M22L7B (go7:Int→Option ((List TI)×(List Int)×Int)) (x14:TI) (a1:Int) (gl11:(List TI)) (gx17:Int) (go1:(List TI)→(List Int)→Int→Option ((List TI)×(List Int)×Int)) (gl16:(List Int)) (gx164:Int):Option ((List TI)×(List Int)×Int) :=
 if gx164 < (x14.Held.length:Int) then bind1 (idx x14.Held gx164) fun x120=>M22K25 x120 a1 x14 gl11 gx17 go1 gl16 gx164 go7 else M22K24 x14 a1 gl11 gx17 go1 gl16
def M22L7 (x14:TI) (a1:Int) (gl11:(List TI)) (gx17:Int) (go1:(List TI)→(List Int)→Int→Option ((List TI)×(List Int)×Int)) (gl16:(List Int)):Nat→Int→Option ((List TI)×(List Int)×Int)
 | 0,_=>none
 | n+1,gx164=>M22L7B (M22L7 x14 a1 gl11 gx17 go1 gl16 n) x14 a1 gl11 gx17 go1 gl16 gx164
def M22L1B (go1:(List TI)→(List Int)→Int→Option ((List TI)×(List Int)×Int)) (l8:(List TI)) (a1:Int) (gl11:(List TI)) (gl16:(List Int)) (gx17:Int):Option ((List TI)×(List Int)×Int) :=
 if gx17 < (l8.length:Int) then bind1 (idx l8 gx17) fun x14=>M22L7 x14 a1 gl11 gx17 go1 gl16 big 0 else M22K3 gl11 gl16
def M22L1 (l8:(List TI)) (a1:Int):Nat→(List TI)→(List Int)→Int→Option ((List TI)×(List Int)×Int)
 | 0,_,_,_=>none
 | n+1,gl11,gl16,gx17=>M22L1B (M22L1 l8 a1 n) l8 a1 gl11 gl16 gx17
def M22K2 (a0:(List TI)) (a1:Int):Option ((List TI)×(List Int)×Int) :=
 bind1 (M28 a0) fun l8=>M22L1 l8 a1 big [] [] 0
def M22K1 (a1:Int) (a0:(List TI)):Option ((List TI)×(List Int)×Int) :=
 if a1 < 0 then some ([],[],1) else if 12≤a1 then some ([],[],1) else M22K2 a0 a1
def M22 (a0:(List TI)) (a1:Int):Option ((List TI)×(List Int)×Int) :=
 bind1 (M24 a0) fun x210=>if x210≠0 then some ([],[],x210) else M22K1 a1 a0
def M23L1B (go1:Int→(List TI)→(List (List TOp))→(List Bool)→(List TOp)→Option ((List TI)×(List (List TOp))×(List Bool)×(List TOp))) (l29:(List TOp)) (rec:(List TI)→(List (List TOp))→(List Bool)→(List TOp)→TOp→Option ((List TI)×(List (List TOp))×(List Bool)×(List TOp))) (gx2:Int) (gl4:(List TI)) (gl10:(List (List TOp))) (gl12:(List Bool)) (gl14:(List TOp)):Option ((List TI)×(List (List TOp))×(List Bool)×(List TOp)) :=
 if gx2 < (l29.length:Int) then bind1 (idx l29 gx2) fun x34=>bind4 (rec gl4 gl10 gl12 gl14 x34) fun l36 l37 l38 l39=>bind1 (i64 (gx2+1)) fun x52=>go1 x52 l36 l37 l38 l39 else some (gl4,gl10,gl12,gl14)
def M23L1 (l29:(List TOp)) (rec:(List TI)→(List (List TOp))→(List Bool)→(List TOp)→TOp→Option ((List TI)×(List (List TOp))×(List Bool)×(List TOp))):Nat→Int→(List TI)→(List (List TOp))→(List Bool)→(List TOp)→Option ((List TI)×(List (List TOp))×(List Bool)×(List TOp))
 | 0,_,_,_,_,_=>none
 | n+1,gx2,gl4,gl10,gl12,gl14=>M23L1B (M23L1 l29 rec n) l29 rec gx2 gl4 gl10 gl12 gl14
def M23 (rec:(List TI)→(List (List TOp))→(List Bool)→(List TOp)→TOp→Option ((List TI)×(List (List TOp))×(List Bool)×(List TOp))) (kI:(List TI)) (kA:(List (List TOp))) (kB:(List Bool)) (kD:(List TOp)) (a1:Int):Option ((List TI)×(List (List TOp))×(List Bool)×(List TOp)) :=
 bind1 (arrN 12 kA) fun _=>bind1 (arrN 12 kB) fun _=>bind1 (idxA 12 kA a1) fun x22=>bind1 (idx x22 0) fun x23=>bind1 (app kD ([x23])) fun l26=>bind1 (idxA 12 kA a1) fun x28=>bind1 (cut x28 1 x28.length) fun l29=>bind1 (idxA 12 kA a1) fun x30=>bind1 (upd kA a1 []) fun l31=>M23L1 l29 rec big 0 kI l31 kB l26
def M13L1B (go1:Int→(List TI)→(List (List TOp))→(List Bool)→(List TOp)→Option ((List TI)×(List (List TOp))×(List Bool)×(List TOp))) (l6:(List Int)) (rec:(List TI)→(List (List TOp))→(List Bool)→(List TOp)→TOp→Option ((List TI)×(List (List TOp))×(List Bool)×(List TOp))) (gx4:Int) (gl6:(List TI)) (gl12:(List (List TOp))) (gl14:(List Bool)) (gl16:(List TOp)):Option ((List TI)×(List (List TOp))×(List Bool)×(List TOp)) :=
 if gx4 < (l6.length:Int) then bind1 (idx l6 gx4) fun x17=>bind4 (M23 rec gl6 gl12 gl14 gl16 x17) fun l18 l19 l20 l21=>bind1 (i64 (gx4+1)) fun x34=>go1 x34 l18 l19 l20 l21 else some (gl6,gl12,gl14,gl16)
def M13L1 (l6:(List Int)) (rec:(List TI)→(List (List TOp))→(List Bool)→(List TOp)→TOp→Option ((List TI)×(List (List TOp))×(List Bool)×(List TOp))):Nat→Int→(List TI)→(List (List TOp))→(List Bool)→(List TOp)→Option ((List TI)×(List (List TOp))×(List Bool)×(List TOp))
 | 0,_,_,_,_,_=>none
 | n+1,gx4,gl6,gl12,gl14,gl16=>M13L1B (M13L1 l6 rec n) l6 rec gx4 gl6 gl12 gl14 gl16
def M13 (rec:(List TI)→(List (List TOp))→(List Bool)→(List TOp)→TOp→Option ((List TI)×(List (List TOp))×(List Bool)×(List TOp))) (kI:(List TI)) (kA:(List (List TOp))) (kB:(List Bool)) (kD:(List TOp)) (a1:Int):Option ((List TI)×(List (List TOp))×(List Bool)×(List TOp)) :=
 bind3 (M22 kI a1) fun l1 l6 x9=>M13L1 l6 rec big 0 l1 kA kB kD
def M15 (a0:TOp):Option Int :=
 if a0.Kind=2 then some 5 else some 3
def M30 (a0:TI) (a1:Int):Option Int :=
 bind1 (i64 (a0.Item - a1)) fun x2=>some x2
def M14K7 (l50:(List TI)):Option ((List TI)×Bool×Int) :=
 some (l50,false,0)
def M14K6 (x24:TI) (a1:Int) (a3:Int) (l2:(List TI)) (gx1:Int):Option ((List TI)×Bool×Int) :=
 bind1 (app x24.Queue ([(⟨a1,a3⟩:TL)])) fun l48=>bind1 (upd l2 gx1 (⟨x24.Item,x24.Held,l48⟩:TI)) fun l50=>M14K7 l50
def M14K8 (gl4:(List TI)):Option ((List TI)×Bool×Int) :=
 some (gl4,true,0)
def M14K9 (x24:TI) (a1:Int) (x68:Int) (l2:(List TI)) (gx1:Int):Option ((List TI)×Bool×Int) :=
 bind1 (app x24.Held ([(⟨a1,x68⟩:TL)])) fun l92=>bind1 (upd l2 gx1 (⟨x24.Item,l92,x24.Queue⟩:TI)) fun l94=>M14K8 l94
def M14L1B (go1:Int→Option ((List TI)×Bool×Int)) (x24:TI) (a1:Int) (x68:Int) (l2:(List TI)) (gx1:Int) (gx6:Int):Option ((List TI)×Bool×Int) :=
 if gx6 < (x24.Held.length:Int) then bind1 (idx x24.Held gx6) fun x97=>if x97.Tx=a1 then bind1 (idx x24.Held gx6) fun x99=>bind1 (upd x24.Held gx6 (⟨x99.Tx,x68⟩:TL)) fun l100=>bind1 (upd l2 gx1 (⟨x24.Item,l100,x24.Queue⟩:TI)) fun l101=>M14K8 l101 else bind1 (i64 (gx6+1)) fun x102=>go1 x102 else M14K9 x24 a1 x68 l2 gx1
def M14L1 (x24:TI) (a1:Int) (x68:Int) (l2:(List TI)) (gx1:Int):Nat→Int→Option ((List TI)×Bool×Int)
 | 0,_=>none
 | n+1,gx6=>M14L1B (M14L1 x24 a1 x68 l2 gx1 n) x24 a1 x68 l2 gx1 gx6
def M14K11 (gl7:(List TI)):Option ((List TI)×Bool×Int) :=
 some (gl7,false,0)
def M14K12 (l127:(List TI)) (gx1:Int) (a1:Int) (a3:Int) (gx9:Int):Option ((List TI)×Bool×Int) :=
 bind1 (idx l127 gx1) fun x173=>bind1 (i64 ((x173.Queue.length:Int) - 1)) fun x175=>bind1 (cut x173.Queue 0 x175) fun l178=>bind1 (xInsR l178 gx9 (⟨a1,a3⟩:TL)) fun l180=>bind1 (upd l127 gx1 (⟨x173.Item,x173.Held,l180⟩:TI)) fun l183=>M14K11 l183
def M14K13 (gx10:Int) (go2:Int→Option ((List TI)×Bool×Int)) (l127:(List TI)) (gx1:Int) (a1:Int) (a3:Int) (gb11:Bool):Option ((List TI)×Bool×Int) :=
 if gb11=true then bind1 (i64 (gx10+1)) fun x204=>go2 x204 else M14K12 l127 gx1 a1 a3 gx10
def M14K14 (gx10:Int) (go2:Int→Option ((List TI)×Bool×Int)) (l127:(List TI)) (gx1:Int) (a1:Int) (a3:Int) (gx12:Int):Option ((List TI)×Bool×Int) :=
 M14K13 gx10 go2 l127 gx1 a1 a3 (decide (0≤gx12))
def M14K15 (gx10:Int) (go2:Int→Option ((List TI)×Bool×Int)) (l127:(List TI)) (gx1:Int) (a1:Int) (a3:Int):Option ((List TI)×Bool×Int) :=
 M14K14 gx10 go2 l127 gx1 a1 a3 (-1)
def M14K16 (gx10:Int) (go2:Int→Option ((List TI)×Bool×Int)) (l127:(List TI)) (gx1:Int) (a1:Int) (a3:Int) (gx13:Int) (go3:Int→Option ((List TI)×Bool×Int)) (gb14:Bool):Option ((List TI)×Bool×Int) :=
 if gb14=true then M14K14 gx10 go2 l127 gx1 a1 a3 gx13 else bind1 (i64 (gx13+1)) fun x207=>go3 x207
def M14L3B (go3:Int→Option ((List TI)×Bool×Int)) (x199:TI) (gx10:Int) (go2:Int→Option ((List TI)×Bool×Int)) (l127:(List TI)) (gx1:Int) (a1:Int) (a3:Int) (gx13:Int):Option ((List TI)×Bool×Int) :=
 if gx13 < (x199.Held.length:Int) then bind1 (idx x199.Held gx13) fun x206=>bind1 (idx x199.Queue gx10) fun x209=>M14K16 gx10 go2 l127 gx1 a1 a3 gx13 go3 (decide (x206.Tx=x209.Tx)) else M14K15 gx10 go2 l127 gx1 a1 a3
def M14L3 (x199:TI) (gx10:Int) (go2:Int→Option ((List TI)×Bool×Int)) (l127:(List TI)) (gx1:Int) (a1:Int) (a3:Int):Nat→Int→Option ((List TI)×Bool×Int)
 | 0,_=>none
 | n+1,gx13=>M14L3B (M14L3 x199 gx10 go2 l127 gx1 a1 a3 n) x199 gx10 go2 l127 gx1 a1 a3 gx13
def M14L2B (go2:Int→Option ((List TI)×Bool×Int)) (l127:(List TI)) (gx1:Int) (a1:Int) (a3:Int) (gx10:Int):Option ((List TI)×Bool×Int) :=
 bind1 (idx l127 gx1) fun x199=>bind1 (i64 ((x199.Queue.length:Int) - 1)) fun x200=>if gx10 < x200 then M14L3 x199 gx10 go2 l127 gx1 a1 a3 big 0 else M14K12 l127 gx1 a1 a3 gx10
def M14L2 (l127:(List TI)) (gx1:Int) (a1:Int) (a3:Int):Nat→Int→Option ((List TI)×Bool×Int)
 | 0,_=>none
 | n+1,gx10=>M14L2B (M14L2 l127 gx1 a1 a3 n) l127 gx1 a1 a3 gx10
def M14K10 (x24:TI) (a1:Int) (a3:Int) (l2:(List TI)) (gx1:Int):Option ((List TI)×Bool×Int) :=
 bind1 (app x24.Queue ([(⟨a1,a3⟩:TL)])) fun l125=>bind1 (upd l2 gx1 (⟨x24.Item,x24.Held,l125⟩:TI)) fun l127=>M14L2 l127 gx1 a1 a3 big 0
def M14K17 (gl15:(List TI)):Option ((List TI)×Bool×Int) :=
 some (gl15,true,0)
def M14K18 (x24:TI) (a1:Int) (x219:Int) (l2:(List TI)) (gx1:Int):Option ((List TI)×Bool×Int) :=
 bind1 (app x24.Held ([(⟨a1,x219⟩:TL)])) fun l243=>bind1 (upd l2 gx1 (⟨x24.Item,l243,x24.Queue⟩:TI)) fun l245=>M14K17 l245
def M14L4B (go4:Int→Option ((List TI)×Bool×Int)) (x24:TI) (a1:Int) (x219:Int) (l2:(List TI)) (gx1:Int) (gx17:Int):Option ((List TI)×Bool×Int) :=
 if gx17 < (x24.Held.length:Int) then bind1 (idx x24.Held gx17) fun x248=>if x248.Tx=a1 then bind1 (idx x24.Held gx17) fun x250=>bind1 (upd x24.Held gx17 (⟨x250.Tx,x219⟩:TL)) fun l251=>bind1 (upd l2 gx1 (⟨x24.Item,l251,x24.Queue⟩:TI)) fun l252=>M14K17 l252 else bind1 (i64 (gx17+1)) fun x253=>go4 x253 else M14K18 x24 a1 x219 l2 gx1
def M14L4 (x24:TI) (a1:Int) (x219:Int) (l2:(List TI)) (gx1:Int):Nat→Int→Option ((List TI)×Bool×Int)
 | 0,_=>none
 | n+1,gx17=>M14L4B (M14L4 x24 a1 x219 l2 gx1 n) x24 a1 x219 l2 gx1 gx17
def M14K5 (x24:TI) (a1:Int) (a3:Int) (l2:(List TI)) (gx1:Int) (gb3:Bool):Option ((List TI)×Bool×Int) :=
 if gb3=true then bind1 (M33 x24 (⟨a1,a3⟩:TL)) fun b210=>if b210=true then bind1 (M57 x24 (⟨a1,a3⟩:TL)) fun x219=>M14L4 x24 a1 x219 l2 gx1 big 0 else M14K10 x24 a1 a3 l2 gx1 else bind1 (M33 x24 (⟨a1,a3⟩:TL)) fun b58=>if b58=true then if (x24.Queue.length:Int)=0 then bind1 (M57 x24 (⟨a1,a3⟩:TL)) fun x68=>M14L1 x24 a1 x68 l2 gx1 big 0 else M14K6 x24 a1 a3 l2 gx1 else M14K6 x24 a1 a3 l2 gx1
def M14K19 (x24:TI) (a1:Int) (a3:Int) (l2:(List TI)) (gx1:Int) (gb18:Bool):Option ((List TI)×Bool×Int) :=
 if gb18=true then M14K5 x24 a1 a3 l2 gx1 true else M14K5 x24 a1 a3 l2 gx1 false
def M14K20 (x24:TI) (a1:Int) (a3:Int) (l2:(List TI)) (gx1:Int) (gx19:Int):Option ((List TI)×Bool×Int) :=
 M14K19 x24 a1 a3 l2 gx1 (decide (0≤gx19))
def M14K21 (x24:TI) (a1:Int) (a3:Int) (l2:(List TI)) (gx1:Int):Option ((List TI)×Bool×Int) :=
 M14K20 x24 a1 a3 l2 gx1 (-1)
def M14K22 (x255:TL) (a1:Int) (x24:TI) (a3:Int) (l2:(List TI)) (gx1:Int) (gx20:Int) (go5:Int→Option ((List TI)×Bool×Int)):Option ((List TI)×Bool×Int) :=
 if (decide (x255.Tx=a1))=true then M14K20 x24 a1 a3 l2 gx1 gx20 else bind1 (i64 (gx20+1)) fun x256=>go5 x256
def M14L5B (go5:Int→Option ((List TI)×Bool×Int)) (x24:TI) (a1:Int) (a3:Int) (l2:(List TI)) (gx1:Int) (gx20:Int):Option ((List TI)×Bool×Int) :=
 if gx20 < (x24.Held.length:Int) then bind1 (idx x24.Held gx20) fun x255=>M14K22 x255 a1 x24 a3 l2 gx1 gx20 go5 else M14K21 x24 a1 a3 l2 gx1
def M14L5 (x24:TI) (a1:Int) (a3:Int) (l2:(List TI)) (gx1:Int):Nat→Int→Option ((List TI)×Bool×Int)
 | 0,_=>none
 | n+1,gx20=>M14L5B (M14L5 x24 a1 a3 l2 gx1 n) x24 a1 a3 l2 gx1 gx20
def M14K4 (l2:(List TI)) (a1:Int) (a3:Int) (a2:Int) (gx1:Int) (gb2:Bool):Option ((List TI)×Bool×Int) :=
 if gb2=true then bind1 (idx l2 gx1) fun x24=>M14L5 x24 a1 a3 l2 gx1 big 0 else bind1 (xInsR l2 gx1 (⟨a2,[(⟨a1,a3⟩:TL)],[]⟩:TI)) fun l17=>some (l17,true,0)
def M14K23 (l2:(List TI)) (a1:Int) (a3:Int) (a2:Int) (gx21:Int) (gb22:Bool):Option ((List TI)×Bool×Int) :=
 if gb22=true then M14K4 l2 a1 a3 a2 gx21 true else M14K4 l2 a1 a3 a2 gx21 false
def M14K25 (l2:(List TI)) (a1:Int) (a3:Int) (a2:Int) (gx23:Int) (gx24:Int):Option ((List TI)×Bool×Int) :=
 M14K23 l2 a1 a3 a2 gx23 (decide (gx24=0))
def M14K24 (l2:(List TI)) (a2:Int) (a1:Int) (a3:Int) (gx23:Int):Option ((List TI)×Bool×Int) :=
 if gx23 < (l2.length:Int) then bind1 (idx l2 gx23) fun x260=>bind1 (i64 (x260.Item - a2)) fun x262=>M14K25 l2 a1 a3 a2 gx23 x262 else M14K23 l2 a1 a3 a2 gx23 false
def M14K27 (x264:Int) (go6:Int→Int→Option ((List TI)×Bool×Int)) (gx26:Int) (gx25:Int) (gx27:Int):Option ((List TI)×Bool×Int) :=
 if gx27 < 0 then bind1 (i64 ((IntKind.wrap .i64 x264)+1)) fun x267=>go6 x267 gx26 else go6 gx25 (IntKind.wrap .i64 x264)
def M14K26 (gx25:Int) (gx26:Int) (l2:(List TI)) (a2:Int) (go6:Int→Int→Option ((List TI)×Bool×Int)):Option ((List TI)×Bool×Int) :=
 bind1 (i64 (gx25+gx26)) fun x263=>bind1 (shrW .u64 (IntKind.wrap .u64 x263) 1) fun x264=>bind1 (idx l2 (IntKind.wrap .i64 x264)) fun x265=>bind1 (i64 (x265.Item - a2)) fun x269=>M14K27 x264 go6 gx26 gx25 x269
def M14L6B (go6:Int→Int→Option ((List TI)×Bool×Int)) (l2:(List TI)) (a2:Int) (a1:Int) (a3:Int) (gx25:Int) (gx26:Int):Option ((List TI)×Bool×Int) :=
 if gx25 < gx26 then M14K26 gx25 gx26 l2 a2 go6 else M14K24 l2 a2 a1 a3 gx25
def M14L6 (l2:(List TI)) (a2:Int) (a1:Int) (a3:Int):Nat→Int→Int→Option ((List TI)×Bool×Int)
 | 0,_,_=>none
 | n+1,gx25,gx26=>M14L6B (M14L6 l2 a2 a1 a3 n) l2 a2 a1 a3 gx25 gx26
def M14K3 (a0:(List TI)) (a2:Int) (a1:Int) (a3:Int):Option ((List TI)×Bool×Int) :=
 bind1 (M28 a0) fun l2=>M14L6 l2 a2 a1 a3 big 0 (l2.length:Int)
def M14K28 (gx28:Int) (go7:Int→Option ((List TI)×Bool×Int)) (gb29:Bool):Option ((List TI)×Bool×Int) :=
 if gb29=true then some ([],false,10) else bind1 (i64 (gx28+1)) fun x274=>go7 x274
def M14K29 (gx28:Int) (go7:Int→Option ((List TI)×Bool×Int)) (gx30:Int):Option ((List TI)×Bool×Int) :=
 M14K28 gx28 go7 (decide (0≤gx30))
def M14K30 (gx28:Int) (go7:Int→Option ((List TI)×Bool×Int)):Option ((List TI)×Bool×Int) :=
 M14K29 gx28 go7 (-1)
def M14K31 (x276:TL) (a1:Int) (gx28:Int) (go7:Int→Option ((List TI)×Bool×Int)) (gx31:Int) (go8:Int→Option ((List TI)×Bool×Int)):Option ((List TI)×Bool×Int) :=
 if (decide (x276.Tx=a1))=true then M14K29 gx28 go7 gx31 else bind1 (i64 (gx31+1)) fun x277=>go8 x277
def M14L8B (go8:Int→Option ((List TI)×Bool×Int)) (x272:TI) (a1:Int) (gx28:Int) (go7:Int→Option ((List TI)×Bool×Int)) (gx31:Int):Option ((List TI)×Bool×Int) :=
 if gx31 < (x272.Queue.length:Int) then bind1 (idx x272.Queue gx31) fun x276=>M14K31 x276 a1 gx28 go7 gx31 go8 else M14K30 gx28 go7
def M14L8 (x272:TI) (a1:Int) (gx28:Int) (go7:Int→Option ((List TI)×Bool×Int)):Nat→Int→Option ((List TI)×Bool×Int)
 | 0,_=>none
 | n+1,gx31=>M14L8B (M14L8 x272 a1 gx28 go7 n) x272 a1 gx28 go7 gx31
def M14L7B (go7:Int→Option ((List TI)×Bool×Int)) (a0:(List TI)) (a1:Int) (a2:Int) (a3:Int) (gx28:Int):Option ((List TI)×Bool×Int) :=
 if gx28 < (a0.length:Int) then bind1 (idx a0 gx28) fun x272=>M14L8 x272 a1 gx28 go7 big 0 else M14K3 a0 a2 a1 a3
def M14L7 (a0:(List TI)) (a1:Int) (a2:Int) (a3:Int):Nat→Int→Option ((List TI)×Bool×Int)
 | 0,_=>none
 | n+1,gx28=>M14L7B (M14L7 a0 a1 a2 a3 n) a0 a1 a2 a3 gx28
def M14K2 (a0:(List TI)) (a1:Int) (a2:Int) (a3:Int):Option ((List TI)×Bool×Int) :=
 M14L7 a0 a1 a2 a3 big 0
def M14K33 (a3:Int) (a0:(List TI)) (a1:Int) (a2:Int) (gb33:Bool):Option ((List TI)×Bool×Int) :=
 if gb33=true then some ([],false,1) else bind1 (M25 a3) fun b279=>if b279=true then M14K2 a0 a1 a2 a3 else some ([],false,1)
def M14K32 (a2:Int) (a3:Int) (a0:(List TI)) (a1:Int) (gb32:Bool):Option ((List TI)×Bool×Int) :=
 if gb32=true then some ([],false,1) else if a2 < 0 then M14K33 a3 a0 a1 a2 true else if 20≤a2 then M14K33 a3 a0 a1 a2 true else M14K33 a3 a0 a1 a2 false
def M14K1 (a1:Int) (a2:Int) (a3:Int) (a0:(List TI)):Option ((List TI)×Bool×Int) :=
 if a1 < 0 then M14K32 a2 a3 a0 a1 true else if 12≤a1 then M14K32 a2 a3 a0 a1 true else M14K32 a2 a3 a0 a1 false
def M14 (a0:(List TI)) (a1:Int) (a2:Int) (a3:Int):Option ((List TI)×Bool×Int) :=
 bind1 (M24 a0) fun x285=>if x285≠0 then some ([],false,x285) else M14K1 a1 a2 a3 a0
def M37K3 (gl3:(List TE)):Option ((List TE)×Int) :=
 some (gl3,0)
def M37K4 (gx6:Int) (go1:(List TE)→Int→Option ((List TE)×Int)) (gl8:(List TE)):Option ((List TE)×Int) :=
 bind1 (i64 (gx6+1)) fun x3=>go1 gl8 x3
def M37L2B (go2:(List TE)→Int→Option ((List TE)×Int)) (gx6:Int) (gl1:(List Bool)) (go1:(List TE)→Int→Option ((List TE)×Int)) (gl10:(List TE)) (gx11:Int):Option ((List TE)×Int) :=
 if gx11 < 12 then bind1 (rng 12 gx6) fun x5=>bind1 (idx2 12 gl1 gx6 gx11) fun x6=>if x6=true then bind1 (app gl10 ([(⟨gx6,gx11⟩:TE)])) fun l10=>bind1 (i64 (gx11+1)) fun x11=>go2 l10 x11 else bind1 (i64 (gx11+1)) fun x12=>go2 gl10 x12 else M37K4 gx6 go1 gl10
def M37L2 (gx6:Int) (gl1:(List Bool)) (go1:(List TE)→Int→Option ((List TE)×Int)):Nat→(List TE)→Int→Option ((List TE)×Int)
 | 0,_,_=>none
 | n+1,gl10,gx11=>M37L2B (M37L2 gx6 gl1 go1 n) gx6 gl1 go1 gl10 gx11
def M37L1B (go1:(List TE)→Int→Option ((List TE)×Int)) (gl1:(List Bool)) (gl5:(List TE)) (gx6:Int):Option ((List TE)×Int) :=
 if gx6 < 12 then M37L2 gx6 gl1 go1 big gl5 0 else M37K3 gl5
def M37L1 (gl1:(List Bool)):Nat→(List TE)→Int→Option ((List TE)×Int)
 | 0,_,_=>none
 | n+1,gl5,gx6=>M37L1B (M37L1 gl1 n) gl1 gl5 gx6
def M37K2 (gl1:(List Bool)):Option ((List TE)×Int) :=
 M37L1 gl1 big [] 0
def M37K5 (gx12:Int) (go3:Int→(List Bool)→Option ((List TE)×Int)) (gl14:(List Bool)):Option ((List TE)×Int) :=
 bind1 (i64 (gx12+1)) fun x14=>go3 x14 gl14
def M37K6 (gx15:Int) (go4:Int→(List Bool)→Option ((List TE)×Int)) (gl17:(List Bool)):Option ((List TE)×Int) :=
 bind1 (i64 (gx15+1)) fun x18=>go4 x18 gl17
def M37L5B (go5:Int→(List Bool)→Option ((List TE)×Int)) (l23:(List TL)) (x19:TL) (gx15:Int) (go4:Int→(List Bool)→Option ((List TE)×Int)) (gx19:Int) (gl20:(List Bool)):Option ((List TE)×Int) :=
 if gx19 < (l23.length:Int) then bind1 (idx l23 gx19) fun x25=>bind1 (rng 12 x19.Tx) fun x32=>bind1 (rng 12 x25.Tx) fun x33=>bind1 (idx gl20 (x19.Tx*(12:Nat)+x25.Tx)) fun x34=>bind1 (upd gl20 (x19.Tx*(12:Nat)+x25.Tx) true) fun l35=>bind1 (i64 (gx19+1)) fun x36=>go5 x36 l35 else M37K6 gx15 go4 gl20
def M37L5 (l23:(List TL)) (x19:TL) (gx15:Int) (go4:Int→(List Bool)→Option ((List TE)×Int)):Nat→Int→(List Bool)→Option ((List TE)×Int)
 | 0,_,_=>none
 | n+1,gx19,gl20=>M37L5B (M37L5 l23 x19 gx15 go4 n) l23 x19 gx15 go4 gx19 gl20
def M37K7 (x15:TI) (gx15:Int) (x19:TL) (go4:Int→(List Bool)→Option ((List TE)×Int)) (gl18:(List Bool)):Option ((List TE)×Int) :=
 bind1 (cut x15.Queue 0 gx15) fun l23=>M37L5 l23 x19 gx15 go4 big 0 gl18
def M37L6B (go6:Int→(List Bool)→Option ((List TE)×Int)) (x15:TI) (x19:TL) (x21:Int) (gx15:Int) (go4:Int→(List Bool)→Option ((List TE)×Int)) (gx21:Int) (gl22:(List Bool)):Option ((List TE)×Int) :=
 if gx21 < (x15.Held.length:Int) then bind1 (idx x15.Held gx21) fun x38=>bind1 (rng 12 x19.Tx) fun x48=>bind1 (rng 12 x38.Tx) fun x49=>bind1 (idx gl22 (x19.Tx*(12:Nat)+x38.Tx)) fun x51=>if x51=true then bind1 (rng 12 x19.Tx) fun x53=>bind1 (rng 12 x38.Tx) fun x54=>bind1 (idx gl22 (x19.Tx*(12:Nat)+x38.Tx)) fun x55=>bind1 (upd gl22 (x19.Tx*(12:Nat)+x38.Tx) true) fun l56=>bind1 (i64 (gx21+1)) fun x57=>go6 x57 l56 else if x38.Tx≠x19.Tx then bind1 (rng 12 x19.Tx) fun x59=>bind1 (M59 x21) fun x60=>bind1 (shrW .i64 x60 x38.Mode) fun x63=>bind1 (rng 12 x38.Tx) fun x64=>bind1 (idx gl22 (x19.Tx*(12:Nat)+x38.Tx)) fun x65=>bind1 (upd gl22 (x19.Tx*(12:Nat)+x38.Tx) (decide ((Go.bits .and .i64 x63 1)=0))) fun l66=>bind1 (i64 (gx21+1)) fun x67=>go6 x67 l66 else bind1 (rng 12 x19.Tx) fun x68=>bind1 (rng 12 x38.Tx) fun x69=>bind1 (idx gl22 (x19.Tx*(12:Nat)+x38.Tx)) fun x70=>bind1 (upd gl22 (x19.Tx*(12:Nat)+x38.Tx) false) fun l71=>bind1 (i64 (gx21+1)) fun x72=>go6 x72 l71 else M37K7 x15 gx15 x19 go4 gl22
def M37L6 (x15:TI) (x19:TL) (x21:Int) (gx15:Int) (go4:Int→(List Bool)→Option ((List TE)×Int)):Nat→Int→(List Bool)→Option ((List TE)×Int)
 | 0,_,_=>none
 | n+1,gx21,gl22=>M37L6B (M37L6 x15 x19 x21 gx15 go4 n) x15 x19 x21 gx15 go4 gx21 gl22
def M37L4B (go4:Int→(List Bool)→Option ((List TE)×Int)) (x15:TI) (gx12:Int) (go3:Int→(List Bool)→Option ((List TE)×Int)) (gx15:Int) (gl16:(List Bool)):Option ((List TE)×Int) :=
 if gx15 < (x15.Queue.length:Int) then bind1 (idx x15.Queue gx15) fun x19=>bind1 (M57 x15 x19) fun x21=>M37L6 x15 x19 x21 gx15 go4 big 0 gl16 else M37K5 gx12 go3 gl16
def M37L4 (x15:TI) (gx12:Int) (go3:Int→(List Bool)→Option ((List TE)×Int)):Nat→Int→(List Bool)→Option ((List TE)×Int)
 | 0,_,_=>none
 | n+1,gx15,gl16=>M37L4B (M37L4 x15 gx12 go3 n) x15 gx12 go3 gx15 gl16
def M37L3B (go3:Int→(List Bool)→Option ((List TE)×Int)) (a0:(List TI)) (gx12:Int) (gl13:(List Bool)):Option ((List TE)×Int) :=
 if gx12 < (a0.length:Int) then bind1 (idx a0 gx12) fun x15=>M37L4 x15 gx12 go3 big 0 gl13 else M37K2 gl13
def M37L3 (a0:(List TI)):Nat→Int→(List Bool)→Option ((List TE)×Int)
 | 0,_,_=>none
 | n+1,gx12,gl13=>M37L3B (M37L3 a0 n) a0 gx12 gl13
def M37K1 (a0:(List TI)):Option ((List TE)×Int) :=
 M37L3 a0 big 0 (List.replicate 144 (false:Bool))
def M37 (a0:(List TI)):Option ((List TE)×Int) :=
 bind1 (M24 a0) fun x73=>if x73≠0 then some ([],x73) else M37K1 a0
def M62K3:Option Int :=
 some 0
def M62K4 (x2:TE) (a0:Int) (gx1:Int) (go1:Int→Option Int) (gb2:Bool):Option Int :=
 if gb2=true then some 4 else if x2.To < 0 then some 4 else if a0≤x2.To then some 4 else bind1 (i64 (gx1+1)) fun x6=>go1 x6
def M62L1B (go1:Int→Option Int) (a1:(List TE)) (a0:Int) (gx1:Int):Option Int :=
 if gx1 < (a1.length:Int) then bind1 (idx a1 gx1) fun x2=>if x2.From < 0 then M62K4 x2 a0 gx1 go1 true else if a0≤x2.From then M62K4 x2 a0 gx1 go1 true else M62K4 x2 a0 gx1 go1 false else M62K3
def M62L1 (a1:(List TE)) (a0:Int):Nat→Int→Option Int
 | 0,_=>none
 | n+1,gx1=>M62L1B (M62L1 a1 a0 n) a1 a0 gx1
def M62K2 (a1:(List TE)) (a0:Int):Option Int :=
 M62L1 a1 a0 big 0
def M62K1 (a1:(List TE)) (a0:Int):Option Int :=
 if 2000 < (a1.length:Int) then some 2 else M62K2 a1 a0
def M62 (a0:Int) (a1:(List TE)):Option Int :=
 if a0 < 0 then some 1 else if 60 < a0 then some 1 else M62K1 a1 a0
def M42 (a0:(List TE)):Option (List TE) :=
 bind1 (app [] a0) fun l3=>some l3
def M77K2 (gl3:(List (List Int))):Option (List (List Int)) :=
 some gl3
def M77L1B (go1:(List (List Int))→Int→Option (List (List Int))) (gl1:(List (List Int))) (gl5:(List (List Int))) (gx7:Int):Option (List (List Int)) :=
 if gx7 < (gl1.length:Int) then bind1 (idx gl5 gx7) fun x4=>bind1 (xSort x4) fun l5=>bind1 (upd gl5 gx7 l5) fun l6=>bind1 (idx l6 gx7) fun x7=>bind1 (xCompact x7) fun l8=>bind1 (idx l6 gx7) fun x10=>bind1 (upd l6 gx7 l8) fun l11=>bind1 (i64 (gx7+1)) fun x13=>go1 l11 x13 else M77K2 gl5
def M77L1 (gl1:(List (List Int))):Nat→(List (List Int))→Int→Option (List (List Int))
 | 0,_,_=>none
 | n+1,gl5,gx7=>M77L1B (M77L1 gl1 n) gl1 gl5 gx7
def M77K1 (gl1:(List (List Int))):Option (List (List Int)) :=
 M77L1 gl1 big gl1 0
def M77L2B (go2:(List (List Int))→Int→Option (List (List Int))) (a1:(List TE)) (gl8:(List (List Int))) (gx10:Int):Option (List (List Int)) :=
 if gx10 < (a1.length:Int) then bind1 (idx a1 gx10) fun x15=>bind1 (idx gl8 x15.From) fun x42=>bind1 (app x42 ([x15.To])) fun l45=>bind1 (idx gl8 x15.From) fun x48=>bind1 (upd gl8 x15.From l45) fun l49=>bind1 (i64 (gx10+1)) fun x51=>go2 l49 x51 else M77K1 gl8
def M77L2 (a1:(List TE)):Nat→(List (List Int))→Int→Option (List (List Int))
 | 0,_,_=>none
 | n+1,gl8,gx10=>M77L2B (M77L2 a1 n) a1 gl8 gx10
def M77 (a0:Int) (a1:(List TE)):Option (List (List Int)) :=
 bind1 (mk a0 ([]:(List Int))) fun l1=>M77L2 a1 big l1 0
def M96K1:Option Int :=
 some (-1)
def M96L1B (go1:Int→Option Int) (a0:(List Int)) (a1:Int) (gx1:Int):Option Int :=
 if gx1 < (a0.length:Int) then bind1 (idx a0 gx1) fun x2=>if a1=x2 then some gx1 else bind1 (i64 (gx1+1)) fun x4=>go1 x4 else M96K1
def M96L1 (a0:(List Int)) (a1:Int):Nat→Int→Option Int
 | 0,_=>none
 | n+1,gx1=>M96L1B (M96L1 a0 a1 n) a0 a1 gx1
def M96 (a0:(List Int)) (a1:Int):Option Int :=
 M96L1 a0 a1 big 0
def M95 (a0:(List Int)) (a1:Int):Option Bool :=
 bind1 (M96 a0 a1) fun x1=>some (decide (0≤x1))
def M97 (a0:(List Int)):Option (List Int) :=
 bind1 (app [] a0) fun l3=>some l3
def M78K1 (a1:Int) (gl2:(List Int)) (gl4:(List Int)) (gl6:(List Int)) (gl8:(List (List Int))) (gx10:Int):Option ((List Int)×(List Int)×(List Int)×(List (List Int))×Int) :=
 bind1 (idx gl4 a1) fun x24=>bind1 (idx gl2 a1) fun x25=>if x24=x25 then bind1 (M96 gl6 a1) fun x27=>bind1 (cut gl6 x27 gl6.length) fun l29=>bind1 (M97 l29) fun l30=>bind1 (xSort l30) fun l33=>bind1 (app gl8 ([l33])) fun l36=>bind1 (cut gl6 0 x27) fun l39=>some (gl2,gl4,l39,l36,gx10) else some (gl2,gl4,gl6,gl8,gx10)
def M78K2 (rec:(List (List Int))→(List Int)→(List Int)→(List Int)→(List (List Int))→Int→Int→Option ((List Int)×(List Int)×(List Int)×(List (List Int))×Int)) (kK:(List (List Int))) (gl13:(List Int)) (gl15:(List Int)) (gl17:(List Int)) (gl19:(List (List Int))) (gx21:Int) (x43:Int) (a1:Int) (gx11:Int) (go1:Int→(List Int)→(List Int)→(List Int)→(List (List Int))→Int→Option ((List Int)×(List Int)×(List Int)×(List (List Int))×Int)) (gb22:Bool):Option ((List Int)×(List Int)×(List Int)×(List (List Int))×Int) :=
 if gb22=true then bind5 (rec kK gl13 gl15 gl17 gl19 gx21 x43) fun l59 l60 l61 l62 x63=>bind1 (idx l60 a1) fun x77=>bind1 (idx l60 x43) fun x78=>bind1 (idx l60 a1) fun x79=>bind1 (upd l60 a1 (min x77 x78)) fun l80=>bind1 (i64 (gx11+1)) fun x81=>go1 x81 l59 l80 l61 l62 x63 else bind1 (M95 gl17 x43) fun b44=>if b44=true then bind1 (idx gl15 a1) fun x54=>bind1 (idx gl13 x43) fun x55=>bind1 (idx gl15 a1) fun x56=>bind1 (upd gl15 a1 (min x54 x55)) fun l57=>bind1 (i64 (gx11+1)) fun x58=>go1 x58 gl13 l57 gl17 gl19 gx21 else bind1 (i64 (gx11+1)) fun x46=>go1 x46 gl13 gl15 gl17 gl19 gx21
def M78L1B (go1:Int→(List Int)→(List Int)→(List Int)→(List (List Int))→Int→Option ((List Int)×(List Int)×(List Int)×(List (List Int))×Int)) (x41:(List Int)) (rec:(List (List Int))→(List Int)→(List Int)→(List Int)→(List (List Int))→Int→Int→Option ((List Int)×(List Int)×(List Int)×(List (List Int))×Int)) (kK:(List (List Int))) (a1:Int) (gx11:Int) (gl13:(List Int)) (gl15:(List Int)) (gl17:(List Int)) (gl19:(List (List Int))) (gx21:Int):Option ((List Int)×(List Int)×(List Int)×(List (List Int))×Int) :=
 if gx11 < (x41.length:Int) then bind1 (idx x41 gx11) fun x43=>bind1 (idx gl13 x43) fun x82=>if x82=0 then M78K2 rec kK gl13 gl15 gl17 gl19 gx21 x43 a1 gx11 go1 true else M78K2 rec kK gl13 gl15 gl17 gl19 gx21 x43 a1 gx11 go1 false else M78K1 a1 gl13 gl15 gl17 gl19 gx21
def M78L1 (x41:(List Int)) (rec:(List (List Int))→(List Int)→(List Int)→(List Int)→(List (List Int))→Int→Int→Option ((List Int)×(List Int)×(List Int)×(List (List Int))×Int)) (kK:(List (List Int))) (a1:Int):Nat→Int→(List Int)→(List Int)→(List Int)→(List (List Int))→Int→Option ((List Int)×(List Int)×(List Int)×(List (List Int))×Int)
 | 0,_,_,_,_,_,_=>none
 | n+1,gx11,gl13,gl15,gl17,gl19,gx21=>M78L1B (M78L1 x41 rec kK a1 n) x41 rec kK a1 gx11 gl13 gl15 gl17 gl19 gx21
def M78a (rec:(List (List Int))→(List Int)→(List Int)→(List Int)→(List (List Int))→Int→Int→Option ((List Int)×(List Int)×(List Int)×(List (List Int))×Int)) (kK:(List (List Int))) (kW:(List Int)) (kU:(List Int)) (kP:(List Int)) (kO:(List (List Int))) (kY:Int) (a1:Int):Option ((List Int)×(List Int)×(List Int)×(List (List Int))×Int) :=
 bind1 (i64 (kY+1)) fun x1=>bind1 (idx kW a1) fun x15=>bind1 (upd kW a1 x1) fun l16=>bind1 (idx kU a1) fun x19=>bind1 (upd kU a1 x1) fun l20=>bind1 (app kP ([a1])) fun l23=>bind1 (idx kK a1) fun x41=>M78L1 x41 rec kK a1 big 0 l16 l20 l23 kO x1
def M78b:Nat→(List (List Int))→(List Int)→(List Int)→(List Int)→(List (List Int))→Int→Int→Option ((List Int)×(List Int)×(List Int)×(List (List Int))×Int)
 | 0,_,_,_,_,_,_,_=>none
 | n+1,kK,kW,kU,kP,kO,kY,a1=>M78a (M78b n) kK kW kU kP kO kY a1
def M78 (kK:(List (List Int))) (kW:(List Int)) (kU:(List Int)) (kP:(List Int)) (kO:(List (List Int))) (kY:Int) (a1:Int):Option ((List Int)×(List Int)×(List Int)×(List (List Int))×Int):=M78b big kK kW kU kP kO kY a1
def M80 (a0:(List Int)) (a1:(List Int)):Option Int :=
 bind1 (idx a0 0) fun x1=>bind1 (idx a1 0) fun x2=>bind1 (i64 (x1 - x2)) fun x3=>some x3
def M63K3 (gl10:(List Int)) (gl12:(List Int)) (gl14:(List Int)) (gl16:(List (List Int))) (gx18:Int):Option ((List (List Int))×Int) :=
 bind1 (xSortH gl16) fun l1=>some (l1,0)
def M63L1B (go1:Int→(List Int)→(List Int)→(List Int)→(List (List Int))→Int→Option ((List (List Int))×Int)) (a0:Int) (gl3:(List (List Int))) (gx19:Int) (gl21:(List Int)) (gl23:(List Int)) (gl25:(List Int)) (gl27:(List (List Int))) (gx29:Int):Option ((List (List Int))×Int) :=
 if gx19 < a0 then bind1 (idx gl21 gx19) fun x4=>if x4=0 then bind5 (M78 gl3 gl21 gl23 gl25 gl27 gx29 gx19) fun l6 l7 l8 l9 x10=>bind1 (i64 (gx19+1)) fun x17=>go1 x17 l6 l7 l8 l9 x10 else bind1 (i64 (gx19+1)) fun x18=>go1 x18 gl21 gl23 gl25 gl27 gx29 else M63K3 gl21 gl23 gl25 gl27 gx29
def M63L1 (a0:Int) (gl3:(List (List Int))):Nat→Int→(List Int)→(List Int)→(List Int)→(List (List Int))→Int→Option ((List (List Int))×Int)
 | 0,_,_,_,_,_,_=>none
 | n+1,gx19,gl21,gl23,gl25,gl27,gx29=>M63L1B (M63L1 a0 gl3 n) a0 gl3 gx19 gl21 gl23 gl25 gl27 gx29
def M63K2 (a0:Int) (gl3:(List (List Int))) (gl6:(List Int)) (gl8:(List Int)):Option ((List (List Int))×Int) :=
 M63L1 a0 gl3 big 0 gl6 gl8 [] [] 0
def M63K1 (a0:Int) (a1:(List TE)):Option ((List (List Int))×Int) :=
 bind1 (M77 a0 a1) fun y20=>bind1 (mk a0 0) fun y22=>bind1 (mk a0 0) fun y24=>M63K2 a0 y20 y22 y24
def M63 (a0:Int) (a1:(List TE)):Option ((List (List Int))×Int) :=
 bind1 (M62 a0 a1) fun x64=>if x64≠0 then some ([],x64) else M63K1 a0 a1
def M38K4 (go1:(List TE)→(List Int)→Option ((List Int)×Int)) (l12:(List Int)) (gl7:(List TE)):Option ((List Int)×Int) :=
 go1 gl7 l12
def M38K7 (go1:(List TE)→(List Int)→Option ((List Int)×Int)) (l12:(List Int)) (gl9:(List TE)) (gx10:Int):Option ((List Int)×Int) :=
 bind1 (cut gl9 gx10 gl9.length) fun l13=>bind1 (clr gl9 gx10 (⟨0,0⟩:TE)) fun l14=>bind1 (cut l14 0 gx10) fun l15=>M38K4 go1 l12 l15
def M38K9 (gx13:Int) (go2:(List TE)→Int→Int→Option ((List Int)×Int)) (gl11:(List TE)) (gx12:Int) (x18:TE) (gb14:Bool):Option ((List Int)×Int) :=
 if gb14=true then bind1 (i64 (gx13+1)) fun x24=>go2 gl11 gx12 x24 else bind1 (idx gl11 gx12) fun x20=>bind1 (upd gl11 gx12 x18) fun l21=>bind1 (i64 (gx12+1)) fun x22=>bind1 (i64 (gx13+1)) fun x23=>go2 l21 x22 x23
def M38K8 (gl11:(List TE)) (gx13:Int) (gx5:Int) (go2:(List TE)→Int→Int→Option ((List Int)×Int)) (gx12:Int):Option ((List Int)×Int) :=
 bind1 (idx gl11 gx13) fun x18=>if x18.From=gx5 then M38K9 gx13 go2 gl11 gx12 x18 true else M38K9 gx13 go2 gl11 gx12 x18 (decide (x18.To=gx5))
def M38L2B (go2:(List TE)→Int→Int→Option ((List Int)×Int)) (gx5:Int) (go1:(List TE)→(List Int)→Option ((List Int)×Int)) (l12:(List Int)) (gl11:(List TE)) (gx12:Int) (gx13:Int):Option ((List Int)×Int) :=
 if gx13 < (gl11.length:Int) then M38K8 gl11 gx13 gx5 go2 gx12 else M38K7 go1 l12 gl11 gx12
def M38L2 (gx5:Int) (go1:(List TE)→(List Int)→Option ((List Int)×Int)) (l12:(List Int)):Nat→(List TE)→Int→Int→Option ((List Int)×Int)
 | 0,_,_,_=>none
 | n+1,gl11,gx12,gx13=>M38L2B (M38L2 gx5 go1 l12 n) gx5 go1 l12 gl11 gx12 gx13
def M38K6 (gx8:Int) (gx5:Int) (go1:(List TE)→(List Int)→Option ((List Int)×Int)) (l12:(List Int)) (gl2:(List TE)):Option ((List Int)×Int) :=
 bind1 (i64 (gx8+1)) fun x17=>M38L2 gx5 go1 l12 big gl2 gx8 x17
def M38K5 (go1:(List TE)→(List Int)→Option ((List Int)×Int)) (l12:(List Int)) (gl2:(List TE)) (gx5:Int) (gx8:Int):Option ((List Int)×Int) :=
 if gx8=(-1) then M38K4 go1 l12 gl2 else M38K6 gx8 gx5 go1 l12 gl2
def M38K10 (go1:(List TE)→(List Int)→Option ((List Int)×Int)) (l12:(List Int)) (gl2:(List TE)) (gx5:Int):Option ((List Int)×Int) :=
 M38K5 go1 l12 gl2 gx5 (-1)
def M38K11 (go1:(List TE)→(List Int)→Option ((List Int)×Int)) (l12:(List Int)) (gl2:(List TE)) (gx5:Int) (gx15:Int) (go3:Int→Option ((List Int)×Int)) (gb16:Bool):Option ((List Int)×Int) :=
 if gb16=true then M38K5 go1 l12 gl2 gx5 gx15 else bind1 (i64 (gx15+1)) fun x31=>go3 x31
def M38L3B (go3:Int→Option ((List Int)×Int)) (gl2:(List TE)) (gx5:Int) (go1:(List TE)→(List Int)→Option ((List Int)×Int)) (l12:(List Int)) (gx15:Int):Option ((List Int)×Int) :=
 if gx15 < (gl2.length:Int) then bind1 (idx gl2 gx15) fun x30=>if x30.From=gx5 then M38K11 go1 l12 gl2 gx5 gx15 go3 true else M38K11 go1 l12 gl2 gx5 gx15 go3 (decide (x30.To=gx5)) else M38K10 go1 l12 gl2 gx5
def M38L3 (gl2:(List TE)) (gx5:Int) (go1:(List TE)→(List Int)→Option ((List Int)×Int)) (l12:(List Int)):Nat→Int→Option ((List Int)×Int)
 | 0,_=>none
 | n+1,gx15=>M38L3B (M38L3 gl2 gx5 go1 l12 n) gl2 gx5 go1 l12 gx15
def M38K3 (gl4:(List Int)) (gx5:Int) (gl2:(List TE)) (go1:(List TE)→(List Int)→Option ((List Int)×Int)):Option ((List Int)×Int) :=
 bind1 (app gl4 ([gx5])) fun l12=>M38L3 gl2 gx5 go1 l12 big 0
def M38K2 (gl4:(List Int)) (gl2:(List TE)) (go1:(List TE)→(List Int)→Option ((List Int)×Int)) (gx5:Int):Option ((List Int)×Int) :=
 if gx5 < 0 then bind1 (xSort gl4) fun l35=>some (l35,0) else M38K3 gl4 gx5 gl2 go1
def M38K12 (gx17:Int) (go4:Int→Int→Option ((List Int)×Int)) (gx19:Int):Option ((List Int)×Int) :=
 bind1 (i64 (gx17+1)) fun x37=>go4 x37 gx19
def M38K13 (x38:(List Int)) (gx17:Int) (go4:Int→Int→Option ((List Int)×Int)) (gx18:Int) (gb20:Bool):Option ((List Int)×Int) :=
 if gb20=true then if 1 < (x38.length:Int) then bind1 (i64 ((x38.length:Int) - 1)) fun x56=>bind1 (idx x38 x56) fun x57=>M38K12 gx17 go4 (max gx18 x57) else bind1 (i64 ((x38.length:Int) - 1)) fun x64=>bind1 (idx x38 x64) fun x65=>M38K12 gx17 go4 (max gx18 x65) else if 1 < (x38.length:Int) then bind1 (i64 ((x38.length:Int) - 1)) fun x47=>bind1 (idx x38 x47) fun x48=>M38K12 gx17 go4 (max gx18 x48) else M38K12 gx17 go4 gx18
def M38K14 (x38:(List Int)) (gx17:Int) (go4:Int→Int→Option ((List Int)×Int)) (gx18:Int) (gb21:Bool):Option ((List Int)×Int) :=
 if gb21=true then M38K13 x38 gx17 go4 gx18 true else M38K13 x38 gx17 go4 gx18 false
def M38K15 (x38:(List Int)) (gx17:Int) (go4:Int→Int→Option ((List Int)×Int)) (gx18:Int) (gx22:Int):Option ((List Int)×Int) :=
 M38K14 x38 gx17 go4 gx18 (decide (0≤gx22))
def M38K16 (x38:(List Int)) (gx17:Int) (go4:Int→Int→Option ((List Int)×Int)) (gx18:Int):Option ((List Int)×Int) :=
 M38K15 x38 gx17 go4 gx18 (-1)
def M38K17 (x38:(List Int)) (gx17:Int) (go4:Int→Int→Option ((List Int)×Int)) (gx18:Int) (gx23:Int) (go5:Int→Option ((List Int)×Int)) (gb24:Bool):Option ((List Int)×Int) :=
 if gb24=true then M38K15 x38 gx17 go4 gx18 gx23 else bind1 (i64 (gx23+1)) fun x68=>go5 x68
def M38L5B (go5:Int→Option ((List Int)×Int)) (gl2:(List TE)) (x38:(List Int)) (gx17:Int) (go4:Int→Int→Option ((List Int)×Int)) (gx18:Int) (gx23:Int):Option ((List Int)×Int) :=
 if gx23 < (gl2.length:Int) then bind1 (idx gl2 gx23) fun x67=>if x67.From=x67.To then bind1 (idx x38 0) fun x71=>M38K17 x38 gx17 go4 gx18 gx23 go5 (decide (x67.From=x71)) else M38K17 x38 gx17 go4 gx18 gx23 go5 false else M38K16 x38 gx17 go4 gx18
def M38L5 (gl2:(List TE)) (x38:(List Int)) (gx17:Int) (go4:Int→Int→Option ((List Int)×Int)) (gx18:Int):Nat→Int→Option ((List Int)×Int)
 | 0,_=>none
 | n+1,gx23=>M38L5B (M38L5 gl2 x38 gx17 go4 gx18 n) gl2 x38 gx17 go4 gx18 gx23
def M38L4B (go4:Int→Int→Option ((List Int)×Int)) (l5:(List (List Int))) (gl2:(List TE)) (gl4:(List Int)) (go1:(List TE)→(List Int)→Option ((List Int)×Int)) (gx17:Int) (gx18:Int):Option ((List Int)×Int) :=
 if gx17 < (l5.length:Int) then bind1 (idx l5 gx17) fun x38=>M38L5 gl2 x38 gx17 go4 gx18 big 0 else M38K2 gl4 gl2 go1 gx18
def M38L4 (l5:(List (List Int))) (gl2:(List TE)) (gl4:(List Int)) (go1:(List TE)→(List Int)→Option ((List Int)×Int)):Nat→Int→Int→Option ((List Int)×Int)
 | 0,_,_=>none
 | n+1,gx17,gx18=>M38L4B (M38L4 l5 gl2 gl4 go1 n) l5 gl2 gl4 go1 gx17 gx18
def M38L1B (go1:(List TE)→(List Int)→Option ((List Int)×Int)) (a0:Int) (gl2:(List TE)) (gl4:(List Int)):Option ((List Int)×Int) :=
 bind2 (M63 a0 gl2) fun l5 x8=>M38L4 l5 gl2 gl4 go1 big 0 (-1)
def M38L1 (a0:Int):Nat→(List TE)→(List Int)→Option ((List Int)×Int)
 | 0,_,_=>none
 | n+1,gl2,gl4=>M38L1B (M38L1 a0 n) a0 gl2 gl4
def M38K1 (a1:(List TE)) (a0:Int):Option ((List Int)×Int) :=
 bind1 (M42 a1) fun l1=>M38L1 a0 big l1 []
def M38 (a0:Int) (a1:(List TE)):Option ((List Int)×Int) :=
 bind1 (M62 a0 a1) fun x72=>if x72≠0 then some ([],x72) else M38K1 a1 a0
def M16K1 (l5:(List Int)) (gl11:(List Bool)) (gl9:(List (List TOp))) (gl13:(List TOp)) (rec:(List TI)→(List (List TOp))→(List Bool)→(List TOp)→TOp→Option ((List TI)×(List (List TOp))×(List Bool)×(List TOp))) (gl3:(List TI)) (go1:(List TI)→(List (List TOp))→(List Bool)→(List TOp)→Option ((List TI)×(List (List TOp))×(List Bool)×(List TOp))):Option ((List TI)×(List (List TOp))×(List Bool)×(List TOp)) :=
 bind1 (i64 ((l5.length:Int) - 1)) fun x9=>bind1 (idx l5 x9) fun x10=>bind1 (idxA 12 gl11 x10) fun x11=>bind1 (arrN 12 gl9) fun _=>bind1 (upd gl11 x10 true) fun l13=>bind1 (idxA 12 gl9 x10) fun x14=>bind1 (upd gl9 x10 []) fun l15=>bind1 (arrN 12 l15) fun _=>bind1 (arrN 12 l13) fun _=>bind1 (app gl13 ([(⟨x10,4,0⟩:TOp)])) fun l21=>bind4 (M13 rec gl3 l15 l13 l21 x10) fun l22 l23 l24 l25=>go1 l22 l23 l24 l25
def M16L1B (go1:(List TI)→(List (List TOp))→(List Bool)→(List TOp)→Option ((List TI)×(List (List TOp))×(List Bool)×(List TOp))) (rec:(List TI)→(List (List TOp))→(List Bool)→(List TOp)→TOp→Option ((List TI)×(List (List TOp))×(List Bool)×(List TOp))) (gl3:(List TI)) (gl9:(List (List TOp))) (gl11:(List Bool)) (gl13:(List TOp)):Option ((List TI)×(List (List TOp))×(List Bool)×(List TOp)) :=
 bind2 (M37 gl3) fun l1 x3=>bind2 (M38 12 l1) fun l5 x7=>if (l5.length:Int)=0 then some (gl3,gl9,gl11,gl13) else M16K1 l5 gl11 gl9 gl13 rec gl3 go1
def M16L1 (rec:(List TI)→(List (List TOp))→(List Bool)→(List TOp)→TOp→Option ((List TI)×(List (List TOp))×(List Bool)×(List TOp))):Nat→(List TI)→(List (List TOp))→(List Bool)→(List TOp)→Option ((List TI)×(List (List TOp))×(List Bool)×(List TOp))
 | 0,_,_,_,_=>none
 | n+1,gl3,gl9,gl11,gl13=>M16L1B (M16L1 rec n) rec gl3 gl9 gl11 gl13
def M16 (rec:(List TI)→(List (List TOp))→(List Bool)→(List TOp)→TOp→Option ((List TI)×(List (List TOp))×(List Bool)×(List TOp))) (kI:(List TI)) (kA:(List (List TOp))) (kB:(List Bool)) (kD:(List TOp)):Option ((List TI)×(List (List TOp))×(List Bool)×(List TOp)) :=
 M16L1 rec big kI kA kB kD
def M9K2 (kA:(List (List TOp))) (kB:(List Bool)) (kD:(List TOp)) (a1:TOp) (rec:(List TI)→(List (List TOp))→(List Bool)→(List TOp)→TOp→Option ((List TI)×(List (List TOp))×(List Bool)×(List TOp))) (gl3:(List TI)) (gb9:Bool):Option ((List TI)×(List (List TOp))×(List Bool)×(List TOp)) :=
 if gb9=true then bind1 (arrN 12 kA) fun _=>bind1 (arrN 12 kB) fun _=>bind1 (app kD ([a1])) fun l63=>some (gl3,kA,kB,l63) else bind1 (idxA 12 kA a1.Tx) fun x25=>bind1 (upd kA a1.Tx ([a1])) fun l26=>bind4 (M16 rec gl3 l26 kB kD) fun l28 l29 l30 l31=>some (l28,l29,l30,l31)
def M9K1 (a1:TOp) (kI:(List TI)) (kA:(List (List TOp))) (kB:(List Bool)) (kD:(List TOp)) (rec:(List TI)→(List (List TOp))→(List Bool)→(List TOp)→TOp→Option ((List TI)×(List (List TOp))×(List Bool)×(List TOp))):Option ((List TI)×(List (List TOp))×(List Bool)×(List TOp)) :=
 bind1 (M15 a1) fun x82=>bind3 (M14 kI a1.Tx a1.Item x82) fun l84 b89 x90=>if b89=true then M9K2 kA kB kD a1 rec l84 true else M9K2 kA kB kD a1 rec l84 false
def M9K3 (kA:(List (List TOp))) (a1:TOp) (kI:(List TI)) (kB:(List Bool)) (kD:(List TOp)) (rec:(List TI)→(List (List TOp))→(List Bool)→(List TOp)→TOp→Option ((List TI)×(List (List TOp))×(List Bool)×(List TOp))) (gb10:Bool):Option ((List TI)×(List (List TOp))×(List Bool)×(List TOp)) :=
 if gb10=true then bind1 (idxA 12 kA a1.Tx) fun x162=>bind1 (app x162 ([a1])) fun l165=>bind1 (idxA 12 kA a1.Tx) fun x168=>bind1 (upd kA a1.Tx l165) fun l169=>some (kI,l169,kB,kD) else if 3≤a1.Kind then bind1 (arrN 12 kB) fun _=>bind1 (app kD ([a1])) fun l119=>bind4 (M13 rec kI kA kB l119 a1.Tx) fun l121 l122 l123 l124=>some (l121,l122,l123,l124) else M9K1 a1 kI kA kB kD rec
def M9a (rec:(List TI)→(List (List TOp))→(List Bool)→(List TOp)→TOp→Option ((List TI)×(List (List TOp))×(List Bool)×(List TOp))) (kI:(List TI)) (kA:(List (List TOp))) (kB:(List Bool)) (kD:(List TOp)) (a1:TOp):Option ((List TI)×(List (List TOp))×(List Bool)×(List TOp)) :=
 bind1 (idxA 12 kB a1.Tx) fun x99=>bind1 (arrN 12 kA) fun _=>if x99=true then some (kI,kA,kB,kD) else bind1 (idxA 12 kA a1.Tx) fun x171=>if 0 < (x171.length:Int) then M9K3 kA a1 kI kB kD rec true else M9K3 kA a1 kI kB kD rec false
def M9b:Nat→(List TI)→(List (List TOp))→(List Bool)→(List TOp)→TOp→Option ((List TI)×(List (List TOp))×(List Bool)×(List TOp))
 | 0,_,_,_,_,_=>none
 | n+1,kI,kA,kB,kD,a1=>M9a (M9b n) kI kA kB kD a1
def M9 (kI:(List TI)) (kA:(List (List TOp))) (kB:(List Bool)) (kD:(List TOp)) (a1:TOp):Option ((List TI)×(List (List TOp))×(List Bool)×(List TOp)):=M9b big kI kA kB kD a1
def M4K2 (gl13:(List TOp)) (gl15:(List Int)) (gl17:(List Int)):Option (TPlayed×Int) :=
 some ((⟨gl13,gl15,gl17⟩:TPlayed),0)
def M4L1B (go1:Int→(List Int)→(List Int)→Option (TPlayed×Int)) (gl11:(List Bool)) (gl9:(List (List TOp))) (gl13:(List TOp)) (gx18:Int) (gl20:(List Int)) (gl22:(List Int)):Option (TPlayed×Int) :=
 if gx18 < 12 then bind1 (idxA 12 gl11 gx18) fun x19=>if x19=true then bind1 (app gl20 ([gx18])) fun l23=>bind1 (idxA 12 gl9 gx18) fun x24=>if 0 < (x24.length:Int) then bind1 (app gl22 ([gx18])) fun l28=>bind1 (i64 (gx18+1)) fun x29=>go1 x29 l23 l28 else bind1 (i64 (gx18+1)) fun x30=>go1 x30 l23 gl22 else bind1 (idxA 12 gl9 gx18) fun x31=>if 0 < (x31.length:Int) then bind1 (app gl22 ([gx18])) fun l35=>bind1 (i64 (gx18+1)) fun x36=>go1 x36 gl20 l35 else bind1 (i64 (gx18+1)) fun x37=>go1 x37 gl20 gl22 else M4K2 gl13 gl20 gl22
def M4L1 (gl11:(List Bool)) (gl9:(List (List TOp))) (gl13:(List TOp)):Nat→Int→(List Int)→(List Int)→Option (TPlayed×Int)
 | 0,_,_,_=>none
 | n+1,gx18,gl20,gl22=>M4L1B (M4L1 gl11 gl9 gl13 n) gl11 gl9 gl13 gx18 gl20 gl22
def M4K1 (gl3:(List TI)) (gl9:(List (List TOp))) (gl11:(List Bool)) (gl13:(List TOp)):Option (TPlayed×Int) :=
 bind1 (arrN 12 gl9) fun _=>bind1 (arrN 12 gl11) fun _=>M4L1 gl11 gl9 gl13 big 0 [] []
def M4L2B (go2:Int→(List TI)→(List (List TOp))→(List Bool)→(List TOp)→Option (TPlayed×Int)) (a0:(List TOp)) (gx24:Int) (gl26:(List TI)) (gl32:(List (List TOp))) (gl34:(List Bool)) (gl36:(List TOp)):Option (TPlayed×Int) :=
 if gx24 < (a0.length:Int) then bind1 (idx a0 gx24) fun x39=>bind4 (M9 gl26 gl32 gl34 gl36 x39) fun l41 l42 l43 l44=>bind1 (i64 (gx24+1)) fun x57=>go2 x57 l41 l42 l43 l44 else M4K1 gl26 gl32 gl34 gl36
def M4L2 (a0:(List TOp)):Nat→Int→(List TI)→(List (List TOp))→(List Bool)→(List TOp)→Option (TPlayed×Int)
 | 0,_,_,_,_,_=>none
 | n+1,gx24,gl26,gl32,gl34,gl36=>M4L2B (M4L2 a0 n) a0 gx24 gl26 gl32 gl34 gl36
def M4 (a0:(List TOp)):Option (TPlayed×Int) :=
 bind1 (M8 a0) fun x2=>if x2≠0 then some ((⟨[],[],[]⟩:TPlayed),x2) else M4L2 a0 big 0 [] (List.replicate 12 ([]:(List TOp))) (List.replicate 12 (false:Bool)) []
def M5K2:Option Int :=
 some 0
def M5K3 (gx1:Int) (go1:Int→Option Int):Option Int :=
 bind1 (i64 (gx1+1)) fun x2=>go1 x2
def M5L2B (go2:Int→Option Int) (l5:(List TOp)) (x3:TOp) (gx1:Int) (go1:Int→Option Int) (gx2:Int):Option Int :=
 if gx2 < (l5.length:Int) then bind1 (idx l5 gx2) fun x7=>if x7.Tx=x3.Tx then if 2 < x7.Kind then some 4 else bind1 (i64 (gx2+1)) fun x11=>go2 x11 else bind1 (i64 (gx2+1)) fun x12=>go2 x12 else M5K3 gx1 go1
def M5L2 (l5:(List TOp)) (x3:TOp) (gx1:Int) (go1:Int→Option Int):Nat→Int→Option Int
 | 0,_=>none
 | n+1,gx2=>M5L2B (M5L2 l5 x3 gx1 go1 n) l5 x3 gx1 go1 gx2
def M5K5 (a0:(List TOp)) (gx1:Int) (x3:TOp) (go1:Int→Option Int):Option Int :=
 bind1 (cut a0 0 gx1) fun l5=>M5L2 l5 x3 gx1 go1 big 0
def M5K7 (a0:(List TOp)) (gx1:Int) (x3:TOp) (go1:Int→Option Int) (gb4:Bool):Option Int :=
 if gb4=true then some 4 else M5K5 a0 gx1 x3 go1
def M5K6 (x3:TOp) (a0:(List TOp)) (gx1:Int) (go1:Int→Option Int) (gb3:Bool):Option Int :=
 if gb3=true then some 4 else if 2 < x3.Kind then if x3.Item≠0 then M5K7 a0 gx1 x3 go1 true else M5K7 a0 gx1 x3 go1 false else M5K7 a0 gx1 x3 go1 false
def M5K4 (x3:TOp) (a0:(List TOp)) (gx1:Int) (go1:Int→Option Int):Option Int :=
 if x3.Kind < 1 then M5K6 x3 a0 gx1 go1 true else if 4 < x3.Kind then M5K6 x3 a0 gx1 go1 true else M5K6 x3 a0 gx1 go1 false
def M5K8 (x3:TOp) (a0:(List TOp)) (gx1:Int) (go1:Int→Option Int) (gb5:Bool):Option Int :=
 if gb5=true then some 1 else if x3.Item < 0 then some 1 else if 19 < x3.Item then some 1 else M5K4 x3 a0 gx1 go1
def M5L1B (go1:Int→Option Int) (a0:(List TOp)) (gx1:Int):Option Int :=
 if gx1 < (a0.length:Int) then bind1 (idx a0 gx1) fun x3=>if x3.Tx < 0 then M5K8 x3 a0 gx1 go1 true else if 11 < x3.Tx then M5K8 x3 a0 gx1 go1 true else M5K8 x3 a0 gx1 go1 false else M5K2
def M5L1 (a0:(List TOp)):Nat→Int→Option Int
 | 0,_=>none
 | n+1,gx1=>M5L1B (M5L1 a0 n) a0 gx1
def M5K1 (a0:(List TOp)):Option Int :=
 M5L1 a0 big 0
def M5 (a0:(List TOp)):Option Int :=
 if 200 < (a0.length:Int) then some 2 else M5K1 a0
def M10K2:Option Bool :=
 some true
def M10L1B (go1:Int→Option Bool) (a0:(List TOp)) (a1:(List TOp)) (gx1:Int):Option Bool :=
 if gx1 < (a0.length:Int) then bind1 (idx a0 gx1) fun x2=>bind1 (idx a1 gx1) fun x3=>if x2≠x3 then some false else bind1 (i64 (gx1+1)) fun x5=>go1 x5 else M10K2
def M10L1 (a0:(List TOp)) (a1:(List TOp)):Nat→Int→Option Bool
 | 0,_=>none
 | n+1,gx1=>M10L1B (M10L1 a0 a1 n) a0 a1 gx1
def M10K1 (a0:(List TOp)) (a1:(List TOp)):Option Bool :=
 M10L1 a0 a1 big 0
def M10 (a0:(List TOp)) (a1:(List TOp)):Option Bool :=
 if (a0.length:Int)≠(a1.length:Int) then some false else M10K1 a0 a1
def M11K2:Option Bool :=
 some true
def M11L1B (go1:Int→Option Bool) (a0:(List Int)) (a1:(List Int)) (gx1:Int):Option Bool :=
 if gx1 < (a0.length:Int) then bind1 (idx a0 gx1) fun x2=>bind1 (idx a1 gx1) fun x3=>if x2≠x3 then some false else bind1 (i64 (gx1+1)) fun x5=>go1 x5 else M11K2
def M11L1 (a0:(List Int)) (a1:(List Int)):Nat→Int→Option Bool
 | 0,_=>none
 | n+1,gx1=>M11L1B (M11L1 a0 a1 n) a0 a1 gx1
def M11K1 (a0:(List Int)) (a1:(List Int)):Option Bool :=
 M11L1 a0 a1 big 0
def M11 (a0:(List Int)) (a1:(List Int)):Option Bool :=
 if (a0.length:Int)≠(a1.length:Int) then some false else M11K1 a0 a1
def M6K1 (a0:TPlayed) (a1:TPlayed) (gb1:Bool):Option Bool :=
 if gb1=true then bind1 (M11 a0.Late a1.Late) fun b3=>some b3 else some false
def M6 (a0:TPlayed) (a1:TPlayed):Option Bool :=
 bind1 (M10 a0.Run a1.Run) fun b5=>if b5=true then bind1 (M11 a0.Dead a1.Dead) fun b7=>if b7=true then M6K1 a0 a1 true else M6K1 a0 a1 false else M6K1 a0 a1 false
def M40K1:Option Int :=
 some 0
def M40L1B (go1:Int→Option Int) (a0:(List TL)) (a1:Int) (gx1:Int):Option Int :=
 if gx1 < (a0.length:Int) then bind1 (idx a0 gx1) fun x2=>if x2.Tx=a1 then some x2.Mode else bind1 (i64 (gx1+1)) fun x5=>go1 x5 else M40K1
def M40L1 (a0:(List TL)) (a1:Int):Nat→Int→Option Int
 | 0,_=>none
 | n+1,gx1=>M40L1B (M40L1 a0 a1 n) a0 a1 gx1
def M40 (a0:(List TL)) (a1:Int):Option Int :=
 M40L1 a0 a1 big 0
def M49 (a0:Int) (a1:Int):Option Bool :=
 if (min a0 a1)=1 then some (decide ((max a0 a1)≠5)) else if (min a0 a1)=2 then some (decide ((max a0 a1)=2)) else if (min a0 a1)=3 then some (decide ((max a0 a1)=3)) else some false
def M73K1 (gx1:Int):Option Int :=
 some gx1
def M73K3 (gx4:Int) (go1:Int→Int→Option Int) (gx5:Int):Option Int :=
 bind1 (i64 (gx4 - 1)) fun x1=>go1 gx5 x1
def M73K4 (gx4:Int) (go1:Int→Int→Option Int) (gx3:Int) (gb6:Bool):Option Int :=
 if gb6=true then M73K3 gx4 go1 gx4 else M73K3 gx4 go1 gx3
def M73K6 (gx8:Int) (go2:Bool→Int→Option Int) (gb9:Bool):Option Int :=
 if gb9=true then bind1 (i64 (gx8+1)) fun x3=>go2 true x3 else bind1 (i64 (gx8+1)) fun x2=>go2 false x2
def M73K5 (gb7:Bool) (gx4:Int) (gx8:Int) (a0:Int) (a1:Int) (go2:Bool→Int→Option Int):Option Int :=
 if gb7=true then bind1 (M49 gx4 gx8) fun b5=>if b5=true then bind1 (M49 a0 gx8) fun b7=>if b7=true then bind1 (M49 a1 gx8) fun b9=>if b9=true then M73K6 gx8 go2 true else M73K6 gx8 go2 false else M73K6 gx8 go2 false else M73K6 gx8 go2 true else M73K6 gx8 go2 false
def M73L2B (go2:Bool→Int→Option Int) (gx4:Int) (a0:Int) (a1:Int) (go1:Int→Int→Option Int) (gx3:Int) (gb7:Bool) (gx8:Int):Option Int :=
 if gx8≤5 then M73K5 gb7 gx4 gx8 a0 a1 go2 else M73K4 gx4 go1 gx3 gb7
def M73L2 (gx4:Int) (a0:Int) (a1:Int) (go1:Int→Int→Option Int) (gx3:Int):Nat→Bool→Int→Option Int
 | 0,_,_=>none
 | n+1,gb7,gx8=>M73L2B (M73L2 gx4 a0 a1 go1 gx3 n) gx4 a0 a1 go1 gx3 gb7 gx8
def M73K2 (gx4:Int) (a0:Int) (a1:Int) (go1:Int→Int→Option Int) (gx3:Int):Option Int :=
 M73L2 gx4 a0 a1 go1 gx3 big true 1
def M73L1B (go1:Int→Int→Option Int) (a0:Int) (a1:Int) (gx3:Int) (gx4:Int):Option Int :=
 if 1≤gx4 then M73K2 gx4 a0 a1 go1 gx3 else M73K1 gx3
def M73L1 (a0:Int) (a1:Int):Nat→Int→Int→Option Int
 | 0,_,_=>none
 | n+1,gx3,gx4=>M73L1B (M73L1 a0 a1 n) a0 a1 gx3 gx4
def M73 (a0:Int) (a1:Int):Option Int :=
 M73L1 a0 a1 big 5 5
def M50 (a0:TI) (a1:TL):Option Int :=
 bind1 (M40 a0.Held a1.Tx) fun x3=>if 0 < x3 then bind1 (M73 x3 a1.Mode) fun x6=>some x6 else some a1.Mode
def M68K1:Option Bool :=
 some true
def M68L1B (go1:Int→Option Bool) (a0:TI) (a1:TL) (gx1:Int):Option Bool :=
 if gx1 < (a0.Held.length:Int) then bind1 (idx a0.Held gx1) fun x4=>if x4.Tx≠a1.Tx then bind1 (M50 a0 a1) fun x7=>bind1 (M49 x7 x4.Mode) fun b9=>if b9=true then bind1 (i64 (gx1+1)) fun x11=>go1 x11 else some false else bind1 (i64 (gx1+1)) fun x12=>go1 x12 else M68K1
def M68L1 (a0:TI) (a1:TL):Nat→Int→Option Bool
 | 0,_=>none
 | n+1,gx1=>M68L1B (M68L1 a0 a1 n) a0 a1 gx1
def M68 (a0:TI) (a1:TL):Option Bool :=
 M68L1 a0 a1 big 0
def M69K1 (a0:TI) (a1:TL) (x4:Int) (gl2:(List TL)):Option TI :=
 bind1 (M40 a0.Held a1.Tx) fun x7=>if x7=0 then bind1 (app gl2 ([(⟨a1.Tx,x4⟩:TL)])) fun l12=>some (⟨a0.Item,l12,a0.Queue⟩:TI) else some (⟨a0.Item,gl2,a0.Queue⟩:TI)
def M69K2 (gl5:(List TL)) (x20:TL) (gx3:Int) (go1:Int→(List TL)→Option TI) (gx6:Int):Option TI :=
 bind1 (app gl5 ([(⟨x20.Tx,gx6⟩:TL)])) fun l24=>bind1 (i64 (gx3+1)) fun x25=>go1 x25 l24
def M69L1B (go1:Int→(List TL)→Option TI) (a0:TI) (a1:TL) (x4:Int) (gx3:Int) (gl5:(List TL)):Option TI :=
 if gx3 < (a0.Held.length:Int) then bind1 (idx a0.Held gx3) fun x20=>if x20.Tx=a1.Tx then M69K2 gl5 x20 gx3 go1 x4 else M69K2 gl5 x20 gx3 go1 x20.Mode else M69K1 a0 a1 x4 gl5
def M69L1 (a0:TI) (a1:TL) (x4:Int):Nat→Int→(List TL)→Option TI
 | 0,_,_=>none
 | n+1,gx3,gl5=>M69L1B (M69L1 a0 a1 x4 n) a0 a1 x4 gx3 gl5
def M69 (a0:TI) (a1:TL):Option TI :=
 bind1 (M50 a0 a1) fun x4=>M69L1 a0 a1 x4 big 0 []
def M39K1 (gl3:(List TI)) (gl8:(List Int)):Option ((List TI)×(List Int)) :=
 some (gl3,gl8)
def M39K2 (gx17:Int) (go1:(List TI)→(List Int)→Int→Option ((List TI)×(List Int))) (gl20:(List TI)) (gl25:(List Int)):Option ((List TI)×(List Int)) :=
 bind1 (i64 (gx17+1)) fun x9=>go1 gl20 gl25 x9
def M39K5 (gl11:(List TI)) (gx17:Int) (go1:(List TI)→(List Int)→Int→Option ((List TI)×(List Int))) (gl50:(List Int)) (gx51:Int) (gl53:(List TL)) (gl57:(List TL)):Option ((List TI)×(List Int)) :=
 if 0 < (gl53.length:Int) then bind1 (app gl11 ([(⟨gx51,gl53,gl57⟩:TI)])) fun l22=>M39K2 gx17 go1 l22 gl50 else M39K2 gx17 go1 gl11 gl50
def M39K6 (gl73:(List TL)) (gl66:(List Int)) (gx67:Int) (gl69:(List TL)) (go2:(List Int)→Int→(List TL)→(List TL)→Option ((List TI)×(List Int))):Option ((List TI)×(List Int)) :=
 bind1 (idx gl73 0) fun x26=>bind1 (app gl66 ([x26.Tx])) fun l29=>bind1 (idx gl73 0) fun x79=>bind1 (M69 (⟨gx67,gl69,gl73⟩:TI) x79) fun x82=>bind1 (cut x82.Queue 1 x82.Queue.length) fun l93=>go2 l29 x82.Item x82.Held l93
def M39L2B (go2:(List Int)→Int→(List TL)→(List TL)→Option ((List TI)×(List Int))) (gl11:(List TI)) (gx17:Int) (go1:(List TI)→(List Int)→Int→Option ((List TI)×(List Int))) (gl66:(List Int)) (gx67:Int) (gl69:(List TL)) (gl73:(List TL)):Option ((List TI)×(List Int)) :=
 if 0 < (gl73.length:Int) then bind1 (idx gl73 0) fun x95=>bind1 (M68 (⟨gx67,gl69,gl73⟩:TI) x95) fun b96=>if b96=true then M39K6 gl73 gl66 gx67 gl69 go2 else M39K5 gl11 gx17 go1 gl66 gx67 gl69 gl73 else M39K5 gl11 gx17 go1 gl66 gx67 gl69 gl73
def M39L2 (gl11:(List TI)) (gx17:Int) (go1:(List TI)→(List Int)→Int→Option ((List TI)×(List Int))):Nat→(List Int)→Int→(List TL)→(List TL)→Option ((List TI)×(List Int))
 | 0,_,_,_,_=>none
 | n+1,gl66,gx67,gl69,gl73=>M39L2B (M39L2 gl11 gx17 go1 n) gl11 gx17 go1 gl66 gx67 gl69 gl73
def M39K4 (gl11:(List TI)) (gx17:Int) (go1:(List TI)→(List Int)→Int→Option ((List TI)×(List Int))) (gl16:(List Int)) (x10:TI) (gl41:(List TL)) (gl45:(List TL)):Option ((List TI)×(List Int)) :=
 M39L2 gl11 gx17 go1 big gl16 x10.Item gl41 gl45
def M39K7 (gl11:(List TI)) (gx17:Int) (go1:(List TI)→(List Int)→Int→Option ((List TI)×(List Int))) (gl16:(List Int)) (x10:TI) (gl41:(List TL)) (gl79:(List TL)):Option ((List TI)×(List Int)) :=
 M39K4 gl11 gx17 go1 gl16 x10 gl41 gl79
def M39L3B (go3:(List TL)→Int→Option ((List TI)×(List Int))) (x10:TI) (a1:Int) (gl11:(List TI)) (gx17:Int) (go1:(List TI)→(List Int)→Int→Option ((List TI)×(List Int))) (gl16:(List Int)) (gl41:(List TL)) (gl85:(List TL)) (gx86:Int):Option ((List TI)×(List Int)) :=
 if gx86 < (x10.Queue.length:Int) then bind1 (idx x10.Queue gx86) fun x105=>if x105.Tx≠a1 then bind1 (app gl85 ([x105])) fun l110=>bind1 (i64 (gx86+1)) fun x111=>go3 l110 x111 else bind1 (i64 (gx86+1)) fun x112=>go3 gl85 x112 else M39K7 gl11 gx17 go1 gl16 x10 gl41 gl85
def M39L3 (x10:TI) (a1:Int) (gl11:(List TI)) (gx17:Int) (go1:(List TI)→(List Int)→Int→Option ((List TI)×(List Int))) (gl16:(List Int)) (gl41:(List TL)):Nat→(List TL)→Int→Option ((List TI)×(List Int))
 | 0,_,_=>none
 | n+1,gl85,gx86=>M39L3B (M39L3 x10 a1 gl11 gx17 go1 gl16 gl41 n) x10 a1 gl11 gx17 go1 gl16 gl41 gl85 gx86
def M39K3 (x10:TI) (a1:Int) (gl11:(List TI)) (gx17:Int) (go1:(List TI)→(List Int)→Int→Option ((List TI)×(List Int))) (gl16:(List Int)) (gl41:(List TL)):Option ((List TI)×(List Int)) :=
 M39L3 x10 a1 gl11 gx17 go1 gl16 gl41 big [] 0
def M39K8 (x10:TI) (a1:Int) (gl11:(List TI)) (gx17:Int) (go1:(List TI)→(List Int)→Int→Option ((List TI)×(List Int))) (gl16:(List Int)) (gl90:(List TL)):Option ((List TI)×(List Int)) :=
 M39K3 x10 a1 gl11 gx17 go1 gl16 gl90
def M39L4B (go4:(List TL)→Int→Option ((List TI)×(List Int))) (x10:TI) (a1:Int) (gl11:(List TI)) (gx17:Int) (go1:(List TI)→(List Int)→Int→Option ((List TI)×(List Int))) (gl16:(List Int)) (gl96:(List TL)) (gx97:Int):Option ((List TI)×(List Int)) :=
 if gx97 < (x10.Held.length:Int) then bind1 (idx x10.Held gx97) fun x114=>if x114.Tx≠a1 then bind1 (app gl96 ([x114])) fun l119=>bind1 (i64 (gx97+1)) fun x120=>go4 l119 x120 else bind1 (i64 (gx97+1)) fun x121=>go4 gl96 x121 else M39K8 x10 a1 gl11 gx17 go1 gl16 gl96
def M39L4 (x10:TI) (a1:Int) (gl11:(List TI)) (gx17:Int) (go1:(List TI)→(List Int)→Int→Option ((List TI)×(List Int))) (gl16:(List Int)):Nat→(List TL)→Int→Option ((List TI)×(List Int))
 | 0,_,_=>none
 | n+1,gl96,gx97=>M39L4B (M39L4 x10 a1 gl11 gx17 go1 gl16 n) x10 a1 gl11 gx17 go1 gl16 gl96 gx97
def M39L1B (go1:(List TI)→(List Int)→Int→Option ((List TI)×(List Int))) (a0:(List TI)) (a1:Int) (gl11:(List TI)) (gl16:(List Int)) (gx17:Int):Option ((List TI)×(List Int)) :=
 if gx17 < (a0.length:Int) then bind1 (idx a0 gx17) fun x10=>M39L4 x10 a1 gl11 gx17 go1 gl16 big [] 0 else M39K1 gl11 gl16
def M39L1 (a0:(List TI)) (a1:Int):Nat→(List TI)→(List Int)→Int→Option ((List TI)×(List Int))
 | 0,_,_,_=>none
 | n+1,gl11,gl16,gx17=>M39L1B (M39L1 a0 a1 n) a0 a1 gl11 gl16 gx17
def M39 (a0:(List TI)) (a1:Int):Option ((List TI)×(List Int)) :=
 M39L1 a0 a1 big [] [] 0
def M17K1 (gx4:Int) (go1:Int→(List TI)→(List TOp)→(List (Int×(List TOp)))→(List (Int×Int))→Option ((List TI)×(List (Int×(List TOp)))×(List (Int×Int))×(List TOp))) (gl21:(List TI)) (gl28:(List TOp)) (gl29:(List (Int×(List TOp)))) (gl31:(List (Int×Int))):Option ((List TI)×(List (Int×(List TOp)))×(List (Int×Int))×(List TOp)) :=
 bind1 (i64 (gx4+1)) fun x16=>go1 x16 gl21 gl28 gl29 gl31
def M17L2B (go2:Int→(List TI)→(List TOp)→(List (Int×(List TOp)))→(List (Int×Int))→Option ((List TI)×(List (Int×(List TOp)))×(List (Int×Int))×(List TOp))) (l37:(List TOp)) (rec:(List TI)→(List (Int×(List TOp)))→(List (Int×Int))→(List TOp)→TOp→Option ((List TI)×(List (Int×(List TOp)))×(List (Int×Int))×(List TOp))) (gx4:Int) (go1:Int→(List TI)→(List TOp)→(List (Int×(List TOp)))→(List (Int×Int))→Option ((List TI)×(List (Int×(List TOp)))×(List (Int×Int))×(List TOp))) (gx35:Int) (gl37:(List TI)) (gl44:(List TOp)) (gl45:(List (Int×(List TOp)))) (gl47:(List (Int×Int))):Option ((List TI)×(List (Int×(List TOp)))×(List (Int×Int))×(List TOp)) :=
 if gx35 < (l37.length:Int) then bind1 (idx l37 gx35) fun x39=>bind4 (rec gl37 gl45 gl47 gl44 x39) fun l41 l42 l43 l44=>bind1 (i64 (gx35+1)) fun x57=>go2 x57 l41 l44 l42 l43 else M17K1 gx4 go1 gl37 gl44 gl45 gl47
def M17L2 (l37:(List TOp)) (rec:(List TI)→(List (Int×(List TOp)))→(List (Int×Int))→(List TOp)→TOp→Option ((List TI)×(List (Int×(List TOp)))×(List (Int×Int))×(List TOp))) (gx4:Int) (go1:Int→(List TI)→(List TOp)→(List (Int×(List TOp)))→(List (Int×Int))→Option ((List TI)×(List (Int×(List TOp)))×(List (Int×Int))×(List TOp))):Nat→Int→(List TI)→(List TOp)→(List (Int×(List TOp)))→(List (Int×Int))→Option ((List TI)×(List (Int×(List TOp)))×(List (Int×Int))×(List TOp))
 | 0,_,_,_,_,_=>none
 | n+1,gx35,gl37,gl44,gl45,gl47=>M17L2B (M17L2 l37 rec gx4 go1 n) l37 rec gx4 go1 gx35 gl37 gl44 gl45 gl47
def M17L1B (go1:Int→(List TI)→(List TOp)→(List (Int×(List TOp)))→(List (Int×Int))→Option ((List TI)×(List (Int×(List TOp)))×(List (Int×Int))×(List TOp))) (l6:(List Int)) (rec:(List TI)→(List (Int×(List TOp)))→(List (Int×Int))→(List TOp)→TOp→Option ((List TI)×(List (Int×(List TOp)))×(List (Int×Int))×(List TOp))) (gx4:Int) (gl6:(List TI)) (gl13:(List TOp)) (gl14:(List (Int×(List TOp)))) (gl16:(List (Int×Int))):Option ((List TI)×(List (Int×(List TOp)))×(List (Int×Int))×(List TOp)) :=
 if gx4 < (l6.length:Int) then bind1 (idx l6 gx4) fun x17=>bind1 (msGet gl14 x17) fun l18=>bind1 (idx l18 0) fun x32=>bind1 (app gl13 ([x32])) fun l35=>bind1 (cut l18 1 l18.length) fun l37=>M17L2 l37 rec gx4 go1 big 0 gl6 l35 (mdel gl14 x17) gl16 else some (gl6,gl14,gl16,gl13)
def M17L1 (l6:(List Int)) (rec:(List TI)→(List (Int×(List TOp)))→(List (Int×Int))→(List TOp)→TOp→Option ((List TI)×(List (Int×(List TOp)))×(List (Int×Int))×(List TOp))):Nat→Int→(List TI)→(List TOp)→(List (Int×(List TOp)))→(List (Int×Int))→Option ((List TI)×(List (Int×(List TOp)))×(List (Int×Int))×(List TOp))
 | 0,_,_,_,_,_=>none
 | n+1,gx4,gl6,gl13,gl14,gl16=>M17L1B (M17L1 l6 rec n) l6 rec gx4 gl6 gl13 gl14 gl16
def M17 (rec:(List TI)→(List (Int×(List TOp)))→(List (Int×Int))→(List TOp)→TOp→Option ((List TI)×(List (Int×(List TOp)))×(List (Int×Int))×(List TOp))) (kI:(List TI)) (kA:(List (Int×(List TOp)))) (kB:(List (Int×Int))) (kD:(List TOp)) (a1:Int):Option ((List TI)×(List (Int×(List TOp)))×(List (Int×Int))×(List TOp)) :=
 bind2 (M39 kI a1) fun l1 l6=>M17L1 l6 rec big 0 l1 kD kA kB
def M41K4 (a0:TI) (gl3:(List TL)):Option (TI×Bool) :=
 some ((⟨a0.Item,a0.Held,gl3⟩:TI),false)
def M41K3 (a0:TI) (a1:TL):Option (TI×Bool) :=
 bind1 (M54 a0.Queue) fun l24=>bind1 (xInsR l24 (a0.Queue.length:Int) a1) fun l28=>M41K4 a0 l28
def M41K2 (a0:TI) (a1:TL):Option (TI×Bool) :=
 M41K3 a0 a1
def M41K7 (a0:TI) (gl6:(List TL)):Option (TI×Bool) :=
 some ((⟨a0.Item,a0.Held,gl6⟩:TI),false)
def M41K6 (a0:TI) (a1:TL) (gx4:Int):Option (TI×Bool) :=
 bind1 (M54 a0.Queue) fun l72=>bind1 (xInsR l72 gx4 a1) fun l76=>M41K7 a0 l76
def M41L1B (go1:Int→Option (TI×Bool)) (a0:TI) (a1:TL) (gx7:Int):Option (TI×Bool) :=
 if gx7 < (a0.Queue.length:Int) then bind1 (idx a0.Queue gx7) fun x87=>bind1 (M40 a0.Held x87.Tx) fun x88=>if 0 < x88 then bind1 (i64 (gx7+1)) fun x91=>go1 x91 else M41K6 a0 a1 gx7 else M41K6 a0 a1 gx7
def M41L1 (a0:TI) (a1:TL):Nat→Int→Option (TI×Bool)
 | 0,_=>none
 | n+1,gx7=>M41L1B (M41L1 a0 a1 n) a0 a1 gx7
def M41K5 (a0:TI) (a1:TL):Option (TI×Bool) :=
 M41L1 a0 a1 big 0
def M41K1 (a0:TI) (a1:TL) (gb1:Bool):Option (TI×Bool) :=
 if gb1=true then bind1 (M68 a0 a1) fun b92=>if b92=true then bind1 (M69 a0 a1) fun x94=>some (x94,true) else M41K5 a0 a1 else bind1 (M68 a0 a1) fun b38=>if b38=true then if (a0.Queue.length:Int)=0 then bind1 (M69 a0 a1) fun x41=>some (x41,true) else M41K2 a0 a1 else M41K2 a0 a1
def M41 (a0:TI) (a1:TL):Option (TI×Bool) :=
 bind1 (M40 a0.Held a1.Tx) fun x105=>if 0 < x105 then M41K1 a0 a1 true else M41K1 a0 a1 false
def M18K2 (a2:Int) (a1:Int) (a3:Int) (gl3:(List TI)) (gb7:Bool) (gb8:Bool):Option ((List TI)×Bool×Int) :=
 if gb7=true then some (gl3,gb8,0) else bind1 (app gl3 ([(⟨a2,[(⟨a1,a3⟩:TL)],[]⟩:TI)])) fun l9=>some (l9,true,0)
def M18K3 (gx17:Int) (go1:(List TI)→Bool→Bool→Int→Option ((List TI)×Bool×Int)) (gl20:(List TI)) (gb24:Bool) (gb25:Bool) (gx26:Int) (gl28:(List TL)) (gl32:(List TL)):Option ((List TI)×Bool×Int) :=
 if gb24=true then bind1 (app gl20 ([(⟨gx26,gl28,gl32⟩:TI)])) fun l33=>bind1 (i64 (gx17+1)) fun x37=>go1 l33 true gb25 x37 else bind1 (app gl20 ([(⟨gx26,gl28,gl32⟩:TI)])) fun l25=>bind1 (i64 (gx17+1)) fun x29=>go1 l25 false gb25 x29
def M18L1B (go1:(List TI)→Bool→Bool→Int→Option ((List TI)×Bool×Int)) (a0:(List TI)) (a2:Int) (a1:Int) (a3:Int) (gl11:(List TI)) (gb15:Bool) (gb16:Bool) (gx17:Int):Option ((List TI)×Bool×Int) :=
 if gx17 < (a0.length:Int) then bind1 (idx a0 gx17) fun x20=>if gb15=true then M18K3 gx17 go1 gl11 gb15 gb16 x20.Item x20.Held x20.Queue else if a2≤x20.Item then if a2 < x20.Item then bind1 (app gl11 ([(⟨a2,[(⟨a1,a3⟩:TL)],[]⟩:TI)])) fun l48=>M18K3 gx17 go1 l48 true true x20.Item x20.Held x20.Queue else bind2 (M41 x20 (⟨a1,a3⟩:TL)) fun x52 b57=>M18K3 gx17 go1 gl11 true b57 x52.Item x52.Held x52.Queue else M18K3 gx17 go1 gl11 gb15 gb16 x20.Item x20.Held x20.Queue else M18K2 a2 a1 a3 gl11 gb15 gb16
def M18L1 (a0:(List TI)) (a2:Int) (a1:Int) (a3:Int):Nat→(List TI)→Bool→Bool→Int→Option ((List TI)×Bool×Int)
 | 0,_,_,_,_=>none
 | n+1,gl11,gb15,gb16,gx17=>M18L1B (M18L1 a0 a2 a1 a3 n) a0 a2 a1 a3 gl11 gb15 gb16 gx17
def M18K1 (a0:(List TI)) (a2:Int) (a1:Int) (a3:Int):Option ((List TI)×Bool×Int) :=
 M18L1 a0 a2 a1 a3 big [] false false 0
def M18L2B (go2:Int→Option ((List TI)×Bool×Int)) (a0:(List TI)) (a1:Int) (a2:Int) (a3:Int) (gx35:Int):Option ((List TI)×Bool×Int) :=
 if gx35 < (a0.length:Int) then bind1 (idx a0 gx35) fun x65=>bind1 (M40 x65.Queue a1) fun x67=>if 0 < x67 then some ([],false,10) else bind1 (i64 (gx35+1)) fun x70=>go2 x70 else M18K1 a0 a2 a1 a3
def M18L2 (a0:(List TI)) (a1:Int) (a2:Int) (a3:Int):Nat→Int→Option ((List TI)×Bool×Int)
 | 0,_=>none
 | n+1,gx35=>M18L2B (M18L2 a0 a1 a2 a3 n) a0 a1 a2 a3 gx35
def M18 (a0:(List TI)) (a1:Int) (a2:Int) (a3:Int):Option ((List TI)×Bool×Int) :=
 M18L2 a0 a1 a2 a3 big 0
def M20K1 (gl2:(List TE)):Option (List TE) :=
 some gl2
def M20K2 (gx5:Int) (go1:(List TE)→Int→Option (List TE)) (gl7:(List TE)):Option (List TE) :=
 bind1 (i64 (gx5+1)) fun x2=>go1 gl7 x2
def M20K3 (gx10:Int) (go2:(List TE)→Int→Option (List TE)) (gl12:(List TE)):Option (List TE) :=
 bind1 (i64 (gx10+1)) fun x5=>go2 gl12 x5
def M20K4 (gl9:(List TE)) (gx5:Int) (gx10:Int) (go2:(List TE)→Int→Option (List TE)) (gb13:Bool):Option (List TE) :=
 if gb13=true then bind1 (app gl9 ([(⟨gx5,gx10⟩:TE)])) fun l8=>M20K3 gx10 go2 l8 else M20K3 gx10 go2 gl9
def M20K8 (gx15:Int) (go3:Bool→Int→Option (List TE)) (gb18:Bool):Option (List TE) :=
 if gb18=true then bind1 (i64 (gx15+1)) fun x15=>go3 true x15 else bind1 (i64 (gx15+1)) fun x14=>go3 false x14
def M20K7 (gx15:Int) (go3:Bool→Int→Option (List TE)) (x12:Int) (x10:TI) (gx16:Int) (gb17:Bool):Option (List TE) :=
 if gb17=true then bind1 (i64 (gx15+1)) fun x22=>go3 true x22 else if 0 < x12 then bind1 (idx x10.Queue gx16) fun x17=>bind1 (M50 x10 x17) fun x18=>bind1 (M49 x18 x12) fun b20=>if b20=true then M20K8 gx15 go3 false else M20K8 gx15 go3 true else M20K8 gx15 go3 false
def M20K6 (x10:TI) (gx10:Int) (gb14:Bool) (gx15:Int) (go3:Bool→Int→Option (List TE)) (gx16:Int):Option (List TE) :=
 bind1 (M40 x10.Held gx10) fun x12=>if gb14=true then M20K7 gx15 go3 x12 x10 gx16 true else bind1 (cut x10.Queue 0 gx16) fun l24=>bind1 (M40 l24 gx10) fun x25=>if 0 < x25 then M20K7 gx15 go3 x12 x10 gx16 true else M20K7 gx15 go3 x12 x10 gx16 false
def M20K5 (gx15:Int) (go3:Bool→Int→Option (List TE)) (gb14:Bool) (gx5:Int) (gx10:Int) (x10:TI) (gx16:Int):Option (List TE) :=
 if gx16 < 0 then bind1 (i64 (gx15+1)) fun x29=>go3 gb14 x29 else if gx5=gx10 then bind1 (i64 (gx15+1)) fun x31=>go3 gb14 x31 else M20K6 x10 gx10 gb14 gx15 go3 gx16
def M20K9 (gx15:Int) (go3:Bool→Int→Option (List TE)) (gb14:Bool) (gx5:Int) (gx10:Int) (x10:TI):Option (List TE) :=
 M20K5 gx15 go3 gb14 gx5 gx10 x10 (-1)
def M20K10 (x33:TL) (gx5:Int) (gx15:Int) (go3:Bool→Int→Option (List TE)) (gb14:Bool) (gx10:Int) (x10:TI) (gx19:Int) (go4:Int→Option (List TE)):Option (List TE) :=
 if (decide (x33.Tx=gx5))=true then M20K5 gx15 go3 gb14 gx5 gx10 x10 gx19 else bind1 (i64 (gx19+1)) fun x34=>go4 x34
def M20L4B (go4:Int→Option (List TE)) (x10:TI) (gx5:Int) (gx15:Int) (go3:Bool→Int→Option (List TE)) (gb14:Bool) (gx10:Int) (gx19:Int):Option (List TE) :=
 if gx19 < (x10.Queue.length:Int) then bind1 (idx x10.Queue gx19) fun x33=>M20K10 x33 gx5 gx15 go3 gb14 gx10 x10 gx19 go4 else M20K9 gx15 go3 gb14 gx5 gx10 x10
def M20L4 (x10:TI) (gx5:Int) (gx15:Int) (go3:Bool→Int→Option (List TE)) (gb14:Bool) (gx10:Int):Nat→Int→Option (List TE)
 | 0,_=>none
 | n+1,gx19=>M20L4B (M20L4 x10 gx5 gx15 go3 gb14 gx10 n) x10 gx5 gx15 go3 gb14 gx10 gx19
def M20L3B (go3:Bool→Int→Option (List TE)) (a0:(List TI)) (gx5:Int) (gx10:Int) (gl9:(List TE)) (go2:(List TE)→Int→Option (List TE)) (gb14:Bool) (gx15:Int):Option (List TE) :=
 if gx15 < (a0.length:Int) then bind1 (idx a0 gx15) fun x10=>M20L4 x10 gx5 gx15 go3 gb14 gx10 big 0 else M20K4 gl9 gx5 gx10 go2 gb14
def M20L3 (a0:(List TI)) (gx5:Int) (gx10:Int) (gl9:(List TE)) (go2:(List TE)→Int→Option (List TE)):Nat→Bool→Int→Option (List TE)
 | 0,_,_=>none
 | n+1,gb14,gx15=>M20L3B (M20L3 a0 gx5 gx10 gl9 go2 n) a0 gx5 gx10 gl9 go2 gb14 gx15
def M20L2B (go2:(List TE)→Int→Option (List TE)) (a0:(List TI)) (gx5:Int) (go1:(List TE)→Int→Option (List TE)) (gl9:(List TE)) (gx10:Int):Option (List TE) :=
 if gx10 < 12 then M20L3 a0 gx5 gx10 gl9 go2 big false 0 else M20K2 gx5 go1 gl9
def M20L2 (a0:(List TI)) (gx5:Int) (go1:(List TE)→Int→Option (List TE)):Nat→(List TE)→Int→Option (List TE)
 | 0,_,_=>none
 | n+1,gl9,gx10=>M20L2B (M20L2 a0 gx5 go1 n) a0 gx5 go1 gl9 gx10
def M20L1B (go1:(List TE)→Int→Option (List TE)) (a0:(List TI)) (gl4:(List TE)) (gx5:Int):Option (List TE) :=
 if gx5 < 12 then M20L2 a0 gx5 go1 big gl4 0 else M20K1 gl4
def M20L1 (a0:(List TI)):Nat→(List TE)→Int→Option (List TE)
 | 0,_,_=>none
 | n+1,gl4,gx5=>M20L1B (M20L1 a0 n) a0 gl4 gx5
def M20 (a0:(List TI)):Option (List TE) :=
 M20L1 a0 big [] 0
def M43K3 (gl4:(List (List Bool))):Option (List (List Bool)) :=
 some gl4
def M43K4 (gx6:Int) (go1:(List (List Bool))→Int→Option (List (List Bool))) (gl7:(List (List Bool))):Option (List (List Bool)) :=
 bind1 (i64 (gx6+1)) fun x4=>go1 gl7 x4
def M43K5 (gx9:Int) (go2:(List (List Bool))→Int→Option (List (List Bool))) (gl10:(List (List Bool))):Option (List (List Bool)) :=
 bind1 (i64 (gx9+1)) fun x6=>go2 gl10 x6
def M43L3B (go3:(List (List Bool))→Int→Option (List (List Bool))) (a0:Int) (gx9:Int) (gx6:Int) (go2:(List (List Bool))→Int→Option (List (List Bool))) (gl11:(List (List Bool))) (gx12:Int):Option (List (List Bool)) :=
 if gx12 < a0 then bind1 (idx gl11 gx9) fun x27=>bind1 (idx gl11 gx9) fun x28=>bind1 (idx x28 gx12) fun x29=>if x29=true then bind1 (idx x27 gx12) fun x31=>bind1 (upd x27 gx12 true) fun l32=>bind1 (upd gl11 gx9 l32) fun l33=>bind1 (i64 (gx12+1)) fun x34=>go3 l33 x34 else bind1 (idx gl11 gx9) fun x35=>bind1 (idx x35 gx6) fun x36=>if x36=true then bind1 (idx gl11 gx6) fun x38=>bind1 (idx x38 gx12) fun x39=>bind1 (idx x27 gx12) fun x40=>bind1 (upd x27 gx12 x39) fun l41=>bind1 (upd gl11 gx9 l41) fun l42=>bind1 (i64 (gx12+1)) fun x43=>go3 l42 x43 else bind1 (idx x27 gx12) fun x44=>bind1 (upd x27 gx12 false) fun l45=>bind1 (upd gl11 gx9 l45) fun l46=>bind1 (i64 (gx12+1)) fun x47=>go3 l46 x47 else M43K5 gx9 go2 gl11
def M43L3 (a0:Int) (gx9:Int) (gx6:Int) (go2:(List (List Bool))→Int→Option (List (List Bool))):Nat→(List (List Bool))→Int→Option (List (List Bool))
 | 0,_,_=>none
 | n+1,gl11,gx12=>M43L3B (M43L3 a0 gx9 gx6 go2 n) a0 gx9 gx6 go2 gl11 gx12
def M43L2B (go2:(List (List Bool))→Int→Option (List (List Bool))) (a0:Int) (gx6:Int) (go1:(List (List Bool))→Int→Option (List (List Bool))) (gl8:(List (List Bool))) (gx9:Int):Option (List (List Bool)) :=
 if gx9 < a0 then M43L3 a0 gx9 gx6 go2 big gl8 0 else M43K4 gx6 go1 gl8
def M43L2 (a0:Int) (gx6:Int) (go1:(List (List Bool))→Int→Option (List (List Bool))):Nat→(List (List Bool))→Int→Option (List (List Bool))
 | 0,_,_=>none
 | n+1,gl8,gx9=>M43L2B (M43L2 a0 gx6 go1 n) a0 gx6 go1 gl8 gx9
def M43L1B (go1:(List (List Bool))→Int→Option (List (List Bool))) (a0:Int) (gl5:(List (List Bool))) (gx6:Int):Option (List (List Bool)) :=
 if gx6 < a0 then M43L2 a0 gx6 go1 big gl5 0 else M43K3 gl5
def M43L1 (a0:Int):Nat→(List (List Bool))→Int→Option (List (List Bool))
 | 0,_,_=>none
 | n+1,gl5,gx6=>M43L1B (M43L1 a0 n) a0 gl5 gx6
def M43K2 (a0:Int) (gl3:(List (List Bool))):Option (List (List Bool)) :=
 M43L1 a0 big gl3 0
def M43L4B (go4:(List (List Bool))→Int→Option (List (List Bool))) (a1:(List TE)) (a0:Int) (gl13:(List (List Bool))) (gx14:Int):Option (List (List Bool)) :=
 if gx14 < (a1.length:Int) then bind1 (idx a1 gx14) fun x49=>bind1 (idx gl13 x49.From) fun x64=>bind1 (idx x64 x49.To) fun x65=>bind1 (upd x64 x49.To true) fun l66=>bind1 (upd gl13 x49.From l66) fun l67=>bind1 (i64 (gx14+1)) fun x68=>go4 l67 x68 else M43K2 a0 gl13
def M43L4 (a1:(List TE)) (a0:Int):Nat→(List (List Bool))→Int→Option (List (List Bool))
 | 0,_,_=>none
 | n+1,gl13,gx14=>M43L4B (M43L4 a1 a0 n) a1 a0 gl13 gx14
def M43K1 (a1:(List TE)) (a0:Int) (gl1:(List (List Bool))):Option (List (List Bool)) :=
 M43L4 a1 a0 big gl1 0
def M43L5B (go5:(List (List Bool))→Int→Option (List (List Bool))) (l1:(List (List Bool))) (a0:Int) (a1:(List TE)) (gl15:(List (List Bool))) (gx17:Int):Option (List (List Bool)) :=
 if gx17 < (l1.length:Int) then bind1 (mk a0 false) fun l70=>bind1 (idx gl15 gx17) fun x72=>bind1 (upd gl15 gx17 l70) fun l73=>bind1 (i64 (gx17+1)) fun x75=>go5 l73 x75 else M43K1 a1 a0 gl15
def M43L5 (l1:(List (List Bool))) (a0:Int) (a1:(List TE)):Nat→(List (List Bool))→Int→Option (List (List Bool))
 | 0,_,_=>none
 | n+1,gl15,gx17=>M43L5B (M43L5 l1 a0 a1 n) l1 a0 a1 gl15 gx17
def M43 (a0:Int) (a1:(List TE)):Option (List (List Bool)) :=
 bind1 (mk a0 ([]:(List Bool))) fun l1=>M43L5 l1 a0 a1 big l1 0
def M19K3 (go1:(List Int)→(List TE)→Option (List Int)) (l11:(List Int)) (gl7:(List TE)):Option (List Int) :=
 go1 l11 gl7
def M19K6 (go1:(List Int)→(List TE)→Option (List Int)) (l11:(List Int)) (gl9:(List TE)) (gx10:Int):Option (List Int) :=
 bind1 (cut gl9 gx10 gl9.length) fun l12=>bind1 (clr gl9 gx10 (⟨0,0⟩:TE)) fun l13=>bind1 (cut l13 0 gx10) fun l14=>M19K3 go1 l11 l14
def M19K8 (gx13:Int) (go2:(List TE)→Int→Int→Option (List Int)) (gl11:(List TE)) (gx12:Int) (x17:TE) (gb14:Bool):Option (List Int) :=
 if gb14=true then bind1 (i64 (gx13+1)) fun x23=>go2 gl11 gx12 x23 else bind1 (idx gl11 gx12) fun x19=>bind1 (upd gl11 gx12 x17) fun l20=>bind1 (i64 (gx12+1)) fun x21=>bind1 (i64 (gx13+1)) fun x22=>go2 l20 x21 x22
def M19K7 (gl11:(List TE)) (gx13:Int) (gx5:Int) (go2:(List TE)→Int→Int→Option (List Int)) (gx12:Int):Option (List Int) :=
 bind1 (idx gl11 gx13) fun x17=>if x17.From=gx5 then M19K8 gx13 go2 gl11 gx12 x17 true else M19K8 gx13 go2 gl11 gx12 x17 (decide (x17.To=gx5))
def M19L2B (go2:(List TE)→Int→Int→Option (List Int)) (gx5:Int) (go1:(List Int)→(List TE)→Option (List Int)) (l11:(List Int)) (gl11:(List TE)) (gx12:Int) (gx13:Int):Option (List Int) :=
 if gx13 < (gl11.length:Int) then M19K7 gl11 gx13 gx5 go2 gx12 else M19K6 go1 l11 gl11 gx12
def M19L2 (gx5:Int) (go1:(List Int)→(List TE)→Option (List Int)) (l11:(List Int)):Nat→(List TE)→Int→Int→Option (List Int)
 | 0,_,_,_=>none
 | n+1,gl11,gx12,gx13=>M19L2B (M19L2 gx5 go1 l11 n) gx5 go1 l11 gl11 gx12 gx13
def M19K5 (gx8:Int) (gx5:Int) (go1:(List Int)→(List TE)→Option (List Int)) (l11:(List Int)) (gl4:(List TE)):Option (List Int) :=
 bind1 (i64 (gx8+1)) fun x16=>M19L2 gx5 go1 l11 big gl4 gx8 x16
def M19K4 (go1:(List Int)→(List TE)→Option (List Int)) (l11:(List Int)) (gl4:(List TE)) (gx5:Int) (gx8:Int):Option (List Int) :=
 if gx8=(-1) then M19K3 go1 l11 gl4 else M19K5 gx8 gx5 go1 l11 gl4
def M19K9 (go1:(List Int)→(List TE)→Option (List Int)) (l11:(List Int)) (gl4:(List TE)) (gx5:Int):Option (List Int) :=
 M19K4 go1 l11 gl4 gx5 (-1)
def M19K10 (go1:(List Int)→(List TE)→Option (List Int)) (l11:(List Int)) (gl4:(List TE)) (gx5:Int) (gx15:Int) (go3:Int→Option (List Int)) (gb16:Bool):Option (List Int) :=
 if gb16=true then M19K4 go1 l11 gl4 gx5 gx15 else bind1 (i64 (gx15+1)) fun x30=>go3 x30
def M19L3B (go3:Int→Option (List Int)) (gl4:(List TE)) (gx5:Int) (go1:(List Int)→(List TE)→Option (List Int)) (l11:(List Int)) (gx15:Int):Option (List Int) :=
 if gx15 < (gl4.length:Int) then bind1 (idx gl4 gx15) fun x29=>if x29.From=gx5 then M19K10 go1 l11 gl4 gx5 gx15 go3 true else M19K10 go1 l11 gl4 gx5 gx15 go3 (decide (x29.To=gx5)) else M19K9 go1 l11 gl4 gx5
def M19L3 (gl4:(List TE)) (gx5:Int) (go1:(List Int)→(List TE)→Option (List Int)) (l11:(List Int)):Nat→Int→Option (List Int)
 | 0,_=>none
 | n+1,gx15=>M19L3B (M19L3 gl4 gx5 go1 l11 n) gl4 gx5 go1 l11 gx15
def M19K2 (gl2:(List Int)) (gx5:Int) (gl4:(List TE)) (go1:(List Int)→(List TE)→Option (List Int)):Option (List Int) :=
 bind1 (app gl2 ([gx5])) fun l11=>M19L3 gl4 gx5 go1 l11 big 0
def M19K1 (gl2:(List Int)) (gl4:(List TE)) (go1:(List Int)→(List TE)→Option (List Int)) (gx5:Int):Option (List Int) :=
 if gx5 < 0 then bind1 (xSort gl2) fun l34=>some l34 else M19K2 gl2 gx5 gl4 go1
def M19L4B (go4:Int→Int→Option (List Int)) (a0:Int) (l4:(List (List Bool))) (gl2:(List Int)) (gl4:(List TE)) (go1:(List Int)→(List TE)→Option (List Int)) (gx17:Int) (gx18:Int):Option (List Int) :=
 if gx17 < a0 then bind1 (idx l4 gx17) fun x36=>bind1 (idx x36 gx17) fun x37=>if x37=true then bind1 (i64 (gx17+1)) fun x39=>go4 x39 gx17 else bind1 (i64 (gx17+1)) fun x40=>go4 x40 gx18 else M19K1 gl2 gl4 go1 gx18
def M19L4 (a0:Int) (l4:(List (List Bool))) (gl2:(List Int)) (gl4:(List TE)) (go1:(List Int)→(List TE)→Option (List Int)):Nat→Int→Int→Option (List Int)
 | 0,_,_=>none
 | n+1,gx17,gx18=>M19L4B (M19L4 a0 l4 gl2 gl4 go1 n) a0 l4 gl2 gl4 go1 gx17 gx18
def M19L1B (go1:(List Int)→(List TE)→Option (List Int)) (a0:Int) (gl2:(List Int)) (gl4:(List TE)):Option (List Int) :=
 bind1 (M43 a0 gl4) fun l4=>M19L4 a0 l4 gl2 gl4 go1 big 0 (-1)
def M19L1 (a0:Int):Nat→(List Int)→(List TE)→Option (List Int)
 | 0,_,_=>none
 | n+1,gl2,gl4=>M19L1B (M19L1 a0 n) a0 gl2 gl4
def M19 (a0:Int) (a1:(List TE)):Option (List Int) :=
 bind1 (M42 a1) fun l1=>M19L1 a0 big [] l1
def M21K2 (gx1:Int):Option Int :=
 some gx1
def M21L1B (go1:Int→Int→Option Int) (a0:(List Int)) (gx2:Int) (gx3:Int):Option Int :=
 if gx3 < (a0.length:Int) then bind1 (idx a0 gx3) fun x3=>bind1 (i64 (gx3+1)) fun x4=>go1 (max gx2 x3) x4 else M21K2 gx2
def M21L1 (a0:(List Int)):Nat→Int→Int→Option Int
 | 0,_,_=>none
 | n+1,gx2,gx3=>M21L1B (M21L1 a0 n) a0 gx2 gx3
def M21K1 (a0:(List Int)):Option Int :=
 bind1 (idx a0 0) fun x1=>M21L1 a0 big x1 1
def M21 (a0:(List Int)):Option Int :=
 if (a0.length:Int) < 1 then none else M21K1 a0
def M12K6 (l17:(List Int)) (gl22:(List (Int×Int))) (gl19:(List TOp)) (rec:(List TI)→(List (Int×(List TOp)))→(List (Int×Int))→(List TOp)→TOp→Option ((List TI)×(List (Int×(List TOp)))×(List (Int×Int))×(List TOp))) (gl12:(List TI)) (gl20:(List (Int×(List TOp)))) (go1:(List TI)→(List TOp)→(List (Int×(List TOp)))→(List (Int×Int))→Option ((List TI)×(List (Int×(List TOp)))×(List (Int×Int))×(List TOp))):Option ((List TI)×(List (Int×(List TOp)))×(List (Int×Int))×(List TOp)) :=
 bind1 (M21 l17) fun x20=>bind1 (some (mset gl22 x20 1)) fun l22=>bind1 (app gl19 ([(⟨x20,4,0⟩:TOp)])) fun l25=>bind4 (M17 rec gl12 (mdel gl20 x20) (mset gl22 x20 1) l25 x20) fun l26 l27 l28 l29=>go1 l26 l29 l27 l28
def M12L1B (go1:(List TI)→(List TOp)→(List (Int×(List TOp)))→(List (Int×Int))→Option ((List TI)×(List (Int×(List TOp)))×(List (Int×Int))×(List TOp))) (rec:(List TI)→(List (Int×(List TOp)))→(List (Int×Int))→(List TOp)→TOp→Option ((List TI)×(List (Int×(List TOp)))×(List (Int×Int))×(List TOp))) (gl12:(List TI)) (gl19:(List TOp)) (gl20:(List (Int×(List TOp)))) (gl22:(List (Int×Int))):Option ((List TI)×(List (Int×(List TOp)))×(List (Int×Int))×(List TOp)) :=
 bind1 (M20 gl12) fun l14=>bind1 (M19 12 l14) fun l17=>if (l17.length:Int)=0 then some (gl12,gl20,gl22,gl19) else M12K6 l17 gl22 gl19 rec gl12 gl20 go1
def M12L1 (rec:(List TI)→(List (Int×(List TOp)))→(List (Int×Int))→(List TOp)→TOp→Option ((List TI)×(List (Int×(List TOp)))×(List (Int×Int))×(List TOp))):Nat→(List TI)→(List TOp)→(List (Int×(List TOp)))→(List (Int×Int))→Option ((List TI)×(List (Int×(List TOp)))×(List (Int×Int))×(List TOp))
 | 0,_,_,_,_=>none
 | n+1,gl12,gl19,gl20,gl22=>M12L1B (M12L1 rec n) rec gl12 gl19 gl20 gl22
def M12K5 (rec:(List TI)→(List (Int×(List TOp)))→(List (Int×Int))→(List TOp)→TOp→Option ((List TI)×(List (Int×(List TOp)))×(List (Int×Int))×(List TOp))) (kD:(List TOp)) (kA:(List (Int×(List TOp)))) (a1:TOp) (kB:(List (Int×Int))) (gl4:(List TI)):Option ((List TI)×(List (Int×(List TOp)))×(List (Int×Int))×(List TOp)) :=
 M12L1 rec big gl4 kD (mset kA a1.Tx ([a1])) kB
def M12K4 (kI:(List TI)) (a1:TOp) (kD:(List TOp)) (kA:(List (Int×(List TOp)))) (kB:(List (Int×Int))) (rec:(List TI)→(List (Int×(List TOp)))→(List (Int×Int))→(List TOp)→TOp→Option ((List TI)×(List (Int×(List TOp)))×(List (Int×Int))×(List TOp))) (gx1:Int):Option ((List TI)×(List (Int×(List TOp)))×(List (Int×Int))×(List TOp)) :=
 bind3 (M18 kI a1.Tx a1.Item gx1) fun l75 b80 x81=>if b80=true then bind1 (app kD ([a1])) fun l104=>some (l75,kA,kB,l104) else M12K5 rec kD kA a1 kB l75
def M12K3 (a1:TOp) (kI:(List TI)) (kD:(List TOp)) (kA:(List (Int×(List TOp)))) (kB:(List (Int×Int))) (rec:(List TI)→(List (Int×(List TOp)))→(List (Int×Int))→(List TOp)→TOp→Option ((List TI)×(List (Int×(List TOp)))×(List (Int×Int))×(List TOp))):Option ((List TI)×(List (Int×(List TOp)))×(List (Int×Int))×(List TOp)) :=
 if a1.Kind=2 then M12K4 kI a1 kD kA kB rec 5 else M12K4 kI a1 kD kA kB rec 3
def M12K2 (a1:TOp) (kD:(List TOp)) (rec:(List TI)→(List (Int×(List TOp)))→(List (Int×Int))→(List TOp)→TOp→Option ((List TI)×(List (Int×(List TOp)))×(List (Int×Int))×(List TOp))) (kI:(List TI)) (kA:(List (Int×(List TOp)))) (kB:(List (Int×Int))):Option ((List TI)×(List (Int×(List TOp)))×(List (Int×Int))×(List TOp)) :=
 if 2 < a1.Kind then bind1 (app kD ([a1])) fun l122=>bind4 (M17 rec kI kA kB l122 a1.Tx) fun l124 l125 l126 l127=>some (l124,l125,l126,l127) else M12K3 a1 kI kD kA kB rec
def M12K1 (kA:(List (Int×(List TOp)))) (a1:TOp) (kI:(List TI)) (kB:(List (Int×Int))) (kD:(List TOp)) (rec:(List TI)→(List (Int×(List TOp)))→(List (Int×Int))→(List TOp)→TOp→Option ((List TI)×(List (Int×(List TOp)))×(List (Int×Int))×(List TOp))):Option ((List TI)×(List (Int×(List TOp)))×(List (Int×Int))×(List TOp)) :=
 if (mhas kA a1.Tx)=true then bind1 (msGet kA a1.Tx) fun l160=>bind1 (app l160 ([a1])) fun l162=>some (kI,(mset kA a1.Tx l162),kB,kD) else M12K2 a1 kD rec kI kA kB
def M12a (rec:(List TI)→(List (Int×(List TOp)))→(List (Int×Int))→(List TOp)→TOp→Option ((List TI)×(List (Int×(List TOp)))×(List (Int×Int))×(List TOp))) (kI:(List TI)) (kA:(List (Int×(List TOp)))) (kB:(List (Int×Int))) (kD:(List TOp)) (a1:TOp):Option ((List TI)×(List (Int×(List TOp)))×(List (Int×Int))×(List TOp)) :=
 if 0 < (mget kB a1.Tx 0) then some (kI,kA,kB,kD) else M12K1 kA a1 kI kB kD rec
def M12b:Nat→(List TI)→(List (Int×(List TOp)))→(List (Int×Int))→(List TOp)→TOp→Option ((List TI)×(List (Int×(List TOp)))×(List (Int×Int))×(List TOp))
 | 0,_,_,_,_,_=>none
 | n+1,kI,kA,kB,kD,a1=>M12a (M12b n) kI kA kB kD a1
def M12 (kI:(List TI)) (kA:(List (Int×(List TOp)))) (kB:(List (Int×Int))) (kD:(List TOp)) (a1:TOp):Option ((List TI)×(List (Int×(List TOp)))×(List (Int×Int))×(List TOp)):=M12b big kI kA kB kD a1
def M7K2 (gl10:(List TOp)) (gl15:(List Int)) (gl17:(List Int)):Option TPlayed :=
 some (⟨gl10,gl15,gl17⟩:TPlayed)
def M7K3 (gl12:(List (Int×(List TOp)))) (gx18:Int) (gl22:(List Int)) (go1:Int→(List Int)→(List Int)→Option TPlayed) (gl24:(List Int)):Option TPlayed :=
 if (mhas gl12 gx18)=true then bind1 (app gl22 ([gx18])) fun l19=>bind1 (i64 (gx18+1)) fun x20=>go1 x20 gl24 l19 else bind1 (i64 (gx18+1)) fun x21=>go1 x21 gl24 gl22
def M7L1B (go1:Int→(List Int)→(List Int)→Option TPlayed) (gl11:(List (Int×Int))) (gl12:(List (Int×(List TOp)))) (gl10:(List TOp)) (gx18:Int) (gl20:(List Int)) (gl22:(List Int)):Option TPlayed :=
 if gx18 < 12 then if 0 < (mget gl11 gx18 0) then bind1 (app gl20 ([gx18])) fun l25=>M7K3 gl12 gx18 gl22 go1 l25 else M7K3 gl12 gx18 gl22 go1 gl20 else M7K2 gl10 gl20 gl22
def M7L1 (gl11:(List (Int×Int))) (gl12:(List (Int×(List TOp)))) (gl10:(List TOp)):Nat→Int→(List Int)→(List Int)→Option TPlayed
 | 0,_,_,_=>none
 | n+1,gx18,gl20,gl22=>M7L1B (M7L1 gl11 gl12 gl10 n) gl11 gl12 gl10 gx18 gl20 gl22
def M7K1 (gl3:(List TI)) (gl10:(List TOp)) (gl11:(List (Int×Int))) (gl12:(List (Int×(List TOp)))):Option TPlayed :=
 M7L1 gl11 gl12 gl10 big 0 [] []
def M7L2B (go2:Int→(List TI)→(List TOp)→(List (Int×Int))→(List (Int×(List TOp)))→Option TPlayed) (a0:(List TOp)) (gx26:Int) (gl28:(List TI)) (gl35:(List TOp)) (gl36:(List (Int×Int))) (gl37:(List (Int×(List TOp)))):Option TPlayed :=
 if gx26 < (a0.length:Int) then bind1 (idx a0 gx26) fun x27=>bind4 (M12 gl28 gl37 gl36 gl35 x27) fun l29 l30 l31 l32=>bind1 (i64 (gx26+1)) fun x45=>go2 x45 l29 l32 l31 l30 else M7K1 gl28 gl35 gl36 gl37
def M7L2 (a0:(List TOp)):Nat→Int→(List TI)→(List TOp)→(List (Int×Int))→(List (Int×(List TOp)))→Option TPlayed
 | 0,_,_,_,_,_=>none
 | n+1,gx26,gl28,gl35,gl36,gl37=>M7L2B (M7L2 a0 n) a0 gx26 gl28 gl35 gl36 gl37
def M7 (a0:(List TOp)):Option TPlayed :=
 M7L2 a0 big 0 [] [] [] []
def M3K2 (gb3:Bool):Option Bool :=
 some gb3
def M3K1 (x1:TPlayed) (x8:Int) (x16:Int) (a0:(List TOp)) (gb1:Bool):Option Bool :=
 if gb1=true then bind1 (M6 x1 (⟨[],[],[]⟩:TPlayed)) fun b84=>if b84=true then some (decide (x8=x16)) else some false else bind1 (M7 a0) fun x49=>bind1 (M6 x1 x49) fun b62=>if b62=true then M3K2 (decide (x8=0)) else M3K2 false
def M3 (a0:(List TOp)):Option Bool :=
 bind2 (M4 a0) fun x1 x8=>bind1 (M5 a0) fun x16=>if x16≠0 then M3K1 x1 x8 x16 a0 true else M3K1 x1 x8 x16 a0 false
end Go.Proofs.YtlecphianicdhaaGreat
