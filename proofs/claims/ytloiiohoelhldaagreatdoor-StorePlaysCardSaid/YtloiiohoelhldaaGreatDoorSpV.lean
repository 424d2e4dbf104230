import Derived.Test.YtloiiohoelhldaaGreatDoorSpM
import Derived.Test.YtloiiohoelhldaaGreatDoorChecked
import Derived.KernelRfl
import Derived.Test.YtloiiohoelhldaaGreatDoorZe
namespace Go.Proofs.YtloiiohoelhldaaGreatDoor
open Go.S
set_option maxRecDepth 100000
section
variable{P:Program}{n:Nat}{C:World→Prop}{fs:Fr}
theorem cja{ops0:Array Oper}{c1:Operand}{x1:Code}{Q2:Exit→Act→World→Prop}(h:E .normal Q2 n C fs)(e0:val fs c1=some (.bool false):=by exact rfl):L P ops0 (Exit.then (((.cond c1 x1 .skip):Code).wp P Q2) Q2) n C [] fs:=ln (a6 e0 (aN h))
theorem cjb{ops0:Array Oper}{c1:Operand}{id2:Nat}{l2:List Oper}{yy2 y1:Code}{Q2:Exit→Act→World→Prop}(h:L P l2.toArray (Exit.then ((yy2:Code).wp P Q2) Q2) n C l2 fs)(e0:val fs c1=some (.bool true):=by exact rfl):L P ops0 (Exit.then (((.cond c1 (.seq (.region id2 l2.toArray false) yy2) y1):Code).wp P Q2) Q2) n C [] fs:=ln (aX e0 (sr h))
theorem cjc{ops0:Array Oper}{Q1:Exit→Act→World→Prop}(h:E .ret Q1 n C fs)  : L P ops0 (Exit.then ((.ret:Code).wp P Q1) Q1) n C [] fs:=ln (bK h)
theorem cjd{KK2:Act→World→Prop}{id4 m3:Nat}{Q4:Exit→Act→World→Prop}{JL3:Nat→Fr→(World→Prop)→Prop}{c0:Operand}{x0:Code}(h:E .normal Q4 n C fs)(e0:val fs c0=some (.bool false):=by exact rfl):W P (Exit.then KK2 (KL (Exit.inBlock id4 Q4) n JL3 m3)) n C (.cond c0 x0 (.exit id4)) fs:=a6 e0 (cr (bH (dA (bJ h))))
theorem cje{ops0:Array Oper}{c2:Operand}{y2 yy7 y5:Code}{id6 id7:Nat}{l7:List Oper}{Q5:Exit→Act→World→Prop}(h:L P l7.toArray (Exit.then ((yy7:Code).wp P (Exit.inBlock id6 (Exit.then ((y5:Code).wp P Q5) Q5))) (Exit.inBlock id6 (Exit.then ((y5:Code).wp P Q5) Q5))) n C l7 fs)(e0:val fs c2=some (.bool true):=by exact rfl):L P ops0 (Exit.then (((.seq (.cond c2 .skip y2) (.seq (.block id6 (.seq (.region id7 l7.toArray false) yy7)) y5)):Code).wp P Q5) Q5) n C [] fs:=ln (aE (aX e0 (aN (ab (aE (W.block (sr h)))))))
theorem cjf{ops0:Array Oper}{id2:Nat}{l2:List Oper}{yy2 y1:Code}{Q1:Exit→Act→World→Prop}(h:L P l2.toArray (Exit.then ((yy2:Code).wp P (Exit.then ((y1:Code).wp P Q1) Q1)) (Exit.then ((y1:Code).wp P Q1) Q1)) n C l2 fs)  : L P ops0 (Exit.then (((.seq (.seq (.region id2 l2.toArray false) yy2) y1):Code).wp P Q1) Q1) n C [] fs:=ln (aE (sr h))
theorem cjg{ops0:Array Oper}{c1:Operand}{x1 y1:Code}{Q1:Exit→Act→World→Prop}(h:W P Q1 n C x1 fs)(e0:val fs c1=some (.bool true):=by exact rfl):L P ops0 (Exit.then (((.cond c1 x1 y1):Code).wp P Q1) Q1) n C [] fs:=ln (aX e0 h)
theorem cjh{ops0:Array Oper}{KK2:Act→World→Prop}{Q2:Exit→Act→World→Prop}(h:E .ret Q2 n C fs)  : L P ops0 (Exit.then ((.ret:Code).wp P (Exit.then KK2 Q2)) (Exit.then KK2 Q2)) n C [] fs:=ln (bK (aM h))
theorem cji{ops0:Array Oper}{c1:Operand}{x1 yy4:Code}{id4:Nat}{l4:List Oper}{Q4:Exit→Act→World→Prop}(h:L P l4.toArray (Exit.then ((yy4:Code).wp P Q4) Q4) n C l4 fs)(e0:val fs c1=some (.bool false):=by exact rfl):L P ops0 (Exit.then (((.cond c1 x1 .skip):Code).wp P (Exit.then (((.seq (.region id4 l4.toArray false) yy4):Code).wp P Q4) Q4)) (Exit.then (((.seq (.region id4 l4.toArray false) yy4):Code).wp P Q4) Q4)) n C [] fs:=ln (a6 e0 (aN (ab (sr h))))
theorem cjj{id0 id2:Nat}{l2:List Oper}{Q2:Exit→Act→World→Prop}(h:L P l2.toArray Q2 n C l2 fs)  : E .normal (Exit.inBlock id0 (Exit.then (((.region id2 l2.toArray false):Code).wp P Q2) Q2)) n C fs:=aq (ab (ah h))
theorem cjk{id0 id3 m2:Nat}{KK1:Act→World→Prop}{Q4:Exit→Act→World→Prop}{JS4:Fr→(World→Prop)→Prop}{JL2:Nat→Fr→(World→Prop)→Prop}(h:E .ret Q4 n C fs)  : E .ret (Exit.inBlock id0 (Exit.then KK1 (KL (Exit.inBlock id3 (KS Q4 n JS4)) n JL2 m2))) n C fs:=ak (aM (cH (ak (bW h))))
theorem cjl{ops0:Array Oper}{c1:Operand}{x1 x4 y4:Code}{Q4:Exit→Act→World→Prop}(h:W P (Exit.then ((y4:Code).wp P Q4) Q4) n C x4 fs)(e0:val fs c1=some (.bool false):=by exact rfl):L P ops0 (Exit.then (((.cond c1 x1 .skip):Code).wp P (Exit.then (((.seq x4 y4):Code).wp P Q4) Q4)) (Exit.then (((.seq x4 y4):Code).wp P Q4) Q4)) n C [] fs:=ln (a6 e0 (aN (ab (aE h))))
theorem cjm{ops0:Array Oper}{x1 y1:Code}{Q1:Exit→Act→World→Prop}(h:W P (Exit.then ((y1:Code).wp P Q1) Q1) n C x1 fs)  : L P ops0 (Exit.then (((.seq x1 y1):Code).wp P Q1) Q1) n C [] fs:=ln (aE h)
theorem cjn{ops0:Array Oper}{c1:Operand}{x1 yy2:Code}{id2:Nat}{l2:List Oper}{Q2:Exit→Act→World→Prop}(h:L P l2.toArray (Exit.then ((yy2:Code).wp P Q2) Q2) n C l2 fs)(e0:val fs c1=some (.bool false):=by exact rfl):L P ops0 (Exit.then (((.cond c1 x1 (.seq (.region id2 l2.toArray false) yy2)):Code).wp P Q2) Q2) n C [] fs:=ln (a6 e0 (sr h))
theorem cjo{id0 id3 m2:Nat}{Q4:Exit→Act→World→Prop}{JS4 JS1:Fr→(World→Prop)→Prop}{JL2:Nat→Fr→(World→Prop)→Prop}(h:E .ret Q4 n C fs)  : E .ret (Exit.inBlock id0 (KS (KL (Exit.inBlock id3 (KS Q4 n JS4)) n JL2 m2) n JS1)) n C fs:=ak (bW (cH (ak (bW h))))
theorem cjp{ops0:Array Oper}{id1:Nat}{cc1:Code}{Q1:Exit→Act→World→Prop}(h:W P (Exit.inBlock id1 Q1) n C cc1 fs)  : L P ops0 (Exit.then (((.block id1 cc1):Code).wp P Q1) Q1) n C [] fs:=ln (W.block h)
end
abbrev tcg:=fun(p0:Nat→Nat)=>fzr (PR p0)
abbrev ta:=fun(p0:Nat→Nat) (p1:Int) (p2:Nat→Nat) (p3:TStore81) (p4:Nat→List Value)=>(.obj (p0 p1.toNat) (List.flatten [(zr (tcg p2) (fun _=>[]) p3.logs_).flatten,[.int .i64 p3.half_],[.int .i64 p3.gen_],[.bool p3.down_],[.int .i64 p3.now_],(zr (fzr SR) (fun _=>[]) p3.first_).flatten,[(gv (p4 p1.toNat) 0)]]) 81:As)
abbrev tb:=fun(p0:Nat→Nat) (p1:Nat→Nat) (p2:Nat→Nat) (p3:Nat→List Value) (p4:List TStore) (p5:Int) (p6:TStore) (p7:Value) (p8:List Int) (p9:Value) (p10:List Int)=>([kZ p0 p1 p2 p3 p4 (p5.toNat::[]),.obj (p0 p5.toNat) (List.flatten [(zr (tcg p1) (fun _=>[]) p6.logs_).flatten,[.int .i64 p6.half_],[.int .i64 p6.gen_],[.bool p6.down_],[.int .i64 p6.now_],(zr qn (qN (p3 p5.toNat) 2) p6.items_).flatten,[(gv (p3 p5.toNat) 0)],[(gv (p3 p5.toNat) 1)]]) 67,.ss (zs sd0 (fun _=>[]) p6.logs_),.ss (zs (zv 76 2 TVersion.row) (qN (p3 p5.toNat) 2) p6.items_),.sl p7 127 1 (p8.map (PR p2)),.sl p9 127 1 (p10.map (PR p2)),.sl (gv (p3 p5.toNat) 1) 127 1 (p6.over_.map (PR p2)),.sl (gv (p3 p5.toNat) 0) 127 1 (p6.active_.map (PR p2))]:List As)
abbrev tc:=fun(p0:Nat→List Value) (p1:Int)=>gv (p0 p1.toNat) 0
abbrev td:=fun(p0:Nat→List Value) (p1:Int)=>gv (p0 p1.toNat) 1
abbrev tap:=List.replicate 20 ([]:(List UInt8))
abbrev te:=([[.int .i64 0],[.bool false],(zr (fzr SR) (fun _=>[]) tap).flatten]:List (List Value))
abbrev tf:=fun(p0:Int)=>p0.toNat::[]
abbrev tg:=fun(p0:Nat) (p1:TWish)=>(.obj p0 [.int .i64 p1.Kind,.int .i64 p1.Tx,.int .i64 p1.Item,st p1.Text] 36:As)
abbrev th:=fun(p0:TStore81)=>(.ss (zs sd0 (fun _=>[]) p0.first_):As)
abbrev ti:=zv 76 2 TVersion.row
abbrev tj:=fun(p0:Nat→Nat) (p1:Int) (p2:Nat→Nat) (p3:TLog)=>(.obj (p0 p1.toNat) [VP p2 p3.d_,.int .i64 p3.from_,.int .i64 p3.size_,.int .i64 p3.epoch_,.int .i64 p3.at_,.int .i64 p3.seq_,.bool p3.fell_] 108:As)
abbrev tk:=fun(p0:Nat→List Value) (p1:Int)=>qN (p0 p1.toNat) 2
abbrev tl:=fun(p0:Value) (p1:(List (List UInt8)))=>(.sl p0 9 1 (p1.map SR):As)
abbrev tm:=fun(p0:Timage)=>([[.int .i64 p0.gen_],[.bool p0.whole_],(zr (fzr SR) (fun _=>[]) p0.values_).flatten]:List (List Value))
abbrev tn:=fun(p0:Nat→Nat) (p1:Int) (p2:Nat→Nat) (p3:TLog122)=>(.obj (p0 p1.toNat) [VP p2 p3.d_,.int .i64 p3.from_,.int .i64 p3.size_,.int .i64 p3.epoch_,.int .i64 p3.at_,.int .i64 p3.seq_,.bool p3.fell_] 122:As)
abbrev tp:=fun(p0:Nat)=>(.obj p0 [.int .i64 0,st []] 41:As)
abbrev tq:=fun(p0:Value) (p1:List Int) (p2:Nat→Nat)=>(.sl p0 127 1 (p1.map (PR p2)):As)
abbrev tr:=fun(p0:Int) (p1:Bool) (p2:(List (List UInt8)))=>([[.int .i64 p0],[.bool p1],(zr (fzr SR) (fun _=>[]) p2).flatten]:List (List Value))
abbrev ts:=fun(p0:Nat→List Value) (p1:Int)=>gv (p0 p1.toNat) 2
abbrev tt:=fun(p0:Nat→Nat) (p1:Int) (p2:Nat→Nat) (p3:TStore) p4 (p5:(List (List TVersion))) (p6:Value) (p7:Value)=>(.obj (p0 p1.toNat) (List.flatten [(zr (tcg p2) (fun _=>[]) p3.logs_).flatten,[.int .i64 p3.half_],[.int .i64 p3.gen_],[.bool p3.down_],[.int .i64 p3.now_],(zr qn p4 p5).flatten,[p6],[p7]]) 67:As)
abbrev tu:=fun(p0:Nat) (p1:List UInt8)=>(.sl (sv p0 1) 9 1 (([p1]).map SR):As)
abbrev tv:=(.ss (zs sd0 (fun _=>[]) tap):As)
abbrev tw:=fun(p0:TStore81) (p1:Nat→Nat)=>p0.deals_.map (PR p1)
abbrev tx:=fun(p0:Nat→Nat) (p1:Nat→List Value) (p2:List TDisk)=>jX p0 p1 p2 []
abbrev ty:=fun(p0:Nat→Nat) (p1:Nat→Nat) (p2:Nat→List Value) (p3:List TLog)=>jV p0 p1 p2 p3 []
abbrev tz:=fun(p0:Nat→List Value) (p1:Int)=>gv (p0 p1.toNat) 3
abbrev tA:=fun(p0:Nat→Nat) (p1:Nat→List Value) (p2:List TDeal)=>zP p0 p1 p2 []
abbrev tB:=fun(p0:Nat→Nat) (p1:Nat→Nat) (p2:Nat→List Value) (p3:List TLog122)=>xL p0 p1 p2 p3 []
abbrev tC:=fun(p0:Nat→Nat) (p1:Nat→List Value) (p2:List Ttx)=>yV p0 p1 p2 []
abbrev tD:=fun(p0:Nat) (p1:(List (List UInt8)))=>(.obj p0 ((p1.map SR).flatten) 46:As)
abbrev tE:=fun(p0:Nat→Nat) (p1:Int) (p2:Nat→Nat) (p3:List Int) (p4:Int) (p5:Int) (p6:Bool) (p7:Int) (p8:(List (List UInt8))) (p9:Value)=>(.obj (p0 p1.toNat) (List.flatten [(zr (tcg p2) (fun _=>[]) p3).flatten,[.int .i64 p4],[.int .i64 p5],[.bool p6],[.int .i64 p7],(zr (fzr SR) (fun _=>[]) p8).flatten,[p9]]) 81:As)
abbrev tF:=fun(p0:Nat→Nat) (p1:Nat→List Value) (p2:List TDisk51)=>yS p0 p1 p2 []
abbrev tG:=fun(p0:Timage)=>(.ss (zs sd0 (fun _=>[]) p0.values_):As)
abbrev tH:=fun(p0:Int)=>([.int .i64 p0]:List Value)
abbrev tI:=fun(p0:Ttx)=>(.ss (zs sd0 (fun _=>[]) p0.texts_):As)
abbrev tJ:=([[.int .i64 0],[.int .i64 0],[.bool false],[.int .i64 0],(zr qn (fun _=>[vz]) (List.replicate 20 ([]:(List TVersion)))).flatten,[.slice none 0 0],[.slice none 0 0]]:List (List Value))
abbrev tK:=fun(p0:Nat)=>(.obj p0 ((tap.map SR).flatten) 46:As)
abbrev tL:=fun(p0:Ttx)=>zr (fzr SR) (fun _=>[]) p0.texts_
abbrev tM:=List.replicate 20 ([]:(List TVersion))
abbrev tN:=([.int .i64 0,st [],.int .i64 0]:List Value)
abbrev tO:=(.slice none 0 0:Value)
abbrev tcf:=fun(p0:Nat→Nat) (p1:Int) (p2:Nat→Nat) (p3:TStore) (p4:Nat→List Value)=>(.obj (p0 p1.toNat) (List.flatten [(zr (fzr (PR p2)) (fun _=>[]) p3.logs_).flatten,[.int .i64 p3.half_],[.int .i64 p3.gen_],[.bool p3.down_],[.int .i64 p3.now_],(zr qn (tk p4 p1) p3.items_).flatten,[(tc p4 p1)],[(td p4 p1)]]) 67:As)
abbrev tP:=fun(p0:Nat→Nat) (p1:Int) (p2:Nat→Nat) (p3:TStore) (p4:Nat→List Value) (p5:Nat→Nat)=>([tcf p0 p1 p2 p3 p4,.ss (zs sd0 (fun _=>[]) p3.logs_),.ss (zs ti (tk p4 p1) p3.items_),.sl (tc p4 p1) 127 1 (p3.active_.map (PR p5)),.sl (td p4 p1) 127 1 (p3.over_.map (PR p5))]:List As)
abbrev tQ:=fun(p0:Nat→Nat) (p1:Int) (p2:Nat→Nat) (p3:TStore) (p4:Nat→List Value) (p5:Nat→Nat) (p6:List TStore)=>([tcf p0 p1 p2 p3 p4,.sl (tc p4 p1) 127 1 (p3.active_.map (PR p5)),.sl (td p4 p1) 127 1 (p3.over_.map (PR p5)),.ss (zs sd0 (fun _=>[]) p3.logs_),.ss (zs ti (tk p4 p1) p3.items_),kZ p0 p2 p5 p4 p6 (tf p1)]:List As)
abbrev taI:=fun(p0:Nat→List Value) (p1:Int) p2 (p3:Nat→Nat)=>(.sl (tc p0 p1) 143 1 (tw p2 p3):As)
abbrev tR:=fun(p0:Nat) (p1:Nat→Nat) (p2:Int) (p3:Nat) (p4:Nat→Nat) (p5:Int) (p6:Nat→Nat) (p7:TStore81) (p8:Nat→List Value) (p9:Value) (p10:List Int)=>([.obj p0 [VP p1 p2] 143,.obj p3 [VP p4 p5] 32,ta p4 p5 p6 p7 p8,.ss (zs sd0 (fun _=>[]) p7.logs_),th p7,.sl p9 143 1 (p10.map (PR p1)),taI p8 p5 p7 p1]:List As)
abbrev tS:=fun(p0:World) (p1:List Nat) (p2:Nat→Nat) (p3:Int) (p4:Nat→Nat) (p5:TStore) (p6:Nat→List Value) (p7:Nat→Nat) (p8:List TStore) (p9:Nat→List Value) (p10:List Ttx)=>Cls p0 p1 [tcf p2 p3 p4 p5 p6,.sl (tc p6 p3) 127 1 (p5.active_.map (PR p7)),.sl (td p6 p3) 127 1 (p5.over_.map (PR p7)),.ss (zs sd0 (fun _=>[]) p5.logs_),.ss (zs ti (tk p6 p3) p5.items_),kZ p2 p4 p7 p6 p8 (tf p3),tC p7 p9 p10]
abbrev taR:=fun(p0:Ttx) (p1:Nat→List Value) (p2:Int)=>List.flatten [[.int .i64 p0.id_],[.int .i64 p0.from_],[.int .i64 p0.at_],[(tc p1 p2)],[(td p1 p2)],(tL p0).flatten,[.bool p0.in_],[.bool p0.out_]]
abbrev tT:=fun(p0:Nat→Nat) (p1:Int) p2 (p3:Nat→List Value)=>(.obj (p0 p1.toNat) (taR p2 p3 p1) 130:As)
abbrev tU:=fun(p0:Nat→Nat) (p1:Int) (p2:Nat→Nat) (p3:TStore) (p4:Int) (p5:Nat→List Value)=>(.obj (p0 p1.toNat) (List.flatten [(zr (tcg p2) (fun _=>[]) p3.logs_).flatten,[.int .i64 p3.half_],[.int .i64 p3.gen_],[.bool p3.down_],(tH p4),(zr qn (tk p5 p1) p3.items_).flatten,[(tc p5 p1)],[(td p5 p1)]]) 67:As)
abbrev tV:=fun(p0:Nat→List Value) (p1:Int) (p2:TDisk51) (p3:Nat→Nat) (p4:List TDisk51)=>([.sl (td p0 p1) 9 1 (p2.Safe.map SR),.sl (ts p0 p1) 3 1 (p2.late_.map I),.sl (tz p0 p1) 9 1 (p2.texts_.map SR),yS p3 p0 p4 (tf p1)]:List As)
abbrev tW:=fun(p0:Nat→Nat) (p1:Int) (p2:TDeal) (p3:Nat→List Value)=>(.obj (p0 p1.toNat) [.int .i64 p2.id_,.int .i64 p2.from_,.int .i64 p2.at_,.bool p2.over_,(tc p3 p1),(td p3 p1)] 149:As)
abbrev tX:=fun(p0:Nat→Nat) (p1:Int) (p2:Nat→Nat) (p3:TStore) (p4:Nat→List Value) (p5:Value)=>(.obj (p0 p1.toNat) (List.flatten [(zr (tcg p2) (fun _=>[]) p3.logs_).flatten,[.int .i64 p3.half_],[.int .i64 p3.gen_],[.bool p3.down_],[.int .i64 p3.now_],(zr qn (tk p4 p1) p3.items_).flatten,[p5],[(td p4 p1)]]) 67:As)
abbrev tY:=fun(p0:Nat) (p1:TStoreDeed) (p2:Nat→List Value) (p3:Int)=>(.obj p0 [.int .i64 p1.Wish.Kind,.int .i64 p1.Wish.Tx,.int .i64 p1.Wish.Item,st p1.Wish.Text,.int .i64 p1.Fuse,tc p2 p3] 39:As)
abbrev tZ:=fun(p0:Nat→Nat) (p1:Int) (p2:Nat→Nat) (p3:TStore81) (p4:Nat→List Value) (p5:Nat→Nat)=>([ta p0 p1 p2 p3 p4,.ss (zs sd0 (fun _=>[]) p3.logs_),th p3,taI p4 p1 p3 p5]:List As)
abbrev taW:=fun(p0:Nat→Nat) (p1:Int) (p2:Nat→List Value) (p3:TDisk)=>(.obj (p0 p1.toNat) [(tc p2 p1),(td p2 p1),(ts p2 p1),.int .i64 p3.left_] 57:As)
abbrev tbz:=fun(p0:Nat→List Value) (p1:Int) (p2:TDisk)=>(.sl (td p0 p1) 9 1 (p2.seen_.map SR):As)
abbrev taU:=fun(p0:Nat→List Value) (p1:Int) (p2:TDisk)=>(.sl (ts p0 p1) 91 2 (p2.late_.map Twrite.row):As)
abbrev taa:=fun(p0:Nat→Nat) (p1:Int) (p2:Nat→List Value) (p3:TDisk) (p4:List TDisk)=>([taW p0 p1 p2 p3,.sl (tc p2 p1) 9 1 (p3.safe_.map SR),tbz p2 p1 p3,taU p2 p1 p3,jX p0 p2 p4 (tf p1)]:List As)
abbrev tab:=fun(p0:Nat→Nat) (p1:Int) (p2:Nat→List Value) p3 (p4:TDisk51)=>(.obj (p0 p1.toNat) [(tc p2 p1),(td p2 p1),(ts p2 p1),(tz p2 p1),.int .i64 (max p3 (min p4.left_ (-1)))] 51:As)
abbrev tac:=fun(p0:Nat→Nat) (p1:Int) (p2:Ttx) (p3:Nat→List Value)=>(.obj (p0 p1.toNat) (List.flatten [[.int .i64 p2.id_],[.int .i64 p2.from_],[.int .i64 p2.at_],[(gv (p3 p1.toNat) 0)],[(gv (p3 p1.toNat) 1)],(zr (fzr SR) (fun _=>[]) p2.texts_).flatten,[.bool p2.in_],[.bool p2.out_]]) 130:As)
abbrev tad:=fun(p0:Nat→Nat) (p1:Int) (p2:Nat→Nat) (p3:TStore) (p4:Nat→List Value) (p5:Nat→Nat) (p6:List TStore) (p7:Nat→Nat) (p8:Nat→List Value) (p9:List TDisk) (p10:Nat→List Value) (p11:List TLog)=>([tcf p0 p1 p2 p3 p4,.sl (tc p4 p1) 127 1 (p3.active_.map (PR p5)),.sl (td p4 p1) 127 1 (p3.over_.map (PR p5)),.ss (zs sd0 (fun _=>[]) p3.logs_),.ss (zs ti (tk p4 p1) p3.items_),kZ p0 p2 p5 p4 p6 (tf p1),tx p7 p8 p9,ty p7 p2 p10 p11]:List As)
abbrev taY:=fun(p0:Nat→List Value) (p1:Int) (p2:(List (List UInt8)))=>(.sl (tc p0 p1) 9 1 (p2.map SR):As)
abbrev tae:=fun(p0:Nat→List Value) (p1:Int) p2 (p3:TDisk51) (p4:Nat→Nat) (p5:List TDisk51)=>([taY p0 p1 p2,.sl (td p0 p1) 9 1 (p3.Safe.map SR),yS p4 p0 p5 (tf p1)]:List As)
abbrev taf:=fun(p0:Nat→Nat) (p1:Int) (p2:Nat→Nat) (p3:TStore81) (p4:Nat→List Value) (p5:Nat→Nat) (p6:List TStore81) (p7:Nat→List Value) (p8:List TDeal)=>([ta p0 p1 p2 p3 p4,taI p4 p1 p3 p5,.ss (zs sd0 (fun _=>[]) p3.logs_),th p3,jS p0 p2 p5 p4 p6 (tf p1),tA p5 p7 p8]:List As)
abbrev tag:=fun(p0:Nat→Nat) (p1:Nat→List Value) (p2:List TDisk51) (p3:Int) (p4:TDisk51) (p5:Value) (p6:(List (List UInt8)))=>([yS p0 p1 p2 (tf p3),.obj (p0 p3.toNat) [(tc p1 p3),(td p1 p3),(ts p1 p3),(tz p1 p3),.int .i64 p4.left_] 51,.sl (tc p1 p3) 9 1 (p4.Seen.map SR),tl p5 p6,.sl (td p1 p3) 9 1 (p4.Safe.map SR),.sl (ts p1 p3) 3 1 (p4.late_.map I),.sl (tz p1 p3) 9 1 (p4.texts_.map SR)]:List As)
abbrev tah:=fun(p0:Nat→Nat) (p1:Nat→Nat) (p2:Nat→Nat) (p3:Nat→Nat) (p4:Nat→Nat) (p5:Nat→Nat) (p6:Nat→Nat) (p7:Nat→Nat)=>([kZ p0 p1 p2 (fun _=>[]) ([]:List TStore) [],jS p3 p4 p5 (fun _=>[]) ([]:List TStore81) [],jV p6 p1 (fun _=>[]) ([]:List TLog) [],xL p7 p4 (fun _=>[]) ([]:List TLog122) [],yV p2 (fun _=>[]) ([]:List Ttx) [],zP p5 (fun _=>[]) ([]:List TDeal) []]:List As)
abbrev tcE:=fun(p0:Int) (p1:Bool) (p2:(List (List UInt8)))=>List.flatten (tr p0 p1 p2)
abbrev tai:=fun(p0:World) (p1:Nat) (p2:Int) (p3:Bool) (p4:(List (List UInt8))) (p5:Nat)=>Cls p0 [] [.obj p1 (tcE p2 p3 p4) 69,.ss (zs sd0 (fun _=>[]) p4),.obj p5 (List.flatten te) 69,tv]
abbrev taj:=fun(p0:Nat→Nat) (p1:Int) (p2:Nat→Nat) (p3:TStore) (p4:Int) p5 (p6:(List (List TVersion))) (p7:Nat→List Value)=>(.obj (p0 p1.toNat) (List.flatten [(zr (tcg p2) (fun _=>[]) p3.logs_).flatten,[.int .i64 p3.half_],[.int .i64 p3.gen_],[.bool p3.down_],(tH p4),(zr qn p5 p6).flatten,[(tc p7 p1)],[(td p7 p1)]]) 67:As)
abbrev tak:=fun(p0:Nat→Nat) (p1:Nat→List Value) (p2:List TDisk51) (p3:Int) (p4:TDisk51)=>([yS p0 p1 p2 (tf p3),.obj (p0 p3.toNat) [(tc p1 p3),(td p1 p3),(ts p1 p3),(tz p1 p3),.int .i64 p4.left_] 51,.sl (tc p1 p3) 9 1 (p4.Seen.map SR),.sl (td p1 p3) 9 1 (p4.Safe.map SR),.sl (ts p1 p3) 3 1 (p4.late_.map I),.sl (tz p1 p3) 9 1 (p4.texts_.map SR)]:List As)
abbrev tal:=fun(p0:Nat→Nat) (p1:Int) p2 (p3:TDisk51) (p4:List TDisk51)=>([.obj (p0 p1.toNat) [(tc p2 p1),(td p2 p1),(ts p2 p1),(tz p2 p1),.int .i64 p3.left_] 51,.sl (ts p2 p1) 3 1 (p3.late_.map I),.sl (tz p2 p1) 9 1 (p3.texts_.map SR),yS p0 p2 p4 (tf p1)]:List As)
abbrev tam:=fun(p0:Nat→List Value) (p1:Int) (p2:TDeal)=>(.sl (tc p0 p1) 151 3 (p2.Ops.map TOp.row):As)
abbrev tan:=fun(p0:Nat→Nat) (p1:Int) (p2:Nat→Nat) (p3:List Int) (p4:Int) (p5:Int) (p6:Bool) (p7:Int) (p8:Nat→List Value) (p9:(List (List TVersion)))=>(.obj (p0 p1.toNat) (List.flatten [(zr (tcg p2) (fun _=>[]) p3).flatten,(tH p4),(tH p5),[.bool p6],(tH p7),(zr qn (tk p8 p1) p9).flatten,[(tc p8 p1)],[(td p8 p1)]]) 67:As)
abbrev tao:=fun(p0:Nat→Nat) (p1:Nat→Nat) (p2:Nat→Nat) (p3:Nat→List Value) (p4:List TStore) (p5:Int)=>kZ p0 p1 p2 p3 p4 (tf p5)
abbrev taq:=fun(p0:Nat→Nat) (p1:Int) (p2:Nat→List Value) p3 (p4:List TDisk)=>([taW p0 p1 p2 p3,tbz p2 p1 p3,taU p2 p1 p3,jX p0 p2 p4 (tf p1)]:List As)
abbrev tar:=fun(p0:Nat→Nat) (p1:Nat→Nat) (p2:Nat→Nat) (p3:Nat→List Value) (p4:List TStore)=>kZ p0 p1 p2 p3 p4 []
abbrev tas:=fun(p0:List Int) (p1:(List (List UInt8))) (p2:Value) (p3:List Int) (p4:Nat→Nat)=>([.ss (zs sd0 (fun _=>[]) p0),.ss (zs sd0 (fun _=>[]) p1),.sl p2 143 1 (p3.map (PR p4))]:List As)
abbrev tat:=fun(p0:Nat→Nat) (p1:Int) (p2:Nat→List Value) (p3:TDisk51) (p4:List TDisk51) (p5:Nat→Nat) (p6:Nat→List Value) (p7:List TLog122)=>([.obj (p0 p1.toNat) [(tc p2 p1),(td p2 p1),(ts p2 p1),(tz p2 p1),.int .i64 p3.left_] 51,.sl (tc p2 p1) 9 1 (p3.Seen.map SR),.sl (td p2 p1) 9 1 (p3.Safe.map SR),.sl (ts p2 p1) 3 1 (p3.late_.map I),.sl (tz p2 p1) 9 1 (p3.texts_.map SR),yS p0 p2 p4 (tf p1),tB p0 p5 p6 p7]:List As)
abbrev tau:=fun(p0:Value) (p1:List Int)=>(.sl p0 3 1 (p1.map I):As)
abbrev tav:=fun(p0:Nat→Nat) (p1:Int) (p2:Nat→Nat) (p3:TStore81) (p4:Nat→List Value) (p5:Nat→Nat) (p6:List TStore81) (p7:Nat→Nat) (p8:Nat→List Value) (p9:List TDisk51) (p10:Nat→List Value) (p11:List TLog122)=>([ta p0 p1 p2 p3 p4,taI p4 p1 p3 p5,.ss (zs sd0 (fun _=>[]) p3.logs_),th p3,jS p0 p2 p5 p4 p6 (tf p1),tF p7 p8 p9,tB p7 p2 p10 p11]:List As)
abbrev taw:=fun(p0:Nat→Nat) (p1:Nat→Nat) (p2:Nat→Nat) (p3:Nat→List Value) (p4:List TStore81)=>jS p0 p1 p2 p3 p4 []
abbrev tax:=fun(p0:Nat→List Value) (p1:Int) (p2:Ttx)=>(.sl (td p0 p1) 3 1 (p2.writes_.map I):As)
abbrev tay:=fun(p0:Nat→List Value) (p1:Int) (p2:Ttx)=>(.sl (tc p0 p1) 3 1 (p2.reads_.map I):As)
abbrev tcS:=fun(p0:Nat→Nat) (p1:Int) (p2:Nat→Nat) (p3:TStore81) p4 (p5:Nat→List Value)=>(.obj (p0 p1.toNat) (List.flatten [(zr (tcg p2) (fun _=>[]) p3.logs_).flatten,[.int .i64 p3.half_],[.int .i64 p3.gen_],[.bool p3.down_],(tH p4),(zr (fzr SR) (fun _=>[]) p3.first_).flatten,[(tc p5 p1)]]) 81:As)
abbrev taz:=fun(p0:Nat→Nat) (p1:Nat→Nat) (p2:Nat→Nat) (p3:Nat→List Value) (p4:List TStore81) (p5:Int) (p6:Nat→Nat) p7 (p8:List TDisk51) p9 (p10:List TLog122) (p11:TStore81) p12=>([jS p0 p1 p2 p3 p4 (tf p5),tF p6 p7 p8,tB p6 p1 p9 p10,tcS p0 p5 p1 p11 p12 p3,.ss (zs sd0 (fun _=>[]) p11.logs_),th p11,taI p3 p5 p11 p2]:List As)
abbrev taA:=fun(p0:Nat) (p1:Timage)=>(.obj p0 (List.flatten (tm p1)) 69:As)
abbrev taB:=fun(p0:Int)=>(.int .i64 p0:Value)
abbrev taC:=(.ss (zs ti (fun _=>[vz]) tM):As)
abbrev taD:=fun(p0:Nat→List Value) (p1:Int) (p2:TStore) (p3:Nat→Nat)=>([.sl (tc p0 p1) 127 1 (p2.active_.map (PR p3)),.sl (td p0 p1) 127 1 (p2.over_.map (PR p3))]:List As)
abbrev taE:=fun(p0:Nat→Nat) (p1:Int) (p2:Nat→List Value) (p3:TDisk51) (p4:List TDisk51)=>(.obj (p0 p1.toNat) [(tc p2 p1),(td p2 p1),(ts p2 p1),(tz p2 p1),.int .i64 p3.left_] 51::.sl (tc p2 p1) 9 1 (p3.Seen.map SR)::tV p2 p1 p3 p0 p4:List As)
abbrev taF:=fun(p0:Nat→Nat) (p1:Int) (p2:Nat→Nat) (p3:TStore81) (p4:Nat→List Value) (p5:Nat→Nat) (p6:List TStore81)=>([ta p0 p1 p2 p3 p4,.sl (tc p4 p1) 143 1 (tw p3 p5),.ss (zs sd0 (fun _=>[]) p3.logs_),th p3,jS p0 p2 p5 p4 p6 (tf p1)]:List As)
abbrev taG:=fun(p0:Nat) (p1:Int)=>(.sl (sv p0 1) 3 1 (([p1]).map I):As)
abbrev taH:=fun(p0:Nat→Nat) (p1:Int) p2 (p3:Nat→List Value) (p4:Nat) (p5:Int) (p6:Nat) (p7:Nat→Nat) (p8:Int) (p9:Nat→Nat) (p10:TStore81) (p11:Nat→List Value) (p12:Value) (p13:List Int)=>([tW p0 p1 p2 p3,.obj p4 [VP p0 p5] 143,.obj p6 [VP p7 p8] 32,ta p7 p8 p9 p10 p11,.ss (zs sd0 (fun _=>[]) p10.logs_),th p10,.sl p12 143 1 (p13.map (PR p0)),.sl (tc p11 p8) 143 1 (tw p10 p0),tam p3 p1 p2]:List As)
abbrev taJ:=fun(p0:Nat→Nat) (p1:Int) (p2:Nat→List Value) p3 (p4:TDisk51)=>(.obj (p0 p1.toNat) [(tc p2 p1),(td p2 p1),(ts p2 p1),(tz p2 p1),.int .i64 (max p3 (min p4.left_ (-1)))] 51:As)
abbrev taK:=fun(p0:Nat→Nat) (p1:Nat→Nat) (p2:Nat→Nat) (p3:Nat→List Value) (p4:List TStore81) (p5:Int)=>jS p0 p1 p2 p3 p4 (tf p5)
abbrev taL:=fun(p0:Nat→Nat) (p1:Int) (p2:Nat→Nat) (p3:TStore) (p4:Nat→List Value) (p5:List Int) (p6:Nat→Nat)=>([tcf p0 p1 p2 p3 p4,.ss (zs sd0 (fun _=>[]) p3.logs_),.ss (zs ti (tk p4 p1) p3.items_),.sl (tc p4 p1) 127 1 (p5.map (PR p6)),.sl (td p4 p1) 127 1 (p3.over_.map (PR p6))]:List As)
abbrev tcy:=fun(p0:List TVersion)=>p0.map TVersion.row
abbrev taM:=fun(p0:Nat→Nat) (p1:Int) (p2:Nat→Nat) (p3:TStore) p4 (p5:(List (List TVersion))) (p6:Value) (p7:Value) (p8:Value) (p9:List Int) (p10:Value) (p11:List TVersion) (p12:List Int) (p13:Nat→Nat) (p14:List Int)=>([tt p0 p1 p2 p3 p4 p5 p6 p7,.ss (zs sd0 (fun _=>[]) p3.logs_),.ss (zs ti p4 p5),tau p8 p9,.sl p10 76 2 (tcy p11),tq p6 p12 p13,tq p7 p14 p13]:List As)
abbrev taN:=fun(p0:Nat→Nat) (p1:Int) (p2:TDeal) (p3:Nat→List Value)=>(.obj (p0 p1.toNat) [.int .i64 p2.id_,.int .i64 p2.from_,.int .i64 p2.at_,.bool p2.over_,(tc p3 p1),(td p3 p1)] 149:As)
abbrev taO:=fun(p0:List Int) (p1:Nat→List Value) (p2:Int) (p3:(List (List TVersion))) (p4:List Int) (p5:Nat→Nat) (p6:List Int)=>([.ss (zs sd0 (fun _=>[]) p0),.ss (zs ti (tk p1 p2) p3),.sl (tc p1 p2) 127 1 (p4.map (PR p5)),.sl (td p1 p2) 127 1 (p6.map (PR p5))]:List As)
abbrev taP:=fun(p0:Nat→Nat) (p1:Int) (p2:Nat→Nat) (p3:TStore) (p4:Nat→List Value) (p5:Value) (p6:Value) (p7:List Int) (p8:List Int) (p9:Nat→Nat)=>([tX p0 p1 p2 p3 p4 p5,.ss (zs sd0 (fun _=>[]) p3.logs_),.ss (zs ti (tk p4 p1) p3.items_),tau p6 p7,tq p5 p8 p9,.sl (td p4 p1) 127 1 (p3.over_.map (PR p9))]:List As)
abbrev taQ:=fun p0 (p1:Int) (p2:TDisk51) (p3:Nat→Nat) (p4:List TDisk51)=>([.sl (ts p0 p1) 3 1 (p2.late_.map I),.sl (tz p0 p1) 9 1 (p2.texts_.map SR),yS p3 p0 p4 (tf p1)]:List As)
abbrev taS:=fun(p0:Nat→List Value) (p1:Int)=>([(tc p0 p1),(td p0 p1)]:List Value)
abbrev taT:=fun(p0:Nat→Nat) (p1:Nat→List Value) (p2:List TDisk) (p3:Nat→Nat) (p4:Nat→List Value) (p5:List TLog)=>([tx p0 p1 p2,ty p0 p3 p4 p5]:List As)
abbrev taV:=fun(p0:Nat) (p1:Int) (p2:Nat→Nat) (p3:Int) (p4:Nat→Nat) (p5:TStore) (p6:Nat→List Value) (p7:Value) (p8:Nat→Nat) (p9:List Int) (p10:Value) (p11:List Int)=>([.obj p0 (tH p1) 3,tX p2 p3 p4 p5 p6 p7,.ss (zs sd0 (fun _=>[]) p5.logs_),.ss (zs ti (tk p6 p3) p5.items_),.sl (td p6 p3) 127 1 (p5.over_.map (PR p8)),tq p7 p9 p8,tau p10 p11]:List As)
abbrev tbN:=[.int .i64 0]::[.bool false]::(zr (fzr SR) (fun _=>[]) tap).flatten::te
abbrev tbS:=List.replicate 2 ((-1):Int)
abbrev taX:=fun(p0:Nat) (p1:Nat) (p2:Nat→Nat) (p3:Nat→Nat) (p4:Nat→Nat) (p5:Nat→List Value) (p6:List TStore)=>([tv,tv,.obj p0 (List.flatten tbN) 70,taC,.ss (zs sd0 (fun _=>[]) tbS),.obj p1 (List.flatten ((zr (tcg p2) (fun _=>[]) tbS).flatten::tJ)) 67,tar p3 p2 p4 p5 p6]:List As)
abbrev taZ:=fun(p0:Nat→Nat) (p1:Nat→Nat) (p2:Nat→Nat) (p3:Nat→List Value) (p4:List TStore81) (p5:Nat→List Value) (p6:List TDeal)=>([taw p0 p1 p2 p3 p4,tA p2 p5 p6]:List As)
abbrev tba:=fun(p0:Nat→List Value) (p1:Int) (p2:Ttx)=>(.sl (gv (p0 p1.toNat) 1) 3 1 (p2.writes_.map I):As)
abbrev tbb:=fun(p0:Nat→Nat) (p1:Nat→Nat)=>([yV p0 (fun _=>[]) ([]:List Ttx) [],zP p1 (fun _=>[]) ([]:List TDeal) []]:List As)
abbrev tbc:=fun(p0:Nat) (p1:Timage)=>(.obj p0 (List.flatten ([.int .i64 p1.gen_]::[.bool p1.whole_]::(zr (fzr SR) (fun _=>[]) p1.values_).flatten::te)) 70:As)
abbrev tbd:=fun(p0:Nat→Nat) (p1:Int) (p2:Nat→Nat) (p3:TStore) (p4:Nat→List Value) (p5:Value) (p6:List Int) (p7:Nat→Nat) (p8:List Int) (p9:Value) (p10:List Int)=>([tX p0 p1 p2 p3 p4 p5,.ss (zs sd0 (fun _=>[]) p3.logs_),.ss (zs ti (tk p4 p1) p3.items_),.sl (td p4 p1) 127 1 (p6.map (PR p7)),tq p5 p8 p7,tau p9 p10]:List As)
abbrev tbQ:=fun p0=>([.int .i64 p0,st []]:List Value)
abbrev tbe:=fun(p0:Nat) p1=>(.obj p0 (tbQ p1) 41:As)
abbrev tbf:=fun(p0:Nat) (p1:Timage) (p2:Timage)=>(.obj p0 (List.flatten ([.int .i64 p1.gen_]::[.bool p1.whole_]::(zr (fzr SR) (fun _=>[]) p1.values_).flatten::tm p2)) 70:As)
abbrev tbg:=fun(p0:Nat→Nat) (p1:Nat→Nat) (p2:Nat→Nat) (p3:Nat→List Value) (p4:List TStore) (p5:Nat→List Value) (p6:List Ttx)=>([tar p0 p1 p2 p3 p4,tC p2 p5 p6]:List As)
abbrev tbh:=fun(p0:Nat→List Value) (p1:Int) (p2:Ttx)=>(.sl (gv (p0 p1.toNat) 0) 3 1 (p2.reads_.map I):As)
abbrev tbi:=fun(p0:Nat→Nat) (p1:Nat→List Value) (p2:List TDisk51) (p3:Nat→Nat) (p4:Nat→List Value) (p5:List TLog122)=>([tF p0 p1 p2,tB p0 p3 p4 p5]:List As)
abbrev tbj:=fun(p0:List Int)=>zs sd0 (fun _=>[]) p0
abbrev tbk:=fun(p0:Ttx)=>(.ss (zs sd0 (fun _=>[]) p0.texts_):As)
abbrev tbl:=fun(p0:Value) (p1:(List (List UInt8))) (p2:Int)=>([(17,p0),(18,.int .i64 (p1.length:Int)),(19,.int .i64 p2)]:List (Nat×Value))
abbrev tbm:=fun(p0:World) p1 (p2:(List (List UInt8)))=>stC [] [] (Cls p0 [] [tD p1 p2])
abbrev tbn:=([.int .i64 0,.bool false,.string ⟨#[]⟩,.string ⟨#[]⟩,.string ⟨#[]⟩,.string ⟨#[]⟩,.string ⟨#[]⟩,.string ⟨#[]⟩,.string ⟨#[]⟩,.string ⟨#[]⟩,.string ⟨#[]⟩,.string ⟨#[]⟩,.string ⟨#[]⟩,.string ⟨#[]⟩,.string ⟨#[]⟩,.string ⟨#[]⟩,.string ⟨#[]⟩,.string ⟨#[]⟩,.string ⟨#[]⟩,.string ⟨#[]⟩,.string ⟨#[]⟩,.string ⟨#[]⟩]:List Value)
abbrev tbo:=fun(p0:Nat→List Value) (p1:Int) (p2:TStore) (p3:Nat→Nat) (p4:Nat→Nat) (p5:Nat→Nat) (p6:List TStore) (p7:Nat→Nat) (p8:Nat→List Value) (p9:List TDisk) (p10:Nat→List Value) (p11:List TLog) (p12:Value) (p13:List Int) (p14:Value) (p15:List Int)=>([.sl (tc p0 p1) 127 1 (p2.active_.map (PR p3)),.sl (td p0 p1) 127 1 (p2.over_.map (PR p3)),.ss (zs sd0 (fun _=>[]) p2.logs_),.ss (zs ti (tk p0 p1) p2.items_),tao p4 p5 p3 p0 p6 p1,tx p7 p8 p9,ty p7 p5 p10 p11,tq p12 p13 p3,tq p14 p15 p3]:List As)
abbrev tbp:=List TDisk51
abbrev tbq:=fun(p0:Nat) (p1:Nat)=>(.func (.func 111) #[] #[pt p0 0,pt p1 0]:Value)
abbrev tbr:=fun(p0:Nat→Nat) (p1:Int) (p2:Nat→List Value) p3 (p4:TDisk51) p5 (p6:List TDisk51)=>([tab p0 p1 p2 p3 p4,taY p2 p1 p5,.sl (td p2 p1) 9 1 (p4.Safe.map SR),.sl (tz p2 p1) 9 1 (p4.texts_.map SR),yS p0 p2 p6 (tf p1)]:List As)
abbrev tbs:=fun(p0:Nat→Nat) (p1:Int) (p2:Nat→List Value) p3 (p4:TDisk51) p5 (p6:List TDisk51)=>([tab p0 p1 p2 p3 p4,taY p2 p1 p5,.sl (td p2 p1) 9 1 (p4.Safe.map SR),yS p0 p2 p6 (tf p1)]:List As)
abbrev tbt:=fun(p0:Nat→Nat) (p1:Nat→Nat) (p2:Nat→Nat) (p3:Nat→List Value) (p4:List TStore81) (p5:Int) (p6:Nat→List Value) (p7:List TDeal) p8 (p9:Int) p10 p11 (p12:Value) (p13:List Int)=>taK p0 p1 p2 p3 p4 p5::tA p2 p6 p7::tR p8 p2 p9 p10 p0 p5 p1 p11 p3 p12 p13
abbrev tbu:=fun(p0:Nat→Nat) (p1:Int) (p2:Nat→Nat) (p3:TStore) p4 (p5:Nat→Nat) (p6:List TStore) (p7:Nat) p8 (p9:Nat→Nat) (p10:Nat→List Value) (p11:List TDisk) (p12:Nat→List Value) (p13:List TLog)=>tcf p0 p1 p2 p3 p4::.sl (tc p4 p1) 127 1 (p3.active_.map (PR p5))::.sl (td p4 p1) 127 1 (p3.over_.map (PR p5))::.ss (zs sd0 (fun _=>[]) p3.logs_)::.ss (zs ti (tk p4 p1) p3.items_)::tao p0 p2 p5 p4 p6 p1::.sl (sv p7 1) 76 2 (([(⟨0,p8⟩:TVersion)]).map TVersion.row)::taT p9 p10 p11 p2 p12 p13
abbrev tbv:=fun(p0:Nat→Nat) (p1:Nat→List Value) (p2:List TDeal) (p3:Nat→Nat) (p4:Nat→Nat) (p5:Nat→List Value) (p6:List TStore81) (p7:Int) p8=>tA p0 p1 p2::taK p3 p4 p0 p5 p6 p7::tZ p3 p7 p4 p8 p5 p0
abbrev tbw:=fun(p0:Nat→Nat) (p1:Nat→List Value) (p2:List TDeal) (p3:Nat→Nat) (p4:Nat→Nat) (p5:Nat→List Value) (p6:List TStore81) (p7:Int) p8 (p9:Int) p10 p11 (p12:Value) (p13:List Int)=>tA p0 p1 p2::taK p3 p4 p0 p5 p6 p7::tR p8 p0 p9 p10 p3 p7 p4 p11 p5 p12 p13
abbrev tbx:=fun(p0:Nat→List Value) (p1:Int)=>([[(tc p0 p1)],[(td p0 p1)]]:List (List Value))
abbrev tby:=fun(p0:World) (p1:List Nat) (p2:Nat→Nat) (p3:Nat→Nat) (p4:Nat→Nat) (p5:Nat→List Value) (p6:List TStore81) (p7:Int) (p8:Nat→List Value) (p9:List TDeal) p10=>Cls p0 p1 (taK p2 p3 p4 p5 p6 p7::tA p4 p8 p9::tZ p2 p7 p3 p10 p5 p4)
abbrev tbA:=fun(p0:Nat) (p1:Int)=>(.sl (sv p0 1) 151 3 (([(⟨0,1,p1⟩:TOp)]).map TOp.row):As)
abbrev tbB:=fun(p0:TStore)=>(.int .i64 (p0.over_.length:Int):Value)
abbrev tbC:=fun(p0:Nat→Nat) (p1:Int) (p2:Nat→Nat) (p3:List Int) (p4:Int) (p5:Int) (p6:Bool) (p7:Int) (p8:Nat→List Value) (p9:(List (List TVersion))) (p10:Value) (p11:(List (List UInt8))) (p12:List Int) (p13:Nat→Nat) (p14:List Int)=>([tan p0 p1 p2 p3 p4 p5 p6 p7 p8 p9,.ss (tbj p3),.ss (zs ti (tk p8 p1) p9),tl p10 p11,.sl (tc p8 p1) 127 1 (p12.map (PR p13)),.sl (td p8 p1) 127 1 (p14.map (PR p13))]:List As)
abbrev tbD:=fun(p0:World) (p1:List Nat) (p2:Nat→Nat) (p3:Int) (p4:Nat→Nat) p5 (p6:Nat→List Value) (p7:List TLog122) (p8:Nat→List Value) (p9:List TDisk51)=>Cls p0 p1 [tn p2 p3 p4 p5,xL p4 p2 p6 p7 (tf p3),tF p4 p8 p9]
abbrev tbE:=fun(p0:World) (p1:List Nat) (p2:Nat→Nat) (p3:Int) (p4:Nat→Nat) p5 (p6:Nat→List Value) (p7:List TLog) (p8:Nat→List Value) (p9:List TDisk)=>Cls p0 p1 [tj p2 p3 p4 p5,jV p4 p2 p6 p7 (tf p3),tx p4 p8 p9]
abbrev tbF:=fun(p0:World) (p1:List Nat) (p2:Nat→Nat) (p3:Nat→Nat) (p4:Nat→Nat) (p5:Nat→List Value) (p6:List TStore81) (p7:Nat→Nat) (p8:Nat→List Value) (p9:List TDisk51) (p10:Nat→List Value) (p11:List TLog122) (p12:Nat→List Value) (p13:List TDeal)=>Cls p0 p1 [taw p2 p3 p4 p5 p6,tF p7 p8 p9,tB p7 p3 p10 p11,tA p4 p12 p13]
abbrev tbG:=fun(p0:Int)=>p0.toNat*1
abbrev tbH:=#[.int .i64 0,st [],.int .i64 0]
abbrev tbI:=fun(p0:Int) (p1:Int)=>p0.toNat::p1.toNat::[]
abbrev tbJ:=fun(p0:World) (p1:Nat) (p2:Int)=>stC [] [] (Cls p0 [] [.sl (sv p1 1) 5 1 (([p2]).map (IK .u8))])
abbrev tbK:=fun(p0:Nat→Nat) (p1:Int) (p2:Nat→Nat) p3 (p4:Nat→List Value) (p5:List TLog) (p6:Nat→List Value) (p7:List TDisk) (p8:Value) (p9:(List (List UInt8)))=>([tj p0 p1 p2 p3,jV p2 p0 p4 p5 (tf p1),tx p2 p6 p7,tl p8 p9]:List As)
abbrev tbL:=fun(p0:Nat) (p1:Int) p2=>(.sl (sv p0 1) 76 2 (([(⟨p1,p2⟩:TVersion)]).map TVersion.row):As)
abbrev tbM:=fun(p0:Nat)=>(.obj p0 tN 112:As)
abbrev tbO:=fun(p0:Nat→Nat) (p1:Nat→List Value) (p2:List TDisk51) (p3:Int) (p4:TDisk51) (p5:(List (List UInt8)))=>([yS p0 p1 p2 (tf p3),.obj (p0 p3.toNat) [(tc p1 p3),(td p1 p3),(ts p1 p3),(tz p1 p3),.int .i64 p4.left_] 51,.sl (ts p1 p3) 3 1 (p4.late_.map I),.sl (tc p1 p3) 9 1 (p4.Seen.map SR),.sl (td p1 p3) 9 1 (p5.map SR),.sl (tz p1 p3) 9 1 (p4.texts_.map SR)]:List As)
abbrev tbP:=List TLog122
abbrev tbR:=fun(p0:Nat→Nat) (p1:Nat→List Value) (p2:List TDeal) (p3:Int)=>zP p0 p1 p2 (tf p3)
abbrev tbT:=fun(p0:Nat→Nat) (p1:Int) (p2:Nat→Nat) (p3:List Int) (p4:TStore81) p5 p6 (p7:(List (List UInt8))) (p8:Nat→Nat)=>([.obj (p0 p1.toNat) (List.flatten [(zr (tcg p2) (fun _=>[]) p3).flatten,[.int .i64 p4.half_],[.int .i64 p4.gen_],[.bool p4.down_],[.int .i64 p4.now_],(zr (fzr SR) (fun _=>[]) p4.first_).flatten,[(tc p5 p1)]]) 81,.ss (tbj p3),th p4,tD p6 p7,taI p5 p1 p4 p8]:List As)
abbrev tbU:=List TStore81
abbrev tbV:=fun(p0:Nat→Nat) (p1:Nat→List Value) (p2:List TDisk51) (p3:Int) (p4:TDisk51)=>([yS p0 p1 p2 (tf p3),.obj (p0 p3.toNat) [(tc p1 p3),(td p1 p3),(ts p1 p3),(tz p1 p3),.int .i64 p4.left_] 51,.sl (ts p1 p3) 3 1 (p4.late_.map I),.sl (tc p1 p3) 9 1 (p4.Seen.map SR),.sl (tz p1 p3) 9 1 (p4.texts_.map SR)]:List As)
abbrev tbW:=fun(p0:Nat→Nat) (p1:Nat→List Value) (p2:List TDisk) (p3:Nat→Nat) (p4:Nat→List Value) (p5:List TLog) (p6:Nat→Nat) (p7:Nat→List Value) (p8:List Ttx)=>([tx p0 p1 p2,ty p0 p3 p4 p5,tC p6 p7 p8]:List As)
abbrev tbX:=fun(p0:Nat→Nat)=>yS p0 (fun _=>[]) ([]:List TDisk51) []
abbrev tbY:=fun(p0:World) (p1:List Nat) (p2:Nat→Nat) (p3:Int) p4 (p5:TDisk51) (p6:List TDisk51)=>stC [[8,15,18],[15,18],[18]] [Cls p0 p1 (taE p2 p3 p4 p5 p6),Cls p0 p1 (.obj (p2 p3.toNat) [(tc p4 p3),(td p4 p3),(ts p4 p3),(tz p4 p3),.int .i64 p5.left_] 51::tV p4 p3 p5 p2 p6),Cls p0 p1 (tal p2 p3 p4 p5 p6)] (Cls p0 p1 (taQ p4 p3 p5 p2 p6))
abbrev tbZ:=List (List UInt8)
abbrev tca:=fun(p0:Timage) p1 (p2:Value) p3 p4 p5 (p6:Nat) (p7:Nat→Nat) (p8:Nat→Nat) (p9:Nat→Nat) (p10:Nat→List Value) (p11:List TStore)=>([tG p0,taA p1 p0,tl p2 p3,tv,tG p0,tbc p4 p0,taC,.ss (tbj p5),.obj p6 (List.flatten ((zr (tcg p7) (fun _=>[]) p5).flatten::tJ)) 67,tar p8 p7 p9 p10 p11]:List As)
abbrev tcb:=fun(p0:Nat) (p1:Int) (p2:List UInt8) (p3:Int)=>(.obj p0 [taB p1,st p2,taB p3] 112:As)
abbrev tcc:=fun(p0:World) (p1:Nat) p2=>stC [] [] (Cls p0 [] [.sl (sv p1 1) 5 1 (([IntKind.wrap .u8 (IntKind.wrap .u64 (p2+128))]).map (IK .u8))])
abbrev tcd:=fun(p0:World) (p1:List Nat) (p2:Nat→Nat) (p3:Nat→Nat) (p4:Nat→List Value) (p5:List TLog) (p6:Nat→List Value) (p7:List TDisk)=>Cls p0 p1 [ty p2 p3 p4 p5,tx p2 p6 p7]
abbrev tce:=fun(p0:World) (p1:List Nat) (p2:Nat→Nat) (p3:Nat→Nat) (p4:Nat→List Value) (p5:List TLog122) (p6:Nat→List Value) (p7:List TDisk51)=>Cls p0 p1 [tB p2 p3 p4 p5,tF p2 p6 p7]
abbrev tch:=fun(p0:Nat→Nat) (p1:Int) (p2:Nat→Nat) (p3:TStore81) (p4:Nat→List Value) (p5:Nat→Nat)=>([ta p0 p1 p2 p3 p4,.ss (zs sd0 (fun _=>[]) p3.logs_),th p3,taI p4 p1 p3 p5]:List As)
abbrev tci:=fun(p0:World) (p1:List Nat) (p2:Value) p3 p4 (p5:List UInt8) (p6:Nat→Nat) (p7:Int) p8 (p9:TDisk51) (p10:List TDisk51)=>stC [[15,18],[18]] [Cls p0 p1 (tl p2 p3::tu p4 p5::.obj (p6 p7.toNat) [(tc p8 p7),(td p8 p7),(ts p8 p7),(tz p8 p7),.int .i64 p9.left_] 51::tV p8 p7 p9 p6 p10),Cls p0 p1 (tl p2 p3::tu p4 p5::tal p6 p7 p8 p9 p10)] (Cls p0 p1 (tl p2 p3::tu p4 p5::taQ p8 p7 p9 p6 p10))
abbrev tcj:=fun(p0:Nat→Nat) (p1:Nat→List Value) (p2:List Ttx) (p3:Int)=>yV p0 p1 p2 (tf p3)
abbrev tck:=fun(p0:Nat→Nat) (p1:Int) (p2:Nat→Nat) p3 (p4:Nat→List Value) (p5:List TLog122) (p6:Nat→List Value) (p7:List TDisk51) (p8:Value) (p9:(List (List UInt8)))=>([tn p0 p1 p2 p3,xL p2 p0 p4 p5 (tf p1),tF p2 p6 p7,tl p8 p9]:List As)
abbrev tcl:=fun(p0:Nat→List Value) (p1:Int) (p2:TDeal)=>(.sl (tc p0 p1) 151 3 (p2.Ops.map TOp.row):As)
abbrev tcm:=fun(p0:Nat→Nat) (p1:Int) (p2:Nat→Nat) (p3:TStore81) (p4:Nat→List Value) (p5:Nat→Nat) (p6:List TStore81) (p7:Nat→List Value) (p8:List TDeal) (p9:Nat→Nat) (p10:Nat→List Value) (p11:List TDisk51) (p12:Nat→List Value) (p13:List TLog122)=>([ta p0 p1 p2 p3 p4,taI p4 p1 p3 p5,.ss (zs sd0 (fun _=>[]) p3.logs_),th p3,taK p0 p2 p5 p4 p6 p1,tA p5 p7 p8,tF p9 p10 p11,tB p9 p2 p12 p13]:List As)
abbrev tcn:=fun(p0:Nat→Nat) (p1:Int) (p2:Nat→Nat) (p3:TStore81) (p4:Nat→List Value) (p5:Nat→Nat) (p6:List TStore81) (p7:Nat→Nat) (p8:Nat→List Value) (p9:List TDisk51) (p10:Nat→List Value) (p11:List TLog122) (p12:Nat→List Value) (p13:List TDeal)=>([ta p0 p1 p2 p3 p4,taI p4 p1 p3 p5,.ss (zs sd0 (fun _=>[]) p3.logs_),th p3,taK p0 p2 p5 p4 p6 p1,tF p7 p8 p9,tB p7 p2 p10 p11,tA p5 p12 p13]:List As)
abbrev tco:=fun(p0:Nat) (p1:Int) (p2:Nat→Nat)=>(.sl (sv p0 1) 127 1 (([p1]).map (PR p2)):As)
abbrev tcp:=fun(p0:List UInt8) (p1:Int)=>([(9,.int .i64 (p0.length:Int)),(10,.int .i64 p1)]:List (Nat×Value))
abbrev tcq:=fun(p0:Nat→Nat) (p1:Nat→Nat)=>xL p0 p1 (fun _=>[]) ([]:List TLog122) []
abbrev tcr:=fun(p0:Value) (p1:List Int)=>(.sl p0 3 1 (p1.map I):As)
abbrev tcs:=fun(p0:TVersion)=>([.int .i64 p0.At,st p0.Text]:List Value)
abbrev tct:=fun(p0:Nat→Nat) (p1:Int) (p2:Value) (p3:Value) (p4:Bool) (p5:Bool) (p6:Int) (p7:Bool) (p8:Bool) (p9:Nat→List Value) (p10:Int) p11 (p12:Int)=>([(1,VP p0 p1),(4,p2),(5,p3),(7,.bool p4),(8,.bool p5),(10,VP p0 p6),(11,.bool p7),(12,.bool p8),(16,(td p9 p10)),(17,tbB p11),(18,taB p12)]:List (Nat×Value))
abbrev tcu:=fun(p0:Nat→Nat) (p1:Nat→List Value) (p2:List TDeal) (p3:Nat→Nat) (p4:Nat→Nat) (p5:Nat→List Value) (p6:List TStore81) (p7:Int) (p8:Nat→Nat) (p9:Nat→List Value) (p10:List TDisk51) (p11:Nat→List Value) (p12:List TLog122) p13=>tA p0 p1 p2::taK p3 p4 p0 p5 p6 p7::tF p8 p9 p10::tB p8 p4 p11 p12::tZ p3 p7 p4 p13 p5 p0
abbrev tcv:=fun(p0:World) (p1:List Nat) (p2:Nat→Nat) (p3:Nat→Nat) (p4:Nat→Nat) (p5:Nat→List Value) (p6:List TStore) (p7:Nat→Nat) (p8:Nat→List Value) (p9:List TDisk) (p10:Nat→List Value) (p11:List TLog)=>Cls p0 p1 (tar p2 p3 p4 p5 p6::taT p7 p8 p9 p3 p10 p11)
abbrev tcw:=fun(p0:Nat→Nat) (p1:Nat→Nat) (p2:Nat→Nat)=>jS p0 p1 p2 (fun _=>[]) ([]:List TStore81) []
abbrev tcx:=fun(p0:Trecord)=>([.int .i64 p0.epoch_,st p0.text_,.int .i64 p0.size_]:List Value)
abbrev tcz:=fun(p0:Nat) (p1:Nat→Nat) (p2:Int) (p3:Int) (p4:Int)=>(.obj p0 [VP p1 p2,.int .i64 p3,.int .i64 p4,.int .i64 0,.int .i64 1,.int .i64 0,.bool false] 108:As)
abbrev tcA:=fun(p0:TStore81)=>(.int .i64 (p0.deals_.length:Int):Value)
abbrev tcB:=fun(p0:World) (p1:List Nat) (p2:Nat→Nat) (p3:Nat→Nat) (p4:Nat→Nat) (p5:Nat→List Value) (p6:List TStore) (p7:Int) (p8:Nat→List Value) (p9:List Ttx) (p10:Nat) (p11:Int) p12=>Cls p0 p1 (kZ p2 p3 p4 p5 p6 (tf p7)::tC p4 p8 p9::.obj p10 [VP p4 p11] 127::tP p2 p7 p3 p12 p5 p4)
abbrev tcC:=fun(p0:Nat→Nat) (p1:Nat→Nat) (p2:Nat→Nat) p3 (p4:List TStore) (p5:Nat→Nat) p6 (p7:List TLog) p8 (p9:List Ttx) (p10:Nat→Nat) p11 (p12:List TDeal)=>([tar p0 p1 p2 p3 p4,ty p5 p1 p6 p7,tC p2 p8 p9,tA p10 p11 p12]:List As)
abbrev tcD:=fun(p0:Int)=>IntKind.wrap .u8 p0
abbrev tcF:=fun(p0:World) (p1:List Nat) (p2:Nat→Nat) (p3:Nat→Nat) (p4:Nat→Nat) (p5:Nat→List Value) (p6:List TStore81) (p7:Nat→List Value) (p8:List TDeal) (p9:Nat→Nat) (p10:Nat→List Value) (p11:List TDisk51) (p12:Nat→List Value) (p13:List TLog122)=>Cls p0 p1 (taw p2 p3 p4 p5 p6::tA p4 p7 p8::tbi p9 p10 p11 p3 p12 p13)
abbrev tcG:=fun(p0:Nat→Nat) (p1:Int) (p2:Int)=>pt (p0 p1.toNat) (6+p2.toNat*1)
abbrev tcH:=fun(p0:Int) (p1:Int)=>([.int .i64 p0,.int .i64 p1]:List Value)
abbrev tcI:=fun(p0:Nat→Nat) (p1:Nat→List Value) (p2:List Ttx) (p3:Int)=>yV p0 p1 p2 (p3.toNat::[])
abbrev tcJ:=fun(p0:Nat→Nat) (p1:Nat→List Value) (p2:List Ttx) (p3:Nat→Nat) (p4:Nat→Nat) (p5:Nat→List Value) (p6:List TStore) (p7:Int) p8 (p9:Value) (p10:List Int) (p11:Value) (p12:List Int)=>yV p0 p1 p2 []::tb p3 p4 p0 p5 p6 p7 p8 p9 p10 p11 p12
abbrev tcK:=fun(p0:Nat→Nat) (p1:Nat→List Value) (p2:List TDisk) (p3:Nat→Nat) (p4:Nat→List Value) (p5:List TLog) (p6:Value) (p7:(List (List UInt8)))=>([tx p0 p1 p2,ty p0 p3 p4 p5,tl p6 p7]:List As)
abbrev tcL:=fun(p0:Nat→List Value) (p1:Int) (p2:Int) (p3:Int)=>zh (qdX (tc p0 p1) p2.toNat) p3.toNat 1
abbrev tcM:=fun(p0:Nat) (p1:Nat→Nat) (p2:Int)=>(.obj p0 [VP p1 p2] 143:As)
abbrev tcN:=(0:Int).toNat*1
abbrev tcO:=fun p0 (p1:Int) p2 (p3:Nat→Nat) (p4:List TDisk)=>([tbz p0 p1 p2,taU p0 p1 p2,jX p3 p0 p4 (tf p1)]:List As)
abbrev tcP:=[[8,21,24],[21,24],[24]]
abbrev tcQ:=fun(p0:Int) (p1:List UInt8)=>([.int .i64 p0,st p1]:List Value)
abbrev tcR:=fun(p0:Nat→Nat) (p1:Nat→Nat) (p2:Nat→List Value) (p3:List TLog122) (p4:Int)=>xL p0 p1 p2 p3 (tf p4)
end Go.Proofs.YtloiiohoelhldaaGreatDoor
