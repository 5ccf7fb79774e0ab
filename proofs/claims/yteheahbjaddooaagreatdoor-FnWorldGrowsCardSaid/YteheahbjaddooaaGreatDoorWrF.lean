/- The texts Id3, Id4, Id5, Id6, Dd1, Dd2, Dd3, Cm1, Dm1, Dm2, Lb1, Lc1, Qb5, Le0, Pe1, Ld7, joined; no condition. -/
import Derived.Test.YteheahbjaddooaaGreatDoorWrE
import Derived.OpenShut
import Derived.Carry
import Derived.ChangeSame
import Derived.ProofKit
import Derived.Test.YteheahbjaddooaaGreatDoorRows
import Derived.Test.YteheahbjaddooaaGreatDoorCards
import Derived.Test.YteheahbjaddooaaGreatDoorTie
import Derived.Deep.DeepHandedRow
import Derived.Lib.LaidTab
import Derived.Sort.Row

namespace Go.Proofs.YteheahbjaddooaaGreatDoor
set_option linter.unusedSimpArgs false
set_option linter.unusedVariables false
open Go Go.RowKit
abbrev wCx (l n:Nat) (w:Wld):List PV:=[.c (za w.over.base),.c (zx w.over.layers),.c (ze w.over.upper),I w.clock,I w.count,.own l w.leases.length,.own 6 3,.own 10 w.floors.length,.own n w.net.length,B w.waits,I w.op.kind,.c (CS w.op.path),.c (CS w.op.dest),.c (CS w.op.data)]
abbrev wMx (l a b c n:Nat) (w:Wld):XM:=[(4,.box (wCx l n w)),(l,.row (w.leases.map jy) 4 72),(6,.rowP [.own a (hdW w 0).length,.own b (hdW w 1).length,.own c (hdW w 2).length] 56),(a,.row ((hdW w 0).map zD) 7 53),(b,.row ((hdW w 1).map zD) 7 53),(c,.row ((hdW w 2).map zD) 7 53),(10,.row (w.floors.map CI) 1 3),(n,.row (w.net.map eMsg) 9 55)]
abbrev wMp (w:Wld):XM:=wMx 5 7 8 9 11 w
abbrev wMl (b:Bool) (w:Wld):XM:=match b with
 | true=>(5,.dead 4 72)::wMx 1600 7 8 9 11 w
 | false=>wMp w
abbrev wM0 (b:Bool) (w:Wld):XM:=match b with
 | true=>(7,.dead 7 53)::wMx 5 1616 8 9 11 w
 | false=>wMp w
abbrev wM1 (b:Bool) (w:Wld):XM:=match b with
 | true=>(8,.dead 7 53)::wMx 5 7 1616 9 11 w
 | false=>wMp w
abbrev wM2 (b:Bool) (w:Wld):XM:=match b with
 | true=>(9,.dead 7 53)::wMx 5 7 8 1616 11 w
 | false=>wMp w
theorem holds3 {w:Wld} (h:w.holds.length=3):w.holds=[hdW w 0,hdW w 1,hdW w 2]:=by
 obtain ⟨a,b,c,e⟩:=Yo h;unfold hdW; rw [e]; rfl
abbrev eWldP (w:Wld):CV := .agg [za w.over.base,zx w.over.layers,ze w.over.upper,CI w.clock,CI w.count,zw w.leases,.row [zf (hdW w 0),zf (hdW w 1),zf (hdW w 2)],jN w.floors,jI w.net,CB w.waits,CI w.op.kind,CS w.op.path,CS w.op.dest,CS w.op.data]
theorem YT {w:Wld} (h:w.holds.length=3):eWldP w=zA w:=by
 have:=holds3 h;show CV.agg [za w.over.base,zx w.over.layers,ze w.over.upper,CI w.clock,CI w.count,zw w.leases,jx [hdW w 0,hdW w 1,hdW w 2],jN w.floors,jI w.net,CB w.waits,CI w.op.kind,CS w.op.path,CS w.op.dest,CS w.op.data]=zA w;rw [← this]; rfl
def zeP:XC:=(.s (.r [.ex 2 (.box 0),.ex 3 (.box 1),.ex 4 (.asn (.k .nil) 1 9)]) (.s (.r [.f1 10 0 2,.l2 11 3 10,.c1 12 14 [11],.mv 9 12,.e1 13 9 0,.e1 14 9 1,.a1 5 13 3 39,.mv 6 14]) (.s (.r [.mv 16 5,.l2 17 4 3,.c1 18 31 [16,17],.mv 15 18,.e1 19 15 0,.e1 20 15 1,.a1 7 19 3 39,.mv 8 20]) (.s (.s (.r [.mv 21 8,.b1 22 .neq 21 (.i 0)]) (.cnd 22 (.s (.r [.ex 4 (.asn (.k .nil) 1 9)]) .ret) .skip)) (.s (.r [.mv 23 5,.mv 24 7,.c1 25 158 [23,24],.a1 4 25 1 9]) .ret)))))
theorem zl5:zc Tryz.prog [] 184=some (zeP.ac,[(.t 4)],26):=by kernel_rfl
abbrev wRx (w:Wld):XM:=[(5,.row (w.leases.map jy) 4 72),(6,.rowP [.own 7 (hdW w 0).length,.own 8 (hdW w 1).length,.own 9 (hdW w 2).length] 56),(7,.row ((hdW w 0).map zD) 7 53),(8,.row ((hdW w 1).map zD) 7 53),(9,.row ((hdW w 2).map zD) 7 53),(10,.row (w.floors.map CI) 1 3),(11,.row (w.net.map eMsg) 9 55)]
theorem zhx (W0:World) (hM:HM W0) (w:Wld) (op:Op) (h:oOk w.over=true):zv Tryz.prog W0 184 [.agg (wCx 5 11 w),.c (eOp op)] (wRx w) (fun _:Unit=>True) (fun _ => .c (js (qg w op))) (fun _=>wRx w):=by
 refine funW (c:=zeP) mixed zl5 (by simp) rfl rfl fun hg=>?_
 have hv:=Y0 W0 hM w.over;obtain ⟨t',x,g⟩:=OG.of h;have ev:vwG w.over=x:=g.vwG;rw [h,if_pos rfl,g.vw] at hv;have hd:=Y1 W0 hM x op;have e:qg w op=if (zE x op).2=0 then z8 x (zE x op).1 else []:=by unfold qg; rw [ev]
 rw [e];have hq:=Yp g.gx (op:=op);have ht:=zg6 W0 hM x (zE x op).1;generalize zE x op=r at *;refine dEr ?_;repeat ((first | refine c0 hv rfl ?_ | refine c0 hd rfl ?_); first | refine dEr ?_ | exact dz)
 apply cP<;>intro h1
 ·rw [if_neg h1];refine dr ?_;repeat (refine oB (by simp) ?_; first | refine dr ?_ | exact dz)
  refine ⟨some 3,_,_,?_,(),trivial,rfl,rfl⟩;refine zj.trans (z:=none) (zj.nilF _ 0 rfl) ?_;refine dr ?_;repeat (refine oB (by simp) ?_; first | refine dr ?_ | exact dz)
  trivial
 ·obtain ⟨_,_,q1,q2⟩:=hq h1;rw [yu,if_pos (by rw [g.gx,q1,q2]; rfl)] at ht;rw [if_pos h1];refine dEr ?_;repeat (refine c0 ht rfl ?_; first | refine dEr ?_ | exact dz)
  refine ⟨none,_,_,?_,(),trivial,rfl,rfl⟩;refine dr ?_;repeat (refine oB (by simp) ?_; first | refine dr ?_ | exact dz)
  trivial
def zdQ:XC:=(.s (.r [.ex 2 (.box 0),.ex 3 (.box 1),.ex 4 (.asn (.k .nil) 4 72)]) (.s (.s (.r [.l2 9 14 2,.c1 10 20 [9],.ex 11 (.un .not 10)]) (.cnd 11 (.s (.r [.ex 4 (.asn (.k .nil) 4 72)]) .ret) .skip)) (.s (.r [.l2 12 14 2,.l2 13 4 3,.o1 14 184 [12,13],.a1 5 14 1 9]) (.s (.r [.ex 6 (.asn (.k .nil) 4 72)]) (.s (.s (.r [.f1 15 5 2,.l1 16 1 15,.n1 17 16,.m1 18 (.i 0)]) (.blk 0 (.loop (.s (.r [.b1 19 .lss 18 17]) (.s (.cnd 19 .skip (.exit 0)) (.s (.blk 1 (.s (.r [.i1 20 4 16 18,.l2 21 4 20,.ex 8 (.alloc [(I 0),sE,(I 0),(I 0)]),.s1 4 8 21]) (.s (.r [.f1 22 3 8,.l1 23 1 22,.f1 24 3 2,.l1 25 1 24,.b1 26 .gtr 23 25,.mv 27 26,.gt 28 (.mv 5) 27,.gt 29 (.fa 1 8) 27,.gt 30 (.ld false 1 29) 27,.gt 31 (.call 185 [28,30]) 27,.ex 32 (.pick 27 31 .n)]) (.cnd 32 (.r [.mv 33 6,.l2 34 4 8,.ex 35 (.bsl 4 72 [34]),.ex 36 (.app false 4 40 72 33 35),.a1 6 36 4 72]) .skip)))) (.r [.b1 37 .add 18 (.i 1),.mv 18 37]))))))) (.s (.r [.mv 38 6,.a1 4 38 4 72]) .ret))))))
theorem zk6:zc Tryz.prog [184] 128=some (zdQ.ac,[(.t 4)],39):=by kernel_rfl
theorem zoE (W0:World) (hM:HM W0) (w:Wld) (op:Op) (h:WG w) (hl:w.leases.length≤1000000):zv Tryz.prog W0 128 [.agg (wCx 5 11 w),.c (eOp op)] (wRx w) (fun _:Unit=>True) (fun _ => .c (zw (zI w op))) (fun _=>wRx w):=by
 refine funW (c:=zdQ) mixed zk6 (by simp) rfl rfl fun hg=>?_
 have hok:=JZ W0 hM w;rw [← YT h.pl.hl,tb_t h] at hok;have ht:=zhx W0 hM w op h.ov;rw [zds];generalize qg w op=ts at *;refine dr ?_;refine c0 hok rfl ?_;refine dEr ?_;refine oW ht rfl ⟨rfl,rfl,rfl,rfl,rfl,rfl,rfl,trivial⟩ rfl rfl ⟨(),trivial⟩ fun _ _=>⟨rfl,?_⟩
 refine dEr ?_;refine lp2 (fun (k:Nat) (out:List Lease)=>[(2,.ptr 32 0),(5,.c (js ts)),(6,.own 96 out.length),(16,.own 5 w.leases.length),(17,I w.leases.length),(18,I k)]) (fun _ out=>[(32,.box (wCx 5 11 w)),(96,.row (out.map jy) 4 72)]++wRx w) (fun k out=>k≤w.leases.length∧out=(w.leases.take k).filter (fun l=>decide (w.clock < l.til)&&ts.contains l.path)∧out.length≤k) (fun k _=>w.leases.length - k) 0 [] ⟨by simp,rfl,by simp⟩ ?_ ?_
 ·refine dr ?_;trivial
 rintro k out ⟨hk,ho,hle⟩;refine dr ?_;apply cP<;>intro h1
 ·have hk':k < w.leases.length:=by omega
  refine dr ?_;apply cP<;>intro h2
  ·refine dEr ?_;repeat (refine c0 (zg5 W0 ts _) rfl ?_; first | refine dEr ?_ | exact dz)
   apply cP<;>intro h3
   ·refine dr ?_;repeat ((first | refine oB (by simp; omega) ?_ | refine oB (by simp) ?_); first | refine dr ?_ | exact dz)
    refine ⟨k+1,out++[w.leases[k]],⟨by omega,by rw [qF hk' (by rw [decide_eq_true h2,h3]<;>rfl),ho],by simp; omega⟩,by omega,?_⟩;refine dr ?_;repeat (refine oB (by simp<;>rfl) ?_; first | refine dr ?_ | exact dz)
    trivial
   ·refine dr ?_;refine ⟨k+1,out,⟨by omega,by rw [qr hk' (by rw [h3,Bool.and_false]),ho],by omega⟩,by omega,?_⟩;refine dr ?_;trivial
  ·refine dr ?_;refine ⟨k+1,out,⟨by omega,by rw [qr hk' (by rw [decide_eq_false (by omega),Bool.false_and]),ho],by omega⟩,by omega,?_⟩;refine dr ?_;trivial
 have hkl:k=w.leases.length:=by omega
 rw [hkl,List.take_length] at ho;rw [← ho];refine dr ?_;repeat (refine oB (by simp) ?_; first | refine dr ?_ | exact dz)
 refine ⟨some 96,_,_,?_,(),trivial,rfl,rfl⟩;refine dr ?_;repeat (refine oB (by simp<;>rfl) ?_; first | refine dr ?_ | exact dz)
 trivial
def zgy:XC:=(.s (.r [.ex 3 (.box 1)]) (.s (.r [.mv 4 0,.ex 5 (.nck 4),.f1 6 8 5,.l1 7 1 6,.n1 8 7,.b1 9 .lss 8 (.i 12)]) (.cnd 9 (.d [.mv 10 0,.mv 11 0,.ex 12 (.nck 11),.f1 13 8 12,.l1 14 1 13,.l2 15 9 3,.ex 16 (.bsl 9 55 [15]),.ex 17 (.app false 9 96 55 14 16),.ex 18 (.nck 10),.f1 19 8 18,.s1 1 19 17]) .skip)))
theorem znL:zc Tryz.prog [] 80=some (zgy.ac,[],20):=by kernel_rfl
theorem y6 (W0:World) (w:Wld) (m:Msg) (h:w.net.length≤1000):zv Tryz.prog W0 80 [.ptr 4 0,.c (eMsg m)] (wMp w) (fun _:Unit=>True) (fun _ => .tup []) (fun _=>wMp (zS w m)):=by
 refine funW (c:=zgy) mixed znL (by simp) rfl rfl fun hg=>?_
 refine dr ?_;apply cP<;>intro h1
 ·rw [zjJ (by omega)];refine dr ?_;repeat ((first | refine oB (by simp; omega) ?_ | refine oB (by simp) ?_); first | refine dr ?_ | exact dz)
  refine ⟨none,_,_,?_,(),trivial,rfl,rfl⟩;refine dr ?_;repeat ((first | refine oB (congrArg (fun y=>XB.box [.c (za w.over.base),.c (zx w.over.layers),.c (ze w.over.upper),I w.clock,I w.count,.own 5 w.leases.length,.own 6 3,.own 10 w.floors.length,y,B w.waits,I w.op.kind,.c (CS w.op.path),.c (CS w.op.dest),.c (CS w.op.data)]) QA) ?_ | refine oB xrow1 ?_); first | refine dr ?_ | exact dz)
  trivial
 ·rw [zjH (by omega)];refine dr ?_;refine ⟨none,_,_,?_,(),trivial,rfl,rfl⟩;refine dr ?_;trivial
def zgx:XC:=(.s (.r [.mv 6 1,.n1 7 6,.m1 8 (.i 0)]) (.blk 0 (.loop (.s (.r [.b1 9 .lss 8 7]) (.s (.cnd 9 .skip (.exit 0)) (.s (.blk 1 (.s (.r [.i1 10 4 6 8,.l2 11 4 10,.ex 5 (.alloc [(I 0),sE,(I 0),(I 0)]),.s1 4 5 11]) (.d [.mv 12 0,.f1 13 0 5,.l1 14 1 13,.f1 15 1 5,.l1 16 1 15,.mv 17 0,.ex 18 (.nck 17),.f1 19 4 18,.l1 20 1 19,.ex 21 (.build [sE,(B false),sE,(B false),sE,(I 0),(I 0)] [(0,(1,16)),(5,(1,20))]),.ex 22 (.build [(I 0),(I 0),sE,(B false),sE,(B false),sE,(I 0),(I 0)] [(0,(1,(.i 3))),(1,(1,14)),(2,(7,21))]),.o1 23 80 [12,22]]))) (.r [.b1 24 .add 8 (.i 1),.mv 8 24])))))))
theorem znK:zc Tryz.prog [80] 129=some (zgx.ac,[],25):=by kernel_rfl
theorem zpP (W0:World) (w:Wld) (b:List Lease) (h:w.net.length≤1000) (hb:b.length≤1000000):zv Tryz.prog W0 129 [.ptr 4 0,.c (zw b)] (wMp w) (fun _:Unit=>True) (fun _ => .tup []) (fun _=>wMp (jP w b)):=by
 refine funW (c:=zgx) mixed znK (by simp) rfl rfl fun hg=>?_
 refine dr ?_;refine lp2 (fun (k:Nat) (x:Wld)=>[(0,.ptr 4 0),(6,.c (zw b)),(7,I b.length),(8,I k)]) (fun _ x=>wMp x) (fun k x=>k≤b.length∧x=jP w (b.take k)∧x.net.length≤1000) (fun k _=>b.length - k) 0 w ⟨by omega,rfl,h⟩ ?_ ?_
 ·refine dr ?_;trivial
 rintro k x ⟨hk,hx,hn⟩;refine dr ?_;apply cP<;>intro h1
 ·have hk':k < b.length:=by omega
  have hc:x.count=w.count:=by rw [hx]; exact qG.2.2.1
  refine dr ?_;refine oW (y6 W0 x (rclM x.count b[k]) hn) rfl ⟨rfl,rfl,rfl,rfl,rfl,rfl,rfl,rfl,trivial⟩ rfl rfl ⟨(),trivial⟩ fun _ _=>⟨rfl,?_⟩
  refine dEr ?_;refine ⟨k+1,zS x (rclM x.count b[k]),⟨by omega,by rw [zjv hk',← hx,hc],zjI hn⟩,by omega,?_⟩;refine dr ?_;trivial
 ·have hkl:k=b.length:=by omega
  rw [hkl,List.take_length] at hx;rw [← hx];refine dr ?_;refine ⟨none,_,_,?_,(),trivial,rfl,rfl⟩;refine dr ?_;trivial
def zgA:XC:=(.s (.r [.m1 2 (.i 0)]) (.s (.s (.r [.mv 4 0,.ex 5 (.nck 4),.f1 6 9 5,.l1 7 1 6,.ex 8 (.un .not 7)]) (.cnd 8 (.s (.r [.m1 2 (.i 22)]) .ret) .skip)) (.s (.d [.mv 9 0,.ex 10 (.nck 9),.l2 11 14 10,.mv 12 0,.ex 13 (.nck 12),.f1 14 10 13,.l2 15 4 14,.o1 16 128 [11,15],.a1 3 16 4 72]) (.s (.s (.r [.mv 17 3,.n1 18 17,.b1 19 .gtr 18 (.i 0)]) (.cnd 19 (.s (.r [.mv 20 0,.mv 21 3,.o1 22 129 [20,21]]) (.s (.r [.m1 2 (.i 20)]) .ret)) .skip)) (.s (.d [.mv 24 0,.mv 25 0,.ex 26 (.nck 25),.f1 27 0 26,.l2 28 3 27,.mv 29 0,.ex 30 (.nck 29),.f1 31 10 30,.l2 32 4 31,.c1 33 130 [28,32],.mv 23 33,.e1 34 23 0,.e1 35 23 1,.ex 36 (.nck 24),.f1 37 0 36,.s1 3 37 34]) (.s (.r [.mv 38 0,.mv 39 0,.ex 40 (.build [(I 0),sE,sE,sE] []),.ex 41 (.nck 38),.f1 42 9 41,.nu (.st 1 42 .n),.ex 43 (.nck 39),.f1 44 10 43,.s1 4 44 40]) (.s (.r [.m1 2 (.i 0)]) .ret)))))))
theorem znN:zc Tryz.prog [129,128] 82=some (zgA.ac,[(.t 2)],45):=by kernel_rfl
theorem zhC (W0:World) (hM:HM W0) (w:Wld) (h:WG w) (hl:w.leases.length≤1000000):zv Tryz.prog W0 82 [.ptr 4 0] (wMp w) (fun _:Unit=>True) (fun _ => .c (CI (tryW w).2)) (fun _=>wMp (tryW w).1):=by
 refine funW (c:=zgA) mixed znN (by simp) rfl rfl fun hg=>?_
 have hn:w.net.length≤1000:=by have:=h.pl.nl; omega
 have hb:=zoE W0 hM w w.op h hl;have hbl:(zI w w.op).length≤1000000:=Nat.le_trans (List.length_filter_le _ _) hl;have ho:=zoV W0 hM w.over w.op;have hw:tryW w=if w.waits=false then (w,22) else if zI w w.op≠[] then (jP w (zI w w.op),20)
  else ({ w with over:=(oDo w.over w.op).1,waits:=false,op:=jc },0):=rfl
 rw [hw];generalize hb2:zI w w.op=b at *;generalize oDo w.over w.op=o2 at *;refine dr ?_;apply cP<;>intro h1
 ·rw [if_pos h1];refine dr ?_;refine ⟨none,_,_,?_,(),trivial,rfl,rfl⟩;refine dr ?_;trivial
 rw [if_neg (by simp [h1])];refine dr ?_;refine oW hb rfl ⟨rfl,rfl,rfl,rfl,rfl,rfl,rfl,trivial⟩ rfl rfl ⟨(),trivial⟩ fun _ _=>⟨rfl,?_⟩
 refine dEr ?_;apply cP<;>intro h3
 ·rw [if_pos (by rintro rfl; simp at h3)];refine dr ?_;refine oW (zpP W0 w b hn hbl) rfl ⟨rfl,rfl,rfl,rfl,rfl,rfl,rfl,rfl,trivial⟩ rfl rfl ⟨(),trivial⟩ fun _ _=>⟨rfl,?_⟩
  refine dEr ?_;refine ⟨none,_,_,?_,(),trivial,rfl,rfl⟩;refine dr ?_;trivial
 ·have hb0:b=[]:=List.eq_nil_of_length_eq_zero (by omega);rw [if_neg (by simp [hb0])];refine dEr ?_;repeat (refine c0 ho rfl ?_; first | refine dEr ?_ | exact dz)
  refine ⟨none,_,_,?_,(),trivial,rfl,rfl⟩;refine dr ?_;trivial
def zgB:XC:=(.s (.r [.ex 3 (.box 1),.m1 4 (.i 0)]) (.s (.s (.r [.mv 9 0,.ex 10 (.nck 9),.f1 11 9 10,.l1 12 1 11]) (.cnd 12 (.s (.r [.m1 4 (.i 21)]) .ret) .skip)) (.s (.r [.mv 14 0,.ex 15 (.nck 14),.f1 16 0 15,.l2 17 3 16,.c1 18 14 [17],.mv 13 18,.e1 19 13 0,.e1 20 13 1,.a1 5 19 3 39,.mv 6 20]) (.s (.s (.r [.mv 22 5,.l2 23 4 3,.c1 24 31 [22,23],.mv 21 24,.e1 25 21 0,.e1 26 21 1,.a1 7 25 3 39,.mv 8 26]) (.s (.r [.mv 27 8,.b1 28 .neq 27 (.i 0)]) (.cnd 28 (.s (.r [.mv 29 8,.mv 4 29]) .ret) .skip))) (.s (.d [.mv 30 0,.mv 31 0,.exo [4] 32 (.ld true 4 3),.ex 33 (.nck 30),.f1 34 9 33,.nuo [4] (.st 1 34 .y),.ex 35 (.nck 31),.f1 36 10 35,.nuo [4] (.st 4 36 32)]) (.s (.r [.mv 37 0,.o1 38 82 [37],.mv 4 38]) .ret))))))
theorem znO:zc Tryz.prog [82,1000004] 81=some (zgB.ac,[(.t 4)],39):=by kernel_rfl
theorem ztn {w:Wld} {op:Op} (h:WG w) (h1:w.waits=false) (h2:(zE (vwG w.over) op).2=0):tryW { w with waits:=true,op:=op }=jD w op:=by
 have e:zI { w with waits:=true,op:=op } op=zI w op:=rfl;unfold tryW;rw [if_neg (by simp)];show (if zI { w with waits:=true,op:=op } op≠[] then (jP { w with waits:=true,op:=op } (zI { w with waits:=true,op:=op } op),20) else (({ w with over:=(oDo w.over op).1,waits:=false,op:=jc }:Wld),0))=_;rw [e];by_cases hb:zI w op=[]
 ·rw [if_neg (fun hh=>hh hb)];unfold jD;rw [if_neg (by simp [h1]),if_neg (fun hh=>hh h2),if_neg (fun hh=>hh hb),← h.idle h1]
 ·rw [if_pos hb];unfold jD;rw [if_neg (by simp [h1]),if_neg (fun hh=>hh h2),if_pos hb]
theorem zp5 (W0:World) (hM:HM W0) (w:Wld) (op:Op) (h:WG w) (hl:w.leases.length≤1000000):zv Tryz.prog W0 81 [.ptr 4 0,.c (eOp op)] (wMp w) (fun _:Unit=>True) (fun _ => .c (CI (jD w op).2)) (fun _=>wMp (jD w op).1):=by
 refine funW (c:=zgB) mixed znO (by simp) rfl rfl fun hg=>?_
 have hv:=Y0 W0 hM w.over;rw [if_pos h.ov,za4 h] at hv;have hd:=Y1 W0 hM (vwG w.over) op;have wt:=@ztn w op h;have ht:=zhC W0 hM { w with waits:=true,op:=op };have hw1:w.waits=true→jD w op=(w,21):=fun h1=>by unfold jD; rw [if_pos h1]
 have hw2:w.waits=false→(zE (vwG w.over) op).2≠0→jD w op=(w,(zE (vwG w.over) op).2):=fun h1 h2=>by unfold jD; rw [if_neg (by simp [h1]),if_pos h2]
 have hg2:(zE (vwG w.over) op).2=0→WG { w with waits:=true,op:=op }:=h.wait;generalize zE (vwG w.over) op=r at *;refine dr ?_;apply cP<;>intro h1
 ·rw [hw1 h1];refine dr ?_;refine ⟨none,_,_,?_,(),trivial,rfl,rfl⟩;refine dr ?_;trivial
 refine dEr ?_;repeat ((first | refine c0 hv rfl ?_ | refine c0 hd rfl ?_); first | refine dEr ?_ | exact dz)
 apply cP<;>intro h2
 ·rw [hw2 h1 h2];refine dr ?_;refine ⟨none,_,_,?_,(),trivial,rfl,rfl⟩;refine dr ?_;trivial
 rw [← wt h1 h2];refine dr ?_;refine oW (ht (hg2 h2) hl) rfl ⟨rfl,rfl,rfl,rfl,rfl,rfl,rfl,rfl,trivial⟩ rfl rfl ⟨(),trivial⟩ fun _ _=>⟨rfl,?_⟩
 refine dEr ?_;refine ⟨none,_,_,?_,(),trivial,rfl,rfl⟩;refine dr ?_;trivial
def zgz:XC:=(.s (.r [.ex 1 (.box 0)]) (.s (.d [.l1 2 1 1,.l1 3 1 1,.ex 4 (.nck 3),.f1 5 3 4,.l1 6 1 5,.b1 7 .add 6 (.i 1),.ex 8 (.mm false 7 (.i 10000)),.ex 9 (.nck 2),.f1 10 3 9,.s1 1 10 8]) (.d [.exo [5,1600] 11 (.ld false 1 1),.exo [5,1600] 12 (.ld false 1 1),.ex 13 (.nck 12),.f1 14 5 13,.exo [5,1600] 15 (.ld false 1 14),.ex 16 (.fnv 132 [1]),.exo [5,1600] 17 (.opn 131 [15,16]),.ex 18 (.nck 11),.f1 19 5 18,.s1 1 19 17])))
theorem znM:zc Tryz.prog [131,1000005,1001600] 83=some (zgz.ac,[],20):=by kernel_rfl
theorem zp3 (W0:World) (w:Wld) (h:WG w) (hl:w.leases.length≤1000000):zv Tryz.prog W0 83 [.ptr 4 0] (wMp w) (fun _:Unit=>True) (fun _ => .tup []) (fun _=>wMl true (yF w)):=by
 refine funW (c:=zgz) mixed znM (by simp) rfl rfl fun hg=>?_
 have hc:=h.pl.ck;have e0:yF w={ w with clock:=min (w.clock+1) 10000,leases:=w.leases.filter fun l=>!decide (l.til≤min (w.clock+1) 10000) }:=by
  have e1:j3 w=min (w.clock+1) 10000:=by unfold j3; split<;>omega
  unfold yF;rw [e1]
  congr 1
  refine List.filter_congr fun x _=>?_
  rw [Bool.eq_iff_iff]; simp
 rw [e0];refine dr ?_;repeat (refine oB (by omega) ?_; first | refine dr ?_ | exact dz)
 refine oW (zoj W0 w.leases hl 5 1600 16 4 [(16,.box [.ptr 4 0]),(4,.box (wCx 5 11 { w with clock:=min (w.clock+1) 10000 })),(6,.rowP [.own 7 (hdW w 0).length,.own 8 (hdW w 1).length,.own 9 (hdW w 2).length] 56),(7,.row ((hdW w 0).map zD) 7 53),(8,.row ((hdW w 1).map zD) 7 53),(9,.row ((hdW w 2).map zD) 7 53),(10,.row (w.floors.map CI) 1 3),(11,.row (w.net.map eMsg) 9 55)] (wCx 5 11 { w with clock:=min (w.clock+1) 10000 }) (min (w.clock+1) 10000) (by decide) rfl rfl rfl rfl rfl) rfl ⟨rfl,rfl,rfl,rfl,rfl,rfl,rfl,rfl,rfl,trivial⟩ rfl rfl ⟨(),trivial⟩ fun _ _=>⟨rfl,?_⟩
 refine dEr ?_;refine ⟨none,_,_,?_,(),trivial,rfl,rfl⟩;refine dr ?_;trivial
def zgp:XC:=(.s (.r [.mv 9 0,.ex 10 (.nck 9),.f1 11 5 10,.l1 12 1 11,.mv 13 1,.mv 14 2,.c1 15 104 [12,13,14],.mv 8 15]) (.s (.r [.mv 16 8,.b1 17 .geq 16 (.i 0),.mv 18 17,.gt 19 (.mv 0) 18,.gt 20 (.nck 19) 18,.gt 21 (.fa 5 20) 18,.gt 22 (.ld false 1 21) 18,.gt 23 (.mv 8) 18,.gt 24 (.ia 4 22 23) 18,.gt 25 (.fa 2 24) 18,.gt 26 (.ld false 1 25) 18,.gt 27 (.mv 3) 18,.gt 28 (.bin .leq 26 27) 18,.ex 29 (.pick 18 28 .n)]) (.cnd 29 (.r [.mv 30 0,.mv 31 0,.ex 32 (.nck 31),.f1 33 5 32,.l1 34 1 33,.mv 35 8,.mv 36 8,.b1 37 .add 36 (.i 1),.o1 38 186 [34,35,37],.ex 39 (.nck 30),.f1 40 5 39,.s1 1 40 38]) .skip)))
theorem znC:zc Tryz.prog [186] 137=some (zgp.ac,[],41):=by kernel_rfl
theorem zoJ (W0:World) (w:Wld) (who:Int) (p:Str) (num:Int) (h:WG w) (hl:w.leases.length≤1000000):zv Tryz.prog W0 137 [.ptr 4 0,.c (CI who),.c (CS p),.c (CI num)] (wMp w) (fun _:Bool=>True) (fun _ => .tup []) (fun b=>wMl b { w with leases:=jj w.leases who p num }):=by
 refine funW (c:=zgp) mixed znC (by simp) rfl rfl fun hg=>?_
 have ho:=zi5 h.ls.d (who:=who) (n:=num) (p:=p);have hla:=Y7 W0 w.leases who p;refine dEr ?_;repeat (refine c0 hla rfl ?_; first | refine dEr ?_ | exact dz)
 rcases @Q8 w.leases who p with ⟨e1,e2⟩ | ⟨j,hj,e1,e2⟩
 ·rw [e2] at ho;rw [e1,show jj w.leases who p num=w.leases from ho];apply cP<;>intro h3
  ·omega
  refine dr ?_;refine ⟨none,_,_,?_,false,trivial,rfl,rfl⟩;refine dr ?_;trivial
 rw [e2,e1] at ho;have ho:jj w.leases who p num=if w.leases[j].num≤num then w.leases.eraseIdx (j:Int).toNat else w.leases:=ho
 rw [e1,ho];apply cP<;>intro h3;rotate_left
 ·omega
 refine dr ?_;apply cP<;>intro h4
 ·rw [if_pos h4];refine dr ?_;refine oW (zbz W0 w.leases j hj 5 1600 (by decide) hl) rfl ⟨rfl,trivial⟩ rfl rfl ⟨(),trivial⟩ fun _ _=>⟨rfl,?_⟩
  refine dEr ?_;refine ⟨none,_,_,?_,true,trivial,rfl,rfl⟩;refine dr ?_;repeat (refine oB (by simp [List.length_eraseIdx,hj]) ?_; first | refine dr ?_ | exact dz)
  trivial
 ·rw [if_neg (Int.not_le.2 h4)];refine dr ?_;refine ⟨none,_,_,?_,false,trivial,rfl,rfl⟩;refine dr ?_;trivial
theorem zkx {w:Wld} {L:List Hold} {f:List Int} (h:w.holds.length=3):hdW { w with holds:=w.holds.set 0 L,floors:=f } 0=L∧hdW { w with holds:=w.holds.set 0 L,floors:=f } 1=hdW w 1∧hdW { w with holds:=w.holds.set 0 L,floors:=f } 2=hdW w 2:=by
 obtain ⟨a,b,c,e⟩:=Yo h;unfold hdW; simp only [e]; exact ⟨rfl,rfl,rfl⟩
theorem zky {w:Wld} {L:List Hold} {f:List Int} (h:w.holds.length=3):hdW { w with holds:=w.holds.set 1 L,floors:=f } 0=hdW w 0∧hdW { w with holds:=w.holds.set 1 L,floors:=f } 1=L∧hdW { w with holds:=w.holds.set 1 L,floors:=f } 2=hdW w 2:=by
 obtain ⟨a,b,c,e⟩:=Yo h;unfold hdW; simp only [e]; exact ⟨rfl,rfl,rfl⟩
theorem zkz {w:Wld} {L:List Hold} {f:List Int} (h:w.holds.length=3):hdW { w with holds:=w.holds.set 2 L,floors:=f } 0=hdW w 0∧hdW { w with holds:=w.holds.set 2 L,floors:=f } 1=hdW w 1∧hdW { w with holds:=w.holds.set 2 L,floors:=f } 2=L:=by
 obtain ⟨a,b,c,e⟩:=Yo h;unfold hdW; simp only [e]; exact ⟨rfl,rfl,rfl⟩
theorem qu {l a b c n:Nat} {w:Wld} {H:List (List Hold)} {f:List Int} {x y z:List Hold} (s:hdW { w with holds:=H,floors:=f } 0=x∧hdW { w with holds:=H,floors:=f } 1=y∧hdW { w with holds:=H,floors:=f } 2=z):wMx l a b c n { w with holds:=H,floors:=f }=[(4,.box (wCx l n { w with floors:=f })),(l,.row (w.leases.map jy) 4 72),(6,.rowP [.own a x.length,.own b y.length,.own c z.length] 56),(a,.row (x.map zD) 7 53),(b,.row (y.map zD) 7 53),(c,.row (z.map zD) 7 53),(10,.row (f.map CI) 1 3),(n,.row (w.net.map eMsg) 9 55)]:=by
 obtain ⟨rfl,rfl,rfl⟩:=s; rfl
def zgr:XC:=(.s (.r [.ex 5 (.box 2)]) (.s (.s (.d [.f1 8 6 5,.l1 9 1 8,.mv 10 0,.ex 11 (.nck 10),.f1 12 3 11,.l1 13 1 12,.b1 14 .leq 9 13,.mv 15 14,.gf 16 (.fa 5 5) 15,.gf 17 (.ld false 1 16) 15,.gf 18 (.mv 0) 15,.gf 19 (.nck 18) 15,.gf 20 (.fa 7 19) 15,.gf 21 (.ld false 1 20) 15,.gf 22 (.mv 1) 15,.gf 23 (.ia 1 21 22) 15,.gf 24 (.ld false 1 23) 15,.gf 25 (.bin .leq 17 24) 15,.ex 26 (.pick 15 .y 25)]) (.cnd 26 .ret .skip)) (.s (.r [.mv 27 0,.ex 28 (.nck 27),.f1 29 6 28,.l1 30 1 29,.mv 31 1,.i1 32 1 30 31,.l1 33 1 32,.a1 6 33 7 53]) (.s (.s (.r [.mv 34 6,.f1 35 0 5,.l1 36 1 35,.c1 37 41 [34,36],.mv 7 37]) (.s (.r [.mv 38 7,.b1 39 .geq 38 (.i 0)]) (.cnd 39 (.s (.s (.d [.mv 40 6,.mv 41 7,.i1 42 7 40 41,.f1 43 5 42,.l1 44 1 43,.f1 45 5 5,.l1 46 1 45,.b1 47 .geq 44 46]) (.cnd 47 .ret .skip)) (.r [.mv 48 6,.mv 49 7,.mv 50 7,.b1 51 .add 50 (.i 1),.o1 52 187 [48,49,51],.a1 6 52 7 53])) .skip))) (.d [.mv 53 0,.ex 54 (.nck 53),.f1 55 6 54,.exo [7,1616] 56 (.ld false 1 55),.mv 57 1,.mv 58 6,.exo [7,1616] 59 (.ld true 7 5),.exo [7,1616] 60 (.bsl 7 53 [59]),.exo [7,1616] 61 (.app false 7 80 53 58 60),.exo [7,1616] 62 (.ia 1 56 57),⟨.none,(.st 1 62 61),.none,false,[7,1616]⟩])))))
theorem znE:zc Tryz.prog [187,1000007,1001616] 135=some (zgr.ac,[],63):=by kernel_rfl
theorem zoK (W0:World) (w:Wld) (x:Hold) (h:WG w) (hz:HZ 1000000 w):zv Tryz.prog W0 135 [.ptr 4 0,I 0,.c (zD x)] (wMp w) (fun _:Bool=>True) (fun _ => .tup []) (fun b=>wM0 b (if w.clock < x.til∧flW w 0 < x.num then { w with holds:=w.holds.set 0 (jd (hdW w 0) x) } else w)):=by
 have hw:isW 0:=⟨by omega,by omega⟩;have f3:=h.pl.fl;have s:=@zkx w (jd (hdW w 0) x) w.floors h.pl.hl;have hd:(hdW w 0).Pairwise fun a b=>a.path≠b.path:=(h.hd 0 (by omega)).d
 have hlen:(hdW w 0).length≤1000000:=yR hz 0;have ht:=zda hd (h:=x);have hcs:=Ze (hdW w 0) x.path;have hha:=ZO W0 (hdW w 0) x.path;refine funW (c:=zgr) mixed znE (by simp) rfl rfl fun hg=>?_
 refine dr ?_;apply cP<;>intro c1
 ·rw [if_neg (by omega)];refine dr ?_;refine ⟨none,_,_,?_,false,trivial,rfl,rfl⟩;refine dr ?_;trivial
 refine dr ?_;repeat ((first | refine oB (by rw [f3]; decide) ?_ | refine aFl hw f3 ?_); first | refine dr ?_ | exact dz)
 apply cP<;>intro c2
 ·rw [if_neg (by omega)];refine dr ?_;refine ⟨none,_,_,?_,false,trivial,rfl,rfl⟩;refine dr ?_;trivial
 rw [if_pos ⟨by omega,by omega⟩];refine dEr ?_;repeat ((first | refine oB (by decide) ?_ | refine c0 hha rfl ?_); first | refine dEr ?_ | exact dz)
 rcases hcs with ⟨e1,e2⟩ | ⟨j,hj,e1,e2,e3⟩
 ·rw [e1];apply cP<;>intro c3
  ·omega
  have tk:=ht.2.2 e1;refine dr ?_;repeat ((first | refine oB (by decide) ?_ | refine oB (by simp; omega) ?_ | refine oB (by simp) ?_); first | refine dr ?_ | exact dz)
  refine ⟨none,_,_,?_,false,trivial,rfl,(qu s).symm⟩;rw [tk];refine dr ?_;repeat (refine oB (by simp<;>rfl) ?_; first | refine dr ?_ | exact dz)
  trivial
 rw [e1];apply cP<;>intro c3;rotate_left
 ·omega
 refine dr ?_;apply cP<;>intro c4
 ·have tk:=ht.1 j hj e1 c4;refine dr ?_;refine ⟨none,_,_,?_,false,trivial,rfl,(qu s).symm⟩;rw [tk];refine dr ?_;trivial
 have tk:=ht.2.1 j hj e1 (by omega);refine dr ?_;refine oW (JW W0 (hdW w 0) j hj 7 1616 (by decide) hlen) rfl ⟨rfl,trivial⟩ rfl rfl ⟨(),trivial⟩ fun _ _=>⟨rfl,?_⟩
 refine dEr ?_;repeat ((first | refine oB (by decide) ?_ | refine oB (by simp [List.length_eraseIdx,hj]) ?_ | refine oB (by simp; omega) ?_ | refine oB (by simp) ?_); first | refine dEr ?_ | exact dz)
 refine ⟨none,_,_,?_,true,trivial,rfl,congrArg (List.cons _) (qu s).symm⟩;rw [tk];refine dr ?_;repeat (refine oB (by simp [List.length_eraseIdx,hj]<;>rfl) ?_; first | refine dr ?_ | exact dz)
 trivial
def zgs:XC:=(.s (.r [.ex 5 (.box 2)]) (.s (.s (.d [.f1 8 6 5,.l1 9 1 8,.mv 10 0,.ex 11 (.nck 10),.f1 12 3 11,.l1 13 1 12,.b1 14 .leq 9 13,.mv 15 14,.gf 16 (.fa 5 5) 15,.gf 17 (.ld false 1 16) 15,.gf 18 (.mv 0) 15,.gf 19 (.nck 18) 15,.gf 20 (.fa 7 19) 15,.gf 21 (.ld false 1 20) 15,.gf 22 (.mv 1) 15,.gf 23 (.ia 1 21 22) 15,.gf 24 (.ld false 1 23) 15,.gf 25 (.bin .leq 17 24) 15,.ex 26 (.pick 15 .y 25)]) (.cnd 26 .ret .skip)) (.s (.r [.mv 27 0,.ex 28 (.nck 27),.f1 29 6 28,.l1 30 1 29,.mv 31 1,.i1 32 1 30 31,.l1 33 1 32,.a1 6 33 7 53]) (.s (.s (.r [.mv 34 6,.f1 35 0 5,.l1 36 1 35,.c1 37 41 [34,36],.mv 7 37]) (.s (.r [.mv 38 7,.b1 39 .geq 38 (.i 0)]) (.cnd 39 (.s (.s (.d [.mv 40 6,.mv 41 7,.i1 42 7 40 41,.f1 43 5 42,.l1 44 1 43,.f1 45 5 5,.l1 46 1 45,.b1 47 .geq 44 46]) (.cnd 47 .ret .skip)) (.r [.mv 48 6,.mv 49 7,.mv 50 7,.b1 51 .add 50 (.i 1),.o1 52 187 [48,49,51],.a1 6 52 7 53])) .skip))) (.d [.mv 53 0,.ex 54 (.nck 53),.f1 55 6 54,.exo [8,1616] 56 (.ld false 1 55),.mv 57 1,.mv 58 6,.exo [8,1616] 59 (.ld true 7 5),.exo [8,1616] 60 (.bsl 7 53 [59]),.exo [8,1616] 61 (.app false 7 80 53 58 60),.exo [8,1616] 62 (.ia 1 56 57),⟨.none,(.st 1 62 61),.none,false,[8,1616]⟩])))))
theorem znF:zc Tryz.prog [187,1000008,1001616] 135=some (zgs.ac,[],63):=by kernel_rfl
theorem zoL (W0:World) (w:Wld) (x:Hold) (h:WG w) (hz:HZ 1000000 w):zv Tryz.prog W0 135 [.ptr 4 0,I 1,.c (zD x)] (wMp w) (fun _:Bool=>True) (fun _ => .tup []) (fun b=>wM1 b (if w.clock < x.til∧flW w 1 < x.num then { w with holds:=w.holds.set 1 (jd (hdW w 1) x) } else w)):=by
 have hw:isW 1:=⟨by omega,by omega⟩;have f3:=h.pl.fl;have s:=@zky w (jd (hdW w 1) x) w.floors h.pl.hl;have hd:(hdW w 1).Pairwise fun a b=>a.path≠b.path:=(h.hd 1 (by omega)).d
 have hlen:(hdW w 1).length≤1000000:=yR hz 1;have ht:=zda hd (h:=x);have hcs:=Ze (hdW w 1) x.path;have hha:=ZO W0 (hdW w 1) x.path;refine funW (c:=zgs) mixed znF (by simp) rfl rfl fun hg=>?_
 refine dr ?_;apply cP<;>intro c1
 ·rw [if_neg (by omega)];refine dr ?_;refine ⟨none,_,_,?_,false,trivial,rfl,rfl⟩;refine dr ?_;trivial
 refine dr ?_;repeat ((first | refine oB (by rw [f3]; decide) ?_ | refine aFl hw f3 ?_); first | refine dr ?_ | exact dz)
 apply cP<;>intro c2
 ·rw [if_neg (by omega)];refine dr ?_;refine ⟨none,_,_,?_,false,trivial,rfl,rfl⟩;refine dr ?_;trivial
 rw [if_pos ⟨by omega,by omega⟩];refine dEr ?_;repeat ((first | refine oB (by decide) ?_ | refine c0 hha rfl ?_); first | refine dEr ?_ | exact dz)
 rcases hcs with ⟨e1,e2⟩ | ⟨j,hj,e1,e2,e3⟩
 ·rw [e1];apply cP<;>intro c3
  ·omega
  have tk:=ht.2.2 e1;refine dr ?_;repeat ((first | refine oB (by decide) ?_ | refine oB (by simp; omega) ?_ | refine oB (by simp) ?_); first | refine dr ?_ | exact dz)
  refine ⟨none,_,_,?_,false,trivial,rfl,(qu s).symm⟩;rw [tk];refine dr ?_;repeat (refine oB (by simp<;>rfl) ?_; first | refine dr ?_ | exact dz)
  trivial
 rw [e1];apply cP<;>intro c3;rotate_left
 ·omega
 refine dr ?_;apply cP<;>intro c4
 ·have tk:=ht.1 j hj e1 c4;refine dr ?_;refine ⟨none,_,_,?_,false,trivial,rfl,(qu s).symm⟩;rw [tk];refine dr ?_;trivial
 have tk:=ht.2.1 j hj e1 (by omega);refine dr ?_;refine oW (JW W0 (hdW w 1) j hj 8 1616 (by decide) hlen) rfl ⟨rfl,trivial⟩ rfl rfl ⟨(),trivial⟩ fun _ _=>⟨rfl,?_⟩
 refine dEr ?_;repeat ((first | refine oB (by decide) ?_ | refine oB (by simp [List.length_eraseIdx,hj]) ?_ | refine oB (by simp; omega) ?_ | refine oB (by simp) ?_); first | refine dEr ?_ | exact dz)
 refine ⟨none,_,_,?_,true,trivial,rfl,congrArg (List.cons _) (qu s).symm⟩;rw [tk];refine dr ?_;repeat (refine oB (by simp [List.length_eraseIdx,hj]<;>rfl) ?_; first | refine dr ?_ | exact dz)
 trivial
def zgt:XC:=(.s (.r [.ex 5 (.box 2)]) (.s (.s (.d [.f1 8 6 5,.l1 9 1 8,.mv 10 0,.ex 11 (.nck 10),.f1 12 3 11,.l1 13 1 12,.b1 14 .leq 9 13,.mv 15 14,.gf 16 (.fa 5 5) 15,.gf 17 (.ld false 1 16) 15,.gf 18 (.mv 0) 15,.gf 19 (.nck 18) 15,.gf 20 (.fa 7 19) 15,.gf 21 (.ld false 1 20) 15,.gf 22 (.mv 1) 15,.gf 23 (.ia 1 21 22) 15,.gf 24 (.ld false 1 23) 15,.gf 25 (.bin .leq 17 24) 15,.ex 26 (.pick 15 .y 25)]) (.cnd 26 .ret .skip)) (.s (.r [.mv 27 0,.ex 28 (.nck 27),.f1 29 6 28,.l1 30 1 29,.mv 31 1,.i1 32 1 30 31,.l1 33 1 32,.a1 6 33 7 53]) (.s (.s (.r [.mv 34 6,.f1 35 0 5,.l1 36 1 35,.c1 37 41 [34,36],.mv 7 37]) (.s (.r [.mv 38 7,.b1 39 .geq 38 (.i 0)]) (.cnd 39 (.s (.s (.d [.mv 40 6,.mv 41 7,.i1 42 7 40 41,.f1 43 5 42,.l1 44 1 43,.f1 45 5 5,.l1 46 1 45,.b1 47 .geq 44 46]) (.cnd 47 .ret .skip)) (.r [.mv 48 6,.mv 49 7,.mv 50 7,.b1 51 .add 50 (.i 1),.o1 52 187 [48,49,51],.a1 6 52 7 53])) .skip))) (.d [.mv 53 0,.ex 54 (.nck 53),.f1 55 6 54,.exo [9,1616] 56 (.ld false 1 55),.mv 57 1,.mv 58 6,.exo [9,1616] 59 (.ld true 7 5),.exo [9,1616] 60 (.bsl 7 53 [59]),.exo [9,1616] 61 (.app false 7 80 53 58 60),.exo [9,1616] 62 (.ia 1 56 57),⟨.none,(.st 1 62 61),.none,false,[9,1616]⟩])))))
theorem znG:zc Tryz.prog [187,1000009,1001616] 135=some (zgt.ac,[],63):=by kernel_rfl
theorem zoM (W0:World) (w:Wld) (x:Hold) (h:WG w) (hz:HZ 1000000 w):zv Tryz.prog W0 135 [.ptr 4 0,I 2,.c (zD x)] (wMp w) (fun _:Bool=>True) (fun _ => .tup []) (fun b=>wM2 b (if w.clock < x.til∧flW w 2 < x.num then { w with holds:=w.holds.set 2 (jd (hdW w 2) x) } else w)):=by
 have hw:isW 2:=⟨by omega,by omega⟩;have f3:=h.pl.fl;have s:=@zkz w (jd (hdW w 2) x) w.floors h.pl.hl;have hd:(hdW w 2).Pairwise fun a b=>a.path≠b.path:=(h.hd 2 (by omega)).d
 have hlen:(hdW w 2).length≤1000000:=yR hz 2;have ht:=zda hd (h:=x);have hcs:=Ze (hdW w 2) x.path;have hha:=ZO W0 (hdW w 2) x.path;refine funW (c:=zgt) mixed znG (by simp) rfl rfl fun hg=>?_
 refine dr ?_;apply cP<;>intro c1
 ·rw [if_neg (by omega)];refine dr ?_;refine ⟨none,_,_,?_,false,trivial,rfl,rfl⟩;refine dr ?_;trivial
 refine dr ?_;repeat ((first | refine oB (by rw [f3]; decide) ?_ | refine aFl hw f3 ?_); first | refine dr ?_ | exact dz)
 apply cP<;>intro c2
 ·rw [if_neg (by omega)];refine dr ?_;refine ⟨none,_,_,?_,false,trivial,rfl,rfl⟩;refine dr ?_;trivial
 rw [if_pos ⟨by omega,by omega⟩];refine dEr ?_;repeat ((first | refine oB (by decide) ?_ | refine c0 hha rfl ?_); first | refine dEr ?_ | exact dz)
 rcases hcs with ⟨e1,e2⟩ | ⟨j,hj,e1,e2,e3⟩
 ·rw [e1];apply cP<;>intro c3
  ·omega
  have tk:=ht.2.2 e1;refine dr ?_;repeat ((first | refine oB (by decide) ?_ | refine oB (by simp; omega) ?_ | refine oB (by simp) ?_); first | refine dr ?_ | exact dz)
  refine ⟨none,_,_,?_,false,trivial,rfl,(qu s).symm⟩;rw [tk];refine dr ?_;repeat (refine oB (by simp<;>rfl) ?_; first | refine dr ?_ | exact dz)
  trivial
 rw [e1];apply cP<;>intro c3;rotate_left
 ·omega
 refine dr ?_;apply cP<;>intro c4
 ·have tk:=ht.1 j hj e1 c4;refine dr ?_;refine ⟨none,_,_,?_,false,trivial,rfl,(qu s).symm⟩;rw [tk];refine dr ?_;trivial
 have tk:=ht.2.1 j hj e1 (by omega);refine dr ?_;refine oW (JW W0 (hdW w 2) j hj 9 1616 (by decide) hlen) rfl ⟨rfl,trivial⟩ rfl rfl ⟨(),trivial⟩ fun _ _=>⟨rfl,?_⟩
 refine dEr ?_;repeat ((first | refine oB (by decide) ?_ | refine oB (by simp [List.length_eraseIdx,hj]) ?_ | refine oB (by simp; omega) ?_ | refine oB (by simp) ?_); first | refine dEr ?_ | exact dz)
 refine ⟨none,_,_,?_,true,trivial,rfl,congrArg (List.cons _) (qu s).symm⟩;rw [tk];refine dr ?_;repeat (refine oB (by simp [List.length_eraseIdx,hj]<;>rfl) ?_; first | refine dr ?_ | exact dz)
 trivial

def zgo:XC:=(.s (.s (.d [.mv 12 0,.ex 13 (.nck 12),.f1 14 4 13,.l1 15 1 14,.b1 16 .eql 15 (.i 10000),.mv 17 16,.gf 18 (.mv 0) 17,.gf 19 (.nck 18) 17,.gf 20 (.fa 9 19) 17,.gf 21 (.ld false 1 20) 17,.gf 22 (.mv 21) 17,.gt 23 (.mv 0) 22,.gt 24 (.nck 23) 22,.gt 25 (.ld true 14 24) 22,.gt 26 (.mv 0) 22,.gt 27 (.nck 26) 22,.gt 28 (.fa 10 27) 22,.gt 29 (.ld true 4 28) 22,.gt 30 (.opn 184 [25,29]) 22,.gt 31 (.mv 2) 22,.gt 32 (.call 185 [30,31]) 22,.gf 33 (.pick 22 32 .n) 17,.ex 34 (.pick 17 .y 33)]) (.cnd 34 .ret .skip)) (.s (.r [.mv 35 0,.ex 36 (.nck 35),.f1 37 4 36,.l1 38 1 37,.b1 39 .add 38 (.i 1),.ex 40 (.nck 35),.f1 41 4 40,.s1 1 41 39]) (.s (.r [.mv 42 0,.ex 43 (.nck 42),.f1 44 3 43,.l1 45 1 44,.b1 46 .add 45 (.i 5),.mv 6 46]) (.cut (.s (.r [.mv 47 0,.ex 48 (.nck 47),.f1 49 5 48,.l1 50 1 49,.mv 51 1,.mv 52 2,.c1 53 104 [50,51,52],.mv 7 53]) (.s (.r [.mv 54 7,.b1 55 .geq 54 (.i 0)]) (.cnd 55 (.r [.mv 56 0,.mv 57 0,.ex 58 (.nck 57),.f1 59 5 58,.l1 60 1 59,.mv 61 7,.mv 62 7,.b1 63 .add 62 (.i 1),.o1 64 186 [60,61,63],.ex 65 (.nck 56),.f1 66 5 65,.s1 1 66 64]) .skip))) (.s (.d [.mv 67 0,.mv 68 0,.ex 69 (.nck 68),.f1 70 5 69,.l1 71 1 70,.mv 72 1,.mv 73 2,.mv 74 0,.ex 75 (.nck 74),.f1 76 4 75,.l1 77 1 76,.mv 78 6,.ex 79 (.build [(I 0),sE,(I 0),(I 0)] [(0,(1,72)),(1,(1,73)),(2,(1,77)),(3,(1,78))]),.ex 80 (.bsl 4 72 [79]),.ex 81 (.app false 4 40 72 71 80),.ex 82 (.nck 67),.f1 83 5 82,.s1 1 83 81]) (.s (.r [.mv 85 0,.ex 86 (.nck 85),.f1 87 0 86,.l2 88 3 87,.c1 89 14 [88],.mv 84 89,.e1 90 84 0,.e1 91 84 1,.a1 8 90 3 39,.mv 9 91]) (.s (.r [.mv 93 8,.mv 94 2,.c1 95 15 [93,94],.mv 92 95,.e1 96 92 0,.e1 97 92 1,.ex 10 (.alloc [sE,(B false),sE]),.s1 3 10 96,.mv 11 97]) (.d [.mv 98 0,.mv 99 1,.mv 100 2,.mv 101 11,.l2 102 3 10,.mv 103 0,.ex 104 (.nck 103),.f1 105 4 104,.l1 106 1 105,.mv 107 6,.ex 108 (.build [sE,(B false),sE,(B false),sE,(I 0),(I 0)] [(0,(1,100)),(1,(1,101)),(2,(3,102)),(5,(1,106)),(6,(1,107))]),.ex 109 (.build [(I 0),(I 0),sE,(B false),sE,(B false),sE,(I 0),(I 0)] [(0,(1,(.i 2))),(1,(1,99)),(2,(7,108))]),.o1 110 80 [98,109]]))))))))
theorem znB:zc Tryz.prog [80,186,184] 134=some (zgo.ac,[],111):=by kernel_rfl
theorem zao {w:Wld} {who:Int} {p:Str}:XB.row ((jj w.leases who p (w.count+1)).map jy++[jy ⟨who,p,w.count+1,w.clock+5⟩]) 4 72 = .row ((grantL w who p).leases.map jy) 4 72:=xrow1
theorem zoI (W0:World) (hM:HM W0) (w:Wld) (who:Int) (p:Str) (h:WG w) (hl:w.leases.length≤1000000):zv Tryz.prog W0 134 [.ptr 4 0,.c (CI who),.c (CS p)] (wMp w) (fun _:Bool=>True) (fun _ => .tup []) (fun b=>wMl b (qN w who p)):=by
 refine funW (c:=zgo) mixed znB (by simp) rfl rfl fun hg=>?_
 have hv:=Y0 W0 hM w.over;rw [if_pos h.ov,za4 h] at hv;have ht:=zhx W0 hM w w.op h.ov;have hc:=h.pl.ck;have hct:=h.pl.ct;have hn:w.net.length≤1000:=by have:=h.pl.nl; omega
 rw [Q1];generalize hts:qg w w.op=ts at *;have hget:=zhf W0 hM (vwG w.over) p;rw [if_pos h.gx,qL] at hget;have hofl:(jj w.leases who p (w.count+1)).length≤1000000:=Nat.le_trans (List.length_filter_le _ _) hl;have ho:=zi5 h.ls.d (who:=who) (n:=w.count+1) (p:=p);have hla:=Y7 W0 w.leases who p;refine dr ?_;apply cP<;>intro h0
 ·rw [if_pos (.inr (by omega))];refine dr ?_;refine ⟨none,_,_,?_,false,trivial,rfl,rfl⟩;refine dr ?_;trivial
 refine dr ?_;apply cP<;>intro h1
 ·refine dr ?_;refine oW ht rfl ⟨rfl,rfl,rfl,rfl,rfl,rfl,rfl,trivial⟩ rfl rfl ⟨(),trivial⟩ fun _ _=>⟨rfl,?_⟩
  refine dEr ?_;repeat (refine c0 (zg5 W0 ts p) rfl ?_; first | refine dEr ?_ | exact dz)
  apply cP<;>intro h2
  ·rw [if_pos (.inl ⟨h1,by rw [List.contains_eq_mem,decide_eq_true_iff] at h2; exact h2⟩)];refine dEr ?_;refine ⟨none,_,_,?_,false,trivial,rfl,rfl⟩;refine dr ?_;trivial
  have h2':p ∉ ts:=by rw [List.contains_eq_mem,decide_eq_false_iff_not] at h2; exact h2
  rw [if_neg (by rintro (⟨_,h⟩ | h); exact h2' h; omega)];refine dEr ?_;refine cuts (σ:=Bool) (fun _=>[(0,.ptr 4 0),(1,.c (CI who)),(2,.c (CS p)),(6,I (w.clock+5))]) (fun b=>wMl b { w with count:=w.count+1,leases:=jj w.leases who p (w.count+1) }) (fun _=>True) ?_ ?_
  ·refine dEr ?_;repeat (refine c0 hla rfl ?_; first | refine dEr ?_ | exact dz)
   rcases @Q8 w.leases who p with ⟨e1,e2⟩ | ⟨j,hj,e1,e2⟩
   ·rw [e2] at ho;rw [e1,show jj w.leases who p (w.count+1)=w.leases from ho];apply cP<;>intro h3
    ·omega
    refine dr ?_;refine ⟨false,trivial,?_⟩;refine zn.s (z:=none) ?_;refine dr ?_;trivial
   ·have hnum:=(h.ls.g _ (List.getElem_mem hj)).2.2.2.1;rw [e2,e1] at ho;have ho:jj w.leases who p (w.count+1)=if w.leases[j].num≤w.count+1 then w.leases.eraseIdx (j:Int).toNat else w.leases:=ho
    rw [e1,ho,if_pos (by omega)];apply cP<;>intro h3;rotate_left
    ·omega
    refine dr ?_;refine oW (zbz W0 w.leases j hj 5 1600 (by decide) hl) rfl ⟨rfl,trivial⟩ rfl rfl ⟨(),trivial⟩ fun _ _=>⟨rfl,?_⟩
    refine dEr ?_;refine ⟨true,trivial,?_⟩;refine zn.s (z:=none) ?_;refine dr ?_;repeat (refine oB (by simp [List.length_eraseIdx,hj]) ?_; first | refine dr ?_ | exact dz)
    trivial
  rintro b _;cases b with
  | true =>
   refine dr ?_;repeat ((first | refine oB (by simp; omega) ?_ | refine oB (by simp) ?_ | refine c0 hv rfl ?_ | refine c0 hget rfl ?_); first | refine dr ?_ | exact dz)
   intro _;refine dEr ?_;repeat ((first | refine oB (by simp; omega) ?_ | refine oB (by simp) ?_ | refine c0 hv rfl ?_ | refine c0 hget rfl ?_); first | refine dEr ?_ | exact dz)
   refine oW ((y6 W0 (grantL w who p) (jO w who p) hn).swp 5 1600) rfl ⟨congrArg some (congrArg (fun y=>XB.box [.c (za w.over.base),.c (zx w.over.layers),.c (ze w.over.upper),I w.clock,I (w.count+1),y,.own 6 3,.own 10 w.floors.length,.own 11 w.net.length,B w.waits,I w.op.kind,.c (CS w.op.path),.c (CS w.op.dest),.c (CS w.op.data)]) QA),congrArg some zao,rfl,rfl,rfl,rfl,rfl,rfl,trivial⟩ rfl rfl ⟨(),trivial⟩ fun _ _=>⟨rfl,?_⟩
   refine dEr ?_;refine ⟨none,_,_,?_,true,trivial,rfl,rfl⟩;refine dr ?_;trivial
  | false =>
   refine dr ?_;repeat ((first | refine oB (by simp; omega) ?_ | refine oB (by simp) ?_ | refine c0 hv rfl ?_ | refine c0 hget rfl ?_); first | refine dr ?_ | exact dz)
   intro _;refine dEr ?_;repeat ((first | refine oB (by simp; omega) ?_ | refine oB (by simp) ?_ | refine c0 hv rfl ?_ | refine c0 hget rfl ?_); first | refine dEr ?_ | exact dz)
   refine oW ((y6 W0 (grantL w who p) (jO w who p) hn)) rfl ⟨congrArg some (congrArg (fun y=>XB.box [.c (za w.over.base),.c (zx w.over.layers),.c (ze w.over.upper),I w.clock,I (w.count+1),y,.own 6 3,.own 10 w.floors.length,.own 11 w.net.length,B w.waits,I w.op.kind,.c (CS w.op.path),.c (CS w.op.dest),.c (CS w.op.data)]) QA),congrArg some zao,rfl,rfl,rfl,rfl,rfl,rfl,trivial⟩ rfl rfl ⟨(),trivial⟩ fun _ _=>⟨rfl,?_⟩
   refine dEr ?_;refine ⟨none,_,_,?_,false,trivial,rfl,rfl⟩;refine dr ?_;trivial
 ·refine dr ?_;rw [if_neg (by rintro (⟨h,_⟩ | h); rw [h] at h1; cases h1; omega)];refine dEr ?_;refine cuts (σ:=Bool) (fun _=>[(0,.ptr 4 0),(1,.c (CI who)),(2,.c (CS p)),(6,I (w.clock+5))]) (fun b=>wMl b { w with count:=w.count+1,leases:=jj w.leases who p (w.count+1) }) (fun _=>True) ?_ ?_
  ·refine dEr ?_;repeat (refine c0 hla rfl ?_; first | refine dEr ?_ | exact dz)
   rcases @Q8 w.leases who p with ⟨e1,e2⟩ | ⟨j,hj,e1,e2⟩
   ·rw [e2] at ho;rw [e1,show jj w.leases who p (w.count+1)=w.leases from ho];apply cP<;>intro h3
    ·omega
    refine dr ?_;refine ⟨false,trivial,?_⟩;refine zn.s (z:=none) ?_;refine dr ?_;trivial
   ·have hnum:=(h.ls.g _ (List.getElem_mem hj)).2.2.2.1;rw [e2,e1] at ho;have ho:jj w.leases who p (w.count+1)=if w.leases[j].num≤w.count+1 then w.leases.eraseIdx (j:Int).toNat else w.leases:=ho
    rw [e1,ho,if_pos (by omega)];apply cP<;>intro h3;rotate_left
    ·omega
    refine dr ?_;refine oW (zbz W0 w.leases j hj 5 1600 (by decide) hl) rfl ⟨rfl,trivial⟩ rfl rfl ⟨(),trivial⟩ fun _ _=>⟨rfl,?_⟩
    refine dEr ?_;refine ⟨true,trivial,?_⟩;refine zn.s (z:=none) ?_;refine dr ?_;repeat (refine oB (by simp [List.length_eraseIdx,hj]) ?_; first | refine dr ?_ | exact dz)
    trivial
  rintro b _;cases b with
  | true =>
   refine dr ?_;repeat ((first | refine oB (by simp; omega) ?_ | refine oB (by simp) ?_ | refine c0 hv rfl ?_ | refine c0 hget rfl ?_); first | refine dr ?_ | exact dz)
   intro _;refine dEr ?_;repeat ((first | refine oB (by simp; omega) ?_ | refine oB (by simp) ?_ | refine c0 hv rfl ?_ | refine c0 hget rfl ?_); first | refine dEr ?_ | exact dz)
   refine oW ((y6 W0 (grantL w who p) (jO w who p) hn).swp 5 1600) rfl ⟨congrArg some (congrArg (fun y=>XB.box [.c (za w.over.base),.c (zx w.over.layers),.c (ze w.over.upper),I w.clock,I (w.count+1),y,.own 6 3,.own 10 w.floors.length,.own 11 w.net.length,B w.waits,I w.op.kind,.c (CS w.op.path),.c (CS w.op.dest),.c (CS w.op.data)]) QA),congrArg some zao,rfl,rfl,rfl,rfl,rfl,rfl,trivial⟩ rfl rfl ⟨(),trivial⟩ fun _ _=>⟨rfl,?_⟩
   refine dEr ?_;refine ⟨none,_,_,?_,true,trivial,rfl,rfl⟩;refine dr ?_;trivial
  | false =>
   refine dr ?_;repeat ((first | refine oB (by simp; omega) ?_ | refine oB (by simp) ?_ | refine c0 hv rfl ?_ | refine c0 hget rfl ?_); first | refine dr ?_ | exact dz)
   intro _;refine dEr ?_;repeat ((first | refine oB (by simp; omega) ?_ | refine oB (by simp) ?_ | refine c0 hv rfl ?_ | refine c0 hget rfl ?_); first | refine dEr ?_ | exact dz)
   refine oW ((y6 W0 (grantL w who p) (jO w who p) hn)) rfl ⟨congrArg some (congrArg (fun y=>XB.box [.c (za w.over.base),.c (zx w.over.layers),.c (ze w.over.upper),I w.clock,I (w.count+1),y,.own 6 3,.own 10 w.floors.length,.own 11 w.net.length,B w.waits,I w.op.kind,.c (CS w.op.path),.c (CS w.op.dest),.c (CS w.op.data)]) QA),congrArg some zao,rfl,rfl,rfl,rfl,rfl,rfl,trivial⟩ rfl rfl ⟨(),trivial⟩ fun _ _=>⟨rfl,?_⟩
   refine dEr ?_;refine ⟨none,_,_,?_,false,trivial,rfl,rfl⟩;refine dr ?_;trivial
def zgu:XC:=(.cut (.s (.r [.mv 9 0,.ex 10 (.nck 9),.f1 11 6 10,.l1 12 1 11,.mv 13 1,.i1 14 1 12 13,.l1 15 1 14,.mv 16 2,.c1 17 41 [15,16],.mv 8 17]) (.s (.r [.mv 18 8,.b1 19 .geq 18 (.i 0),.mv 20 19,.gt 21 (.mv 0) 20,.gt 22 (.nck 21) 20,.gt 23 (.fa 6 22) 20,.gt 24 (.ld false 1 23) 20,.gt 25 (.mv 1) 20,.gt 26 (.ia 1 24 25) 20,.gt 27 (.ld false 1 26) 20,.gt 28 (.mv 8) 20,.gt 29 (.ia 7 27 28) 20,.gt 30 (.fa 5 29) 20,.gt 31 (.ld false 1 30) 20,.gt 32 (.mv 3) 20,.gt 33 (.bin .leq 31 32) 20,.ex 34 (.pick 20 33 .n)]) (.cnd 34 (.d [.mv 35 0,.ex 36 (.nck 35),.f1 37 6 36,.exo [7,1616] 38 (.ld false 1 37),.mv 39 1,.mv 40 0,.ex 41 (.nck 40),.f1 42 6 41,.exo [7,1616] 43 (.ld false 1 42),.mv 44 1,.exo [7,1616] 45 (.ia 1 43 44),.exo [7,1616] 46 (.ld false 1 45),.mv 47 8,.mv 48 8,.b1 49 .add 48 (.i 1),.exo [7,1616] 50 (.opn 187 [46,47,49]),.exo [7,1616] 51 (.ia 1 38 39),.s1 1 51 50]) .skip))) (.s (.d [.mv 52 0,.ex 53 (.nck 52),.f1 54 7 53,.l1 55 1 54,.mv 56 1,.mv 57 0,.ex 58 (.nck 57),.f1 59 7 58,.l1 60 1 59,.mv 61 1,.i1 62 1 60 61,.l1 63 1 62,.mv 64 3,.ex 65 (.mm true 63 64),.i1 66 1 55 56,.s1 1 66 65]) (.r [.mv 67 0,.mv 68 1,.mv 69 2,.mv 70 3,.ex 71 (.build [sE,(B false),sE,(B false),sE,(I 0),(I 0)] [(0,(1,69)),(5,(1,70))]),.ex 72 (.build [(I 0),(I 0),sE,(B false),sE,(B false),sE,(I 0),(I 0)] [(0,(1,(.i 4))),(1,(1,68)),(2,(7,71))]),.o1 73 80 [67,72]])))
theorem znH:zc Tryz.prog [80,187,1000007,1001616] 136=some (zgu.ac,[],74):=by kernel_rfl
theorem zoN (W0:World) (w:Wld) (p:Str) (n:Int) (h:WG w) (hz:HZ 1000000 w):zv Tryz.prog W0 136 [.ptr 4 0,I 0,.c (CS p),.c (CI n)] (wMp w) (fun _:Bool=>True) (fun _ => .tup []) (fun b=>wM0 b (zS { w with holds:=w.holds.set 0 (zW (hdW w 0) p n),floors:=w.floors.set 0 (zL (flW w 0) n) } ⟨4,0,⟨p,false,noE,n,0⟩⟩)):=by
 have hw:isW 0:=⟨by omega,by omega⟩;have f3:=h.pl.fl;have hn:w.net.length≤1000:=by have:=h.pl.nl; omega
 have s:=@zkx w (zW (hdW w 0) p n) w.floors h.pl.hl;have hd:(hdW w 0).Pairwise fun a b=>a.path≠b.path:=(h.hd 0 (by omega)).d
 have hlen:(hdW w 0).length≤1000000:=yR hz 0;have ht:=zcj hd (p:=p) (n:=n);have hcs:=Ze (hdW w 0) p;have hha:=ZO W0 (hdW w 0) p;refine funW (c:=zgu) mixed znH (by simp) rfl rfl fun hg=>?_
 refine cuts (σ:=Bool) (fun _=>[(0,.ptr 4 0),(1,I 0),(2,.c (CS p)),(3,.c (CI n))]) (fun b=>wM0 b { w with holds:=w.holds.set 0 (zW (hdW w 0) p n) }) (fun _=>True) ?_ ?_
 ·refine dEr ?_;repeat ((first | refine oB (by decide) ?_ | refine c0 hha rfl ?_); first | refine dEr ?_ | exact dz)
  rcases hcs with ⟨e1,e2⟩ | ⟨j,hj,e1,e2,e3⟩
  ·have lv:=ht.2 (fun j hj e=>by rw [e1] at e; omega);rw [e1];apply cP<;>intro c3
   ·omega
   refine dr ?_;refine ⟨false,trivial,?_⟩;show zn _ _ _ _ _ (wMx 5 7 8 9 11 _);rw [qu s,lv];refine zn.s (z:=none) ?_;refine dr ?_;trivial
  rw [e1];apply cP<;>intro c3;rotate_left
  ·omega
  refine dr ?_;repeat (refine oB (by decide) ?_; first | refine dr ?_ | exact dz)
  apply cP<;>intro c4
  ·have lv:=ht.1 j hj e1 c4;refine dr ?_;repeat (refine oB (by decide) ?_; first | refine dr ?_ | exact dz)
   refine oW (JW W0 (hdW w 0) j hj 7 1616 (by decide) hlen) rfl ⟨rfl,trivial⟩ rfl rfl ⟨(),trivial⟩ fun _ _=>⟨rfl,?_⟩
   refine dEr ?_;repeat (refine oB (by decide) ?_; first | refine dEr ?_ | exact dz)
   refine ⟨true,trivial,?_⟩;show zn _ _ _ _ _ (_::wMx 5 1616 8 9 11 _);rw [qu s,lv];refine zn.s (z:=none) ?_;refine dr ?_;repeat (refine oB (by simp [List.length_eraseIdx,hj]) ?_; first | refine dr ?_ | exact dz)
   trivial
  ·have lv:zW (hdW w 0) p n=hdW w 0:=by
    refine ht.2 fun i hi e=>?_
    have hij:i=j:=by omega
    subst hij;exact c4
   refine dr ?_;refine ⟨false,trivial,?_⟩;show zn _ _ _ _ _ (wMx 5 7 8 9 11 _);rw [qu s,lv];refine zn.s (z:=none) ?_;refine dr ?_;trivial
 have hs:=y6 W0 { w with holds:=w.holds.set 0 (zW (hdW w 0) p n),floors:=w.floors.set 0 (zL (flW w 0) n) } ⟨4,0,⟨p,false,noE,n,0⟩⟩ hn;have fr:XB.row ((w.floors.map CI).set 0 (CI (max (flW w 0) n))) 1 3 = .row ((w.floors.set 0 (zL (flW w 0) n)).map CI) 1 3:=by
  rw [show zL (flW w 0) n=max (flW w 0) n by unfold zL; split<;>omega,set1]
 have fb:∀ k,XB.box [.c (za w.over.base),.c (zx w.over.layers),.c (ze w.over.upper),I w.clock,I w.count,.own 5 w.leases.length,.own 6 3,.own 10 w.floors.length,.own k w.net.length,B w.waits,I w.op.kind,.c (CS w.op.path),.c (CS w.op.dest),.c (CS w.op.data)] =
   .box [.c (za w.over.base),.c (zx w.over.layers),.c (ze w.over.upper),I w.clock,I w.count,.own 5 w.leases.length,.own 6 3,.own 10 (w.floors.set 0 (zL (flW w 0) n)).length,.own k w.net.length,B w.waits,I w.op.kind,.c (CS w.op.path),.c (CS w.op.dest),.c (CS w.op.data)]:=fun k=>by rw [List.length_set]
 rintro b _;cases b with
 | true =>
  refine dEr ?_;repeat ((first | refine oB (by rw [f3]; decide) ?_ | refine aFl hw f3 ?_); first | refine dEr ?_ | exact dz)
  refine oW (hs.swp 7 1616) rfl ⟨congrArg some (fb 11),rfl,rfl,rfl,rfl,rfl,congrArg some fr,rfl,trivial⟩ rfl rfl ⟨(),trivial⟩ fun _ _=>⟨rfl,?_⟩
  refine dEr ?_;refine ⟨none,_,_,?_,true,trivial,rfl,rfl⟩;refine dr ?_;trivial
 | false =>
  refine dEr ?_;repeat ((first | refine oB (by rw [f3]; decide) ?_ | refine aFl hw f3 ?_); first | refine dEr ?_ | exact dz)
  refine oW hs rfl ⟨congrArg some (fb 11),rfl,rfl,rfl,rfl,rfl,congrArg some fr,rfl,trivial⟩ rfl rfl ⟨(),trivial⟩ fun _ _=>⟨rfl,?_⟩
  refine dEr ?_;refine ⟨none,_,_,?_,false,trivial,rfl,rfl⟩;refine dr ?_;trivial
def zgv:XC:=(.cut (.s (.r [.mv 9 0,.ex 10 (.nck 9),.f1 11 6 10,.l1 12 1 11,.mv 13 1,.i1 14 1 12 13,.l1 15 1 14,.mv 16 2,.c1 17 41 [15,16],.mv 8 17]) (.s (.r [.mv 18 8,.b1 19 .geq 18 (.i 0),.mv 20 19,.gt 21 (.mv 0) 20,.gt 22 (.nck 21) 20,.gt 23 (.fa 6 22) 20,.gt 24 (.ld false 1 23) 20,.gt 25 (.mv 1) 20,.gt 26 (.ia 1 24 25) 20,.gt 27 (.ld false 1 26) 20,.gt 28 (.mv 8) 20,.gt 29 (.ia 7 27 28) 20,.gt 30 (.fa 5 29) 20,.gt 31 (.ld false 1 30) 20,.gt 32 (.mv 3) 20,.gt 33 (.bin .leq 31 32) 20,.ex 34 (.pick 20 33 .n)]) (.cnd 34 (.d [.mv 35 0,.ex 36 (.nck 35),.f1 37 6 36,.exo [8,1616] 38 (.ld false 1 37),.mv 39 1,.mv 40 0,.ex 41 (.nck 40),.f1 42 6 41,.exo [8,1616] 43 (.ld false 1 42),.mv 44 1,.exo [8,1616] 45 (.ia 1 43 44),.exo [8,1616] 46 (.ld false 1 45),.mv 47 8,.mv 48 8,.b1 49 .add 48 (.i 1),.exo [8,1616] 50 (.opn 187 [46,47,49]),.exo [8,1616] 51 (.ia 1 38 39),.s1 1 51 50]) .skip))) (.s (.d [.mv 52 0,.ex 53 (.nck 52),.f1 54 7 53,.l1 55 1 54,.mv 56 1,.mv 57 0,.ex 58 (.nck 57),.f1 59 7 58,.l1 60 1 59,.mv 61 1,.i1 62 1 60 61,.l1 63 1 62,.mv 64 3,.ex 65 (.mm true 63 64),.i1 66 1 55 56,.s1 1 66 65]) (.r [.mv 67 0,.mv 68 1,.mv 69 2,.mv 70 3,.ex 71 (.build [sE,(B false),sE,(B false),sE,(I 0),(I 0)] [(0,(1,69)),(5,(1,70))]),.ex 72 (.build [(I 0),(I 0),sE,(B false),sE,(B false),sE,(I 0),(I 0)] [(0,(1,(.i 4))),(1,(1,68)),(2,(7,71))]),.o1 73 80 [67,72]])))
theorem znI:zc Tryz.prog [80,187,1000008,1001616] 136=some (zgv.ac,[],74):=by kernel_rfl
theorem zoO (W0:World) (w:Wld) (p:Str) (n:Int) (h:WG w) (hz:HZ 1000000 w):zv Tryz.prog W0 136 [.ptr 4 0,I 1,.c (CS p),.c (CI n)] (wMp w) (fun _:Bool=>True) (fun _ => .tup []) (fun b=>wM1 b (zS { w with holds:=w.holds.set 1 (zW (hdW w 1) p n),floors:=w.floors.set 1 (zL (flW w 1) n) } ⟨4,1,⟨p,false,noE,n,0⟩⟩)):=by
 have hw:isW 1:=⟨by omega,by omega⟩;have f3:=h.pl.fl;have hn:w.net.length≤1000:=by have:=h.pl.nl; omega
 have s:=@zky w (zW (hdW w 1) p n) w.floors h.pl.hl;have hd:(hdW w 1).Pairwise fun a b=>a.path≠b.path:=(h.hd 1 (by omega)).d
 have hlen:(hdW w 1).length≤1000000:=yR hz 1;have ht:=zcj hd (p:=p) (n:=n);have hcs:=Ze (hdW w 1) p;have hha:=ZO W0 (hdW w 1) p;refine funW (c:=zgv) mixed znI (by simp) rfl rfl fun hg=>?_
 refine cuts (σ:=Bool) (fun _=>[(0,.ptr 4 0),(1,I 1),(2,.c (CS p)),(3,.c (CI n))]) (fun b=>wM1 b { w with holds:=w.holds.set 1 (zW (hdW w 1) p n) }) (fun _=>True) ?_ ?_
 ·refine dEr ?_;repeat ((first | refine oB (by decide) ?_ | refine c0 hha rfl ?_); first | refine dEr ?_ | exact dz)
  rcases hcs with ⟨e1,e2⟩ | ⟨j,hj,e1,e2,e3⟩
  ·have lv:=ht.2 (fun j hj e=>by rw [e1] at e; omega);rw [e1];apply cP<;>intro c3
   ·omega
   refine dr ?_;refine ⟨false,trivial,?_⟩;show zn _ _ _ _ _ (wMx 5 7 8 9 11 _);rw [qu s,lv];refine zn.s (z:=none) ?_;refine dr ?_;trivial
  rw [e1];apply cP<;>intro c3;rotate_left
  ·omega
  refine dr ?_;repeat (refine oB (by decide) ?_; first | refine dr ?_ | exact dz)
  apply cP<;>intro c4
  ·have lv:=ht.1 j hj e1 c4;refine dr ?_;repeat (refine oB (by decide) ?_; first | refine dr ?_ | exact dz)
   refine oW (JW W0 (hdW w 1) j hj 8 1616 (by decide) hlen) rfl ⟨rfl,trivial⟩ rfl rfl ⟨(),trivial⟩ fun _ _=>⟨rfl,?_⟩
   refine dEr ?_;repeat (refine oB (by decide) ?_; first | refine dEr ?_ | exact dz)
   refine ⟨true,trivial,?_⟩;show zn _ _ _ _ _ (_::wMx 5 7 1616 9 11 _);rw [qu s,lv];refine zn.s (z:=none) ?_;refine dr ?_;repeat (refine oB (by simp [List.length_eraseIdx,hj]) ?_; first | refine dr ?_ | exact dz)
   trivial
  ·have lv:zW (hdW w 1) p n=hdW w 1:=by
    refine ht.2 fun i hi e=>?_
    have hij:i=j:=by omega
    subst hij;exact c4
   refine dr ?_;refine ⟨false,trivial,?_⟩;show zn _ _ _ _ _ (wMx 5 7 8 9 11 _);rw [qu s,lv];refine zn.s (z:=none) ?_;refine dr ?_;trivial
 have hs:=y6 W0 { w with holds:=w.holds.set 1 (zW (hdW w 1) p n),floors:=w.floors.set 1 (zL (flW w 1) n) } ⟨4,1,⟨p,false,noE,n,0⟩⟩ hn;have fr:XB.row ((w.floors.map CI).set 1 (CI (max (flW w 1) n))) 1 3 = .row ((w.floors.set 1 (zL (flW w 1) n)).map CI) 1 3:=by
  rw [show zL (flW w 1) n=max (flW w 1) n by unfold zL; split<;>omega,set1]
 have fb:∀ k,XB.box [.c (za w.over.base),.c (zx w.over.layers),.c (ze w.over.upper),I w.clock,I w.count,.own 5 w.leases.length,.own 6 3,.own 10 w.floors.length,.own k w.net.length,B w.waits,I w.op.kind,.c (CS w.op.path),.c (CS w.op.dest),.c (CS w.op.data)] =
   .box [.c (za w.over.base),.c (zx w.over.layers),.c (ze w.over.upper),I w.clock,I w.count,.own 5 w.leases.length,.own 6 3,.own 10 (w.floors.set 1 (zL (flW w 1) n)).length,.own k w.net.length,B w.waits,I w.op.kind,.c (CS w.op.path),.c (CS w.op.dest),.c (CS w.op.data)]:=fun k=>by rw [List.length_set]
 rintro b _;cases b with
 | true =>
  refine dEr ?_;repeat ((first | refine oB (by rw [f3]; decide) ?_ | refine aFl hw f3 ?_); first | refine dEr ?_ | exact dz)
  refine oW (hs.swp 8 1616) rfl ⟨congrArg some (fb 11),rfl,rfl,rfl,rfl,rfl,congrArg some fr,rfl,trivial⟩ rfl rfl ⟨(),trivial⟩ fun _ _=>⟨rfl,?_⟩
  refine dEr ?_;refine ⟨none,_,_,?_,true,trivial,rfl,rfl⟩;refine dr ?_;trivial
 | false =>
  refine dEr ?_;repeat ((first | refine oB (by rw [f3]; decide) ?_ | refine aFl hw f3 ?_); first | refine dEr ?_ | exact dz)
  refine oW hs rfl ⟨congrArg some (fb 11),rfl,rfl,rfl,rfl,rfl,congrArg some fr,rfl,trivial⟩ rfl rfl ⟨(),trivial⟩ fun _ _=>⟨rfl,?_⟩
  refine dEr ?_;refine ⟨none,_,_,?_,false,trivial,rfl,rfl⟩;refine dr ?_;trivial
def zgw:XC:=(.cut (.s (.r [.mv 9 0,.ex 10 (.nck 9),.f1 11 6 10,.l1 12 1 11,.mv 13 1,.i1 14 1 12 13,.l1 15 1 14,.mv 16 2,.c1 17 41 [15,16],.mv 8 17]) (.s (.r [.mv 18 8,.b1 19 .geq 18 (.i 0),.mv 20 19,.gt 21 (.mv 0) 20,.gt 22 (.nck 21) 20,.gt 23 (.fa 6 22) 20,.gt 24 (.ld false 1 23) 20,.gt 25 (.mv 1) 20,.gt 26 (.ia 1 24 25) 20,.gt 27 (.ld false 1 26) 20,.gt 28 (.mv 8) 20,.gt 29 (.ia 7 27 28) 20,.gt 30 (.fa 5 29) 20,.gt 31 (.ld false 1 30) 20,.gt 32 (.mv 3) 20,.gt 33 (.bin .leq 31 32) 20,.ex 34 (.pick 20 33 .n)]) (.cnd 34 (.d [.mv 35 0,.ex 36 (.nck 35),.f1 37 6 36,.exo [9,1616] 38 (.ld false 1 37),.mv 39 1,.mv 40 0,.ex 41 (.nck 40),.f1 42 6 41,.exo [9,1616] 43 (.ld false 1 42),.mv 44 1,.exo [9,1616] 45 (.ia 1 43 44),.exo [9,1616] 46 (.ld false 1 45),.mv 47 8,.mv 48 8,.b1 49 .add 48 (.i 1),.exo [9,1616] 50 (.opn 187 [46,47,49]),.exo [9,1616] 51 (.ia 1 38 39),.s1 1 51 50]) .skip))) (.s (.d [.mv 52 0,.ex 53 (.nck 52),.f1 54 7 53,.l1 55 1 54,.mv 56 1,.mv 57 0,.ex 58 (.nck 57),.f1 59 7 58,.l1 60 1 59,.mv 61 1,.i1 62 1 60 61,.l1 63 1 62,.mv 64 3,.ex 65 (.mm true 63 64),.i1 66 1 55 56,.s1 1 66 65]) (.r [.mv 67 0,.mv 68 1,.mv 69 2,.mv 70 3,.ex 71 (.build [sE,(B false),sE,(B false),sE,(I 0),(I 0)] [(0,(1,69)),(5,(1,70))]),.ex 72 (.build [(I 0),(I 0),sE,(B false),sE,(B false),sE,(I 0),(I 0)] [(0,(1,(.i 4))),(1,(1,68)),(2,(7,71))]),.o1 73 80 [67,72]])))
theorem znJ:zc Tryz.prog [80,187,1000009,1001616] 136=some (zgw.ac,[],74):=by kernel_rfl
theorem zoP (W0:World) (w:Wld) (p:Str) (n:Int) (h:WG w) (hz:HZ 1000000 w):zv Tryz.prog W0 136 [.ptr 4 0,I 2,.c (CS p),.c (CI n)] (wMp w) (fun _:Bool=>True) (fun _ => .tup []) (fun b=>wM2 b (zS { w with holds:=w.holds.set 2 (zW (hdW w 2) p n),floors:=w.floors.set 2 (zL (flW w 2) n) } ⟨4,2,⟨p,false,noE,n,0⟩⟩)):=by
 have hw:isW 2:=⟨by omega,by omega⟩;have f3:=h.pl.fl;have hn:w.net.length≤1000:=by have:=h.pl.nl; omega
 have s:=@zkz w (zW (hdW w 2) p n) w.floors h.pl.hl;have hd:(hdW w 2).Pairwise fun a b=>a.path≠b.path:=(h.hd 2 (by omega)).d
 have hlen:(hdW w 2).length≤1000000:=yR hz 2;have ht:=zcj hd (p:=p) (n:=n);have hcs:=Ze (hdW w 2) p;have hha:=ZO W0 (hdW w 2) p;refine funW (c:=zgw) mixed znJ (by simp) rfl rfl fun hg=>?_
 refine cuts (σ:=Bool) (fun _=>[(0,.ptr 4 0),(1,I 2),(2,.c (CS p)),(3,.c (CI n))]) (fun b=>wM2 b { w with holds:=w.holds.set 2 (zW (hdW w 2) p n) }) (fun _=>True) ?_ ?_
 ·refine dEr ?_;repeat ((first | refine oB (by decide) ?_ | refine c0 hha rfl ?_); first | refine dEr ?_ | exact dz)
  rcases hcs with ⟨e1,e2⟩ | ⟨j,hj,e1,e2,e3⟩
  ·have lv:=ht.2 (fun j hj e=>by rw [e1] at e; omega);rw [e1];apply cP<;>intro c3
   ·omega
   refine dr ?_;refine ⟨false,trivial,?_⟩;show zn _ _ _ _ _ (wMx 5 7 8 9 11 _);rw [qu s,lv];refine zn.s (z:=none) ?_;refine dr ?_;trivial
  rw [e1];apply cP<;>intro c3;rotate_left
  ·omega
  refine dr ?_;repeat (refine oB (by decide) ?_; first | refine dr ?_ | exact dz)
  apply cP<;>intro c4
  ·have lv:=ht.1 j hj e1 c4;refine dr ?_;repeat (refine oB (by decide) ?_; first | refine dr ?_ | exact dz)
   refine oW (JW W0 (hdW w 2) j hj 9 1616 (by decide) hlen) rfl ⟨rfl,trivial⟩ rfl rfl ⟨(),trivial⟩ fun _ _=>⟨rfl,?_⟩
   refine dEr ?_;repeat (refine oB (by decide) ?_; first | refine dEr ?_ | exact dz)
   refine ⟨true,trivial,?_⟩;show zn _ _ _ _ _ (_::wMx 5 7 8 1616 11 _);rw [qu s,lv];refine zn.s (z:=none) ?_;refine dr ?_;repeat (refine oB (by simp [List.length_eraseIdx,hj]) ?_; first | refine dr ?_ | exact dz)
   trivial
  ·have lv:zW (hdW w 2) p n=hdW w 2:=by
    refine ht.2 fun i hi e=>?_
    have hij:i=j:=by omega
    subst hij;exact c4
   refine dr ?_;refine ⟨false,trivial,?_⟩;show zn _ _ _ _ _ (wMx 5 7 8 9 11 _);rw [qu s,lv];refine zn.s (z:=none) ?_;refine dr ?_;trivial
 have hs:=y6 W0 { w with holds:=w.holds.set 2 (zW (hdW w 2) p n),floors:=w.floors.set 2 (zL (flW w 2) n) } ⟨4,2,⟨p,false,noE,n,0⟩⟩ hn;have fr:XB.row ((w.floors.map CI).set 2 (CI (max (flW w 2) n))) 1 3 = .row ((w.floors.set 2 (zL (flW w 2) n)).map CI) 1 3:=by
  rw [show zL (flW w 2) n=max (flW w 2) n by unfold zL; split<;>omega,set1]
 have fb:∀ k,XB.box [.c (za w.over.base),.c (zx w.over.layers),.c (ze w.over.upper),I w.clock,I w.count,.own 5 w.leases.length,.own 6 3,.own 10 w.floors.length,.own k w.net.length,B w.waits,I w.op.kind,.c (CS w.op.path),.c (CS w.op.dest),.c (CS w.op.data)] =
   .box [.c (za w.over.base),.c (zx w.over.layers),.c (ze w.over.upper),I w.clock,I w.count,.own 5 w.leases.length,.own 6 3,.own 10 (w.floors.set 2 (zL (flW w 2) n)).length,.own k w.net.length,B w.waits,I w.op.kind,.c (CS w.op.path),.c (CS w.op.dest),.c (CS w.op.data)]:=fun k=>by rw [List.length_set]
 rintro b _;cases b with
 | true =>
  refine dEr ?_;repeat ((first | refine oB (by rw [f3]; decide) ?_ | refine aFl hw f3 ?_); first | refine dEr ?_ | exact dz)
  refine oW (hs.swp 9 1616) rfl ⟨congrArg some (fb 11),rfl,rfl,rfl,rfl,rfl,congrArg some fr,rfl,trivial⟩ rfl rfl ⟨(),trivial⟩ fun _ _=>⟨rfl,?_⟩
  refine dEr ?_;refine ⟨none,_,_,?_,true,trivial,rfl,rfl⟩;refine dr ?_;trivial
 | false =>
  refine dEr ?_;repeat ((first | refine oB (by rw [f3]; decide) ?_ | refine aFl hw f3 ?_); first | refine dEr ?_ | exact dz)
  refine oW hs rfl ⟨congrArg some (fb 11),rfl,rfl,rfl,rfl,rfl,congrArg some fr,rfl,trivial⟩ rfl rfl ⟨(),trivial⟩ fun _ _=>⟨rfl,?_⟩
  refine dEr ?_;refine ⟨none,_,_,?_,false,trivial,rfl,rfl⟩;refine dr ?_;trivial

inductive Dv where
 | o
 | n
 | l
 | a
 | b
 | c
abbrev wMv (d:Dv) (w:Wld):XM:=match d with
 | .o=>wMp w
 | .n=>(11,.dead 9 55)::wMx 5 7 8 9 1632 w
 | .l=>(11,.dead 9 55)::(5,.dead 4 72)::wMx 1600 7 8 9 1632 w
 | .a=>(11,.dead 9 55)::(7,.dead 7 53)::wMx 5 1616 8 9 1632 w
 | .b=>(11,.dead 9 55)::(8,.dead 7 53)::wMx 5 7 1616 9 1632 w
 | .c=>(11,.dead 9 55)::(9,.dead 7 53)::wMx 5 7 8 1616 1632 w
def zgq:XC:=(.s (.r [.m1 6 (.i 0)]) (.s (.s (.r [.mv 8 2,.b1 9 .lss 8 (.i 0),.mv 10 9,.gf 11 (.mv 2) 10,.gf 12 (.mv 0) 10,.gf 13 (.nck 12) 10,.gf 14 (.fa 8 13) 10,.gf 15 (.ld false 1 14) 10,.gf 16 (.len false 15) 10,.gf 17 (.bin .geq 11 16) 10,.ex 18 (.pick 10 .y 17)]) (.cnd 18 (.s (.r [.m1 6 (.i 22)]) .ret) .skip)) (.s (.r [.mv 19 0,.ex 20 (.nck 19),.f1 21 8 20,.l1 22 1 21,.mv 23 2,.i1 24 9 22 23,.l2 25 9 24,.ex 7 (.alloc [(I 0),(I 0),sE,(B false),sE,(B false),sE,(I 0),(I 0)]),.s1 9 7 25]) (.s (.s (.r [.mv 26 1,.b1 27 .eql 26 (.i 7)]) (.cnd 27 (.s (.r [.mv 28 0,.l2 29 9 7,.o1 30 80 [28,29]]) (.s (.r [.m1 6 (.i 0)]) .ret)) .skip)) (.s (.r [.mv 31 0,.mv 32 0,.ex 33 (.nck 32),.f1 34 8 33,.l1 35 1 34,.mv 36 2,.mv 37 2,.b1 38 .add 37 (.i 1),.o1 39 133 [35,36,38],.ex 40 (.nck 31),.f1 41 8 40,.s1 1 41 39]) (.s (.s (.r [.mv 42 1,.b1 43 .eql 42 (.i 6)]) (.cnd 43 (.s (.r [.m1 6 (.i 0)]) .ret) .skip)) (.s (.s (.r [.f1 44 0 7,.l1 45 1 44]) (.blk 0 (.s (.r [.b1 47 .eql 45 (.i 1),.mv 46 47]) (.cnd 46 (.r [.mv 48 0,.f1 49 1 7,.l1 50 1 49,.f1 51 2 7,.f1 52 0 51,.l1 53 1 52,.o1 54 134 [48,50,53]]) (.s (.r [.b1 56 .eql 45 (.i 2),.mv 55 56]) (.cnd 55 (.r [.mv 57 0,.f1 58 1 7,.l1 59 1 58,.f1 60 2 7,.l2 61 7 60,.o1 62 135 [57,59,61]]) (.s (.r [.b1 64 .eql 45 (.i 3),.mv 63 64]) (.cnd 63 (.r [.mv 65 0,.f1 66 1 7,.l1 67 1 66,.f1 68 2 7,.f1 69 0 68,.l1 70 1 69,.f1 71 2 7,.f1 72 5 71,.l1 73 1 72,.o1 74 136 [65,67,70,73]]) (.s (.r [.b1 76 .eql 45 (.i 4),.mv 75 76]) (.cnd 75 (.r [.mv 77 0,.f1 78 1 7,.l1 79 1 78,.f1 80 2 7,.f1 81 0 80,.l1 82 1 81,.f1 83 2 7,.f1 84 5 83,.l1 85 1 84,.o1 86 137 [77,79,82,85]]) .skip)))))))))) (.s (.r [.m1 6 (.i 0)]) .ret))))))))
theorem znD:zc Tryz.prog [80,133,134,135,136,137] 84=some (zgq.ac,[(.t 6)],87):=by kernel_rfl
set_option maxHeartbeats 2000000 in
theorem zbD (W0:World) (hM:HM W0) (w:Wld) (ek pos:Int) (h:WG w) (hz:HZ 1000000 w) (hk:5≤ek∧ek≤7):zv Tryz.prog W0 84 [.ptr 4 0,.c (CI ek),.c (CI pos)] (wMp w) (fun _:Dv=>True) (fun _ => .c (CI (netW w ⟨ek,0,[],jc,pos⟩).2)) (fun d=>wMv d (netW w ⟨ek,0,[],jc,pos⟩).1):=by
 refine funW (c:=zgq) mixed znD (by simp) rfl rfl fun hg=>?_
 have hn:w.net.length≤1000:=by have:=h.pl.nl; omega
 have hw:netW w ⟨ek,0,[],jc,pos⟩=if pos < 0∨(w.net.length:Int)≤pos then (w,22)
  else if ek=7 then (zS w (w.net.getD pos.toNat noMs),0)
  else if ek=5 then (zH { w with net:=w.net.eraseIdx pos.toNat } (w.net.getD pos.toNat noMs),0)
  else ({ w with net:=w.net.eraseIdx pos.toNat },0):=rfl
 rw [hw];refine dr ?_;apply cP<;>intro h1
 ·rw [if_pos (.inl h1)];refine dr ?_;refine ⟨none,_,_,?_,.o,trivial,rfl,rfl⟩;refine dr ?_;trivial
 refine dr ?_;apply cP<;>intro h2
 ·rw [if_pos (.inr h2)];refine dr ?_;refine ⟨none,_,_,?_,.o,trivial,rfl,rfl⟩;refine dr ?_;trivial
 have h1':0≤pos:=h1;have h2':pos < (w.net.length:Int):=h2;rw [if_neg (by omega)];obtain ⟨k,rfl⟩:∃ k:Nat,pos=(k:Int):=⟨pos.toNat,by omega⟩;have hk':k < w.net.length:=by omega
 have hgd:w.net.getD (k:Int).toNat noMs=w.net[k]:=by rw [Int.toNat_natCast,List.getD_eq_getElem?_getD,List.getElem?_eq_getElem hk']; rfl
 rw [hgd,Int.toNat_natCast];have hms:=h.ms _ (List.getElem_mem hk');refine dr ?_;apply cP<;>intro h3
 ·have h3':ek=7:=h3;rw [if_pos h3'];refine dr ?_;refine oW (y6 W0 w w.net[k] hn) rfl ⟨rfl,rfl,rfl,rfl,rfl,rfl,rfl,rfl,trivial⟩ rfl rfl ⟨(),trivial⟩ fun _ _=>⟨rfl,?_⟩
  refine dEr ?_;refine ⟨none,_,_,?_,.o,trivial,rfl,rfl⟩;refine dr ?_;trivial
 have h3':ek≠7:=h3;rw [if_neg h3'];refine dr ?_;refine oW (zoi W0 w.net k hk' 11 1632 (by decide) (by omega)) rfl ⟨rfl,trivial⟩ rfl rfl ⟨(),trivial⟩ fun _ _=>⟨rfl,?_⟩
 refine dEr ?_;apply cP<;>intro h4
 ·have h4':ek≠5:=by have:ek=6:=h4; omega
  rw [if_neg h4'];refine dr ?_;refine ⟨none,_,_,?_,.n,trivial,rfl,rfl⟩;refine dr ?_;repeat (refine oB (by simp [List.length_eraseIdx,hk']) ?_; first | refine dr ?_ | exact dz)
  trivial
 have h4':ek=5:=by have:ek≠6:=h4; omega
 rw [if_pos h4'];have h1w:WG { w with net:=w.net.eraseIdx k }:=h.lose k;have hz1:HZ 1000000 { w with net:=w.net.eraseIdx k }:=⟨hz.l,hz.h⟩;have bx:XB.box [.c (za w.over.base),.c (zx w.over.layers),.c (ze w.over.upper),I w.clock,I w.count,.own 5 w.leases.length,.own 6 3,.own 10 w.floors.length,.own 1632 (w.net.length - 1),B w.waits,I w.op.kind,.c (CS w.op.path),.c (CS w.op.dest),.c (CS w.op.data)] = .box (wCx 5 1632 { w with net:=w.net.eraseIdx k }):=by
  show _=XB.box [.c (za w.over.base),.c (zx w.over.layers),.c (ze w.over.upper),I w.clock,I w.count,.own 5 w.leases.length,.own 6 3,.own 10 w.floors.length,.own 1632 (w.net.eraseIdx k).length,B w.waits,I w.op.kind,.c (CS w.op.path),.c (CS w.op.dest),.c (CS w.op.data)];rw [List.length_eraseIdx,if_pos hk']
 generalize w.net[k]=m at *;obtain ⟨mk,mw,mh⟩:=m;have hmw:mw=0∨mw=1∨mw=2:=by have h1:=hms.who.1; have h2:=hms.who.2; simp only at h1 h2; omega
 refine dr ?_;apply cP<;>intro k1
 ·have k1:mk=1:=k1;rw [show zH { w with net:=w.net.eraseIdx k } ⟨mk,mw,mh⟩=qN { w with net:=w.net.eraseIdx k } mw mh.path by unfold zH; rw [if_pos k1]];refine dr ?_;refine oW ((zoI W0 hM { w with net:=w.net.eraseIdx k } mw mh.path h1w hz1.l).swp 11 1632) rfl ⟨congrArg some bx,rfl,rfl,rfl,rfl,rfl,rfl,rfl,trivial⟩ rfl rfl ⟨false,trivial⟩ fun b _=>?_
  cases b with
  | true =>
   refine ⟨rfl,?_⟩;refine dEr ?_;refine ⟨none,_,_,?_,.l,trivial,rfl,rfl⟩;refine dr ?_;trivial
  | false =>
   refine ⟨rfl,?_⟩;refine dEr ?_;refine ⟨none,_,_,?_,.n,trivial,rfl,rfl⟩;refine dr ?_;trivial
 have k1:mk≠1:=k1;refine dr ?_;apply cP<;>intro k2
 ·have k2:mk=2:=k2;rcases hmw with rfl | rfl | rfl
  ·rw [show zH { w with net:=w.net.eraseIdx k } ⟨mk,0,mh⟩=(if w.clock < mh.til∧flW { w with net:=w.net.eraseIdx k } 0 < mh.num then { w with net:=w.net.eraseIdx k,holds:=w.holds.set 0 (jd (hdW { w with net:=w.net.eraseIdx k } 0) mh) } else { w with net:=w.net.eraseIdx k }) by unfold zH; rw [if_neg k1,if_pos k2]; rfl];refine dr ?_;refine oW ((zoK W0 { w with net:=w.net.eraseIdx k } mh h1w hz1).swp 11 1632) rfl ⟨congrArg some bx,rfl,rfl,rfl,rfl,rfl,rfl,rfl,trivial⟩ rfl rfl ⟨false,trivial⟩ fun b _=>?_
   cases b with
   | true =>
    refine ⟨rfl,?_⟩;refine dEr ?_;refine ⟨none,_,_,?_,.a,trivial,rfl,rfl⟩;refine dr ?_;trivial
   | false =>
    refine ⟨rfl,?_⟩;refine dEr ?_;refine ⟨none,_,_,?_,.n,trivial,rfl,rfl⟩;refine dr ?_;trivial
  ·rw [show zH { w with net:=w.net.eraseIdx k } ⟨mk,1,mh⟩=(if w.clock < mh.til∧flW { w with net:=w.net.eraseIdx k } 1 < mh.num then { w with net:=w.net.eraseIdx k,holds:=w.holds.set 1 (jd (hdW { w with net:=w.net.eraseIdx k } 1) mh) } else { w with net:=w.net.eraseIdx k }) by unfold zH; rw [if_neg k1,if_pos k2]; rfl];refine dr ?_;refine oW ((zoL W0 { w with net:=w.net.eraseIdx k } mh h1w hz1).swp 11 1632) rfl ⟨congrArg some bx,rfl,rfl,rfl,rfl,rfl,rfl,rfl,trivial⟩ rfl rfl ⟨false,trivial⟩ fun b _=>?_
   cases b with
   | true =>
    refine ⟨rfl,?_⟩;refine dEr ?_;refine ⟨none,_,_,?_,.b,trivial,rfl,rfl⟩;refine dr ?_;trivial
   | false =>
    refine ⟨rfl,?_⟩;refine dEr ?_;refine ⟨none,_,_,?_,.n,trivial,rfl,rfl⟩;refine dr ?_;trivial
  ·rw [show zH { w with net:=w.net.eraseIdx k } ⟨mk,2,mh⟩=(if w.clock < mh.til∧flW { w with net:=w.net.eraseIdx k } 2 < mh.num then { w with net:=w.net.eraseIdx k,holds:=w.holds.set 2 (jd (hdW { w with net:=w.net.eraseIdx k } 2) mh) } else { w with net:=w.net.eraseIdx k }) by unfold zH; rw [if_neg k1,if_pos k2]; rfl];refine dr ?_;refine oW ((zoM W0 { w with net:=w.net.eraseIdx k } mh h1w hz1).swp 11 1632) rfl ⟨congrArg some bx,rfl,rfl,rfl,rfl,rfl,rfl,rfl,trivial⟩ rfl rfl ⟨false,trivial⟩ fun b _=>?_
   cases b with
   | true =>
    refine ⟨rfl,?_⟩;refine dEr ?_;refine ⟨none,_,_,?_,.c,trivial,rfl,rfl⟩;refine dr ?_;trivial
   | false =>
    refine ⟨rfl,?_⟩;refine dEr ?_;refine ⟨none,_,_,?_,.n,trivial,rfl,rfl⟩;refine dr ?_;trivial
 have k2:mk≠2:=k2;have hpl:mh=JC mh:=hms.plain k2;refine dr ?_;apply cP<;>intro k3
 ·have k3:mk=3:=k3;rcases hmw with rfl | rfl | rfl
  ·rw [show zH { w with net:=w.net.eraseIdx k } ⟨mk,0,mh⟩=zS { w with net:=w.net.eraseIdx k,holds:=w.holds.set 0 (zW (hdW { w with net:=w.net.eraseIdx k } 0) mh.path mh.num),floors:=w.floors.set 0 (zL (flW { w with net:=w.net.eraseIdx k } 0) mh.num) } ⟨4,0,⟨mh.path,false,noE,mh.num,0⟩⟩ by unfold zH; rw [if_neg k1,if_neg k2,if_pos k3]; exact congrArg (fun y=>zS _ ⟨4,0,y⟩) hpl];refine dr ?_;refine oW ((zoN W0 { w with net:=w.net.eraseIdx k } mh.path mh.num h1w hz1).swp 11 1632) rfl ⟨congrArg some bx,rfl,rfl,rfl,rfl,rfl,rfl,rfl,trivial⟩ rfl rfl ⟨false,trivial⟩ fun b _=>?_
   cases b with
   | true =>
    refine ⟨rfl,?_⟩;refine dEr ?_;refine ⟨none,_,_,?_,.a,trivial,rfl,rfl⟩;refine dr ?_;trivial
   | false =>
    refine ⟨rfl,?_⟩;refine dEr ?_;refine ⟨none,_,_,?_,.n,trivial,rfl,rfl⟩;refine dr ?_;trivial
  ·rw [show zH { w with net:=w.net.eraseIdx k } ⟨mk,1,mh⟩=zS { w with net:=w.net.eraseIdx k,holds:=w.holds.set 1 (zW (hdW { w with net:=w.net.eraseIdx k } 1) mh.path mh.num),floors:=w.floors.set 1 (zL (flW { w with net:=w.net.eraseIdx k } 1) mh.num) } ⟨4,1,⟨mh.path,false,noE,mh.num,0⟩⟩ by unfold zH; rw [if_neg k1,if_neg k2,if_pos k3]; exact congrArg (fun y=>zS _ ⟨4,1,y⟩) hpl];refine dr ?_;refine oW ((zoO W0 { w with net:=w.net.eraseIdx k } mh.path mh.num h1w hz1).swp 11 1632) rfl ⟨congrArg some bx,rfl,rfl,rfl,rfl,rfl,rfl,rfl,trivial⟩ rfl rfl ⟨false,trivial⟩ fun b _=>?_
   cases b with
   | true =>
    refine ⟨rfl,?_⟩;refine dEr ?_;refine ⟨none,_,_,?_,.b,trivial,rfl,rfl⟩;refine dr ?_;trivial
   | false =>
    refine ⟨rfl,?_⟩;refine dEr ?_;refine ⟨none,_,_,?_,.n,trivial,rfl,rfl⟩;refine dr ?_;trivial
  ·rw [show zH { w with net:=w.net.eraseIdx k } ⟨mk,2,mh⟩=zS { w with net:=w.net.eraseIdx k,holds:=w.holds.set 2 (zW (hdW { w with net:=w.net.eraseIdx k } 2) mh.path mh.num),floors:=w.floors.set 2 (zL (flW { w with net:=w.net.eraseIdx k } 2) mh.num) } ⟨4,2,⟨mh.path,false,noE,mh.num,0⟩⟩ by unfold zH; rw [if_neg k1,if_neg k2,if_pos k3]; exact congrArg (fun y=>zS _ ⟨4,2,y⟩) hpl];refine dr ?_;refine oW ((zoP W0 { w with net:=w.net.eraseIdx k } mh.path mh.num h1w hz1).swp 11 1632) rfl ⟨congrArg some bx,rfl,rfl,rfl,rfl,rfl,rfl,rfl,trivial⟩ rfl rfl ⟨false,trivial⟩ fun b _=>?_
   cases b with
   | true =>
    refine ⟨rfl,?_⟩;refine dEr ?_;refine ⟨none,_,_,?_,.c,trivial,rfl,rfl⟩;refine dr ?_;trivial
   | false =>
    refine ⟨rfl,?_⟩;refine dEr ?_;refine ⟨none,_,_,?_,.n,trivial,rfl,rfl⟩;refine dr ?_;trivial
 have k3:mk≠3:=k3;refine dr ?_;apply cP<;>intro k4
 ·have k4:mk=4:=k4;rw [show zH { w with net:=w.net.eraseIdx k } ⟨mk,mw,mh⟩={ w with net:=w.net.eraseIdx k,leases:=jj w.leases mw mh.path mh.num } by unfold zH; rw [if_neg k1,if_neg k2,if_neg k3,if_pos k4]];refine dr ?_;refine oW ((zoJ W0 { w with net:=w.net.eraseIdx k } mw mh.path mh.num h1w hz1.l).swp 11 1632) rfl ⟨congrArg some bx,rfl,rfl,rfl,rfl,rfl,rfl,rfl,trivial⟩ rfl rfl ⟨false,trivial⟩ fun b _=>?_
  cases b with
  | true =>
   refine ⟨rfl,?_⟩;refine dEr ?_;refine ⟨none,_,_,?_,.l,trivial,rfl,rfl⟩;refine dr ?_;trivial
  | false =>
   refine ⟨rfl,?_⟩;refine dEr ?_;refine ⟨none,_,_,?_,.n,trivial,rfl,rfl⟩;refine dr ?_;trivial
 ·have k4:mk≠4:=k4;have h1:=hms.kind.1;have h2:=hms.kind.2;simp only at h1 h2;omega

def zeg:XC:=(.s (.r [.ex 1 (.box 0),.ex 2 (.alloc [.nil,.nil,.nil,(I 0),(I 0),.nil,.nil,.nil,.nil,(B false),(I 0),sE,sE,sE])]) (.s (.r [.l2 6 14 1,.ex 3 (.alloc [.nil,.nil,.nil,(I 0),(I 0),.nil,.nil,.nil,.nil,(B false),(I 0),sE,sE,sE]),.s1 14 3 6]) (.s (.r [.f1 7 0 1,.l2 8 3 7,.c1 9 77 [8],.f1 10 0 3,.s1 3 10 9]) (.s (.r [.f1 11 5 1,.l1 12 1 11,.ex 13 (.app true 4 40 72 (.k .nil) 12),.f1 14 5 3,.s1 1 14 13]) (.s (.r [.f1 15 6 3,.nu (.st 1 15 (.k .nil))]) (.s (.s (.r [.f1 16 6 1,.l1 17 1 16,.n1 18 17,.m1 19 (.i 0)]) (.blk 0 (.loop (.s (.r [.b1 20 .lss 19 18]) (.s (.cnd 20 .skip (.exit 0)) (.s (.blk 1 (.s (.r [.i1 21 1 17 19,.l1 22 1 21,.a1 5 22 7 53]) (.d [.f1 23 6 3,.l1 24 1 23,.mv 25 5,.ex 26 (.app true 7 80 53 (.k .nil) 25),.ex 27 (.bsl 1 56 [26]),.ex 28 (.app false 1 24 56 24 27),.f1 29 6 3,.s1 1 29 28]))) (.r [.b1 30 .add 19 (.i 1),.mv 19 30]))))))) (.s (.r [.f1 31 7 1,.l1 32 1 31,.ex 33 (.app true 1 8 3 (.k .nil) 32),.f1 34 7 3,.s1 1 34 33]) (.s (.r [.f1 35 8 1,.l1 36 1 35,.ex 37 (.app true 9 96 55 (.k .nil) 36),.f1 38 8 3,.s1 1 38 37]) (.s (.r [.l2 39 14 3,.s1 14 2 39]) .ret)))))))))
theorem zlw:zc Tryz.prog [] 78=some (zeg.ac,[(.cell 2 true 14)],40):=by kernel_rfl
abbrev cwB (w:Wld) (x:PV):XB := .box [.c (za w.over.base),.c (zx w.over.layers),.c (ze w.over.upper),I w.clock,I w.count,.own 208 w.leases.length,x,.c (jN w.floors),.c (jI w.net),B w.waits,I w.op.kind,.c (CS w.op.path),.c (CS w.op.dest),.c (CS w.op.data)]
abbrev cwM (w:Wld) (k:Nat):XM:=match k with
 | 0=>[(16,wBx w),(32,zWB),(48,cwB w .nil),(208,.row (w.leases.map jy) 4 72)]
 | 1=>[(16,wBx w),(32,zWB),(48,cwB w (.own 6 1)),(208,.row (w.leases.map jy) 4 72),(6,.rowP [.own 7 (hdW w 0).length] 56),(7,.row ((hdW w 0).map zD) 7 53)]
 | 2=>[(16,wBx w),(32,zWB),(48,cwB w (.own 6 2)),(208,.row (w.leases.map jy) 4 72),(6,.rowP [.own 7 (hdW w 0).length,.own 8 (hdW w 1).length] 56),(7,.row ((hdW w 0).map zD) 7 53),(8,.row ((hdW w 1).map zD) 7 53)]
 | _=>[(16,wBx w),(32,zWB),(48,cwB w (.own 6 3)),(208,.row (w.leases.map jy) 4 72),(6,.rowP [.own 7 (hdW w 0).length,.own 8 (hdW w 1).length,.own 9 (hdW w 2).length] 56),(7,.row ((hdW w 0).map zD) 7 53),(8,.row ((hdW w 1).map zD) 7 53),(9,.row ((hdW w 2).map zD) 7 53)]
theorem zoG (W0:World) (w:Wld) (h3:w.holds.length=3) (hz:WZ 1000000 w):zv Tryz.prog W0 78 [.c (eWldP w)] [] (fun _:Unit=>True) (fun _ => .agg [.c (za w.over.base),.c (zx w.over.layers),.c (ze w.over.upper),I w.clock,I w.count,.own 208 w.leases.length,.own 6 3,.own 528 w.floors.length,.own 592 w.net.length,B w.waits,I w.op.kind,.c (CS w.op.path),.c (CS w.op.dest),.c (CS w.op.data)])
  (fun _=>[(208,.row (w.leases.map jy) 4 72),(6,.rowP [.own 7 (hdW w 0).length,.own 8 (hdW w 1).length,.own 9 (hdW w 2).length] 56),(7,.row ((hdW w 0).map zD) 7 53),(8,.row ((hdW w 1).map zD) 7 53),(9,.row ((hdW w 2).map zD) 7 53),(528,.row (w.floors.map CI) 1 3),(592,.row (w.net.map eMsg) 9 55)]):=by
 rw [YT h3];refine funW (c:=zeg) mixed zlw (by simp) rfl rfl fun hg=>?_
 obtain ⟨hzo,hzh,_,hf,hn⟩:=hz;have hl:=hzh.l;have l0:=yR hzh 0;have l1:=yR hzh 1;have l2:=yR hzh 2;have e17:PV.c (jx w.holds) = .c (.row [zf (hdW w 0),zf (hdW w 1),zf (hdW w 2)]):=congrArg (fun l=>PV.c (jx l)) (holds3 h3);have e18:I (w.holds.length:Int)=I 3:=by rw [h3]; rfl
 refine dEr ?_;repeat ((first | refine c0 (zg8 W0 _ (hzo.mono (by omega))) rfl ?_ | refine oB (by simp; omega) ?_ | refine oB (by simp) ?_); first | refine dEr ?_ | exact dz)
 refine lq (σ:=Nat) (fun k=>[(1,.ptr 16 0),(2,.ptr 32 0),(3,.ptr 48 0),(17,.c (.row [zf (hdW w 0),zf (hdW w 1),zf (hdW w 2)])),(18,I 3),(19,I k)]) (fun k=>cwM w k) (fun k=>k≤3) (fun k=>3 - k) 0 (by simp) ?_ ?_
 ·refine zn.s (z:=none) ?_;refine dr ?_;repeat (refine oB (by first | exact e17 | exact e18) ?_; first | refine dr ?_ | exact dz)
  trivial
 intro k hk;obtain rfl | rfl | rfl | rfl:k=0∨k=1∨k=2∨k=3:=by omega
 ·refine dr ?_;apply cP<;>intro h1;rotate_left
  ·omega
  refine dr ?_;repeat ((first | refine ⟨0,rfl,_,rfl,?_⟩ | refine oB (by simp; omega) ?_ | refine oB (by simp) ?_ | refine oB (by decide) ?_); first | refine dr ?_ | exact dz)
  refine ⟨1,by omega,by omega,?_⟩;refine zj.ren 7 416 rfl rfl (z:=some 3) ?_;refine zj.ren 6 448 rfl rfl (z:=none) ?_;refine dr ?_;repeat (refine oB (by simp) ?_; first | refine dr ?_ | exact dz)
  trivial
 ·refine dr ?_;apply cP<;>intro h1;rotate_left
  ·omega
  refine dr ?_;repeat ((first | refine ⟨1,rfl,_,rfl,?_⟩ | refine oB (by simp; omega) ?_ | refine oB (by simp) ?_ | refine oB (by decide) ?_); first | refine dr ?_ | exact dz)
  refine ⟨2,by omega,by omega,?_⟩;refine zj.ren 8 416 rfl rfl (z:=none) ?_;refine dr ?_;repeat (refine oB (by simp) ?_; first | refine dr ?_ | exact dz)
  trivial
 ·refine dr ?_;apply cP<;>intro h1;rotate_left
  ·omega
  refine dr ?_;repeat ((first | refine ⟨2,rfl,_,rfl,?_⟩ | refine oB (by simp; omega) ?_ | refine oB (by simp) ?_ | refine oB (by decide) ?_); first | refine dr ?_ | exact dz)
  refine ⟨3,by omega,by omega,?_⟩;refine zj.ren 9 416 rfl rfl (z:=none) ?_;refine dr ?_;repeat (refine oB (by simp) ?_; first | refine dr ?_ | exact dz)
  trivial
 ·refine dr ?_;apply cP<;>intro h1
  ·omega
  refine dr ?_;repeat ((first | refine oB (by simp; omega) ?_ | refine oB (by simp) ?_); first | refine dr ?_ | exact dz)
  refine ⟨none,_,_,?_,(),trivial,rfl,rfl⟩;refine dr ?_;repeat (refine oB (by simp) ?_; first | refine dr ?_ | exact dz)
  trivial
theorem zoH (W0:World) (w:Wld) (h3:w.holds.length=3) (hz:WZ 1000000 w):zv Tryz.prog W0 78 [.c (eWldP w)] [] (fun _:Unit=>True) (fun _ => .agg (wCx 5 11 w)) (fun _=>wRx w) :=
 (((zoG W0 w h3 hz).swp 208 5).swp 528 10).swp 592 11
def zd8:XC:=(.s (.r [.ex 2 (.box 0),.ex 3 (.box 1),.ex 4 (.alloc [.nil,.nil,.nil,(I 0),(I 0),.nil,.nil,.nil,.nil,(B false),(I 0),sE,sE,sE]),.m1 5 (.i 0)]) (.s (.s (.r [.l2 10 14 2,.c1 11 20 [10],.ex 12 (.un .not 11)]) (.cnd 12 (.s (.r [.ex 13 (.build [.nil,.nil,.nil,(I 0),(I 0),.nil,.nil,.nil,.nil,(B false),(I 0),sE,sE,sE] []),.s1 14 4 13,.m1 5 (.i 1)]) .ret) .skip)) (.s (.r [.l2 14 14 2,.o1 15 78 [14],.ex 6 (.alloc [.nil,.nil,.nil,(I 0),(I 0),.nil,.nil,.nil,.nil,(B false),(I 0),sE,sE,sE]),.s1 14 6 15]) (.s (.s (.r [.f1 16 0 3,.l1 17 1 16]) (.blk 0 (.s (.r [.b1 19 .eql 17 (.i 1),.mv 18 19]) (.cnd 18 (.s (.s (.r [.f1 20 1 3,.l1 21 1 20,.c1 22 40 [21],.ex 23 (.un .not 22),.mv 24 23,.gf 25 (.fa 2 3) 24,.gf 26 (.ld false 1 25) 24,.gf 27 (.call 79 [26]) 24,.gf 28 (.un .not 27) 24,.ex 29 (.pick 24 .y 28)]) (.cnd 29 (.s (.r [.l2 30 14 6,.s1 14 4 30,.m1 5 (.i 1)]) .ret) .skip)) (.s (.r [.f1 31 1 3,.l1 32 1 31,.f1 33 2 3,.l1 34 1 33,.ex 35 (.build [sE,(B false),sE,(B false),sE,(I 0),(I 0)] [(0,(1,34))]),.ex 36 (.build [(I 0),(I 0),sE,(B false),sE,(B false),sE,(I 0),(I 0)] [(0,(1,(.i 1))),(1,(1,32)),(2,(7,35))]),.o1 37 80 [6,36]]) (.s (.r [.l2 38 14 6,.s1 14 4 38,.m1 5 (.i 0)]) .ret))) (.s (.r [.b1 40 .eql 17 (.i 2),.mv 39 40]) (.cnd 39 (.s (.r [.f1 41 3 3,.l2 42 4 41,.o1 43 81 [6,42],.mv 7 43]) (.s (.r [.l2 44 14 6,.mv 45 7,.s1 14 4 44,.mv 5 45]) .ret)) (.s (.r [.b1 47 .eql 17 (.i 3),.mv 46 47]) (.cnd 46 (.s (.r [.o1 48 82 [6],.mv 8 48]) (.s (.r [.l2 49 14 6,.mv 50 8,.s1 14 4 49,.mv 5 50]) .ret)) (.s (.r [.b1 52 .eql 17 (.i 4),.mv 51 52]) (.cnd 51 (.s (.r [.o1 53 83 [6]]) (.s (.r [.l2 54 14 6,.s1 14 4 54,.m1 5 (.i 0)]) .ret)) (.s (.s (.r [.b1 56 .eql 17 (.i 5),.mv 55 56]) (.cnd 55 .skip (.s (.r [.b1 57 .eql 17 (.i 6),.mv 55 57]) (.cnd 55 .skip (.r [.b1 58 .eql 17 (.i 7),.mv 55 58]))))) (.cnd 55 (.s (.r [.f1 59 0 3,.l1 60 1 59,.f1 61 7 3,.l1 62 1 61,.o1 63 84 [6,60,62],.mv 9 63]) (.s (.r [.l2 64 14 6,.mv 65 9,.s1 14 4 64,.mv 5 65]) .ret)) .skip)))))))))))) (.s (.r [.l2 66 14 6,.s1 14 4 66,.m1 5 (.i 1)]) .ret)))))
theorem zlo:zc Tryz.prog [78,80,81,82,83,84] 27=some (zd8.ac,[(.cell 4 true 14),(.t 5)],67):=by kernel_rfl
set_option maxHeartbeats 2000000 in
theorem zbE (W0:World) (hM:HM W0) (w:Wld) (ev:Ev) (hz:HZ 100000 w):Fn Tryz.prog W0 27 [zA w,eEv ev] (.c (.tup [zA (wDo w ev).1,CI (wDo w ev).2])) []:=by
 obtain ⟨ek,ew,ep,eo,pos⟩:=ev;show Fn _ _ _ [zA w,.agg [CI ek,CI ew,CS ep,CI eo.kind,CS eo.path,CS eo.dest,CS eo.data,CI pos]] _ _;refine fnX (c:=zd8) mixed zlo (by simp) rfl fun hg=>?_
 refine dEr ?_;repeat (refine c0 (JZ W0 hM w) rfl ?_; first | refine dEr ?_ | exact dz)
 apply cP<;>intro h1
 ·refine dr ?_;unfold wDo; rw [if_neg h1]<;>rfl
 rw [Qz h1];have hx:=h1.ev ⟨ek,ew,ep,eo,pos⟩;rw [← YT hx.pl.hl];clear hx;have hcw:=zoH W0 w h1.pl.hl (h1.wz (hz.mono (by omega)) (by omega));rw [YT h1.pl.hl] at hcw;have hn:w.net.length≤1000:=by have:=h1.pl.nl; omega
 have hz1:HZ 1000000 w:=hz.mono (by omega);refine dr ?_;refine oW hcw rfl trivial rfl rfl ⟨(),trivial⟩ fun _ _=>⟨rfl,?_⟩
 refine dEr ?_;apply cP<;>intro k1
 ·have k1:ek=1:=k1;refine dEr ?_;repeat (refine c0 (zbG W0 _) rfl ?_; first | refine dEr ?_ | exact dz)
  apply cP<;>intro a1
  ·have e:evW w ⟨ek,ew,ep,eo,pos⟩=(w,1):=by unfold evW; rw [if_pos k1,if_neg (fun hh=>a1 hh.1)]
   rw [e];refine dEr ?_;rfl
  refine dEr ?_;repeat (refine c0 (qM W0 hM _) rfl ?_; first | refine dEr ?_ | exact dz)
  apply cP<;>intro a2
  ·have e:evW w ⟨ek,ew,ep,eo,pos⟩=(w,1):=by unfold evW; rw [if_pos k1,if_neg (fun hh=>by rw [hh.2] at a2; cases a2)]
   rw [e];refine dEr ?_;rfl
  have e:evW w ⟨ek,ew,ep,eo,pos⟩=(zS w ⟨1,ew,⟨ep,false,noE,0,0⟩⟩,0):=by unfold evW; rw [if_pos k1,if_pos ⟨a1,a2⟩]
  rw [e];refine dr ?_;refine oW ((y6 W0 w ⟨1,ew,⟨ep,false,noE,0,0⟩⟩ hn).swp 4 96) rfl ⟨rfl,rfl,rfl,rfl,rfl,rfl,rfl,rfl,trivial⟩ rfl rfl ⟨(),trivial⟩ fun _ _=>⟨rfl,?_⟩
  refine dEr ?_;rfl
 have k1:ek≠1:=k1;refine dr ?_;apply cP<;>intro k2
 ·have k2:ek=2:=k2;have e:evW w ⟨ek,ew,ep,eo,pos⟩=jD w eo:=by unfold evW; rw [if_neg k1,if_pos k2]
  rw [e];refine dr ?_;refine oW ((zp5 W0 hM w eo h1 hz1.l).swp 4 96) rfl ⟨rfl,rfl,rfl,rfl,rfl,rfl,rfl,rfl,trivial⟩ rfl rfl ⟨(),trivial⟩ fun _ _=>⟨rfl,?_⟩
  refine dEr ?_;rfl
 have k2:ek≠2:=k2;refine dr ?_;apply cP<;>intro k3
 ·have k3:ek=3:=k3;have e:evW w ⟨ek,ew,ep,eo,pos⟩=tryW w:=by unfold evW; rw [if_neg k1,if_neg k2,if_pos k3]
  rw [e];refine dr ?_;refine oW ((zhC W0 hM w h1 hz1.l).swp 4 96) rfl ⟨rfl,rfl,rfl,rfl,rfl,rfl,rfl,rfl,trivial⟩ rfl rfl ⟨(),trivial⟩ fun _ _=>⟨rfl,?_⟩
  refine dEr ?_;rfl
 have k3:ek≠3:=k3;refine dr ?_;apply cP<;>intro k4
 ·have k4:ek=4:=k4;have e:evW w ⟨ek,ew,ep,eo,pos⟩=(yF w,0):=by unfold evW; rw [if_neg k1,if_neg k2,if_neg k3,if_pos k4]
  rw [e];refine dr ?_;refine oW ((zp3 W0 w h1 hz1.l).swp 4 96) rfl ⟨rfl,rfl,rfl,rfl,rfl,rfl,rfl,rfl,trivial⟩ rfl rfl ⟨(),trivial⟩ fun _ _=>⟨rfl,?_⟩
  refine dEr ?_;rfl
 have k4:ek≠4:=k4;refine dr ?_;apply cP<;>intro k5
 ·have k5:ek=5:=k5;have e:evW w ⟨ek,ew,ep,eo,pos⟩=netW w ⟨ek,0,[],jc,pos⟩:=by unfold evW; rw [if_neg k1,if_neg k2,if_neg k3,if_neg k4,if_pos (show 5≤ek∧ek≤7 by omega)]; rfl
  rw [e];refine dr ?_;apply cP<;>intro kk;rotate_left
  ·exact absurd k5 kk
  refine dr ?_;refine oW ((zbD W0 hM w ek pos h1 hz1 (by omega)).swp 4 96) rfl ⟨rfl,rfl,rfl,rfl,rfl,rfl,rfl,rfl,trivial⟩ rfl rfl ⟨.o,trivial⟩ fun d _=>?_
  cases d<;>refine ⟨rfl,?_⟩
  ·refine dEr ?_;rfl
  ·refine dEr ?_;rfl
  ·refine dEr ?_;rfl
  ·refine dEr ?_;rfl
  ·refine dEr ?_;rfl
  ·refine dEr ?_;rfl
 have k5:ek≠5:=k5;refine dr ?_;apply cP<;>intro k6
 ·have k6:ek=6:=k6;have e:evW w ⟨ek,ew,ep,eo,pos⟩=netW w ⟨ek,0,[],jc,pos⟩:=by unfold evW; rw [if_neg k1,if_neg k2,if_neg k3,if_neg k4,if_pos (show 5≤ek∧ek≤7 by omega)]; rfl
  rw [e];refine dr ?_;apply cP<;>intro kk;rotate_left
  ·exact absurd k6 kk
  refine dr ?_;refine oW ((zbD W0 hM w ek pos h1 hz1 (by omega)).swp 4 96) rfl ⟨rfl,rfl,rfl,rfl,rfl,rfl,rfl,rfl,trivial⟩ rfl rfl ⟨.o,trivial⟩ fun d _=>?_
  cases d<;>refine ⟨rfl,?_⟩
  ·refine dEr ?_;rfl
  ·refine dEr ?_;rfl
  ·refine dEr ?_;rfl
  ·refine dEr ?_;rfl
  ·refine dEr ?_;rfl
  ·refine dEr ?_;rfl
 have k6:ek≠6:=k6;refine dr ?_;apply cP<;>intro k7
 ·have k7:ek=7:=k7;have e:evW w ⟨ek,ew,ep,eo,pos⟩=netW w ⟨ek,0,[],jc,pos⟩:=by unfold evW; rw [if_neg k1,if_neg k2,if_neg k3,if_neg k4,if_pos (show 5≤ek∧ek≤7 by omega)]; rfl
  rw [e];refine dr ?_;refine oW ((zbD W0 hM w ek pos h1 hz1 (by omega)).swp 4 96) rfl ⟨rfl,rfl,rfl,rfl,rfl,rfl,rfl,rfl,trivial⟩ rfl rfl ⟨.o,trivial⟩ fun d _=>?_
  cases d<;>refine ⟨rfl,?_⟩
  ·refine dEr ?_;rfl
  ·refine dEr ?_;rfl
  ·refine dEr ?_;rfl
  ·refine dEr ?_;rfl
  ·refine dEr ?_;rfl
  ·refine dEr ?_;rfl
 have k7:ek≠7:=k7;have e:evW w ⟨ek,ew,ep,eo,pos⟩=(w,1):=by unfold evW; rw [if_neg k1,if_neg k2,if_neg k3,if_neg k4,if_neg (show ¬ (5≤ek∧ek≤7) by omega)]
 rw [e];refine dEr ?_;rfl

def zf0:XC:=(.s (.r [.ex 6 (.alloc [(I 0),(I 0),sE,(I 0),sE,sE,sE,(I 0)])]) (.s (.r [.mv 8 0,.o1 9 92 [8],.mv 7 9]) (.cut (.s (.r [.mv 10 1,.n1 11 10,.b1 12 .gtr 11 (.i 0),.mv 13 12,.gt 14 (.mv 0) 13,.gt 15 (.opn 38 [14,(.i 2)]) 13,.gt 16 (.bin .eql 15 (.i 0)) 13,.ex 17 (.pick 13 16 .n)]) (.cnd 17 (.r [.mv 18 1,.mv 19 0,.mv 20 1,.n1 21 20,.o1 22 38 [19,21],.i1 23 3 18 22,.f1 24 0 23,.l1 25 1 24,.mv 7 25]) .skip)) (.s (.s (.r [.mv 26 0,.o1 27 38 [26,(.i 16)]]) (.blk 0 (.s (.s (.r [.b1 29 .eql 27 (.i 0),.mv 28 29]) (.cnd 28 .skip (.s (.r [.b1 30 .eql 27 (.i 1),.mv 28 30]) (.cnd 28 .skip (.r [.b1 31 .eql 27 (.i 2),.mv 28 31]))))) (.cnd 28 (.s (.r [.mv 32 0,.o1 33 38 [32,(.i 3)],.mv 34 7,.ex 35 (.build [(I 0),(I 0),sE,(I 0),sE,sE,sE,(I 0)] [(0,(1,(.i 1))),(1,(1,33)),(2,(1,34))]),.s1 8 6 35]) .ret) (.s (.s (.r [.b1 37 .eql 27 (.i 3),.mv 36 37]) (.cnd 36 .skip (.r [.b1 38 .eql 27 (.i 4),.mv 36 38]))) (.cnd 36 (.s (.r [.mv 39 0,.mv 40 1,.o1 41 112 [39,40],.ex 42 (.build [(I 0),(I 0),sE,(I 0),sE,sE,sE,(I 0)] [(0,(1,(.i 2))),(3,(4,41))]),.s1 8 6 42]) .ret) (.s (.r [.b1 44 .eql 27 (.i 5),.mv 43 44]) (.cnd 43 (.s (.r [.ex 45 (.build [(I 0),(I 0),sE,(I 0),sE,sE,sE,(I 0)] [(0,(1,(.i 3)))]),.s1 8 6 45]) .ret) (.s (.r [.b1 47 .eql 27 (.i 6),.mv 46 47]) (.cnd 46 (.s (.r [.ex 48 (.build [(I 0),(I 0),sE,(I 0),sE,sE,sE,(I 0)] [(0,(1,(.i 4)))]),.s1 8 6 48]) .ret) (.s (.r [.b1 50 .eql 27 (.i 7),.mv 49 50]) (.cnd 49 (.s (.r [.mv 51 0,.mv 52 2,.b1 53 .add 52 (.i 1),.o1 54 38 [51,53],.ex 55 (.build [(I 0),(I 0),sE,(I 0),sE,sE,sE,(I 0)] [(0,(1,(.i 6))),(7,(1,54))]),.s1 8 6 55]) .ret) (.s (.r [.b1 57 .eql 27 (.i 8),.mv 56 57]) (.cnd 56 (.s (.r [.mv 58 0,.mv 59 2,.b1 60 .add 59 (.i 1),.o1 61 38 [58,60],.ex 62 (.build [(I 0),(I 0),sE,(I 0),sE,sE,sE,(I 0)] [(0,(1,(.i 7))),(7,(1,61))]),.s1 8 6 62]) .ret) (.s (.r [.b1 64 .eql 27 (.i 9),.mv 63 64]) (.cnd 63 (.s (.r [.mv 65 0,.ex 66 (.bsl 1 3 [(.i 0),(.i 8),(.i 1),(.i 5),(.i 2)]),.o1 67 36 [65,66],.mv 68 0,.ex 69 (.bsl 1 3 [(.k (.c (.sc (.int .i64 (.negSucc 0))))),(.i 3),(.i 0)]),.o1 70 36 [68,69],.mv 71 0,.ex 72 (.bsl 1 9 [(.s [47]),(.s []),(.s [47,97])]),.o1 73 95 [71,72],.mv 74 0,.ex 75 (.bsl 1 3 [(.k (.c (.sc (.int .i64 (.negSucc 0))))),(.i 12),(.i 0)]),.o1 76 36 [74,75],.ex 77 (.build [(I 0),(I 0),sE,(I 0),sE,sE,sE,(I 0)] [(0,(1,67)),(1,(1,70)),(2,(1,73)),(7,(1,76))]),.s1 8 6 77]) .ret) .skip)))))))))))))))) (.s (.r [.mv 78 0,.mv 79 2,.c1 80 113 [(.i 1),79],.o1 81 38 [78,80],.ex 82 (.build [(I 0),(I 0),sE,(I 0),sE,sE,sE,(I 0)] [(0,(1,(.i 5))),(7,(1,81))]),.s1 8 6 82]) .ret)))))
theorem zne:zc Tryz.prog [38,36,95,92,112] 70=some (zf0.ac,[(.cell 6 true 8)],83):=by kernel_rfl
theorem zhr (W0:World) (s:Str) (p:Int) (t:List Ent) (n:Int) (hs:s.length≤2000) (hp:0≤p∧p≤90000) (ht:t.length≤100000) (hn:0≤n∧n≤100000) :
  zv Tryz.prog W0 70 [.ptr 1 0,.c (za t),.c (CI n)] (Rd s p) (fun x:Ev × Int=>p≤x.2∧x.2≤p+12) (fun x => .c (eEv x.1)) (fun x=>Rd s x.2):=by
 refine funW (c:=zf0) mixed zne (by simp) rfl rfl fun hg=>?_
 refine dr ?_;refine oW (qW W0 s p hs (by omega)) rfl ⟨rfl,trivial⟩ rfl rfl ⟨_,List.mem_cons_self⟩ fun x0 hx0=>⟨rfl,?_⟩
 refine dEr ?_;refine JR (fun (x:Str) (q:Int)=>[(0,.ptr 1 0),(1,.c (za t)),(2,.c (CI n)),(6,.ptr 96 0),(7,.c (CS x))]) (fun x q=>[(1,rdB s q),(96,.box [.c (CI 0),.c (CI 0),.c (CS []),.c (CI 0),.c (CS []),.c (CS []),.c (CS []),.c (CI 0)])]) (fun x q=>p≤q∧q≤p+3) ?_ ?_
 ·refine dr ?_;apply cP<;>intro h1
  ·refine dr ?_;refine oW (zU W0 s (p+1) 2 hs (by omega) (by omega)) rfl ⟨rfl,trivial⟩ rfl rfl ⟨0,by omega,by omega⟩ fun v hv=>⟨rfl,?_⟩
   refine dEr ?_;apply cP<;>intro h2
   ·refine dEr ?_;refine oW (zU W0 s (p+1+1) t.length hs (by omega) (by omega)) rfl ⟨rfl,trivial⟩ rfl rfl ⟨0,by omega,by omega⟩ fun k2 hk2=>⟨rfl,?_⟩
    refine dEr ?_;repeat (refine aX hk2.1 (hk2.2 (by omega)) fun e he=>?_; first | refine dEr ?_ | exact dz)
    refine ⟨e.path,p+1+1+1,⟨by omega,by omega⟩,?_⟩;refine dr ?_;trivial
   ·refine dEr ?_;refine ⟨x0,p+1+1,⟨by omega,by omega⟩,?_⟩;refine dr ?_;trivial
  ·refine dEr ?_;refine ⟨x0,p+1,⟨by omega,by omega⟩,?_⟩;refine dr ?_;trivial
 rintro x q ⟨hq1,hq2⟩;refine dr ?_;refine oW (zU W0 s q 16 hs (by omega) (by omega)) rfl ⟨rfl,trivial⟩ rfl rfl ⟨0,by omega,by omega⟩ fun k hk=>⟨rfl,?_⟩
 refine dEr ?_;by_cases a:k=0∨k=1∨k=2
 ·rcases a with rfl | rfl | rfl
  ·refine dr ?_;apply cP<;>intro h1;rotate_left
   ·exact absurd rfl h1
   refine dr ?_;apply cP<;>intro h1;rotate_left
   ·exact absurd rfl h1
   refine dr ?_;refine oW (zU W0 s (q+1) 3 hs (by omega) (by omega)) rfl ⟨rfl,trivial⟩ rfl rfl ⟨0,by omega,by omega⟩ fun v hv=>⟨rfl,?_⟩
   refine dEr ?_;refine ⟨none,_,_,?_,(⟨1,v,x,jc,0⟩,q+1+1),⟨by simp only; omega,by simp only; omega⟩,rfl,rfl⟩;refine dr ?_;trivial
  ·refine dr ?_;apply cP<;>intro h1
   ·exact absurd h1 (by decide)
   refine dr ?_;apply cP<;>intro h1;rotate_left
   ·exact absurd rfl h1
   refine dr ?_;apply cP<;>intro h1;rotate_left
   ·exact absurd rfl h1
   refine dr ?_;refine oW (zU W0 s (q+1) 3 hs (by omega) (by omega)) rfl ⟨rfl,trivial⟩ rfl rfl ⟨0,by omega,by omega⟩ fun v hv=>⟨rfl,?_⟩
   refine dEr ?_;refine ⟨none,_,_,?_,(⟨1,v,x,jc,0⟩,q+1+1),⟨by simp only; omega,by simp only; omega⟩,rfl,rfl⟩;refine dr ?_;trivial
  ·refine dr ?_;apply cP<;>intro h1
   ·exact absurd h1 (by decide)
   refine dr ?_;apply cP<;>intro h1
   ·exact absurd h1 (by decide)
   refine dr ?_;apply cP<;>intro h1;rotate_left
   ·exact absurd rfl h1
   refine dr ?_;refine oW (zU W0 s (q+1) 3 hs (by omega) (by omega)) rfl ⟨rfl,trivial⟩ rfl rfl ⟨0,by omega,by omega⟩ fun v hv=>⟨rfl,?_⟩
   refine dEr ?_;refine ⟨none,_,_,?_,(⟨1,v,x,jc,0⟩,q+1+1),⟨by simp only; omega,by simp only; omega⟩,rfl,rfl⟩;refine dr ?_;trivial
 refine dr ?_;apply cP<;>intro h1
 ·omega
 refine dr ?_;apply cP<;>intro h2
 ·omega
 refine dr ?_;apply cP<;>intro h3
 ·omega
 clear h1 h2 h3;refine dr ?_;by_cases a:k=3
 ·subst a;apply cP<;>intro h1;rotate_left
  ·exact absurd rfl h1
  refine dr ?_;apply cP<;>intro h1;rotate_left
  ·exact absurd rfl h1
  refine dr ?_;refine oW (Y3 W0 s (q+1) t hs (by omega) (by omega)) rfl ⟨rfl,trivial⟩ rfl rfl ⟨((⟨0,[],[],[]⟩,q+1):Op × Int),by simp only; omega,by simp only; omega⟩ fun y hy=>⟨rfl,?_⟩
  obtain ⟨op,r⟩:=y;obtain ⟨hr1,hr2⟩:q+1≤r∧r≤q+1+8:=hy;refine dEr ?_;refine ⟨none,_,_,?_,(⟨2,0,[],op,0⟩,r),⟨by simp only; omega,by simp only; omega⟩,rfl,rfl⟩;refine dr ?_;trivial
 apply cP<;>intro h1
 ·exact absurd h1 a
 refine dr ?_;apply cP<;>intro h1
 ·refine dr ?_;refine oW (Y3 W0 s (q+1) t hs (by omega) (by omega)) rfl ⟨rfl,trivial⟩ rfl rfl ⟨((⟨0,[],[],[]⟩,q+1):Op × Int),by simp only; omega,by simp only; omega⟩ fun y hy=>⟨rfl,?_⟩
  obtain ⟨op,r⟩:=y;obtain ⟨hr1,hr2⟩:q+1≤r∧r≤q+1+8:=hy;refine dEr ?_;refine ⟨none,_,_,?_,(⟨2,0,[],op,0⟩,r),⟨by simp only; omega,by simp only; omega⟩,rfl,rfl⟩;refine dr ?_;trivial
 refine dr ?_;apply cP<;>intro h2
 ·refine dr ?_;refine ⟨none,_,_,?_,(⟨3,0,[],jc,0⟩,q+1),⟨by simp only; omega,by simp only; omega⟩,rfl,rfl⟩;refine dr ?_;trivial
 refine dr ?_;apply cP<;>intro h3
 ·refine dr ?_;refine ⟨none,_,_,?_,(⟨4,0,[],jc,0⟩,q+1),⟨by simp only; omega,by simp only; omega⟩,rfl,rfl⟩;refine dr ?_;trivial
 refine dr ?_;apply cP<;>intro h4
 ·refine dr ?_;repeat (refine oB (by omega) ?_; first | refine dr ?_ | exact dz)
  refine oW (zU W0 s (q+1) (n+1) hs (by omega) (by omega)) rfl ⟨rfl,trivial⟩ rfl rfl ⟨0,by omega,by omega⟩ fun v hv=>⟨rfl,?_⟩
  refine dEr ?_;refine ⟨none,_,_,?_,(⟨6,0,[],jc,v⟩,q+1+1),⟨by simp only; omega,by simp only; omega⟩,rfl,rfl⟩;refine dr ?_;trivial
 refine dr ?_;apply cP<;>intro h5
 ·refine dr ?_;repeat (refine oB (by omega) ?_; first | refine dr ?_ | exact dz)
  refine oW (zU W0 s (q+1) (n+1) hs (by omega) (by omega)) rfl ⟨rfl,trivial⟩ rfl rfl ⟨0,by omega,by omega⟩ fun v hv=>⟨rfl,?_⟩
  refine dEr ?_;refine ⟨none,_,_,?_,(⟨7,0,[],jc,v⟩,q+1+1),⟨by simp only; omega,by simp only; omega⟩,rfl,rfl⟩;refine dr ?_;trivial
 refine dr ?_;apply cP<;>intro h6
 ·refine dr ?_;refine oW (yl W0 s (q+1) [0,8,1,5,2] hs (by omega) (by decide)) rfl ⟨rfl,trivial⟩ rfl rfl ⟨0,by decide⟩ fun v1 _=>⟨rfl,?_⟩
  refine dEr ?_;refine oW (yl W0 s (q+1+1) [-1,3,0] hs (by omega) (by decide)) rfl ⟨rfl,trivial⟩ rfl rfl ⟨0,by decide⟩ fun v2 _=>⟨rfl,?_⟩
  refine dEr ?_;refine oW (f_of W0 s (q+1+1+1) [[47],[],[47,97]] hs (by omega) (by decide)) rfl ⟨rfl,trivial⟩ rfl rfl ⟨_,List.mem_cons_self⟩ fun v3 _=>⟨rfl,?_⟩
  refine dEr ?_;refine oW (yl W0 s (q+1+1+1+1) [-1,12,0] hs (by omega) (by decide)) rfl ⟨rfl,trivial⟩ rfl rfl ⟨0,by decide⟩ fun v4 _=>⟨rfl,?_⟩
  refine dEr ?_;refine ⟨none,_,_,?_,(⟨v1,v2,v3,jc,v4⟩,q+1+1+1+1+1),⟨by simp only; omega,by simp only; omega⟩,rfl,rfl⟩;refine dr ?_;trivial
 have hm:zL 1 n≤100000:=by unfold zL; split<;>omega
 refine dr ?_;repeat (refine c0 (zhg W0 1 n) rfl ?_; first | refine dr ?_ | exact dz)
 refine oW (zU W0 s (q+1) (zL 1 n) hs (by omega) (by omega)) rfl ⟨rfl,trivial⟩ rfl rfl ⟨0,by omega,by omega⟩ fun v hv=>⟨rfl,?_⟩
 refine dEr ?_;refine ⟨none,_,_,?_,(⟨5,0,[],jc,v⟩,q+1+1),⟨by simp only; omega,by simp only; omega⟩,rfl,rfl⟩;refine dr ?_;trivial
def zgl:XC:=(.s (.r [.ex 2 (.alloc [.nil,.nil,.nil,(I 0),(I 0),.nil,.nil,.nil,.nil,(B false),(I 0),sE,sE,sE])]) (.s (.r [.mv 8 0,.o1 9 94 [8],.ex 3 (.alloc [.nil,.nil,.nil]),.s1 3 3 9]) (.cut (.s (.r [.l2 10 3 3,.c1 11 25 [10],.ex 12 (.un .not 11)]) (.cnd 12 (.r [.ex 13 (.build [.nil,.nil,.nil] []),.s1 3 3 13]) .skip)) (.s (.r [.l2 14 3 3,.o1 15 72 [14],.ex 4 (.alloc [.nil,.nil,.nil,(I 0),(I 0),.nil,.nil,.nil,.nil,(B false),(I 0),sE,sE,sE]),.s1 14 4 15]) (.s (.s (.r [.mv 16 0,.ex 17 (.bsl 1 3 [(.i 12),(.i 24),(.i 36),(.i 48),(.i 6),(.i 0)]),.o1 18 36 [16,17],.mv 5 18]) (.blk 0 (.loop (.s (.s (.r [.mv 19 5,.b1 20 .gtr 19 (.i 0)]) (.cnd 20 .skip (.exit 0))) (.s (.blk 1 (.s (.r [.f1 24 0 4,.l2 25 3 24,.c1 26 69 [25],.mv 23 26,.e1 27 23 0,.e1 28 23 1,.a1 6 27 3 39,.mv 7 28]) (.d [.exo [1,4,5,6,592] 30 (.ld true 14 4),.mv 31 0,.mv 32 6,.f1 33 8 4,.exo [1,4,5,6,592] 34 (.ld false 1 33),.n1 35 34,.exo [1,4,5,6,592] 36 (.opn 70 [31,32,35]),.exo [1,4,5,6,592] 37 (.opn 73 [30,36]),.mv 29 37,.e1 38 29 0,.e1 39 29 1,.s1 14 4 38]))) (.r [.mv 21 5,.b1 22 .sub 21 (.i 1),.mv 5 22])))))) (.s (.r [.l2 40 14 4,.o1 41 45 [40],.s1 14 2 41]) .ret))))))
theorem zny:zc Tryz.prog [94,36,70,73,72,45,1000001,1000004,1000005,1000006,1000592] 35=some (zgl.ac,[(.cell 2 true 14)],42):=by kernel_rfl
structure WR (n:Nat) (w:Wld):Prop where
 z:WZ (100+n) w
 h:w.holds.length=3
 f:w.floors.length=3
 ck : -(20000+20000 * (n:Int))≤w.clock∧w.clock≤20000+20000 * n
 ct : -(20000+20000 * (n:Int))≤w.count∧w.count≤20000+20000 * n
theorem WG.wr {n:Nat} {w:Wld} (h:WG w) (hz:HZ n w) (hn:n≤100):WR 0 w:=⟨h.wz (hz.mono (by omega)) (by omega),h.pl.hl,h.pl.fl,by have:=h.pl.ck; omega,by have:=h.pl.ct; omega⟩
theorem WZ.mono {n m:Nat} {w:Wld} (h:WZ n w) (hm:n≤m):WZ m w:=⟨h.o.mono hm,h.z.mono hm,by have:=h.h; omega,by have:=h.f; omega,by have:=h.t; omega⟩
theorem WR.mono {n m:Nat} {w:Wld} (h:WR n w) (hm:n≤m):WR m w:=⟨h.z.mono (by omega),h.h,h.f,by have:=h.ck; omega,by have:=h.ct; omega⟩
theorem zi1:oOk noO=true:=by decide +kernel
theorem zpE (W0:World) (s:Str) (p:Int) (hs:s.length≤2000) (hp:0≤p∧p≤20000) :
  zv Tryz.prog W0 35 [.ptr 1 0] (Rd s p) (fun x:Wld × Int=>WR 0 x.1∧p≤x.2∧x.2≤p+1200) (fun x => .c (zA x.1)) (fun x=>Rd s x.2):=by
 refine funW (c:=zgl) mixed zny (by simp) rfl rfl fun hg=>?_
 refine dr ?_;refine oW (zph W0 s p hs (by omega)) rfl ⟨rfl,trivial⟩ rfl rfl ⟨(noO,p),OS.no,by simp,by simp; omega⟩ fun x hx=>⟨rfl,?_⟩
 obtain ⟨o0,q0⟩:=x;obtain ⟨a1,a2,a3⟩:OS o0∧p≤q0∧q0≤p+600:=hx;refine dEr ?_;refine cutz 3 (fun (o:Over)=>[(0,.ptr 1 0),(2,.ptr 32 0),(3,.ptr 48 0)]) (fun o=>[(1,rdB s q0),(32,zWB),(48,ovB o)]) (fun o=>OS o∧oOk o=true) ?_ ?_
 ·refine dEr ?_;repeat (refine c0 (J3 W0 o0) rfl ?_; first | refine dEr ?_ | exact dz)
  apply cP<;>intro h1
  ·refine dr ?_;refine ⟨noO,⟨OS.no,zi1⟩,?_⟩;refine zj.trans (F1:=_) (m1:=_) (zj.nilC 48 [.nil,.nil,.nil] [.c (.row []),.c (.row []),.c (.row [])] rfl ⟨nc1,nc1,nc1,trivial⟩) (z:=none) ?_;refine dr ?_;trivial
  ·refine dr ?_;refine ⟨o0,⟨a1,h1⟩,?_⟩;refine zn.s (z:=none) ?_;refine dr ?_;trivial
 rintro o ⟨ho,h1⟩;have g0:WG (newW o):=WG.new h1;refine dr ?_;refine oW (zp1 W0 o (ho.oz.mono (by omega))) rfl trivial rfl rfl ⟨(),trivial⟩ fun _ _=>⟨rfl,?_⟩
 refine dEr ?_;refine oW (yl W0 s q0 [12,24,36,48,6,0] hs (by omega) (by decide)) rfl ⟨rfl,trivial⟩ rfl rfl ⟨0,by decide⟩ fun n hn=>⟨rfl,?_⟩
 have hn2:0≤n∧n≤48:=by
  simp only [List.mem_cons,List.not_mem_nil,or_false] at hn;omega
 refine dEr ?_;refine lq3 (fun (x:Wld) (i q:Int)=>[(0,.ptr 1 0),(2,.ptr 32 0),(3,.ptr 48 0),(4,.ptr 64 0),(5,.c (CI i))]) (fun x _ q=>[(1,rdB s q),(32,zWB),(48,ovB o),(64,.box (wCo 6 x))]++wMn 6 x)
  (fun x i q=>0≤i∧i≤n∧p≤q∧q≤p+601+12 * (n - i)∧WG x∧HZ (n - i).toNat x) (fun _ i _=>i.toNat) (newW o) n (q0+1) ⟨by omega,by omega,by omega,by omega,g0,HZ.new.mono (by omega)⟩ ?_ ?_
 ·refine zj.newB 64 o rfl rfl (by decide) (z:=none) ?_;refine dr ?_;repeat (refine oB (by simp) ?_; first | refine dr ?_ | exact dz)
  trivial
 rintro x i q ⟨hi1,hi2,hq1,hq2,hx,hz⟩;refine dr ?_;apply cP<;>intro h3
 ·have hv:=Zu W0 x.over;have hvl:=@za3 x.over;rw [YQ] at hv;generalize (jg x.over).getD []=t at *;have hnt:x.net.length≤1000:=by have:=hx.pl.nl; omega
  refine dEr ?_;repeat (refine c0 hv rfl ?_; first | refine dEr ?_ | exact dz)
  refine oW (zhr W0 s q t x.net.length hs (by omega) (by omega) (by omega)) rfl ⟨rfl,trivial⟩ rfl rfl ⟨((⟨0,0,[],jc,0⟩,q):Ev × Int),by simp only; omega,by simp only; omega⟩ fun y hy=>⟨rfl,?_⟩
  obtain ⟨ev,r⟩:=y;obtain ⟨hr1,hr2⟩:q≤r∧r≤q+12:=hy;have hx':=hx.ev ev;have hz':=hz.ev ev;refine dEr ?_;refine oW (zhq W0 x ev hx (hz.mono (by omega))) rfl ⟨rfl,rfl,rfl,trivial⟩ rfl rfl ⟨false,trivial⟩ fun b _=>?_
  generalize evW x ev=rr at *;obtain ⟨x',c⟩:=rr;cases b with
  | true =>
   refine ⟨rfl,?_⟩;refine dEr ?_;repeat ((first | refine oB (by omega) ?_ | refine oB (by simp) ?_); first | refine dEr ?_ | exact dz)
   refine ⟨x',i - 1,r,⟨by omega,by omega,by omega,by omega,hx',hz'.mono (by omega)⟩,by omega,?_⟩;refine zj.ren 6 592 rfl rfl (z:=none) ?_;refine dr ?_;repeat (refine oB (by simp) ?_; first | refine dr ?_ | exact dz)
   trivial
  | false =>
   refine ⟨rfl,?_⟩;refine dEr ?_;repeat ((first | refine oB (by omega) ?_ | refine oB (by simp) ?_); first | refine dEr ?_ | exact dz)
   refine ⟨x',i - 1,r,⟨by omega,by omega,by omega,by omega,hx',hz'.mono (by omega)⟩,by omega,?_⟩;refine zn.s (z:=none) ?_;refine dr ?_;repeat (refine oB (by simp) ?_; first | refine dr ?_ | exact dz)
   trivial
 refine dr ?_;have hw:WR 0 x:=hx.wr hz (by omega);refine oW (zbL W0 x (hx.wz (hz.mono (by omega)) (by omega))) rfl ⟨rfl,rfl,rfl,trivial⟩ rfl rfl ⟨(),trivial⟩ fun _ _=>⟨rfl,?_⟩
 refine dEr ?_;repeat (refine oB (by simp) ?_; first | refine dEr ?_ | exact dz)
 refine ⟨none,_,_,?_,(x,q),⟨hw,by omega,by omega⟩,rfl,rfl⟩;refine dr ?_;trivial
def zdR:XC:=(.s (.r [.ex 1 (.box 0),.ex 2 (.alloc [.nil,.nil,.nil,(I 0),(I 0),.nil,.nil,.nil,.nil,(B false),(I 0),sE,sE,sE])]) (.s (.r [.l2 5 14 1,.ex 3 (.alloc [.nil,.nil,.nil,(I 0),(I 0),.nil,.nil,.nil,.nil,(B false),(I 0),sE,sE,sE]),.s1 14 3 5]) (.s (.r [.f1 6 0 1,.l2 7 3 6,.c1 8 102 [7],.f1 9 0 3,.s1 3 9 8]) (.s (.r [.ex 10 .bsl0,.f1 11 5 1,.l1 12 1 11,.ex 13 (.app true 4 40 72 10 12),.f1 14 5 3,.s1 1 14 13]) (.s (.r [.ex 15 .bsl0,.f1 16 6 3,.s1 1 16 15]) (.s (.s (.r [.m1 4 (.i 0)]) (.blk 0 (.loop (.s (.s (.r [.mv 17 4,.f1 18 6 1,.l1 19 1 18,.n1 20 19,.b1 21 .lss 17 20]) (.cnd 21 .skip (.exit 0))) (.s (.blk 1 (.d [.f1 24 6 3,.l1 25 1 24,.ex 26 .bsl0,.f1 27 6 1,.l1 28 1 27,.mv 29 4,.i1 30 1 28 29,.l1 31 1 30,.ex 32 (.app true 7 80 53 26 31),.ex 33 (.bsl 1 56 [32]),.ex 34 (.app false 1 24 56 25 33),.f1 35 6 3,.s1 1 35 34])) (.r [.mv 22 4,.b1 23 .add 22 (.i 1),.mv 4 23])))))) (.s (.r [.ex 36 .bsl0,.f1 37 7 1,.l1 38 1 37,.ex 39 (.app true 1 8 3 36 38),.f1 40 7 3,.s1 1 40 39]) (.s (.r [.ex 41 .bsl0,.f1 42 8 1,.l1 43 1 42,.ex 44 (.app true 9 96 55 41 43),.f1 45 8 3,.s1 1 45 44]) (.s (.r [.l2 46 14 3,.s1 14 2 46]) .ret)))))))))
theorem zk7:zc Tryz.prog [] 45=some (zdR.ac,[(.cell 2 true 14)],47):=by kernel_rfl
def cpM (h0 h1 h2:List Hold):Nat→XM
 | 0=>[(14,.row [] 1 56)]
 | 1=>[(14,.rowP [.own 15 h0.length] 56),(15,.row (h0.map zD) 7 53)]
 | 2=>[(14,.rowP [.own 15 h0.length,.own 31 h1.length] 56),(15,.row (h0.map zD) 7 53),(31,.row (h1.map zD) 7 53)]
 | _=>[(14,.rowP [.own 15 h0.length,.own 31 h1.length,.own 47 h2.length] 56),(15,.row (h0.map zD) 7 53),(31,.row (h1.map zD) 7 53),(47,.row (h2.map zD) 7 53)]
theorem zpm (W0:World) (w:Wld) (h0 h1 h2:List Hold) (hz:WZ 1000000 w) (h3:w.holds=[h0,h1,h2]):zv Tryz.prog W0 45 [.c (zA w)] [] (fun _:Unit=>True) (fun _ => .agg [.c (za w.over.base),.c (zx w.over.layers),.c (ze w.over.upper),I w.clock,I w.count,.own 208 w.leases.length,.own 14 3,.own 624 w.floors.length,.own 704 w.net.length,B w.waits,I w.op.kind,.c (CS w.op.path),.c (CS w.op.dest),.c (CS w.op.data)]) (fun _=>cpM h0 h1 h2 3++[(208,.row (w.leases.map jy) 4 72),(624,.row (w.floors.map CI) 1 3),(704,.row (w.net.map eMsg) 9 55)]):=by
 obtain ⟨o,cl,cn,ls,hds,fl,nt,wt,wop⟩:=w;simp only at h3;subst h3;obtain ⟨hzo,⟨hzl,hzh⟩,hh,hf,hn⟩:=hz;simp only at hzo hzl hzh hh hf hn;show zv _ _ _ [.c (.agg [za o.base,zx o.layers,ze o.upper,CI cl,CI cn,zw ls,jx [h0,h1,h2],jN fl,jI nt,CB wt,CI wop.kind,CS wop.path,CS wop.dest,CS wop.data])] _ _ _ _;refine funW (c:=zdR) mixed zk7 (by simp) rfl rfl fun hg=>?_
 refine dEr ?_;repeat ((first | refine c0 (J1 W0 _ (hzo.mono (by omega))) rfl ?_ | refine oB (by simp; omega) ?_ | refine oB (by simp) ?_); first | refine dEr ?_ | exact dz)
 refine lq (σ:=Nat) (fun k=>[(1,.ptr 16 0),(2,.ptr 32 0),(3,.ptr 48 0),(4,I k)]) (fun k=>cpM h0 h1 h2 k++[(16,.box [.c (za o.base),.c (zx o.layers),.c (ze o.upper),I cl,I cn,.c (zw ls),.c (jx [h0,h1,h2]),.c (jN fl),.c (jI nt),B wt,I wop.kind,.c (CS wop.path),.c (CS wop.dest),.c (CS wop.data)]),(32,zWB),(48,.box [.c (za o.base),.c (zx o.layers),.c (ze o.upper),I cl,I cn,.own 208 ls.length,.own 14 k,.c (jN fl),.c (jI nt),B wt,I wop.kind,.c (CS wop.path),.c (CS wop.dest),.c (CS wop.data)]),(208,.row (ls.map jy) 4 72)]) (fun k=>k≤3) (fun k=>3 - k) 0 (by simp) ?_ ?_
 ·refine zn.trans (z:=none) (z':=some 3) (F1:=[(1,.ptr 16 0),(2,.ptr 32 0),(3,.ptr 48 0),(4,I 0)]) (m1:=[(16,.box [.c (za o.base),.c (zx o.layers),.c (ze o.upper),I cl,I cn,.c (zw ls),.c (jx [h0,h1,h2]),.c (jN fl),.c (jI nt),B wt,I wop.kind,.c (CS wop.path),.c (CS wop.dest),.c (CS wop.data)]),(32,zWB),(48,.box [.c (za o.base),.c (zx o.layers),.c (ze o.upper),I cl,I cn,.own 208 ls.length,.nil,.c (jN fl),.c (jI nt),B wt,I wop.kind,.c (CS wop.path),.c (CS wop.dest),.c (CS wop.data)]),(208,.row (ls.map jy) 4 72)]) ?_ ?_
  ·refine dr ?_;repeat (refine oB (by simp<;>rfl) ?_; first | refine dr ?_ | exact dz)
   trivial
  ·show zj _ _ _ _ _;exact zj.er (zj.nilB 48 _ [.c (za o.base),.c (zx o.layers),.c (ze o.upper),I cl,I cn,.own 208 ls.length,.own 14 0,.c (jN fl),.c (jI nt),B wt,I wop.kind,.c (CS wop.path),.c (CS wop.dest),.c (CS wop.data)] 14 56 rfl rfl ⟨nr0,nr0,nr0,nr0,nr0,nr0,nr1,nr0,nr0,nr0,nr0,nr0,nr0,nr0,trivial⟩) rfl
 intro k hk;rcases k with _ | _ | _ | _ | k
 ·have hzk:=hzh h0 (by simp);refine dr ?_;apply cP<;>intro hq;rotate_left
  ·simp at hq
  refine dr ?_;repeat ((first | refine oB (by simp; omega) ?_ | refine oB (by simp) ?_); first | refine dr ?_ | exact dz)
  refine ⟨1,by omega,by omega,?_⟩;refine zj.ren 512 15 rfl rfl (z:=none) ?_;refine dr ?_;repeat (refine oB (by simp) ?_; first | refine dr ?_ | exact dz)
  trivial
 ·have hzk:=hzh h1 (by simp);refine dr ?_;apply cP<;>intro hq;rotate_left
  ·simp at hq
  refine dr ?_;repeat ((first | refine oB (by simp; omega) ?_ | refine oB (by simp) ?_); first | refine dr ?_ | exact dz)
  refine ⟨2,by omega,by omega,?_⟩;refine zj.ren 512 31 rfl rfl (z:=none) ?_;refine dr ?_;repeat (refine oB (by simp) ?_; first | refine dr ?_ | exact dz)
  trivial
 ·have hzk:=hzh h2 (by simp);refine dr ?_;apply cP<;>intro hq;rotate_left
  ·simp at hq
  refine dr ?_;repeat ((first | refine oB (by simp; omega) ?_ | refine oB (by simp) ?_); first | refine dr ?_ | exact dz)
  refine ⟨3,by omega,by omega,?_⟩;refine zj.ren 512 47 rfl rfl (z:=none) ?_;refine dr ?_;repeat (refine oB (by simp) ?_; first | refine dr ?_ | exact dz)
  trivial
 ·refine dr ?_;apply cP<;>intro hq
  ·simp at hq
  refine dr ?_;repeat ((first | refine oB (by simp; omega) ?_ | refine oB (by simp) ?_); first | refine dr ?_ | exact dz)
  refine ⟨none,_,_,?_,(),trivial,rfl,rfl⟩;refine dr ?_;repeat (refine oB (by simp) ?_; first | refine dr ?_ | exact dz)
  trivial
 ·omega
theorem zpl (W0:World) (w:Wld) (h0 h1 h2:List Hold) (hz:WZ 1000000 w) (h3:w.holds=[h0,h1,h2]):zv Tryz.prog W0 45 [.c (zA w)] [] (fun _:Unit=>True) (fun _ => .agg [.c (za w.over.base),.c (zx w.over.layers),.c (ze w.over.upper),I w.clock,I w.count,.own 7 w.leases.length,.own 4 3,.own 5 w.floors.length,.own 6 w.net.length,B w.waits,I w.op.kind,.c (CS w.op.path),.c (CS w.op.dest),.c (CS w.op.data)]) (fun _=>[(4,.rowP [.own 15 h0.length,.own 31 h1.length,.own 47 h2.length] 56),(15,.row (h0.map zD) 7 53),(31,.row (h1.map zD) 7 53),(47,.row (h2.map zD) 7 53),(7,.row (w.leases.map jy) 4 72),(5,.row (w.floors.map CI) 1 3),(6,.row (w.net.map eMsg) 9 55)]) :=
 ((((zpm W0 w h0 h1 h2 hz h3).swp 14 4).swp 624 5).swp 704 6).swp 208 7
def zfW:XC:=(.s (.r [.ex 3 (.box 1),.ex 4 (.alloc [.nil,.nil,.nil,(I 0),(I 0),.nil,.nil,.nil,.nil,(B false),(I 0),sE,sE,sE])]) (.s (.r [.l2 8 14 3,.o1 9 45 [8],.ex 5 (.alloc [.nil,.nil,.nil,(I 0),(I 0),.nil,.nil,.nil,.nil,(B false),(I 0),sE,sE,sE]),.s1 14 5 9]) (.s (.r [.f1 10 8 5,.l1 11 1 10,.n1 12 11,.mv 6 12]) (.cut (.cut (.r [.mv 13 0,.o1 14 38 [13,(.i 100)]]) (.blk 0 (.s (.r [.b1 16 .eql 14 (.i 0),.mv 15 16]) (.cnd 15 (.d [.f1 17 3 5,.exo [1,15,31,47] 18 (.ld false 1 17),.mv 19 0,.exo [1,15,31,47] 20 (.bsl 1 3 [(.k (.c (.sc (.int .i64 (.negSucc 2))))),(.i 1),(.k (.c (.sc (.int .i64 (.negSucc 0))))),(.i 10000)]),.exo [1,15,31,47] 21 (.opn 36 [19,20]),.b1 22 .add 18 21,.f1 23 3 5,.s1 1 23 22]) (.s (.r [.b1 25 .eql 14 (.i 1),.mv 24 25]) (.cnd 24 (.r [.mv 26 0,.f1 27 4 5,.l1 28 1 27,.b1 29 .sub 28 (.i 1),.ex 30 (.bsl 1 3 [(.i 0),(.k (.c (.sc (.int .i64 (.negSucc 0))))),29,(.i 10000)]),.o1 31 36 [26,30],.f1 32 4 5,.s1 1 32 31]) (.s (.r [.b1 34 .eql 14 (.i 2),.mv 33 34]) (.cnd 33 (.s (.r [.f1 35 5 5,.l1 36 1 35,.n1 37 36,.b1 38 .gtr 37 (.i 0)]) (.cnd 38 (.r [.f1 39 5 5,.l1 40 1 39,.ex 41 (.slr 4 40 (.some (.i 1)) .none),.f1 42 5 5,.s1 1 42 41]) .skip)) (.s (.r [.b1 44 .eql 14 (.i 3),.mv 43 44]) (.cnd 43 (.s (.r [.f1 45 5 5,.l1 46 1 45,.n1 47 46,.b1 48 .gtr 47 (.i 0)]) (.cnd 48 (.d [.f1 49 5 5,.l1 50 1 49,.f1 51 5 5,.l1 52 1 51,.ex 53 (.ia 4 52 (.i 0)),.l2 54 4 53,.ex 55 (.bsl 4 72 [54]),.ex 56 (.app false 4 40 72 50 55),.f1 57 5 5,.s1 1 57 56]) .skip)) (.s (.r [.b1 59 .eql 14 (.i 4),.mv 58 59]) (.cnd 58 (.d [.f1 60 6 5,.exo [1,15,31,47] 61 (.ld false 1 60),.mv 62 0,.exo [1,15,31,47] 63 (.opn 38 [62,(.i 3)]),.f1 64 6 5,.exo [1,15,31,47] 65 (.ld false 1 64),.mv 66 0,.exo [1,15,31,47] 67 (.opn 38 [66,(.i 3)]),.exo [1,15,31,47] 68 (.ia 1 65 67),.exo [1,15,31,47] 69 (.ld false 1 68),.mv 70 0,.exo [1,15,31,47] 71 (.opn 92 [70]),.mv 72 0,.exo [1,15,31,47] 73 (.opn 38 [72,(.i 3)]),.f1 74 3 5,.exo [1,15,31,47] 75 (.ld false 1 74),.mv 76 0,.exo [1,15,31,47] 77 (.opn 38 [76,(.i 3)]),.b1 78 .add 75 77,.ex 79 (.build [sE,(B false),sE,(B false),sE,(I 0),(I 0)] [(0,(1,71)),(5,(1,73)),(6,(1,78))]),.exo [1,15,31,47] 80 (.bsl 7 53 [79]),.exo [1,15,31,47] 81 (.app false 7 80 53 69 80),.exo [1,15,31,47] 82 (.ia 1 61 63),⟨.none,(.st 1 82 81),.none,false,[1,15,31,47]⟩]) (.s (.r [.b1 84 .eql 14 (.i 5),.mv 83 84]) (.cnd 83 (.d [.f1 85 7 5,.exo [1,15,31,47] 86 (.ld false 1 85),.mv 87 0,.exo [1,15,31,47] 88 (.opn 38 [87,(.i 3)]),.mv 89 0,.f1 90 4 5,.exo [1,15,31,47] 91 (.ld false 1 90),.f1 92 4 5,.exo [1,15,31,47] 93 (.ld false 1 92),.b1 94 .add 93 (.i 1),.exo [1,15,31,47] 95 (.bsl 1 3 [(.k (.c (.sc (.int .i64 (.negSucc 0))))),91,94,(.i 0)]),.exo [1,15,31,47] 96 (.opn 36 [89,95]),.exo [1,15,31,47] 97 (.ia 1 86 88),.s1 1 97 96]) (.s (.r [.b1 99 .eql 14 (.i 6),.mv 98 99]) (.cnd 98 (.s (.r [.mv 100 6,.b1 101 .gtr 100 (.i 0)]) (.cnd 101 (.s (.r [.mv 102 0,.mv 103 6,.o1 104 38 [102,103],.mv 7 104]) (.d [.f1 105 8 5,.exo [1,15,31,47] 106 (.ld false 1 105),.mv 107 7,.mv 108 0,.exo [1,15,31,47] 109 (.bsl 1 3 [(.i 0),(.i 5),(.i 2),(.i 4)]),.exo [1,15,31,47] 110 (.opn 36 [108,109]),.exo [1,15,31,47] 111 (.ia 9 106 107),.f1 112 0 111,.s1 1 112 110])) .skip)) (.s (.r [.b1 114 .eql 14 (.i 7),.mv 113 114]) (.cnd 113 (.d [.f1 115 8 5,.exo [1,15,31,47] 116 (.ld false 1 115),.mv 117 0,.exo [1,15,31,47] 118 (.opn 38 [117,(.i 4)]),.b1 119 .add (.i 1) 118,.mv 120 0,.exo [1,15,31,47] 121 (.opn 38 [120,(.i 4)]),.mv 122 0,.exo [1,15,31,47] 123 (.opn 92 [122]),.mv 124 0,.exo [1,15,31,47] 125 (.opn 38 [124,(.i 4)]),.ex 126 (.build [sE,(B false),sE,(B false),sE,(I 0),(I 0)] [(0,(1,123)),(5,(1,125))]),.ex 127 (.build [(I 0),(I 0),sE,(B false),sE,(B false),sE,(I 0),(I 0)] [(0,(1,119)),(1,(1,121)),(2,(7,126))]),.exo [1,15,31,47] 128 (.bsl 9 55 [127]),.ex 129 (.app false 9 96 55 116 128),.f1 130 8 5,.s1 1 130 129]) (.s (.r [.b1 132 .eql 14 (.i 8),.mv 131 132]) (.cnd 131 (.r [.f1 133 9 5,.l1 134 1 133,.ex 135 (.un .not 134),.f1 136 9 5,.s1 1 136 135]) (.s (.r [.b1 138 .eql 14 (.i 9),.mv 137 138]) (.cnd 137 (.r [.f1 140 0 5,.l2 141 3 140,.ex 142 (.build [(I 0),sE,sE,sE] [(0,(1,(.i 2))),(1,(1,(.s [47,97]))),(3,(1,(.s [113])))]),.c1 143 93 [141,142],.mv 139 143,.e1 144 139 0,.e1 145 139 1,.f1 146 0 5,.s1 3 146 144]) .skip)))))))))))))))))))))) (.s (.r [.l2 147 14 5,.s1 14 4 147]) .ret)))))
theorem znb:zc Tryz.prog [45,38,36,92,1000001,1000015,1000031,1000047] 34=some (zfW.ac,[(.cell 4 true 14)],148):=by kernel_rfl
abbrev bnC (w:Wld) (lv hv fv nv:PV):XB := .box [.c (za w.over.base),.c (zx w.over.layers),.c (ze w.over.upper),I w.clock,I w.count,lv,hv,fv,nv,B w.waits,I w.op.kind,.c (CS w.op.path),.c (CS w.op.dest),.c (CS w.op.data)]
abbrev bnH (h0 h1 h2:List Hold):XM:=[(4,.rowP [.own 15 h0.length,.own 31 h1.length,.own 47 h2.length] 56),(15,.row (h0.map zD) 7 53),(31,.row (h1.map zD) 7 53),(47,.row (h2.map zD) 7 53)]
abbrev bnL (w:Wld):XM:=[(7,.row (w.leases.map jy) 4 72)]
abbrev bnN (w:Wld):XM:=[(5,.row (w.floors.map CI) 1 3),(6,.row (w.net.map eMsg) 9 55)]
abbrev bnF (v:Int) (w:Wld):Fr:=[(0,.ptr 1 0),(4,.ptr 64 0),(5,.ptr 80 0),(6,I w.net.length),(14,.c (CI v))]
abbrev bnB (s:Str) (q:Int) (w:Wld) (lv hv:PV):XM:=[(1,rdB s q),(64,zWB),(80,bnC w lv hv (.own 5 w.floors.length) (.own 6 w.net.length))]++bnN w
theorem zdv {s:Str} {q:Int} {w:Wld} {h0 h1 h2:List Hold} (h3:w.holds=[h0,h1,h2]) {F:Fr} {m:XM} {z:Option Nat} (v:Int)
  (h:zn [1] z F m (bnF v w) (bnB s q w (.own 7 w.leases.length) (.own 4 3)++bnH h0 h1 h2++bnL w)):zn [1] (some 3) F m (bnF v w) (bnB s q w (.own 7 w.leases.length) (.c (jx w.holds))++bnL w):=by
 refine zn.trans (z':=some 3) h ?_;refine zj.trans (z:=some 3) (F1:=bnF v w) (m1:=(4,.rowP [.c (zf h0),.own 31 h1.length,.own 47 h2.length] 56)::(bnB s q w (.own 7 w.leases.length) (.own 4 3)++[(31,.row (h1.map zD) 7 53),(47,.row (h2.map zD) 7 53)]++bnL w)) (zj.pull 4 15 rfl rfl (by simp [frA,fr1]; rfl) rfl ?_) ?_
 ·refine dr ?_;trivial
 refine zj.trans (z:=some 3) (F1:=bnF v w) (m1:=(4,.rowP [.c (zf h0),.c (zf h1),.own 47 h2.length] 56)::(bnB s q w (.own 7 w.leases.length) (.own 4 3)++[(47,.row (h2.map zD) 7 53)]++bnL w)) (zj.pull 4 31 rfl rfl (by simp [frA,fr1]; rfl) rfl ?_) ?_
 ·refine dr ?_;trivial
 refine zj.trans (z:=some 4) (F1:=bnF v w) (m1:=(4,.row [zf h0,zf h1,zf h2] 1 56)::(bnB s q w (.own 7 w.leases.length) (.own 4 3)++bnL w)) (zj.er (zj.pull 4 47 (Lp':=[.c (zf h0),.c (zf h1),.c (zf h2)]) rfl rfl (by simp [frA,fr1]; rfl) rfl ?_) rfl) ?_
 ·refine dr ?_;trivial
 rw [h3];refine dr ?_;repeat (refine oB (by simp) ?_; first | refine dr ?_ | exact dz)
 trivial
theorem qU {s:Str} {q:Int} (x:Wld) {F:Fr} {m:XM} {z:Option Nat}
  (h:zn [1] z F m [(4,.ptr 64 0),(5,.ptr 80 0)] (bnB s q x (.c (zw x.leases)) (.c (jx x.holds)))):zn [1] (some 3) F m [(4,.ptr 64 0),(5,.ptr 80 0)] [(1,rdB s q),(64,zWB),(80,wBx x)]:=by
 refine zn.trans (z':=some 3) h ?_;refine zn.trans (z:=some 5) (z':=some 6) (F1:=[(4,.ptr 64 0),(5,.ptr 80 0)]) (m1:=[(1,rdB s q),(64,zWB),(80,bnC x (.c (zw x.leases)) (.c (jx x.holds)) (.c (jN x.floors)) (.own 6 x.net.length)),(6,.row (x.net.map eMsg) 9 55)]) ?_ ?_
 ·refine dr ?_;repeat (refine oB (by simp) ?_; first | refine dr ?_ | exact dz)
  trivial
 ·refine dr ?_;repeat (refine oB (by simp) ?_; first | refine dr ?_ | exact dz)
  trivial
theorem Zn {s:Str} {q:Int} (x:Wld) (g0 g1 g2:List Hold) (hx:x.holds=[g0,g1,g2]) {F:Fr} {m:XM} {z:Option Nat}
  (h:zn [1] z F m [(4,.ptr 64 0),(5,.ptr 80 0)] ((4,.row [zf g0,zf g1,zf g2] 1 56)::bnB s q x (.c (zw x.leases)) (.own 4 3))):zn [1] (some 3) F m [(4,.ptr 64 0),(5,.ptr 80 0)] [(1,rdB s q),(64,zWB),(80,wBx x)]:=by
 refine qU x (z:=some 3) (zn.trans (z':=some 4) h ?_);rw [hx];refine dr ?_;repeat (refine oB (by simp) ?_; first | refine dr ?_ | exact dz)
 trivial
theorem WR.hold {n:Nat} {w:Wld} (h:WR n w) {g0 g1 g2:List Hold} (e0:g0.length≤101+n) (e1:g1.length≤101+n) (e2:g2.length≤101+n):WR (n+1) { w with holds:=[g0,g1,g2] }:=by
 obtain ⟨⟨z1,⟨z2,z3⟩,z4,z5,z6⟩,h,f,ck,ct⟩:=h;refine ⟨⟨z1.mono (by omega),⟨by simp only; omega,fun y hy=>?_⟩,by simp; omega,by simp only; omega,by simp only; omega⟩,rfl,f,by simp only; omega,by simp only; omega⟩;simp only [List.mem_cons,List.not_mem_nil,or_false] at hy;rcases hy with rfl | rfl | rfl<;>omega
def bnM (s:Str) (q:Int) (w:Wld) (h0 h1 h2:List Hold):Nat→XM
 | 0=>bnB s q w (.own 7 w.leases.length) (.c (jx w.holds))++bnL w
 | 1=>bnB s q w (.c (zw w.leases)) (.own 4 3)++bnH h0 h1 h2
 | _=>bnB s q w (.c (zw w.leases)) (.c (jx w.holds))
theorem WR.set {n:Nat} {w x:Wld} (h:WR n w) (h1:x.over=w.over∨OZ 32 x.over) (h2:x.leases.length≤w.leases.length+1) (h3:x.holds=w.holds) (h4:x.floors.length=w.floors.length) (h5:x.net.length≤w.net.length+1)
  (h6 : -(20000+20000 * (n:Int)+10010)≤x.clock∧x.clock≤20000+20000 * n+10010) (h7 : -(20000+20000 * (n:Int)+10010)≤x.count∧x.count≤20000+20000 * n+10010):WR (n+1) x:=by
 obtain ⟨⟨z1,⟨z2,z3⟩,z4,z5,z6⟩,h,f,ck,ct⟩:=h;refine ⟨⟨?_,⟨by omega,fun y hy=>?_⟩,by rw [h3]; omega,by omega,by omega⟩,by rw [h3]; exact h,by omega,by omega,by omega⟩
 ·rcases h1 with e | h1
  ·rw [e]; exact z1.mono (by omega)
  ·exact h1.mono (by omega)
 ·rw [h3] at hy; have:=z3 y hy; omega
set_option maxHeartbeats 8000000 in
theorem zpj (W0:World) (s:Str) (p:Int) (n:Nat) (w:Wld) (hs:s.length≤2000) (hp:0≤p∧p≤90000) (hn:n≤1000) (hw:WR n w) :
  zv Tryz.prog W0 34 [.ptr 1 0,.c (zA w)] (Rd s p) (fun x:Wld × Int=>WR (n+1) x.1∧p≤x.2∧x.2≤p+8) (fun x => .c (zA x.1)) (fun x=>Rd s x.2):=by
 obtain ⟨h0,h1,h2,h3⟩:∃ h0 h1 h2,w.holds=[h0,h1,h2]:=by
  have:=hw.h
  match hh:w.holds with
  | [a,b,c]=>exact ⟨a,b,c,rfl⟩
  | [] | [_] | [_,_] | _::_::_::_::_=>rw [hh] at this; simp at this
 have hz:=hw.z;have hw':WR (n+1) w:=hw.mono (by omega);refine funW (c:=zfW) mixed znb (by simp) rfl rfl fun hg=>?_
 refine dr ?_;refine oW (zpl W0 w h0 h1 h2 (hz.mono (by omega)) h3) rfl trivial rfl rfl ⟨(),trivial⟩ fun _ _=>⟨rfl,?_⟩
 refine dEr ?_;refine cutz 3 (σ:=Wld × Int) (fun _=>[(4,.ptr 64 0),(5,.ptr 80 0)]) (fun x=>[(1,rdB s x.2),(64,zWB),(80,wBx x.1)]) (fun x=>WR (n+1) x.1∧p≤x.2∧x.2≤p+8) ?_ ?_;rotate_left
 ·rintro ⟨x,q⟩ ⟨hx,hq1,hq2⟩;refine dr ?_;refine ⟨none,_,_,?_,(x,q),⟨hx,hq1,hq2⟩,rfl,rfl⟩;refine dr ?_;trivial
 refine dr ?_;refine cutz 3 (σ:=Int × Nat) (fun x=>bnF x.1 w) (fun x=>bnM s (p+1) w h0 h1 h2 x.2) (fun x=>(x.2=0∧x.1=3)∨(x.2=1∧x.1=4)∨(x.2=2∧x.1≠3∧x.1≠4)) ?_ ?_
 ·refine dr ?_;refine oW (zU W0 s p 100 hs (by omega) (by omega)) rfl ⟨rfl,trivial⟩ rfl rfl ⟨0,by omega,by omega⟩ fun v hv=>⟨rfl,?_⟩
  refine dEr ?_;by_cases a:v=3
  ·refine ⟨(v,0),.inl ⟨rfl,a⟩,zdv h3 v (z:=none) ?_⟩;refine dr ?_;trivial
  by_cases b:v=4
  ·refine ⟨(v,1),.inr (.inl ⟨rfl,b⟩),zn.s (z:=some 7) ?_⟩;refine dr ?_;repeat (refine oB (by simp) ?_; first | refine dr ?_ | exact dz)
   trivial
  refine ⟨(v,2),.inr (.inr ⟨rfl,a,b⟩),zn.trans (z':=some 7) (zdv (s:=s) (q:=p+1) h3 v (z:=none) ?_) ?_⟩
  ·refine dr ?_;trivial
  ·refine dr ?_;repeat (refine oB (by simp) ?_; first | refine dr ?_ | exact dz)
   trivial
 rintro ⟨v,k⟩ hvk;simp only at hvk;have ck:=hw.ck;have ct:=hw.ct;have hf3:=hw.f;have hh3:=hw.h;have zt:=hz.t;have zl:=hz.z.l;rcases hvk with ⟨rfl,rfl⟩ | ⟨rfl,rfl⟩ | ⟨rfl,hv3,hv4⟩
 ·
  refine dr ?_;apply cP<;>intro k1
  ·exact absurd k1 (by decide)
  refine dr ?_;apply cP<;>intro k1
  ·exact absurd k1 (by decide)
  refine dr ?_;apply cP<;>intro k1
  ·exact absurd k1 (by decide)
  refine dr ?_;apply cP<;>intro k1;rotate_left
  ·exact absurd rfl k1
  refine dr ?_;apply cP<;>intro k2
  ·obtain ⟨l,ls,hl⟩:∃ l ls,w.leases=l::ls:=by
    cases h:w.leases with
    | nil=>rw [h] at k2; simp at k2
    | cons l ls=>exact ⟨l,ls,rfl⟩
   refine dr ?_;repeat ((first | refine aM (j:=0) rfl (by omega) ?_ | refine oB (by simp; omega) ?_ | refine oB (by simp) ?_); first | refine dr ?_ | exact dz)
   refine ⟨({ w with leases:=w.leases++[w.leases[0]'(by omega)] },p+1),⟨hw.set (.inl rfl) (by simp) rfl rfl (by simp) (by simp only; omega) (by simp only; omega),by simp only; omega,by simp only; omega⟩,qU _ (z:=some 7) ?_⟩;refine dr ?_;repeat (refine oB (by first | (simp; done) | (simp; exact congrArg CV.row app1)) ?_; first | refine dr ?_ | exact dz)
   trivial
  ·refine dr ?_;refine ⟨(w,p+1),⟨hw',by simp only; omega,by simp only; omega⟩,qU w (z:=some 7) ?_⟩;refine dr ?_;repeat (refine oB (by simp) ?_; first | refine dr ?_ | exact dz)
   trivial
 ·
  refine dr ?_;apply cP<;>intro k1
  ·exact absurd k1 (by decide)
  refine dr ?_;apply cP<;>intro k1
  ·exact absurd k1 (by decide)
  refine dr ?_;apply cP<;>intro k1
  ·exact absurd k1 (by decide)
  refine dr ?_;apply cP<;>intro k1
  ·exact absurd k1 (by decide)
  refine dr ?_;apply cP<;>intro k1;rotate_left
  ·exact absurd rfl k1
  refine dr ?_;refine oW (zU W0 s (p+1) 3 hs (by omega) (by omega)) rfl ⟨rfl,trivial⟩ rfl rfl ⟨0,by omega,by omega⟩ fun i hi=>⟨rfl,?_⟩
  refine dEr ?_;refine oW (zU W0 s (p+1+1) 3 hs (by omega) (by omega)) rfl ⟨rfl,trivial⟩ rfl rfl ⟨0,by omega,by omega⟩ fun j hj=>⟨rfl,?_⟩
  refine dEr ?_;obtain ⟨i,rfl⟩:∃ k:Nat,i=k:=⟨i.toNat,by omega⟩;obtain ⟨j,rfl⟩:∃ k:Nat,j=k:=⟨j.toNat,by omega⟩;have hi2:i < 3:=by have:=hi.2 (by omega); omega
  have hj2:j < 3:=by have:=hj.2 (by omega); omega
  clear hi hj;have z3:=hz.z.h;rw [h3] at z3;have e0:=z3 h0 (by simp);have e1:=z3 h1 (by simp);have e2:=z3 h2 (by simp);have hc:(i=0∨i=1∨i=2)∧(j=0∨j=1∨j=2):=⟨by omega,by omega⟩;obtain ⟨rfl | rfl | rfl,rfl | rfl | rfl⟩:=hc
  ·
   refine dr ?_;repeat ((first | refine nE (j:=0) rfl ?_ | refine oB (by decide) ?_); first | refine dr ?_ | exact dz)
   refine oW (qW W0 s (p+1+1+1) hs (by omega)) rfl ⟨rfl,trivial⟩ rfl rfl ⟨_,List.mem_cons_self⟩ fun a3 ha3=>⟨rfl,?_⟩
   refine dEr ?_;refine oW (zU W0 s (p+1+1+1+1) 3 hs (by omega) (by omega)) rfl ⟨rfl,trivial⟩ rfl rfl ⟨0,by omega,by omega⟩ fun a4 ha4=>⟨rfl,?_⟩
   refine dEr ?_;refine oW (zU W0 s (p+1+1+1+1+1) 3 hs (by omega) (by omega)) rfl ⟨rfl,trivial⟩ rfl rfl ⟨0,by omega,by omega⟩ fun a5 ha5=>⟨rfl,?_⟩
   have ha5':=ha5.2 (by omega);refine dEr ?_;repeat (refine oB (by omega) ?_; first | refine dEr ?_ | exact dz)
   refine ⟨({ w with holds:=[h0++[⟨a3,false,noE,a4,w.clock+a5⟩],h1,h2] },p+1+1+1+1+1+1),⟨hw.hold (by first | omega | (simp; omega)) (by first | omega | (simp; omega)) (by first | omega | (simp; omega)),by simp only; omega,by simp only; omega⟩,Zn _ (h0++[⟨a3,false,noE,a4,w.clock+a5⟩]) (h1) (h2) rfl (z:=some 3) ?_⟩;refine zj.trans (z:=some 3) (F1:=[(4,.ptr 64 0),(5,.ptr 80 0)]) (m1:=(4,.rowP [.c (zf (h0++[⟨a3,false,noE,a4,w.clock+a5⟩])),.c (zf h1),.own 47 h2.length] 56)::(bnB s (p+1+1+1+1+1+1) w (.c (zw w.leases)) (.own 4 3)++[(47,.row (h2.map zD) 7 53)])) (zj.pull 4 31 (m3:=bnB s (p+1+1+1+1+1+1) w (.c (zw w.leases)) (.own 4 3)++[(47,.row (h2.map zD) 7 53)]) (Lp':=[.c (zf (h0++[⟨a3,false,noE,a4,w.clock+a5⟩])),.c (zf h1),.own 47 h2.length]) rfl rfl (by simp [frA,fr1,zf]<;>rfl) rfl ?_) ?_
   ·refine dr ?_;repeat (refine oB (by first | (simp; done) | (simp [zf]; rfl)) ?_; first | refine dr ?_ | exact dz)
    trivial
   refine zj.trans (z:=none) (F1:=[(4,.ptr 64 0),(5,.ptr 80 0)]) (m1:=(4,.row [zf (h0++[⟨a3,false,noE,a4,w.clock+a5⟩]),zf (h1),zf (h2)] 1 56)::(bnB s (p+1+1+1+1+1+1) w (.c (zw w.leases)) (.own 4 3))) (zj.er (zj.pull 4 47 (m3:=bnB s (p+1+1+1+1+1+1) w (.c (zw w.leases)) (.own 4 3)) (Lp':=[.c (zf (h0++[⟨a3,false,noE,a4,w.clock+a5⟩])),.c (zf h1),.c (zf h2)]) rfl rfl (by simp [frA,fr1,zf]<;>rfl) rfl ?_) rfl) ?_
   ·refine dr ?_;repeat (refine oB (by first | (simp; done) | (simp [zf]; rfl)) ?_; first | refine dr ?_ | exact dz)
    trivial
   refine dr ?_;repeat (refine oB (by first | (simp; done) | (simp [zf]; rfl)) ?_; first | refine dr ?_ | exact dz)
   trivial
  ·
   refine dr ?_;repeat ((first | refine nE (j:=1) rfl ?_ | refine oB (by decide) ?_); first | refine dr ?_ | exact dz)
   refine oW (qW W0 s (p+1+1+1) hs (by omega)) rfl ⟨rfl,trivial⟩ rfl rfl ⟨_,List.mem_cons_self⟩ fun a3 ha3=>⟨rfl,?_⟩
   refine dEr ?_;refine oW (zU W0 s (p+1+1+1+1) 3 hs (by omega) (by omega)) rfl ⟨rfl,trivial⟩ rfl rfl ⟨0,by omega,by omega⟩ fun a4 ha4=>⟨rfl,?_⟩
   refine dEr ?_;refine oW (zU W0 s (p+1+1+1+1+1) 3 hs (by omega) (by omega)) rfl ⟨rfl,trivial⟩ rfl rfl ⟨0,by omega,by omega⟩ fun a5 ha5=>⟨rfl,?_⟩
   have ha5':=ha5.2 (by omega);refine dEr ?_;repeat (refine oB (by omega) ?_; first | refine dEr ?_ | exact dz)
   refine ⟨({ w with holds:=[h1++[⟨a3,false,noE,a4,w.clock+a5⟩],h1,h2] },p+1+1+1+1+1+1),⟨hw.hold (by first | omega | (simp; omega)) (by first | omega | (simp; omega)) (by first | omega | (simp; omega)),by simp only; omega,by simp only; omega⟩,Zn _ (h1++[⟨a3,false,noE,a4,w.clock+a5⟩]) (h1) (h2) rfl (z:=some 3) ?_⟩;refine zj.trans (z:=some 3) (zj.ung 4 31 (n:=h1.length) (C:=h1.map zD) (Lp':=[.c (.row (h1.map zD++[.agg [CS a3,CB false,CS [],CB false,CS [],CI a4,CI (w.clock+a5)]])),.c (zf h1),.own 47 h2.length]) rfl rfl (by simp) ⟨.inl rfl,.inr ⟨rfl,rfl⟩,.inl rfl,trivial⟩) ?_;refine zj.trans (z:=none) (F1:=[(4,.ptr 64 0),(5,.ptr 80 0)]) (m1:=(4,.row [zf (h1++[⟨a3,false,noE,a4,w.clock+a5⟩]),zf (h1),zf (h2)] 1 56)::(bnB s (p+1+1+1+1+1+1) w (.c (zw w.leases)) (.own 4 3))) (zj.er (zj.pull 4 47 (m3:=bnB s (p+1+1+1+1+1+1) w (.c (zw w.leases)) (.own 4 3)) (Lp':=[.c (zf (h1++[⟨a3,false,noE,a4,w.clock+a5⟩])),.c (zf h1),.c (zf h2)]) rfl rfl (by simp [frA,fr1,zf]<;>rfl) rfl ?_) rfl) ?_
   ·refine dr ?_;repeat (refine oB (by first | (simp; done) | (simp [zf]; rfl)) ?_; first | refine dr ?_ | exact dz)
    trivial
   refine dr ?_;repeat (refine oB (by first | (simp; done) | (simp [zf]; rfl)) ?_; first | refine dr ?_ | exact dz)
   trivial
  ·
   refine dr ?_;repeat ((first | refine nE (j:=2) rfl ?_ | refine oB (by decide) ?_); first | refine dr ?_ | exact dz)
   refine oW (qW W0 s (p+1+1+1) hs (by omega)) rfl ⟨rfl,trivial⟩ rfl rfl ⟨_,List.mem_cons_self⟩ fun a3 ha3=>⟨rfl,?_⟩
   refine dEr ?_;refine oW (zU W0 s (p+1+1+1+1) 3 hs (by omega) (by omega)) rfl ⟨rfl,trivial⟩ rfl rfl ⟨0,by omega,by omega⟩ fun a4 ha4=>⟨rfl,?_⟩
   refine dEr ?_;refine oW (zU W0 s (p+1+1+1+1+1) 3 hs (by omega) (by omega)) rfl ⟨rfl,trivial⟩ rfl rfl ⟨0,by omega,by omega⟩ fun a5 ha5=>⟨rfl,?_⟩
   have ha5':=ha5.2 (by omega);refine dEr ?_;repeat (refine oB (by omega) ?_; first | refine dEr ?_ | exact dz)
   refine ⟨({ w with holds:=[h2++[⟨a3,false,noE,a4,w.clock+a5⟩],h1,h2] },p+1+1+1+1+1+1),⟨hw.hold (by first | omega | (simp; omega)) (by first | omega | (simp; omega)) (by first | omega | (simp; omega)),by simp only; omega,by simp only; omega⟩,Zn _ (h2++[⟨a3,false,noE,a4,w.clock+a5⟩]) (h1) (h2) rfl (z:=some 3) ?_⟩;refine zj.trans (z:=some 3) (zj.ung 4 47 (n:=h2.length) (C:=h2.map zD) (Lp':=[.c (.row (h2.map zD++[.agg [CS a3,CB false,CS [],CB false,CS [],CI a4,CI (w.clock+a5)]])),.own 31 h1.length,.c (zf h2)]) rfl rfl (by simp) ⟨.inl rfl,.inl rfl,.inr ⟨rfl,rfl⟩,trivial⟩) ?_;refine zj.trans (z:=none) (F1:=[(4,.ptr 64 0),(5,.ptr 80 0)]) (m1:=(4,.row [zf (h2++[⟨a3,false,noE,a4,w.clock+a5⟩]),zf (h1),zf (h2)] 1 56)::(bnB s (p+1+1+1+1+1+1) w (.c (zw w.leases)) (.own 4 3))) (zj.er (zj.pull 4 31 (m3:=bnB s (p+1+1+1+1+1+1) w (.c (zw w.leases)) (.own 4 3)) (Lp':=[.c (zf (h2++[⟨a3,false,noE,a4,w.clock+a5⟩])),.c (zf h1),.c (zf h2)]) rfl rfl (by simp [frA,fr1,zf]<;>rfl) rfl ?_) rfl) ?_
   ·refine dr ?_;repeat (refine oB (by first | (simp; done) | (simp [zf]; rfl)) ?_; first | refine dr ?_ | exact dz)
    trivial
   refine dr ?_;repeat (refine oB (by first | (simp; done) | (simp [zf]; rfl)) ?_; first | refine dr ?_ | exact dz)
   trivial
  ·
   refine dr ?_;repeat ((first | refine nE (j:=0) rfl ?_ | refine oB (by decide) ?_); first | refine dr ?_ | exact dz)
   refine oW (qW W0 s (p+1+1+1) hs (by omega)) rfl ⟨rfl,trivial⟩ rfl rfl ⟨_,List.mem_cons_self⟩ fun a3 ha3=>⟨rfl,?_⟩
   refine dEr ?_;refine oW (zU W0 s (p+1+1+1+1) 3 hs (by omega) (by omega)) rfl ⟨rfl,trivial⟩ rfl rfl ⟨0,by omega,by omega⟩ fun a4 ha4=>⟨rfl,?_⟩
   refine dEr ?_;refine oW (zU W0 s (p+1+1+1+1+1) 3 hs (by omega) (by omega)) rfl ⟨rfl,trivial⟩ rfl rfl ⟨0,by omega,by omega⟩ fun a5 ha5=>⟨rfl,?_⟩
   have ha5':=ha5.2 (by omega);refine dEr ?_;repeat (refine oB (by omega) ?_; first | refine dEr ?_ | exact dz)
   refine ⟨({ w with holds:=[h0,h0++[⟨a3,false,noE,a4,w.clock+a5⟩],h2] },p+1+1+1+1+1+1),⟨hw.hold (by first | omega | (simp; omega)) (by first | omega | (simp; omega)) (by first | omega | (simp; omega)),by simp only; omega,by simp only; omega⟩,Zn _ (h0) (h0++[⟨a3,false,noE,a4,w.clock+a5⟩]) (h2) rfl (z:=some 3) ?_⟩;refine zj.trans (z:=some 3) (zj.ung 4 15 (n:=h0.length) (C:=h0.map zD) (Lp':=[.c (zf h0),.c (.row (h0.map zD++[.agg [CS a3,CB false,CS [],CB false,CS [],CI a4,CI (w.clock+a5)]])),.own 47 h2.length]) rfl rfl (by simp) ⟨.inr ⟨rfl,rfl⟩,.inl rfl,.inl rfl,trivial⟩) ?_;refine zj.trans (z:=none) (F1:=[(4,.ptr 64 0),(5,.ptr 80 0)]) (m1:=(4,.row [zf (h0),zf (h0++[⟨a3,false,noE,a4,w.clock+a5⟩]),zf (h2)] 1 56)::(bnB s (p+1+1+1+1+1+1) w (.c (zw w.leases)) (.own 4 3))) (zj.er (zj.pull 4 47 (m3:=bnB s (p+1+1+1+1+1+1) w (.c (zw w.leases)) (.own 4 3)) (Lp':=[.c (zf h0),.c (zf (h0++[⟨a3,false,noE,a4,w.clock+a5⟩])),.c (zf h2)]) rfl rfl (by simp [frA,fr1,zf]<;>rfl) rfl ?_) rfl) ?_
   ·refine dr ?_;repeat (refine oB (by first | (simp; done) | (simp [zf]; rfl)) ?_; first | refine dr ?_ | exact dz)
    trivial
   refine dr ?_;repeat (refine oB (by first | (simp; done) | (simp [zf]; rfl)) ?_; first | refine dr ?_ | exact dz)
   trivial
  ·
   refine dr ?_;repeat ((first | refine nE (j:=1) rfl ?_ | refine oB (by decide) ?_); first | refine dr ?_ | exact dz)
   refine oW (qW W0 s (p+1+1+1) hs (by omega)) rfl ⟨rfl,trivial⟩ rfl rfl ⟨_,List.mem_cons_self⟩ fun a3 ha3=>⟨rfl,?_⟩
   refine dEr ?_;refine oW (zU W0 s (p+1+1+1+1) 3 hs (by omega) (by omega)) rfl ⟨rfl,trivial⟩ rfl rfl ⟨0,by omega,by omega⟩ fun a4 ha4=>⟨rfl,?_⟩
   refine dEr ?_;refine oW (zU W0 s (p+1+1+1+1+1) 3 hs (by omega) (by omega)) rfl ⟨rfl,trivial⟩ rfl rfl ⟨0,by omega,by omega⟩ fun a5 ha5=>⟨rfl,?_⟩
   have ha5':=ha5.2 (by omega);refine dEr ?_;repeat (refine oB (by omega) ?_; first | refine dEr ?_ | exact dz)
   refine ⟨({ w with holds:=[h0,h1++[⟨a3,false,noE,a4,w.clock+a5⟩],h2] },p+1+1+1+1+1+1),⟨hw.hold (by first | omega | (simp; omega)) (by first | omega | (simp; omega)) (by first | omega | (simp; omega)),by simp only; omega,by simp only; omega⟩,Zn _ (h0) (h1++[⟨a3,false,noE,a4,w.clock+a5⟩]) (h2) rfl (z:=some 3) ?_⟩;refine zj.trans (z:=some 3) (F1:=[(4,.ptr 64 0),(5,.ptr 80 0)]) (m1:=(4,.rowP [.c (zf h0),.c (zf (h1++[⟨a3,false,noE,a4,w.clock+a5⟩])),.own 47 h2.length] 56)::(bnB s (p+1+1+1+1+1+1) w (.c (zw w.leases)) (.own 4 3)++[(47,.row (h2.map zD) 7 53)])) (zj.pull 4 15 (m3:=bnB s (p+1+1+1+1+1+1) w (.c (zw w.leases)) (.own 4 3)++[(47,.row (h2.map zD) 7 53)]) (Lp':=[.c (zf h0),.c (zf (h1++[⟨a3,false,noE,a4,w.clock+a5⟩])),.own 47 h2.length]) rfl rfl (by simp [frA,fr1,zf]<;>rfl) rfl ?_) ?_
   ·refine dr ?_;repeat (refine oB (by first | (simp; done) | (simp [zf]; rfl)) ?_; first | refine dr ?_ | exact dz)
    trivial
   refine zj.trans (z:=none) (F1:=[(4,.ptr 64 0),(5,.ptr 80 0)]) (m1:=(4,.row [zf (h0),zf (h1++[⟨a3,false,noE,a4,w.clock+a5⟩]),zf (h2)] 1 56)::(bnB s (p+1+1+1+1+1+1) w (.c (zw w.leases)) (.own 4 3))) (zj.er (zj.pull 4 47 (m3:=bnB s (p+1+1+1+1+1+1) w (.c (zw w.leases)) (.own 4 3)) (Lp':=[.c (zf h0),.c (zf (h1++[⟨a3,false,noE,a4,w.clock+a5⟩])),.c (zf h2)]) rfl rfl (by simp [frA,fr1,zf]<;>rfl) rfl ?_) rfl) ?_
   ·refine dr ?_;repeat (refine oB (by first | (simp; done) | (simp [zf]; rfl)) ?_; first | refine dr ?_ | exact dz)
    trivial
   refine dr ?_;repeat (refine oB (by first | (simp; done) | (simp [zf]; rfl)) ?_; first | refine dr ?_ | exact dz)
   trivial
  ·
   refine dr ?_;repeat ((first | refine nE (j:=2) rfl ?_ | refine oB (by decide) ?_); first | refine dr ?_ | exact dz)
   refine oW (qW W0 s (p+1+1+1) hs (by omega)) rfl ⟨rfl,trivial⟩ rfl rfl ⟨_,List.mem_cons_self⟩ fun a3 ha3=>⟨rfl,?_⟩
   refine dEr ?_;refine oW (zU W0 s (p+1+1+1+1) 3 hs (by omega) (by omega)) rfl ⟨rfl,trivial⟩ rfl rfl ⟨0,by omega,by omega⟩ fun a4 ha4=>⟨rfl,?_⟩
   refine dEr ?_;refine oW (zU W0 s (p+1+1+1+1+1) 3 hs (by omega) (by omega)) rfl ⟨rfl,trivial⟩ rfl rfl ⟨0,by omega,by omega⟩ fun a5 ha5=>⟨rfl,?_⟩
   have ha5':=ha5.2 (by omega);refine dEr ?_;repeat (refine oB (by omega) ?_; first | refine dEr ?_ | exact dz)
   refine ⟨({ w with holds:=[h0,h2++[⟨a3,false,noE,a4,w.clock+a5⟩],h2] },p+1+1+1+1+1+1),⟨hw.hold (by first | omega | (simp; omega)) (by first | omega | (simp; omega)) (by first | omega | (simp; omega)),by simp only; omega,by simp only; omega⟩,Zn _ (h0) (h2++[⟨a3,false,noE,a4,w.clock+a5⟩]) (h2) rfl (z:=some 3) ?_⟩;refine zj.trans (z:=some 3) (zj.ung 4 47 (n:=h2.length) (C:=h2.map zD) (Lp':=[.own 15 h0.length,.c (.row (h2.map zD++[.agg [CS a3,CB false,CS [],CB false,CS [],CI a4,CI (w.clock+a5)]])),.c (zf h2)]) rfl rfl (by simp) ⟨.inl rfl,.inl rfl,.inr ⟨rfl,rfl⟩,trivial⟩) ?_;refine zj.trans (z:=none) (F1:=[(4,.ptr 64 0),(5,.ptr 80 0)]) (m1:=(4,.row [zf (h0),zf (h2++[⟨a3,false,noE,a4,w.clock+a5⟩]),zf (h2)] 1 56)::(bnB s (p+1+1+1+1+1+1) w (.c (zw w.leases)) (.own 4 3))) (zj.er (zj.pull 4 15 (m3:=bnB s (p+1+1+1+1+1+1) w (.c (zw w.leases)) (.own 4 3)) (Lp':=[.c (zf h0),.c (zf (h2++[⟨a3,false,noE,a4,w.clock+a5⟩])),.c (zf h2)]) rfl rfl (by simp [frA,fr1,zf]<;>rfl) rfl ?_) rfl) ?_
   ·refine dr ?_;repeat (refine oB (by first | (simp; done) | (simp [zf]; rfl)) ?_; first | refine dr ?_ | exact dz)
    trivial
   refine dr ?_;repeat (refine oB (by first | (simp; done) | (simp [zf]; rfl)) ?_; first | refine dr ?_ | exact dz)
   trivial
  ·
   refine dr ?_;repeat ((first | refine nE (j:=0) rfl ?_ | refine oB (by decide) ?_); first | refine dr ?_ | exact dz)
   refine oW (qW W0 s (p+1+1+1) hs (by omega)) rfl ⟨rfl,trivial⟩ rfl rfl ⟨_,List.mem_cons_self⟩ fun a3 ha3=>⟨rfl,?_⟩
   refine dEr ?_;refine oW (zU W0 s (p+1+1+1+1) 3 hs (by omega) (by omega)) rfl ⟨rfl,trivial⟩ rfl rfl ⟨0,by omega,by omega⟩ fun a4 ha4=>⟨rfl,?_⟩
   refine dEr ?_;refine oW (zU W0 s (p+1+1+1+1+1) 3 hs (by omega) (by omega)) rfl ⟨rfl,trivial⟩ rfl rfl ⟨0,by omega,by omega⟩ fun a5 ha5=>⟨rfl,?_⟩
   have ha5':=ha5.2 (by omega);refine dEr ?_;repeat (refine oB (by omega) ?_; first | refine dEr ?_ | exact dz)
   refine ⟨({ w with holds:=[h0,h1,h0++[⟨a3,false,noE,a4,w.clock+a5⟩]] },p+1+1+1+1+1+1),⟨hw.hold (by first | omega | (simp; omega)) (by first | omega | (simp; omega)) (by first | omega | (simp; omega)),by simp only; omega,by simp only; omega⟩,Zn _ (h0) (h1) (h0++[⟨a3,false,noE,a4,w.clock+a5⟩]) rfl (z:=some 3) ?_⟩;refine zj.trans (z:=some 3) (zj.ung 4 15 (n:=h0.length) (C:=h0.map zD) (Lp':=[.c (zf h0),.own 31 h1.length,.c (.row (h0.map zD++[.agg [CS a3,CB false,CS [],CB false,CS [],CI a4,CI (w.clock+a5)]]))]) rfl rfl (by simp) ⟨.inr ⟨rfl,rfl⟩,.inl rfl,.inl rfl,trivial⟩) ?_;refine zj.trans (z:=none) (F1:=[(4,.ptr 64 0),(5,.ptr 80 0)]) (m1:=(4,.row [zf (h0),zf (h1),zf (h0++[⟨a3,false,noE,a4,w.clock+a5⟩])] 1 56)::(bnB s (p+1+1+1+1+1+1) w (.c (zw w.leases)) (.own 4 3))) (zj.er (zj.pull 4 31 (m3:=bnB s (p+1+1+1+1+1+1) w (.c (zw w.leases)) (.own 4 3)) (Lp':=[.c (zf h0),.c (zf h1),.c (zf (h0++[⟨a3,false,noE,a4,w.clock+a5⟩]))]) rfl rfl (by simp [frA,fr1,zf]<;>rfl) rfl ?_) rfl) ?_
   ·refine dr ?_;repeat (refine oB (by first | (simp; done) | (simp [zf]; rfl)) ?_; first | refine dr ?_ | exact dz)
    trivial
   refine dr ?_;repeat (refine oB (by first | (simp; done) | (simp [zf]; rfl)) ?_; first | refine dr ?_ | exact dz)
   trivial
  ·
   refine dr ?_;repeat ((first | refine nE (j:=1) rfl ?_ | refine oB (by decide) ?_); first | refine dr ?_ | exact dz)
   refine oW (qW W0 s (p+1+1+1) hs (by omega)) rfl ⟨rfl,trivial⟩ rfl rfl ⟨_,List.mem_cons_self⟩ fun a3 ha3=>⟨rfl,?_⟩
   refine dEr ?_;refine oW (zU W0 s (p+1+1+1+1) 3 hs (by omega) (by omega)) rfl ⟨rfl,trivial⟩ rfl rfl ⟨0,by omega,by omega⟩ fun a4 ha4=>⟨rfl,?_⟩
   refine dEr ?_;refine oW (zU W0 s (p+1+1+1+1+1) 3 hs (by omega) (by omega)) rfl ⟨rfl,trivial⟩ rfl rfl ⟨0,by omega,by omega⟩ fun a5 ha5=>⟨rfl,?_⟩
   have ha5':=ha5.2 (by omega);refine dEr ?_;repeat (refine oB (by omega) ?_; first | refine dEr ?_ | exact dz)
   refine ⟨({ w with holds:=[h0,h1,h1++[⟨a3,false,noE,a4,w.clock+a5⟩]] },p+1+1+1+1+1+1),⟨hw.hold (by first | omega | (simp; omega)) (by first | omega | (simp; omega)) (by first | omega | (simp; omega)),by simp only; omega,by simp only; omega⟩,Zn _ (h0) (h1) (h1++[⟨a3,false,noE,a4,w.clock+a5⟩]) rfl (z:=some 3) ?_⟩;refine zj.trans (z:=some 3) (zj.ung 4 31 (n:=h1.length) (C:=h1.map zD) (Lp':=[.own 15 h0.length,.c (zf h1),.c (.row (h1.map zD++[.agg [CS a3,CB false,CS [],CB false,CS [],CI a4,CI (w.clock+a5)]]))]) rfl rfl (by simp) ⟨.inl rfl,.inr ⟨rfl,rfl⟩,.inl rfl,trivial⟩) ?_;refine zj.trans (z:=none) (F1:=[(4,.ptr 64 0),(5,.ptr 80 0)]) (m1:=(4,.row [zf (h0),zf (h1),zf (h1++[⟨a3,false,noE,a4,w.clock+a5⟩])] 1 56)::(bnB s (p+1+1+1+1+1+1) w (.c (zw w.leases)) (.own 4 3))) (zj.er (zj.pull 4 15 (m3:=bnB s (p+1+1+1+1+1+1) w (.c (zw w.leases)) (.own 4 3)) (Lp':=[.c (zf h0),.c (zf h1),.c (zf (h1++[⟨a3,false,noE,a4,w.clock+a5⟩]))]) rfl rfl (by simp [frA,fr1,zf]<;>rfl) rfl ?_) rfl) ?_
   ·refine dr ?_;repeat (refine oB (by first | (simp; done) | (simp [zf]; rfl)) ?_; first | refine dr ?_ | exact dz)
    trivial
   refine dr ?_;repeat (refine oB (by first | (simp; done) | (simp [zf]; rfl)) ?_; first | refine dr ?_ | exact dz)
   trivial
  ·
   refine dr ?_;repeat ((first | refine nE (j:=2) rfl ?_ | refine oB (by decide) ?_); first | refine dr ?_ | exact dz)
   refine oW (qW W0 s (p+1+1+1) hs (by omega)) rfl ⟨rfl,trivial⟩ rfl rfl ⟨_,List.mem_cons_self⟩ fun a3 ha3=>⟨rfl,?_⟩
   refine dEr ?_;refine oW (zU W0 s (p+1+1+1+1) 3 hs (by omega) (by omega)) rfl ⟨rfl,trivial⟩ rfl rfl ⟨0,by omega,by omega⟩ fun a4 ha4=>⟨rfl,?_⟩
   refine dEr ?_;refine oW (zU W0 s (p+1+1+1+1+1) 3 hs (by omega) (by omega)) rfl ⟨rfl,trivial⟩ rfl rfl ⟨0,by omega,by omega⟩ fun a5 ha5=>⟨rfl,?_⟩
   have ha5':=ha5.2 (by omega);refine dEr ?_;repeat (refine oB (by omega) ?_; first | refine dEr ?_ | exact dz)
   refine ⟨({ w with holds:=[h0,h1,h2++[⟨a3,false,noE,a4,w.clock+a5⟩]] },p+1+1+1+1+1+1),⟨hw.hold (by first | omega | (simp; omega)) (by first | omega | (simp; omega)) (by first | omega | (simp; omega)),by simp only; omega,by simp only; omega⟩,Zn _ (h0) (h1) (h2++[⟨a3,false,noE,a4,w.clock+a5⟩]) rfl (z:=some 3) ?_⟩;refine zj.trans (z:=some 3) (F1:=[(4,.ptr 64 0),(5,.ptr 80 0)]) (m1:=(4,.rowP [.c (zf h0),.own 31 h1.length,.c (zf (h2++[⟨a3,false,noE,a4,w.clock+a5⟩]))] 56)::(bnB s (p+1+1+1+1+1+1) w (.c (zw w.leases)) (.own 4 3)++[(31,.row (h1.map zD) 7 53)])) (zj.pull 4 15 (m3:=bnB s (p+1+1+1+1+1+1) w (.c (zw w.leases)) (.own 4 3)++[(31,.row (h1.map zD) 7 53)]) (Lp':=[.c (zf h0),.own 31 h1.length,.c (zf (h2++[⟨a3,false,noE,a4,w.clock+a5⟩]))]) rfl rfl (by simp [frA,fr1,zf]<;>rfl) rfl ?_) ?_
   ·refine dr ?_;repeat (refine oB (by first | (simp; done) | (simp [zf]; rfl)) ?_; first | refine dr ?_ | exact dz)
    trivial
   refine zj.trans (z:=none) (F1:=[(4,.ptr 64 0),(5,.ptr 80 0)]) (m1:=(4,.row [zf (h0),zf (h1),zf (h2++[⟨a3,false,noE,a4,w.clock+a5⟩])] 1 56)::(bnB s (p+1+1+1+1+1+1) w (.c (zw w.leases)) (.own 4 3))) (zj.er (zj.pull 4 31 (m3:=bnB s (p+1+1+1+1+1+1) w (.c (zw w.leases)) (.own 4 3)) (Lp':=[.c (zf h0),.c (zf h1),.c (zf (h2++[⟨a3,false,noE,a4,w.clock+a5⟩]))]) rfl rfl (by simp [frA,fr1,zf]<;>rfl) rfl ?_) rfl) ?_
   ·refine dr ?_;repeat (refine oB (by first | (simp; done) | (simp [zf]; rfl)) ?_; first | refine dr ?_ | exact dz)
    trivial
   refine dr ?_;repeat (refine oB (by first | (simp; done) | (simp [zf]; rfl)) ?_; first | refine dr ?_ | exact dz)
   trivial
 ·refine dr ?_;apply cP<;>intro k0
  ·refine dr ?_;refine oW (yl W0 s (p+1) [-3,1,-1,10000] hs (by omega) (by decide)) rfl ⟨rfl,trivial⟩ rfl rfl ⟨1,by decide⟩ fun y hy=>⟨rfl,?_⟩
   have hy2 : -3≤y∧y≤10000:=by
    simp only [List.mem_cons,List.not_mem_nil,or_false] at hy;omega
   refine dEr ?_;repeat (refine oB (by omega) ?_; first | refine dEr ?_ | exact dz)
   refine ⟨({ w with clock:=w.clock+y },p+1+1),⟨hw.set (.inl rfl) (by simp) rfl rfl (by simp) (by simp only; omega) (by simp only; omega),by simp only; omega,by simp only; omega⟩,qU _ (z:=none) ?_⟩;refine dr ?_;repeat (refine oB (by simp) ?_; first | refine dr ?_ | exact dz)
   trivial
  refine dr ?_;apply cP<;>intro k1
  ·refine dr ?_;repeat (refine oB (by omega) ?_; first | refine dr ?_ | exact dz)
   refine oW (yl W0 s (p+1) [0,-1,w.count - 1,10000] hs (by omega) (by simp)) rfl ⟨rfl,trivial⟩ rfl rfl ⟨0,by simp⟩ fun y hy=>⟨rfl,?_⟩
   have hy2:y=0∨y = -1∨y=w.count - 1∨y=10000:=by
    simpa only [List.mem_cons,List.not_mem_nil,or_false] using hy
   refine dEr ?_;refine ⟨({ w with count:=y },p+1+1),⟨hw.set (.inl rfl) (by simp) rfl rfl (by simp) (by simp only; omega) (by simp only; omega),by simp only; omega,by simp only; omega⟩,qU _ (z:=none) ?_⟩;refine dr ?_;repeat (refine oB (by simp) ?_; first | refine dr ?_ | exact dz)
   trivial
  refine dr ?_;apply cP<;>intro k2
  ·refine dr ?_;apply cP<;>intro j2
   ·refine dr ?_;repeat (refine sLoM 1 rfl (by omega) ?_; first | refine dr ?_ | exact dz)
    refine ⟨({ w with leases:=w.leases.drop 1 },p+1),⟨hw.set (.inl rfl) (by simp; omega) rfl rfl (by simp) (by simp only; omega) (by simp only; omega),by simp only; omega,by simp only; omega⟩,qU _ (z:=none) ?_⟩;refine dr ?_;repeat (refine oB (by simp) ?_; first | refine dr ?_ | exact dz)
    trivial
   ·refine dr ?_;refine ⟨(w,p+1),⟨hw',by simp only; omega,by simp only; omega⟩,qU w (z:=none) ?_⟩;refine dr ?_;trivial
  refine dr ?_;apply cP<;>intro k3
  ·exact absurd k3 hv3
  refine dr ?_;apply cP<;>intro k4
  ·exact absurd k4 hv4
  clear k3 k4;refine dr ?_;apply cP<;>intro k5
  ·refine dr ?_;refine oW (zU W0 s (p+1) 3 hs (by omega) (by omega)) rfl ⟨rfl,trivial⟩ rfl rfl ⟨0,by omega,by omega⟩ fun k hk=>⟨rfl,?_⟩
   obtain ⟨k,rfl⟩:∃ j:Nat,k=j:=⟨k.toNat,by omega⟩;have hk':k < w.floors.length:=by have:=hk.2 (by omega); omega
   refine dEr ?_;repeat (refine oB (by omega) ?_; first | refine dEr ?_ | exact dz)
   refine oW (yl W0 s (p+1+1) [-1,w.count,w.count+1,0] hs (by omega) (by simp)) rfl ⟨rfl,trivial⟩ rfl rfl ⟨0,by simp⟩ fun y hy=>⟨rfl,?_⟩
   refine dEr ?_;repeat ((first | refine aM (j:=k) rfl (by omega) ?_ | refine nE (j:=k) rfl ?_); first | refine dEr ?_ | exact dz)
   refine ⟨({ w with floors:=w.floors.set k y },p+1+1+1),⟨hw.set (.inl rfl) (by simp) rfl (by simp) (by simp) (by simp only; omega) (by simp only; omega),by simp only; omega,by simp only; omega⟩,qU _ (z:=none) ?_⟩;refine dr ?_;repeat (refine oB (by first | (simp; done) | (simp [List.map_set]; done)) ?_; first | refine dr ?_ | exact dz)
   trivial
  refine dr ?_;apply cP<;>intro k6
  ·refine dr ?_;apply cP<;>intro j6
   ·refine dr ?_;refine oW (zU W0 s (p+1) w.net.length hs (by omega) (by omega)) rfl ⟨rfl,trivial⟩ rfl rfl ⟨0,by omega,by omega⟩ fun k hk=>⟨rfl,?_⟩
    obtain ⟨k,rfl⟩:∃ j:Nat,k=j:=⟨k.toNat,by omega⟩;have hk':k < w.net.length:=by have:=hk.2 (by omega); omega
    refine dEr ?_;refine oW (yl W0 s (p+1+1) [0,5,2,4] hs (by omega) (by decide)) rfl ⟨rfl,trivial⟩ rfl rfl ⟨0,by decide⟩ fun y hy=>⟨rfl,?_⟩
    refine dEr ?_;repeat ((first | refine aM (j:=k) rfl (by omega) ?_ | refine nE (j:=k) rfl ?_); first | refine dEr ?_ | exact dz)
    refine ⟨({ w with net:=w.net.set k ⟨y,w.net[k].who,w.net[k].hold⟩ },p+1+1+1),⟨hw.set (.inl rfl) (by simp) rfl rfl (by simp) (by simp only; omega) (by simp only; omega),by simp only; omega,by simp only; omega⟩,qU _ (z:=none) ?_⟩;refine dr ?_;repeat (refine oB (by first | (simp; done) | (simp [List.map_set]; rfl)) ?_; first | refine dr ?_ | exact dz)
    trivial
   ·refine dr ?_;refine ⟨(w,p+1),⟨hw',by simp only; omega,by simp only; omega⟩,qU w (z:=none) ?_⟩;refine dr ?_;trivial
  refine dr ?_;apply cP<;>intro k7
  ·refine dr ?_;refine oW (zU W0 s (p+1) 4 hs (by omega) (by omega)) rfl ⟨rfl,trivial⟩ rfl rfl ⟨0,by omega,by omega⟩ fun a1 ha1=>⟨rfl,?_⟩
   have ha1':=ha1.2 (by omega);have ha1'':=ha1.1;refine dEr ?_;repeat (refine oB (by omega) ?_; first | refine dEr ?_ | exact dz)
   refine oW (zU W0 s (p+1+1) 4 hs (by omega) (by omega)) rfl ⟨rfl,trivial⟩ rfl rfl ⟨0,by omega,by omega⟩ fun a2 ha2=>⟨rfl,?_⟩
   refine dEr ?_;refine oW (qW W0 s (p+1+1+1) hs (by omega)) rfl ⟨rfl,trivial⟩ rfl rfl ⟨_,List.mem_cons_self⟩ fun a3 ha3=>⟨rfl,?_⟩
   refine dEr ?_;refine oW (zU W0 s (p+1+1+1+1) 4 hs (by omega) (by omega)) rfl ⟨rfl,trivial⟩ rfl rfl ⟨0,by omega,by omega⟩ fun a4 ha4=>⟨rfl,?_⟩
   refine dEr ?_;repeat ((first | refine oB (by simp; omega) ?_ | refine oB (by simp) ?_); first | refine dEr ?_ | exact dz)
   refine ⟨({ w with net:=w.net++[⟨1+a1,a2,⟨a3,false,noE,a4,0⟩⟩] },p+1+1+1+1+1),⟨hw.set (.inl rfl) (by simp) rfl rfl (by simp) (by simp only; omega) (by simp only; omega),by simp only; omega,by simp only; omega⟩,qU _ (z:=none) ?_⟩;refine dr ?_;repeat (refine oB (by first | (simp; done) | (simp; rfl)) ?_; first | refine dr ?_ | exact dz)
   trivial
  refine dr ?_;apply cP<;>intro k8
  ·refine dr ?_;refine ⟨({ w with waits:=!w.waits },p+1),⟨hw.set (.inl rfl) (by simp) rfl rfl (by simp) (by simp only; omega) (by simp only; omega),by simp only; omega,by simp only; omega⟩,qU _ (z:=none) ?_⟩;refine dr ?_;repeat (refine oB (by simp) ?_; first | refine dr ?_ | exact dz)
   trivial
  refine dr ?_;apply cP<;>intro k9
  ·have q:=zaa W0 w.over ⟨2,[47,97],[],[113]⟩;have qs:=@OS.do w.over ⟨2,[47,97],[],[113]⟩
   refine dEr ?_;repeat (refine c0 q rfl ?_; first | refine dEr ?_ | exact dz)
   refine ⟨({ w with over:=(oDo w.over ⟨2,[47,97],[],[113]⟩).1 },p+1),⟨hw.set (.inr qs.oz) (by simp) rfl rfl (by simp) (by simp only; omega) (by simp only; omega),by simp only; omega,by simp only; omega⟩,qU _ (z:=none) ?_⟩;refine dr ?_;repeat (refine oB (by simp) ?_; first | refine dr ?_ | exact dz)
   trivial
  ·refine dr ?_;refine ⟨(w,p+1),⟨hw',by simp only; omega,by simp only; omega⟩,qU w (z:=none) ?_⟩;refine dr ?_;trivial

def w0W:Wld:=newW noO
theorem w0R:WR 0 w0W:=(WG.new zi1).wr HZ.new (by omega)

def zeT:XC:=(.s (.r [.ex 2 (.alloc [.nil,.nil,.nil,(I 0),(I 0),.nil,.nil,.nil,.nil,(B false),(I 0),sE,sE,sE]),.ex 3 (.alloc [(I 0),(I 0),sE,(I 0),sE,sE,sE,(I 0)])]) (.s (.r [.mv 8 0,.o1 9 33 [8],.mv 4 9]) (.s (.r [.mv 10 4,.mv 11 4,.o1 12 35 [11],.o1 13 34 [10,12],.ex 5 (.alloc [.nil,.nil,.nil,(I 0),(I 0),.nil,.nil,.nil,.nil,(B false),(I 0),sE,sE,sE]),.s1 14 5 13]) (.s (.r [.f1 15 0 5,.l2 16 3 15,.c1 17 69 [16],.mv 14 17,.e1 18 14 0,.e1 19 14 1,.a1 6 18 3 39,.mv 7 19]) (.s (.d [.exl 20 (.ld true 14 5),.mv 21 4,.mv 22 6,.f1 23 8 5,.exl 24 (.ld false 1 23),.n1 25 24,.exl 26 (.opn 70 [21,22,25]),.s1 14 2 20,.s1 8 3 26]) .ret)))))
theorem zl9:zc Tryz.prog [33,35,34,70] 28=some (zeT.ac,[(.cell 2 true 14),(.cell 3 true 8)],27):=by kernel_rfl
theorem zbA (W0:World) (c:Str):zv Tryz.prog W0 28 [.c (qe c)] [] (fun x:Wld × Ev=>WR 1 x.1) (fun x => .tup [.c (zA x.1),.c (eEv x.2)]) (fun _=>[]):=by
 refine funW (c:=zeT) mixed zl9 (by simp) rfl rfl fun hg=>?_
 refine dr ?_;refine oW (zoZ W0 c) rfl trivial rfl rfl ⟨[],by simp⟩ fun s hs=>⟨rfl,?_⟩
 refine dEr ?_;refine oW (zpE W0 s 0 hs (by omega)) rfl ⟨rfl,trivial⟩ rfl rfl ⟨(w0W,0),w0R,by simp,by simp⟩ fun x hx=>⟨rfl,?_⟩
 obtain ⟨w,q⟩:=x;obtain ⟨a1,a2,a3⟩:WR 0 w∧0≤q∧q≤0+1200:=hx;refine dEr ?_;refine oW (zpj W0 s q 0 w hs (by omega) (by omega) a1) rfl ⟨rfl,trivial⟩ rfl rfl ⟨(w,q),a1.mono (by omega),by simp only; omega,by simp only; omega⟩ fun x hx=>⟨rfl,?_⟩
 obtain ⟨x,r⟩:=x;obtain ⟨b1,b2,b3⟩:WR 1 x∧q≤r∧r≤q+8:=hx;have hv:=Zu W0 x.over;have hvl:=@za3 x.over;rw [YQ] at hv;generalize (jg x.over).getD []=t at *;have hnt:=b1.z.t;refine dEr ?_;repeat (refine c0 hv rfl ?_; first | refine dEr ?_ | exact dz)
 refine oW (zhr W0 s r t x.net.length hs (by omega) (by omega) (by omega)) rfl ⟨rfl,trivial⟩ rfl rfl ⟨((⟨0,0,[],jc,0⟩,r):Ev × Int),by simp only; omega,by simp only; omega⟩ fun y hy=>⟨rfl,?_⟩
 obtain ⟨ev,r2⟩:=y;refine dEr ?_;refine ⟨none,_,_,?_,(x,ev),b1,rfl,rfl⟩;refine dr ?_;trivial

open Go Go.RowKit Go.WideShapes Go.ChangeShapes Go.ChangeAt
abbrev RC (W:World) (y:CV) (v:Value):Prop:=RepC W (fun _=>False) y v∧v.oneCell'=true
def Opn {H:Type} (enc:TypeId × Value→H) (P:Program) (W:World) (t:TypeId) {α:Type} (f:α→CV):Prop :=
 ∀ (base:Nat) (sp:Nat→Bool) (held:Bool) (fuel:Nat) (cs:List Value) (x:DataW H × List MemPlace),DataW.trod enc P W base sp held fuel t cs=some x→∃ a:α,zb (RC W) (f a).cells cs
section
variable {H:Type} {enc:TypeId × Value→H} {P:Program} {W:World}
theorem zrD {t:TypeId} (ht:P.underlying t=some (.int .u8)):Opn enc P W t (fun b:UInt8=>CU b.toNat):=by
 intro base sp held fuel cs x h;obtain ⟨n,rfl,_,hw⟩:=DataW.trod_int ht h;have hw':0≤n∧n≤255:=by simpa [Lit.wf,IntKind.min,IntKind.max,IntKind.signed,IntKind.bits] using hw
 have e:((UInt8.ofNat n.toNat).toNat:Int)=n:=by simp; omega
 refine ⟨UInt8.ofNat n.toNat,⟨?_,rfl⟩,trivial⟩;show RepC W _ (CU (UInt8.ofNat n.toNat).toNat) _;rw [e];exact .sc (by simpa [wfv,IntKind.min,IntKind.max,IntKind.signed,IntKind.bits] using hw')
theorem Yv {a:Addr} (h:a.spot=none) (n:Nat):a.add n=⟨a.block,a.off+n,none⟩:=by
 unfold Addr.add;split
 ·rename_i hn; subst hn; cases a; simp at h; subst h; rfl
 ·rfl
theorem zdk {α:Type} {R:CV→Value→Prop} {f:α→CV} {sz:Nat} {g:Nat→List Value}:∀ {L:List α} {k:Nat},(∀ i (h:i < L.length),zb R (f L[i]).cells (g (k+i))) →
  zb R ((L.map f).flatMap CV.cells) ((List.range' k L.length).flatMap g)
 | [],k,_=>trivial
 | a::L,k,h=>by
  simp only [List.map_cons,List.flatMap_cons,List.length_cons,List.range'_succ];refine zb.append (h 0 (by simp)) (zdk (sz:=sz) (k:=k+1) fun i hi=>?_);have:=h (i+1) (by simp; omega);rw [show k+1+i=k+(i+1) by omega]
  simpa using this
theorem ziG {α:Type} {q:Nat→α→Prop}:∀ {n:Nat},(∀ i,i < n→∃ a,q i a)→∃ L:List α,L.length=n∧∀ i (h:i < L.length),q i L[i]
 | 0,_=>⟨[],rfl,fun i h=>by simp at h⟩
 | n+1,h=>by
  obtain ⟨L,hl,hq⟩:=ziG (n:=n) fun i hi=>h i (by omega)
  obtain ⟨a,ha⟩:=h n (by omega);refine ⟨L++[a],by simp [hl],fun i hi=>?_⟩;by_cases hin:i < L.length
  ·rw [List.getElem_append_left hin]; exact hq i hin
  ·have:i=L.length:=by simp at hi; omega
   subst this;simp only [List.getElem_concat_length];rw [hl]; exact ha
theorem zrC {t e:TypeId} {α:Type} {f:α→CV} (sz:Nat) (ht:P.underlying t=some (.slice e)) (hc:P.cellsOf e=sz) (h0:0 < sz) (hf:∀ a,(f a).cells.length=sz) (he:Opn enc P W e f):Opn enc P W t (fun l:List α => .row (l.map f)):=by
 intro base sp held fuel cs x h;rcases DataW.trod_slice ht h with ⟨rfl,_⟩ | ⟨a,len,cap,elems,rest,n,_,rfl,_,_,hle,hcap,helen,hel,_⟩
 ·exact ⟨[],⟨.nil (Nat.zero_le _),rfl⟩,trivial⟩
 ·rw [hc] at hel;have key:∀ i,i < len→∃ (y:α),∃ cs',cs'.length=sz∧(∀ j,j < sz→W.cell? ((a.add (i * sz)).add j)=cs'[j]?)∧zb (RC W) (f y).cells cs':=by
   intro i hi;have h1:=hel i hi;have h2:∃ z,elems[i]? = some z:=⟨elems[i]'(by omega),by simp [helen,hi]⟩;obtain ⟨z,h2⟩:=h2;rw [h2] at h1;obtain ⟨cs',h3,h4⟩:=Option.bind_eq_some_iff.1 h1;obtain ⟨y,hy⟩:=he _ _ _ _ _ _ h4;obtain ⟨_,h5,h6⟩:=World.cells?_some h3;exact ⟨y,cs',h5,h6,hy⟩
  obtain ⟨L,hl,hL⟩:=ziG key;refine ⟨L,⟨?_,rfl⟩,trivial⟩;by_cases hne:L=[]
  ·subst hne;simp only [List.length_nil] at hl;subst hl;exact .nil hcap
  ·have hpos:0 < L.length:=List.length_pos_iff.2 hne;have hsp:a.spot=none:=by
    obtain ⟨cs',h5,h6,_⟩:=hL 0 hpos;have:=h6 0 h0;simp only [Nat.zero_mul] at this;have e0:(a.add 0).add 0=a:=by simp [Addr.add]
    rw [e0] at this;have h7:∃ u,cs'[0]? = some u:=⟨cs'[0]'(by omega),by simp [h5,h0]⟩;obtain ⟨u,h7⟩:=h7;rw [h7] at this;unfold World.cell? at this;split at this
    ·split at this
     ·cases this
     ·rename_i hh; simpa using hh
    ·cases this
   let g:Nat→List Value:=fun i=>(List.range sz).map fun j=>(W.cell? ⟨a.block,a.off+(i * sz+j),none⟩).getD undef
   have hg:∀ i (h:i < L.length),zb (RC W) (f L[i]).cells (g i)∧∀ j,j < sz→W.cell? ⟨a.block,a.off+(i * sz+j),none⟩=(g i)[j]? := by
    intro i hi;obtain ⟨cs',h5,h6,h7⟩:=hL i hi;have e:g i=cs':=by
     apply List.ext_getElem?;intro j;by_cases hj:j < sz
     ·have:=h6 j hj;rw [Yv hsp,Yv rfl] at this;simp only [g,List.getElem?_map,List.getElem?_range hj,Option.map_some];rw [show a.off+(i * sz+j)=a.off+i * sz+j by omega,this];have:cs'[j]? = some (cs'[j]'(by omega)):=by simp [h5,hj]
      rw [this]; rfl
     ·rw [List.getElem?_eq_none (by simp [g]; omega),List.getElem?_eq_none (by omega)]
    rw [e];refine ⟨h7,fun j hj=>?_⟩;have:=h6 j hj;rw [Yv hsp,Yv rfl] at this;rw [← this,show a.off+i * sz+j=a.off+(i * sz+j) by omega]
   have hall:=zdk (R:=RC W) (f:=f) (sz:=sz) (g:=g) (L:=L) (k:=0) fun i hi=>by simpa using (hg i hi).1
   have hlen:(L.map f).length=len:=by simpa using hl
   have hcell:∀ (m:Nat),m≤L.length→∀ j v,((List.range' 0 m).flatMap g)[j]? = some v→W.cell? ⟨a.block,a.off+j,none⟩=some v:=by
    intro m;induction m with
    | zero=>intro _ j v hv; simp at hv
    | succ m ih =>
     intro hm j v hv;rw [List.range'_concat,List.flatMap_append] at hv;have hln:∀ m,((List.range' 0 m).flatMap g).length=m * sz:=by
      intro m;induction m with
      | zero=>simp
      | succ m ih=>rw [List.range'_concat,List.flatMap_append,List.length_append,ih]; simp [g,Nat.add_mul]
     by_cases hj:j < m * sz
     ·rw [List.getElem?_append_left (by rw [hln]; exact hj)] at hv;exact ih (by omega) j v hv
     ·rw [List.getElem?_append_right (by rw [hln]; omega),hln] at hv;simp only [Nat.zero_add,Nat.one_mul,List.flatMap_cons,List.flatMap_nil,List.append_nil] at hv;have hj2:j - m * sz < sz:=by
       rcases Nat.lt_or_ge (j - m * sz) sz with h' | h'
       ·exact h'
       ·rw [List.getElem?_eq_none (by simp [g]; omega)] at hv; cases hv
      have:=(hg m (by omega)).2 _ hj2;rw [hv,show m * sz+(j - m * sz)=j by omega] at this;exact this
   obtain ⟨ab,ao,asp⟩:=a;simp only at hsp;subst hsp;rw [← hlen];refine .row (sz:=sz) (vs:=(List.range' 0 L.length).flatMap g) (by simpa using hne) h0 (by rw [hlen]; exact hle) hcap (fun h=>h) ?_ hall.length ?_ ?_ fun j v hv=>?_
   ·intro y hy;obtain ⟨b,_,rfl⟩:=List.mem_map.1 hy;exact hf b
   ·intro i y v hy hv;obtain ⟨u,hu,hr⟩:=hall.get i y hy;rw [hv] at hu; cases hu; exact hr.1
   ·intro v hv;obtain ⟨i,hi⟩:=List.mem_iff_getElem?.1 hv;have hlt:i < ((L.map f).flatMap CV.cells).length:=by
     rw [hall.length]; exact (List.getElem?_eq_some_iff.1 hi).1
    obtain ⟨u,hu,hr⟩:=hall.get i _ (List.getElem?_eq_getElem hlt);rw [hi] at hu; cases hu; exact hr.2
   ·exact hcell L.length (Nat.le_refl _) j v hv
theorem zrB {y:CV} (hy:∀ cs,y ≠ .agg cs) {vs:List Value} (h:zb (RC W) y.cells vs):∃ v,vs=[v]∧RC W y v:=by
 have e:y.cells=[y]:=by cases y<;>first | rfl | exact absurd rfl (hy _)
 rw [e] at h
 match vs,h with
 | [v],h=>exact ⟨v,rfl,h.1⟩
theorem za8 {t:TypeId} {α:Type} {f:α→CV} (h:Opn enc P W t f) (hf:∀ a cs,f a ≠ .agg cs) {base:Nat} {v:Value} (h1:∀ cs,v ≠ .agg cs)
  {sp:Nat→Bool} {held:Bool} {d:DataW H} {ps:List MemPlace} (hd:DataW.Trod enc P W base sp held t v d ps):∃ a,RepC W (fun _=>False) (f a) v:=by
 obtain ⟨fuel,hx⟩:=hd;obtain ⟨a,ha⟩:=h _ _ _ _ _ _ hx;obtain ⟨u,hu,hr⟩:=zrB (hf a) ha;refine ⟨a,?_⟩;have:v.cells.toList=[v]:=by cases v<;>first | rfl | exact absurd rfl (h1 _)
 rw [this] at hu; cases hu;exact hr.1
theorem zbS {f:FuncId} {args:List CV} {vs:Array Value} (h:Fn P W f args (.c (CB true)) []) (ha:zb (RepC W fun _=>False) args vs.toList) :
  Calls P f vs W fun e W'=>e = .returned (.bool true)∧Below W.heap.size W W':=by
 have hlive:∀ b,¬ zi ⟨fun _=>none,fun _=>False⟩ [] b:=by
  rintro b (hb | ⟨id,hb,_⟩)
  ·exact hb
  ·simp [lk] at hb
 have hm:MemOk ⟨fun _=>none,fun _=>False⟩ [] W:=⟨fun id b hb=>by simp [lk] at hb,fun i j b hi=>by simp [lk] at hi,fun b hb=>hb.elim,fun id b hb=>by simp [lk] at hb⟩;refine (h ⟨fun _=>none,fun _=>False⟩ W vs (Below.refl _ _) (MW.start hm fun b hb=>(hlive b hb).elim) ?_).mono ?_
 ·have key:∀ {args:List CV} {us:List Value},zb (RepC W fun _=>False) args us→zb (Rep ⟨fun _=>none,fun _=>False⟩ [] W) (args.map .c) us:=by
   intro args;induction args with
   | nil=>intro us h; cases us with | nil=>trivial | cons=>exact h.elim
   | cons a l ih =>
    intro us h;cases us with
    | nil=>exact h.elim
    | cons u us =>
     refine ⟨RepC.rep (h.1.mono fun b o v _ hc=>⟨hlive b,hc⟩),ih h.2⟩
  exact key ha
 ·rintro e W' ⟨v,r,m',κ',rfl,⟨rfl,rfl⟩,h1,h2⟩;refine ⟨?_,?_⟩
  ·have:=Rep.c h2;cases this;rfl
  ·have e:=h1.ext;exact ⟨e.os,e.tape,e.output,e.size,fun k hk=>e.block k hk fun ⟨id,hid,_⟩=>by simp [lk] at hid⟩
theorem zkm (hl:laidOutB P=true) {W':World} (hb:Below W.heap.size W W') {sp:Nat→Bool}:∀ {ts:List TypeId} {vs:List Value} {ds:List (DataW H)} {ps:List MemPlace},(∀ t∈ts,P.readableRec t=true∧t < P.types.size) →
  DataW.TrodAll enc P W 0 (fun _=>true) true ts vs ds ps→(∀ p∈ps,p.block < W.heap.size)→(∀ p∈ps,sp p.block=true)→DataW.TrodAll enc P W' 0 sp true ts vs ds ps
 | [],[],[],ps,_,h,_,_=>h
 | t::ts,v::vs,d::ds,ps,hr,h,hlt,hs=>by
  obtain ⟨p,q,h1,h2,rfl⟩:=h;obtain ⟨h3,h4⟩:=hr t (by simp);exact ⟨p,q,WideElems.Trod_stays hl h3 h4 h1 (fun x hx=>hb.same (hlt x (by simp [hx]))) (fun x hx=>hs x (by simp [hx])),
   zkm hl hb (fun t ht=>hr t (by simp [ht])) h2 (fun x hx=>hlt x (by simp [hx])) (fun x hx=>hs x (by simp [hx])),rfl⟩
 | [],_::_,_,_,_,h,_,_=>h.elim
 | [],[],_::_,_,_,h,_,_=>h.elim
 | _::_,[],_,_,_,h,_,_=>h.elim
 | _::_,_::_,[],_,_,h,_,_=>h.elim
theorem zci (hl:laidOutB P=true) {fn:Func} {s:ChangeSpec} {tb:TypeId} {apart fresh handsOn again:Bool} {W':World} {args:Array Value} {ds:List (DataW H)} {before:List MemPlace}
  (hr:(fn.params.toList.all fun t=>P.readableRec t&&decide (t < P.types.size))=true) (hres:fn.resultTypes=#[tb]) (htb:P.underlying tb=some .bool) (hv:s.vars=[])
  (hW:DataW.Whole enc P fn.params.toList s.vars apart W args.toList ds [] before) (hs:s.fn H (ds++[])={ results:=[.lit (.bool true)],args:=ds }) (hb:Below W.heap.size W W') :
  s.post enc P fn apart fresh handsOn again W args (.bool true) W':=by
 have hr:∀ t∈fn.params.toList,P.readableRec t=true∧t < P.types.size:=fun t ht=>by
  have:=List.all_eq_true.1 hr t ht
  simpa using this
 have hlt:∀ p∈before,p.block < W.heap.size:=fun p hp=>hW.lt p hp
 have hW0:=hW;obtain ⟨p,q,hA,hV,hpq,hfz,hnd⟩:=hW;rw [hv] at hV;obtain ⟨_,rfl⟩:=trodVars_none hV;rw [List.append_nil] at hpq;subst hpq;have hbool:∀ (b:Nat) (sp:Nat→Bool) (hd:Bool),DataW.TrodAll enc P W' b sp hd fn.resultTypes.toList ((Value.bool true).resultList fn.resultTypes.size) (s.fn H (ds++[])).results []:=by
  intro b sp hd;rw [hres,hs];exact trodAll_mk1 ⟨1,by simp [DataW.trod,Value.cells,htb]⟩
 have hargs:∀ sp:Nat→Bool,(∀ x∈before,sp x.block=true)→DataW.TrodAll enc P W' 0 sp true fn.params.toList args.toList ds before:=fun sp hsp=>zkm hl hb hr hA hlt hsp
 have hvars:∀ sp,DataW.TrodVars enc P W' sp s.vars [] []:=fun sp=>by rw [hv]; rfl
 refine ⟨ds,[],before,[],before,[],hW0,hbool _ _ _,?_,?_,World.keptBut_mono (fun x hx=>⟨hx,.inr (.inl hx)⟩) (hb.frame (·∈before)),fun _=>⟨fun j t r ht hr'=>?_,(s.fn H (ds++[])).results++ds,[],before,⟨before,[],?_,?_,(List.append_nil _).symm,fun b off hx=>?_,hnd⟩,fun x hx _=>hx⟩⟩
 ·rw [hs]; exact hargs _ fun x hx=>by simpa using hlt x hx
 ·rw [hs]; exact hvars _
 ·rw [hres] at ht hr'
  match j,ht,hr' with
  | 0,ht,hr' =>
   have e1:tb=t:=by simpa using ht
   have e2:Value.bool true=r:=by simpa [Value.resultList] using hr'
   subst e1 e2;simp [Value.okWide,htb,Cell.okWide,Cell.ok]
  | j+1,ht,_=>simp at ht
 ·have:=trodAll_append (hargs (fun _=>true) fun _ _=>rfl) (hbool 0 (fun _=>true) true)
  simpa using this
 ·exact hvars _
 ·rw [hb.frozen (hlt _ hx)]; exact hfz b off hx
end

theorem zch:laidOutB Tryz.prog=true:=by kernel_rfl
theorem ownK:ownKnob Tryz.prog.godebug=none:=by kernel_rfl
section
variable {H:Type} {enc:TypeId × Value→H} {W:World}
set_option maxRecDepth 100000 in
theorem za7 {r:Reach} {b:Nat} {v:Value} (h:Value.okWide Tryz.prog W r b 22 v):∀ cs,v ≠ .agg cs:=by
 rintro cs rfl;unfold Value.okWide at h;rw [Tryz.underlying22] at h;unfold Cell.okWide at h;rw [Tryz.underlying22] at h;unfold Cell.ok at h;rw [Tryz.underlying22] at h;exact h
theorem zcz:Opn enc Tryz.prog W 22 qe:=zrC (f:=fun b:UInt8=>CU b.toNat) 1 (by kernel_rfl) (by kernel_rfl) (by decide) (fun _=>rfl) (zrD (t:=5) (by kernel_rfl))
end

def zrM:List Value:=[128,191,160,191,128,159,144,191,128,143,0,0,0,0,0,0,0,0,0,0,0,0,0,0,0,0,0,0,0,0,0,0].map fun n:Nat=>Value.int .u8 (n:Int)
def firstCells:List Value:=Go.Pinned.utf8FirstZ.map fun n:Nat=>Value.int .u8 (n:Int)
def Zy (P:Program) (os:Os):World:=Sort.mapBlock (Sort.mapBlock (World.holding P os ⟨#[],#[],[]⟩) 2 fun _=>zrM.toArray) 1 fun _=>firstCells.toArray

theorem zb8 {W:World} (h:W.ShapedOpen Tryz.prog):HM W :=
 Go.Proofs.cell_of_shapedOpen_int (zero:=#[.int .i64 0]) (t:=3) h (of_decide_eq_true (by kernel_rfl)) (by kernel_rfl) rfl (by kernel_rfl) (by kernel_rfl) Tryz.underlying3

theorem xiT {a:Int} {A B:Prop} (h:A):cndX (eqI a a) A B:=by rw [yL.2 rfl]; exact h
theorem xiF {a:Int} {A B:Prop} (h:B):cndX (!eqI a a) A B:=by rw [yL.2 rfl]; exact h
theorem xbT {a:Bool} {A B:Prop} (h:A):cndX (eqB a a) A B:=by rw [yK.2 rfl]; exact h
theorem xbF {a:Bool} {A B:Prop} (h:B):cndX (!eqB a a) A B:=by rw [yK.2 rfl]; exact h
theorem xiN {a b:Int} {A B:Prop} (k:B) (h:a≠b:=by decide):cndX (eqI a b) A B:=by rw [YX.2 h]; exact k
theorem xiM {a b:Int} {A B:Prop} (k:A) (h:a≠b:=by decide):cndX (!eqI a b) A B:=by rw [YX.2 h]; exact k
theorem xbN {a b:Bool} {A B:Prop} (k:B) (h:a≠b:=by decide):cndX (eqB a b) A B:=by rw [zbx.2 h]; exact k
theorem xbM {a b:Bool} {A B:Prop} (k:A) (h:a≠b:=by decide):cndX (!eqB a b) A B:=by rw [zbx.2 h]; exact k
theorem xeT {p d:Str} {b:Bool} {A B:Prop} (h:A):cndX (eqS p p&&(eqB b b&&(eqS d d&&true))) A B:=by rw [JU.2 rfl,yK.2 rfl,JU.2 rfl]; exact h
theorem xeF {p d:Str} {b:Bool} {A B:Prop} (h:B):cndX (!(eqS p p&&(eqB b b&&(eqS d d&&true)))) A B:=by rw [JU.2 rfl,yK.2 rfl,JU.2 rfl]; exact h
theorem qx (W0:World) (a b:Over) (h:a=b):Fn Tryz.prog W0 30 [jL a,jL b] (.c (CB true)) []:=by
 have:=zhd W0 a b
 rwa [decide_eq_true h] at this
theorem qC (W0:World) (a b:List Ent) (h:a=b):Fn Tryz.prog W0 32 [za a,za b] (.c (CB true)) []:=by
 have:=zha W0 a b
 rwa [decide_eq_true h] at this
theorem qD (W0:World) (a b:List Mark) (h:a=b):Fn Tryz.prog W0 86 [ze a,ze b] (.c (CB true)) []:=by
 have:=YZ W0 a b
 rwa [decide_eq_true h] at this

section
variable {w:Wld}
end

theorem kT {a b:Int} {A B:Prop} (h:a=b) (k:A):cndX (eqI a b) A B:=by rw [yL.2 h]; exact k
theorem kF {a b:Int} {A B:Prop} (h:a≠b) (k:B):cndX (eqI a b) A B:=by rw [YX.2 h]; exact k
theorem kFn {a b:Int} {A B:Prop} (h:a=b) (k:B):cndX (!eqI a b) A B:=by rw [yL.2 h]; exact k
theorem kL {a b:Int} {A B:Prop} (h:a≤b) (k:A):cndX (leI a b) A B:=by rw [Jv.2 h]; exact k
theorem zcS (W0:World) (a:Wld):Fn Tryz.prog W0 18 [zA a,zA a] (.c (CB true)) []:=by
 have:=zoW W0 a a
 simpa using this

def zfa:XC:=(.s (.r [.ex 2 (.box 0),.ex 3 (.box 1),.ex 4 (.newb [.nil,.nil,.nil,(I 0),(I 0),.nil,.nil,.nil,.nil,(B false),(I 0),sE,sE,sE]),.m1 5 (.i 0)]) (.s (.s (.r [.l2 8 14 2,.c1 9 21 [8],.ex 10 (.un .not 9)]) (.cnd 10 (.s (.r [.ex 11 (.build [.nil,.nil,.nil,(I 0),(I 0),.nil,.nil,.nil,.nil,(B false),(I 0),sE,sE,sE] []),.s1 14 4 11,.m1 5 (.i 1)]) .ret) .skip)) (.s (.d [.exo [4,5,6,592] 13 (.ld true 14 2),.exo [4,5,6,592] 14 (.opn 45 [13]),.exo [4,5,6,592] 15 (.ld true 8 3),.exo [4,5,6,592] 16 (.opn 73 [14,15]),.mv 12 16,.e1 17 12 0,.e1 18 12 1,.ex 6 (.newb [.nil,.nil,.nil,(I 0),(I 0),.nil,.nil,.nil,.nil,(B false),(I 0),sE,sE,sE]),.s1 14 6 17,.mv 7 18]) (.s (.r [.l2 19 14 6,.o1 20 45 [19],.mv 21 7,.s1 14 4 20,.mv 5 21]) .ret))))
theorem zmq:zc Tryz.prog [73,45,999997,1000004,1000005,1000006,1000592] 29=some (zfa.ac,[(.cell 4 true 14),(.t 5)],22):=by kernel_rfl
theorem zbN (W0:World) (w:Wld) (ev:Ev) (hz:HZ 100000 w):Fn Tryz.prog W0 29 [zA w,eEv ev] (.c (.tup [zA (wDo w ev).1,CI (wDo w ev).2])) []:=by
 refine fnX (c:=zfa) mixed zmq (by simp) rfl fun hg=>?_
 refine dEr ?_;repeat (refine c0 (zab W0 w) rfl ?_; first | refine dEr ?_ | exact dz)
 apply cP<;>intro h1
 ·refine dr ?_;unfold wDo; rw [if_neg h1]<;>rfl
 rw [Qz h1];have hx:=h1.ev ev;have hz':=hz.ev ev;refine dr ?_;refine oW (zpn W0 w (h1.wz (hz.mono (by omega)) (by omega))) rfl trivial rfl rfl ⟨(),trivial⟩ fun _ _=>⟨rfl,?_⟩
 refine dEr ?_;refine oW (zhq W0 w ev h1 (hz.mono (by omega))) rfl ⟨rfl,rfl,rfl,trivial⟩ rfl rfl ⟨false,trivial⟩ fun b _=>?_
 generalize evW w ev=r at *;obtain ⟨x',c⟩:=r;cases b with
 | true =>
  refine ⟨rfl,?_⟩;refine dEr ?_;refine oW ((zbL W0 x' (hx.wz (hz'.mono (by omega)) (by omega))).swp 6 592) rfl ⟨rfl,rfl,rfl,trivial⟩ rfl rfl ⟨(),trivial⟩ fun _ _=>⟨rfl,?_⟩
  refine dEr ?_;rfl
 | false =>
  refine ⟨rfl,?_⟩;refine dEr ?_;refine oW (zbL W0 x' (hx.wz (hz'.mono (by omega)) (by omega))) rfl ⟨rfl,rfl,rfl,trivial⟩ rfl rfl ⟨(),trivial⟩ fun _ _=>⟨rfl,?_⟩
  refine dEr ?_;rfl

def zeN:XC:=(.s (.r [.m1 2 .n]) (.s (.s (.r [.mv 9 0,.n1 10 9,.b1 11 .gtr 10 (.i 1048576)]) (.cnd 11 (.s (.r [.m1 2 .y]) .ret) .skip)) (.s (.r [.mv 13 0,.o1 14 28 [13],.mv 12 14,.e1 15 12 0,.e1 16 12 1,.ex 3 (.alloc [.nil,.nil,.nil,(I 0),(I 0),.nil,.nil,.nil,.nil,(B false),(I 0),sE,sE,sE]),.ex 4 (.alloc [(I 0),(I 0),sE,(I 0),sE,sE,sE,(I 0)]),.s1 14 3 15,.s1 8 4 16]) (.s (.r [.l2 18 14 3,.l2 19 8 4,.c1 20 27 [18,19],.mv 17 20,.e1 21 17 0,.e1 22 17 1,.ex 5 (.alloc [.nil,.nil,.nil,(I 0),(I 0),.nil,.nil,.nil,.nil,(B false),(I 0),sE,sE,sE]),.s1 14 5 21,.mv 6 22]) (.s (.r [.l2 24 14 3,.l2 25 8 4,.c1 26 29 [24,25],.mv 23 26,.e1 27 23 0,.e1 28 23 1,.ex 7 (.alloc [.nil,.nil,.nil,(I 0),(I 0),.nil,.nil,.nil,.nil,(B false),(I 0),sE,sE,sE]),.s1 14 7 27,.mv 8 28]) (.s (.s (.d [.mv 29 6,.mv 30 8,.b1 31 .neq 29 30,.mv 32 31,.gf 33 (.ld true 14 5) 32,.gf 34 (.ld true 14 7) 32,.gf 35 (.call 18 [33,34]) 32,.gf 36 (.un .not 35) 32,.ex 37 (.pick 32 .y 36),.mv 38 37,.gf 39 (.ld true 14 3) 38,.gf 40 (.call 20 [39]) 38,.gf 41 (.ld true 14 3) 38,.gf 42 (.call 21 [41]) 38,.gf 43 (.bb true 40 42) 38,.ex 44 (.pick 38 .y 43)]) (.cnd 44 (.s (.r [.m1 2 .n]) .ret) .skip)) (.s (.s (.r [.l2 45 14 3,.c1 46 21 [45],.ex 47 (.un .not 46)]) (.cnd 47 (.s (.r [.mv 48 6,.b1 49 .eql 48 (.i 1),.mv 50 49,.gt 51 (.ld true 14 5) 50,.gt 52 (.build [.nil,.nil,.nil,(I 0),(I 0),.nil,.nil,.nil,.nil,(B false),(I 0),sE,sE,sE] []) 50,.gt 53 (.call 18 [51,52]) 50,.ex 54 (.pick 50 53 .n),.mv 2 54]) .ret) .skip)) (.s (.r [.l2 55 14 5,.c1 56 20 [55],.mv 57 56,.gt 58 (.fa 3 5) 57,.gt 59 (.ld false 1 58) 57,.gt 60 (.fa 3 3) 57,.gt 61 (.ld false 1 60) 57,.gt 62 (.bin .geq 59 61) 57,.ex 63 (.pick 57 62 .n),.mv 64 63,.gt 65 (.fa 4 5) 64,.gt 66 (.ld false 1 65) 64,.gt 67 (.fa 4 3) 64,.gt 68 (.ld false 1 67) 64,.gt 69 (.bin .geq 66 68) 64,.ex 70 (.pick 64 69 .n),.mv 71 70,.gt 72 (.fa 4 5) 71,.gt 73 (.ld false 1 72) 71,.gt 74 (.fa 4 3) 71,.gt 75 (.ld false 1 74) 71,.gt 76 (.bin .add 75 (.i 1)) 71,.gt 77 (.bin .leq 73 76) 71,.ex 78 (.pick 71 77 .n),.mv 2 78]) .ret))))))))
theorem zl3:zc Tryz.prog [28] 7=some (zeN.ac,[(.t 2)],79):=by kernel_rfl
theorem zou (W0:World) (hs:W0.ShapedOpen Tryz.prog) (c0':Str):Fn Tryz.prog W0 7 [qe c0'] (.c (CB true)) []:=by
 refine fnX (c:=zeN) mixed zl3 (by simp) rfl fun hg=>?_
 have hM:=zb8 hs;refine dr ?_;apply cP<;>intro h0
 ·exact dz
 refine dr ?_;refine oW (zbA W0 c0') rfl trivial rfl rfl ⟨(w0W,⟨0,0,[],jc,0⟩),w0R.mono (by omega)⟩ fun x hx=>⟨rfl,?_⟩
 obtain ⟨w,ev⟩:=x;have hw:WR 1 w:=hx;clear hx;have q1:=zbE W0 hM w ev (hw.z.z.mono (by omega));have q2:=zbN W0 w ev (hw.z.z.mono (by omega));have q3:=JZ W0 hM w;have q4:=zab W0 w;have sm:=zcS W0;have hlo:=hw.ck;have hco:=hw.ct;by_cases g:WG w;rotate_left
 ·rw [show wDo w ev=(noW,1) from if_neg g] at q1 q2;rw [tb_f g] at q3 q4;have q1:Fn Tryz.prog W0 27 [zA w,eEv ev] (.c (.tup [zA noW,CI 1])) []:=q1;have q2:Fn Tryz.prog W0 29 [zA w,eEv ev] (.c (.tup [zA noW,CI 1])) []:=q2;refine dEr ?_;repeat ((first | refine c0 q1 rfl ?_ | refine c0 q2 rfl ?_ | refine c0 q3 rfl ?_ | refine c0 q4 rfl ?_ | refine c0 (sm noW) rfl ?_ | refine xiT ?_ | refine xiF ?_ | refine xbT ?_ | refine xbF ?_ | refine xiN ?_ | refine xiM ?_ | refine xbN ?_ | refine xbM ?_ | refine xeT ?_ | refine xeF ?_ | refine c0 (qx W0 _ _ rfl) rfl ?_ | refine c0 (qC W0 _ _ rfl) rfl ?_ | refine c0 (qD W0 _ _ rfl) rfl ?_); first | refine dEr ?_ | exact dz)
 rw [Qz g] at q1 q2;rw [tb_t g] at q3 q4;have gx:=g.ev ev;have ck:=zg3 (w:=w) ev;have ct:=(zg4 (w:=w) ev).count;have q5:=JZ W0 hM (evW w ev).1;rw [tb_t gx] at q5;generalize evW w ev=r at *;obtain ⟨x,c⟩:=r;have q1:Fn Tryz.prog W0 27 [zA w,eEv ev] (.c (.tup [zA x,CI c])) []:=q1;have q2:Fn Tryz.prog W0 29 [zA w,eEv ev] (.c (.tup [zA x,CI c])) []:=q2;have q5:Fn Tryz.prog W0 20 [zA x] (.c (CB true)) []:=q5;have ck:w.clock≤x.clock∧x.clock≤w.clock+1:=ck;have ct:w.count≤x.count∧x.count≤w.count+1:=ct;refine dEr ?_;repeat ((first | refine c0 q1 rfl ?_ | refine c0 q2 rfl ?_ | refine c0 q3 rfl ?_ | refine c0 q4 rfl ?_ | refine c0 (sm x) rfl ?_ | refine c0 q5 rfl ?_ | refine kFn rfl ?_ | refine kL (by first | omega | (simp only; omega)) ?_ | refine oB (by first | omega | (simp only; omega)) ?_ | refine xiT ?_ | refine xiF ?_ | refine xbT ?_ | refine xbF ?_ | refine xiN ?_ | refine xiM ?_ | refine xbN ?_ | refine xbM ?_ | refine xeT ?_ | refine xeF ?_ | refine c0 (qx W0 _ _ rfl) rfl ?_ | refine c0 (qC W0 _ _ rfl) rfl ?_ | refine c0 (qD W0 _ _ rfl) rfl ?_); first | refine dEr ?_ | exact dz)
 exact congrArg CB (Jv.2 (by first | omega | (simp only; omega)))
def zeM:XC:=(.s (.r [.m1 2 .n]) (.s (.s (.r [.mv 9 0,.n1 10 9,.b1 11 .gtr 10 (.i 1048576)]) (.cnd 11 (.s (.r [.m1 2 .y]) .ret) .skip)) (.s (.r [.mv 13 0,.o1 14 28 [13],.mv 12 14,.e1 15 12 0,.e1 16 12 1,.ex 3 (.alloc [.nil,.nil,.nil,(I 0),(I 0),.nil,.nil,.nil,.nil,(B false),(I 0),sE,sE,sE]),.ex 4 (.alloc [(I 0),(I 0),sE,(I 0),sE,sE,sE,(I 0)]),.s1 14 3 15,.s1 8 4 16]) (.s (.r [.l2 18 14 3,.l2 19 8 4,.c1 20 27 [18,19],.mv 17 20,.e1 21 17 0,.e1 22 17 1,.ex 5 (.alloc [.nil,.nil,.nil,(I 0),(I 0),.nil,.nil,.nil,.nil,(B false),(I 0),sE,sE,sE]),.s1 14 5 21,.mv 6 22]) (.s (.r [.l2 24 14 3,.l2 25 8 4,.c1 26 29 [24,25],.mv 23 26,.e1 27 23 0,.e1 28 23 1,.ex 7 (.alloc [.nil,.nil,.nil,(I 0),(I 0),.nil,.nil,.nil,.nil,(B false),(I 0),sE,sE,sE]),.s1 14 7 27,.mv 8 28]) (.s (.s (.r [.mv 29 6,.mv 30 8,.b1 31 .neq 29 30,.mv 32 31,.gf 33 (.ld true 14 3) 32,.gf 34 (.call 21 [33]) 32,.gf 35 (.un .not 34) 32,.ex 36 (.pick 32 .y 35)]) (.cnd 36 (.s (.r [.mv 37 6,.mv 38 8,.b1 39 .eql 37 38,.mv 2 39]) .ret) .skip)) (.s (.s (.r [.f1 40 0 4,.l1 41 1 40]) (.blk 0 (.s (.s (.r [.b1 43 .eql 41 (.i 6),.mv 42 43]) (.cnd 42 .skip (.s (.r [.b1 44 .eql 41 (.i 7),.mv 42 44]) (.cnd 42 .skip (.r [.b1 45 .eql 41 (.i 1),.mv 42 45]))))) (.cnd 42 (.s (.r [.f1 46 0 3,.l2 47 3 46,.f1 48 0 5,.l2 49 3 48,.c1 50 30 [47,49],.mv 51 50,.gt 52 (.fa 5 3) 51,.gt 53 (.ld false 1 52) 51,.gt 54 (.len false 53) 51,.gt 55 (.fa 5 5) 51,.gt 56 (.ld false 1 55) 51,.gt 57 (.len false 56) 51,.gt 58 (.bin .eql 54 57) 51,.ex 59 (.pick 51 58 .n),.mv 60 59,.gt 61 (.fa 3 3) 60,.gt 62 (.ld false 1 61) 60,.gt 63 (.fa 3 5) 60,.gt 64 (.ld false 1 63) 60,.gt 65 (.bin .eql 62 64) 60,.ex 66 (.pick 60 65 .n),.mv 67 66,.gt 68 (.fa 9 3) 67,.gt 69 (.ld false 1 68) 67,.gt 70 (.fa 9 5) 67,.gt 71 (.ld false 1 70) 67,.gt 72 (.bb false 69 71) 67,.ex 73 (.pick 67 72 .n),.mv 2 73]) .ret) (.s (.s (.r [.b1 75 .eql 41 (.i 5),.mv 74 75]) (.cnd 74 .skip (.r [.b1 76 .eql 41 (.i 4),.mv 74 76]))) (.cnd 74 (.s (.r [.f1 77 0 3,.l2 78 3 77,.f1 79 0 5,.l2 80 3 79,.c1 81 30 [78,80],.mv 82 81,.gt 83 (.fa 9 3) 82,.gt 84 (.ld false 1 83) 82,.gt 85 (.fa 9 5) 82,.gt 86 (.ld false 1 85) 82,.gt 87 (.bb false 84 86) 82,.ex 88 (.pick 82 87 .n),.mv 2 88]) .ret) (.s (.s (.r [.b1 90 .eql 41 (.i 2),.mv 89 90]) (.cnd 89 .skip (.r [.b1 91 .eql 41 (.i 3),.mv 89 91]))) (.cnd 89 (.s (.r [.mv 92 6,.b1 93 .eql 92 (.i 0),.mv 94 93,.gf 95 (.fa 0 3) 94,.gf 96 (.ld true 3 95) 94,.gf 97 (.fa 0 5) 94,.gf 98 (.ld true 3 97) 94,.gf 99 (.call 30 [96,98]) 94,.ex 100 (.pick 94 .y 99),.mv 2 100]) .ret) .skip)))))))) (.s (.r [.mv 101 6,.b1 102 .eql 101 (.i 1),.mv 103 102,.gt 104 (.ld true 14 3) 103,.gt 105 (.ld true 14 5) 103,.gt 106 (.call 18 [104,105]) 103,.ex 107 (.pick 103 106 .n),.mv 2 107]) .ret))))))))
theorem zl2:zc Tryz.prog [28] 8=some (zeM.ac,[(.t 2)],108):=by kernel_rfl
set_option maxHeartbeats 2000000 in
theorem zot (W0:World) (hs:W0.ShapedOpen Tryz.prog) (c0':Str):Fn Tryz.prog W0 8 [qe c0'] (.c (CB true)) []:=by
 refine fnX (c:=zeM) mixed zl2 (by simp) rfl fun hg=>?_
 have hM:=zb8 hs;refine dr ?_;apply cP<;>intro h0
 ·exact dz
 refine dr ?_;refine oW (zbA W0 c0') rfl trivial rfl rfl ⟨(w0W,⟨0,0,[],jc,0⟩),w0R.mono (by omega)⟩ fun x hx=>⟨rfl,?_⟩
 obtain ⟨w,ev⟩:=x;have hw:WR 1 w:=hx;clear hx;have q1:=zbE W0 hM w ev (hw.z.z.mono (by omega));have q2:=zbN W0 w ev (hw.z.z.mono (by omega));have q3:=JZ W0 hM w;have q4:=zab W0 w;have sm:=zcS W0;have hlo:=hw.ck;have hco:=hw.ct;by_cases g:WG w;rotate_left
 ·rw [show wDo w ev=(noW,1) from if_neg g] at q1 q2;rw [tb_f g] at q4;have q1:Fn Tryz.prog W0 27 [zA w,eEv ev] (.c (.tup [zA noW,CI 1])) []:=q1;have q2:Fn Tryz.prog W0 29 [zA w,eEv ev] (.c (.tup [zA noW,CI 1])) []:=q2;refine dEr ?_;repeat ((first | refine c0 q1 rfl ?_ | refine c0 q2 rfl ?_ | refine c0 q4 rfl ?_ | refine kFn rfl ?_ | refine xiT ?_ | refine xiF ?_ | refine xbT ?_ | refine xbF ?_ | refine xiN ?_ | refine xiM ?_ | refine xbN ?_ | refine xbM ?_ | refine xeT ?_ | refine xeF ?_ | refine c0 (qx W0 _ _ rfl) rfl ?_ | refine c0 (qC W0 _ _ rfl) rfl ?_ | refine c0 (qD W0 _ _ rfl) rfl ?_); first | refine dEr ?_ | exact dz)
  exact congrArg CB (yL.2 rfl)
 have n1:=@zrg w ev;have n5:=@zri w ev;have n2:=@zrh w ev;have n0:=@zrf w ev;rw [Qz g] at q1 q2;rw [tb_t g] at q4;have gx:=g.ev ev;generalize evW w ev=r at *;obtain ⟨x,c⟩:=r;have q1:Fn Tryz.prog W0 27 [zA w,eEv ev] (.c (.tup [zA x,CI c])) []:=q1;have q2:Fn Tryz.prog W0 29 [zA w,eEv ev] (.c (.tup [zA x,CI c])) []:=q2;have gx:WG x:=gx;have so:=fun (h:x.over=w.over)=>qx W0 w.over x.over h.symm
 by_cases k1:ev.kind=1∨ev.kind=6∨ev.kind=7
 ·obtain ⟨e1,e2,e3,e4⟩:x.over=w.over∧x.leases=w.leases∧x.clock=w.clock∧x.waits=w.waits:=n1 k1;have e2:(w.leases.length:Int)=x.leases.length:=by rw [e2]
  rcases k1 with k | k | k
  ·refine dEr ?_;repeat ((first | refine c0 q1 rfl ?_ | refine c0 q2 rfl ?_ | refine c0 q4 rfl ?_ | refine c0 (so e1) rfl ?_ | refine kFn rfl ?_ | refine kT (by first | omega | (simp only; omega)) ?_ | refine kF (by first | omega | (simp only; omega)) ?_ | refine xiT ?_ | refine xiF ?_ | refine xbT ?_ | refine xbF ?_ | refine xiN ?_ | refine xiM ?_ | refine xbN ?_ | refine xbM ?_ | refine xeT ?_ | refine xeF ?_ | refine c0 (qx W0 _ _ rfl) rfl ?_ | refine c0 (qC W0 _ _ rfl) rfl ?_ | refine c0 (qD W0 _ _ rfl) rfl ?_); first | refine dEr ?_ | exact dz)
   exact congrArg CB (yK.2 e4.symm)
  ·refine dEr ?_;repeat ((first | refine c0 q1 rfl ?_ | refine c0 q2 rfl ?_ | refine c0 q4 rfl ?_ | refine c0 (so e1) rfl ?_ | refine kFn rfl ?_ | refine kT (by first | omega | (simp only; omega)) ?_ | refine kF (by first | omega | (simp only; omega)) ?_ | refine xiT ?_ | refine xiF ?_ | refine xbT ?_ | refine xbF ?_ | refine xiN ?_ | refine xiM ?_ | refine xbN ?_ | refine xbM ?_ | refine xeT ?_ | refine xeF ?_ | refine c0 (qx W0 _ _ rfl) rfl ?_ | refine c0 (qC W0 _ _ rfl) rfl ?_ | refine c0 (qD W0 _ _ rfl) rfl ?_); first | refine dEr ?_ | exact dz)
   exact congrArg CB (yK.2 e4.symm)
  ·refine dEr ?_;repeat ((first | refine c0 q1 rfl ?_ | refine c0 q2 rfl ?_ | refine c0 q4 rfl ?_ | refine c0 (so e1) rfl ?_ | refine kFn rfl ?_ | refine kT (by first | omega | (simp only; omega)) ?_ | refine kF (by first | omega | (simp only; omega)) ?_ | refine xiT ?_ | refine xiF ?_ | refine xbT ?_ | refine xbF ?_ | refine xiN ?_ | refine xiM ?_ | refine xbN ?_ | refine xbM ?_ | refine xeT ?_ | refine xeF ?_ | refine c0 (qx W0 _ _ rfl) rfl ?_ | refine c0 (qC W0 _ _ rfl) rfl ?_ | refine c0 (qD W0 _ _ rfl) rfl ?_); first | refine dEr ?_ | exact dz)
   exact congrArg CB (yK.2 e4.symm)
 by_cases k2:ev.kind=5∨ev.kind=4
 ·obtain ⟨e1,e4⟩:x.over=w.over∧x.waits=w.waits:=n5 k2;rcases k2 with k | k
  ·refine dEr ?_;repeat ((first | refine c0 q1 rfl ?_ | refine c0 q2 rfl ?_ | refine c0 q4 rfl ?_ | refine c0 (so e1) rfl ?_ | refine kFn rfl ?_ | refine kT (by first | omega | (simp only; omega)) ?_ | refine kF (by first | omega | (simp only; omega)) ?_ | refine xiT ?_ | refine xiF ?_ | refine xbT ?_ | refine xbF ?_ | refine xiN ?_ | refine xiM ?_ | refine xbN ?_ | refine xbM ?_ | refine xeT ?_ | refine xeF ?_ | refine c0 (qx W0 _ _ rfl) rfl ?_ | refine c0 (qC W0 _ _ rfl) rfl ?_ | refine c0 (qD W0 _ _ rfl) rfl ?_); first | refine dEr ?_ | exact dz)
   exact congrArg CB (yK.2 e4.symm)
  ·refine dEr ?_;repeat ((first | refine c0 q1 rfl ?_ | refine c0 q2 rfl ?_ | refine c0 q4 rfl ?_ | refine c0 (so e1) rfl ?_ | refine kFn rfl ?_ | refine kT (by first | omega | (simp only; omega)) ?_ | refine kF (by first | omega | (simp only; omega)) ?_ | refine xiT ?_ | refine xiF ?_ | refine xbT ?_ | refine xbF ?_ | refine xiN ?_ | refine xiM ?_ | refine xbN ?_ | refine xbM ?_ | refine xeT ?_ | refine xeF ?_ | refine c0 (qx W0 _ _ rfl) rfl ?_ | refine c0 (qC W0 _ _ rfl) rfl ?_ | refine c0 (qD W0 _ _ rfl) rfl ?_); first | refine dEr ?_ | exact dz)
   exact congrArg CB (yK.2 e4.symm)
 by_cases k3:ev.kind=2∨ev.kind=3
 ·have n2:c=0∨x.over=w.over:=n2 k3;by_cases hc:c=0
  ·rcases k3 with k | k
   ·refine dEr ?_;repeat ((first | refine c0 q1 rfl ?_ | refine c0 q2 rfl ?_ | refine c0 q4 rfl ?_ | refine kFn rfl ?_ | refine kT (by first | omega | (simp only; omega)) ?_ | refine kF (by first | omega | (simp only; omega)) ?_ | refine xiT ?_ | refine xiF ?_ | refine xbT ?_ | refine xbF ?_ | refine xiN ?_ | refine xiM ?_ | refine xbN ?_ | refine xbM ?_ | refine xeT ?_ | refine xeF ?_ | refine c0 (qx W0 _ _ rfl) rfl ?_ | refine c0 (qC W0 _ _ rfl) rfl ?_ | refine c0 (qD W0 _ _ rfl) rfl ?_); first | refine dEr ?_ | exact dz)
   ·refine dEr ?_;repeat ((first | refine c0 q1 rfl ?_ | refine c0 q2 rfl ?_ | refine c0 q4 rfl ?_ | refine kFn rfl ?_ | refine kT (by first | omega | (simp only; omega)) ?_ | refine kF (by first | omega | (simp only; omega)) ?_ | refine xiT ?_ | refine xiF ?_ | refine xbT ?_ | refine xbF ?_ | refine xiN ?_ | refine xiM ?_ | refine xbN ?_ | refine xbM ?_ | refine xeT ?_ | refine xeF ?_ | refine c0 (qx W0 _ _ rfl) rfl ?_ | refine c0 (qC W0 _ _ rfl) rfl ?_ | refine c0 (qD W0 _ _ rfl) rfl ?_); first | refine dEr ?_ | exact dz)
  ·have e1:=n2.resolve_left hc;rcases k3 with k | k
   ·refine dEr ?_;repeat ((first | refine c0 q1 rfl ?_ | refine c0 q2 rfl ?_ | refine c0 q4 rfl ?_ | refine c0 (so e1) rfl ?_ | refine kFn rfl ?_ | refine kT (by first | omega | (simp only; omega)) ?_ | refine kF (by first | omega | (simp only; omega)) ?_ | refine xiT ?_ | refine xiF ?_ | refine xbT ?_ | refine xbF ?_ | refine xiN ?_ | refine xiM ?_ | refine xbN ?_ | refine xbM ?_ | refine xeT ?_ | refine xeF ?_ | refine c0 (qx W0 _ _ rfl) rfl ?_ | refine c0 (qC W0 _ _ rfl) rfl ?_ | refine c0 (qD W0 _ _ rfl) rfl ?_); first | refine dEr ?_ | exact dz)
   ·refine dEr ?_;repeat ((first | refine c0 q1 rfl ?_ | refine c0 q2 rfl ?_ | refine c0 q4 rfl ?_ | refine c0 (so e1) rfl ?_ | refine kFn rfl ?_ | refine kT (by first | omega | (simp only; omega)) ?_ | refine kF (by first | omega | (simp only; omega)) ?_ | refine xiT ?_ | refine xiF ?_ | refine xbT ?_ | refine xbF ?_ | refine xiN ?_ | refine xiM ?_ | refine xbN ?_ | refine xbM ?_ | refine xeT ?_ | refine xeF ?_ | refine c0 (qx W0 _ _ rfl) rfl ?_ | refine c0 (qC W0 _ _ rfl) rfl ?_ | refine c0 (qD W0 _ _ rfl) rfl ?_); first | refine dEr ?_ | exact dz)
 ·have n0:(x,c)=(w,1):=n0 (by omega);injection n0 with n3 n4
  subst n3 n4;refine dEr ?_;repeat ((first | refine c0 q1 rfl ?_ | refine c0 q2 rfl ?_ | refine c0 q4 rfl ?_ | refine c0 (sm x) rfl ?_ | refine kFn rfl ?_ | refine kT (by first | omega | (simp only; omega)) ?_ | refine kF (by first | omega | (simp only; omega)) ?_ | refine xiT ?_ | refine xiF ?_ | refine xbT ?_ | refine xbF ?_ | refine xiN ?_ | refine xiM ?_ | refine xbN ?_ | refine xbM ?_ | refine xeT ?_ | refine xeF ?_ | refine c0 (qx W0 _ _ rfl) rfl ?_ | refine c0 (qC W0 _ _ rfl) rfl ?_ | refine c0 (qD W0 _ _ rfl) rfl ?_); first | refine dEr ?_ | exact dz)
def zeL:XC:=(.s (.r [.m1 2 .n]) (.s (.s (.r [.mv 12 0,.n1 13 12,.b1 14 .gtr 13 (.i 1048576)]) (.cnd 14 (.s (.r [.m1 2 .y]) .ret) .skip)) (.s (.r [.mv 16 0,.o1 17 28 [16],.mv 15 17,.e1 18 15 0,.e1 19 15 1,.ex 3 (.alloc [.nil,.nil,.nil,(I 0),(I 0),.nil,.nil,.nil,.nil,(B false),(I 0),sE,sE,sE]),.ex 4 (.alloc [(I 0),(I 0),sE,(I 0),sE,sE,sE,(I 0)]),.s1 14 3 18,.s1 8 4 19]) (.s (.r [.l2 21 14 3,.l2 22 8 4,.c1 23 27 [21,22],.mv 20 23,.e1 24 20 0,.e1 25 20 1,.ex 5 (.alloc [.nil,.nil,.nil,(I 0),(I 0),.nil,.nil,.nil,.nil,(B false),(I 0),sE,sE,sE]),.s1 14 5 24,.mv 6 25]) (.s (.r [.l2 27 14 3,.l2 28 8 4,.c1 29 29 [27,28],.mv 26 29,.e1 30 26 0,.e1 31 26 1,.ex 7 (.alloc [.nil,.nil,.nil,(I 0),(I 0),.nil,.nil,.nil,.nil,(B false),(I 0),sE,sE,sE]),.s1 14 7 30,.mv 8 31]) (.s (.s (.r [.mv 32 6,.mv 33 8,.b1 34 .neq 32 33,.mv 35 34,.gf 36 (.ld true 14 3) 35,.gf 37 (.call 21 [36]) 35,.gf 38 (.un .not 37) 35,.ex 39 (.pick 35 .y 38)]) (.cnd 39 (.s (.r [.mv 40 6,.mv 41 8,.b1 42 .eql 40 41,.mv 2 42]) .ret) .skip)) (.s (.s (.r [.m1 9 (.i 0)]) (.blk 0 (.loop (.s (.s (.r [.mv 43 9,.b1 44 .lss 43 (.i 3)]) (.cnd 44 .skip (.exit 0))) (.s (.blk 1 (.s (.d [.f1 47 7 5,.l1 48 1 47,.mv 49 9,.i1 50 1 48 49,.l1 51 1 50,.f1 52 7 3,.l1 53 1 52,.mv 54 9,.i1 55 1 53 54,.l1 56 1 55,.b1 57 .lss 51 56]) (.cnd 57 (.s (.r [.m1 2 .n]) .ret) .skip))) (.r [.mv 45 9,.b1 46 .add 45 (.i 1),.mv 9 46])))))) (.s (.r [.m1 10 (.i 0)]) (.s (.s (.r [.m1 11 (.i 0)]) (.blk 2 (.loop (.s (.s (.r [.mv 58 11,.f1 59 5 5,.l1 60 1 59,.n1 61 60,.b1 62 .lss 58 61]) (.cnd 62 .skip (.exit 2))) (.s (.blk 3 (.s (.d [.f1 65 5 5,.l1 66 1 65,.mv 67 11,.i1 68 4 66 67,.f1 69 2 68,.l1 70 1 69,.f1 71 4 3,.l1 72 1 71,.b1 73 .gtr 70 72]) (.cnd 73 (.r [.mv 74 10,.b1 75 .add 74 (.i 1),.mv 10 75]) .skip))) (.r [.mv 63 11,.b1 64 .add 63 (.i 1),.mv 11 64])))))) (.s (.r [.mv 76 10,.f1 77 4 5,.l1 78 1 77,.f1 79 4 3,.l1 80 1 79,.b1 81 .sub 78 80,.b1 82 .eql 76 81,.mv 83 82,.gt 84 (.fa 8 5) 83,.gt 85 (.ld false 1 84) 83,.gt 86 (.len false 85) 83,.gt 87 (.bin .leq 86 (.i 12)) 83,.ex 88 (.pick 83 87 .n),.mv 89 88,.gt 90 (.fa 3 5) 89,.gt 91 (.ld false 1 90) 89,.gt 92 (.fa 3 3) 89,.gt 93 (.ld false 1 92) 89,.gt 94 (.bin .sub 91 93) 89,.gt 95 (.bin .leq 94 (.i 1)) 89,.ex 96 (.pick 89 95 .n),.mv 2 96]) .ret))))))))))
theorem zl1:zc Tryz.prog [28] 9=some (zeL.ac,[(.t 2)],97):=by kernel_rfl
set_option maxHeartbeats 2000000 in
theorem zos (W0:World) (hs:W0.ShapedOpen Tryz.prog) (c0':Str):Fn Tryz.prog W0 9 [qe c0'] (.c (CB true)) []:=by
 refine fnX (c:=zeL) mixed zl1 (by simp) rfl fun hg=>?_
 have hM:=zb8 hs;refine dr ?_;apply cP<;>intro h0
 ·exact dz
 refine dr ?_;refine oW (zbA W0 c0') rfl trivial rfl rfl ⟨(w0W,⟨0,0,[],jc,0⟩),w0R.mono (by omega)⟩ fun x hx=>⟨rfl,?_⟩
 obtain ⟨w,ev⟩:=x;have hw:WR 1 w:=hx;clear hx;have q1:=zbE W0 hM w ev (hw.z.z.mono (by omega));have q2:=zbN W0 w ev (hw.z.z.mono (by omega));have q3:=JZ W0 hM w;have q4:=zab W0 w;have sm:=zcS W0;have hlo:=hw.ck;have hco:=hw.ct;by_cases g:WG w;rotate_left
 ·rw [show wDo w ev=(noW,1) from if_neg g] at q1 q2;rw [tb_f g] at q4;have q1:Fn Tryz.prog W0 27 [zA w,eEv ev] (.c (.tup [zA noW,CI 1])) []:=q1;have q2:Fn Tryz.prog W0 29 [zA w,eEv ev] (.c (.tup [zA noW,CI 1])) []:=q2;refine dEr ?_;repeat ((first | refine c0 q1 rfl ?_ | refine c0 q2 rfl ?_ | refine c0 q4 rfl ?_ | refine kFn rfl ?_ | refine xiT ?_ | refine xiF ?_ | refine xbT ?_ | refine xbF ?_ | refine xiN ?_ | refine xiM ?_ | refine xbN ?_ | refine xbM ?_ | refine xeT ?_ | refine xeF ?_ | refine c0 (qx W0 _ _ rfl) rfl ?_ | refine c0 (qC W0 _ _ rfl) rfl ?_ | refine c0 (qD W0 _ _ rfl) rfl ?_); first | refine dEr ?_ | exact dz)
  exact congrArg CB (yL.2 rfl)
 have ck:=zg3 (w:=w) ev;have cl:=zg4 (w:=w) ev;have ct:=cl.count;have cf:=cl.fresh g;have fl:=zog (w:=w) ev;have nl:=(g.ev ev).pl.nl;have hl:=(g.ev ev).pl.fl;have hz':=(hw.z.z.ev ev).l;rw [Qz g] at q1 q2;rw [tb_t g] at q4;have gx:=g.ev ev;generalize evW w ev=r at *;obtain ⟨x,c⟩:=r;have q1:Fn Tryz.prog W0 27 [zA w,eEv ev] (.c (.tup [zA x,CI c])) []:=q1;have q2:Fn Tryz.prog W0 29 [zA w,eEv ev] (.c (.tup [zA x,CI c])) []:=q2;have gx:WG x:=gx;have ck:w.clock≤x.clock∧x.clock≤w.clock+1:=ck;have ct:w.count≤x.count∧x.count≤w.count+1:=ct;have cf:((x.leases.filter fun l=>decide (w.count < l.num)).length:Int)=x.count - w.count:=cf;have fl:∀ i,w.floors.getD i 0≤x.floors.getD i 0:=fl;have nl:x.net.length≤12:=nl;have hl:x.floors.length=3:=hl;have hz':x.leases.length≤102:=hz';have hwl:=hw.f;refine dEr ?_;repeat ((first | refine c0 q1 rfl ?_ | refine c0 q2 rfl ?_ | refine c0 q4 rfl ?_ | refine kFn rfl ?_ | refine xiT ?_ | refine xiF ?_ | refine xbT ?_ | refine xbF ?_ | refine xiN ?_ | refine xiM ?_ | refine xbN ?_ | refine xbM ?_ | refine xeT ?_ | refine xeF ?_ | refine c0 (qx W0 _ _ rfl) rfl ?_ | refine c0 (qC W0 _ _ rfl) rfl ?_ | refine c0 (qD W0 _ _ rfl) rfl ?_); first | refine dEr ?_ | exact dz)
 refine lp (σ:=Nat) (fun i=>[(3,.ptr 48 0),(5,.ptr 80 0),(9,I i)]) (fun _=>[(48,wBx w),(80,wBx x)]) (fun i=>i≤3) (fun i=>3 - i) 0 (by omega) ?_ ?_
 ·refine dr ?_;trivial
 intro i hi;refine dr ?_;apply cP<;>intro a1;rotate_left
 ·refine dr ?_;refine lp2 (fun (n k:Nat)=>[(3,.ptr 48 0),(5,.ptr 80 0),(10,I n),(11,I k)]) (fun _ _=>[(48,wBx w),(80,wBx x)]) (fun n k=>k≤x.leases.length∧n=((x.leases.take k).filter fun l=>decide (w.count < l.num)).length∧n≤k) (fun _ k=>x.leases.length - k) 0 0 ⟨by omega,by simp,by omega⟩ ?_ ?_
  ·refine dr ?_;trivial
  rintro n k ⟨hk,hn,hnk⟩;refine dr ?_;apply cP<;>intro a2;rotate_left
  ·rw [List.take_of_length_le (by omega)] at hn;refine dEr ?_;repeat ((first | refine oB (by first | omega | (simp only; omega)) ?_ | refine kT (by first | omega | (simp only; omega)) ?_ | refine kL (by first | omega | (simp only; omega)) ?_ | refine xiT ?_ | refine xiF ?_ | refine xbT ?_ | refine xbF ?_ | refine xiN ?_ | refine xiM ?_ | refine xbN ?_ | refine xbM ?_ | refine xeT ?_ | refine xeF ?_ | refine c0 (qx W0 _ _ rfl) rfl ?_ | refine c0 (qC W0 _ _ rfl) rfl ?_ | refine c0 (qD W0 _ _ rfl) rfl ?_); first | refine dEr ?_ | exact dz)
   exact congrArg CB (Jv.2 (by first | omega | (simp only; omega)))
  have hk':k < x.leases.length:=by omega
  have e1:((x.leases.take (k+1)).filter fun l=>decide (w.count < l.num)).length=n+if w.count < x.leases[k].num then 1 else 0:=by
   rw [List.take_succ_eq_append_getElem hk',List.filter_append,List.length_append,← hn];by_cases hc:w.count < x.leases[k].num<;>simp [List.filter_cons,hc]
  refine dr ?_;apply cP<;>intro a3
  ·rw [if_pos (by first | omega | (simp only at a3; omega))] at e1;refine dr ?_;repeat (refine oB (by omega) ?_; first | refine dr ?_ | exact dz)
   refine ⟨n+1,k+1,⟨by omega,e1.symm,by omega⟩,by omega,?_⟩;refine dr ?_;trivial
  ·rw [if_neg (by first | omega | (simp only at a3; omega))] at e1;refine dr ?_;refine ⟨n,k+1,⟨by omega,e1.symm,by omega⟩,by omega,?_⟩;refine dr ?_;trivial
 have hi3:i < 3:=by omega
 have f1:=fl i;simp only [List.getD_eq_getElem?_getD,List.getElem?_eq_getElem (show i < w.floors.length by omega),List.getElem?_eq_getElem (show i < x.floors.length by omega),Option.getD_some] at f1;refine dr ?_;apply cP<;>intro a2
 ·omega
 refine dr ?_;refine ⟨i+1,by omega,by omega,?_⟩;refine dr ?_;trivial
end Go.Proofs.YteheahbjaddooaaGreatDoor
