/- The texts Id5, Id6, Dd1, Dd2, Dd3, Cm1, Dm1, Dm2, Lb1, Lc1, Qb5, Le0, Qb7, LdB, joined; no condition. -/
import Derived.Test.YtopfccpgdldcdaaGreatDoorWvE
import Derived.OpenShut
import Derived.Carry
import Derived.ChangeSame
import Derived.ProofKit
import Derived.Test.YtopfccpgdldcdaaGreatDoorRows
import Derived.Test.YtopfccpgdldcdaaGreatDoorCards
import Derived.Test.YtopfccpgdldcdaaGreatDoorTie
import Derived.Deep.DeepHandedRow
import Derived.Lib.LaidTab
import Derived.Sort.Row

namespace Go.Proofs.YtopfccpgdldcdaaGreatDoor
set_option linter.unusedSimpArgs false
set_option linter.unusedVariables false
open Go Go.RowKit
inductive Dv where
 | o
 | n
 | l
 | a
 | b
 | c
abbrev wMv (d:Dv) (w:Wld):XM:=match d with
 | .o=>wMp w
 | .n=>(11,.dead 9 67)::wMx 5 7 8 9 1632 w
 | .l=>(11,.dead 9 67)::(5,.dead 4 59)::wMx 1600 7 8 9 1632 w
 | .a=>(11,.dead 9 67)::(7,.dead 7 48)::wMx 5 1616 8 9 1632 w
 | .b=>(11,.dead 9 67)::(8,.dead 7 48)::wMx 5 7 1616 9 1632 w
 | .c=>(11,.dead 9 67)::(9,.dead 7 48)::wMx 5 7 8 1616 1632 w
def zm5:XC:=(.s (.r [.m1 6 (.i 0)]) (.s (.s (.r [.mv 8 2,.b1 9 .lss 8 (.i 0),.mv 10 9,.h3 11 2 10,.h3 12 0 10,.gf 13 (.nck 12) 10,.h1 14 8 13 10,.h2 15 1 14 10,.gf 16 (.len false 15) 10,.gf 17 (.bin .geq 11 16) 10,.p1 18 10 17]) (.cnd 18 (.s (.r [.m1 6 (.i 22)]) .ret) .skip)) (.s (.r [.mv 19 0,.k1 20 19,.f1 21 8 20,.l1 22 1 21,.mv 23 2,.i1 24 9 22 23,.l2 25 9 24,.ex 7 (.alloc [(I 0),(I 0),sE,(B false),sE,(B false),sE,(I 0),(I 0)]),.s1 9 7 25]) (.s (.s (.r [.mv 26 1,.b1 27 .eql 26 (.i 7)]) (.cnd 27 (.s (.r [.mv 28 0,.l2 29 9 7,.o1 30 50 [28,29]]) (.s (.r [.m1 6 (.i 0)]) .ret)) .skip)) (.s (.r [.mv 31 0,.mv 32 0,.k1 33 32,.f1 34 8 33,.l1 35 1 34,.mv 36 2,.mv 37 2,.b1 38 .add 37 (.i 1),.o1 39 107 [35,36,38],.k1 40 31,.f1 41 8 40,.s1 1 41 39]) (.s (.s (.r [.mv 42 1,.b1 43 .eql 42 (.i 6)]) (.cnd 43 (.s (.r [.m1 6 (.i 0)]) .ret) .skip)) (.s (.s (.r [.f1 44 0 7,.l1 45 1 44]) (.blk 0 (.s (.r [.b1 47 .eql 45 (.i 1),.mv 46 47]) (.cnd 46 (.r [.mv 48 0,.f1 49 1 7,.l1 50 1 49,.f1 51 2 7,.f1 52 0 51,.l1 53 1 52,.o1 54 108 [48,50,53]]) (.s (.r [.b1 56 .eql 45 (.i 2),.mv 55 56]) (.cnd 55 (.r [.mv 57 0,.f1 58 1 7,.l1 59 1 58,.f1 60 2 7,.l2 61 7 60,.o1 62 109 [57,59,61]]) (.s (.r [.b1 64 .eql 45 (.i 3),.mv 63 64]) (.cnd 63 (.r [.mv 65 0,.f1 66 1 7,.l1 67 1 66,.f1 68 2 7,.f1 69 0 68,.l1 70 1 69,.f1 71 2 7,.f1 72 5 71,.l1 73 1 72,.o1 74 110 [65,67,70,73]]) (.s (.r [.b1 76 .eql 45 (.i 4),.mv 75 76]) (.cnd 75 (.r [.mv 77 0,.f1 78 1 7,.l1 79 1 78,.f1 80 2 7,.f1 81 0 80,.l1 82 1 81,.f1 83 2 7,.f1 84 5 83,.l1 85 1 84,.o1 86 111 [77,79,82,85]]) .skip)))))))))) (.s (.r [.m1 6 (.i 0)]) .ret))))))))
theorem zm6:zc Tryz.prog [50,107,108,109,110,111] 54=some (zm5.ac,[(.t 6)],87):=by kernel_rfl
set_option maxHeartbeats 2000000 in
theorem zbv (W0:World) (hM:HM W0) (w:Wld) (ek pos:Int) (h:WG w) (hz:HZ 1000000 w) (hk:5≤ek∧ek≤7):zv Tryz.prog W0 54 [.ptr 4 0,.c (CI ek),.c (CI pos)] (wMp w) (fun _:Dv=>True) (fun _ => .c (CI (netW w ⟨ek,0,[],ji,pos⟩).2)) (fun d=>wMv d (netW w ⟨ek,0,[],ji,pos⟩).1):=by
 refine fW mixed zm6 fun hg=>?_
 have hn:w.net.length≤1000:=by have:=h.pl.nl; omega
 have hw:netW w ⟨ek,0,[],ji,pos⟩=if pos < 0∨(w.net.length:Int)≤pos then (w,22)
  else if ek=7 then (zR w (w.net.getD pos.toNat noMs),0)
  else if ek=5 then (zJ { w with net:=w.net.eraseIdx pos.toNat } (w.net.getD pos.toNat noMs),0)
  else ({ w with net:=w.net.eraseIdx pos.toNat },0):=rfl
 rw [hw];refine dr ?_;apply cP<;>intro h1
 ·rw [if_pos (.inl h1)];refine dr ?_;refine ⟨none,_,_,?_,.o,trivial,rfl,rfl⟩;refine dr ?_;trivial
 refine dr ?_;apply cP<;>intro h2
 ·rw [if_pos (.inr h2)];refine dr ?_;refine ⟨none,_,_,?_,.o,trivial,rfl,rfl⟩;refine dr ?_;trivial
 have h1':0≤pos:=h1;have h2':pos < (w.net.length:Int):=h2;rw [if_neg (by omega)];obtain ⟨k,rfl⟩:∃ k:Nat,pos=(k:Int):=⟨pos.toNat,by omega⟩;have hk':k < w.net.length:=by omega
 have hgd:w.net.getD (k:Int).toNat noMs=w.net[k]:=by rw [Int.toNat_natCast,List.getD_eq_getElem?_getD,List.getElem?_eq_getElem hk']; rfl
 rw [hgd,Int.toNat_natCast];have hms:=h.ms _ (List.getElem_mem hk');refine dr ?_;apply cP<;>intro h3
 ·have h3':ek=7:=h3;rw [if_pos h3'];refine dr ?_;refine oW (yZ W0 w w.net[k] hn) rfl ⟨rfl,rfl,rfl,rfl,rfl,rfl,rfl,rfl,trivial⟩ rfl rfl ⟨(),trivial⟩ fun _ _=>⟨rfl,?_⟩
  refine dEr ?_;refine ⟨none,_,_,?_,.o,trivial,rfl,rfl⟩;refine dr ?_;trivial
 have h3':ek≠7:=h3;rw [if_neg h3'];refine dr ?_;refine oW (znS W0 w.net k hk' 11 1632 (by decide) (by omega)) rfl ⟨rfl,trivial⟩ rfl rfl ⟨(),trivial⟩ fun _ _=>⟨rfl,?_⟩
 refine dEr ?_;apply cP<;>intro h4
 ·have h4':ek≠5:=by have:ek=6:=h4; omega
  rw [if_neg h4'];refine dr ?_;refine ⟨none,_,_,?_,.n,trivial,rfl,rfl⟩;refine dr ?_;repeat (refine oB (by simp [List.length_eraseIdx,hk']) ?_; first|refine dr ?_|exact dz)
  trivial
 have h4':ek=5:=by have:ek≠6:=h4; omega
 rw [if_pos h4'];have h1w:WG { w with net:=w.net.eraseIdx k }:=h.lose k;have hz1:HZ 1000000 { w with net:=w.net.eraseIdx k }:=⟨hz.l,hz.h⟩;have bx:XB.box [.c (zb w.over.base),.c (zA w.over.layers),.c (zf w.over.upper),I w.clock,I w.count,.own 5 w.leases.length,.own 6 3,.own 10 w.floors.length,.own 1632 (w.net.length - 1),B w.waits,I w.op.kind,.c (CS w.op.path),.c (CS w.op.dest),.c (CS w.op.data)] = .box (wCx 5 1632 { w with net:=w.net.eraseIdx k }):=by
  show _=XB.box [.c (zb w.over.base),.c (zA w.over.layers),.c (zf w.over.upper),I w.clock,I w.count,.own 5 w.leases.length,.own 6 3,.own 10 w.floors.length,.own 1632 (w.net.eraseIdx k).length,B w.waits,I w.op.kind,.c (CS w.op.path),.c (CS w.op.dest),.c (CS w.op.data)];rw [List.length_eraseIdx,if_pos hk']
 generalize w.net[k]=m at *;obtain ⟨mk,mw,mh⟩:=m;have hmw:mw=0∨mw=1∨mw=2:=by have h1:=hms.who.1; have h2:=hms.who.2; simp only at h1 h2; omega
 refine dr ?_;apply cP<;>intro k1
 ·have k1:mk=1:=k1;rw [show zJ { w with net:=w.net.eraseIdx k } ⟨mk,mw,mh⟩=ZO { w with net:=w.net.eraseIdx k } mw mh.path by unfold zJ; rw [if_pos k1]];refine dr ?_;refine oW ((zoh W0 hM { w with net:=w.net.eraseIdx k } mw mh.path h1w hz1.l).swp 11 1632) rfl ⟨congrArg some bx,rfl,rfl,rfl,rfl,rfl,rfl,rfl,trivial⟩ rfl rfl ⟨false,trivial⟩ fun b _=>?_
  cases b with
  | true =>
   refine ⟨rfl,?_⟩;refine dEr ?_;refine ⟨none,_,_,?_,.l,trivial,rfl,rfl⟩;refine dr ?_;trivial
  | false =>
   refine ⟨rfl,?_⟩;refine dEr ?_;refine ⟨none,_,_,?_,.n,trivial,rfl,rfl⟩;refine dr ?_;trivial
 have k1:mk≠1:=k1;refine dr ?_;apply cP<;>intro k2
 ·have k2:mk=2:=k2;rcases hmw with rfl|rfl|rfl
  ·rw [show zJ { w with net:=w.net.eraseIdx k } ⟨mk,0,mh⟩=(if w.clock < mh.til∧flW { w with net:=w.net.eraseIdx k } 0 < mh.num then { w with net:=w.net.eraseIdx k,holds:=w.holds.set 0 (je (hdW { w with net:=w.net.eraseIdx k } 0) mh) } else { w with net:=w.net.eraseIdx k }) by unfold zJ; rw [if_neg k1,if_pos k2]; rfl];refine dr ?_;refine oW ((zoj W0 { w with net:=w.net.eraseIdx k } mh h1w hz1).swp 11 1632) rfl ⟨congrArg some bx,rfl,rfl,rfl,rfl,rfl,rfl,rfl,trivial⟩ rfl rfl ⟨false,trivial⟩ fun b _=>?_
   cases b with
   | true =>
    refine ⟨rfl,?_⟩;refine dEr ?_;refine ⟨none,_,_,?_,.a,trivial,rfl,rfl⟩;refine dr ?_;trivial
   | false =>
    refine ⟨rfl,?_⟩;refine dEr ?_;refine ⟨none,_,_,?_,.n,trivial,rfl,rfl⟩;refine dr ?_;trivial
  ·rw [show zJ { w with net:=w.net.eraseIdx k } ⟨mk,1,mh⟩=(if w.clock < mh.til∧flW { w with net:=w.net.eraseIdx k } 1 < mh.num then { w with net:=w.net.eraseIdx k,holds:=w.holds.set 1 (je (hdW { w with net:=w.net.eraseIdx k } 1) mh) } else { w with net:=w.net.eraseIdx k }) by unfold zJ; rw [if_neg k1,if_pos k2]; rfl];refine dr ?_;refine oW ((zok W0 { w with net:=w.net.eraseIdx k } mh h1w hz1).swp 11 1632) rfl ⟨congrArg some bx,rfl,rfl,rfl,rfl,rfl,rfl,rfl,trivial⟩ rfl rfl ⟨false,trivial⟩ fun b _=>?_
   cases b with
   | true =>
    refine ⟨rfl,?_⟩;refine dEr ?_;refine ⟨none,_,_,?_,.b,trivial,rfl,rfl⟩;refine dr ?_;trivial
   | false =>
    refine ⟨rfl,?_⟩;refine dEr ?_;refine ⟨none,_,_,?_,.n,trivial,rfl,rfl⟩;refine dr ?_;trivial
  ·rw [show zJ { w with net:=w.net.eraseIdx k } ⟨mk,2,mh⟩=(if w.clock < mh.til∧flW { w with net:=w.net.eraseIdx k } 2 < mh.num then { w with net:=w.net.eraseIdx k,holds:=w.holds.set 2 (je (hdW { w with net:=w.net.eraseIdx k } 2) mh) } else { w with net:=w.net.eraseIdx k }) by unfold zJ; rw [if_neg k1,if_pos k2]; rfl];refine dr ?_;refine oW ((zol W0 { w with net:=w.net.eraseIdx k } mh h1w hz1).swp 11 1632) rfl ⟨congrArg some bx,rfl,rfl,rfl,rfl,rfl,rfl,rfl,trivial⟩ rfl rfl ⟨false,trivial⟩ fun b _=>?_
   cases b with
   | true =>
    refine ⟨rfl,?_⟩;refine dEr ?_;refine ⟨none,_,_,?_,.c,trivial,rfl,rfl⟩;refine dr ?_;trivial
   | false =>
    refine ⟨rfl,?_⟩;refine dEr ?_;refine ⟨none,_,_,?_,.n,trivial,rfl,rfl⟩;refine dr ?_;trivial
 have k2:mk≠2:=k2;have hpl:mh=Jy mh:=hms.plain k2;refine dr ?_;apply cP<;>intro k3
 ·have k3:mk=3:=k3;rcases hmw with rfl|rfl|rfl
  ·rw [show zJ { w with net:=w.net.eraseIdx k } ⟨mk,0,mh⟩=zR { w with net:=w.net.eraseIdx k,holds:=w.holds.set 0 (jd (hdW { w with net:=w.net.eraseIdx k } 0) mh.path mh.num),floors:=w.floors.set 0 (zP (flW { w with net:=w.net.eraseIdx k } 0) mh.num) } ⟨4,0,⟨mh.path,false,noE,mh.num,0⟩⟩ by unfold zJ; rw [if_neg k1,if_neg k2,if_pos k3]; exact congrArg (fun y=>zR _ ⟨4,0,y⟩) hpl];refine dr ?_;refine oW ((zom W0 { w with net:=w.net.eraseIdx k } mh.path mh.num h1w hz1).swp 11 1632) rfl ⟨congrArg some bx,rfl,rfl,rfl,rfl,rfl,rfl,rfl,trivial⟩ rfl rfl ⟨false,trivial⟩ fun b _=>?_
   cases b with
   | true =>
    refine ⟨rfl,?_⟩;refine dEr ?_;refine ⟨none,_,_,?_,.a,trivial,rfl,rfl⟩;refine dr ?_;trivial
   | false =>
    refine ⟨rfl,?_⟩;refine dEr ?_;refine ⟨none,_,_,?_,.n,trivial,rfl,rfl⟩;refine dr ?_;trivial
  ·rw [show zJ { w with net:=w.net.eraseIdx k } ⟨mk,1,mh⟩=zR { w with net:=w.net.eraseIdx k,holds:=w.holds.set 1 (jd (hdW { w with net:=w.net.eraseIdx k } 1) mh.path mh.num),floors:=w.floors.set 1 (zP (flW { w with net:=w.net.eraseIdx k } 1) mh.num) } ⟨4,1,⟨mh.path,false,noE,mh.num,0⟩⟩ by unfold zJ; rw [if_neg k1,if_neg k2,if_pos k3]; exact congrArg (fun y=>zR _ ⟨4,1,y⟩) hpl];refine dr ?_;refine oW ((zon W0 { w with net:=w.net.eraseIdx k } mh.path mh.num h1w hz1).swp 11 1632) rfl ⟨congrArg some bx,rfl,rfl,rfl,rfl,rfl,rfl,rfl,trivial⟩ rfl rfl ⟨false,trivial⟩ fun b _=>?_
   cases b with
   | true =>
    refine ⟨rfl,?_⟩;refine dEr ?_;refine ⟨none,_,_,?_,.b,trivial,rfl,rfl⟩;refine dr ?_;trivial
   | false =>
    refine ⟨rfl,?_⟩;refine dEr ?_;refine ⟨none,_,_,?_,.n,trivial,rfl,rfl⟩;refine dr ?_;trivial
  ·rw [show zJ { w with net:=w.net.eraseIdx k } ⟨mk,2,mh⟩=zR { w with net:=w.net.eraseIdx k,holds:=w.holds.set 2 (jd (hdW { w with net:=w.net.eraseIdx k } 2) mh.path mh.num),floors:=w.floors.set 2 (zP (flW { w with net:=w.net.eraseIdx k } 2) mh.num) } ⟨4,2,⟨mh.path,false,noE,mh.num,0⟩⟩ by unfold zJ; rw [if_neg k1,if_neg k2,if_pos k3]; exact congrArg (fun y=>zR _ ⟨4,2,y⟩) hpl];refine dr ?_;refine oW ((zoo W0 { w with net:=w.net.eraseIdx k } mh.path mh.num h1w hz1).swp 11 1632) rfl ⟨congrArg some bx,rfl,rfl,rfl,rfl,rfl,rfl,rfl,trivial⟩ rfl rfl ⟨false,trivial⟩ fun b _=>?_
   cases b with
   | true =>
    refine ⟨rfl,?_⟩;refine dEr ?_;refine ⟨none,_,_,?_,.c,trivial,rfl,rfl⟩;refine dr ?_;trivial
   | false =>
    refine ⟨rfl,?_⟩;refine dEr ?_;refine ⟨none,_,_,?_,.n,trivial,rfl,rfl⟩;refine dr ?_;trivial
 have k3:mk≠3:=k3;refine dr ?_;apply cP<;>intro k4
 ·have k4:mk=4:=k4;rw [show zJ { w with net:=w.net.eraseIdx k } ⟨mk,mw,mh⟩={ w with net:=w.net.eraseIdx k,leases:=jl w.leases mw mh.path mh.num } by unfold zJ; rw [if_neg k1,if_neg k2,if_neg k3,if_pos k4]];refine dr ?_;refine oW ((zoi W0 { w with net:=w.net.eraseIdx k } mw mh.path mh.num h1w hz1.l).swp 11 1632) rfl ⟨congrArg some bx,rfl,rfl,rfl,rfl,rfl,rfl,rfl,trivial⟩ rfl rfl ⟨false,trivial⟩ fun b _=>?_
  cases b with
  | true =>
   refine ⟨rfl,?_⟩;refine dEr ?_;refine ⟨none,_,_,?_,.l,trivial,rfl,rfl⟩;refine dr ?_;trivial
  | false =>
   refine ⟨rfl,?_⟩;refine dEr ?_;refine ⟨none,_,_,?_,.n,trivial,rfl,rfl⟩;refine dr ?_;trivial
 ·have k4:mk≠4:=k4;have h1:=hms.kind.1;have h2:=hms.kind.2;simp only at h1 h2;omega

def ziT:XC:=(.s (.r [.x1 1 0,.ex 2 (.alloc zW)]) (.s (.r [.l2 6 14 1,.ex 3 (.alloc zW),.s1 14 3 6]) (.s (.r [.f1 7 0 1,.l2 8 3 7,.c1 9 102 [8],.f1 10 0 3,.s1 3 10 9]) (.s (.r [.f1 11 5 1,.l1 12 1 11,.ex 13 (.app true 4 40 59 (.k .nil) 12),.f1 14 5 3,.s1 1 14 13]) (.s (.r [.f1 15 6 3,.nu (.st 1 15 (.k .nil))]) (.s (.s (.r [.f1 16 6 1,.l1 17 1 16,.n1 18 17,.m1 19 (.i 0)]) (.blk 0 (.loop (.s (.r [.b1 20 .lss 19 18]) (.s (.ce 20 0) (.s (.blk 1 (.s (.r [.i1 21 1 17 19,.l1 22 1 21,.a1 5 22 7 48]) (.d [.f1 23 6 3,.l1 24 1 23,.mv 25 5,.ex 26 (.app true 7 80 48 (.k .nil) 25),.ex 27 (.bsl 1 44 [26]),.ex 28 (.app false 1 24 44 24 27),.f1 29 6 3,.s1 1 29 28]))) (.r [.b1 30 .add 19 (.i 1),.mv 19 30]))))))) (.s (.r [.f1 31 7 1,.l1 32 1 31,.ex 33 (.app true 1 8 3 (.k .nil) 32),.f1 34 7 3,.s1 1 34 33]) (.s (.r [.f1 35 8 1,.l1 36 1 35,.ex 37 (.app true 9 96 67 (.k .nil) 36),.f1 38 8 3,.s1 1 38 37]) (.s (.r [.l2 39 14 3,.s1 14 2 39]) .ret)))))))))
theorem ziU:zc Tryz.prog [] 48=some (ziT.ac,[(.cell 2 true 14)],40):=by kernel_rfl
abbrev cwB (w:Wld) (x:PV):XB := .box [.c (zb w.over.base),.c (zA w.over.layers),.c (zf w.over.upper),I w.clock,I w.count,.own 208 w.leases.length,x,.c (j8 w.floors),.c (jR w.net),B w.waits,I w.op.kind,.c (CS w.op.path),.c (CS w.op.dest),.c (CS w.op.data)]
abbrev cwM (w:Wld) (k:Nat):XM:=match k with
 | 0=>[(16,wBx w),(32,zWB),(48,cwB w .nil),(208,.row (w.leases.map jB) 4 59)]
 | 1=>[(16,wBx w),(32,zWB),(48,cwB w (.own 6 1)),(208,.row (w.leases.map jB) 4 59),(6,.rowP [.own 7 (hdW w 0).length] 44),(7,.row ((hdW w 0).map zB) 7 48)]
 | 2=>[(16,wBx w),(32,zWB),(48,cwB w (.own 6 2)),(208,.row (w.leases.map jB) 4 59),(6,.rowP [.own 7 (hdW w 0).length,.own 8 (hdW w 1).length] 44),(7,.row ((hdW w 0).map zB) 7 48),(8,.row ((hdW w 1).map zB) 7 48)]
 | _=>[(16,wBx w),(32,zWB),(48,cwB w (.own 6 3)),(208,.row (w.leases.map jB) 4 59),(6,.rowP [.own 7 (hdW w 0).length,.own 8 (hdW w 1).length,.own 9 (hdW w 2).length] 44),(7,.row ((hdW w 0).map zB) 7 48),(8,.row ((hdW w 1).map zB) 7 48),(9,.row ((hdW w 2).map zB) 7 48)]
theorem zof (W0:World) (w:Wld) (h3:w.holds.length=3) (hz:WZ 1000000 w):zv Tryz.prog W0 48 [.c (eWldP w)] [] (fun _:Unit=>True) (fun _ => .agg [.c (zb w.over.base),.c (zA w.over.layers),.c (zf w.over.upper),I w.clock,I w.count,.own 208 w.leases.length,.own 6 3,.own 528 w.floors.length,.own 592 w.net.length,B w.waits,I w.op.kind,.c (CS w.op.path),.c (CS w.op.dest),.c (CS w.op.data)])
  (fun _=>[(208,.row (w.leases.map jB) 4 59),(6,.rowP [.own 7 (hdW w 0).length,.own 8 (hdW w 1).length,.own 9 (hdW w 2).length] 44),(7,.row ((hdW w 0).map zB) 7 48),(8,.row ((hdW w 1).map zB) 7 48),(9,.row ((hdW w 2).map zB) 7 48),(528,.row (w.floors.map CI) 1 3),(592,.row (w.net.map eMsg) 9 67)]):=by
 rw [YN h3];refine fW mixed ziU fun hg=>?_
 obtain ⟨hzo,hzh,_,hf,hn⟩:=hz;have hl:=hzh.l;have l0:=yM hzh 0;have l1:=yM hzh 1;have l2:=yM hzh 2;have e17:PV.c (jA w.holds) = .c (.row [ze (hdW w 0),ze (hdW w 1),ze (hdW w 2)]):=congrArg (fun l=>PV.c (jA l)) (holds3 h3);have e18:I (w.holds.length:Int)=I 3:=by rw [h3]; rfl
 refine dEr ?_;repeat ((first|refine c0 (zdR W0 _ (hzo.mono (by omega))) rfl ?_|refine oB (by simp; omega) ?_|refine oB (by simp) ?_); first|refine dEr ?_|exact dz)
 refine lq (σ:=Nat) (fun k=>[(1,.ptr 16 0),(2,.ptr 32 0),(3,.ptr 48 0),(17,.c (.row [ze (hdW w 0),ze (hdW w 1),ze (hdW w 2)])),(18,I 3),(19,I k)]) (fun k=>cwM w k) (fun k=>k≤3) (fun k=>3 - k) 0 (by simp) ?_ ?_
 ·refine zo.s (z:=none) ?_;refine dr ?_;repeat (refine oB (by first|exact e17|exact e18) ?_; first|refine dr ?_|exact dz)
  trivial
 intro k hk;obtain rfl|rfl|rfl|rfl:k=0∨k=1∨k=2∨k=3:=by omega
 ·refine dr ?_;apply cP<;>intro h1;rotate_left
  ·omega
  refine dr ?_;repeat ((first|refine ⟨0,rfl,_,rfl,?_⟩|refine oB (by simp; omega) ?_|refine oB (by simp) ?_|refine oB (by decide) ?_); first|refine dr ?_|exact dz)
  refine ⟨1,by omega,by omega,?_⟩;refine zj.ren 7 416 rfl rfl (z:=some 3) ?_;refine zj.ren 6 448 rfl rfl (z:=none) ?_;refine dr ?_;repeat (refine oB (by simp) ?_; first|refine dr ?_|exact dz)
  trivial
 ·refine dr ?_;apply cP<;>intro h1;rotate_left
  ·omega
  refine dr ?_;repeat ((first|refine ⟨1,rfl,_,rfl,?_⟩|refine oB (by simp; omega) ?_|refine oB (by simp) ?_|refine oB (by decide) ?_); first|refine dr ?_|exact dz)
  refine ⟨2,by omega,by omega,?_⟩;refine zj.ren 8 416 rfl rfl (z:=none) ?_;refine dr ?_;repeat (refine oB (by simp) ?_; first|refine dr ?_|exact dz)
  trivial
 ·refine dr ?_;apply cP<;>intro h1;rotate_left
  ·omega
  refine dr ?_;repeat ((first|refine ⟨2,rfl,_,rfl,?_⟩|refine oB (by simp; omega) ?_|refine oB (by simp) ?_|refine oB (by decide) ?_); first|refine dr ?_|exact dz)
  refine ⟨3,by omega,by omega,?_⟩;refine zj.ren 9 416 rfl rfl (z:=none) ?_;refine dr ?_;repeat (refine oB (by simp) ?_; first|refine dr ?_|exact dz)
  trivial
 ·refine dr ?_;apply cP<;>intro h1
  ·omega
  refine dr ?_;repeat ((first|refine oB (by simp; omega) ?_|refine oB (by simp) ?_); first|refine dr ?_|exact dz)
  refine ⟨none,_,_,?_,(),trivial,rfl,rfl⟩;refine dr ?_;repeat (refine oB (by simp) ?_; first|refine dr ?_|exact dz)
  trivial
theorem zog (W0:World) (w:Wld) (h3:w.holds.length=3) (hz:WZ 1000000 w):zv Tryz.prog W0 48 [.c (eWldP w)] [] (fun _:Unit=>True) (fun _ => .agg (wCx 5 11 w)) (fun _=>wRx w) :=
 (((zof W0 w h3 hz).swp 208 5).swp 528 10).swp 592 11
def ziD:XC:=(.s (.r [.x1 2 0,.x1 3 1,.ex 4 (.alloc zW),.m1 5 (.i 0)]) (.s (.s (.r [.l2 10 14 2,.c1 11 28 [10],.u1 12 11]) (.cnd 12 (.s (.r [.ex 13 (.build zW []),.s1 14 4 13,.m1 5 (.i 1)]) .ret) .skip)) (.s (.r [.l2 14 14 2,.o1 15 48 [14],.ex 6 (.alloc zW),.s1 14 6 15]) (.s (.s (.r [.f1 16 0 3,.l1 17 1 16]) (.blk 0 (.s (.r [.b1 19 .eql 17 (.i 1),.mv 18 19]) (.cnd 18 (.s (.s (.r [.f1 20 1 3,.l1 21 1 20,.c1 22 49 [21],.u1 23 22,.mv 24 23,.h1 25 2 3 24,.h2 26 1 25 24,.gf 27 (.call 25 [26]) 24,.gf 28 (.un .not 27) 24,.p1 29 24 28]) (.cnd 29 (.s (.r [.l2 30 14 6,.s1 14 4 30,.m1 5 (.i 1)]) .ret) .skip)) (.s (.r [.f1 31 1 3,.l1 32 1 31,.f1 33 2 3,.l1 34 1 33,.ex 35 (.build [sE,(B false),sE,(B false),sE,(I 0),(I 0)] [(0,(1,34))]),.ex 36 (.build [(I 0),(I 0),sE,(B false),sE,(B false),sE,(I 0),(I 0)] [(0,(1,(.i 1))),(1,(1,32)),(2,(7,35))]),.o1 37 50 [6,36]]) (.s (.r [.l2 38 14 6,.s1 14 4 38,.m1 5 (.i 0)]) .ret))) (.s (.r [.b1 40 .eql 17 (.i 2),.mv 39 40]) (.cnd 39 (.s (.r [.f1 41 3 3,.l2 42 4 41,.o1 43 51 [6,42],.mv 7 43]) (.s (.r [.l2 44 14 6,.mv 45 7,.s1 14 4 44,.mv 5 45]) .ret)) (.s (.r [.b1 47 .eql 17 (.i 3),.mv 46 47]) (.cnd 46 (.s (.r [.o1 48 52 [6],.mv 8 48]) (.s (.r [.l2 49 14 6,.mv 50 8,.s1 14 4 49,.mv 5 50]) .ret)) (.s (.r [.b1 52 .eql 17 (.i 4),.mv 51 52]) (.cnd 51 (.s (.r [.o1 53 53 [6]]) (.s (.r [.l2 54 14 6,.s1 14 4 54,.m1 5 (.i 0)]) .ret)) (.s (.s (.r [.b1 56 .eql 17 (.i 5),.mv 55 56]) (.cnd 55 .skip (.s (.r [.b1 57 .eql 17 (.i 6),.mv 55 57]) (.cnd 55 .skip (.r [.b1 58 .eql 17 (.i 7),.mv 55 58]))))) (.cnd 55 (.s (.r [.f1 59 0 3,.l1 60 1 59,.f1 61 7 3,.l1 62 1 61,.o1 63 54 [6,60,62],.mv 9 63]) (.s (.r [.l2 64 14 6,.mv 65 9,.s1 14 4 64,.mv 5 65]) .ret)) .skip)))))))))))) (.s (.r [.l2 66 14 6,.s1 14 4 66,.m1 5 (.i 1)]) .ret)))))
theorem ziE:zc Tryz.prog [48,50,51,52,53,54] 16=some (ziD.ac,[(.cell 4 true 14),(.t 5)],67):=by kernel_rfl
set_option maxHeartbeats 2000000 in
theorem zov (W0:World) (hM:HM W0) (w:Wld) (ev:Ev) (hz:HZ 100000 w):Fn Tryz.prog W0 16 [zT w,eEv ev] (.c (.tup [zT (wDo w ev).1,CI (wDo w ev).2])) []:=by
 obtain ⟨ek,ew,ep,eo,pos⟩:=ev;show Fn _ _ _ [zT w,.agg [CI ek,CI ew,CS ep,CI eo.kind,CS eo.path,CS eo.dest,CS eo.data,CI pos]] _ _;refine fX mixed ziE fun hg=>?_
 refine dEr ?_;repeat (refine c0 (YY W0 hM w) rfl ?_; first|refine dEr ?_|exact dz)
 apply cP<;>intro h1
 ·refine dr ?_;unfold wDo; rw [if_neg h1]<;>rfl
 rw [zc0 h1];have hx:=h1.ev ⟨ek,ew,ep,eo,pos⟩;rw [← YN hx.pl.hl];clear hx;have hcw:=zog W0 w h1.pl.hl (h1.wz (hz.mono (by omega)) (by omega));rw [YN h1.pl.hl] at hcw;have hn:w.net.length≤1000:=by have:=h1.pl.nl; omega
 have hz1:HZ 1000000 w:=hz.mono (by omega);refine dr ?_;refine oW hcw rfl trivial rfl rfl ⟨(),trivial⟩ fun _ _=>⟨rfl,?_⟩
 refine dEr ?_;apply cP<;>intro k1
 ·have k1:ek=1:=k1;refine dEr ?_;repeat (refine c0 (zbx W0 _) rfl ?_; first|refine dEr ?_|exact dz)
  apply cP<;>intro a1
  ·have e:evW w ⟨ek,ew,ep,eo,pos⟩=(w,1):=by unfold evW; rw [if_pos k1,if_neg (fun hh=>a1 hh.1)]
   rw [e];refine dEr ?_;rfl
  refine dEr ?_;repeat (refine c0 (qK W0 hM _) rfl ?_; first|refine dEr ?_|exact dz)
  apply cP<;>intro a2
  ·have e:evW w ⟨ek,ew,ep,eo,pos⟩=(w,1):=by unfold evW; rw [if_pos k1,if_neg (fun hh=>by rw [hh.2] at a2; cases a2)]
   rw [e];refine dEr ?_;rfl
  have e:evW w ⟨ek,ew,ep,eo,pos⟩=(zR w ⟨1,ew,⟨ep,false,noE,0,0⟩⟩,0):=by unfold evW; rw [if_pos k1,if_pos ⟨a1,a2⟩]
  rw [e];refine dr ?_;refine oW ((yZ W0 w ⟨1,ew,⟨ep,false,noE,0,0⟩⟩ hn).swp 4 96) rfl ⟨rfl,rfl,rfl,rfl,rfl,rfl,rfl,rfl,trivial⟩ rfl rfl ⟨(),trivial⟩ fun _ _=>⟨rfl,?_⟩
  refine dEr ?_;rfl
 have k1:ek≠1:=k1;refine dr ?_;apply cP<;>intro k2
 ·have k2:ek=2:=k2;have e:evW w ⟨ek,ew,ep,eo,pos⟩=qo w eo:=by unfold evW; rw [if_neg k1,if_pos k2]
  rw [e];refine dr ?_;refine oW ((zpG W0 hM w eo h1 hz1.l).swp 4 96) rfl ⟨rfl,rfl,rfl,rfl,rfl,rfl,rfl,rfl,trivial⟩ rfl rfl ⟨(),trivial⟩ fun _ _=>⟨rfl,?_⟩
  refine dEr ?_;rfl
 have k2:ek≠2:=k2;refine dr ?_;apply cP<;>intro k3
 ·have k3:ek=3:=k3;have e:evW w ⟨ek,ew,ep,eo,pos⟩=tryW w:=by unfold evW; rw [if_neg k1,if_neg k2,if_pos k3]
  rw [e];refine dr ?_;refine oW ((zek W0 hM w h1 hz1.l).swp 4 96) rfl ⟨rfl,rfl,rfl,rfl,rfl,rfl,rfl,rfl,trivial⟩ rfl rfl ⟨(),trivial⟩ fun _ _=>⟨rfl,?_⟩
  refine dEr ?_;rfl
 have k3:ek≠3:=k3;refine dr ?_;apply cP<;>intro k4
 ·have k4:ek=4:=k4;have e:evW w ⟨ek,ew,ep,eo,pos⟩=(yB w,0):=by unfold evW; rw [if_neg k1,if_neg k2,if_neg k3,if_pos k4]
  rw [e];refine dr ?_;refine oW ((zpE W0 w h1 hz1.l).swp 4 96) rfl ⟨rfl,rfl,rfl,rfl,rfl,rfl,rfl,rfl,trivial⟩ rfl rfl ⟨(),trivial⟩ fun _ _=>⟨rfl,?_⟩
  refine dEr ?_;rfl
 have k4:ek≠4:=k4;refine dr ?_;apply cP<;>intro k5
 ·have k5:ek=5:=k5;have e:evW w ⟨ek,ew,ep,eo,pos⟩=netW w ⟨ek,0,[],ji,pos⟩:=by unfold evW; rw [if_neg k1,if_neg k2,if_neg k3,if_neg k4,if_pos (show 5≤ek∧ek≤7 by omega)]; rfl
  rw [e];refine dr ?_;apply cP<;>intro kk;rotate_left
  ·exact absurd k5 kk
  refine dr ?_;refine oW ((zbv W0 hM w ek pos h1 hz1 (by omega)).swp 4 96) rfl ⟨rfl,rfl,rfl,rfl,rfl,rfl,rfl,rfl,trivial⟩ rfl rfl ⟨.o,trivial⟩ fun d _=>?_
  cases d<;>refine ⟨rfl,?_⟩
  ·refine dEr ?_;rfl
  ·refine dEr ?_;rfl
  ·refine dEr ?_;rfl
  ·refine dEr ?_;rfl
  ·refine dEr ?_;rfl
  ·refine dEr ?_;rfl
 have k5:ek≠5:=k5;refine dr ?_;apply cP<;>intro k6
 ·have k6:ek=6:=k6;have e:evW w ⟨ek,ew,ep,eo,pos⟩=netW w ⟨ek,0,[],ji,pos⟩:=by unfold evW; rw [if_neg k1,if_neg k2,if_neg k3,if_neg k4,if_pos (show 5≤ek∧ek≤7 by omega)]; rfl
  rw [e];refine dr ?_;apply cP<;>intro kk;rotate_left
  ·exact absurd k6 kk
  refine dr ?_;refine oW ((zbv W0 hM w ek pos h1 hz1 (by omega)).swp 4 96) rfl ⟨rfl,rfl,rfl,rfl,rfl,rfl,rfl,rfl,trivial⟩ rfl rfl ⟨.o,trivial⟩ fun d _=>?_
  cases d<;>refine ⟨rfl,?_⟩
  ·refine dEr ?_;rfl
  ·refine dEr ?_;rfl
  ·refine dEr ?_;rfl
  ·refine dEr ?_;rfl
  ·refine dEr ?_;rfl
  ·refine dEr ?_;rfl
 have k6:ek≠6:=k6;refine dr ?_;apply cP<;>intro k7
 ·have k7:ek=7:=k7;have e:evW w ⟨ek,ew,ep,eo,pos⟩=netW w ⟨ek,0,[],ji,pos⟩:=by unfold evW; rw [if_neg k1,if_neg k2,if_neg k3,if_neg k4,if_pos (show 5≤ek∧ek≤7 by omega)]; rfl
  rw [e];refine dr ?_;refine oW ((zbv W0 hM w ek pos h1 hz1 (by omega)).swp 4 96) rfl ⟨rfl,rfl,rfl,rfl,rfl,rfl,rfl,rfl,trivial⟩ rfl rfl ⟨.o,trivial⟩ fun d _=>?_
  cases d<;>refine ⟨rfl,?_⟩
  ·refine dEr ?_;rfl
  ·refine dEr ?_;rfl
  ·refine dEr ?_;rfl
  ·refine dEr ?_;rfl
  ·refine dEr ?_;rfl
  ·refine dEr ?_;rfl
 have k7:ek≠7:=k7;have e:evW w ⟨ek,ew,ep,eo,pos⟩=(w,1):=by unfold evW; rw [if_neg k1,if_neg k2,if_neg k3,if_neg k4,if_neg (show ¬ (5≤ek∧ek≤7) by omega)]
 rw [e];refine dEr ?_;rfl

def zmg:XC:=(.s (.r [.ex 6 (.alloc zV)]) (.s (.r [.mv 8 0,.o1 9 86 [8],.mv 7 9]) (.cut (.s (.r [.mv 10 1,.n1 11 10,.b1 12 .gtr 11 (.i 0),.mv 13 12,.g3 14 0 13,.gt 15 (.opn 38 [14,(.i 2)]) 13,.gt 16 (.bin .eql 15 (.i 0)) 13,.p2 17 13 16]) (.cnd 17 (.r [.mv 18 1,.mv 19 0,.mv 20 1,.n1 21 20,.o1 22 38 [19,21],.i1 23 3 18 22,.f1 24 0 23,.l1 25 1 24,.mv 7 25]) .skip)) (.s (.s (.r [.mv 26 0,.o1 27 38 [26,(.i 16)]]) (.blk 0 (.s (.s (.r [.b1 29 .eql 27 (.i 0),.mv 28 29]) (.cnd 28 .skip (.s (.r [.b1 30 .eql 27 (.i 1),.mv 28 30]) (.cnd 28 .skip (.r [.b1 31 .eql 27 (.i 2),.mv 28 31]))))) (.cnd 28 (.s (.r [.mv 32 0,.o1 33 38 [32,(.i 3)],.mv 34 7,.ex 35 (.build zV [(0,(1,(.i 1))),(1,(1,33)),(2,(1,34))]),.s1 8 6 35]) .ret) (.s (.s (.r [.b1 37 .eql 27 (.i 3),.mv 36 37]) (.cnd 36 .skip (.r [.b1 38 .eql 27 (.i 4),.mv 36 38]))) (.cnd 36 (.s (.r [.mv 39 0,.mv 40 1,.o1 41 37 [39,40],.ex 42 (.build zV [(0,(1,(.i 2))),(3,(4,41))]),.s1 8 6 42]) .ret) (.s (.r [.b1 44 .eql 27 (.i 5),.mv 43 44]) (.cnd 43 (.s (.r [.ex 45 (.build zV [(0,(1,(.i 3)))]),.s1 8 6 45]) .ret) (.s (.r [.b1 47 .eql 27 (.i 6),.mv 46 47]) (.cnd 46 (.s (.r [.ex 48 (.build zV [(0,(1,(.i 4)))]),.s1 8 6 48]) .ret) (.s (.r [.b1 50 .eql 27 (.i 7),.mv 49 50]) (.cnd 49 (.s (.r [.mv 51 0,.mv 52 2,.b1 53 .add 52 (.i 1),.o1 54 38 [51,53],.ex 55 (.build zV [(0,(1,(.i 6))),(7,(1,54))]),.s1 8 6 55]) .ret) (.s (.r [.b1 57 .eql 27 (.i 8),.mv 56 57]) (.cnd 56 (.s (.r [.mv 58 0,.mv 59 2,.b1 60 .add 59 (.i 1),.o1 61 38 [58,60],.ex 62 (.build zV [(0,(1,(.i 7))),(7,(1,61))]),.s1 8 6 62]) .ret) (.s (.r [.b1 64 .eql 27 (.i 9),.mv 63 64]) (.cnd 63 (.s (.r [.mv 65 0,.ex 66 (.bsl 1 3 [(.i 0),(.i 8),(.i 1),(.i 5),(.i 2)]),.o1 67 68 [65,66],.mv 68 0,.ex 69 (.bsl 1 3 [(.k (.c (.sc (.int .i64 (.negSucc 0))))),(.i 3),(.i 0)]),.o1 70 68 [68,69],.mv 71 0,.ex 72 (.bsl 1 9 [(.s [47]),(.s []),(.s [47,97])]),.o1 73 94 [71,72],.mv 74 0,.ex 75 (.bsl 1 3 [(.k (.c (.sc (.int .i64 (.negSucc 0))))),(.i 12),(.i 0)]),.o1 76 68 [74,75],.ex 77 (.build zV [(0,(1,67)),(1,(1,70)),(2,(1,73)),(7,(1,76))]),.s1 8 6 77]) .ret) .skip)))))))))))))))) (.s (.r [.mv 78 0,.mv 79 2,.c1 80 138 [(.i 1),79],.o1 81 38 [78,80],.ex 82 (.build zV [(0,(1,(.i 5))),(7,(1,81))]),.s1 8 6 82]) .ret)))))
theorem zmh:zc Tryz.prog [38,68,94,86,37] 82=some (zmg.ac,[(.cell 6 true 8)],83):=by kernel_rfl
theorem zoY (W0:World) (s:Str) (p:Int) (t:List Ent) (n:Int) (hs:s.length≤2000) (hp:0≤p∧p≤90000) (ht:t.length≤100000) (hn:0≤n∧n≤100000) :
  zv Tryz.prog W0 82 [.ptr 1 0,.c (zb t),.c (CI n)] (Rd s p) (fun x:Ev × Int=>p≤x.2∧x.2≤p+12) (fun x => .c (eEv x.1)) (fun x=>Rd s x.2):=by
 refine fW mixed zmh fun hg=>?_
 refine dr ?_;refine oW (qT W0 s p hs (by omega)) rfl ⟨rfl,trivial⟩ rfl rfl ⟨_,List.mem_cons_self⟩ fun x0 hx0=>⟨rfl,?_⟩
 refine dEr ?_;refine JO (fun (x:Str) (q:Int)=>[(0,.ptr 1 0),(1,.c (zb t)),(2,.c (CI n)),(6,.ptr 96 0),(7,.c (CS x))]) (fun x q=>[(1,rdB s q),(96,.box [.c (CI 0),.c (CI 0),.c (CS []),.c (CI 0),.c (CS []),.c (CS []),.c (CS []),.c (CI 0)])]) (fun x q=>p≤q∧q≤p+3) ?_ ?_
 ·refine dr ?_;apply cP<;>intro h1
  ·refine dr ?_;refine oW (zU W0 s (p+1) 2 hs (by omega) (by omega)) rfl ⟨rfl,trivial⟩ rfl rfl ⟨0,by omega,by omega⟩ fun v hv=>⟨rfl,?_⟩
   refine dEr ?_;apply cP<;>intro h2
   ·refine dEr ?_;refine oW (zU W0 s (p+1+1) t.length hs (by omega) (by omega)) rfl ⟨rfl,trivial⟩ rfl rfl ⟨0,by omega,by omega⟩ fun k2 hk2=>⟨rfl,?_⟩
    refine dEr ?_;repeat (refine aX hk2.1 (hk2.2 (by omega)) fun e he=>?_; first|refine dEr ?_|exact dz)
    refine ⟨e.path,p+1+1+1,⟨by omega,by omega⟩,?_⟩;refine dr ?_;trivial
   ·refine dEr ?_;refine ⟨x0,p+1+1,⟨by omega,by omega⟩,?_⟩;refine dr ?_;trivial
  ·refine dEr ?_;refine ⟨x0,p+1,⟨by omega,by omega⟩,?_⟩;refine dr ?_;trivial
 rintro x q ⟨hq1,hq2⟩;refine dr ?_;refine oW (zU W0 s q 16 hs (by omega) (by omega)) rfl ⟨rfl,trivial⟩ rfl rfl ⟨0,by omega,by omega⟩ fun k hk=>⟨rfl,?_⟩
 refine dEr ?_;by_cases a:k=0∨k=1∨k=2
 ·rcases a with rfl|rfl|rfl
  ·refine dr ?_;apply cP<;>intro h1;rotate_left
   ·exact absurd rfl h1
   refine dr ?_;apply cP<;>intro h1;rotate_left
   ·exact absurd rfl h1
   refine dr ?_;refine oW (zU W0 s (q+1) 3 hs (by omega) (by omega)) rfl ⟨rfl,trivial⟩ rfl rfl ⟨0,by omega,by omega⟩ fun v hv=>⟨rfl,?_⟩
   refine dEr ?_;refine ⟨none,_,_,?_,(⟨1,v,x,ji,0⟩,q+1+1),⟨by simp only; omega,by simp only; omega⟩,rfl,rfl⟩;refine dr ?_;trivial
  ·refine dr ?_;apply cP<;>intro h1
   ·exact absurd h1 (by decide)
   refine dr ?_;apply cP<;>intro h1;rotate_left
   ·exact absurd rfl h1
   refine dr ?_;apply cP<;>intro h1;rotate_left
   ·exact absurd rfl h1
   refine dr ?_;refine oW (zU W0 s (q+1) 3 hs (by omega) (by omega)) rfl ⟨rfl,trivial⟩ rfl rfl ⟨0,by omega,by omega⟩ fun v hv=>⟨rfl,?_⟩
   refine dEr ?_;refine ⟨none,_,_,?_,(⟨1,v,x,ji,0⟩,q+1+1),⟨by simp only; omega,by simp only; omega⟩,rfl,rfl⟩;refine dr ?_;trivial
  ·refine dr ?_;apply cP<;>intro h1
   ·exact absurd h1 (by decide)
   refine dr ?_;apply cP<;>intro h1
   ·exact absurd h1 (by decide)
   refine dr ?_;apply cP<;>intro h1;rotate_left
   ·exact absurd rfl h1
   refine dr ?_;refine oW (zU W0 s (q+1) 3 hs (by omega) (by omega)) rfl ⟨rfl,trivial⟩ rfl rfl ⟨0,by omega,by omega⟩ fun v hv=>⟨rfl,?_⟩
   refine dEr ?_;refine ⟨none,_,_,?_,(⟨1,v,x,ji,0⟩,q+1+1),⟨by simp only; omega,by simp only; omega⟩,rfl,rfl⟩;refine dr ?_;trivial
 refine dr ?_;apply cP<;>intro h1
 ·omega
 refine dr ?_;apply cP<;>intro h2
 ·omega
 refine dr ?_;apply cP<;>intro h3
 ·omega
 clear h1 h2 h3;refine dr ?_;by_cases a:k=3
 ·subst a;apply cP<;>intro h1;rotate_left
  ·exact absurd rfl h1
  refine dr ?_;apply cP<;>intro h1;rotate_left
  ·exact absurd rfl h1
  refine dr ?_;refine oW (Y0 W0 s (q+1) t hs (by omega) (by omega)) rfl ⟨rfl,trivial⟩ rfl rfl ⟨((⟨0,[],[],[]⟩,q+1):Op × Int),by simp only; omega,by simp only; omega⟩ fun y hy=>⟨rfl,?_⟩
  obtain ⟨op,r⟩:=y;obtain ⟨hr1,hr2⟩:q+1≤r∧r≤q+1+8:=hy;refine dEr ?_;refine ⟨none,_,_,?_,(⟨2,0,[],op,0⟩,r),⟨by simp only; omega,by simp only; omega⟩,rfl,rfl⟩;refine dr ?_;trivial
 apply cP<;>intro h1
 ·exact absurd h1 a
 refine dr ?_;apply cP<;>intro h1
 ·refine dr ?_;refine oW (Y0 W0 s (q+1) t hs (by omega) (by omega)) rfl ⟨rfl,trivial⟩ rfl rfl ⟨((⟨0,[],[],[]⟩,q+1):Op × Int),by simp only; omega,by simp only; omega⟩ fun y hy=>⟨rfl,?_⟩
  obtain ⟨op,r⟩:=y;obtain ⟨hr1,hr2⟩:q+1≤r∧r≤q+1+8:=hy;refine dEr ?_;refine ⟨none,_,_,?_,(⟨2,0,[],op,0⟩,r),⟨by simp only; omega,by simp only; omega⟩,rfl,rfl⟩;refine dr ?_;trivial
 refine dr ?_;apply cP<;>intro h2
 ·refine dr ?_;refine ⟨none,_,_,?_,(⟨3,0,[],ji,0⟩,q+1),⟨by simp only; omega,by simp only; omega⟩,rfl,rfl⟩;refine dr ?_;trivial
 refine dr ?_;apply cP<;>intro h3
 ·refine dr ?_;refine ⟨none,_,_,?_,(⟨4,0,[],ji,0⟩,q+1),⟨by simp only; omega,by simp only; omega⟩,rfl,rfl⟩;refine dr ?_;trivial
 refine dr ?_;apply cP<;>intro h4
 ·refine dr ?_;repeat (refine oB (by omega) ?_; first|refine dr ?_|exact dz)
  refine oW (zU W0 s (q+1) (n+1) hs (by omega) (by omega)) rfl ⟨rfl,trivial⟩ rfl rfl ⟨0,by omega,by omega⟩ fun v hv=>⟨rfl,?_⟩
  refine dEr ?_;refine ⟨none,_,_,?_,(⟨6,0,[],ji,v⟩,q+1+1),⟨by simp only; omega,by simp only; omega⟩,rfl,rfl⟩;refine dr ?_;trivial
 refine dr ?_;apply cP<;>intro h5
 ·refine dr ?_;repeat (refine oB (by omega) ?_; first|refine dr ?_|exact dz)
  refine oW (zU W0 s (q+1) (n+1) hs (by omega) (by omega)) rfl ⟨rfl,trivial⟩ rfl rfl ⟨0,by omega,by omega⟩ fun v hv=>⟨rfl,?_⟩
  refine dEr ?_;refine ⟨none,_,_,?_,(⟨7,0,[],ji,v⟩,q+1+1),⟨by simp only; omega,by simp only; omega⟩,rfl,rfl⟩;refine dr ?_;trivial
 refine dr ?_;apply cP<;>intro h6
 ·refine dr ?_;refine oW (yi W0 s (q+1) [0,8,1,5,2] hs (by omega) (by decide)) rfl ⟨rfl,trivial⟩ rfl rfl ⟨0,by decide⟩ fun v1 _=>⟨rfl,?_⟩
  refine dEr ?_;refine oW (yi W0 s (q+1+1) [-1,3,0] hs (by omega) (by decide)) rfl ⟨rfl,trivial⟩ rfl rfl ⟨0,by decide⟩ fun v2 _=>⟨rfl,?_⟩
  refine dEr ?_;refine oW (f_of W0 s (q+1+1+1) [[47],[],[47,97]] hs (by omega) (by decide)) rfl ⟨rfl,trivial⟩ rfl rfl ⟨_,List.mem_cons_self⟩ fun v3 _=>⟨rfl,?_⟩
  refine dEr ?_;refine oW (yi W0 s (q+1+1+1+1) [-1,12,0] hs (by omega) (by decide)) rfl ⟨rfl,trivial⟩ rfl rfl ⟨0,by decide⟩ fun v4 _=>⟨rfl,?_⟩
  refine dEr ?_;refine ⟨none,_,_,?_,(⟨v1,v2,v3,ji,v4⟩,q+1+1+1+1+1),⟨by simp only; omega,by simp only; omega⟩,rfl,rfl⟩;refine dr ?_;trivial
 have hm:zP 1 n≤100000:=by unfold zP; split<;>omega
 refine dr ?_;repeat (refine c0 (zdZ W0 1 n) rfl ?_; first|refine dr ?_|exact dz)
 refine oW (zU W0 s (q+1) (zP 1 n) hs (by omega) (by omega)) rfl ⟨rfl,trivial⟩ rfl rfl ⟨0,by omega,by omega⟩ fun v hv=>⟨rfl,?_⟩
 refine dEr ?_;refine ⟨none,_,_,?_,(⟨5,0,[],ji,v⟩,q+1+1),⟨by simp only; omega,by simp only; omega⟩,rfl,rfl⟩;refine dr ?_;trivial
def zmV:XC:=(.s (.r [.ex 2 (.alloc zW)]) (.s (.r [.mv 8 0,.o1 9 88 [8],.ex 3 (.alloc [.nil,.nil,.nil]),.s1 3 3 9]) (.cut (.s (.r [.l2 10 3 3,.c1 11 89 [10],.u1 12 11]) (.cnd 12 (.r [.ex 13 (.build [.nil,.nil,.nil] []),.s1 3 3 13]) .skip)) (.s (.r [.l2 14 3 3,.o1 15 90 [14],.ex 4 (.alloc zW),.s1 14 4 15]) (.s (.s (.r [.mv 16 0,.ex 17 (.bsl 1 3 [(.i 12),(.i 24),(.i 36),(.i 48),(.i 6),(.i 0)]),.o1 18 68 [16,17],.mv 5 18]) (.blk 0 (.loop (.s (.s (.r [.mv 19 5,.b1 20 .gtr 19 (.i 0)]) (.ce 20 0)) (.s (.blk 1 (.s (.r [.f1 24 0 4,.l2 25 3 24,.c1 26 36 [25],.mv 23 26,.e1 27 23 0,.e1 28 23 1,.a1 6 27 3 46,.mv 7 28]) (.d [.exo [1,4,5,6,592] 30 (.ld true 14 4),.mv 31 0,.mv 32 6,.f1 33 8 4,.exo [1,4,5,6,592] 34 (.ld false 1 33),.n1 35 34,.exo [1,4,5,6,592] 36 (.opn 82 [31,32,35]),.exo [1,4,5,6,592] 37 (.opn 80 [30,36]),.mv 29 37,.e1 38 29 0,.e1 39 29 1,.s1 14 4 38]))) (.r [.mv 21 5,.b1 22 .sub 21 (.i 1),.mv 5 22])))))) (.s (.r [.l2 40 14 4,.o1 41 81 [40],.s1 14 2 41]) .ret))))))
theorem zmW:zc Tryz.prog [88,68,82,80,90,81,1000001,1000004,1000005,1000006,1000592] 35=some (zmV.ac,[(.cell 2 true 14)],42):=by kernel_rfl
structure WR (n:Nat) (w:Wld):Prop where
 z:WZ (100+n) w
 h:w.holds.length=3
 f:w.floors.length=3
 ck : -(20000+20000 * (n:Int))≤w.clock∧w.clock≤20000+20000 * n
 ct : -(20000+20000 * (n:Int))≤w.count∧w.count≤20000+20000 * n
theorem WG.wr {n:Nat} {w:Wld} (h:WG w) (hz:HZ n w) (hn:n≤100):WR 0 w:=⟨h.wz (hz.mono (by omega)) (by omega),h.pl.hl,h.pl.fl,by have:=h.pl.ck; omega,by have:=h.pl.ct; omega⟩
theorem WZ.mono {n m:Nat} {w:Wld} (h:WZ n w) (hm:n≤m):WZ m w:=⟨h.o.mono hm,h.z.mono hm,by have:=h.h; omega,by have:=h.f; omega,by have:=h.t; omega⟩
theorem WR.mono {n m:Nat} {w:Wld} (h:WR n w) (hm:n≤m):WR m w:=⟨h.z.mono (by omega),h.h,h.f,by have:=h.ck; omega,by have:=h.ct; omega⟩
theorem zfJ:oOk noO=true:=by decide +kernel
theorem zpe (W0:World) (s:Str) (p:Int) (hs:s.length≤2000) (hp:0≤p∧p≤20000) :
  zv Tryz.prog W0 35 [.ptr 1 0] (Rd s p) (fun x:Wld × Int=>WR 0 x.1∧p≤x.2∧x.2≤p+1200) (fun x => .c (zT x.1)) (fun x=>Rd s x.2):=by
 refine fW mixed zmW fun hg=>?_
 refine dr ?_;refine oW (zoR W0 s p hs (by omega)) rfl ⟨rfl,trivial⟩ rfl rfl ⟨(noO,p),OS.no,by simp,by simp; omega⟩ fun x hx=>⟨rfl,?_⟩
 obtain ⟨o0,q0⟩:=x;obtain ⟨a1,a2,a3⟩:OS o0∧p≤q0∧q0≤p+600:=hx;refine dEr ?_;refine cutz 3 (fun (o:Over)=>[(0,.ptr 1 0),(2,.ptr 32 0),(3,.ptr 48 0)]) (fun o=>[(1,rdB s q0),(32,zWB),(48,ovB o)]) (fun o=>OS o∧oOk o=true) ?_ ?_
 ·refine dEr ?_;repeat (refine c0 (JY W0 o0) rfl ?_; first|refine dEr ?_|exact dz)
  apply cP<;>intro h1
  ·refine dr ?_;refine ⟨noO,⟨OS.no,zfJ⟩,?_⟩;refine zj.trans (F1:=_) (m1:=_) (zj.nilC 48 [.nil,.nil,.nil] [.c (.row []),.c (.row []),.c (.row [])] rfl ⟨nc1,nc1,nc1,trivial⟩) (z:=none) ?_;refine dr ?_;trivial
  ·refine dr ?_;refine ⟨o0,⟨a1,h1⟩,?_⟩;refine zo.s (z:=none) ?_;refine dr ?_;trivial
 rintro o ⟨ho,h1⟩;have g0:WG (newW o):=WG.new h1;refine dr ?_;refine oW (zpB W0 o (ho.oz.mono (by omega))) rfl trivial rfl rfl ⟨(),trivial⟩ fun _ _=>⟨rfl,?_⟩
 refine dEr ?_;refine oW (yi W0 s q0 [12,24,36,48,6,0] hs (by omega) (by decide)) rfl ⟨rfl,trivial⟩ rfl rfl ⟨0,by decide⟩ fun n hn=>⟨rfl,?_⟩
 have hn2:0≤n∧n≤48:=by
  simp only [List.mem_cons,List.not_mem_nil,or_false] at hn;omega
 refine dEr ?_;refine lq3 (fun (x:Wld) (i q:Int)=>[(0,.ptr 1 0),(2,.ptr 32 0),(3,.ptr 48 0),(4,.ptr 64 0),(5,.c (CI i))]) (fun x _ q=>[(1,rdB s q),(32,zWB),(48,ovB o),(64,.box (wCo 6 x))]++wMn 6 x)
  (fun x i q=>0≤i∧i≤n∧p≤q∧q≤p+601+12 * (n - i)∧WG x∧HZ (n - i).toNat x) (fun _ i _=>i.toNat) (newW o) n (q0+1) ⟨by omega,by omega,by omega,by omega,g0,HZ.new.mono (by omega)⟩ ?_ ?_
 ·refine zj.newB 64 o rfl rfl (by decide) (z:=none) ?_;refine dr ?_;repeat (refine oB (by simp) ?_; first|refine dr ?_|exact dz)
  trivial
 rintro x i q ⟨hi1,hi2,hq1,hq2,hx,hz⟩;refine dr ?_;apply cP<;>intro h3
 ·have hv:=ZJ W0 x.over;have hvl:=@zcZ x.over;rw [zbm] at hv;generalize (jm x.over).getD []=t at *;have hnt:x.net.length≤1000:=by have:=hx.pl.nl; omega
  refine dEr ?_;repeat (refine c0 hv rfl ?_; first|refine dEr ?_|exact dz)
  refine oW (zoY W0 s q t x.net.length hs (by omega) (by omega) (by omega)) rfl ⟨rfl,trivial⟩ rfl rfl ⟨((⟨0,0,[],ji,0⟩,q):Ev × Int),by simp only; omega,by simp only; omega⟩ fun y hy=>⟨rfl,?_⟩
  obtain ⟨ev,r⟩:=y;obtain ⟨hr1,hr2⟩:q≤r∧r≤q+12:=hy;have hx':=hx.ev ev;have hz':=hz.ev ev;refine dEr ?_;refine oW (zoX W0 x ev hx (hz.mono (by omega))) rfl ⟨rfl,rfl,rfl,trivial⟩ rfl rfl ⟨false,trivial⟩ fun b _=>?_
  generalize evW x ev=rr at *;obtain ⟨x',c⟩:=rr;cases b with
  | true =>
   refine ⟨rfl,?_⟩;refine dEr ?_;repeat ((first|refine oB (by omega) ?_|refine oB (by simp) ?_); first|refine dEr ?_|exact dz)
   refine ⟨x',i - 1,r,⟨by omega,by omega,by omega,by omega,hx',hz'.mono (by omega)⟩,by omega,?_⟩;refine zj.ren 6 592 rfl rfl (z:=none) ?_;refine dr ?_;repeat (refine oB (by simp) ?_; first|refine dr ?_|exact dz)
   trivial
  | false =>
   refine ⟨rfl,?_⟩;refine dEr ?_;repeat ((first|refine oB (by omega) ?_|refine oB (by simp) ?_); first|refine dEr ?_|exact dz)
   refine ⟨x',i - 1,r,⟨by omega,by omega,by omega,by omega,hx',hz'.mono (by omega)⟩,by omega,?_⟩;refine zo.s (z:=none) ?_;refine dr ?_;repeat (refine oB (by simp) ?_; first|refine dr ?_|exact dz)
   trivial
 refine dr ?_;have hw:WR 0 x:=hx.wr hz (by omega);refine oW (zoW W0 x (hx.wz (hz.mono (by omega)) (by omega))) rfl ⟨rfl,rfl,rfl,trivial⟩ rfl rfl ⟨(),trivial⟩ fun _ _=>⟨rfl,?_⟩
 refine dEr ?_;repeat (refine oB (by simp) ?_; first|refine dEr ?_|exact dz)
 refine ⟨none,_,_,?_,(x,q),⟨hw,by omega,by omega⟩,rfl,rfl⟩;refine dr ?_;trivial
def zh5:XC:=(.s (.r [.x1 1 0,.ex 2 (.alloc zW)]) (.s (.r [.l2 5 14 1,.ex 3 (.alloc zW),.s1 14 3 5]) (.s (.r [.f1 6 0 1,.l2 7 3 6,.c1 8 137 [7],.f1 9 0 3,.s1 3 9 8]) (.s (.r [.ex 10 .bsl0,.f1 11 5 1,.l1 12 1 11,.ex 13 (.app true 4 40 59 10 12),.f1 14 5 3,.s1 1 14 13]) (.s (.r [.ex 15 .bsl0,.f1 16 6 3,.s1 1 16 15]) (.s (.s (.r [.m1 4 (.i 0)]) (.blk 0 (.loop (.s (.s (.r [.mv 17 4,.f1 18 6 1,.l1 19 1 18,.n1 20 19,.b1 21 .lss 17 20]) (.ce 21 0)) (.s (.blk 1 (.d [.f1 24 6 3,.l1 25 1 24,.ex 26 .bsl0,.f1 27 6 1,.l1 28 1 27,.mv 29 4,.i1 30 1 28 29,.l1 31 1 30,.ex 32 (.app true 7 80 48 26 31),.ex 33 (.bsl 1 44 [32]),.ex 34 (.app false 1 24 44 25 33),.f1 35 6 3,.s1 1 35 34])) (.ic 22 23 4)))))) (.s (.r [.ex 36 .bsl0,.f1 37 7 1,.l1 38 1 37,.ex 39 (.app true 1 8 3 36 38),.f1 40 7 3,.s1 1 40 39]) (.s (.r [.ex 41 .bsl0,.f1 42 8 1,.l1 43 1 42,.ex 44 (.app true 9 96 67 41 43),.f1 45 8 3,.s1 1 45 44]) (.s (.r [.l2 46 14 3,.s1 14 2 46]) .ret)))))))))
theorem zh6:zc Tryz.prog [] 81=some (zh5.ac,[(.cell 2 true 14)],47):=by kernel_rfl
def cpM (h0 h1 h2:List Hold):Nat→XM
 | 0=>[(14,.row [] 1 44)]
 | 1=>[(14,.rowP [.own 15 h0.length] 44),(15,.row (h0.map zB) 7 48)]
 | 2=>[(14,.rowP [.own 15 h0.length,.own 31 h1.length] 44),(15,.row (h0.map zB) 7 48),(31,.row (h1.map zB) 7 48)]
 | _=>[(14,.rowP [.own 15 h0.length,.own 31 h1.length,.own 47 h2.length] 44),(15,.row (h0.map zB) 7 48),(31,.row (h1.map zB) 7 48),(47,.row (h2.map zB) 7 48)]
theorem zoV (W0:World) (w:Wld) (h0 h1 h2:List Hold) (hz:WZ 1000000 w) (h3:w.holds=[h0,h1,h2]):zv Tryz.prog W0 81 [.c (zT w)] [] (fun _:Unit=>True) (fun _ => .agg [.c (zb w.over.base),.c (zA w.over.layers),.c (zf w.over.upper),I w.clock,I w.count,.own 208 w.leases.length,.own 14 3,.own 624 w.floors.length,.own 704 w.net.length,B w.waits,I w.op.kind,.c (CS w.op.path),.c (CS w.op.dest),.c (CS w.op.data)]) (fun _=>cpM h0 h1 h2 3++[(208,.row (w.leases.map jB) 4 59),(624,.row (w.floors.map CI) 1 3),(704,.row (w.net.map eMsg) 9 67)]):=by
 obtain ⟨o,cl,cn,ls,hds,fl,nt,wt,wop⟩:=w;simp only at h3;subst h3;obtain ⟨hzo,⟨hzl,hzh⟩,hh,hf,hn⟩:=hz;simp only at hzo hzl hzh hh hf hn;show zv _ _ _ [.c (.agg [zb o.base,zA o.layers,zf o.upper,CI cl,CI cn,zw ls,jA [h0,h1,h2],j8 fl,jR nt,CB wt,CI wop.kind,CS wop.path,CS wop.dest,CS wop.data])] _ _ _ _;refine fW mixed zh6 fun hg=>?_
 refine dEr ?_;repeat ((first|refine c0 (QT W0 _ (hzo.mono (by omega))) rfl ?_|refine oB (by simp; omega) ?_|refine oB (by simp) ?_); first|refine dEr ?_|exact dz)
 refine lq (σ:=Nat) (fun k=>[(1,.ptr 16 0),(2,.ptr 32 0),(3,.ptr 48 0),(4,I k)]) (fun k=>cpM h0 h1 h2 k++[(16,.box [.c (zb o.base),.c (zA o.layers),.c (zf o.upper),I cl,I cn,.c (zw ls),.c (jA [h0,h1,h2]),.c (j8 fl),.c (jR nt),B wt,I wop.kind,.c (CS wop.path),.c (CS wop.dest),.c (CS wop.data)]),(32,zWB),(48,.box [.c (zb o.base),.c (zA o.layers),.c (zf o.upper),I cl,I cn,.own 208 ls.length,.own 14 k,.c (j8 fl),.c (jR nt),B wt,I wop.kind,.c (CS wop.path),.c (CS wop.dest),.c (CS wop.data)]),(208,.row (ls.map jB) 4 59)]) (fun k=>k≤3) (fun k=>3 - k) 0 (by simp) ?_ ?_
 ·refine zo.trans (z:=none) (z':=some 3) (F1:=[(1,.ptr 16 0),(2,.ptr 32 0),(3,.ptr 48 0),(4,I 0)]) (m1:=[(16,.box [.c (zb o.base),.c (zA o.layers),.c (zf o.upper),I cl,I cn,.c (zw ls),.c (jA [h0,h1,h2]),.c (j8 fl),.c (jR nt),B wt,I wop.kind,.c (CS wop.path),.c (CS wop.dest),.c (CS wop.data)]),(32,zWB),(48,.box [.c (zb o.base),.c (zA o.layers),.c (zf o.upper),I cl,I cn,.own 208 ls.length,.nil,.c (j8 fl),.c (jR nt),B wt,I wop.kind,.c (CS wop.path),.c (CS wop.dest),.c (CS wop.data)]),(208,.row (ls.map jB) 4 59)]) ?_ ?_
  ·refine dr ?_;repeat (refine oB (by simp<;>rfl) ?_; first|refine dr ?_|exact dz)
   trivial
  ·show zj _ _ _ _ _;exact zj.er (zj.nilB 48 _ [.c (zb o.base),.c (zA o.layers),.c (zf o.upper),I cl,I cn,.own 208 ls.length,.own 14 0,.c (j8 fl),.c (jR nt),B wt,I wop.kind,.c (CS wop.path),.c (CS wop.dest),.c (CS wop.data)] 14 44 rfl rfl ⟨nr0,nr0,nr0,nr0,nr0,nr0,nr1,nr0,nr0,nr0,nr0,nr0,nr0,nr0,trivial⟩) rfl
 intro k hk;rcases k with _ | _ | _ | _ | k
 ·have hzk:=hzh h0 (by simp);refine dr ?_;apply cP<;>intro hq;rotate_left
  ·simp at hq
  refine dr ?_;repeat ((first|refine oB (by simp; omega) ?_|refine oB (by simp) ?_); first|refine dr ?_|exact dz)
  refine ⟨1,by omega,by omega,?_⟩;refine zj.ren 512 15 rfl rfl (z:=none) ?_;refine dr ?_;repeat (refine oB (by simp) ?_; first|refine dr ?_|exact dz)
  trivial
 ·have hzk:=hzh h1 (by simp);refine dr ?_;apply cP<;>intro hq;rotate_left
  ·simp at hq
  refine dr ?_;repeat ((first|refine oB (by simp; omega) ?_|refine oB (by simp) ?_); first|refine dr ?_|exact dz)
  refine ⟨2,by omega,by omega,?_⟩;refine zj.ren 512 31 rfl rfl (z:=none) ?_;refine dr ?_;repeat (refine oB (by simp) ?_; first|refine dr ?_|exact dz)
  trivial
 ·have hzk:=hzh h2 (by simp);refine dr ?_;apply cP<;>intro hq;rotate_left
  ·simp at hq
  refine dr ?_;repeat ((first|refine oB (by simp; omega) ?_|refine oB (by simp) ?_); first|refine dr ?_|exact dz)
  refine ⟨3,by omega,by omega,?_⟩;refine zj.ren 512 47 rfl rfl (z:=none) ?_;refine dr ?_;repeat (refine oB (by simp) ?_; first|refine dr ?_|exact dz)
  trivial
 ·refine dr ?_;apply cP<;>intro hq
  ·simp at hq
  refine dr ?_;repeat ((first|refine oB (by simp; omega) ?_|refine oB (by simp) ?_); first|refine dr ?_|exact dz)
  refine ⟨none,_,_,?_,(),trivial,rfl,rfl⟩;refine dr ?_;repeat (refine oB (by simp) ?_; first|refine dr ?_|exact dz)
  trivial
 ·omega
theorem zoU (W0:World) (w:Wld) (h0 h1 h2:List Hold) (hz:WZ 1000000 w) (h3:w.holds=[h0,h1,h2]):zv Tryz.prog W0 81 [.c (zT w)] [] (fun _:Unit=>True) (fun _ => .agg [.c (zb w.over.base),.c (zA w.over.layers),.c (zf w.over.upper),I w.clock,I w.count,.own 7 w.leases.length,.own 4 3,.own 5 w.floors.length,.own 6 w.net.length,B w.waits,I w.op.kind,.c (CS w.op.path),.c (CS w.op.dest),.c (CS w.op.data)]) (fun _=>[(4,.rowP [.own 15 h0.length,.own 31 h1.length,.own 47 h2.length] 44),(15,.row (h0.map zB) 7 48),(31,.row (h1.map zB) 7 48),(47,.row (h2.map zB) 7 48),(7,.row (w.leases.map jB) 4 59),(5,.row (w.floors.map CI) 1 3),(6,.row (w.net.map eMsg) 9 67)]) :=
 ((((zoV W0 w h0 h1 h2 hz h3).swp 14 4).swp 624 5).swp 704 6).swp 208 7
def zl8:XC:=(.s (.r [.x1 3 1,.ex 4 (.alloc zW)]) (.s (.r [.l2 8 14 3,.o1 9 81 [8],.ex 5 (.alloc zW),.s1 14 5 9]) (.s (.r [.f1 10 8 5,.l1 11 1 10,.n1 12 11,.mv 6 12]) (.cut (.cut (.r [.mv 13 0,.o1 14 38 [13,(.i 100)]]) (.blk 0 (.s (.r [.b1 16 .eql 14 (.i 0),.mv 15 16]) (.cnd 15 (.d [.f1 17 3 5,.exo [1,15,31,47] 18 (.ld false 1 17),.mv 19 0,.exo [1,15,31,47] 20 (.bsl 1 3 [(.k (.c (.sc (.int .i64 (.negSucc 2))))),(.i 1),(.k (.c (.sc (.int .i64 (.negSucc 0))))),(.i 10000)]),.exo [1,15,31,47] 21 (.opn 68 [19,20]),.b1 22 .add 18 21,.f1 23 3 5,.s1 1 23 22]) (.s (.r [.b1 25 .eql 14 (.i 1),.mv 24 25]) (.cnd 24 (.r [.mv 26 0,.f1 27 4 5,.l1 28 1 27,.b1 29 .sub 28 (.i 1),.ex 30 (.bsl 1 3 [(.i 0),(.k (.c (.sc (.int .i64 (.negSucc 0))))),29,(.i 10000)]),.o1 31 68 [26,30],.f1 32 4 5,.s1 1 32 31]) (.s (.r [.b1 34 .eql 14 (.i 2),.mv 33 34]) (.cnd 33 (.s (.r [.f1 35 5 5,.l1 36 1 35,.n1 37 36,.b1 38 .gtr 37 (.i 0)]) (.cnd 38 (.r [.f1 39 5 5,.l1 40 1 39,.ex 41 (.slr 4 40 (.some (.i 1)) .none),.f1 42 5 5,.s1 1 42 41]) .skip)) (.s (.r [.b1 44 .eql 14 (.i 3),.mv 43 44]) (.cnd 43 (.s (.r [.f1 45 5 5,.l1 46 1 45,.n1 47 46,.b1 48 .gtr 47 (.i 0)]) (.cnd 48 (.d [.f1 49 5 5,.l1 50 1 49,.f1 51 5 5,.l1 52 1 51,.ex 53 (.ia 4 52 (.i 0)),.l2 54 4 53,.ex 55 (.bsl 4 59 [54]),.ex 56 (.app false 4 40 59 50 55),.f1 57 5 5,.s1 1 57 56]) .skip)) (.s (.r [.b1 59 .eql 14 (.i 4),.mv 58 59]) (.cnd 58 (.d [.f1 60 6 5,.exo [1,15,31,47] 61 (.ld false 1 60),.mv 62 0,.exo [1,15,31,47] 63 (.opn 38 [62,(.i 3)]),.f1 64 6 5,.exo [1,15,31,47] 65 (.ld false 1 64),.mv 66 0,.exo [1,15,31,47] 67 (.opn 38 [66,(.i 3)]),.exo [1,15,31,47] 68 (.ia 1 65 67),.exo [1,15,31,47] 69 (.ld false 1 68),.mv 70 0,.exo [1,15,31,47] 71 (.opn 86 [70]),.mv 72 0,.exo [1,15,31,47] 73 (.opn 38 [72,(.i 3)]),.f1 74 3 5,.exo [1,15,31,47] 75 (.ld false 1 74),.mv 76 0,.exo [1,15,31,47] 77 (.opn 38 [76,(.i 3)]),.b1 78 .add 75 77,.ex 79 (.build [sE,(B false),sE,(B false),sE,(I 0),(I 0)] [(0,(1,71)),(5,(1,73)),(6,(1,78))]),.exo [1,15,31,47] 80 (.bsl 7 48 [79]),.exo [1,15,31,47] 81 (.app false 7 80 48 69 80),.exo [1,15,31,47] 82 (.ia 1 61 63),⟨.none,(.st 1 82 81),.none,false,[1,15,31,47]⟩]) (.s (.r [.b1 84 .eql 14 (.i 5),.mv 83 84]) (.cnd 83 (.d [.f1 85 7 5,.exo [1,15,31,47] 86 (.ld false 1 85),.mv 87 0,.exo [1,15,31,47] 88 (.opn 38 [87,(.i 3)]),.mv 89 0,.f1 90 4 5,.exo [1,15,31,47] 91 (.ld false 1 90),.f1 92 4 5,.exo [1,15,31,47] 93 (.ld false 1 92),.b1 94 .add 93 (.i 1),.exo [1,15,31,47] 95 (.bsl 1 3 [(.k (.c (.sc (.int .i64 (.negSucc 0))))),91,94,(.i 0)]),.exo [1,15,31,47] 96 (.opn 68 [89,95]),.exo [1,15,31,47] 97 (.ia 1 86 88),.s1 1 97 96]) (.s (.r [.b1 99 .eql 14 (.i 6),.mv 98 99]) (.cnd 98 (.s (.r [.mv 100 6,.b1 101 .gtr 100 (.i 0)]) (.cnd 101 (.s (.r [.mv 102 0,.mv 103 6,.o1 104 38 [102,103],.mv 7 104]) (.d [.f1 105 8 5,.exo [1,15,31,47] 106 (.ld false 1 105),.mv 107 7,.mv 108 0,.exo [1,15,31,47] 109 (.bsl 1 3 [(.i 0),(.i 5),(.i 2),(.i 4)]),.exo [1,15,31,47] 110 (.opn 68 [108,109]),.exo [1,15,31,47] 111 (.ia 9 106 107),.f1 112 0 111,.s1 1 112 110])) .skip)) (.s (.r [.b1 114 .eql 14 (.i 7),.mv 113 114]) (.cnd 113 (.d [.f1 115 8 5,.exo [1,15,31,47] 116 (.ld false 1 115),.mv 117 0,.exo [1,15,31,47] 118 (.opn 38 [117,(.i 4)]),.b1 119 .add (.i 1) 118,.mv 120 0,.exo [1,15,31,47] 121 (.opn 38 [120,(.i 4)]),.mv 122 0,.exo [1,15,31,47] 123 (.opn 86 [122]),.mv 124 0,.exo [1,15,31,47] 125 (.opn 38 [124,(.i 4)]),.ex 126 (.build [sE,(B false),sE,(B false),sE,(I 0),(I 0)] [(0,(1,123)),(5,(1,125))]),.ex 127 (.build [(I 0),(I 0),sE,(B false),sE,(B false),sE,(I 0),(I 0)] [(0,(1,119)),(1,(1,121)),(2,(7,126))]),.exo [1,15,31,47] 128 (.bsl 9 67 [127]),.ex 129 (.app false 9 96 67 116 128),.f1 130 8 5,.s1 1 130 129]) (.s (.r [.b1 132 .eql 14 (.i 8),.mv 131 132]) (.cnd 131 (.r [.f1 133 9 5,.l1 134 1 133,.u1 135 134,.f1 136 9 5,.s1 1 136 135]) (.s (.r [.b1 138 .eql 14 (.i 9),.mv 137 138]) (.cnd 137 (.r [.f1 140 0 5,.l2 141 3 140,.ex 142 (.build [(I 0),sE,sE,sE] [(0,(1,(.i 2))),(1,(1,(.s [47,97]))),(3,(1,(.s [113])))]),.c1 143 87 [141,142],.mv 139 143,.e1 144 139 0,.e1 145 139 1,.f1 146 0 5,.s1 3 146 144]) .skip)))))))))))))))))))))) (.s (.r [.l2 147 14 5,.s1 14 4 147]) .ret)))))
theorem zl9:zc Tryz.prog [81,38,68,86,1000001,1000015,1000031,1000047] 34=some (zl8.ac,[(.cell 4 true 14)],148):=by kernel_rfl
abbrev bnC (w:Wld) (lv hv fv nv:PV):XB := .box [.c (zb w.over.base),.c (zA w.over.layers),.c (zf w.over.upper),I w.clock,I w.count,lv,hv,fv,nv,B w.waits,I w.op.kind,.c (CS w.op.path),.c (CS w.op.dest),.c (CS w.op.data)]
abbrev bnH (h0 h1 h2:List Hold):XM:=[(4,.rowP [.own 15 h0.length,.own 31 h1.length,.own 47 h2.length] 44),(15,.row (h0.map zB) 7 48),(31,.row (h1.map zB) 7 48),(47,.row (h2.map zB) 7 48)]
abbrev bnL (w:Wld):XM:=[(7,.row (w.leases.map jB) 4 59)]
abbrev bnN (w:Wld):XM:=[(5,.row (w.floors.map CI) 1 3),(6,.row (w.net.map eMsg) 9 67)]
abbrev bnF (v:Int) (w:Wld):Fr:=[(0,.ptr 1 0),(4,.ptr 64 0),(5,.ptr 80 0),(6,I w.net.length),(14,.c (CI v))]
abbrev bnB (s:Str) (q:Int) (w:Wld) (lv hv:PV):XM:=[(1,rdB s q),(64,zWB),(80,bnC w lv hv (.own 5 w.floors.length) (.own 6 w.net.length))]++bnN w
theorem zdf {s:Str} {q:Int} {w:Wld} {h0 h1 h2:List Hold} (h3:w.holds=[h0,h1,h2]) {F:Fr} {m:XM} {z:Option Nat} (v:Int)
  (h:zo [1] z F m (bnF v w) (bnB s q w (.own 7 w.leases.length) (.own 4 3)++bnH h0 h1 h2++bnL w)):zo [1] (some 3) F m (bnF v w) (bnB s q w (.own 7 w.leases.length) (.c (jA w.holds))++bnL w):=by
 refine zo.trans (z':=some 3) h ?_;refine zj.trans (z:=some 3) (F1:=bnF v w) (m1:=(4,.rowP [.c (ze h0),.own 31 h1.length,.own 47 h2.length] 44)::(bnB s q w (.own 7 w.leases.length) (.own 4 3)++[(31,.row (h1.map zB) 7 48),(47,.row (h2.map zB) 7 48)]++bnL w)) (zj.pull 4 15 rfl rfl (by simp [frA,fr1]; rfl) rfl ?_) ?_
 ·refine dr ?_;trivial
 refine zj.trans (z:=some 3) (F1:=bnF v w) (m1:=(4,.rowP [.c (ze h0),.c (ze h1),.own 47 h2.length] 44)::(bnB s q w (.own 7 w.leases.length) (.own 4 3)++[(47,.row (h2.map zB) 7 48)]++bnL w)) (zj.pull 4 31 rfl rfl (by simp [frA,fr1]; rfl) rfl ?_) ?_
 ·refine dr ?_;trivial
 refine zj.trans (z:=some 4) (F1:=bnF v w) (m1:=(4,.row [ze h0,ze h1,ze h2] 1 44)::(bnB s q w (.own 7 w.leases.length) (.own 4 3)++bnL w)) (zj.er (zj.pull 4 47 (Lp':=[.c (ze h0),.c (ze h1),.c (ze h2)]) rfl rfl (by simp [frA,fr1]; rfl) rfl ?_) rfl) ?_
 ·refine dr ?_;trivial
 rw [h3];refine dr ?_;repeat (refine oB (by simp) ?_; first|refine dr ?_|exact dz)
 trivial
theorem qR {s:Str} {q:Int} (x:Wld) {F:Fr} {m:XM} {z:Option Nat}
  (h:zo [1] z F m [(4,.ptr 64 0),(5,.ptr 80 0)] (bnB s q x (.c (zw x.leases)) (.c (jA x.holds)))):zo [1] (some 3) F m [(4,.ptr 64 0),(5,.ptr 80 0)] [(1,rdB s q),(64,zWB),(80,wBx x)]:=by
 refine zo.trans (z':=some 3) h ?_;refine zo.trans (z:=some 5) (z':=some 6) (F1:=[(4,.ptr 64 0),(5,.ptr 80 0)]) (m1:=[(1,rdB s q),(64,zWB),(80,bnC x (.c (zw x.leases)) (.c (jA x.holds)) (.c (j8 x.floors)) (.own 6 x.net.length)),(6,.row (x.net.map eMsg) 9 67)]) ?_ ?_
 ·refine dr ?_;repeat (refine oB (by simp) ?_; first|refine dr ?_|exact dz)
  trivial
 ·refine dr ?_;repeat (refine oB (by simp) ?_; first|refine dr ?_|exact dz)
  trivial
theorem Zi {s:Str} {q:Int} (x:Wld) (g0 g1 g2:List Hold) (hx:x.holds=[g0,g1,g2]) {F:Fr} {m:XM} {z:Option Nat}
  (h:zo [1] z F m [(4,.ptr 64 0),(5,.ptr 80 0)] ((4,.row [ze g0,ze g1,ze g2] 1 44)::bnB s q x (.c (zw x.leases)) (.own 4 3))):zo [1] (some 3) F m [(4,.ptr 64 0),(5,.ptr 80 0)] [(1,rdB s q),(64,zWB),(80,wBx x)]:=by
 refine qR x (z:=some 3) (zo.trans (z':=some 4) h ?_);rw [hx];refine dr ?_;repeat (refine oB (by simp) ?_; first|refine dr ?_|exact dz)
 trivial
theorem WR.hold {n:Nat} {w:Wld} (h:WR n w) {g0 g1 g2:List Hold} (e0:g0.length≤101+n) (e1:g1.length≤101+n) (e2:g2.length≤101+n):WR (n+1) { w with holds:=[g0,g1,g2] }:=by
 obtain ⟨⟨z1,⟨z2,z3⟩,z4,z5,z6⟩,h,f,ck,ct⟩:=h;refine ⟨⟨z1.mono (by omega),⟨by simp only; omega,fun y hy=>?_⟩,by simp; omega,by simp only; omega,by simp only; omega⟩,rfl,f,by simp only; omega,by simp only; omega⟩;simp only [List.mem_cons,List.not_mem_nil,or_false] at hy;rcases hy with rfl|rfl|rfl<;>omega
def bnM (s:Str) (q:Int) (w:Wld) (h0 h1 h2:List Hold):Nat→XM
 | 0=>bnB s q w (.own 7 w.leases.length) (.c (jA w.holds))++bnL w
 | 1=>bnB s q w (.c (zw w.leases)) (.own 4 3)++bnH h0 h1 h2
 | _=>bnB s q w (.c (zw w.leases)) (.c (jA w.holds))
theorem WR.set {n:Nat} {w x:Wld} (h:WR n w) (h1:x.over=w.over∨OZ 32 x.over) (h2:x.leases.length≤w.leases.length+1) (h3:x.holds=w.holds) (h4:x.floors.length=w.floors.length) (h5:x.net.length≤w.net.length+1)
  (h6 : -(20000+20000 * (n:Int)+10010)≤x.clock∧x.clock≤20000+20000 * n+10010) (h7 : -(20000+20000 * (n:Int)+10010)≤x.count∧x.count≤20000+20000 * n+10010):WR (n+1) x:=by
 obtain ⟨⟨z1,⟨z2,z3⟩,z4,z5,z6⟩,h,f,ck,ct⟩:=h;refine ⟨⟨?_,⟨by omega,fun y hy=>?_⟩,by rw [h3]; omega,by omega,by omega⟩,by rw [h3]; exact h,by omega,by omega,by omega⟩
 ·rcases h1 with e | h1
  ·rw [e]; exact z1.mono (by omega)
  ·exact h1.mono (by omega)
 ·rw [h3] at hy; have:=z3 y hy; omega
set_option maxHeartbeats 8000000 in
theorem zd9 (W0:World) (s:Str) (p:Int) (n:Nat) (w:Wld) (hs:s.length≤2000) (hp:0≤p∧p≤90000) (hn:n≤1000) (hw:WR n w) :
  zv Tryz.prog W0 34 [.ptr 1 0,.c (zT w)] (Rd s p) (fun x:Wld × Int=>WR (n+1) x.1∧p≤x.2∧x.2≤p+8) (fun x => .c (zT x.1)) (fun x=>Rd s x.2):=by
 obtain ⟨h0,h1,h2,h3⟩:∃ h0 h1 h2,w.holds=[h0,h1,h2]:=by
  have:=hw.h
  match hh:w.holds with
  | [a,b,c]=>exact ⟨a,b,c,rfl⟩
  | [] | [_] | [_,_] | _::_::_::_::_=>rw [hh] at this; simp at this
 have hz:=hw.z;have hw':WR (n+1) w:=hw.mono (by omega);refine fW mixed zl9 fun hg=>?_
 refine dr ?_;refine oW (zoU W0 w h0 h1 h2 (hz.mono (by omega)) h3) rfl trivial rfl rfl ⟨(),trivial⟩ fun _ _=>⟨rfl,?_⟩
 refine dEr ?_;refine cutz 3 (σ:=Wld × Int) (fun _=>[(4,.ptr 64 0),(5,.ptr 80 0)]) (fun x=>[(1,rdB s x.2),(64,zWB),(80,wBx x.1)]) (fun x=>WR (n+1) x.1∧p≤x.2∧x.2≤p+8) ?_ ?_;rotate_left
 ·rintro ⟨x,q⟩ ⟨hx,hq1,hq2⟩;refine dr ?_;refine ⟨none,_,_,?_,(x,q),⟨hx,hq1,hq2⟩,rfl,rfl⟩;refine dr ?_;trivial
 refine dr ?_;refine cutz 3 (σ:=Int × Nat) (fun x=>bnF x.1 w) (fun x=>bnM s (p+1) w h0 h1 h2 x.2) (fun x=>(x.2=0∧x.1=3)∨(x.2=1∧x.1=4)∨(x.2=2∧x.1≠3∧x.1≠4)) ?_ ?_
 ·refine dr ?_;refine oW (zU W0 s p 100 hs (by omega) (by omega)) rfl ⟨rfl,trivial⟩ rfl rfl ⟨0,by omega,by omega⟩ fun v hv=>⟨rfl,?_⟩
  refine dEr ?_;by_cases a:v=3
  ·refine ⟨(v,0),.inl ⟨rfl,a⟩,zdf h3 v (z:=none) ?_⟩;refine dr ?_;trivial
  by_cases b:v=4
  ·refine ⟨(v,1),.inr (.inl ⟨rfl,b⟩),zo.s (z:=some 7) ?_⟩;refine dr ?_;repeat (refine oB (by simp) ?_; first|refine dr ?_|exact dz)
   trivial
  refine ⟨(v,2),.inr (.inr ⟨rfl,a,b⟩),zo.trans (z':=some 7) (zdf (s:=s) (q:=p+1) h3 v (z:=none) ?_) ?_⟩
  ·refine dr ?_;trivial
  ·refine dr ?_;repeat (refine oB (by simp) ?_; first|refine dr ?_|exact dz)
   trivial
 rintro ⟨v,k⟩ hvk;simp only at hvk;have ck:=hw.ck;have ct:=hw.ct;have hf3:=hw.f;have hh3:=hw.h;have zt:=hz.t;have zl:=hz.z.l;rcases hvk with ⟨rfl,rfl⟩ | ⟨rfl,rfl⟩ | ⟨rfl,hv3,hv4⟩
 ·
  refine dr ?_;apply cP<;>intro k1
  ·exact absurd k1 (by decide)
  refine dr ?_;apply cP<;>intro k1
  ·exact absurd k1 (by decide)
  refine dr ?_;apply cP<;>intro k1
  ·exact absurd k1 (by decide)
  refine dr ?_;apply cP<;>intro k1;rotate_left
  ·exact absurd rfl k1
  refine dr ?_;apply cP<;>intro k2
  ·obtain ⟨l,ls,hl⟩:∃ l ls,w.leases=l::ls:=by
    cases h:w.leases with
    | nil=>rw [h] at k2; simp at k2
    | cons l ls=>exact ⟨l,ls,rfl⟩
   refine dr ?_;repeat ((first|refine aM (j:=0) rfl (by omega) ?_|refine oB (by simp; omega) ?_|refine oB (by simp) ?_); first|refine dr ?_|exact dz)
   refine ⟨({ w with leases:=w.leases++[w.leases[0]'(by omega)] },p+1),⟨hw.set (.inl rfl) (by simp) rfl rfl (by simp) (by simp only; omega) (by simp only; omega),by simp only; omega,by simp only; omega⟩,qR _ (z:=some 7) ?_⟩;refine dr ?_;repeat (refine oB (by first|(simp; done)|(simp; exact congrArg CV.row app1)) ?_; first|refine dr ?_|exact dz)
   trivial
  ·refine dr ?_;refine ⟨(w,p+1),⟨hw',by simp only; omega,by simp only; omega⟩,qR w (z:=some 7) ?_⟩;refine dr ?_;repeat (refine oB (by simp) ?_; first|refine dr ?_|exact dz)
   trivial
 ·
  refine dr ?_;apply cP<;>intro k1
  ·exact absurd k1 (by decide)
  refine dr ?_;apply cP<;>intro k1
  ·exact absurd k1 (by decide)
  refine dr ?_;apply cP<;>intro k1
  ·exact absurd k1 (by decide)
  refine dr ?_;apply cP<;>intro k1
  ·exact absurd k1 (by decide)
  refine dr ?_;apply cP<;>intro k1;rotate_left
  ·exact absurd rfl k1
  refine dr ?_;refine oW (zU W0 s (p+1) 3 hs (by omega) (by omega)) rfl ⟨rfl,trivial⟩ rfl rfl ⟨0,by omega,by omega⟩ fun i hi=>⟨rfl,?_⟩
  refine dEr ?_;refine oW (zU W0 s (p+1+1) 3 hs (by omega) (by omega)) rfl ⟨rfl,trivial⟩ rfl rfl ⟨0,by omega,by omega⟩ fun j hj=>⟨rfl,?_⟩
  refine dEr ?_;obtain ⟨i,rfl⟩:∃ k:Nat,i=k:=⟨i.toNat,by omega⟩;obtain ⟨j,rfl⟩:∃ k:Nat,j=k:=⟨j.toNat,by omega⟩;have hi2:i < 3:=by have:=hi.2 (by omega); omega
  have hj2:j < 3:=by have:=hj.2 (by omega); omega
  clear hi hj;have z3:=hz.z.h;rw [h3] at z3;have e0:=z3 h0 (by simp);have e1:=z3 h1 (by simp);have e2:=z3 h2 (by simp);have hc:(i=0∨i=1∨i=2)∧(j=0∨j=1∨j=2):=⟨by omega,by omega⟩;obtain ⟨rfl|rfl|rfl,rfl|rfl|rfl⟩:=hc
  ·
   refine dr ?_;repeat ((first|refine nE (j:=0) rfl ?_|refine oB (by decide) ?_); first|refine dr ?_|exact dz)
   refine oW (qT W0 s (p+1+1+1) hs (by omega)) rfl ⟨rfl,trivial⟩ rfl rfl ⟨_,List.mem_cons_self⟩ fun a3 ha3=>⟨rfl,?_⟩
   refine dEr ?_;refine oW (zU W0 s (p+1+1+1+1) 3 hs (by omega) (by omega)) rfl ⟨rfl,trivial⟩ rfl rfl ⟨0,by omega,by omega⟩ fun a4 ha4=>⟨rfl,?_⟩
   refine dEr ?_;refine oW (zU W0 s (p+1+1+1+1+1) 3 hs (by omega) (by omega)) rfl ⟨rfl,trivial⟩ rfl rfl ⟨0,by omega,by omega⟩ fun a5 ha5=>⟨rfl,?_⟩
   have ha5':=ha5.2 (by omega);refine dEr ?_;repeat (refine oB (by omega) ?_; first|refine dEr ?_|exact dz)
   refine ⟨({ w with holds:=[h0++[⟨a3,false,noE,a4,w.clock+a5⟩],h1,h2] },p+1+1+1+1+1+1),⟨hw.hold (by first|omega|(simp; omega)) (by first|omega|(simp; omega)) (by first|omega|(simp; omega)),by simp only; omega,by simp only; omega⟩,Zi _ (h0++[⟨a3,false,noE,a4,w.clock+a5⟩]) (h1) (h2) rfl (z:=some 3) ?_⟩;refine zj.trans (z:=some 3) (F1:=[(4,.ptr 64 0),(5,.ptr 80 0)]) (m1:=(4,.rowP [.c (ze (h0++[⟨a3,false,noE,a4,w.clock+a5⟩])),.c (ze h1),.own 47 h2.length] 44)::(bnB s (p+1+1+1+1+1+1) w (.c (zw w.leases)) (.own 4 3)++[(47,.row (h2.map zB) 7 48)])) (zj.pull 4 31 (m3:=bnB s (p+1+1+1+1+1+1) w (.c (zw w.leases)) (.own 4 3)++[(47,.row (h2.map zB) 7 48)]) (Lp':=[.c (ze (h0++[⟨a3,false,noE,a4,w.clock+a5⟩])),.c (ze h1),.own 47 h2.length]) rfl rfl (by simp [frA,fr1,ze]<;>rfl) rfl ?_) ?_
   ·refine dr ?_;repeat (refine oB (by first|(simp; done)|(simp [ze]; rfl)) ?_; first|refine dr ?_|exact dz)
    trivial
   refine zj.trans (z:=none) (F1:=[(4,.ptr 64 0),(5,.ptr 80 0)]) (m1:=(4,.row [ze (h0++[⟨a3,false,noE,a4,w.clock+a5⟩]),ze (h1),ze (h2)] 1 44)::(bnB s (p+1+1+1+1+1+1) w (.c (zw w.leases)) (.own 4 3))) (zj.er (zj.pull 4 47 (m3:=bnB s (p+1+1+1+1+1+1) w (.c (zw w.leases)) (.own 4 3)) (Lp':=[.c (ze (h0++[⟨a3,false,noE,a4,w.clock+a5⟩])),.c (ze h1),.c (ze h2)]) rfl rfl (by simp [frA,fr1,ze]<;>rfl) rfl ?_) rfl) ?_
   ·refine dr ?_;repeat (refine oB (by first|(simp; done)|(simp [ze]; rfl)) ?_; first|refine dr ?_|exact dz)
    trivial
   refine dr ?_;repeat (refine oB (by first|(simp; done)|(simp [ze]; rfl)) ?_; first|refine dr ?_|exact dz)
   trivial
  ·
   refine dr ?_;repeat ((first|refine nE (j:=1) rfl ?_|refine oB (by decide) ?_); first|refine dr ?_|exact dz)
   refine oW (qT W0 s (p+1+1+1) hs (by omega)) rfl ⟨rfl,trivial⟩ rfl rfl ⟨_,List.mem_cons_self⟩ fun a3 ha3=>⟨rfl,?_⟩
   refine dEr ?_;refine oW (zU W0 s (p+1+1+1+1) 3 hs (by omega) (by omega)) rfl ⟨rfl,trivial⟩ rfl rfl ⟨0,by omega,by omega⟩ fun a4 ha4=>⟨rfl,?_⟩
   refine dEr ?_;refine oW (zU W0 s (p+1+1+1+1+1) 3 hs (by omega) (by omega)) rfl ⟨rfl,trivial⟩ rfl rfl ⟨0,by omega,by omega⟩ fun a5 ha5=>⟨rfl,?_⟩
   have ha5':=ha5.2 (by omega);refine dEr ?_;repeat (refine oB (by omega) ?_; first|refine dEr ?_|exact dz)
   refine ⟨({ w with holds:=[h1++[⟨a3,false,noE,a4,w.clock+a5⟩],h1,h2] },p+1+1+1+1+1+1),⟨hw.hold (by first|omega|(simp; omega)) (by first|omega|(simp; omega)) (by first|omega|(simp; omega)),by simp only; omega,by simp only; omega⟩,Zi _ (h1++[⟨a3,false,noE,a4,w.clock+a5⟩]) (h1) (h2) rfl (z:=some 3) ?_⟩;refine zj.trans (z:=some 3) (zj.ung 4 31 (n:=h1.length) (C:=h1.map zB) (Lp':=[.c (.row (h1.map zB++[.agg [CS a3,CB false,CS [],CB false,CS [],CI a4,CI (w.clock+a5)]])),.c (ze h1),.own 47 h2.length]) rfl rfl (by simp) ⟨.inl rfl,.inr ⟨rfl,rfl⟩,.inl rfl,trivial⟩) ?_;refine zj.trans (z:=none) (F1:=[(4,.ptr 64 0),(5,.ptr 80 0)]) (m1:=(4,.row [ze (h1++[⟨a3,false,noE,a4,w.clock+a5⟩]),ze (h1),ze (h2)] 1 44)::(bnB s (p+1+1+1+1+1+1) w (.c (zw w.leases)) (.own 4 3))) (zj.er (zj.pull 4 47 (m3:=bnB s (p+1+1+1+1+1+1) w (.c (zw w.leases)) (.own 4 3)) (Lp':=[.c (ze (h1++[⟨a3,false,noE,a4,w.clock+a5⟩])),.c (ze h1),.c (ze h2)]) rfl rfl (by simp [frA,fr1,ze]<;>rfl) rfl ?_) rfl) ?_
   ·refine dr ?_;repeat (refine oB (by first|(simp; done)|(simp [ze]; rfl)) ?_; first|refine dr ?_|exact dz)
    trivial
   refine dr ?_;repeat (refine oB (by first|(simp; done)|(simp [ze]; rfl)) ?_; first|refine dr ?_|exact dz)
   trivial
  ·
   refine dr ?_;repeat ((first|refine nE (j:=2) rfl ?_|refine oB (by decide) ?_); first|refine dr ?_|exact dz)
   refine oW (qT W0 s (p+1+1+1) hs (by omega)) rfl ⟨rfl,trivial⟩ rfl rfl ⟨_,List.mem_cons_self⟩ fun a3 ha3=>⟨rfl,?_⟩
   refine dEr ?_;refine oW (zU W0 s (p+1+1+1+1) 3 hs (by omega) (by omega)) rfl ⟨rfl,trivial⟩ rfl rfl ⟨0,by omega,by omega⟩ fun a4 ha4=>⟨rfl,?_⟩
   refine dEr ?_;refine oW (zU W0 s (p+1+1+1+1+1) 3 hs (by omega) (by omega)) rfl ⟨rfl,trivial⟩ rfl rfl ⟨0,by omega,by omega⟩ fun a5 ha5=>⟨rfl,?_⟩
   have ha5':=ha5.2 (by omega);refine dEr ?_;repeat (refine oB (by omega) ?_; first|refine dEr ?_|exact dz)
   refine ⟨({ w with holds:=[h2++[⟨a3,false,noE,a4,w.clock+a5⟩],h1,h2] },p+1+1+1+1+1+1),⟨hw.hold (by first|omega|(simp; omega)) (by first|omega|(simp; omega)) (by first|omega|(simp; omega)),by simp only; omega,by simp only; omega⟩,Zi _ (h2++[⟨a3,false,noE,a4,w.clock+a5⟩]) (h1) (h2) rfl (z:=some 3) ?_⟩;refine zj.trans (z:=some 3) (zj.ung 4 47 (n:=h2.length) (C:=h2.map zB) (Lp':=[.c (.row (h2.map zB++[.agg [CS a3,CB false,CS [],CB false,CS [],CI a4,CI (w.clock+a5)]])),.own 31 h1.length,.c (ze h2)]) rfl rfl (by simp) ⟨.inl rfl,.inl rfl,.inr ⟨rfl,rfl⟩,trivial⟩) ?_;refine zj.trans (z:=none) (F1:=[(4,.ptr 64 0),(5,.ptr 80 0)]) (m1:=(4,.row [ze (h2++[⟨a3,false,noE,a4,w.clock+a5⟩]),ze (h1),ze (h2)] 1 44)::(bnB s (p+1+1+1+1+1+1) w (.c (zw w.leases)) (.own 4 3))) (zj.er (zj.pull 4 31 (m3:=bnB s (p+1+1+1+1+1+1) w (.c (zw w.leases)) (.own 4 3)) (Lp':=[.c (ze (h2++[⟨a3,false,noE,a4,w.clock+a5⟩])),.c (ze h1),.c (ze h2)]) rfl rfl (by simp [frA,fr1,ze]<;>rfl) rfl ?_) rfl) ?_
   ·refine dr ?_;repeat (refine oB (by first|(simp; done)|(simp [ze]; rfl)) ?_; first|refine dr ?_|exact dz)
    trivial
   refine dr ?_;repeat (refine oB (by first|(simp; done)|(simp [ze]; rfl)) ?_; first|refine dr ?_|exact dz)
   trivial
  ·
   refine dr ?_;repeat ((first|refine nE (j:=0) rfl ?_|refine oB (by decide) ?_); first|refine dr ?_|exact dz)
   refine oW (qT W0 s (p+1+1+1) hs (by omega)) rfl ⟨rfl,trivial⟩ rfl rfl ⟨_,List.mem_cons_self⟩ fun a3 ha3=>⟨rfl,?_⟩
   refine dEr ?_;refine oW (zU W0 s (p+1+1+1+1) 3 hs (by omega) (by omega)) rfl ⟨rfl,trivial⟩ rfl rfl ⟨0,by omega,by omega⟩ fun a4 ha4=>⟨rfl,?_⟩
   refine dEr ?_;refine oW (zU W0 s (p+1+1+1+1+1) 3 hs (by omega) (by omega)) rfl ⟨rfl,trivial⟩ rfl rfl ⟨0,by omega,by omega⟩ fun a5 ha5=>⟨rfl,?_⟩
   have ha5':=ha5.2 (by omega);refine dEr ?_;repeat (refine oB (by omega) ?_; first|refine dEr ?_|exact dz)
   refine ⟨({ w with holds:=[h0,h0++[⟨a3,false,noE,a4,w.clock+a5⟩],h2] },p+1+1+1+1+1+1),⟨hw.hold (by first|omega|(simp; omega)) (by first|omega|(simp; omega)) (by first|omega|(simp; omega)),by simp only; omega,by simp only; omega⟩,Zi _ (h0) (h0++[⟨a3,false,noE,a4,w.clock+a5⟩]) (h2) rfl (z:=some 3) ?_⟩;refine zj.trans (z:=some 3) (zj.ung 4 15 (n:=h0.length) (C:=h0.map zB) (Lp':=[.c (ze h0),.c (.row (h0.map zB++[.agg [CS a3,CB false,CS [],CB false,CS [],CI a4,CI (w.clock+a5)]])),.own 47 h2.length]) rfl rfl (by simp) ⟨.inr ⟨rfl,rfl⟩,.inl rfl,.inl rfl,trivial⟩) ?_;refine zj.trans (z:=none) (F1:=[(4,.ptr 64 0),(5,.ptr 80 0)]) (m1:=(4,.row [ze (h0),ze (h0++[⟨a3,false,noE,a4,w.clock+a5⟩]),ze (h2)] 1 44)::(bnB s (p+1+1+1+1+1+1) w (.c (zw w.leases)) (.own 4 3))) (zj.er (zj.pull 4 47 (m3:=bnB s (p+1+1+1+1+1+1) w (.c (zw w.leases)) (.own 4 3)) (Lp':=[.c (ze h0),.c (ze (h0++[⟨a3,false,noE,a4,w.clock+a5⟩])),.c (ze h2)]) rfl rfl (by simp [frA,fr1,ze]<;>rfl) rfl ?_) rfl) ?_
   ·refine dr ?_;repeat (refine oB (by first|(simp; done)|(simp [ze]; rfl)) ?_; first|refine dr ?_|exact dz)
    trivial
   refine dr ?_;repeat (refine oB (by first|(simp; done)|(simp [ze]; rfl)) ?_; first|refine dr ?_|exact dz)
   trivial
  ·
   refine dr ?_;repeat ((first|refine nE (j:=1) rfl ?_|refine oB (by decide) ?_); first|refine dr ?_|exact dz)
   refine oW (qT W0 s (p+1+1+1) hs (by omega)) rfl ⟨rfl,trivial⟩ rfl rfl ⟨_,List.mem_cons_self⟩ fun a3 ha3=>⟨rfl,?_⟩
   refine dEr ?_;refine oW (zU W0 s (p+1+1+1+1) 3 hs (by omega) (by omega)) rfl ⟨rfl,trivial⟩ rfl rfl ⟨0,by omega,by omega⟩ fun a4 ha4=>⟨rfl,?_⟩
   refine dEr ?_;refine oW (zU W0 s (p+1+1+1+1+1) 3 hs (by omega) (by omega)) rfl ⟨rfl,trivial⟩ rfl rfl ⟨0,by omega,by omega⟩ fun a5 ha5=>⟨rfl,?_⟩
   have ha5':=ha5.2 (by omega);refine dEr ?_;repeat (refine oB (by omega) ?_; first|refine dEr ?_|exact dz)
   refine ⟨({ w with holds:=[h0,h1++[⟨a3,false,noE,a4,w.clock+a5⟩],h2] },p+1+1+1+1+1+1),⟨hw.hold (by first|omega|(simp; omega)) (by first|omega|(simp; omega)) (by first|omega|(simp; omega)),by simp only; omega,by simp only; omega⟩,Zi _ (h0) (h1++[⟨a3,false,noE,a4,w.clock+a5⟩]) (h2) rfl (z:=some 3) ?_⟩;refine zj.trans (z:=some 3) (F1:=[(4,.ptr 64 0),(5,.ptr 80 0)]) (m1:=(4,.rowP [.c (ze h0),.c (ze (h1++[⟨a3,false,noE,a4,w.clock+a5⟩])),.own 47 h2.length] 44)::(bnB s (p+1+1+1+1+1+1) w (.c (zw w.leases)) (.own 4 3)++[(47,.row (h2.map zB) 7 48)])) (zj.pull 4 15 (m3:=bnB s (p+1+1+1+1+1+1) w (.c (zw w.leases)) (.own 4 3)++[(47,.row (h2.map zB) 7 48)]) (Lp':=[.c (ze h0),.c (ze (h1++[⟨a3,false,noE,a4,w.clock+a5⟩])),.own 47 h2.length]) rfl rfl (by simp [frA,fr1,ze]<;>rfl) rfl ?_) ?_
   ·refine dr ?_;repeat (refine oB (by first|(simp; done)|(simp [ze]; rfl)) ?_; first|refine dr ?_|exact dz)
    trivial
   refine zj.trans (z:=none) (F1:=[(4,.ptr 64 0),(5,.ptr 80 0)]) (m1:=(4,.row [ze (h0),ze (h1++[⟨a3,false,noE,a4,w.clock+a5⟩]),ze (h2)] 1 44)::(bnB s (p+1+1+1+1+1+1) w (.c (zw w.leases)) (.own 4 3))) (zj.er (zj.pull 4 47 (m3:=bnB s (p+1+1+1+1+1+1) w (.c (zw w.leases)) (.own 4 3)) (Lp':=[.c (ze h0),.c (ze (h1++[⟨a3,false,noE,a4,w.clock+a5⟩])),.c (ze h2)]) rfl rfl (by simp [frA,fr1,ze]<;>rfl) rfl ?_) rfl) ?_
   ·refine dr ?_;repeat (refine oB (by first|(simp; done)|(simp [ze]; rfl)) ?_; first|refine dr ?_|exact dz)
    trivial
   refine dr ?_;repeat (refine oB (by first|(simp; done)|(simp [ze]; rfl)) ?_; first|refine dr ?_|exact dz)
   trivial
  ·
   refine dr ?_;repeat ((first|refine nE (j:=2) rfl ?_|refine oB (by decide) ?_); first|refine dr ?_|exact dz)
   refine oW (qT W0 s (p+1+1+1) hs (by omega)) rfl ⟨rfl,trivial⟩ rfl rfl ⟨_,List.mem_cons_self⟩ fun a3 ha3=>⟨rfl,?_⟩
   refine dEr ?_;refine oW (zU W0 s (p+1+1+1+1) 3 hs (by omega) (by omega)) rfl ⟨rfl,trivial⟩ rfl rfl ⟨0,by omega,by omega⟩ fun a4 ha4=>⟨rfl,?_⟩
   refine dEr ?_;refine oW (zU W0 s (p+1+1+1+1+1) 3 hs (by omega) (by omega)) rfl ⟨rfl,trivial⟩ rfl rfl ⟨0,by omega,by omega⟩ fun a5 ha5=>⟨rfl,?_⟩
   have ha5':=ha5.2 (by omega);refine dEr ?_;repeat (refine oB (by omega) ?_; first|refine dEr ?_|exact dz)
   refine ⟨({ w with holds:=[h0,h2++[⟨a3,false,noE,a4,w.clock+a5⟩],h2] },p+1+1+1+1+1+1),⟨hw.hold (by first|omega|(simp; omega)) (by first|omega|(simp; omega)) (by first|omega|(simp; omega)),by simp only; omega,by simp only; omega⟩,Zi _ (h0) (h2++[⟨a3,false,noE,a4,w.clock+a5⟩]) (h2) rfl (z:=some 3) ?_⟩;refine zj.trans (z:=some 3) (zj.ung 4 47 (n:=h2.length) (C:=h2.map zB) (Lp':=[.own 15 h0.length,.c (.row (h2.map zB++[.agg [CS a3,CB false,CS [],CB false,CS [],CI a4,CI (w.clock+a5)]])),.c (ze h2)]) rfl rfl (by simp) ⟨.inl rfl,.inl rfl,.inr ⟨rfl,rfl⟩,trivial⟩) ?_;refine zj.trans (z:=none) (F1:=[(4,.ptr 64 0),(5,.ptr 80 0)]) (m1:=(4,.row [ze (h0),ze (h2++[⟨a3,false,noE,a4,w.clock+a5⟩]),ze (h2)] 1 44)::(bnB s (p+1+1+1+1+1+1) w (.c (zw w.leases)) (.own 4 3))) (zj.er (zj.pull 4 15 (m3:=bnB s (p+1+1+1+1+1+1) w (.c (zw w.leases)) (.own 4 3)) (Lp':=[.c (ze h0),.c (ze (h2++[⟨a3,false,noE,a4,w.clock+a5⟩])),.c (ze h2)]) rfl rfl (by simp [frA,fr1,ze]<;>rfl) rfl ?_) rfl) ?_
   ·refine dr ?_;repeat (refine oB (by first|(simp; done)|(simp [ze]; rfl)) ?_; first|refine dr ?_|exact dz)
    trivial
   refine dr ?_;repeat (refine oB (by first|(simp; done)|(simp [ze]; rfl)) ?_; first|refine dr ?_|exact dz)
   trivial
  ·
   refine dr ?_;repeat ((first|refine nE (j:=0) rfl ?_|refine oB (by decide) ?_); first|refine dr ?_|exact dz)
   refine oW (qT W0 s (p+1+1+1) hs (by omega)) rfl ⟨rfl,trivial⟩ rfl rfl ⟨_,List.mem_cons_self⟩ fun a3 ha3=>⟨rfl,?_⟩
   refine dEr ?_;refine oW (zU W0 s (p+1+1+1+1) 3 hs (by omega) (by omega)) rfl ⟨rfl,trivial⟩ rfl rfl ⟨0,by omega,by omega⟩ fun a4 ha4=>⟨rfl,?_⟩
   refine dEr ?_;refine oW (zU W0 s (p+1+1+1+1+1) 3 hs (by omega) (by omega)) rfl ⟨rfl,trivial⟩ rfl rfl ⟨0,by omega,by omega⟩ fun a5 ha5=>⟨rfl,?_⟩
   have ha5':=ha5.2 (by omega);refine dEr ?_;repeat (refine oB (by omega) ?_; first|refine dEr ?_|exact dz)
   refine ⟨({ w with holds:=[h0,h1,h0++[⟨a3,false,noE,a4,w.clock+a5⟩]] },p+1+1+1+1+1+1),⟨hw.hold (by first|omega|(simp; omega)) (by first|omega|(simp; omega)) (by first|omega|(simp; omega)),by simp only; omega,by simp only; omega⟩,Zi _ (h0) (h1) (h0++[⟨a3,false,noE,a4,w.clock+a5⟩]) rfl (z:=some 3) ?_⟩;refine zj.trans (z:=some 3) (zj.ung 4 15 (n:=h0.length) (C:=h0.map zB) (Lp':=[.c (ze h0),.own 31 h1.length,.c (.row (h0.map zB++[.agg [CS a3,CB false,CS [],CB false,CS [],CI a4,CI (w.clock+a5)]]))]) rfl rfl (by simp) ⟨.inr ⟨rfl,rfl⟩,.inl rfl,.inl rfl,trivial⟩) ?_;refine zj.trans (z:=none) (F1:=[(4,.ptr 64 0),(5,.ptr 80 0)]) (m1:=(4,.row [ze (h0),ze (h1),ze (h0++[⟨a3,false,noE,a4,w.clock+a5⟩])] 1 44)::(bnB s (p+1+1+1+1+1+1) w (.c (zw w.leases)) (.own 4 3))) (zj.er (zj.pull 4 31 (m3:=bnB s (p+1+1+1+1+1+1) w (.c (zw w.leases)) (.own 4 3)) (Lp':=[.c (ze h0),.c (ze h1),.c (ze (h0++[⟨a3,false,noE,a4,w.clock+a5⟩]))]) rfl rfl (by simp [frA,fr1,ze]<;>rfl) rfl ?_) rfl) ?_
   ·refine dr ?_;repeat (refine oB (by first|(simp; done)|(simp [ze]; rfl)) ?_; first|refine dr ?_|exact dz)
    trivial
   refine dr ?_;repeat (refine oB (by first|(simp; done)|(simp [ze]; rfl)) ?_; first|refine dr ?_|exact dz)
   trivial
  ·
   refine dr ?_;repeat ((first|refine nE (j:=1) rfl ?_|refine oB (by decide) ?_); first|refine dr ?_|exact dz)
   refine oW (qT W0 s (p+1+1+1) hs (by omega)) rfl ⟨rfl,trivial⟩ rfl rfl ⟨_,List.mem_cons_self⟩ fun a3 ha3=>⟨rfl,?_⟩
   refine dEr ?_;refine oW (zU W0 s (p+1+1+1+1) 3 hs (by omega) (by omega)) rfl ⟨rfl,trivial⟩ rfl rfl ⟨0,by omega,by omega⟩ fun a4 ha4=>⟨rfl,?_⟩
   refine dEr ?_;refine oW (zU W0 s (p+1+1+1+1+1) 3 hs (by omega) (by omega)) rfl ⟨rfl,trivial⟩ rfl rfl ⟨0,by omega,by omega⟩ fun a5 ha5=>⟨rfl,?_⟩
   have ha5':=ha5.2 (by omega);refine dEr ?_;repeat (refine oB (by omega) ?_; first|refine dEr ?_|exact dz)
   refine ⟨({ w with holds:=[h0,h1,h1++[⟨a3,false,noE,a4,w.clock+a5⟩]] },p+1+1+1+1+1+1),⟨hw.hold (by first|omega|(simp; omega)) (by first|omega|(simp; omega)) (by first|omega|(simp; omega)),by simp only; omega,by simp only; omega⟩,Zi _ (h0) (h1) (h1++[⟨a3,false,noE,a4,w.clock+a5⟩]) rfl (z:=some 3) ?_⟩;refine zj.trans (z:=some 3) (zj.ung 4 31 (n:=h1.length) (C:=h1.map zB) (Lp':=[.own 15 h0.length,.c (ze h1),.c (.row (h1.map zB++[.agg [CS a3,CB false,CS [],CB false,CS [],CI a4,CI (w.clock+a5)]]))]) rfl rfl (by simp) ⟨.inl rfl,.inr ⟨rfl,rfl⟩,.inl rfl,trivial⟩) ?_;refine zj.trans (z:=none) (F1:=[(4,.ptr 64 0),(5,.ptr 80 0)]) (m1:=(4,.row [ze (h0),ze (h1),ze (h1++[⟨a3,false,noE,a4,w.clock+a5⟩])] 1 44)::(bnB s (p+1+1+1+1+1+1) w (.c (zw w.leases)) (.own 4 3))) (zj.er (zj.pull 4 15 (m3:=bnB s (p+1+1+1+1+1+1) w (.c (zw w.leases)) (.own 4 3)) (Lp':=[.c (ze h0),.c (ze h1),.c (ze (h1++[⟨a3,false,noE,a4,w.clock+a5⟩]))]) rfl rfl (by simp [frA,fr1,ze]<;>rfl) rfl ?_) rfl) ?_
   ·refine dr ?_;repeat (refine oB (by first|(simp; done)|(simp [ze]; rfl)) ?_; first|refine dr ?_|exact dz)
    trivial
   refine dr ?_;repeat (refine oB (by first|(simp; done)|(simp [ze]; rfl)) ?_; first|refine dr ?_|exact dz)
   trivial
  ·
   refine dr ?_;repeat ((first|refine nE (j:=2) rfl ?_|refine oB (by decide) ?_); first|refine dr ?_|exact dz)
   refine oW (qT W0 s (p+1+1+1) hs (by omega)) rfl ⟨rfl,trivial⟩ rfl rfl ⟨_,List.mem_cons_self⟩ fun a3 ha3=>⟨rfl,?_⟩
   refine dEr ?_;refine oW (zU W0 s (p+1+1+1+1) 3 hs (by omega) (by omega)) rfl ⟨rfl,trivial⟩ rfl rfl ⟨0,by omega,by omega⟩ fun a4 ha4=>⟨rfl,?_⟩
   refine dEr ?_;refine oW (zU W0 s (p+1+1+1+1+1) 3 hs (by omega) (by omega)) rfl ⟨rfl,trivial⟩ rfl rfl ⟨0,by omega,by omega⟩ fun a5 ha5=>⟨rfl,?_⟩
   have ha5':=ha5.2 (by omega);refine dEr ?_;repeat (refine oB (by omega) ?_; first|refine dEr ?_|exact dz)
   refine ⟨({ w with holds:=[h0,h1,h2++[⟨a3,false,noE,a4,w.clock+a5⟩]] },p+1+1+1+1+1+1),⟨hw.hold (by first|omega|(simp; omega)) (by first|omega|(simp; omega)) (by first|omega|(simp; omega)),by simp only; omega,by simp only; omega⟩,Zi _ (h0) (h1) (h2++[⟨a3,false,noE,a4,w.clock+a5⟩]) rfl (z:=some 3) ?_⟩;refine zj.trans (z:=some 3) (F1:=[(4,.ptr 64 0),(5,.ptr 80 0)]) (m1:=(4,.rowP [.c (ze h0),.own 31 h1.length,.c (ze (h2++[⟨a3,false,noE,a4,w.clock+a5⟩]))] 44)::(bnB s (p+1+1+1+1+1+1) w (.c (zw w.leases)) (.own 4 3)++[(31,.row (h1.map zB) 7 48)])) (zj.pull 4 15 (m3:=bnB s (p+1+1+1+1+1+1) w (.c (zw w.leases)) (.own 4 3)++[(31,.row (h1.map zB) 7 48)]) (Lp':=[.c (ze h0),.own 31 h1.length,.c (ze (h2++[⟨a3,false,noE,a4,w.clock+a5⟩]))]) rfl rfl (by simp [frA,fr1,ze]<;>rfl) rfl ?_) ?_
   ·refine dr ?_;repeat (refine oB (by first|(simp; done)|(simp [ze]; rfl)) ?_; first|refine dr ?_|exact dz)
    trivial
   refine zj.trans (z:=none) (F1:=[(4,.ptr 64 0),(5,.ptr 80 0)]) (m1:=(4,.row [ze (h0),ze (h1),ze (h2++[⟨a3,false,noE,a4,w.clock+a5⟩])] 1 44)::(bnB s (p+1+1+1+1+1+1) w (.c (zw w.leases)) (.own 4 3))) (zj.er (zj.pull 4 31 (m3:=bnB s (p+1+1+1+1+1+1) w (.c (zw w.leases)) (.own 4 3)) (Lp':=[.c (ze h0),.c (ze h1),.c (ze (h2++[⟨a3,false,noE,a4,w.clock+a5⟩]))]) rfl rfl (by simp [frA,fr1,ze]<;>rfl) rfl ?_) rfl) ?_
   ·refine dr ?_;repeat (refine oB (by first|(simp; done)|(simp [ze]; rfl)) ?_; first|refine dr ?_|exact dz)
    trivial
   refine dr ?_;repeat (refine oB (by first|(simp; done)|(simp [ze]; rfl)) ?_; first|refine dr ?_|exact dz)
   trivial
 ·refine dr ?_;apply cP<;>intro k0
  ·refine dr ?_;refine oW (yi W0 s (p+1) [-3,1,-1,10000] hs (by omega) (by decide)) rfl ⟨rfl,trivial⟩ rfl rfl ⟨1,by decide⟩ fun y hy=>⟨rfl,?_⟩
   have hy2 : -3≤y∧y≤10000:=by
    simp only [List.mem_cons,List.not_mem_nil,or_false] at hy;omega
   refine dEr ?_;repeat (refine oB (by omega) ?_; first|refine dEr ?_|exact dz)
   refine ⟨({ w with clock:=w.clock+y },p+1+1),⟨hw.set (.inl rfl) (by simp) rfl rfl (by simp) (by simp only; omega) (by simp only; omega),by simp only; omega,by simp only; omega⟩,qR _ (z:=none) ?_⟩;refine dr ?_;repeat (refine oB (by simp) ?_; first|refine dr ?_|exact dz)
   trivial
  refine dr ?_;apply cP<;>intro k1
  ·refine dr ?_;repeat (refine oB (by omega) ?_; first|refine dr ?_|exact dz)
   refine oW (yi W0 s (p+1) [0,-1,w.count - 1,10000] hs (by omega) (by simp)) rfl ⟨rfl,trivial⟩ rfl rfl ⟨0,by simp⟩ fun y hy=>⟨rfl,?_⟩
   have hy2:y=0∨y = -1∨y=w.count - 1∨y=10000:=by
    simpa only [List.mem_cons,List.not_mem_nil,or_false] using hy
   refine dEr ?_;refine ⟨({ w with count:=y },p+1+1),⟨hw.set (.inl rfl) (by simp) rfl rfl (by simp) (by simp only; omega) (by simp only; omega),by simp only; omega,by simp only; omega⟩,qR _ (z:=none) ?_⟩;refine dr ?_;repeat (refine oB (by simp) ?_; first|refine dr ?_|exact dz)
   trivial
  refine dr ?_;apply cP<;>intro k2
  ·refine dr ?_;apply cP<;>intro j2
   ·refine dr ?_;repeat (refine sLoM 1 rfl (by omega) ?_; first|refine dr ?_|exact dz)
    refine ⟨({ w with leases:=w.leases.drop 1 },p+1),⟨hw.set (.inl rfl) (by simp; omega) rfl rfl (by simp) (by simp only; omega) (by simp only; omega),by simp only; omega,by simp only; omega⟩,qR _ (z:=none) ?_⟩;refine dr ?_;repeat (refine oB (by simp) ?_; first|refine dr ?_|exact dz)
    trivial
   ·refine dr ?_;refine ⟨(w,p+1),⟨hw',by simp only; omega,by simp only; omega⟩,qR w (z:=none) ?_⟩;refine dr ?_;trivial
  refine dr ?_;apply cP<;>intro k3
  ·exact absurd k3 hv3
  refine dr ?_;apply cP<;>intro k4
  ·exact absurd k4 hv4
  clear k3 k4;refine dr ?_;apply cP<;>intro k5
  ·refine dr ?_;refine oW (zU W0 s (p+1) 3 hs (by omega) (by omega)) rfl ⟨rfl,trivial⟩ rfl rfl ⟨0,by omega,by omega⟩ fun k hk=>⟨rfl,?_⟩
   obtain ⟨k,rfl⟩:∃ j:Nat,k=j:=⟨k.toNat,by omega⟩;have hk':k < w.floors.length:=by have:=hk.2 (by omega); omega
   refine dEr ?_;repeat (refine oB (by omega) ?_; first|refine dEr ?_|exact dz)
   refine oW (yi W0 s (p+1+1) [-1,w.count,w.count+1,0] hs (by omega) (by simp)) rfl ⟨rfl,trivial⟩ rfl rfl ⟨0,by simp⟩ fun y hy=>⟨rfl,?_⟩
   refine dEr ?_;repeat ((first|refine aM (j:=k) rfl (by omega) ?_|refine nE (j:=k) rfl ?_); first|refine dEr ?_|exact dz)
   refine ⟨({ w with floors:=w.floors.set k y },p+1+1+1),⟨hw.set (.inl rfl) (by simp) rfl (by simp) (by simp) (by simp only; omega) (by simp only; omega),by simp only; omega,by simp only; omega⟩,qR _ (z:=none) ?_⟩;refine dr ?_;repeat (refine oB (by first|(simp; done)|(simp [List.map_set]; done)) ?_; first|refine dr ?_|exact dz)
   trivial
  refine dr ?_;apply cP<;>intro k6
  ·refine dr ?_;apply cP<;>intro j6
   ·refine dr ?_;refine oW (zU W0 s (p+1) w.net.length hs (by omega) (by omega)) rfl ⟨rfl,trivial⟩ rfl rfl ⟨0,by omega,by omega⟩ fun k hk=>⟨rfl,?_⟩
    obtain ⟨k,rfl⟩:∃ j:Nat,k=j:=⟨k.toNat,by omega⟩;have hk':k < w.net.length:=by have:=hk.2 (by omega); omega
    refine dEr ?_;refine oW (yi W0 s (p+1+1) [0,5,2,4] hs (by omega) (by decide)) rfl ⟨rfl,trivial⟩ rfl rfl ⟨0,by decide⟩ fun y hy=>⟨rfl,?_⟩
    refine dEr ?_;repeat ((first|refine aM (j:=k) rfl (by omega) ?_|refine nE (j:=k) rfl ?_); first|refine dEr ?_|exact dz)
    refine ⟨({ w with net:=w.net.set k ⟨y,w.net[k].who,w.net[k].hold⟩ },p+1+1+1),⟨hw.set (.inl rfl) (by simp) rfl rfl (by simp) (by simp only; omega) (by simp only; omega),by simp only; omega,by simp only; omega⟩,qR _ (z:=none) ?_⟩;refine dr ?_;repeat (refine oB (by first|(simp; done)|(simp [List.map_set]; rfl)) ?_; first|refine dr ?_|exact dz)
    trivial
   ·refine dr ?_;refine ⟨(w,p+1),⟨hw',by simp only; omega,by simp only; omega⟩,qR w (z:=none) ?_⟩;refine dr ?_;trivial
  refine dr ?_;apply cP<;>intro k7
  ·refine dr ?_;refine oW (zU W0 s (p+1) 4 hs (by omega) (by omega)) rfl ⟨rfl,trivial⟩ rfl rfl ⟨0,by omega,by omega⟩ fun a1 ha1=>⟨rfl,?_⟩
   have ha1':=ha1.2 (by omega);have ha1'':=ha1.1;refine dEr ?_;repeat (refine oB (by omega) ?_; first|refine dEr ?_|exact dz)
   refine oW (zU W0 s (p+1+1) 4 hs (by omega) (by omega)) rfl ⟨rfl,trivial⟩ rfl rfl ⟨0,by omega,by omega⟩ fun a2 ha2=>⟨rfl,?_⟩
   refine dEr ?_;refine oW (qT W0 s (p+1+1+1) hs (by omega)) rfl ⟨rfl,trivial⟩ rfl rfl ⟨_,List.mem_cons_self⟩ fun a3 ha3=>⟨rfl,?_⟩
   refine dEr ?_;refine oW (zU W0 s (p+1+1+1+1) 4 hs (by omega) (by omega)) rfl ⟨rfl,trivial⟩ rfl rfl ⟨0,by omega,by omega⟩ fun a4 ha4=>⟨rfl,?_⟩
   refine dEr ?_;repeat ((first|refine oB (by simp; omega) ?_|refine oB (by simp) ?_); first|refine dEr ?_|exact dz)
   refine ⟨({ w with net:=w.net++[⟨1+a1,a2,⟨a3,false,noE,a4,0⟩⟩] },p+1+1+1+1+1),⟨hw.set (.inl rfl) (by simp) rfl rfl (by simp) (by simp only; omega) (by simp only; omega),by simp only; omega,by simp only; omega⟩,qR _ (z:=none) ?_⟩;refine dr ?_;repeat (refine oB (by first|(simp; done)|(simp; rfl)) ?_; first|refine dr ?_|exact dz)
   trivial
  refine dr ?_;apply cP<;>intro k8
  ·refine dr ?_;refine ⟨({ w with waits:=!w.waits },p+1),⟨hw.set (.inl rfl) (by simp) rfl rfl (by simp) (by simp only; omega) (by simp only; omega),by simp only; omega,by simp only; omega⟩,qR _ (z:=none) ?_⟩;refine dr ?_;repeat (refine oB (by simp) ?_; first|refine dr ?_|exact dz)
   trivial
  refine dr ?_;apply cP<;>intro k9
  ·have q:=Y7 W0 w.over ⟨2,[47,97],[],[113]⟩;have qs:=@OS.do w.over ⟨2,[47,97],[],[113]⟩
   refine dEr ?_;repeat (refine c0 q rfl ?_; first|refine dEr ?_|exact dz)
   refine ⟨({ w with over:=(oDo w.over ⟨2,[47,97],[],[113]⟩).1 },p+1),⟨hw.set (.inr qs.oz) (by simp) rfl rfl (by simp) (by simp only; omega) (by simp only; omega),by simp only; omega,by simp only; omega⟩,qR _ (z:=none) ?_⟩;refine dr ?_;repeat (refine oB (by simp) ?_; first|refine dr ?_|exact dz)
   trivial
  ·refine dr ?_;refine ⟨(w,p+1),⟨hw',by simp only; omega,by simp only; omega⟩,qR w (z:=none) ?_⟩;refine dr ?_;trivial

def w0W:Wld:=newW noO
theorem w0R:WR 0 w0W:=(WG.new zfJ).wr HZ.new (by omega)
def zj5:XC:=(.s (.r [.ex 2 (.alloc zW)]) (.s (.r [.mv 4 0,.o1 5 33 [4],.mv 3 5]) (.s (.r [.mv 6 3,.mv 7 3,.mv 8 3,.o1 9 35 [8],.o1 10 34 [7,9],.o1 11 34 [6,10],.s1 14 2 11]) .ret)))
theorem zj6:zc Tryz.prog [33,35,34] 27=some (zj5.ac,[(.cell 2 true 14)],12):=by kernel_rfl
theorem znU (W0:World) (c:Str):zv Tryz.prog W0 27 [.c (qy c)] [] (fun x:Wld=>WR 2 x) (fun x => .c (zT x)) (fun _=>[]):=by
 refine fW mixed zj6 fun hg=>?_
 refine dr ?_;refine oW (zoz W0 c) rfl trivial rfl rfl ⟨[],by simp⟩ fun s hs=>⟨rfl,?_⟩
 refine dEr ?_;refine oW (zpe W0 s 0 hs (by omega)) rfl ⟨rfl,trivial⟩ rfl rfl ⟨(w0W,0),w0R,by simp,by simp⟩ fun x hx=>⟨rfl,?_⟩
 obtain ⟨w,q⟩:=x;obtain ⟨a1,a2,a3⟩:WR 0 w∧0≤q∧q≤0+1200:=hx;refine dEr ?_;refine oW (zd9 W0 s q 0 w hs (by omega) (by omega) a1) rfl ⟨rfl,trivial⟩ rfl rfl ⟨(w,q),a1.mono (by omega),by simp only; omega,by simp only; omega⟩ fun x hx=>⟨rfl,?_⟩
 obtain ⟨x,r⟩:=x;obtain ⟨b1,b2,b3⟩:WR 1 x∧q≤r∧r≤q+8:=hx;refine dEr ?_;refine oW (zd9 W0 s r 1 x hs (by omega) (by omega) b1) rfl ⟨rfl,trivial⟩ rfl rfl ⟨(x,r),b1.mono (by omega),by simp only; omega,by simp only; omega⟩ fun y hy=>⟨rfl,?_⟩
 obtain ⟨y,t⟩:=y;have c1:WR 2 y:=hy.1;refine dEr ?_;refine ⟨none,_,_,?_,y,c1,rfl,rfl⟩;refine dr ?_;trivial


open Go Go.RowKit Go.WideShapes Go.ChangeShapes Go.ChangeAt
abbrev RC (W:World) (y:CV) (v:Value):Prop:=RepC W (fun _=>False) y v∧v.oneCell'=true
def Opn {H:Type} (enc:TypeId × Value→H) (P:Program) (W:World) (t:TypeId) {α:Type} (f:α→CV):Prop :=
 ∀ (base:Nat) (sp:Nat→Bool) (held:Bool) (fuel:Nat) (cs:List Value) (x:DataW H × List MemPlace),DataW.trod enc P W base sp held fuel t cs=some x→∃ a:α,za (RC W) (f a).cells cs
section
variable {H:Type} {enc:TypeId × Value→H} {P:Program} {W:World}
theorem zrf {t:TypeId} (ht:P.underlying t=some (.int .u8)):Opn enc P W t (fun b:UInt8=>CU b.toNat):=by
 intro base sp held fuel cs x h;obtain ⟨n,rfl,_,hw⟩:=DataW.trod_int ht h;have hw':0≤n∧n≤255:=by simpa [Lit.wf,IntKind.min,IntKind.max,IntKind.signed,IntKind.bits] using hw
 have e:((UInt8.ofNat n.toNat).toNat:Int)=n:=by simp; omega
 refine ⟨UInt8.ofNat n.toNat,⟨?_,rfl⟩,trivial⟩;show RepC W _ (CU (UInt8.ofNat n.toNat).toNat) _;rw [e];exact .sc (by simpa [wfv,IntKind.min,IntKind.max,IntKind.signed,IntKind.bits] using hw')
theorem Yq {a:Addr} (h:a.spot=none) (n:Nat):a.add n=⟨a.block,a.off+n,none⟩:=by
 unfold Addr.add;split
 ·rename_i hn; subst hn; cases a; simp at h; subst h; rfl
 ·rfl
theorem zc4 {α:Type} {R:CV→Value→Prop} {f:α→CV} {sz:Nat} {g:Nat→List Value}:∀ {L:List α} {k:Nat},(∀ i (h:i < L.length),za R (f L[i]).cells (g (k+i))) →
  za R ((L.map f).flatMap CV.cells) ((List.range' k L.length).flatMap g)
 | [],k,_=>trivial
 | a::L,k,h=>by
  simp only [List.map_cons,List.flatMap_cons,List.length_cons,List.range'_succ];refine za.append (h 0 (by simp)) (zc4 (sz:=sz) (k:=k+1) fun i hi=>?_);have:=h (i+1) (by simp; omega);rw [show k+1+i=k+(i+1) by omega]
  simpa using this
theorem zfn {α:Type} {q:Nat→α→Prop}:∀ {n:Nat},(∀ i,i < n→∃ a,q i a)→∃ L:List α,L.length=n∧∀ i (h:i < L.length),q i L[i]
 | 0,_=>⟨[],rfl,fun i h=>by simp at h⟩
 | n+1,h=>by
  obtain ⟨L,hl,hq⟩:=zfn (n:=n) fun i hi=>h i (by omega)
  obtain ⟨a,ha⟩:=h n (by omega);refine ⟨L++[a],by simp [hl],fun i hi=>?_⟩;by_cases hin:i < L.length
  ·rw [List.getElem_append_left hin]; exact hq i hin
  ·have:i=L.length:=by simp at hi; omega
   subst this;simp only [List.getElem_concat_length];rw [hl]; exact ha
theorem zre {t e:TypeId} {α:Type} {f:α→CV} (sz:Nat) (ht:P.underlying t=some (.slice e)) (hc:P.cellsOf e=sz) (h0:0 < sz) (hf:∀ a,(f a).cells.length=sz) (he:Opn enc P W e f):Opn enc P W t (fun l:List α => .row (l.map f)):=by
 intro base sp held fuel cs x h;rcases DataW.trod_slice ht h with ⟨rfl,_⟩ | ⟨a,len,cap,elems,rest,n,_,rfl,_,_,hle,hcap,helen,hel,_⟩
 ·exact ⟨[],⟨.nil (Nat.zero_le _),rfl⟩,trivial⟩
 ·rw [hc] at hel;have key:∀ i,i < len→∃ (y:α),∃ cs',cs'.length=sz∧(∀ j,j < sz→W.cell? ((a.add (i * sz)).add j)=cs'[j]?)∧za (RC W) (f y).cells cs':=by
   intro i hi;have h1:=hel i hi;have h2:∃ z,elems[i]? = some z:=⟨elems[i]'(by omega),by simp [helen,hi]⟩;obtain ⟨z,h2⟩:=h2;rw [h2] at h1;obtain ⟨cs',h3,h4⟩:=Option.bind_eq_some_iff.1 h1;obtain ⟨y,hy⟩:=he _ _ _ _ _ _ h4;obtain ⟨_,h5,h6⟩:=World.cells?_some h3;exact ⟨y,cs',h5,h6,hy⟩
  obtain ⟨L,hl,hL⟩:=zfn key;refine ⟨L,⟨?_,rfl⟩,trivial⟩;by_cases hne:L=[]
  ·subst hne;simp only [List.length_nil] at hl;subst hl;exact .nil hcap
  ·have hpos:0 < L.length:=List.length_pos_iff.2 hne;have hsp:a.spot=none:=by
    obtain ⟨cs',h5,h6,_⟩:=hL 0 hpos;have:=h6 0 h0;simp only [Nat.zero_mul] at this;have e0:(a.add 0).add 0=a:=by simp [Addr.add]
    rw [e0] at this;have h7:∃ u,cs'[0]? = some u:=⟨cs'[0]'(by omega),by simp [h5,h0]⟩;obtain ⟨u,h7⟩:=h7;rw [h7] at this;unfold World.cell? at this;split at this
    ·split at this
     ·cases this
     ·rename_i hh; simpa using hh
    ·cases this
   let g:Nat→List Value:=fun i=>(List.range sz).map fun j=>(W.cell? ⟨a.block,a.off+(i * sz+j),none⟩).getD undef
   have hg:∀ i (h:i < L.length),za (RC W) (f L[i]).cells (g i)∧∀ j,j < sz→W.cell? ⟨a.block,a.off+(i * sz+j),none⟩=(g i)[j]? := by
    intro i hi;obtain ⟨cs',h5,h6,h7⟩:=hL i hi;have e:g i=cs':=by
     apply List.ext_getElem?;intro j;by_cases hj:j < sz
     ·have:=h6 j hj;rw [Yq hsp,Yq rfl] at this;simp only [g,List.getElem?_map,List.getElem?_range hj,Option.map_some];rw [show a.off+(i * sz+j)=a.off+i * sz+j by omega,this];have:cs'[j]? = some (cs'[j]'(by omega)):=by simp [h5,hj]
      rw [this]; rfl
     ·rw [List.getElem?_eq_none (by simp [g]; omega),List.getElem?_eq_none (by omega)]
    rw [e];refine ⟨h7,fun j hj=>?_⟩;have:=h6 j hj;rw [Yq hsp,Yq rfl] at this;rw [← this,show a.off+i * sz+j=a.off+(i * sz+j) by omega]
   have hall:=zc4 (R:=RC W) (f:=f) (sz:=sz) (g:=g) (L:=L) (k:=0) fun i hi=>by simpa using (hg i hi).1
   have hlen:(L.map f).length=len:=by simpa using hl
   have hcell:∀ (m:Nat),m≤L.length→∀ j v,((List.range' 0 m).flatMap g)[j]? = some v→W.cell? ⟨a.block,a.off+j,none⟩=some v:=by
    intro m;induction m with
    | zero=>intro _ j v hv; simp at hv
    | succ m ih =>
     intro hm j v hv;rw [List.range'_concat,List.flatMap_append] at hv;have hln:∀ m,((List.range' 0 m).flatMap g).length=m * sz:=by
      intro m;induction m with
      | zero=>simp
      | succ m ih=>rw [List.range'_concat,List.flatMap_append,List.length_append,ih]; simp [g,Nat.add_mul]
     by_cases hj:j < m * sz
     ·rw [List.getElem?_append_left (by rw [hln]; exact hj)] at hv;exact ih (by omega) j v hv
     ·rw [List.getElem?_append_right (by rw [hln]; omega),hln] at hv;simp only [Nat.zero_add,Nat.one_mul,List.flatMap_cons,List.flatMap_nil,List.append_nil] at hv;have hj2:j - m * sz < sz:=by
       rcases Nat.lt_or_ge (j - m * sz) sz with h' | h'
       ·exact h'
       ·rw [List.getElem?_eq_none (by simp [g]; omega)] at hv; cases hv
      have:=(hg m (by omega)).2 _ hj2;rw [hv,show m * sz+(j - m * sz)=j by omega] at this;exact this
   obtain ⟨ab,ao,asp⟩:=a;simp only at hsp;subst hsp;rw [← hlen];refine .row (sz:=sz) (vs:=(List.range' 0 L.length).flatMap g) (by simpa using hne) h0 (by rw [hlen]; exact hle) hcap (fun h=>h) ?_ hall.length ?_ ?_ fun j v hv=>?_
   ·intro y hy;obtain ⟨b,_,rfl⟩:=List.mem_map.1 hy;exact hf b
   ·intro i y v hy hv;obtain ⟨u,hu,hr⟩:=hall.get i y hy;rw [hv] at hu; cases hu; exact hr.1
   ·intro v hv;obtain ⟨i,hi⟩:=List.mem_iff_getElem?.1 hv;have hlt:i < ((L.map f).flatMap CV.cells).length:=by
     rw [hall.length]; exact (List.getElem?_eq_some_iff.1 hi).1
    obtain ⟨u,hu,hr⟩:=hall.get i _ (List.getElem?_eq_getElem hlt);rw [hi] at hu; cases hu; exact hr.2
   ·exact hcell L.length (Nat.le_refl _) j v hv
theorem zrd {y:CV} (hy:∀ cs,y ≠ .agg cs) {vs:List Value} (h:za (RC W) y.cells vs):∃ v,vs=[v]∧RC W y v:=by
 have e:y.cells=[y]:=by cases y<;>first|rfl|exact absurd rfl (hy _)
 rw [e] at h
 match vs,h with
 | [v],h=>exact ⟨v,rfl,h.1⟩
theorem zht {t:TypeId} {α:Type} {f:α→CV} (h:Opn enc P W t f) (hf:∀ a cs,f a ≠ .agg cs) {base:Nat} {v:Value} (h1:∀ cs,v ≠ .agg cs)
  {sp:Nat→Bool} {held:Bool} {d:DataW H} {ps:List MemPlace} (hd:DataW.Trod enc P W base sp held t v d ps):∃ a,RepC W (fun _=>False) (f a) v:=by
 obtain ⟨fuel,hx⟩:=hd;obtain ⟨a,ha⟩:=h _ _ _ _ _ _ hx;obtain ⟨u,hu,hr⟩:=zrd (hf a) ha;refine ⟨a,?_⟩;have:v.cells.toList=[v]:=by cases v<;>first|rfl|exact absurd rfl (h1 _)
 rw [this] at hu; cases hu;exact hr.1
theorem zpN {f:FuncId} {args:List CV} {vs:Array Value} (h:Fn P W f args (.c (CB true)) []) (ha:za (RepC W fun _=>False) args vs.toList) :
  Calls P f vs W fun e W'=>e = .returned (.bool true)∧Below W.heap.size W W':=by
 have hlive:∀ b,¬ zi ⟨fun _=>none,fun _=>False⟩ [] b:=by
  rintro b (hb | ⟨id,hb,_⟩)
  ·exact hb
  ·simp [lk] at hb
 have hm:MemOk ⟨fun _=>none,fun _=>False⟩ [] W:=⟨fun id b hb=>by simp [lk] at hb,fun i j b hi=>by simp [lk] at hi,fun b hb=>hb.elim,fun id b hb=>by simp [lk] at hb⟩;refine (h ⟨fun _=>none,fun _=>False⟩ W vs (Below.refl _ _) (MW.start hm fun b hb=>(hlive b hb).elim) ?_).mono ?_
 ·have key:∀ {args:List CV} {us:List Value},za (RepC W fun _=>False) args us→za (Rep ⟨fun _=>none,fun _=>False⟩ [] W) (args.map .c) us:=by
   intro args;induction args with
   | nil=>intro us h; cases us with | nil=>trivial | cons=>exact h.elim
   | cons a l ih =>
    intro us h;cases us with
    | nil=>exact h.elim
    | cons u us =>
     refine ⟨RepC.rep (h.1.mono fun b o v _ hc=>⟨hlive b,hc⟩),ih h.2⟩
  exact key ha
 ·rintro e W' ⟨v,r,m',κ',rfl,⟨rfl,rfl⟩,h1,h2⟩;refine ⟨?_,?_⟩
  ·have:=Rep.c h2;cases this;rfl
  ·have e:=h1.ext;exact ⟨e.os,e.tape,e.output,e.size,fun k hk=>e.block k hk fun ⟨id,hid,_⟩=>by simp [lk] at hid⟩
theorem zg3 (hl:laidOutB P=true) {W':World} (hb:Below W.heap.size W W') {sp:Nat→Bool}:∀ {ts:List TypeId} {vs:List Value} {ds:List (DataW H)} {ps:List MemPlace},(∀ t∈ts,P.readableRec t=true∧t < P.types.size) →
  DataW.TrodAll enc P W 0 (fun _=>true) true ts vs ds ps→(∀ p∈ps,p.block < W.heap.size)→(∀ p∈ps,sp p.block=true)→DataW.TrodAll enc P W' 0 sp true ts vs ds ps
 | [],[],[],ps,_,h,_,_=>h
 | t::ts,v::vs,d::ds,ps,hr,h,hlt,hs=>by
  obtain ⟨p,q,h1,h2,rfl⟩:=h;obtain ⟨h3,h4⟩:=hr t (by simp);exact ⟨p,q,WideElems.Trod_stays hl h3 h4 h1 (fun x hx=>hb.same (hlt x (by simp [hx]))) (fun x hx=>hs x (by simp [hx])),
   zg3 hl hb (fun t ht=>hr t (by simp [ht])) h2 (fun x hx=>hlt x (by simp [hx])) (fun x hx=>hs x (by simp [hx])),rfl⟩
 | [],_::_,_,_,_,h,_,_=>h.elim
 | [],[],_::_,_,_,h,_,_=>h.elim
 | _::_,[],_,_,_,h,_,_=>h.elim
 | _::_,_::_,[],_,_,h,_,_=>h.elim
theorem zqw (hl:laidOutB P=true) {fn:Func} {s:ChangeSpec} {tb:TypeId} {apart fresh handsOn again:Bool} {W':World} {args:Array Value} {ds:List (DataW H)} {before:List MemPlace}
  (hr:(fn.params.toList.all fun t=>P.readableRec t&&decide (t < P.types.size))=true) (hres:fn.resultTypes=#[tb]) (htb:P.underlying tb=some .bool) (hv:s.vars=[])
  (hW:DataW.Whole enc P fn.params.toList s.vars apart W args.toList ds [] before) (hs:s.fn H (ds++[])={ results:=[.lit (.bool true)],args:=ds }) (hb:Below W.heap.size W W') :
  s.post enc P fn apart fresh handsOn again W args (.bool true) W':=by
 have hr:∀ t∈fn.params.toList,P.readableRec t=true∧t < P.types.size:=fun t ht=>by
  have:=List.all_eq_true.1 hr t ht
  simpa using this
 have hlt:∀ p∈before,p.block < W.heap.size:=fun p hp=>hW.lt p hp
 have hW0:=hW;obtain ⟨p,q,hA,hV,hpq,hfz,hnd⟩:=hW;rw [hv] at hV;obtain ⟨_,rfl⟩:=trodVars_none hV;rw [List.append_nil] at hpq;subst hpq;have hbool:∀ (b:Nat) (sp:Nat→Bool) (hd:Bool),DataW.TrodAll enc P W' b sp hd fn.resultTypes.toList ((Value.bool true).resultList fn.resultTypes.size) (s.fn H (ds++[])).results []:=by
  intro b sp hd;rw [hres,hs];exact trodAll_mk1 ⟨1,by simp [DataW.trod,Value.cells,htb]⟩
 have hargs:∀ sp:Nat→Bool,(∀ x∈before,sp x.block=true)→DataW.TrodAll enc P W' 0 sp true fn.params.toList args.toList ds before:=fun sp hsp=>zg3 hl hb hr hA hlt hsp
 have hvars:∀ sp,DataW.TrodVars enc P W' sp s.vars [] []:=fun sp=>by rw [hv]; rfl
 refine ⟨ds,[],before,[],before,[],hW0,hbool _ _ _,?_,?_,World.keptBut_mono (fun x hx=>⟨hx,.inr (.inl hx)⟩) (hb.frame (·∈before)),fun _=>⟨fun j t r ht hr'=>?_,(s.fn H (ds++[])).results++ds,[],before,⟨before,[],?_,?_,(List.append_nil _).symm,fun b off hx=>?_,hnd⟩,fun x hx _=>hx⟩⟩
 ·rw [hs]; exact hargs _ fun x hx=>by simpa using hlt x hx
 ·rw [hs]; exact hvars _
 ·rw [hres] at ht hr'
  match j,ht,hr' with
  | 0,ht,hr' =>
   have e1:tb=t:=by simpa using ht
   have e2:Value.bool true=r:=by simpa [Value.resultList] using hr'
   subst e1 e2;simp [Value.okWide,htb,Cell.okWide,Cell.ok]
  | j+1,ht,_=>simp at ht
 ·have:=trodAll_append (hargs (fun _=>true) fun _ _=>rfl) (hbool 0 (fun _=>true) true)
  simpa using this
 ·exact hvars _
 ·rw [hb.frozen (hlt _ hx)]; exact hfz b off hx
end

theorem laidOut:laidOutB Tryz.prog=true:=by kernel_rfl
theorem ownK:ownKnob Tryz.prog.godebug=none:=by kernel_rfl
section
variable {H:Type} {enc:TypeId × Value→H} {W:World}
set_option maxRecDepth 100000 in
theorem zhs {r:Reach} {b:Nat} {v:Value} (h:Value.okWide Tryz.prog W r b 22 v):∀ cs,v ≠ .agg cs:=by
 rintro cs rfl;unfold Value.okWide at h;rw [Tryz.underlying22] at h;unfold Cell.okWide at h;rw [Tryz.underlying22] at h;unfold Cell.ok at h;rw [Tryz.underlying22] at h;exact h
theorem zqZ:Opn enc Tryz.prog W 22 qy:=zre (f:=fun b:UInt8=>CU b.toNat) 1 (by kernel_rfl) (by kernel_rfl) (by decide) (fun _=>rfl) (zrf (t:=5) (by kernel_rfl))
end

def zro:List Value:=[128,191,160,191,128,159,144,191,128,143,0,0,0,0,0,0,0,0,0,0,0,0,0,0,0,0,0,0,0,0,0,0].map fun n:Nat=>Value.int .u8 (n:Int)
def firstCells:List Value:=Go.Pinned.utf8FirstZ.map fun n:Nat=>Value.int .u8 (n:Int)
def laidW (P:Program) (os:Os):World:=Sort.mapBlock (Sort.mapBlock (World.holding P os ⟨#[],#[],[]⟩) 2 fun _=>zro.toArray) 1 fun _=>firstCells.toArray

theorem zqa {W:World} (h:W.ShapedOpen Tryz.prog):HM W :=
 Go.Proofs.cell_of_shapedOpen_int (zero:=#[.int .i64 0]) (t:=3) h (of_decide_eq_true (by kernel_rfl)) (by kernel_rfl) rfl (by kernel_rfl) (by kernel_rfl) Tryz.underlying3

theorem xiT {a:Int} {A B:Prop} (h:A):cndX (eqI a a) A B:=by rw [ZE.2 rfl]; exact h
theorem xiF {a:Int} {A B:Prop} (h:B):cndX (!eqI a a) A B:=by rw [ZE.2 rfl]; exact h
theorem xbT {a:Bool} {A B:Prop} (h:A):cndX (eqB a a) A B:=by rw [Jk.2 rfl]; exact h
theorem xbF {a:Bool} {A B:Prop} (h:B):cndX (!eqB a a) A B:=by rw [Jk.2 rfl]; exact h
theorem xiN {a b:Int} {A B:Prop} (k:B) (h:a≠b:=by decide):cndX (eqI a b) A B:=by rw [zbq.2 h]; exact k
theorem xiM {a b:Int} {A B:Prop} (k:A) (h:a≠b:=by decide):cndX (!eqI a b) A B:=by rw [zbq.2 h]; exact k
theorem xbN {a b:Bool} {A B:Prop} (k:B) (h:a≠b:=by decide):cndX (eqB a b) A B:=by rw [zbp.2 h]; exact k
theorem xbM {a b:Bool} {A B:Prop} (k:A) (h:a≠b:=by decide):cndX (!eqB a b) A B:=by rw [zbp.2 h]; exact k
theorem xeT {p d:Str} {b:Bool} {A B:Prop} (h:A):cndX (eqS p p&&(eqB b b&&(eqS d d&&true))) A B:=by rw [JR.2 rfl,Jk.2 rfl,JR.2 rfl]; exact h
theorem xeF {p d:Str} {b:Bool} {A B:Prop} (h:B):cndX (!(eqS p p&&(eqB b b&&(eqS d d&&true)))) A B:=by rw [JR.2 rfl,Jk.2 rfl,JR.2 rfl]; exact h
theorem YU (W0:World) (a b:Over) (h:a=b):Fn Tryz.prog W0 32 [jM a,jM b] (.c (CB true)) []:=by
 have:=zdW W0 a b
 rwa [decide_eq_true h] at this
theorem YS (W0:World) (a b:List Ent) (h:a=b):Fn Tryz.prog W0 31 [zb a,zb b] (.c (CB true)) []:=by
 have:=zdT W0 a b
 rwa [decide_eq_true h] at this
theorem YT (W0:World) (a b:List Mark) (h:a=b):Fn Tryz.prog W0 85 [zf a,zf b] (.c (CB true)) []:=by
 have:=YV W0 a b
 rwa [decide_eq_true h] at this

section
variable {w:Wld}
end

theorem kFn {a b:Int} {A B:Prop} (h:a=b) (k:B):cndX (!eqI a b) A B:=by rw [ZE.2 h]; exact k
theorem zrJ (W0:World) (a:Wld):Fn Tryz.prog W0 21 [zT a,zT a] (.c (CB true)) []:=by
 have:=zow W0 a a
 simpa using this

section
variable {w:Wld}
theorem zfq (h:WG w) (k:Nat):WG { w with net:=w.net.drop k } :=
 h.net (by have:=h.pl.nl; simp; omega) fun m hm=>h.ms m (List.mem_of_mem_drop hm)
theorem zqF (h:WG w) {k:Nat} (hk:k < w.net.length):wDo { w with net:=w.net.drop k } ⟨6,0,[],ji,0⟩=({ w with net:=w.net.drop (k+1) },0):=by
 rw [zc0 (zfq h k),zqE (by simp; omega)];simp [List.tail_drop]
variable {who:Int} {p:Str}
end

def zjT:XC:=(.s (.r [.m1 2 .n]) (.s (.s (.r [.mv 7 0,.n1 8 7,.b1 9 .gtr 8 (.i 1048576)]) (.cnd 9 (.rt 2) .skip)) (.s (.r [.mv 10 0,.o1 11 27 [10],.ex 3 (.alloc zW),.s1 14 3 11]) (.s (.s (.d [.l2 12 14 3,.c1 13 28 [12],.l2 14 14 3,.c1 15 15 [14],.ex 16 (.bb true 13 15),.mv 17 16,.gf 18 (.ld true 14 3) 17,.gf 19 (.call 15 [18]) 17,.gf 20 (.un .not 19) 17,.p1 21 17 20]) (.cnd 21 (.s (.d [.l2 22 14 3,.c1 23 28 [22],.l2 24 14 3,.c1 25 15 [24],.ex 26 (.bb false 23 25),.mv 2 26]) .ret) .skip)) (.s (.r [.l2 27 14 3,.ex 4 (.alloc zW),.s1 14 4 27]) (.s (.blk 0 (.loop (.s (.s (.r [.f1 28 8 4,.l1 29 1 28,.n1 30 29,.b1 31 .gtr 30 (.i 0)]) (.ce 31 0)) (.blk 1 (.s (.r [.m1 5 (.i 0)]) (.s (.r [.l2 33 14 4,.ex 34 (.build zV [(0,(1,(.i 6)))]),.c1 35 16 [33,34],.mv 32 35,.e1 36 32 0,.e1 37 32 1,.s1 14 4 36,.mv 5 37]) (.s (.r [.mv 38 5,.b1 39 .neq 38 (.i 0)]) (.cnd 39 (.rf 2) .skip)))))))) (.s (.r [.l2 40 14 3,.ex 6 (.alloc zW),.s1 14 6 40]) (.s (.r [.f1 41 8 6,.nu (.st 1 41 (.k .nil))]) (.s (.r [.l2 42 14 4,.l2 43 14 6,.c1 44 21 [42,43],.mv 45 44,.gt 46 (.ld true 14 4) 45,.gt 47 (.call 28 [46]) 45,.p2 48 45 47,.mv 2 48]) .ret)))))))))
theorem zjU:zc Tryz.prog [27] 7=some (zjT.ac,[(.t 2)],49):=by kernel_rfl
set_option maxHeartbeats 2000000 in
theorem zn3 (W0:World) (hs:W0.ShapedOpen Tryz.prog) (c0':Str):Fn Tryz.prog W0 7 [qy c0'] (.c (CB true)) []:=by
 refine fX mixed zjU fun hg=>?_
 have hM:=zqa hs;refine dr ?_;apply cP<;>intro h0
 ·exact dz
 refine dr ?_;refine oW (znU W0 c0') rfl trivial rfl rfl ⟨w0W,w0R.mono (by omega)⟩ fun w hw=>⟨rfl,?_⟩
 have zz:HZ 102 w:=(show WR 2 w from hw).z.z;clear hw;have q3:=YY W0 hM w;have q4:=zpD W0 w;have sm:=zrJ W0;by_cases g:WG w;rotate_left
 ·rw [tb_f g] at q3 q4;refine dEr ?_;repeat ((first|refine c0 q3 rfl ?_|refine c0 q4 rfl ?_|apply xiT|apply xiF|apply xbT|apply xbF|refine xiN ?_|refine xiM ?_|refine xbN ?_|refine xbM ?_|apply xeT|apply xeF|refine c0 (YU W0 _ _ rfl) rfl ?_|refine c0 (YS W0 _ _ rfl) rfl ?_|refine c0 (YT W0 _ _ rfl) rfl ?_); first|refine dEr ?_|exact dz)
  exact congrArg CB (Jk.2 rfl)
 rw [tb_t g] at q3 q4;refine dEr ?_;repeat ((first|refine c0 q3 rfl ?_|refine c0 q4 rfl ?_|apply xiT|apply xiF|apply xbT|apply xbF|refine xiN ?_|refine xiM ?_|refine xbN ?_|refine xbM ?_|apply xeT|apply xeF|refine c0 (YU W0 _ _ rfl) rfl ?_|refine c0 (YS W0 _ _ rfl) rfl ?_|refine c0 (YT W0 _ _ rfl) rfl ?_); first|refine dEr ?_|exact dz)
 refine lp (σ:=Nat) (fun k=>[(3,.ptr 48 0),(4,.ptr 64 0)]) (fun k=>[(48,wBx w),(64,wBx { w with net:=w.net.drop k })]) (fun k=>k≤w.net.length) (fun k=>w.net.length - k) 0 (by omega) ?_ ?_
 ·refine dr ?_;trivial
 intro k hk;refine dr ?_;apply cP<;>intro a1
 ·have hk':k < w.net.length:=by
   have a1:(0:Int) < ((w.net.drop k).length:Int):=a1;simp only [List.length_drop] at a1;omega
  have q5:=zov W0 hM { w with net:=w.net.drop k } ⟨6,0,[],ji,0⟩ ⟨by have:=zz.l; exact Nat.le_trans this (by omega),fun x hx=>Nat.le_trans (zz.h x hx) (by omega)⟩;rw [zqF g hk'] at q5;have q5:Fn Tryz.prog W0 16 [zT { w with net:=w.net.drop k },eEv ⟨6,0,[],ji,0⟩] (.c (.tup [zT { w with net:=w.net.drop (k+1) },CI 0])) []:=q5;refine dEr ?_;repeat ((first|refine c0 q5 rfl ?_|refine kFn rfl ?_|apply xiT|apply xiF|apply xbT|apply xbF|refine xiN ?_|refine xiM ?_|refine xbN ?_|refine xbM ?_|apply xeT|apply xeF|refine c0 (YU W0 _ _ rfl) rfl ?_|refine c0 (YS W0 _ _ rfl) rfl ?_|refine c0 (YT W0 _ _ rfl) rfl ?_); first|refine dEr ?_|exact dz)
  refine ⟨k+1,by omega,by omega,?_⟩;refine dr ?_;trivial
 ·have hk':k=w.net.length:=by
   have a1:((w.net.drop k).length:Int)≤0:=a1;simp only [List.length_drop] at a1;omega
  subst hk';have g2:=zfq g w.net.length;rw [List.drop_length] at g2 ⊢;have q6:=YY W0 hM { w with net:=[] };rw [tb_t g2] at q6;refine dEr ?_;repeat ((first|refine c0 (sm { w with net:=[] }) rfl ?_|refine c0 q6 rfl ?_|apply xiT|apply xiF|apply xbT|apply xbF|refine xiN ?_|refine xiM ?_|refine xbN ?_|refine xbM ?_|apply xeT|apply xeF|refine c0 (YU W0 _ _ rfl) rfl ?_|refine c0 (YS W0 _ _ rfl) rfl ?_|refine c0 (YT W0 _ _ rfl) rfl ?_); first|refine dEr ?_|exact dz)
  trace_state
end Go.Proofs.YtopfccpgdldcdaaGreatDoor
