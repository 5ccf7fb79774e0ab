/- The texts Lx5, Bm3, Lx6, Cm1, Dm1, Dm2, Zj, joined; no condition. -/
import Derived.Test.YtmkmldepkponaaaGreatDoorWeD
import Derived.OpenShut
import Derived.Carry
import Derived.ChangeSame
import Derived.ProofKit
import Derived.Test.YtmkmldepkponaaaGreatDoorRows
import Derived.Test.YtmkmldepkponaaaGreatDoorCards
import Derived.Test.YtmkmldepkponaaaGreatDoorTie
import Derived.Deep.DeepHandedRow
import Derived.Lib.LaidTab
import Derived.Sort.Row
import Derived.JoinedOf
import Derived.JoinedCond

namespace Go.Proofs.YtmkmldepkponaaaGreatDoor
set_option linter.unusedSimpArgs false
set_option linter.unusedVariables false
open Go Go.RowKit

def szOp (o:Op) (l:Int):Int:=if l - o.path.length < 0 then -1 else if l - o.path.length - o.dest.length < 0 then -1 else qR o.data (l - o.path.length - o.dest.length)
theorem zoM {e:Op} {l:Int} (h : -1≤l) : -1≤szOp e l∧szOp e l≤l:=by
 unfold szOp; split
 ·omega
 split
 ·omega
 ·have:=@zbS e.data (l - e.path.length - e.dest.length) (by omega); omega
def zio:XC:=(.s (.r [.x1 2 0,.m1 4 (.i 0)]) (.s (.r [.mv 5 1,.f1 6 1 2,.l1 7 1 6,.ex 8 (.len true 7),.b1 9 .sub 5 8,.mv 1 9]) (.s (.s (.r [.mv 10 1,.b1 11 .lss 10 (.i 0)]) (.cnd 11 (.s (.r [.ex 4 (.mv (.k (.c (.sc (.int .i64 (.negSucc 0))))))]) .ret) .skip)) (.s (.r [.mv 12 1,.f1 13 2 2,.l1 14 1 13,.ex 15 (.len true 14),.b1 16 .sub 12 15,.mv 1 16]) (.s (.s (.r [.mv 17 1,.b1 18 .lss 17 (.i 0)]) (.cnd 18 (.s (.r [.ex 4 (.mv (.k (.c (.sc (.int .i64 (.negSucc 0))))))]) .ret) .skip)) (.s (.r [.mv 19 1,.f1 20 3 2,.l1 21 1 20,.ex 22 (.len true 21),.b1 23 .sub 19 22,.mv 1 23]) (.s (.s (.r [.mv 24 1,.b1 25 .lss 24 (.i 0)]) (.cnd 25 (.s (.r [.ex 4 (.mv (.k (.c (.sc (.int .i64 (.negSucc 0))))))]) .ret) .skip)) (.s (.r [.mv 26 1,.mv 4 26]) .ret))))))))
theorem zip:zf Tryz.prog [] 37=some (zio.ac,[(.t 4)],27):=by kernel_rfl
theorem zlQ (W0:World) (e:Op) (l:Int) (h : -1≤l∧l≤1048576):Fn Tryz.prog W0 37 [eOp e,CI l] (.c (CI (szOp e l))) []:=by
 refine fX mixed zip fun hg=>?_
 have g0:=J9 (hg _ (by simp:eOp e∈_));have g1:=yW (g0 _ (by simp:CS e.path∈_));have g2:=yW (g0 _ (by simp:CS e.dest∈_));have g3:=yW (g0 _ (by simp:CS e.data∈_));refine dr ?_;apply cP<;>intro h1
 ·refine dr ?_;simp only [szOp,h1,if_true]<;>rfl
 refine dr ?_;apply cP<;>intro h2
 ·refine dr ?_;simp only [szOp,Int.not_lt.2 h1,if_false,h2,if_true]<;>rfl
 refine dr ?_;apply cP<;>intro h3
 ·refine dr ?_;simp only [szOp,qR,Int.not_lt.2 h1,Int.not_lt.2 h2,if_false,h3,if_true]<;>rfl
 ·refine dr ?_;simp only [szOp,qR,Int.not_lt.2 h1,Int.not_lt.2 h2,Int.not_lt.2 h3,if_false]
def ziC:XC:=(.s (.r [.x1 1 0,.ex 2 (.alloc [(I 0),sE,sE,sE])]) (.s (.r [.ex 3 (.alloc [(I 0),sE,sE,sE])]) (.s (.r [.f1 4 0 1,.l1 5 1 4,.f1 6 0 3,.s1 1 6 5]) (.s (.r [.f1 7 1 1,.l1 8 1 7,.f1 9 1 3,.s1 1 9 8]) (.s (.r [.f1 10 2 1,.l1 11 1 10,.f1 12 2 3,.s1 1 12 11]) (.s (.r [.f1 13 3 1,.l1 14 1 13,.f1 15 3 3,.s1 1 15 14]) (.s (.r [.l2 16 4 3,.s1 4 2 16]) .ret)))))))
theorem ziD:zf Tryz.prog [] 39=some (ziC.ac,[(.cell 2 true 4)],17):=by kernel_rfl
theorem zlW (W0:World) (e:Op):Fn Tryz.prog W0 39 [eOp e] (.c (eOp e)) []:=by
 refine fX mixed ziD fun hg=>?_
 refine dr ?_;rfl

theorem zm5 {id:Nat} (h:Nat.mod id 16=9):YE [1000009] id=false:=by
 have e:∀ k,Nat.beq 9 k=true→(match Nat.beq 9 k with | true=>false | false=>true)=false:=fun k hk=>by rw [hk]
 exact e (Nat.mod id 16) (by rw [h]; rfl)
theorem dom9 {o:Over} {M m:XM} (v:OvV 9 o M):domB [1000009] m (apX M m)=true:=by
 refine qV fun p hp=>?_
 by_cases h:p.1 % 16=9
 ·refine .inl ?_;unfold hiN;cases Nat.ble 3 p.1 with
  | false=>rfl
  | true=>exact zm5 h
 ·refine .inr ?_;have:=ye hp;rw [v.skip (by omega)] at this;exact this
abbrev boxP (op:Op):XB := .box [.c (CI op.kind),.c (CS op.path),.c (CS op.dest),.c (CS op.data)]
def zhI:XC:=(.s (.r [.x1 2 0,.x1 3 1,.m1 4 .n]) (.s (.r [.m1 5 (.i 1048576)]) (.s (.r [.l2 16 3 2,.mv 17 5,.c1 18 17 [16,17],.mv 5 18]) (.s (.s (.r [.mv 19 5,.b1 20 .lss 19 (.i 0)]) (.cnd 20 (.rt 4) .skip)) (.s (.r [.l2 21 4 3,.mv 22 5,.c1 23 37 [21,22],.mv 5 23]) (.s (.s (.r [.mv 24 5,.b1 25 .lss 24 (.i 0)]) (.cnd 25 (.rt 4) .skip)) (.s (.d [.exo [1000009] 27 (.ld true 3 2),.exo [1000009] 28 (.opn 19 [27]),.exo [1000009] 29 (.ld true 4 3),.exo [1000009] 30 (.opn 39 [29]),.exo [1000009] 31 (.opn 38 [28,30]),.mv 26 31,.e1 32 26 0,.e1 33 26 1,.ex 6 (.newb [.nil,.nil,.nil]),.s1 3 6 32,.mv 7 33]) (.cut (.r [.l2 34 3 2,.o1 35 19 [34],.ex 8 (.newb [.nil,.nil,.nil]),.s1 3 8 35]) (.cut (.d [.exo [1000009] 37 (.ld true 3 8),.exo [1000009] 38 (.ld true 4 3),.exo [1000009] 39 (.opn 39 [38]),.exo [1000009] 40 (.opn 40 [37,39]),.mv 36 40,.e1 41 36 0,.e1 42 36 1,.ex 9 (.newb [.nil,.nil,.nil]),.s1 3 9 41,.mv 10 42]) (.s (.s (.r [.l2 43 3 9,.l2 44 3 6,.c1 45 22 [43,44],.u1 46 45,.mv 47 46,.h3 48 10 47,.h3 49 7 47,.gf 50 (.bin .neq 48 49) 47,.p1 51 47 50]) (.cnd 51 (.rf 4) .skip)) (.s (.s (.d [.exo [1000009] 52 (.ld true 3 8),.exo [1000009] 53 (.ld true 3 2),.exo [1000009] 54 (.opn 19 [53]),.c1 55 22 [52,54],.u1 56 55]) (.cnd 56 (.rf 4) .skip)) (.s (.r [.m1 11 (.i 1)]) (.cut (.r [.l2 57 3 8,.mv 58 11,.o1 59 23 [57,58],.mv 11 59]) (.s (.s (.r [.mv 60 11,.b1 61 .lss 60 (.i 0),.mv 62 61,.gf 63 (.ld true 3 9) 62,.gf 64 (.ld true 3 6) 62,.gf 65 (.call 22 [63,64]) 62,.gf 66 (.un .not 65) 62,.p1 67 62 66,.mv 68 67,.h3 69 10 68,.h3 70 7 68,.gf 71 (.bin .neq 69 70) 68,.p1 72 68 71]) (.cnd 72 (.rf 4) .skip)) (.s (.r [.m1 12 (.i 1)]) (.cut (.r [.l2 73 3 9,.mv 74 12,.o1 75 23 [73,74],.mv 12 75]) (.s (.r [.m1 13 (.i 1)]) (.s (.r [.l2 76 3 9,.mv 77 13,.c1 78 30 [76,77],.mv 13 78]) (.s (.s (.r [.mv 79 13,.b1 80 .lss 79 (.i 0)]) (.cnd 80 (.rf 4) .skip)) (.s (.s (.r [.mv 81 13,.mv 82 12,.b1 83 .neq 81 82]) (.cnd 83 (.rf 4) .skip)) (.cut (.d [.exo [1000009] 85 (.ld true 3 2),.exo [1000009] 86 (.opn 19 [85]),.exo [1000009] 87 (.ld true 4 3),.exo [1000009] 88 (.opn 39 [87]),.exo [1000009] 89 (.opn 40 [86,88]),.mv 84 89,.e1 90 84 0,.e1 91 84 1,.ex 14 (.newb [.nil,.nil,.nil]),.s1 3 14 90,.mv 15 91]) (.s (.s (.r [.l2 92 3 14,.l2 93 3 6,.c1 94 22 [92,93],.u1 95 94,.mv 96 95,.h3 97 15 96,.h3 98 7 96,.gf 99 (.bin .neq 97 98) 96,.p1 100 96 99]) (.cnd 100 (.rf 4) .skip)) (.s (.r [.m1 13 (.i 1)]) (.s (.r [.l2 101 3 9,.mv 102 13,.c1 103 30 [101,102],.mv 13 103]) (.s (.s (.r [.mv 104 13,.b1 105 .lss 104 (.i 0)]) (.cnd 105 (.rf 4) .skip)) (.s (.s (.r [.mv 106 13,.mv 107 12,.b1 108 .neq 106 107]) (.cnd 108 (.rf 4) .skip)) (.rt 4)))))))))))))))))))))))))))
theorem zhJ:zf Tryz.prog [19,39,40,38,23,999997,2000009] 10=some (zhI.ac,[(.t 4)],109):=by kernel_rfl
theorem zkO (W0:World) (hs:W0.ShapedOpen Tryz.prog) (a:Over) (op:Op):Fn Tryz.prog W0 10 [zT a,eOp op] (.c (CB true)) []:=by
 have hM:=zmo hs;refine fX' mixed zhJ fun hg=>?_
 have z1:=@zoO a 1048576 (by omega);refine dEr ?_;repeat (refine c0 (zlR W0 a _ (by omega)) rfl ?_; first|refine dEr ?_|exact dz)
 apply cP<;>intro h1
 ·exact dz
 have z2:=@zoM op _ z1.1;refine dEr ?_;repeat (refine c0 (zlQ W0 op _ (by omega)) rfl ?_; first|refine dEr ?_|exact dz)
 apply cP<;>intro h2
 ·exact dz
 have fa:=zoN (by omega) (by omega) h1;have qt:=zlX W0 a fa.h1 fa.h2 fa.h3 fa.h4;have qp:=zlW W0 op;have qs:=zlI W0 a op;have qi:=zk4 W0 hM a op;have qo:=zlY W0 a fa.h1 fa.h2 fa.h3 fa.h4;have qv:∀ u:Over,Fn Tryz.prog W0 22 [zT u,zT u] (.c (CB true)) []:=fun u=>by
  have:=zk0 W0 u u
  rwa [show decide (u=u)=true by simp] at this
 have hmk:mkK 1 a≤100000000:=by have:=@zmZ a 1048576 1 (by omega) h1; omega
 have hmk0:=@zex 1 a;have qm:=zc9 W0 1 a ⟨by omega,hmk⟩ fa.h1 fa.h2 fa.h3 fa.h4;have eL:∀ u:Over,(lmL u).map CV.row=u.layers.map zh:=fun u=>by unfold lmL; rw [List.map_map]; rfl
 obtain ⟨M7,v7⟩:=ovV 7 a (by omega);rw [← v7.e] at qo qm;generalize hw:oDo a op=wb at *;obtain ⟨w,b⟩:=wb;rw [show eOC (w,b) = .tup [zT w,CI b] from rfl] at qs qi;refine dEr ?_;repeat ((first|refine oN qt rfl ?_|refine oN qp rfl ?_|refine oN qs rfl ?_|refine oB rfl ?_); first|refine dEr ?_|exact dz)
 refine cutz (σ:=Unit) 3 (fun _=>[(2,.ptr 32 0),(3,.ptr 48 0),(4,B false),(6,.ptr 96 0),(7,I b),(8,.ptr 128 0)])
  (fun _=>(32,zK a)::(48,boxP op)::(96,zK w)::(128,boxO 7 a)::M7) (fun _=>True) ?_ ?_
 ·refine dr ?_;refine oF (cs:=[zT a]) qo rfl rfl rfl ⟨(),trivial⟩ fun _ _=>⟨rfl,?_,?_⟩
  ·rw [v7.e];exact zbo rfl rfl rfl fun i=>by show lkX [_,_,_] _=none; rw [zc (by simp<;>omega),zc (by simp<;>omega),zc (by simp<;>omega)]; rfl
  refine dEr ?_;repeat (refine oB ((v7.skip (id:=128) (by decide)).trans rfl) ?_; first|refine dEr ?_|exact dz)
  refine ⟨(),trivial,?_⟩;have s7:LkO 7 a ((32,zK a)::(48,boxP op)::(96,zK w)::(128,boxO 7 a)::M7):=(((v7.self.cons (by decide)).cons (by decide)).cons (by decide)).cons (by decide);have hk:∀ {x:Nat × XB} {m:XM} {id:Nat},id≠x.1→id % 16≠7→lkX (x::apX M7 m) id=lkX m id:=fun h h'=>by rw [zc h,v7.skip h']
  refine zy.ls ⟨rfl,rfl,rfl,rfl,rfl,rfl,trivial⟩ ⟨(jA (P:=[_]) rfl).trans ((v7.skip (id:=32) (by decide)).trans rfl),(jA (P:=[_]) rfl).trans ((v7.skip (id:=48) (by decide)).trans rfl),(jA (P:=[_]) rfl).trans ((v7.skip (id:=96) (by decide)).trans rfl),rfl,v7.mmS (v7.ap.cons (by decide))⟩ (fun id h=>by cases h)
   (zi rfl (zi rfl (zi rfl (zi s7.inBox (v7.inB s7))))) rfl
 intro _ _;have l7:LkO 7 a ((32,zK a)::(48,boxP op)::(96,zK w)::(128,boxO 7 a)::M7):=(((v7.self.cons (by decide)).cons (by decide)).cons (by decide)).cons (by decide);cases ho:oOk a with
 | false =>
  rw [oDo,if_neg (by simp [ho])] at hw;cases hw;have t7:LkO 7 a ((32,zK a)::(48,boxP op)::(96,zK noO)::(128,boxO 7 a)::(144,zK noO)::M7):=((((v7.self.cons (by decide)).cons (by decide)).cons (by decide)).cons (by decide)).cons (by decide);refine cutz (σ:=Unit) 3 (fun _=>[(2,.ptr 32 0),(3,.ptr 48 0),(4,B false),(6,.ptr 96 0),(7,I 1),(8,.ptr 128 0),(9,.ptr 144 0),(10,I 1)])
   (fun _=>(32,zK a)::(48,boxP op)::(96,zK noO)::(128,boxO 7 a)::(144,zK noO)::M7) (fun _=>True) ?_ ?_
  ·refine dr ?_;refine oN qp rfl ?_;dsimp only [apX];refine yb (qV fun p hp => .inr (ye hp)) (qH ⟨rfl,rfl,rfl,rfl,v7.mmS l7⟩ ?_);refine dr ?_;refine oF (cs:=[zT a,eOp op]) qi.funW (l7.snap rfl) (zi rfl (zi rfl (zi rfl (zi l7.inBox (v7.inB l7))))) (zi l7.inBox rfl) ⟨(),trivial⟩ fun _ _=>⟨rfl,trivial,?_⟩
   dsimp only [apX];refine yb (qV fun p hp => .inr (ye hp)) (qH ⟨rfl,rfl,rfl,rfl,v7.mmS l7⟩ ?_);refine dEr ?_;repeat (refine oB ((jA (P:=[_,_,_,_]) rfl).trans (v7.no (by decide))) ?_; first|refine dEr ?_|exact dz)
   refine ⟨(),trivial,?_⟩;exact zy.ls ⟨rfl,rfl,rfl,rfl,rfl,rfl,rfl,rfl,trivial⟩ ⟨rfl,rfl,rfl,rfl,rfl,v7.mmS (l7.cons (by decide))⟩ (fun id h=>by cases h) (zi rfl (zi rfl (zi rfl (zi t7.inBox (zi rfl (v7.inB t7)))))) rfl
  intro _ _;refine dEr ?_;repeat ((first|refine c0 (qv noO) rfl ?_|refine kNN ?_); first|refine dEr ?_|exact dz)
  refine oN qt rfl ?_;dsimp only [apX];refine yb (qV fun p hp => .inr (ye hp)) (qH ⟨rfl,rfl,rfl,rfl,rfl,v7.mmS t7⟩ ?_);refine dEr ?_;rw [t7.h1];refine dr ?_;repeat (refine oB (by simp) ?_; first|refine dr ?_|exact dz)
  rw [t7.h3];refine dr ?_;repeat (refine oB (by simp [qO,lmL]) ?_; first|refine dr ?_|exact dz)
  refine Zy t7.h4 ?_;rw [eL];refine dEr ?_;rw [t7.h2];refine dEr ?_;repeat ((first|refine oB (by simp) ?_|refine c0 (qv a) rfl ?_|refine kBB ?_); first|refine dEr ?_|exact dz)
  refine cutz (σ:=Unit) 3 (fun _=>[(2,.ptr 32 0),(3,.ptr 48 0),(4,B false),(6,.ptr 96 0),(7,I 1),(9,.ptr 144 0),(10,I 1),(11,I (mkK 1 a))])
   (fun _=>[(32,zK a),(48,boxP op),(96,zK noO),(144,zK noO)]) (fun _=>True) ?_ ?_
  ·refine dr ?_;refine oW' qm (fun id b hb=>Jy (l:=M7) (v7.mmS t7) _ (ya hb)) (v7.inB v7.self) (zi v7.self.inBox rfl) ⟨(),trivial⟩ fun _ _=>⟨fun id h => .inl ?_,?_⟩
   ·rw [v7.e,YK (o':=mkO 1 a) ZU.symm]; exact h
   refine dEr ?_;refine ⟨(),trivial,?_⟩;have hmg:∀ {m:XM} {id:Nat},id % 16≠7→lkX (ju m (ovM 7 (mkO 1 a))) id=lkX m id:=fun h=>by rw [qr,YL h]
   exact zy.ls ⟨rfl,rfl,rfl,rfl,rfl,rfl,rfl,rfl,trivial⟩ ⟨(hmg (by decide)).trans rfl,(hmg (by decide)).trans rfl,(hmg (by decide)).trans rfl,(hmg (by decide)).trans rfl,trivial⟩ (fun id h=>by cases h) rfl rfl
  intro _ _;refine dEr ?_;repeat ((first|refine klf (by omega) ?_|refine c0 (qv noO) rfl ?_|refine kNN ?_); first|refine dEr ?_|exact dz)
  refine cutz (σ:=Unit) 3 (fun _=>[(2,.ptr 32 0),(3,.ptr 48 0),(4,B false),(6,.ptr 96 0),(7,I 1),(9,.ptr 144 0),(10,I 1),(12,I 1)])
   (fun _=>[(32,zK a),(48,boxP op),(96,zK noO),(144,zK noO)]) (fun _=>True) ?_ ?_
  ·refine dr ?_;refine oN (zlw W0) rfl ?_;refine dEr ?_;refine ⟨(),trivial,?_⟩;exact zy.ls ⟨rfl,rfl,rfl,rfl,rfl,rfl,rfl,rfl,trivial⟩ ⟨rfl,rfl,rfl,rfl,trivial⟩ (fun id h=>by cases h) rfl rfl
  intro _ _;refine dEr ?_;repeat ((first|refine c0 (zcU W0) rfl ?_|refine klf (by omega) ?_|refine kNN ?_); first|refine dEr ?_|exact dz)
  refine cutz (σ:=Unit) 3 (fun _=>[(2,.ptr 32 0),(3,.ptr 48 0),(4,B false),(6,.ptr 96 0),(7,I 1),(9,.ptr 144 0),(10,I 1),(12,I 1),(14,.ptr 224 0),(15,I 1)])
   (fun _=>[(32,zK a),(48,boxP op),(96,zK noO),(224,zK noO),(144,zK noO)]) (fun _=>True) ?_ ?_
  ·refine dEr ?_;repeat ((first|refine oN qt rfl ?_|refine oN qp rfl ?_|refine oN qi rfl ?_|refine oB rfl ?_); first|refine dEr ?_|exact dz)
   refine ⟨(),trivial,?_⟩;exact zy.ls ⟨rfl,rfl,rfl,rfl,rfl,rfl,rfl,rfl,rfl,rfl,trivial⟩ ⟨rfl,rfl,rfl,rfl,rfl,trivial⟩ (fun id h=>by cases h) rfl rfl
  intro _ _;refine dEr ?_;repeat ((first|refine c0 (qv noO) rfl ?_|refine kNN ?_|refine c0 (zcU W0) rfl ?_|refine klf (by omega) ?_|refine kNN ?_); first|refine dEr ?_|exact dz)
 | true =>
 obtain ⟨t,x,g⟩:=OG.of ho;have qx:=zkR W0 hM a op t x g w b hw;have os:OS w:=by have:=@OS.do a op; rw [hw] at this; exact this
 obtain ⟨M9,v9⟩:=ovV 9 w (by omega);rw [← v9.e] at qx;have t7:LkO 7 a ((32,zK a)::(48,boxP op)::(96,zK w)::(128,boxO 7 a)::(144,boxO 9 w)::apX M7 M9):=((((v7.ap.cons (by decide)).cons (by decide)).cons (by decide)).cons (by decide)).cons (by decide);have t9:LkO 9 w ((32,zK a)::(48,boxP op)::(96,zK w)::(128,boxO 7 a)::(144,boxO 9 w)::apX M7 M9):=(((((v7.ap2 v9.self (by decide)).cons (by decide)).cons (by decide)).cons (by decide)).cons (by decide)).cons (by decide);refine cutz (σ:=Unit) 3 (fun _=>[(2,.ptr 32 0),(3,.ptr 48 0),(4,B false),(6,.ptr 96 0),(7,I b),(8,.ptr 128 0),(9,.ptr 144 0),(10,I b)])
  (fun _=>(32,zK a)::(48,boxP op)::(96,zK w)::(128,boxO 7 a)::(144,boxO 9 w)::apX M7 M9) (fun _=>True) ?_ ?_
 ·refine dr ?_;refine oN qp rfl ?_;dsimp only [apX];refine yb (qV fun p hp => .inr (ye hp)) (qH ⟨rfl,rfl,rfl,rfl,v7.mmS l7⟩ ?_);refine dr ?_;refine oF (cs:=[zT a,eOp op]) qx (l7.snap rfl) (zi rfl (zi rfl (zi rfl (zi l7.inBox (v7.inB l7))))) (zi l7.inBox rfl) ⟨(),trivial⟩ fun _ _=>⟨rfl,?_,?_⟩
  ·have hn:∀ id,id % 16=9→lkX ((32,zK a)::(48,boxP op)::(96,zK w)::(128,boxO 7 a)::M7) id=none:=fun id h=>by
    rw [zc (by omega),zc (by omega),zc (by omega),zc (by omega),v7.no (by omega)]
   rw [v9.e];exact zbo (hn _ rfl) (hn _ rfl) (hn _ rfl) fun i=>hn _ (by omega)
  dsimp only [apX];refine yb (dom9 v9) (qH ⟨(v9.skip (id:=32) (by decide)).trans rfl,(v9.skip (id:=48) (by decide)).trans rfl,(v9.skip (id:=96) (by decide)).trans rfl,(v9.skip (id:=128) (by decide)).trans rfl,v7.mmS (v9.ap2 l7 (by decide))⟩ ?_);refine dEr ?_;repeat (refine oB ((v9.skip (id:=144) (by decide)).trans ((jA (P:=[_,_,_,_]) rfl).trans (v7.no (by decide)))) ?_; first|refine dEr ?_|exact dz)
  refine ⟨(),trivial,?_⟩;exact zy.ls ⟨rfl,rfl,rfl,rfl,rfl,rfl,rfl,rfl,trivial⟩ ⟨(zc (by decide)).trans ((v9.skip (id:=32) (by decide)).trans rfl),(zc (by decide)).trans ((v9.skip (id:=48) (by decide)).trans rfl),(zc (by decide)).trans ((v9.skip (id:=96) (by decide)).trans rfl),(zc (by decide)).trans ((v9.skip (id:=128) (by decide)).trans rfl),rfl,
    za9 (v7.mmS ((v9.ap2 l7 (by decide)).cons (by decide))) (v9.mmS (v9.ap.cons (by decide)))⟩ (fun id h=>by cases h)
   (zi rfl (zi rfl (zi rfl (zi t7.inBox (zi t9.inBox (zb6 (v7.inB t7) (v9.inB t9))))))) rfl
 intro _ _;refine dEr ?_;rw [t9.h1];refine dr ?_;repeat (refine oB (by simp) ?_; first|refine dr ?_|exact dz)
 rw [t9.h3];refine dr ?_;repeat (refine oB (by simp [qO,lmL]) ?_; first|refine dr ?_|exact dz)
 refine Zy t9.h4 ?_;rw [eL];refine dEr ?_;rw [t9.h2];refine dEr ?_;repeat ((first|refine oB (by simp) ?_|refine c0 (qv w) rfl ?_|refine kNN ?_); first|refine dEr ?_|exact dz)
 refine oN qt rfl ?_;dsimp only [apX];refine yb (qV fun p hp => .inr (ye hp)) (qH ⟨rfl,rfl,rfl,rfl,rfl,za9 (v7.mmS t7) (v9.mmS t9)⟩ ?_);refine dEr ?_;rw [t7.h1];refine dr ?_;repeat (refine oB (by simp) ?_; first|refine dr ?_|exact dz)
 rw [t7.h3];refine dr ?_;repeat (refine oB (by simp [qO,lmL]) ?_; first|refine dr ?_|exact dz)
 refine Zy t7.h4 ?_;rw [eL];refine dEr ?_;rw [t7.h2];refine dEr ?_;repeat ((first|refine oB (by simp) ?_|refine c0 (qv a) rfl ?_|refine kBB ?_); first|refine dEr ?_|exact dz)
 have s9:LkO 9 w ((32,zK a)::(48,boxP op)::(96,zK w)::(144,boxO 9 w)::M9):=(((v9.self.cons (by decide)).cons (by decide)).cons (by decide)).cons (by decide);refine cutz (σ:=Unit) 3 (fun _=>[(2,.ptr 32 0),(3,.ptr 48 0),(4,B false),(6,.ptr 96 0),(7,I b),(9,.ptr 144 0),(10,I b),(11,I (mkK 1 a))])
  (fun _=>(32,zK a)::(48,boxP op)::(96,zK w)::(144,boxO 9 w)::M9) (fun _=>True) ?_ ?_
 ·refine dr ?_;refine oW' qm (fun id b hb=>Jy (l:=M7) (v7.mmS t7) _ (ya hb)) (v7.inB v7.self) (zi v7.self.inBox rfl) ⟨(),trivial⟩ fun _ _=>⟨fun id h => .inl ?_,?_⟩
  ·rw [v7.e,YK (o':=mkO 1 a) ZU.symm]; exact h
  refine dEr ?_;refine ⟨(),trivial,?_⟩;have hmg:∀ {m:XM} {id:Nat},id % 16≠7→lkX (ju m (ovM 7 (mkO 1 a))) id=lkX m id:=fun h=>by rw [qr,YL h]
  exact zy.ls ⟨rfl,rfl,rfl,rfl,rfl,rfl,rfl,rfl,trivial⟩ ⟨(hmg (by decide)).trans rfl,(hmg (by decide)).trans rfl,(hmg (by decide)).trans rfl,(hmg (by decide)).trans rfl,v9.mmS (t9.of fun id h=>hmg (by omega))⟩ (fun id h=>by cases h)
   (zi rfl (zi rfl (zi rfl (zi s9.inBox (v9.inB s9))))) rfl
 intro _ _;refine dEr ?_;repeat (refine klf (by omega) ?_; first|refine dEr ?_|exact dz)
 rw [s9.h1];refine dr ?_;repeat (refine oB (by simp) ?_; first|refine dr ?_|exact dz)
 rw [s9.h3];refine dr ?_;repeat (refine oB (by simp [qO,lmL]) ?_; first|refine dr ?_|exact dz)
 refine Zy s9.h4 ?_;rw [eL];refine dEr ?_;rw [s9.h2];refine dEr ?_;repeat ((first|refine oB (by simp) ?_|refine c0 (qv w) rfl ?_|refine kNN ?_); first|refine dEr ?_|exact dz)
 have hkw:=zm0 os;have hkw0:=@zex 1 w;have qn:=zlt W0 1 w ⟨by omega,hkw⟩ (by have:=os.b; omega) (by have:=os.n; omega) (fun l hl=>by have:=os.l l hl; omega) (by have:=os.u; omega);have qh:=zcT W0 1 w ⟨by omega,hkw⟩ (by have:=os.b; omega) (by have:=os.n; omega) (fun l hl=>by have:=os.l l hl; omega) (by have:=os.u; omega);obtain ⟨N9,u9⟩:=ovV 9 (mkO 1 w) (by omega);rw [← v9.e,← u9.e] at qn;have r9:LkO 9 (mkO 1 w) ((32,zK a)::(48,boxP op)::(96,zK w)::(144,boxO 9 w)::N9):=(((u9.self.cons (by decide)).cons (by decide)).cons (by decide)).cons (by decide);have bN:∀ {m:XM},LkO 9 (mkO 1 w) m→inBX m (boxO 9 w)=true:=fun {m} h=>by
  have e1:lkX m 9=_:=h.h1;have e2:lkX m 25=_:=h.h2;have e3:lkX m 41=_:=h.h3;simp [inBX,in1X,e1,e2,e3]
 refine cutz (σ:=Unit) 3 (fun _=>[(2,.ptr 32 0),(3,.ptr 48 0),(4,B false),(6,.ptr 96 0),(7,I b),(9,.ptr 144 0),(10,I b),(12,I (mkK 1 w))])
  (fun _=>(32,zK a)::(48,boxP op)::(96,zK w)::(144,boxO 9 w)::N9) (fun _=>True) ?_ ?_
 ·refine dr ?_;refine oW' qn (fun id b hb=>Jy (l:=M9) (v9.mmS s9) _ (ya hb)) (v9.inB v9.self) (zi v9.self.inBox rfl) ⟨(),trivial⟩ fun _ _=>⟨fun id h => .inl ?_,?_⟩
  ·rw [v9.e,YK (o':=mkO 1 w) ZU.symm,← u9.e]; exact h
  refine dEr ?_;refine ⟨(),trivial,?_⟩;have hmg:∀ {m:XM} {id:Nat},id % 16≠9→lkX (ju m N9) id=lkX m id:=fun h=>by rw [qr,u9.no h]
  exact zy.ls ⟨rfl,rfl,rfl,rfl,rfl,rfl,rfl,rfl,trivial⟩ ⟨(hmg (by decide)).trans rfl,(hmg (by decide)).trans rfl,(hmg (by decide)).trans rfl,(hmg (by decide)).trans rfl,u9.mmS u9.mrg⟩ (fun id h=>by cases h)
   (zi rfl (zi rfl (zi rfl (zi (bN r9) (u9.inB r9))))) rfl
 intro _ _;refine dEr ?_;dsimp only [apX];rw [r9.h1];refine dr ?_;repeat (refine oB (by simp [mkO,Yz]) ?_; first|refine dr ?_|exact dz)
 rw [r9.h3];refine dr ?_;repeat (refine oB (by simp [qO,lmL,ZU]) ?_; first|refine dr ?_|exact dz)
 refine Zy r9.h4 ?_;rw [eL];refine dEr ?_;dsimp only [apX];rw [r9.h2];refine dEr ?_;repeat ((first|refine oB (by simp [mkO,Qk]) ?_|refine c0 qh rfl ?_|refine klf (by omega) ?_|refine kNN ?_); first|refine dEr ?_|exact dz)
 have p9:LkO 9 (mkO 1 w) ((32,zK a)::(48,boxP op)::(96,zK w)::(224,zK w)::(144,boxO 9 w)::N9):=((((u9.self.cons (by decide)).cons (by decide)).cons (by decide)).cons (by decide)).cons (by decide);refine cutz (σ:=Unit) 3 (fun _=>[(2,.ptr 32 0),(3,.ptr 48 0),(4,B false),(6,.ptr 96 0),(7,I b),(9,.ptr 144 0),(10,I b),(12,I (mkK 1 w)),(14,.ptr 224 0),(15,I b)])
  (fun _=>(32,zK a)::(48,boxP op)::(96,zK w)::(224,zK w)::(144,boxO 9 w)::N9) (fun _=>True) ?_ ?_
 ·refine dr ?_;refine oN qt rfl ?_;dsimp only [apX];refine yb (qV fun p hp => .inr (ye hp)) (qH ⟨rfl,rfl,rfl,rfl,u9.mmS r9⟩ ?_);refine dr ?_;refine oN qp rfl ?_;dsimp only [apX];refine yb (qV fun p hp => .inr (ye hp)) (qH ⟨rfl,rfl,rfl,rfl,u9.mmS r9⟩ ?_);refine dr ?_;refine oN qi rfl ?_;dsimp only [apX];refine yb (qV fun p hp => .inr (ye hp)) (qH ⟨rfl,rfl,rfl,rfl,u9.mmS r9⟩ ?_);refine dEr ?_;repeat (refine oB ((jA (P:=[_,_,_,_]) rfl).trans (u9.no (id:=224) (by decide))) ?_; first|refine dEr ?_|exact dz)
  refine ⟨(),trivial,?_⟩;exact zy.ls ⟨rfl,rfl,rfl,rfl,rfl,rfl,rfl,rfl,rfl,rfl,trivial⟩ ⟨rfl,rfl,rfl,rfl,rfl,u9.mmS (r9.cons (by decide))⟩ (fun id h=>by cases h)
   (zi rfl (zi rfl (zi rfl (zi rfl (zi (bN p9) (u9.inB p9)))))) rfl
 intro _ _;refine dEr ?_;repeat ((first|refine c0 (qv w) rfl ?_|refine kNN ?_); first|refine dEr ?_|exact dz)
 dsimp only [apX];rw [p9.h1];refine dr ?_;repeat (refine oB (by simp [mkO,Yz]) ?_; first|refine dr ?_|exact dz)
 rw [p9.h3];refine dr ?_;repeat (refine oB (by simp [qO,lmL,ZU]) ?_; first|refine dr ?_|exact dz)
 refine Zy p9.h4 ?_;rw [eL];refine dEr ?_;dsimp only [apX];rw [p9.h2];refine dEr ?_;repeat ((first|refine oB (by simp [mkO,Qk]) ?_|refine c0 qh rfl ?_|refine klf (by omega) ?_|refine kNN ?_); first|refine dEr ?_|exact dz)

open Go Go.RowKit Go.WideShapes Go.ChangeShapes Go.ChangeAt
abbrev RC (W:World) (y:CV) (v:Value):Prop:=RepC W (fun _=>False) y v∧v.oneCell'=true
def Opn {H:Type} (enc:TypeId × Value→H) (P:Program) (W:World) (t:TypeId) {α:Type} (f:α→CV):Prop :=
 ∀ (base:Nat) (sp:Nat→Bool) (held:Bool) (fuel:Nat) (cs:List Value) (x:DataW H × List MemPlace),DataW.trod enc P W base sp held fuel t cs=some x→∃ a:α,za (RC W) (f a).cells cs
section
variable {H:Type} {enc:TypeId × Value→H} {P:Program} {W:World}
theorem zno {t:TypeId} (ht:P.underlying t=some .bool):Opn enc P W t CB:=by
 intro base sp held fuel cs x h;obtain ⟨b,rfl,_⟩:=DataW.trod_bool ht h;exact ⟨b,⟨.sc trivial,rfl⟩,trivial⟩
theorem znp {t:TypeId} (ht:P.underlying t=some (.int .i64)):Opn enc P W t CI:=by
 intro base sp held fuel cs x h;obtain ⟨n,rfl,_,hw⟩:=DataW.trod_int ht h;refine ⟨n,⟨.sc ?_,rfl⟩,trivial⟩
 simpa [Lit.wf,wfv] using hw
theorem znq {t:TypeId} (ht:P.underlying t=some .string):Opn enc P W t CS:=by
 intro base sp held fuel cs x h;obtain ⟨s,rfl,_,hs⟩:=DataW.trod_string ht h;exact ⟨s.data.toList,⟨.sc hs,rfl⟩,trivial⟩
theorem QH {a:Addr} (h:a.spot=none) (n:Nat):a.add n=⟨a.block,a.off+n,none⟩:=by
 unfold Addr.add;split
 ·rename_i hn; subst hn; cases a; simp at h; subst h; rfl
 ·rfl
theorem zb2 {α:Type} {R:CV→Value→Prop} {f:α→CV} {sz:Nat} {g:Nat→List Value}:∀ {L:List α} {k:Nat},(∀ i (h:i < L.length),za R (f L[i]).cells (g (k+i))) →
  za R ((L.map f).flatMap CV.cells) ((List.range' k L.length).flatMap g)
 | [],k,_=>trivial
 | a::L,k,h=>by
  simp only [List.map_cons,List.flatMap_cons,List.length_cons,List.range'_succ];refine za.append (h 0 (by simp)) (zb2 (sz:=sz) (k:=k+1) fun i hi=>?_);have:=h (i+1) (by simp; omega);rw [show k+1+i=k+(i+1) by omega]
  simpa using this
theorem zee {α:Type} {q:Nat→α→Prop}:∀ {n:Nat},(∀ i,i < n→∃ a,q i a)→∃ L:List α,L.length=n∧∀ i (h:i < L.length),q i L[i]
 | 0,_=>⟨[],rfl,fun i h=>by simp at h⟩
 | n+1,h=>by
  obtain ⟨L,hl,hq⟩:=zee (n:=n) fun i hi=>h i (by omega)
  obtain ⟨a,ha⟩:=h n (by omega);refine ⟨L++[a],by simp [hl],fun i hi=>?_⟩;by_cases hin:i < L.length
  ·rw [List.getElem_append_left hin]; exact hq i hin
  ·have:i=L.length:=by simp at hi; omega
   subst this;simp only [List.getElem_concat_length];rw [hl]; exact ha
theorem zbn {t e:TypeId} {α:Type} {f:α→CV} (sz:Nat) (ht:P.underlying t=some (.slice e)) (hc:P.cellsOf e=sz) (h0:0 < sz) (hf:∀ a,(f a).cells.length=sz) (he:Opn enc P W e f):Opn enc P W t (fun l:List α => .row (l.map f)):=by
 intro base sp held fuel cs x h;rcases DataW.trod_slice ht h with ⟨rfl,_⟩ | ⟨a,len,cap,elems,rest,n,_,rfl,_,_,hle,hcap,helen,hel,_⟩
 ·exact ⟨[],⟨.nil (Nat.zero_le _),rfl⟩,trivial⟩
 ·rw [hc] at hel;have key:∀ i,i < len→∃ (y:α),∃ cs',cs'.length=sz∧(∀ j,j < sz→W.cell? ((a.add (i * sz)).add j)=cs'[j]?)∧za (RC W) (f y).cells cs':=by
   intro i hi;have h1:=hel i hi;have h2:∃ z,elems[i]? = some z:=⟨elems[i]'(by omega),by simp [helen,hi]⟩;obtain ⟨z,h2⟩:=h2;rw [h2] at h1;obtain ⟨cs',h3,h4⟩:=Option.bind_eq_some_iff.1 h1;obtain ⟨y,hy⟩:=he _ _ _ _ _ _ h4;obtain ⟨_,h5,h6⟩:=World.cells?_some h3;exact ⟨y,cs',h5,h6,hy⟩
  obtain ⟨L,hl,hL⟩:=zee key;refine ⟨L,⟨?_,rfl⟩,trivial⟩;by_cases hne:L=[]
  ·subst hne;simp only [List.length_nil] at hl;subst hl;exact .nil hcap
  ·have hpos:0 < L.length:=List.length_pos_iff.2 hne;have hsp:a.spot=none:=by
    obtain ⟨cs',h5,h6,_⟩:=hL 0 hpos;have:=h6 0 h0;simp only [Nat.zero_mul] at this;have e0:(a.add 0).add 0=a:=by simp [Addr.add]
    rw [e0] at this;have h7:∃ u,cs'[0]? = some u:=⟨cs'[0]'(by omega),by simp [h5,h0]⟩;obtain ⟨u,h7⟩:=h7;rw [h7] at this;unfold World.cell? at this;split at this
    ·split at this
     ·cases this
     ·rename_i hh; simpa using hh
    ·cases this
   let g:Nat→List Value:=fun i=>(List.range sz).map fun j=>(W.cell? ⟨a.block,a.off+(i * sz+j),none⟩).getD undef
   have hg:∀ i (h:i < L.length),za (RC W) (f L[i]).cells (g i)∧∀ j,j < sz→W.cell? ⟨a.block,a.off+(i * sz+j),none⟩=(g i)[j]? := by
    intro i hi;obtain ⟨cs',h5,h6,h7⟩:=hL i hi;have e:g i=cs':=by
     apply List.ext_getElem?;intro j;by_cases hj:j < sz
     ·have:=h6 j hj;rw [QH hsp,QH rfl] at this;simp only [g,List.getElem?_map,List.getElem?_range hj,Option.map_some];rw [show a.off+(i * sz+j)=a.off+i * sz+j by omega,this];have:cs'[j]? = some (cs'[j]'(by omega)):=by simp [h5,hj]
      rw [this]; rfl
     ·rw [List.getElem?_eq_none (by simp [g]; omega),List.getElem?_eq_none (by omega)]
    rw [e];refine ⟨h7,fun j hj=>?_⟩;have:=h6 j hj;rw [QH hsp,QH rfl] at this;rw [← this,show a.off+i * sz+j=a.off+(i * sz+j) by omega]
   have hall:=zb2 (R:=RC W) (f:=f) (sz:=sz) (g:=g) (L:=L) (k:=0) fun i hi=>by simpa using (hg i hi).1
   have hlen:(L.map f).length=len:=by simpa using hl
   have hcell:∀ (m:Nat),m≤L.length→∀ j v,((List.range' 0 m).flatMap g)[j]? = some v→W.cell? ⟨a.block,a.off+j,none⟩=some v:=by
    intro m;induction m with
    | zero=>intro _ j v hv; simp at hv
    | succ m ih =>
     intro hm j v hv;rw [List.range'_concat,List.flatMap_append] at hv;have hln:∀ m,((List.range' 0 m).flatMap g).length=m * sz:=by
      intro m;induction m with
      | zero=>simp
      | succ m ih=>rw [List.range'_concat,List.flatMap_append,List.length_append,ih]; simp [g,Nat.add_mul]
     by_cases hj:j < m * sz
     ·rw [List.getElem?_append_left (by rw [hln]; exact hj)] at hv;exact ih (by omega) j v hv
     ·rw [List.getElem?_append_right (by rw [hln]; omega),hln] at hv;simp only [Nat.zero_add,Nat.one_mul,List.flatMap_cons,List.flatMap_nil,List.append_nil] at hv;have hj2:j - m * sz < sz:=by
       rcases Nat.lt_or_ge (j - m * sz) sz with h' | h'
       ·exact h'
       ·rw [List.getElem?_eq_none (by simp [g]; omega)] at hv; cases hv
      have:=(hg m (by omega)).2 _ hj2;rw [hv,show m * sz+(j - m * sz)=j by omega] at this;exact this
   obtain ⟨ab,ao,asp⟩:=a;simp only at hsp;subst hsp;rw [← hlen];refine .row (sz:=sz) (vs:=(List.range' 0 L.length).flatMap g) (by simpa using hne) h0 (by rw [hlen]; exact hle) hcap (fun h=>h) ?_ hall.length ?_ ?_ fun j v hv=>?_
   ·intro y hy;obtain ⟨b,_,rfl⟩:=List.mem_map.1 hy;exact hf b
   ·intro i y v hy hv;obtain ⟨u,hu,hr⟩:=hall.get i y hy;rw [hv] at hu; cases hu; exact hr.1
   ·intro v hv;obtain ⟨i,hi⟩:=List.mem_iff_getElem?.1 hv;have hlt:i < ((L.map f).flatMap CV.cells).length:=by
     rw [hall.length]; exact (List.getElem?_eq_some_iff.1 hi).1
    obtain ⟨u,hu,hr⟩:=hall.get i _ (List.getElem?_eq_getElem hlt);rw [hi] at hu; cases hu; exact hr.2
   ·exact hcell L.length (Nat.le_refl _) j v hv
def FOpn {H:Type} (enc:TypeId × Value→H) (P:Program) (W:World) (n:Nat) (off:Nat) (fs:List Field) {β:Type} (g:β→List CV):Prop :=
 ∀ (base:Nat) (sp:Nat→Bool) (held:Bool) (fuel:Nat) (cs:List Value),cs.length=n→(∀ f∈fs,∃ x,DataW.trod enc P W base sp held fuel f.type ((cs.drop f.offset).take (P.cellsOf f.type))=some x)→∃ b,za (RC W) (g b) (cs.drop off)
theorem Yg {n off:Nat} (h:n≤off):FOpn enc P W n off [] (fun _:Unit=>[]):=by
 intro base sp held fuel cs hl _;refine ⟨(),?_⟩;rw [List.drop_eq_nil_of_le (by omega)]; trivial
theorem qq {n off:Nat} {fd:Field} {fs:List Field} {α β:Type} {f:α→CV} {g:β→List CV} (k:Nat) (ho:fd.offset=off) (hk:P.cellsOf fd.type=k) (hf:Opn enc P W fd.type f)
  (hr:FOpn enc P W n (off+k) fs g):FOpn enc P W n off (fd::fs) (fun p:α × β=>(f p.1).cells++g p.2):=by
 intro base sp held fuel cs hl h;obtain ⟨x,hx⟩:=h fd (by simp);obtain ⟨a,ha⟩:=hf _ _ _ _ _ _ hx;obtain ⟨b,hb⟩:=hr base sp held fuel cs hl fun f hf=>h f (by simp [hf])
 refine ⟨(a,b),?_⟩;have e:cs.drop off=(cs.drop off).take k++cs.drop (off+k):=by
  rw [← List.drop_drop,List.take_append_drop]
 rw [e];rw [ho,hk] at ha;exact ha.append hb
theorem YJ {t:TypeId} {fs:Array Field} {β:Type} {g:β→List CV} (n:Nat) (ht:P.underlying t=some (.struct fs)) (hn:P.cellsOf t=n) (h:FOpn enc P W n 0 fs.toList g):Opn enc P W t (fun b => .agg (g b)):=by
 intro base sp held fuel cs x hx;obtain ⟨xs,n',_,_,h1,h2,h3⟩:=DataW.trod_struct ht hx;obtain ⟨b,hb⟩:=h base sp held n' cs (by omega) fun f hf=>by
  obtain ⟨i,hi⟩:=List.mem_iff_getElem?.1 hf;have:=h3 i f (by simpa using hi);have hlt:i < xs.length:=by
   rw [h2];have:=(List.getElem?_eq_some_iff.1 hi).1
   simpa using this
  exact ⟨xs[i],by rw [this]; simp [hlt]⟩
 exact ⟨b,hb⟩
theorem YI {t:TypeId} {α β:Type} {f:α→CV} {g:β→CV} (h:Opn enc P W t f) (j:α→β) (e:∀ a,(g (j a)).cells=(f a).cells):Opn enc P W t g:=by
 intro base sp held fuel cs x hx;obtain ⟨a,ha⟩:=h _ _ _ _ _ _ hx;exact ⟨j a,by rw [e]; exact ha⟩
theorem zb9 {t:TypeId} {α:Type} {f:α→CV} {fs:Array Field} (ht:P.underlying t=some (.struct fs)) (h:Opn enc P W t f) {g:α→List CV} (hg:∀ a,f a = .agg (g a)) {base:Nat} {v:Value} {r:Reach} {b2:Nat} (hv:Value.okWide P W r b2 t v)
  {sp:Nat→Bool} {held:Bool} {d:DataW H} {ps:List MemPlace} (hd:DataW.Trod enc P W base sp held t v d ps):∃ a,RepC W (fun _=>False) (f a) v:=by
 unfold Value.okWide at hv;rw [ht] at hv;obtain ⟨cs,rfl,_,_⟩:=hv;obtain ⟨fuel,hx⟩:=hd;obtain ⟨a,ha⟩:=h _ _ _ _ _ _ hx;refine ⟨a,?_⟩;rw [hg] at ha ⊢;have e:(Value.agg cs).cells.toList=cs.toList:=rfl;rw [e] at ha;have:RepC W (fun _=>False) (.agg (g a)) (.agg cs.toList.toArray):=by
  refine .agg ha.length (fun i y u hy hu=>?_) fun u hu=>?_
  ·obtain ⟨u',hu',hr⟩:=ha.get i y hy;rw [hu] at hu'; cases hu'; exact hr.1
  ·obtain ⟨i,hi⟩:=List.mem_iff_getElem?.1 hu;have hlt:i < (g a).length:=by
    rw [show (g a).length=cs.toList.length from ha.length]; exact (List.getElem?_eq_some_iff.1 hi).1
   obtain ⟨u',hu',hr⟩:=ha.get i _ (List.getElem?_eq_getElem hlt);rw [hi] at hu'; cases hu'; exact hr.2
 simpa using this
theorem zl1 {f:FuncId} {args:List CV} {vs:Array Value} (h:Fn P W f args (.c (CB true)) []) (ha:za (RepC W fun _=>False) args vs.toList) :
  Calls P f vs W fun e W'=>e = .returned (.bool true)∧Below W.heap.size W W':=by
 have hlive:∀ b,¬ zg ⟨fun _=>none,fun _=>False⟩ [] b:=by
  rintro b (hb | ⟨id,hb,_⟩)
  ·exact hb
  ·simp [lk] at hb
 have hm:MemOk ⟨fun _=>none,fun _=>False⟩ [] W:=⟨fun id b hb=>by simp [lk] at hb,fun i j b hi=>by simp [lk] at hi,fun b hb=>hb.elim,fun id b hb=>by simp [lk] at hb⟩;refine (h ⟨fun _=>none,fun _=>False⟩ W vs (Below.refl _ _) (MW.start hm fun b hb=>(hlive b hb).elim) ?_).mono ?_
 ·have key:∀ {args:List CV} {us:List Value},za (RepC W fun _=>False) args us→za (Rep ⟨fun _=>none,fun _=>False⟩ [] W) (args.map .c) us:=by
   intro args;induction args with
   | nil=>intro us h; cases us with | nil=>trivial | cons=>exact h.elim
   | cons a l ih =>
    intro us h;cases us with
    | nil=>exact h.elim
    | cons u us =>
     refine ⟨RepC.rep (h.1.mono fun b o v _ hc=>⟨hlive b,hc⟩),ih h.2⟩
  exact key ha
 ·rintro e W' ⟨v,r,m',κ',rfl,⟨rfl,rfl⟩,h1,h2⟩;refine ⟨?_,?_⟩
  ·have:=Rep.c h2;cases this;rfl
  ·have e:=h1.ext;exact ⟨e.os,e.tape,e.output,e.size,fun k hk=>e.block k hk fun ⟨id,hid,_⟩=>by simp [lk] at hid⟩
theorem zf5 (hl:laidOutB P=true) {W':World} (hb:Below W.heap.size W W') {sp:Nat→Bool}:∀ {ts:List TypeId} {vs:List Value} {ds:List (DataW H)} {ps:List MemPlace},(∀ t∈ts,P.readableRec t=true∧t < P.types.size) →
  DataW.TrodAll enc P W 0 (fun _=>true) true ts vs ds ps→(∀ p∈ps,p.block < W.heap.size)→(∀ p∈ps,sp p.block=true)→DataW.TrodAll enc P W' 0 sp true ts vs ds ps
 | [],[],[],ps,_,h,_,_=>h
 | t::ts,v::vs,d::ds,ps,hr,h,hlt,hs=>by
  obtain ⟨p,q,h1,h2,rfl⟩:=h;obtain ⟨h3,h4⟩:=hr t (by simp);exact ⟨p,q,WideElems.Trod_stays hl h3 h4 h1 (fun x hx=>hb.same (hlt x (by simp [hx]))) (fun x hx=>hs x (by simp [hx])),
   zf5 hl hb (fun t ht=>hr t (by simp [ht])) h2 (fun x hx=>hlt x (by simp [hx])) (fun x hx=>hs x (by simp [hx])),rfl⟩
 | [],_::_,_,_,_,h,_,_=>h.elim
 | [],[],_::_,_,_,h,_,_=>h.elim
 | _::_,[],_,_,_,h,_,_=>h.elim
 | _::_,_::_,[],_,_,h,_,_=>h.elim
theorem zmE (hl:laidOutB P=true) {fn:Func} {s:ChangeSpec} {tb:TypeId} {apart fresh handsOn again:Bool} {W':World} {args:Array Value} {ds:List (DataW H)} {before:List MemPlace}
  (hr:(fn.params.toList.all fun t=>P.readableRec t&&decide (t < P.types.size))=true) (hres:fn.resultTypes=#[tb]) (htb:P.underlying tb=some .bool) (hv:s.vars=[])
  (hW:DataW.Whole enc P fn.params.toList s.vars apart W args.toList ds [] before) (hs:s.fn H (ds++[])={ results:=[.lit (.bool true)],args:=ds }) (hb:Below W.heap.size W W') :
  s.post enc P fn apart fresh handsOn again W args (.bool true) W':=by
 have hr:∀ t∈fn.params.toList,P.readableRec t=true∧t < P.types.size:=fun t ht=>by
  have:=List.all_eq_true.1 hr t ht
  simpa using this
 have hlt:∀ p∈before,p.block < W.heap.size:=fun p hp=>hW.lt p hp
 have hW0:=hW;obtain ⟨p,q,hA,hV,hpq,hfz,hnd⟩:=hW;rw [hv] at hV;obtain ⟨_,rfl⟩:=trodVars_none hV;rw [List.append_nil] at hpq;subst hpq;have hbool:∀ (b:Nat) (sp:Nat→Bool) (hd:Bool),DataW.TrodAll enc P W' b sp hd fn.resultTypes.toList ((Value.bool true).resultList fn.resultTypes.size) (s.fn H (ds++[])).results []:=by
  intro b sp hd;rw [hres,hs];exact trodAll_mk1 ⟨1,by simp [DataW.trod,Value.cells,htb]⟩
 have hargs:∀ sp:Nat→Bool,(∀ x∈before,sp x.block=true)→DataW.TrodAll enc P W' 0 sp true fn.params.toList args.toList ds before:=fun sp hsp=>zf5 hl hb hr hA hlt hsp
 have hvars:∀ sp,DataW.TrodVars enc P W' sp s.vars [] []:=fun sp=>by rw [hv]; rfl
 refine ⟨ds,[],before,[],before,[],hW0,hbool _ _ _,?_,?_,World.keptBut_mono (fun x hx=>⟨hx,.inr (.inl hx)⟩) (hb.frame (·∈before)),fun _=>⟨fun j t r ht hr'=>?_,(s.fn H (ds++[])).results++ds,[],before,⟨before,[],?_,?_,(List.append_nil _).symm,fun b off hx=>?_,hnd⟩,fun x hx _=>hx⟩⟩
 ·rw [hs]; exact hargs _ fun x hx=>by simpa using hlt x hx
 ·rw [hs]; exact hvars _
 ·rw [hres] at ht hr'
  match j,ht,hr' with
  | 0,ht,hr' =>
   have e1:tb=t:=by simpa using ht
   have e2:Value.bool true=r:=by simpa [Value.resultList] using hr'
   subst e1 e2;simp [Value.okWide,htb,Cell.okWide,Cell.ok]
  | j+1,ht,_=>simp at ht
 ·have:=trodAll_append (hargs (fun _=>true) fun _ _=>rfl) (hbool 0 (fun _=>true) true)
  simpa using this
 ·exact hvars _
 ·rw [hb.frozen (hlt _ hx)]; exact hfz b off hx
end

theorem laidOut:laidOutB Tryz.prog=true:=by kernel_rfl
theorem ownK:ownKnob Tryz.prog.godebug=none:=by kernel_rfl
section
variable {H:Type} {enc:TypeId × Value→H} {W:World}
theorem ZX:Opn enc Tryz.prog W 9 CS:=znq (by kernel_rfl)
theorem zng:Opn enc Tryz.prog W 4 CB:=zno (by kernel_rfl)
theorem zeI:Opn enc Tryz.prog W 3 CI:=znp (by kernel_rfl)
theorem znb:Opn enc Tryz.prog W 108 zq:=by
 refine YI (YJ 3 Tryz.underlying108 (by kernel_rfl) (qq 1 rfl (by kernel_rfl) ZX (qq 1 rfl (by kernel_rfl) zng (qq 1 rfl (by kernel_rfl) ZX (Yg (by decide))))))
  (fun p=>⟨p.1,p.2.1,p.2.2.1⟩) fun _=>rfl
theorem znd:Opn enc Tryz.prog W 110 zp:=by
 refine YI (YJ 3 Tryz.underlying110 (by kernel_rfl) (qq 1 rfl (by kernel_rfl) ZX (qq 1 rfl (by kernel_rfl) zeI (qq 1 rfl (by kernel_rfl) ZX (Yg (by decide))))))
  (fun p=>⟨p.1,p.2.1,p.2.2.1⟩) fun _=>rfl
theorem znc:Opn enc Tryz.prog W 36 zd:=zbn 3 (by kernel_rfl) (by kernel_rfl) (by decide) (fun _=>rfl) znb
theorem zeH:Opn enc Tryz.prog W 38 zh:=zbn 3 (by kernel_rfl) (by kernel_rfl) (by decide) (fun _=>rfl) znd
theorem zne:Opn enc Tryz.prog W 37 zS:=zbn 1 (by kernel_rfl) (by kernel_rfl) (by decide) (fun _=>rfl) zeH
theorem znf:Opn enc Tryz.prog W 40 zT:=by
 refine YI (YJ 3 Tryz.underlying40 (by kernel_rfl) (qq 1 rfl (by kernel_rfl) znc (qq 1 rfl (by kernel_rfl) zne (qq 1 rfl (by kernel_rfl) zeH (Yg (by decide))))))
  (fun p=>⟨p.1,p.2.1,p.2.2.1⟩) fun _=>rfl
theorem o_Op:Opn enc Tryz.prog W 53 eOp:=by
 refine YI (YJ 4 Tryz.underlying53 (by kernel_rfl) (qq 1 rfl (by kernel_rfl) zeI (qq 1 rfl (by kernel_rfl) ZX (qq 1 rfl (by kernel_rfl) ZX (qq 1 rfl (by kernel_rfl) ZX (Yg (by decide)))))))
  (fun p=>⟨p.1,p.2.1,p.2.2.1,p.2.2.2.1⟩) fun _=>rfl
end

def znE:List Value:=[128,191,160,191,128,159,144,191,128,143,0,0,0,0,0,0,0,0,0,0,0,0,0,0,0,0,0,0,0,0,0,0].map fun n:Nat=>Value.int .u8 (n:Int)
def firstCells:List Value:=Go.Pinned.utf8FirstZ.map fun n:Nat=>Value.int .u8 (n:Int)
def laidW (P:Program) (os:Os):World:=Sort.mapBlock (Sort.mapBlock (World.holding P os ⟨#[],#[],[]⟩) 2 fun _=>znE.toArray) 1 fun _=>firstCells.toArray

theorem zmy {P:Program} {f:FuncId} {fn:Func} {s:ChangeSpec} {c:OpenClaim}
  (h1:(c.wf (OpenSpec.ofChange s))=true)
  (h2:(laidOutB P)=true)
  (h3:(mapsRowed P)=true)
  (h4:(fn.params.all (P.readableRec ·))=true)
  (h5:(namedTie P c.named s.vars)=true)
  (h6:((c.stops==[]))=true)
  (h7:((P.stops==[]))=true)
  (h8:((c.knobs==[]))=true)
  (h9:((P.stopKnobs==[]))=true)
  (h10:((c.inPlace==P.inPlace f))=true)
  (h11:((c.unfollowed==P.unfollowed f))=true)
  (h12:((c.recurses==P.recurses f))=true)
  (h13:((c.named==P.varsNamed f))=true)
  (h14:((c.maps==(fn.params.toList++s.plain.varTypes P).any (P.mapsRec ·)))=true)
  (h15:((c.ifaces==(fn.params.toList++s.plain.varTypes P).any (P.ifacesRec ·)))=true)
  (h16:((c.mapsOut==P.mapsAmong fn.resultTypes.toList))=true)
  (h17:((c.loops==(fn.params.toList++s.plain.varTypes P).any (P.loopsFrom ·)))=true)
  (h18:((c.wideKeys==(fn.params.toList++s.plain.varTypes P++fn.resultTypes.toList).any (P.wideKeysFrom ·)))=true)
  (h19:(s.vars.all (P.varReadable ·))=true)
  (h20:(fn.resultTypes.all (fun t=>P.readableRec t&&decide (t < P.types.size)))=true)
  (h21:((c.ifacesOut==fn.resultTypes.toList.any (P.ifacesRec ·)))=true)
  (h22:((c.loopsOut==fn.resultTypes.toList.any (P.loopsFrom ·)))=true)
  (h23:((c.plainKeys==P.plainKeys))=true)
  (h24:(c.shortTexts.isNone)=true)
  (h25:(P.stopsHeard)=true)
  (h26:(P.mayEnter)=true)
  (h27:((c.lifted==P.liftsFinal))=true)
  (h28:((P.make==some c.make))=true)
  (h29:(c.kinds==[])=true)
  (h30:((c.pinned==c.pinnedBy))=true)
  (h31:((c.veiled==(fn.params.toList++s.plain.varTypes P++fn.resultTypes.toList).any (P.veiledRec ·)))=true)
  (h32:(c.veiledFits P fn.params.toList (fn.params.toList++s.plain.varTypes P++fn.resultTypes.toList))=true)
  (h0:c.domain.isEmpty=true):joinedFacts P f fn s c=true:=by
 unfold joinedFacts;rw [h0,if_pos rfl];rw [h1,h2,h3,h4,h5,h6,h7,h8,h9,h10,h11,h12,h13,h14,h15,h16,h17,h18,h19,h20,h21,h22,h23,h24,h25,h26,h27,h28,h29,h30,h31,h32];rfl
end Go.Proofs.YtmkmldepkponaaaGreatDoor
