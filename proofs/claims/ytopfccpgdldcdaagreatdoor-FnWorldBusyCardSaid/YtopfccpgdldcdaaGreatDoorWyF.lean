/- The texts Id4, Id5, Id6, Dd1, Dd2, Dd3, Cm1, Dm1, Dm2, Lb1, Lc1, Qb5, Le0, Dd4, Pe1, Qb7, LdA, joined; no condition. -/
import Derived.Test.YtopfccpgdldcdaaGreatDoorWyE
import Derived.OpenShut
import Derived.Carry
import Derived.ChangeSame
import Derived.ProofKit
import Derived.Test.YtopfccpgdldcdaaGreatDoorRows
import Derived.Test.YtopfccpgdldcdaaGreatDoorCards
import Derived.Test.YtopfccpgdldcdaaGreatDoorTie
import Derived.Deep.DeepHandedRow
import Derived.Lib.LaidTab
import Derived.Sort.Row

namespace Go.Proofs.YtopfccpgdldcdaaGreatDoor
set_option linter.unusedSimpArgs false
set_option linter.unusedVariables false
open Go Go.RowKit
def znD:XC:=(.s (.s (.d [.mv 12 0,.k1 13 12,.f1 14 4 13,.l1 15 1 14,.b1 16 .eql 15 (.i 10000),.mv 17 16,.h3 18 0 17,.gf 19 (.nck 18) 17,.h1 20 9 19 17,.h2 21 1 20 17,.h3 22 21 17,.g3 23 0 22,.gt 24 (.nck 23) 22,.gt 25 (.ld true 14 24) 22,.g3 26 0 22,.gt 27 (.nck 26) 22,.g1 28 10 27 22,.gt 29 (.ld true 4 28) 22,.gt 30 (.opn 39 [25,29]) 22,.g3 31 2 22,.gt 32 (.call 40 [30,31]) 22,.gf 33 (.pick 22 32 .n) 17,.p1 34 17 33]) (.cnd 34 .ret .skip)) (.s (.r [.mv 35 0,.k1 36 35,.f1 37 4 36,.l1 38 1 37,.b1 39 .add 38 (.i 1),.k1 40 35,.f1 41 4 40,.s1 1 41 39]) (.s (.r [.mv 42 0,.k1 43 42,.f1 44 3 43,.l1 45 1 44,.b1 46 .add 45 (.i 5),.mv 6 46]) (.cut (.s (.r [.mv 47 0,.k1 48 47,.f1 49 5 48,.l1 50 1 49,.mv 51 1,.mv 52 2,.c1 53 130 [50,51,52],.mv 7 53]) (.s (.r [.mv 54 7,.b1 55 .geq 54 (.i 0)]) (.cnd 55 (.r [.mv 56 0,.mv 57 0,.k1 58 57,.f1 59 5 58,.l1 60 1 59,.mv 61 7,.mv 62 7,.b1 63 .add 62 (.i 1),.o1 64 160 [60,61,63],.k1 65 56,.f1 66 5 65,.s1 1 66 64]) .skip))) (.s (.d [.mv 67 0,.mv 68 0,.k1 69 68,.f1 70 5 69,.l1 71 1 70,.mv 72 1,.mv 73 2,.mv 74 0,.k1 75 74,.f1 76 4 75,.l1 77 1 76,.mv 78 6,.ex 79 (.build [(I 0),sE,(I 0),(I 0)] [(0,(1,72)),(1,(1,73)),(2,(1,77)),(3,(1,78))]),.ex 80 (.bsl 4 59 [79]),.ex 81 (.app false 4 40 59 71 80),.k1 82 67,.f1 83 5 82,.s1 1 83 81]) (.s (.r [.mv 85 0,.k1 86 85,.f1 87 0 86,.l2 88 3 87,.c1 89 18 [88],.mv 84 89,.e1 90 84 0,.e1 91 84 1,.a1 8 90 3 46,.mv 9 91]) (.s (.r [.mv 93 8,.mv 94 2,.c1 95 26 [93,94],.mv 92 95,.e1 96 92 0,.e1 97 92 1,.ex 10 (.alloc zE),.s1 3 10 96,.mv 11 97]) (.d [.mv 98 0,.mv 99 1,.mv 100 2,.mv 101 11,.l2 102 3 10,.mv 103 0,.k1 104 103,.f1 105 4 104,.l1 106 1 105,.mv 107 6,.ex 108 (.build [sE,(B false),sE,(B false),sE,(I 0),(I 0)] [(0,(1,100)),(1,(1,101)),(2,(3,102)),(5,(1,106)),(6,(1,107))]),.ex 109 (.build [(I 0),(I 0),sE,(B false),sE,(B false),sE,(I 0),(I 0)] [(0,(1,(.i 2))),(1,(1,99)),(2,(7,108))]),.o1 110 50 [98,109]]))))))))
theorem znE:zc Tryz.prog [50,160,39] 108=some (znD.ac,[],111):=by kernel_rfl
theorem zaw {w:Wld} {who:Int} {p:Str}:XB.row ((jm w.leases who p (w.count+1)).map jt++[jt ⟨who,p,w.count+1,w.clock+5⟩]) 4 59 = .row ((grantL w who p).leases.map jt) 4 59:=xrow1
theorem zoT (W0:World) (hM:HM W0) (w:Wld) (who:Int) (p:Str) (h:WG w) (hl:w.leases.length≤1000000):zw Tryz.prog W0 108 [.ptr 4 0,.c (CI who),.c (CS p)] (wMp w) (fun _:Bool=>True) (fun _ => .tup []) (fun b=>wMl b (ZW w who p)):=by
 refine fW mixed znE fun hg=>?_
 have hv:=Q1 W0 hM w.over;rw [if_pos h.ov,zbd h] at hv;have ht:=zew W0 hM w w.op h.ov;have hc:=h.pl.ck;have hct:=h.pl.ct;have hn:w.net.length≤1000:=by have:=h.pl.nl; omega
 rw [zcd];generalize hts:jQ w w.op=ts at *;have hget:=zeg W0 hM (vwG w.over) p;rw [if_pos h.gx,qM] at hget;have hofl:(jm w.leases who p (w.count+1)).length≤1000000:=Nat.le_trans (List.length_filter_le _ _) hl;have ho:=zgc h.ls.d (who:=who) (n:=w.count+1) (p:=p);have hla:=zaf W0 w.leases who p;refine dr ?_;apply cP<;>intro h0
 ·rw [if_pos (.inr (by omega))];refine dr ?_;refine ⟨none,_,_,?_,false,trivial,rfl,rfl⟩;refine dr ?_;trivial
 refine dr ?_;apply cP<;>intro h1
 ·refine dr ?_;refine oW ht rfl ⟨rfl,rfl,rfl,rfl,rfl,rfl,rfl,trivial⟩ rfl rfl ⟨(),trivial⟩ fun _ _=>⟨rfl,?_⟩
  refine dEr ?_;repeat (refine c0 (zbE W0 ts p) rfl ?_; first|refine dEr ?_|exact dz)
  apply cP<;>intro h2
  ·rw [if_pos (.inl ⟨h1,by rw [List.contains_eq_mem,decide_eq_true_iff] at h2; exact h2⟩)];refine dEr ?_;refine ⟨none,_,_,?_,false,trivial,rfl,rfl⟩;refine dr ?_;trivial
  have h2':p ∉ ts:=by rw [List.contains_eq_mem,decide_eq_false_iff_not] at h2; exact h2
  rw [if_neg (by rintro (⟨_,h⟩ | h); exact h2' h; omega)];refine dEr ?_;refine cuts (σ:=Bool) (fun _=>[(0,.ptr 4 0),(1,.c (CI who)),(2,.c (CS p)),(6,I (w.clock+5))]) (fun b=>wMl b { w with count:=w.count+1,leases:=jm w.leases who p (w.count+1) }) (fun _=>True) ?_ ?_
  ·refine dEr ?_;repeat (refine c0 hla rfl ?_; first|refine dEr ?_|exact dz)
   rcases @Yg w.leases who p with ⟨e1,e2⟩ | ⟨j,hj,e1,e2⟩
   ·rw [e2] at ho;rw [e1,show jm w.leases who p (w.count+1)=w.leases from ho];apply cP<;>intro h3
    ·omega
    refine dr ?_;refine ⟨false,trivial,?_⟩;refine zn.s (z:=none) ?_;refine dr ?_;trivial
   ·have hnum:=(h.ls.g _ (List.getElem_mem hj)).2.2.2.1;rw [e2,e1] at ho;have ho:jm w.leases who p (w.count+1)=if w.leases[j].num≤w.count+1 then w.leases.eraseIdx (j:Int).toNat else w.leases:=ho
    rw [e1,ho,if_pos (by omega)];apply cP<;>intro h3;rotate_left
    ·omega
    refine dr ?_;refine oW (zbF W0 w.leases j hj 5 1600 (by decide) hl) rfl ⟨rfl,trivial⟩ rfl rfl ⟨(),trivial⟩ fun _ _=>⟨rfl,?_⟩
    refine dEr ?_;refine ⟨true,trivial,?_⟩;refine zn.s (z:=none) ?_;refine dr ?_;repeat (refine oB (by simp [List.length_eraseIdx,hj]) ?_; first|refine dr ?_|exact dz)
    trivial
  rintro b _;cases b with
  | true =>
   refine dr ?_;repeat ((first|refine oB (by simp; omega) ?_|refine oB (by simp) ?_|refine c0 hv rfl ?_|refine c0 hget rfl ?_); first|refine dr ?_|exact dz)
   intro _;refine dEr ?_;repeat ((first|refine oB (by simp; omega) ?_|refine oB (by simp) ?_|refine c0 hv rfl ?_|refine c0 hget rfl ?_); first|refine dEr ?_|exact dz)
   refine oW ((Za W0 (grantL w who p) (j0 w who p) hn).swp 5 1600) rfl ⟨congrArg some (congrArg (fun y=>XB.box [.c (za w.over.base),.c (zy w.over.layers),.c (ze w.over.upper),I w.clock,I (w.count+1),y,.own 6 3,.own 10 w.floors.length,.own 11 w.net.length,B w.waits,I w.op.kind,.c (CS w.op.path),.c (CS w.op.dest),.c (CS w.op.data)]) QF),congrArg some zaw,rfl,rfl,rfl,rfl,rfl,rfl,trivial⟩ rfl rfl ⟨(),trivial⟩ fun _ _=>⟨rfl,?_⟩
   refine dEr ?_;refine ⟨none,_,_,?_,true,trivial,rfl,rfl⟩;refine dr ?_;trivial
  | false =>
   refine dr ?_;repeat ((first|refine oB (by simp; omega) ?_|refine oB (by simp) ?_|refine c0 hv rfl ?_|refine c0 hget rfl ?_); first|refine dr ?_|exact dz)
   intro _;refine dEr ?_;repeat ((first|refine oB (by simp; omega) ?_|refine oB (by simp) ?_|refine c0 hv rfl ?_|refine c0 hget rfl ?_); first|refine dEr ?_|exact dz)
   refine oW ((Za W0 (grantL w who p) (j0 w who p) hn)) rfl ⟨congrArg some (congrArg (fun y=>XB.box [.c (za w.over.base),.c (zy w.over.layers),.c (ze w.over.upper),I w.clock,I (w.count+1),y,.own 6 3,.own 10 w.floors.length,.own 11 w.net.length,B w.waits,I w.op.kind,.c (CS w.op.path),.c (CS w.op.dest),.c (CS w.op.data)]) QF),congrArg some zaw,rfl,rfl,rfl,rfl,rfl,rfl,trivial⟩ rfl rfl ⟨(),trivial⟩ fun _ _=>⟨rfl,?_⟩
   refine dEr ?_;refine ⟨none,_,_,?_,false,trivial,rfl,rfl⟩;refine dr ?_;trivial
 ·refine dr ?_;rw [if_neg (by rintro (⟨h,_⟩ | h); rw [h] at h1; cases h1; omega)];refine dEr ?_;refine cuts (σ:=Bool) (fun _=>[(0,.ptr 4 0),(1,.c (CI who)),(2,.c (CS p)),(6,I (w.clock+5))]) (fun b=>wMl b { w with count:=w.count+1,leases:=jm w.leases who p (w.count+1) }) (fun _=>True) ?_ ?_
  ·refine dEr ?_;repeat (refine c0 hla rfl ?_; first|refine dEr ?_|exact dz)
   rcases @Yg w.leases who p with ⟨e1,e2⟩ | ⟨j,hj,e1,e2⟩
   ·rw [e2] at ho;rw [e1,show jm w.leases who p (w.count+1)=w.leases from ho];apply cP<;>intro h3
    ·omega
    refine dr ?_;refine ⟨false,trivial,?_⟩;refine zn.s (z:=none) ?_;refine dr ?_;trivial
   ·have hnum:=(h.ls.g _ (List.getElem_mem hj)).2.2.2.1;rw [e2,e1] at ho;have ho:jm w.leases who p (w.count+1)=if w.leases[j].num≤w.count+1 then w.leases.eraseIdx (j:Int).toNat else w.leases:=ho
    rw [e1,ho,if_pos (by omega)];apply cP<;>intro h3;rotate_left
    ·omega
    refine dr ?_;refine oW (zbF W0 w.leases j hj 5 1600 (by decide) hl) rfl ⟨rfl,trivial⟩ rfl rfl ⟨(),trivial⟩ fun _ _=>⟨rfl,?_⟩
    refine dEr ?_;refine ⟨true,trivial,?_⟩;refine zn.s (z:=none) ?_;refine dr ?_;repeat (refine oB (by simp [List.length_eraseIdx,hj]) ?_; first|refine dr ?_|exact dz)
    trivial
  rintro b _;cases b with
  | true =>
   refine dr ?_;repeat ((first|refine oB (by simp; omega) ?_|refine oB (by simp) ?_|refine c0 hv rfl ?_|refine c0 hget rfl ?_); first|refine dr ?_|exact dz)
   intro _;refine dEr ?_;repeat ((first|refine oB (by simp; omega) ?_|refine oB (by simp) ?_|refine c0 hv rfl ?_|refine c0 hget rfl ?_); first|refine dEr ?_|exact dz)
   refine oW ((Za W0 (grantL w who p) (j0 w who p) hn).swp 5 1600) rfl ⟨congrArg some (congrArg (fun y=>XB.box [.c (za w.over.base),.c (zy w.over.layers),.c (ze w.over.upper),I w.clock,I (w.count+1),y,.own 6 3,.own 10 w.floors.length,.own 11 w.net.length,B w.waits,I w.op.kind,.c (CS w.op.path),.c (CS w.op.dest),.c (CS w.op.data)]) QF),congrArg some zaw,rfl,rfl,rfl,rfl,rfl,rfl,trivial⟩ rfl rfl ⟨(),trivial⟩ fun _ _=>⟨rfl,?_⟩
   refine dEr ?_;refine ⟨none,_,_,?_,true,trivial,rfl,rfl⟩;refine dr ?_;trivial
  | false =>
   refine dr ?_;repeat ((first|refine oB (by simp; omega) ?_|refine oB (by simp) ?_|refine c0 hv rfl ?_|refine c0 hget rfl ?_); first|refine dr ?_|exact dz)
   intro _;refine dEr ?_;repeat ((first|refine oB (by simp; omega) ?_|refine oB (by simp) ?_|refine c0 hv rfl ?_|refine c0 hget rfl ?_); first|refine dEr ?_|exact dz)
   refine oW ((Za W0 (grantL w who p) (j0 w who p) hn)) rfl ⟨congrArg some (congrArg (fun y=>XB.box [.c (za w.over.base),.c (zy w.over.layers),.c (ze w.over.upper),I w.clock,I (w.count+1),y,.own 6 3,.own 10 w.floors.length,.own 11 w.net.length,B w.waits,I w.op.kind,.c (CS w.op.path),.c (CS w.op.dest),.c (CS w.op.data)]) QF),congrArg some zaw,rfl,rfl,rfl,rfl,rfl,rfl,trivial⟩ rfl rfl ⟨(),trivial⟩ fun _ _=>⟨rfl,?_⟩
   refine dEr ?_;refine ⟨none,_,_,?_,false,trivial,rfl,rfl⟩;refine dr ?_;trivial
def znP:XC:=(.cut (.s (.r [.mv 9 0,.k1 10 9,.f1 11 6 10,.l1 12 1 11,.mv 13 1,.i1 14 1 12 13,.l1 15 1 14,.mv 16 2,.c1 17 55 [15,16],.mv 8 17]) (.s (.r [.mv 18 8,.b1 19 .geq 18 (.i 0),.mv 20 19,.g3 21 0 20,.gt 22 (.nck 21) 20,.g1 23 6 22 20,.g2 24 1 23 20,.g3 25 1 20,.gt 26 (.ia 1 24 25) 20,.g2 27 1 26 20,.g3 28 8 20,.gt 29 (.ia 7 27 28) 20,.g1 30 5 29 20,.g2 31 1 30 20,.g3 32 3 20,.gt 33 (.bin .leq 31 32) 20,.p2 34 20 33]) (.cnd 34 (.d [.mv 35 0,.k1 36 35,.f1 37 6 36,.exo [7,1616] 38 (.ld false 1 37),.mv 39 1,.mv 40 0,.k1 41 40,.f1 42 6 41,.exo [7,1616] 43 (.ld false 1 42),.mv 44 1,.exo [7,1616] 45 (.ia 1 43 44),.exo [7,1616] 46 (.ld false 1 45),.mv 47 8,.mv 48 8,.b1 49 .add 48 (.i 1),.exo [7,1616] 50 (.opn 161 [46,47,49]),.exo [7,1616] 51 (.ia 1 38 39),.s1 1 51 50]) .skip))) (.s (.d [.mv 52 0,.k1 53 52,.f1 54 7 53,.l1 55 1 54,.mv 56 1,.mv 57 0,.k1 58 57,.f1 59 7 58,.l1 60 1 59,.mv 61 1,.i1 62 1 60 61,.l1 63 1 62,.mv 64 3,.ex 65 (.mm true 63 64),.i1 66 1 55 56,.s1 1 66 65]) (.r [.mv 67 0,.mv 68 1,.mv 69 2,.mv 70 3,.ex 71 (.build [sE,(B false),sE,(B false),sE,(I 0),(I 0)] [(0,(1,69)),(5,(1,70))]),.ex 72 (.build [(I 0),(I 0),sE,(B false),sE,(B false),sE,(I 0),(I 0)] [(0,(1,(.i 4))),(1,(1,68)),(2,(7,71))]),.o1 73 50 [67,72]])))
theorem znQ:zc Tryz.prog [50,161,1000007,1001616] 110=some (znP.ac,[],74):=by kernel_rfl
theorem zoY (W0:World) (w:Wld) (p:Str) (n:Int) (h:WG w) (hz:HZ 1000000 w):zw Tryz.prog W0 110 [.ptr 4 0,I 0,.c (CS p),.c (CI n)] (wMp w) (fun _:Bool=>True) (fun _ => .tup []) (fun b=>wM0 b (zT { w with holds:=w.holds.set 0 (jg (hdW w 0) p n),floors:=w.floors.set 0 (zR (flW w 0) n) } ⟨4,0,⟨p,false,noE,n,0⟩⟩)):=by
 have hw:isW 0:=⟨by omega,by omega⟩;have f3:=h.pl.fl;have hn:w.net.length≤1000:=by have:=h.pl.nl; omega
 have s:=@zhE w (jg (hdW w 0) p n) w.floors h.pl.hl;have hd:(hdW w 0).Pairwise fun a b=>a.path≠b.path:=(h.hd 0 (by omega)).d
 have hlen:(hdW w 0).length≤1000000:=yQ hz 0;have ht:=zck hd (p:=p) (n:=n);have hcs:=yP (hdW w 0) p;have hha:=Zy W0 (hdW w 0) p;refine fW mixed znQ fun hg=>?_
 refine cuts (σ:=Bool) (fun _=>[(0,.ptr 4 0),(1,I 0),(2,.c (CS p)),(3,.c (CI n))]) (fun b=>wM0 b { w with holds:=w.holds.set 0 (jg (hdW w 0) p n) }) (fun _=>True) ?_ ?_
 ·refine dEr ?_;repeat ((first|refine oB (by decide) ?_|refine c0 hha rfl ?_); first|refine dEr ?_|exact dz)
  rcases hcs with ⟨e1,e2⟩ | ⟨j,hj,e1,e2,e3⟩
  ·have lv:=ht.2 (fun j hj e=>by rw [e1] at e; omega);rw [e1];apply cP<;>intro c3
   ·omega
   refine dr ?_;refine ⟨false,trivial,?_⟩;show zn _ _ _ _ _ (wMx 5 7 8 9 11 _);rw [qz s,lv];refine zn.s (z:=none) ?_;refine dr ?_;trivial
  rw [e1];apply cP<;>intro c3;rotate_left
  ·omega
  refine dr ?_;repeat (refine oB (by decide) ?_; first|refine dr ?_|exact dz)
  apply cP<;>intro c4
  ·have lv:=ht.1 j hj e1 c4;refine dr ?_;repeat (refine oB (by decide) ?_; first|refine dr ?_|exact dz)
   refine oW (J1 W0 (hdW w 0) j hj 7 1616 (by decide) hlen) rfl ⟨rfl,trivial⟩ rfl rfl ⟨(),trivial⟩ fun _ _=>⟨rfl,?_⟩
   refine dEr ?_;repeat (refine oB (by decide) ?_; first|refine dEr ?_|exact dz)
   refine ⟨true,trivial,?_⟩;show zn _ _ _ _ _ (_::wMx 5 1616 8 9 11 _);rw [qz s,lv];refine zn.s (z:=none) ?_;refine dr ?_;repeat (refine oB (by simp [List.length_eraseIdx,hj]) ?_; first|refine dr ?_|exact dz)
   trivial
  ·have lv:jg (hdW w 0) p n=hdW w 0:=by
    refine ht.2 fun i hi e=>?_
    have hij:i=j:=by omega
    subst hij;exact c4
   refine dr ?_;refine ⟨false,trivial,?_⟩;show zn _ _ _ _ _ (wMx 5 7 8 9 11 _);rw [qz s,lv];refine zn.s (z:=none) ?_;refine dr ?_;trivial
 have hs:=Za W0 { w with holds:=w.holds.set 0 (jg (hdW w 0) p n),floors:=w.floors.set 0 (zR (flW w 0) n) } ⟨4,0,⟨p,false,noE,n,0⟩⟩ hn;have fr:XB.row ((w.floors.map CI).set 0 (CI (max (flW w 0) n))) 1 3 = .row ((w.floors.set 0 (zR (flW w 0) n)).map CI) 1 3:=by
  rw [show zR (flW w 0) n=max (flW w 0) n by unfold zR; split<;>omega,set1]
 have fb:∀ k,XB.box [.c (za w.over.base),.c (zy w.over.layers),.c (ze w.over.upper),I w.clock,I w.count,.own 5 w.leases.length,.own 6 3,.own 10 w.floors.length,.own k w.net.length,B w.waits,I w.op.kind,.c (CS w.op.path),.c (CS w.op.dest),.c (CS w.op.data)] =
   .box [.c (za w.over.base),.c (zy w.over.layers),.c (ze w.over.upper),I w.clock,I w.count,.own 5 w.leases.length,.own 6 3,.own 10 (w.floors.set 0 (zR (flW w 0) n)).length,.own k w.net.length,B w.waits,I w.op.kind,.c (CS w.op.path),.c (CS w.op.dest),.c (CS w.op.data)]:=fun k=>by rw [List.length_set]
 rintro b _;cases b with
 | true =>
  refine dEr ?_;repeat ((first|refine oB (by rw [f3]; decide) ?_|refine aFl hw f3 ?_); first|refine dEr ?_|exact dz)
  refine oW (hs.swp 7 1616) rfl ⟨congrArg some (fb 11),rfl,rfl,rfl,rfl,rfl,congrArg some fr,rfl,trivial⟩ rfl rfl ⟨(),trivial⟩ fun _ _=>⟨rfl,?_⟩
  refine dEr ?_;refine ⟨none,_,_,?_,true,trivial,rfl,rfl⟩;refine dr ?_;trivial
 | false =>
  refine dEr ?_;repeat ((first|refine oB (by rw [f3]; decide) ?_|refine aFl hw f3 ?_); first|refine dEr ?_|exact dz)
  refine oW hs rfl ⟨congrArg some (fb 11),rfl,rfl,rfl,rfl,rfl,congrArg some fr,rfl,trivial⟩ rfl rfl ⟨(),trivial⟩ fun _ _=>⟨rfl,?_⟩
  refine dEr ?_;refine ⟨none,_,_,?_,false,trivial,rfl,rfl⟩;refine dr ?_;trivial
def znR:XC:=(.cut (.s (.r [.mv 9 0,.k1 10 9,.f1 11 6 10,.l1 12 1 11,.mv 13 1,.i1 14 1 12 13,.l1 15 1 14,.mv 16 2,.c1 17 55 [15,16],.mv 8 17]) (.s (.r [.mv 18 8,.b1 19 .geq 18 (.i 0),.mv 20 19,.g3 21 0 20,.gt 22 (.nck 21) 20,.g1 23 6 22 20,.g2 24 1 23 20,.g3 25 1 20,.gt 26 (.ia 1 24 25) 20,.g2 27 1 26 20,.g3 28 8 20,.gt 29 (.ia 7 27 28) 20,.g1 30 5 29 20,.g2 31 1 30 20,.g3 32 3 20,.gt 33 (.bin .leq 31 32) 20,.p2 34 20 33]) (.cnd 34 (.d [.mv 35 0,.k1 36 35,.f1 37 6 36,.exo [8,1616] 38 (.ld false 1 37),.mv 39 1,.mv 40 0,.k1 41 40,.f1 42 6 41,.exo [8,1616] 43 (.ld false 1 42),.mv 44 1,.exo [8,1616] 45 (.ia 1 43 44),.exo [8,1616] 46 (.ld false 1 45),.mv 47 8,.mv 48 8,.b1 49 .add 48 (.i 1),.exo [8,1616] 50 (.opn 161 [46,47,49]),.exo [8,1616] 51 (.ia 1 38 39),.s1 1 51 50]) .skip))) (.s (.d [.mv 52 0,.k1 53 52,.f1 54 7 53,.l1 55 1 54,.mv 56 1,.mv 57 0,.k1 58 57,.f1 59 7 58,.l1 60 1 59,.mv 61 1,.i1 62 1 60 61,.l1 63 1 62,.mv 64 3,.ex 65 (.mm true 63 64),.i1 66 1 55 56,.s1 1 66 65]) (.r [.mv 67 0,.mv 68 1,.mv 69 2,.mv 70 3,.ex 71 (.build [sE,(B false),sE,(B false),sE,(I 0),(I 0)] [(0,(1,69)),(5,(1,70))]),.ex 72 (.build [(I 0),(I 0),sE,(B false),sE,(B false),sE,(I 0),(I 0)] [(0,(1,(.i 4))),(1,(1,68)),(2,(7,71))]),.o1 73 50 [67,72]])))
theorem znS:zc Tryz.prog [50,161,1000008,1001616] 110=some (znR.ac,[],74):=by kernel_rfl
theorem zoZ (W0:World) (w:Wld) (p:Str) (n:Int) (h:WG w) (hz:HZ 1000000 w):zw Tryz.prog W0 110 [.ptr 4 0,I 1,.c (CS p),.c (CI n)] (wMp w) (fun _:Bool=>True) (fun _ => .tup []) (fun b=>wM1 b (zT { w with holds:=w.holds.set 1 (jg (hdW w 1) p n),floors:=w.floors.set 1 (zR (flW w 1) n) } ⟨4,1,⟨p,false,noE,n,0⟩⟩)):=by
 have hw:isW 1:=⟨by omega,by omega⟩;have f3:=h.pl.fl;have hn:w.net.length≤1000:=by have:=h.pl.nl; omega
 have s:=@zhF w (jg (hdW w 1) p n) w.floors h.pl.hl;have hd:(hdW w 1).Pairwise fun a b=>a.path≠b.path:=(h.hd 1 (by omega)).d
 have hlen:(hdW w 1).length≤1000000:=yQ hz 1;have ht:=zck hd (p:=p) (n:=n);have hcs:=yP (hdW w 1) p;have hha:=Zy W0 (hdW w 1) p;refine fW mixed znS fun hg=>?_
 refine cuts (σ:=Bool) (fun _=>[(0,.ptr 4 0),(1,I 1),(2,.c (CS p)),(3,.c (CI n))]) (fun b=>wM1 b { w with holds:=w.holds.set 1 (jg (hdW w 1) p n) }) (fun _=>True) ?_ ?_
 ·refine dEr ?_;repeat ((first|refine oB (by decide) ?_|refine c0 hha rfl ?_); first|refine dEr ?_|exact dz)
  rcases hcs with ⟨e1,e2⟩ | ⟨j,hj,e1,e2,e3⟩
  ·have lv:=ht.2 (fun j hj e=>by rw [e1] at e; omega);rw [e1];apply cP<;>intro c3
   ·omega
   refine dr ?_;refine ⟨false,trivial,?_⟩;show zn _ _ _ _ _ (wMx 5 7 8 9 11 _);rw [qz s,lv];refine zn.s (z:=none) ?_;refine dr ?_;trivial
  rw [e1];apply cP<;>intro c3;rotate_left
  ·omega
  refine dr ?_;repeat (refine oB (by decide) ?_; first|refine dr ?_|exact dz)
  apply cP<;>intro c4
  ·have lv:=ht.1 j hj e1 c4;refine dr ?_;repeat (refine oB (by decide) ?_; first|refine dr ?_|exact dz)
   refine oW (J1 W0 (hdW w 1) j hj 8 1616 (by decide) hlen) rfl ⟨rfl,trivial⟩ rfl rfl ⟨(),trivial⟩ fun _ _=>⟨rfl,?_⟩
   refine dEr ?_;repeat (refine oB (by decide) ?_; first|refine dEr ?_|exact dz)
   refine ⟨true,trivial,?_⟩;show zn _ _ _ _ _ (_::wMx 5 7 1616 9 11 _);rw [qz s,lv];refine zn.s (z:=none) ?_;refine dr ?_;repeat (refine oB (by simp [List.length_eraseIdx,hj]) ?_; first|refine dr ?_|exact dz)
   trivial
  ·have lv:jg (hdW w 1) p n=hdW w 1:=by
    refine ht.2 fun i hi e=>?_
    have hij:i=j:=by omega
    subst hij;exact c4
   refine dr ?_;refine ⟨false,trivial,?_⟩;show zn _ _ _ _ _ (wMx 5 7 8 9 11 _);rw [qz s,lv];refine zn.s (z:=none) ?_;refine dr ?_;trivial
 have hs:=Za W0 { w with holds:=w.holds.set 1 (jg (hdW w 1) p n),floors:=w.floors.set 1 (zR (flW w 1) n) } ⟨4,1,⟨p,false,noE,n,0⟩⟩ hn;have fr:XB.row ((w.floors.map CI).set 1 (CI (max (flW w 1) n))) 1 3 = .row ((w.floors.set 1 (zR (flW w 1) n)).map CI) 1 3:=by
  rw [show zR (flW w 1) n=max (flW w 1) n by unfold zR; split<;>omega,set1]
 have fb:∀ k,XB.box [.c (za w.over.base),.c (zy w.over.layers),.c (ze w.over.upper),I w.clock,I w.count,.own 5 w.leases.length,.own 6 3,.own 10 w.floors.length,.own k w.net.length,B w.waits,I w.op.kind,.c (CS w.op.path),.c (CS w.op.dest),.c (CS w.op.data)] =
   .box [.c (za w.over.base),.c (zy w.over.layers),.c (ze w.over.upper),I w.clock,I w.count,.own 5 w.leases.length,.own 6 3,.own 10 (w.floors.set 1 (zR (flW w 1) n)).length,.own k w.net.length,B w.waits,I w.op.kind,.c (CS w.op.path),.c (CS w.op.dest),.c (CS w.op.data)]:=fun k=>by rw [List.length_set]
 rintro b _;cases b with
 | true =>
  refine dEr ?_;repeat ((first|refine oB (by rw [f3]; decide) ?_|refine aFl hw f3 ?_); first|refine dEr ?_|exact dz)
  refine oW (hs.swp 8 1616) rfl ⟨congrArg some (fb 11),rfl,rfl,rfl,rfl,rfl,congrArg some fr,rfl,trivial⟩ rfl rfl ⟨(),trivial⟩ fun _ _=>⟨rfl,?_⟩
  refine dEr ?_;refine ⟨none,_,_,?_,true,trivial,rfl,rfl⟩;refine dr ?_;trivial
 | false =>
  refine dEr ?_;repeat ((first|refine oB (by rw [f3]; decide) ?_|refine aFl hw f3 ?_); first|refine dEr ?_|exact dz)
  refine oW hs rfl ⟨congrArg some (fb 11),rfl,rfl,rfl,rfl,rfl,congrArg some fr,rfl,trivial⟩ rfl rfl ⟨(),trivial⟩ fun _ _=>⟨rfl,?_⟩
  refine dEr ?_;refine ⟨none,_,_,?_,false,trivial,rfl,rfl⟩;refine dr ?_;trivial
def znT:XC:=(.cut (.s (.r [.mv 9 0,.k1 10 9,.f1 11 6 10,.l1 12 1 11,.mv 13 1,.i1 14 1 12 13,.l1 15 1 14,.mv 16 2,.c1 17 55 [15,16],.mv 8 17]) (.s (.r [.mv 18 8,.b1 19 .geq 18 (.i 0),.mv 20 19,.g3 21 0 20,.gt 22 (.nck 21) 20,.g1 23 6 22 20,.g2 24 1 23 20,.g3 25 1 20,.gt 26 (.ia 1 24 25) 20,.g2 27 1 26 20,.g3 28 8 20,.gt 29 (.ia 7 27 28) 20,.g1 30 5 29 20,.g2 31 1 30 20,.g3 32 3 20,.gt 33 (.bin .leq 31 32) 20,.p2 34 20 33]) (.cnd 34 (.d [.mv 35 0,.k1 36 35,.f1 37 6 36,.exo [9,1616] 38 (.ld false 1 37),.mv 39 1,.mv 40 0,.k1 41 40,.f1 42 6 41,.exo [9,1616] 43 (.ld false 1 42),.mv 44 1,.exo [9,1616] 45 (.ia 1 43 44),.exo [9,1616] 46 (.ld false 1 45),.mv 47 8,.mv 48 8,.b1 49 .add 48 (.i 1),.exo [9,1616] 50 (.opn 161 [46,47,49]),.exo [9,1616] 51 (.ia 1 38 39),.s1 1 51 50]) .skip))) (.s (.d [.mv 52 0,.k1 53 52,.f1 54 7 53,.l1 55 1 54,.mv 56 1,.mv 57 0,.k1 58 57,.f1 59 7 58,.l1 60 1 59,.mv 61 1,.i1 62 1 60 61,.l1 63 1 62,.mv 64 3,.ex 65 (.mm true 63 64),.i1 66 1 55 56,.s1 1 66 65]) (.r [.mv 67 0,.mv 68 1,.mv 69 2,.mv 70 3,.ex 71 (.build [sE,(B false),sE,(B false),sE,(I 0),(I 0)] [(0,(1,69)),(5,(1,70))]),.ex 72 (.build [(I 0),(I 0),sE,(B false),sE,(B false),sE,(I 0),(I 0)] [(0,(1,(.i 4))),(1,(1,68)),(2,(7,71))]),.o1 73 50 [67,72]])))
theorem znU:zc Tryz.prog [50,161,1000009,1001616] 110=some (znT.ac,[],74):=by kernel_rfl
theorem zo0 (W0:World) (w:Wld) (p:Str) (n:Int) (h:WG w) (hz:HZ 1000000 w):zw Tryz.prog W0 110 [.ptr 4 0,I 2,.c (CS p),.c (CI n)] (wMp w) (fun _:Bool=>True) (fun _ => .tup []) (fun b=>wM2 b (zT { w with holds:=w.holds.set 2 (jg (hdW w 2) p n),floors:=w.floors.set 2 (zR (flW w 2) n) } ⟨4,2,⟨p,false,noE,n,0⟩⟩)):=by
 have hw:isW 2:=⟨by omega,by omega⟩;have f3:=h.pl.fl;have hn:w.net.length≤1000:=by have:=h.pl.nl; omega
 have s:=@zhG w (jg (hdW w 2) p n) w.floors h.pl.hl;have hd:(hdW w 2).Pairwise fun a b=>a.path≠b.path:=(h.hd 2 (by omega)).d
 have hlen:(hdW w 2).length≤1000000:=yQ hz 2;have ht:=zck hd (p:=p) (n:=n);have hcs:=yP (hdW w 2) p;have hha:=Zy W0 (hdW w 2) p;refine fW mixed znU fun hg=>?_
 refine cuts (σ:=Bool) (fun _=>[(0,.ptr 4 0),(1,I 2),(2,.c (CS p)),(3,.c (CI n))]) (fun b=>wM2 b { w with holds:=w.holds.set 2 (jg (hdW w 2) p n) }) (fun _=>True) ?_ ?_
 ·refine dEr ?_;repeat ((first|refine oB (by decide) ?_|refine c0 hha rfl ?_); first|refine dEr ?_|exact dz)
  rcases hcs with ⟨e1,e2⟩ | ⟨j,hj,e1,e2,e3⟩
  ·have lv:=ht.2 (fun j hj e=>by rw [e1] at e; omega);rw [e1];apply cP<;>intro c3
   ·omega
   refine dr ?_;refine ⟨false,trivial,?_⟩;show zn _ _ _ _ _ (wMx 5 7 8 9 11 _);rw [qz s,lv];refine zn.s (z:=none) ?_;refine dr ?_;trivial
  rw [e1];apply cP<;>intro c3;rotate_left
  ·omega
  refine dr ?_;repeat (refine oB (by decide) ?_; first|refine dr ?_|exact dz)
  apply cP<;>intro c4
  ·have lv:=ht.1 j hj e1 c4;refine dr ?_;repeat (refine oB (by decide) ?_; first|refine dr ?_|exact dz)
   refine oW (J1 W0 (hdW w 2) j hj 9 1616 (by decide) hlen) rfl ⟨rfl,trivial⟩ rfl rfl ⟨(),trivial⟩ fun _ _=>⟨rfl,?_⟩
   refine dEr ?_;repeat (refine oB (by decide) ?_; first|refine dEr ?_|exact dz)
   refine ⟨true,trivial,?_⟩;show zn _ _ _ _ _ (_::wMx 5 7 8 1616 11 _);rw [qz s,lv];refine zn.s (z:=none) ?_;refine dr ?_;repeat (refine oB (by simp [List.length_eraseIdx,hj]) ?_; first|refine dr ?_|exact dz)
   trivial
  ·have lv:jg (hdW w 2) p n=hdW w 2:=by
    refine ht.2 fun i hi e=>?_
    have hij:i=j:=by omega
    subst hij;exact c4
   refine dr ?_;refine ⟨false,trivial,?_⟩;show zn _ _ _ _ _ (wMx 5 7 8 9 11 _);rw [qz s,lv];refine zn.s (z:=none) ?_;refine dr ?_;trivial
 have hs:=Za W0 { w with holds:=w.holds.set 2 (jg (hdW w 2) p n),floors:=w.floors.set 2 (zR (flW w 2) n) } ⟨4,2,⟨p,false,noE,n,0⟩⟩ hn;have fr:XB.row ((w.floors.map CI).set 2 (CI (max (flW w 2) n))) 1 3 = .row ((w.floors.set 2 (zR (flW w 2) n)).map CI) 1 3:=by
  rw [show zR (flW w 2) n=max (flW w 2) n by unfold zR; split<;>omega,set1]
 have fb:∀ k,XB.box [.c (za w.over.base),.c (zy w.over.layers),.c (ze w.over.upper),I w.clock,I w.count,.own 5 w.leases.length,.own 6 3,.own 10 w.floors.length,.own k w.net.length,B w.waits,I w.op.kind,.c (CS w.op.path),.c (CS w.op.dest),.c (CS w.op.data)] =
   .box [.c (za w.over.base),.c (zy w.over.layers),.c (ze w.over.upper),I w.clock,I w.count,.own 5 w.leases.length,.own 6 3,.own 10 (w.floors.set 2 (zR (flW w 2) n)).length,.own k w.net.length,B w.waits,I w.op.kind,.c (CS w.op.path),.c (CS w.op.dest),.c (CS w.op.data)]:=fun k=>by rw [List.length_set]
 rintro b _;cases b with
 | true =>
  refine dEr ?_;repeat ((first|refine oB (by rw [f3]; decide) ?_|refine aFl hw f3 ?_); first|refine dEr ?_|exact dz)
  refine oW (hs.swp 9 1616) rfl ⟨congrArg some (fb 11),rfl,rfl,rfl,rfl,rfl,congrArg some fr,rfl,trivial⟩ rfl rfl ⟨(),trivial⟩ fun _ _=>⟨rfl,?_⟩
  refine dEr ?_;refine ⟨none,_,_,?_,true,trivial,rfl,rfl⟩;refine dr ?_;trivial
 | false =>
  refine dEr ?_;repeat ((first|refine oB (by rw [f3]; decide) ?_|refine aFl hw f3 ?_); first|refine dEr ?_|exact dz)
  refine oW hs rfl ⟨congrArg some (fb 11),rfl,rfl,rfl,rfl,rfl,congrArg some fr,rfl,trivial⟩ rfl rfl ⟨(),trivial⟩ fun _ _=>⟨rfl,?_⟩
  refine dEr ?_;refine ⟨none,_,_,?_,false,trivial,rfl,rfl⟩;refine dr ?_;trivial

inductive Dv where
 | o
 | n
 | l
 | a
 | b
 | c
abbrev wMv (d:Dv) (w:Wld):XM:=match d with
 | .o=>wMp w
 | .n=>(11,.dead 9 67)::wMx 5 7 8 9 1632 w
 | .l=>(11,.dead 9 67)::(5,.dead 4 59)::wMx 1600 7 8 9 1632 w
 | .a=>(11,.dead 9 67)::(7,.dead 7 48)::wMx 5 1616 8 9 1632 w
 | .b=>(11,.dead 9 67)::(8,.dead 7 48)::wMx 5 7 1616 9 1632 w
 | .c=>(11,.dead 9 67)::(9,.dead 7 48)::wMx 5 7 8 1616 1632 w
def znH:XC:=(.s (.r [.m1 6 (.i 0)]) (.s (.s (.r [.mv 8 2,.b1 9 .lss 8 (.i 0),.mv 10 9,.h3 11 2 10,.h3 12 0 10,.gf 13 (.nck 12) 10,.h1 14 8 13 10,.h2 15 1 14 10,.gf 16 (.len false 15) 10,.gf 17 (.bin .geq 11 16) 10,.p1 18 10 17]) (.cnd 18 (.s (.r [.m1 6 (.i 22)]) .ret) .skip)) (.s (.r [.mv 19 0,.k1 20 19,.f1 21 8 20,.l1 22 1 21,.mv 23 2,.i1 24 9 22 23,.l2 25 9 24,.ex 7 (.alloc [(I 0),(I 0),sE,(B false),sE,(B false),sE,(I 0),(I 0)]),.s1 9 7 25]) (.s (.s (.r [.mv 26 1,.b1 27 .eql 26 (.i 7)]) (.cnd 27 (.s (.r [.mv 28 0,.l2 29 9 7,.o1 30 50 [28,29]]) (.s (.r [.m1 6 (.i 0)]) .ret)) .skip)) (.s (.r [.mv 31 0,.mv 32 0,.k1 33 32,.f1 34 8 33,.l1 35 1 34,.mv 36 2,.mv 37 2,.b1 38 .add 37 (.i 1),.o1 39 107 [35,36,38],.k1 40 31,.f1 41 8 40,.s1 1 41 39]) (.s (.s (.r [.mv 42 1,.b1 43 .eql 42 (.i 6)]) (.cnd 43 (.s (.r [.m1 6 (.i 0)]) .ret) .skip)) (.s (.s (.r [.f1 44 0 7,.l1 45 1 44]) (.blk 0 (.s (.r [.b1 47 .eql 45 (.i 1),.mv 46 47]) (.cnd 46 (.r [.mv 48 0,.f1 49 1 7,.l1 50 1 49,.f1 51 2 7,.f1 52 0 51,.l1 53 1 52,.o1 54 108 [48,50,53]]) (.s (.r [.b1 56 .eql 45 (.i 2),.mv 55 56]) (.cnd 55 (.r [.mv 57 0,.f1 58 1 7,.l1 59 1 58,.f1 60 2 7,.l2 61 7 60,.o1 62 109 [57,59,61]]) (.s (.r [.b1 64 .eql 45 (.i 3),.mv 63 64]) (.cnd 63 (.r [.mv 65 0,.f1 66 1 7,.l1 67 1 66,.f1 68 2 7,.f1 69 0 68,.l1 70 1 69,.f1 71 2 7,.f1 72 5 71,.l1 73 1 72,.o1 74 110 [65,67,70,73]]) (.s (.r [.b1 76 .eql 45 (.i 4),.mv 75 76]) (.cnd 75 (.r [.mv 77 0,.f1 78 1 7,.l1 79 1 78,.f1 80 2 7,.f1 81 0 80,.l1 82 1 81,.f1 83 2 7,.f1 84 5 83,.l1 85 1 84,.o1 86 111 [77,79,82,85]]) .skip)))))))))) (.s (.r [.m1 6 (.i 0)]) .ret))))))))
theorem znI:zc Tryz.prog [50,107,108,109,110,111] 54=some (znH.ac,[(.t 6)],87):=by kernel_rfl
set_option maxHeartbeats 2000000 in
theorem zbJ (W0:World) (hM:HM W0) (w:Wld) (ek pos:Int) (h:WG w) (hz:HZ 1000000 w) (hk:5≤ek∧ek≤7):zw Tryz.prog W0 54 [.ptr 4 0,.c (CI ek),.c (CI pos)] (wMp w) (fun _:Dv=>True) (fun _ => .c (CI (netW w ⟨ek,0,[],ja,pos⟩).2)) (fun d=>wMv d (netW w ⟨ek,0,[],ja,pos⟩).1):=by
 refine fW mixed znI fun hg=>?_
 have hn:w.net.length≤1000:=by have:=h.pl.nl; omega
 have hw:netW w ⟨ek,0,[],ja,pos⟩=if pos < 0∨(w.net.length:Int)≤pos then (w,22)
  else if ek=7 then (zT w (w.net.getD pos.toNat noMs),0)
  else if ek=5 then (zL { w with net:=w.net.eraseIdx pos.toNat } (w.net.getD pos.toNat noMs),0)
  else ({ w with net:=w.net.eraseIdx pos.toNat },0):=rfl
 rw [hw];refine dr ?_;apply cP<;>intro h1
 ·rw [if_pos (.inl h1)];refine dr ?_;refine ⟨none,_,_,?_,.o,trivial,rfl,rfl⟩;refine dr ?_;trivial
 refine dr ?_;apply cP<;>intro h2
 ·rw [if_pos (.inr h2)];refine dr ?_;refine ⟨none,_,_,?_,.o,trivial,rfl,rfl⟩;refine dr ?_;trivial
 have h1':0≤pos:=h1;have h2':pos < (w.net.length:Int):=h2;rw [if_neg (by omega)];obtain ⟨k,rfl⟩:∃ k:Nat,pos=(k:Int):=⟨pos.toNat,by omega⟩;have hk':k < w.net.length:=by omega
 have hgd:w.net.getD (k:Int).toNat noMs=w.net[k]:=by rw [Int.toNat_natCast,List.getD_eq_getElem?_getD,List.getElem?_eq_getElem hk']; rfl
 rw [hgd,Int.toNat_natCast];have hms:=h.ms _ (List.getElem_mem hk');refine dr ?_;apply cP<;>intro h3
 ·have h3':ek=7:=h3;rw [if_pos h3'];refine dr ?_;refine oW (Za W0 w w.net[k] hn) rfl ⟨rfl,rfl,rfl,rfl,rfl,rfl,rfl,rfl,trivial⟩ rfl rfl ⟨(),trivial⟩ fun _ _=>⟨rfl,?_⟩
  refine dEr ?_;refine ⟨none,_,_,?_,.o,trivial,rfl,rfl⟩;refine dr ?_;trivial
 have h3':ek≠7:=h3;rw [if_neg h3'];refine dr ?_;refine oW (zou W0 w.net k hk' 11 1632 (by decide) (by omega)) rfl ⟨rfl,trivial⟩ rfl rfl ⟨(),trivial⟩ fun _ _=>⟨rfl,?_⟩
 refine dEr ?_;apply cP<;>intro h4
 ·have h4':ek≠5:=by have:ek=6:=h4; omega
  rw [if_neg h4'];refine dr ?_;refine ⟨none,_,_,?_,.n,trivial,rfl,rfl⟩;refine dr ?_;repeat (refine oB (by simp [List.length_eraseIdx,hk']) ?_; first|refine dr ?_|exact dz)
  trivial
 have h4':ek=5:=by have:ek≠6:=h4; omega
 rw [if_pos h4'];have h1w:WG { w with net:=w.net.eraseIdx k }:=h.lose k;have hz1:HZ 1000000 { w with net:=w.net.eraseIdx k }:=⟨hz.l,hz.h⟩;have bx:XB.box [.c (za w.over.base),.c (zy w.over.layers),.c (ze w.over.upper),I w.clock,I w.count,.own 5 w.leases.length,.own 6 3,.own 10 w.floors.length,.own 1632 (w.net.length - 1),B w.waits,I w.op.kind,.c (CS w.op.path),.c (CS w.op.dest),.c (CS w.op.data)] = .box (wCx 5 1632 { w with net:=w.net.eraseIdx k }):=by
  show _=XB.box [.c (za w.over.base),.c (zy w.over.layers),.c (ze w.over.upper),I w.clock,I w.count,.own 5 w.leases.length,.own 6 3,.own 10 w.floors.length,.own 1632 (w.net.eraseIdx k).length,B w.waits,I w.op.kind,.c (CS w.op.path),.c (CS w.op.dest),.c (CS w.op.data)];rw [List.length_eraseIdx,if_pos hk']
 generalize w.net[k]=m at *;obtain ⟨mk,mw,mh⟩:=m;have hmw:mw=0∨mw=1∨mw=2:=by have h1:=hms.who.1; have h2:=hms.who.2; simp only at h1 h2; omega
 refine dr ?_;apply cP<;>intro k1
 ·have k1:mk=1:=k1;rw [show zL { w with net:=w.net.eraseIdx k } ⟨mk,mw,mh⟩=ZW { w with net:=w.net.eraseIdx k } mw mh.path by unfold zL; rw [if_pos k1]];refine dr ?_;refine oW ((zoT W0 hM { w with net:=w.net.eraseIdx k } mw mh.path h1w hz1.l).swp 11 1632) rfl ⟨congrArg some bx,rfl,rfl,rfl,rfl,rfl,rfl,rfl,trivial⟩ rfl rfl ⟨false,trivial⟩ fun b _=>?_
  cases b with
  | true =>
   refine ⟨rfl,?_⟩;refine dEr ?_;refine ⟨none,_,_,?_,.l,trivial,rfl,rfl⟩;refine dr ?_;trivial
  | false =>
   refine ⟨rfl,?_⟩;refine dEr ?_;refine ⟨none,_,_,?_,.n,trivial,rfl,rfl⟩;refine dr ?_;trivial
 have k1:mk≠1:=k1;refine dr ?_;apply cP<;>intro k2
 ·have k2:mk=2:=k2;rcases hmw with rfl|rfl|rfl
  ·rw [show zL { w with net:=w.net.eraseIdx k } ⟨mk,0,mh⟩=(if w.clock < mh.til∧flW { w with net:=w.net.eraseIdx k } 0 < mh.num then { w with net:=w.net.eraseIdx k,holds:=w.holds.set 0 (jh (hdW { w with net:=w.net.eraseIdx k } 0) mh) } else { w with net:=w.net.eraseIdx k }) by unfold zL; rw [if_neg k1,if_pos k2]; rfl];refine dr ?_;refine oW ((zoV W0 { w with net:=w.net.eraseIdx k } mh h1w hz1).swp 11 1632) rfl ⟨congrArg some bx,rfl,rfl,rfl,rfl,rfl,rfl,rfl,trivial⟩ rfl rfl ⟨false,trivial⟩ fun b _=>?_
   cases b with
   | true =>
    refine ⟨rfl,?_⟩;refine dEr ?_;refine ⟨none,_,_,?_,.a,trivial,rfl,rfl⟩;refine dr ?_;trivial
   | false =>
    refine ⟨rfl,?_⟩;refine dEr ?_;refine ⟨none,_,_,?_,.n,trivial,rfl,rfl⟩;refine dr ?_;trivial
  ·rw [show zL { w with net:=w.net.eraseIdx k } ⟨mk,1,mh⟩=(if w.clock < mh.til∧flW { w with net:=w.net.eraseIdx k } 1 < mh.num then { w with net:=w.net.eraseIdx k,holds:=w.holds.set 1 (jh (hdW { w with net:=w.net.eraseIdx k } 1) mh) } else { w with net:=w.net.eraseIdx k }) by unfold zL; rw [if_neg k1,if_pos k2]; rfl];refine dr ?_;refine oW ((zoW W0 { w with net:=w.net.eraseIdx k } mh h1w hz1).swp 11 1632) rfl ⟨congrArg some bx,rfl,rfl,rfl,rfl,rfl,rfl,rfl,trivial⟩ rfl rfl ⟨false,trivial⟩ fun b _=>?_
   cases b with
   | true =>
    refine ⟨rfl,?_⟩;refine dEr ?_;refine ⟨none,_,_,?_,.b,trivial,rfl,rfl⟩;refine dr ?_;trivial
   | false =>
    refine ⟨rfl,?_⟩;refine dEr ?_;refine ⟨none,_,_,?_,.n,trivial,rfl,rfl⟩;refine dr ?_;trivial
  ·rw [show zL { w with net:=w.net.eraseIdx k } ⟨mk,2,mh⟩=(if w.clock < mh.til∧flW { w with net:=w.net.eraseIdx k } 2 < mh.num then { w with net:=w.net.eraseIdx k,holds:=w.holds.set 2 (jh (hdW { w with net:=w.net.eraseIdx k } 2) mh) } else { w with net:=w.net.eraseIdx k }) by unfold zL; rw [if_neg k1,if_pos k2]; rfl];refine dr ?_;refine oW ((zoX W0 { w with net:=w.net.eraseIdx k } mh h1w hz1).swp 11 1632) rfl ⟨congrArg some bx,rfl,rfl,rfl,rfl,rfl,rfl,rfl,trivial⟩ rfl rfl ⟨false,trivial⟩ fun b _=>?_
   cases b with
   | true =>
    refine ⟨rfl,?_⟩;refine dEr ?_;refine ⟨none,_,_,?_,.c,trivial,rfl,rfl⟩;refine dr ?_;trivial
   | false =>
    refine ⟨rfl,?_⟩;refine dEr ?_;refine ⟨none,_,_,?_,.n,trivial,rfl,rfl⟩;refine dr ?_;trivial
 have k2:mk≠2:=k2;have hpl:mh=JF mh:=hms.plain k2;refine dr ?_;apply cP<;>intro k3
 ·have k3:mk=3:=k3;rcases hmw with rfl|rfl|rfl
  ·rw [show zL { w with net:=w.net.eraseIdx k } ⟨mk,0,mh⟩=zT { w with net:=w.net.eraseIdx k,holds:=w.holds.set 0 (jg (hdW { w with net:=w.net.eraseIdx k } 0) mh.path mh.num),floors:=w.floors.set 0 (zR (flW { w with net:=w.net.eraseIdx k } 0) mh.num) } ⟨4,0,⟨mh.path,false,noE,mh.num,0⟩⟩ by unfold zL; rw [if_neg k1,if_neg k2,if_pos k3]; exact congrArg (fun y=>zT _ ⟨4,0,y⟩) hpl];refine dr ?_;refine oW ((zoY W0 { w with net:=w.net.eraseIdx k } mh.path mh.num h1w hz1).swp 11 1632) rfl ⟨congrArg some bx,rfl,rfl,rfl,rfl,rfl,rfl,rfl,trivial⟩ rfl rfl ⟨false,trivial⟩ fun b _=>?_
   cases b with
   | true =>
    refine ⟨rfl,?_⟩;refine dEr ?_;refine ⟨none,_,_,?_,.a,trivial,rfl,rfl⟩;refine dr ?_;trivial
   | false =>
    refine ⟨rfl,?_⟩;refine dEr ?_;refine ⟨none,_,_,?_,.n,trivial,rfl,rfl⟩;refine dr ?_;trivial
  ·rw [show zL { w with net:=w.net.eraseIdx k } ⟨mk,1,mh⟩=zT { w with net:=w.net.eraseIdx k,holds:=w.holds.set 1 (jg (hdW { w with net:=w.net.eraseIdx k } 1) mh.path mh.num),floors:=w.floors.set 1 (zR (flW { w with net:=w.net.eraseIdx k } 1) mh.num) } ⟨4,1,⟨mh.path,false,noE,mh.num,0⟩⟩ by unfold zL; rw [if_neg k1,if_neg k2,if_pos k3]; exact congrArg (fun y=>zT _ ⟨4,1,y⟩) hpl];refine dr ?_;refine oW ((zoZ W0 { w with net:=w.net.eraseIdx k } mh.path mh.num h1w hz1).swp 11 1632) rfl ⟨congrArg some bx,rfl,rfl,rfl,rfl,rfl,rfl,rfl,trivial⟩ rfl rfl ⟨false,trivial⟩ fun b _=>?_
   cases b with
   | true =>
    refine ⟨rfl,?_⟩;refine dEr ?_;refine ⟨none,_,_,?_,.b,trivial,rfl,rfl⟩;refine dr ?_;trivial
   | false =>
    refine ⟨rfl,?_⟩;refine dEr ?_;refine ⟨none,_,_,?_,.n,trivial,rfl,rfl⟩;refine dr ?_;trivial
  ·rw [show zL { w with net:=w.net.eraseIdx k } ⟨mk,2,mh⟩=zT { w with net:=w.net.eraseIdx k,holds:=w.holds.set 2 (jg (hdW { w with net:=w.net.eraseIdx k } 2) mh.path mh.num),floors:=w.floors.set 2 (zR (flW { w with net:=w.net.eraseIdx k } 2) mh.num) } ⟨4,2,⟨mh.path,false,noE,mh.num,0⟩⟩ by unfold zL; rw [if_neg k1,if_neg k2,if_pos k3]; exact congrArg (fun y=>zT _ ⟨4,2,y⟩) hpl];refine dr ?_;refine oW ((zo0 W0 { w with net:=w.net.eraseIdx k } mh.path mh.num h1w hz1).swp 11 1632) rfl ⟨congrArg some bx,rfl,rfl,rfl,rfl,rfl,rfl,rfl,trivial⟩ rfl rfl ⟨false,trivial⟩ fun b _=>?_
   cases b with
   | true =>
    refine ⟨rfl,?_⟩;refine dEr ?_;refine ⟨none,_,_,?_,.c,trivial,rfl,rfl⟩;refine dr ?_;trivial
   | false =>
    refine ⟨rfl,?_⟩;refine dEr ?_;refine ⟨none,_,_,?_,.n,trivial,rfl,rfl⟩;refine dr ?_;trivial
 have k3:mk≠3:=k3;refine dr ?_;apply cP<;>intro k4
 ·have k4:mk=4:=k4;rw [show zL { w with net:=w.net.eraseIdx k } ⟨mk,mw,mh⟩={ w with net:=w.net.eraseIdx k,leases:=jm w.leases mw mh.path mh.num } by unfold zL; rw [if_neg k1,if_neg k2,if_neg k3,if_pos k4]];refine dr ?_;refine oW ((zoU W0 { w with net:=w.net.eraseIdx k } mw mh.path mh.num h1w hz1.l).swp 11 1632) rfl ⟨congrArg some bx,rfl,rfl,rfl,rfl,rfl,rfl,rfl,trivial⟩ rfl rfl ⟨false,trivial⟩ fun b _=>?_
  cases b with
  | true =>
   refine ⟨rfl,?_⟩;refine dEr ?_;refine ⟨none,_,_,?_,.l,trivial,rfl,rfl⟩;refine dr ?_;trivial
  | false =>
   refine ⟨rfl,?_⟩;refine dEr ?_;refine ⟨none,_,_,?_,.n,trivial,rfl,rfl⟩;refine dr ?_;trivial
 ·have k4:mk≠4:=k4;have h1:=hms.kind.1;have h2:=hms.kind.2;simp only at h1 h2;omega

def zjn:XC:=(.s (.r [.x1 1 0,.ex 2 (.alloc zW)]) (.s (.r [.l2 6 14 1,.ex 3 (.alloc zW),.s1 14 3 6]) (.s (.r [.f1 7 0 1,.l2 8 3 7,.c1 9 102 [8],.f1 10 0 3,.s1 3 10 9]) (.s (.r [.f1 11 5 1,.l1 12 1 11,.ex 13 (.app true 4 40 59 (.k .nil) 12),.f1 14 5 3,.s1 1 14 13]) (.s (.r [.f1 15 6 3,.nu (.st 1 15 (.k .nil))]) (.s (.s (.r [.f1 16 6 1,.l1 17 1 16,.n1 18 17,.m1 19 (.i 0)]) (.blk 0 (.loop (.s (.r [.b1 20 .lss 19 18]) (.s (.ce 20 0) (.s (.blk 1 (.s (.r [.i1 21 1 17 19,.l1 22 1 21,.a1 5 22 7 48]) (.d [.f1 23 6 3,.l1 24 1 23,.mv 25 5,.ex 26 (.app true 7 80 48 (.k .nil) 25),.ex 27 (.bsl 1 44 [26]),.ex 28 (.app false 1 24 44 24 27),.f1 29 6 3,.s1 1 29 28]))) (.r [.b1 30 .add 19 (.i 1),.mv 19 30]))))))) (.s (.r [.f1 31 7 1,.l1 32 1 31,.ex 33 (.app true 1 8 3 (.k .nil) 32),.f1 34 7 3,.s1 1 34 33]) (.s (.r [.f1 35 8 1,.l1 36 1 35,.ex 37 (.app true 9 96 67 (.k .nil) 36),.f1 38 8 3,.s1 1 38 37]) (.s (.r [.l2 39 14 3,.s1 14 2 39]) .ret)))))))))
theorem zjo:zc Tryz.prog [] 48=some (zjn.ac,[(.cell 2 true 14)],40):=by kernel_rfl
abbrev cwB (w:Wld) (x:PV):XB := .box [.c (za w.over.base),.c (zy w.over.layers),.c (ze w.over.upper),I w.clock,I w.count,.own 208 w.leases.length,x,.c (jU w.floors),.c (jM w.net),B w.waits,I w.op.kind,.c (CS w.op.path),.c (CS w.op.dest),.c (CS w.op.data)]
abbrev cwM (w:Wld) (k:Nat):XM:=match k with
 | 0=>[(16,wBx w),(32,zWB),(48,cwB w .nil),(208,.row (w.leases.map jt) 4 59)]
 | 1=>[(16,wBx w),(32,zWB),(48,cwB w (.own 6 1)),(208,.row (w.leases.map jt) 4 59),(6,.rowP [.own 7 (hdW w 0).length] 44),(7,.row ((hdW w 0).map zF) 7 48)]
 | 2=>[(16,wBx w),(32,zWB),(48,cwB w (.own 6 2)),(208,.row (w.leases.map jt) 4 59),(6,.rowP [.own 7 (hdW w 0).length,.own 8 (hdW w 1).length] 44),(7,.row ((hdW w 0).map zF) 7 48),(8,.row ((hdW w 1).map zF) 7 48)]
 | _=>[(16,wBx w),(32,zWB),(48,cwB w (.own 6 3)),(208,.row (w.leases.map jt) 4 59),(6,.rowP [.own 7 (hdW w 0).length,.own 8 (hdW w 1).length,.own 9 (hdW w 2).length] 44),(7,.row ((hdW w 0).map zF) 7 48),(8,.row ((hdW w 1).map zF) 7 48),(9,.row ((hdW w 2).map zF) 7 48)]
theorem zoR (W0:World) (w:Wld) (h3:w.holds.length=3) (hz:WZ 1000000 w):zw Tryz.prog W0 48 [.c (eWldP w)] [] (fun _:Unit=>True) (fun _ => .agg [.c (za w.over.base),.c (zy w.over.layers),.c (ze w.over.upper),I w.clock,I w.count,.own 208 w.leases.length,.own 6 3,.own 528 w.floors.length,.own 592 w.net.length,B w.waits,I w.op.kind,.c (CS w.op.path),.c (CS w.op.dest),.c (CS w.op.data)])
  (fun _=>[(208,.row (w.leases.map jt) 4 59),(6,.rowP [.own 7 (hdW w 0).length,.own 8 (hdW w 1).length,.own 9 (hdW w 2).length] 44),(7,.row ((hdW w 0).map zF) 7 48),(8,.row ((hdW w 1).map zF) 7 48),(9,.row ((hdW w 2).map zF) 7 48),(528,.row (w.floors.map CI) 1 3),(592,.row (w.net.map eMsg) 9 67)]):=by
 rw [Y2 h3];refine fW mixed zjo fun hg=>?_
 obtain ⟨hzo,hzh,_,hf,hn⟩:=hz;have hl:=hzh.l;have l0:=yQ hzh 0;have l1:=yQ hzh 1;have l2:=yQ hzh 2;have e17:PV.c (jC w.holds) = .c (.row [zf (hdW w 0),zf (hdW w 1),zf (hdW w 2)]):=congrArg (fun l=>PV.c (jC l)) (holds3 h3);have e18:I (w.holds.length:Int)=I 3:=by rw [h3]; rfl
 refine dEr ?_;repeat ((first|refine c0 (zd9 W0 _ (hzo.mono (by omega))) rfl ?_|refine oB (by simp; omega) ?_|refine oB (by simp) ?_); first|refine dEr ?_|exact dz)
 refine lq (σ:=Nat) (fun k=>[(1,.ptr 16 0),(2,.ptr 32 0),(3,.ptr 48 0),(17,.c (.row [zf (hdW w 0),zf (hdW w 1),zf (hdW w 2)])),(18,I 3),(19,I k)]) (fun k=>cwM w k) (fun k=>k≤3) (fun k=>3 - k) 0 (by simp) ?_ ?_
 ·refine zn.s (z:=none) ?_;refine dr ?_;repeat (refine oB (by first|exact e17|exact e18) ?_; first|refine dr ?_|exact dz)
  trivial
 intro k hk;obtain rfl|rfl|rfl|rfl:k=0∨k=1∨k=2∨k=3:=by omega
 ·refine dr ?_;apply cP<;>intro h1;rotate_left
  ·omega
  refine dr ?_;repeat ((first|refine ⟨0,rfl,_,rfl,?_⟩|refine oB (by simp; omega) ?_|refine oB (by simp) ?_|refine oB (by decide) ?_); first|refine dr ?_|exact dz)
  refine ⟨1,by omega,by omega,?_⟩;refine zj.ren 7 416 rfl rfl (z:=some 3) ?_;refine zj.ren 6 448 rfl rfl (z:=none) ?_;refine dr ?_;repeat (refine oB (by simp) ?_; first|refine dr ?_|exact dz)
  trivial
 ·refine dr ?_;apply cP<;>intro h1;rotate_left
  ·omega
  refine dr ?_;repeat ((first|refine ⟨1,rfl,_,rfl,?_⟩|refine oB (by simp; omega) ?_|refine oB (by simp) ?_|refine oB (by decide) ?_); first|refine dr ?_|exact dz)
  refine ⟨2,by omega,by omega,?_⟩;refine zj.ren 8 416 rfl rfl (z:=none) ?_;refine dr ?_;repeat (refine oB (by simp) ?_; first|refine dr ?_|exact dz)
  trivial
 ·refine dr ?_;apply cP<;>intro h1;rotate_left
  ·omega
  refine dr ?_;repeat ((first|refine ⟨2,rfl,_,rfl,?_⟩|refine oB (by simp; omega) ?_|refine oB (by simp) ?_|refine oB (by decide) ?_); first|refine dr ?_|exact dz)
  refine ⟨3,by omega,by omega,?_⟩;refine zj.ren 9 416 rfl rfl (z:=none) ?_;refine dr ?_;repeat (refine oB (by simp) ?_; first|refine dr ?_|exact dz)
  trivial
 ·refine dr ?_;apply cP<;>intro h1
  ·omega
  refine dr ?_;repeat ((first|refine oB (by simp; omega) ?_|refine oB (by simp) ?_); first|refine dr ?_|exact dz)
  refine ⟨none,_,_,?_,(),trivial,rfl,rfl⟩;refine dr ?_;repeat (refine oB (by simp) ?_; first|refine dr ?_|exact dz)
  trivial
theorem zoS (W0:World) (w:Wld) (h3:w.holds.length=3) (hz:WZ 1000000 w):zw Tryz.prog W0 48 [.c (eWldP w)] [] (fun _:Unit=>True) (fun _ => .agg (wCx 5 11 w)) (fun _=>wRx w) :=
 (((zoR W0 w h3 hz).swp 208 5).swp 528 10).swp 592 11
def zi5:XC:=(.s (.r [.x1 2 0,.x1 3 1,.ex 4 (.alloc zW),.m1 5 (.i 0)]) (.s (.s (.r [.l2 10 14 2,.c1 11 28 [10],.u1 12 11]) (.cnd 12 (.s (.r [.ex 13 (.build zW []),.s1 14 4 13,.m1 5 (.i 1)]) .ret) .skip)) (.s (.r [.l2 14 14 2,.o1 15 48 [14],.ex 6 (.alloc zW),.s1 14 6 15]) (.s (.s (.r [.f1 16 0 3,.l1 17 1 16]) (.blk 0 (.s (.r [.b1 19 .eql 17 (.i 1),.mv 18 19]) (.cnd 18 (.s (.s (.r [.f1 20 1 3,.l1 21 1 20,.c1 22 49 [21],.u1 23 22,.mv 24 23,.h1 25 2 3 24,.h2 26 1 25 24,.gf 27 (.call 25 [26]) 24,.gf 28 (.un .not 27) 24,.p1 29 24 28]) (.cnd 29 (.s (.r [.l2 30 14 6,.s1 14 4 30,.m1 5 (.i 1)]) .ret) .skip)) (.s (.r [.f1 31 1 3,.l1 32 1 31,.f1 33 2 3,.l1 34 1 33,.ex 35 (.build [sE,(B false),sE,(B false),sE,(I 0),(I 0)] [(0,(1,34))]),.ex 36 (.build [(I 0),(I 0),sE,(B false),sE,(B false),sE,(I 0),(I 0)] [(0,(1,(.i 1))),(1,(1,32)),(2,(7,35))]),.o1 37 50 [6,36]]) (.s (.r [.l2 38 14 6,.s1 14 4 38,.m1 5 (.i 0)]) .ret))) (.s (.r [.b1 40 .eql 17 (.i 2),.mv 39 40]) (.cnd 39 (.s (.r [.f1 41 3 3,.l2 42 4 41,.o1 43 51 [6,42],.mv 7 43]) (.s (.r [.l2 44 14 6,.mv 45 7,.s1 14 4 44,.mv 5 45]) .ret)) (.s (.r [.b1 47 .eql 17 (.i 3),.mv 46 47]) (.cnd 46 (.s (.r [.o1 48 52 [6],.mv 8 48]) (.s (.r [.l2 49 14 6,.mv 50 8,.s1 14 4 49,.mv 5 50]) .ret)) (.s (.r [.b1 52 .eql 17 (.i 4),.mv 51 52]) (.cnd 51 (.s (.r [.o1 53 53 [6]]) (.s (.r [.l2 54 14 6,.s1 14 4 54,.m1 5 (.i 0)]) .ret)) (.s (.s (.r [.b1 56 .eql 17 (.i 5),.mv 55 56]) (.cnd 55 .skip (.s (.r [.b1 57 .eql 17 (.i 6),.mv 55 57]) (.cnd 55 .skip (.r [.b1 58 .eql 17 (.i 7),.mv 55 58]))))) (.cnd 55 (.s (.r [.f1 59 0 3,.l1 60 1 59,.f1 61 7 3,.l1 62 1 61,.o1 63 54 [6,60,62],.mv 9 63]) (.s (.r [.l2 64 14 6,.mv 65 9,.s1 14 4 64,.mv 5 65]) .ret)) .skip)))))))))))) (.s (.r [.l2 66 14 6,.s1 14 4 66,.m1 5 (.i 1)]) .ret)))))
theorem zi6:zc Tryz.prog [48,50,51,52,53,54] 16=some (zi5.ac,[(.cell 4 true 14),(.t 5)],67):=by kernel_rfl
set_option maxHeartbeats 2000000 in
theorem Y8 (W0:World) (hM:HM W0) (w:Wld) (ev:Ev) (hz:HZ 100000 w):Fn Tryz.prog W0 16 [zB w,eEv ev] (.c (.tup [zB (wDo w ev).1,CI (wDo w ev).2])) []:=by
 obtain ⟨ek,ew,ep,eo,pos⟩:=ev;show Fn _ _ _ [zB w,.agg [CI ek,CI ew,CS ep,CI eo.kind,CS eo.path,CS eo.dest,CS eo.data,CI pos]] _ _;refine fX mixed zi6 fun hg=>?_
 refine dEr ?_;repeat (refine c0 (Y9 W0 hM w) rfl ?_; first|refine dEr ?_|exact dz)
 apply cP<;>intro h1
 ·refine dr ?_;unfold wDo; rw [if_neg h1]<;>rfl
 rw [JN h1];have hx:=h1.ev ⟨ek,ew,ep,eo,pos⟩;rw [← Y2 hx.pl.hl];clear hx;have hcw:=zoS W0 w h1.pl.hl (h1.wz (hz.mono (by omega)) (by omega));rw [Y2 h1.pl.hl] at hcw;have hn:w.net.length≤1000:=by have:=h1.pl.nl; omega
 have hz1:HZ 1000000 w:=hz.mono (by omega);refine dr ?_;refine oW hcw rfl trivial rfl rfl ⟨(),trivial⟩ fun _ _=>⟨rfl,?_⟩
 refine dEr ?_;apply cP<;>intro k1
 ·have k1:ek=1:=k1;refine dEr ?_;repeat (refine c0 (zaa W0 _) rfl ?_; first|refine dEr ?_|exact dz)
  apply cP<;>intro a1
  ·have e:evW w ⟨ek,ew,ep,eo,pos⟩=(w,1):=by unfold evW; rw [if_pos k1,if_neg (fun hh=>a1 hh.1)]
   rw [e];refine dEr ?_;rfl
  refine dEr ?_;repeat (refine c0 (qN W0 hM _) rfl ?_; first|refine dEr ?_|exact dz)
  apply cP<;>intro a2
  ·have e:evW w ⟨ek,ew,ep,eo,pos⟩=(w,1):=by unfold evW; rw [if_pos k1,if_neg (fun hh=>by rw [hh.2] at a2; cases a2)]
   rw [e];refine dEr ?_;rfl
  have e:evW w ⟨ek,ew,ep,eo,pos⟩=(zT w ⟨1,ew,⟨ep,false,noE,0,0⟩⟩,0):=by unfold evW; rw [if_pos k1,if_pos ⟨a1,a2⟩]
  rw [e];refine dr ?_;refine oW ((Za W0 w ⟨1,ew,⟨ep,false,noE,0,0⟩⟩ hn).swp 4 96) rfl ⟨rfl,rfl,rfl,rfl,rfl,rfl,rfl,rfl,trivial⟩ rfl rfl ⟨(),trivial⟩ fun _ _=>⟨rfl,?_⟩
  refine dEr ?_;rfl
 have k1:ek≠1:=k1;refine dr ?_;apply cP<;>intro k2
 ·have k2:ek=2:=k2;have e:evW w ⟨ek,ew,ep,eo,pos⟩=jq w eo:=by unfold evW; rw [if_neg k1,if_pos k2]
  rw [e];refine dr ?_;refine oW ((zql W0 hM w eo h1 hz1.l).swp 4 96) rfl ⟨rfl,rfl,rfl,rfl,rfl,rfl,rfl,rfl,trivial⟩ rfl rfl ⟨(),trivial⟩ fun _ _=>⟨rfl,?_⟩
  refine dEr ?_;rfl
 have k2:ek≠2:=k2;refine dr ?_;apply cP<;>intro k3
 ·have k3:ek=3:=k3;have e:evW w ⟨ek,ew,ep,eo,pos⟩=jI w:=by unfold evW; rw [if_neg k1,if_neg k2,if_pos k3]
  rw [e];refine dr ?_;refine oW ((zeC W0 hM w h1 hz1.l).swp 4 96) rfl ⟨rfl,rfl,rfl,rfl,rfl,rfl,rfl,rfl,trivial⟩ rfl rfl ⟨(),trivial⟩ fun _ _=>⟨rfl,?_⟩
  refine dEr ?_;rfl
 have k3:ek≠3:=k3;refine dr ?_;apply cP<;>intro k4
 ·have k4:ek=4:=k4;have e:evW w ⟨ek,ew,ep,eo,pos⟩=(yE w,0):=by unfold evW; rw [if_neg k1,if_neg k2,if_neg k3,if_pos k4]
  rw [e];refine dr ?_;refine oW ((zqj W0 w h1 hz1.l).swp 4 96) rfl ⟨rfl,rfl,rfl,rfl,rfl,rfl,rfl,rfl,trivial⟩ rfl rfl ⟨(),trivial⟩ fun _ _=>⟨rfl,?_⟩
  refine dEr ?_;rfl
 have k4:ek≠4:=k4;refine dr ?_;apply cP<;>intro k5
 ·have k5:ek=5:=k5;have e:evW w ⟨ek,ew,ep,eo,pos⟩=netW w ⟨ek,0,[],ja,pos⟩:=by unfold evW; rw [if_neg k1,if_neg k2,if_neg k3,if_neg k4,if_pos (show 5≤ek∧ek≤7 by omega)]; rfl
  rw [e];refine dr ?_;apply cP<;>intro kk;rotate_left
  ·exact absurd k5 kk
  refine dr ?_;refine oW ((zbJ W0 hM w ek pos h1 hz1 (by omega)).swp 4 96) rfl ⟨rfl,rfl,rfl,rfl,rfl,rfl,rfl,rfl,trivial⟩ rfl rfl ⟨.o,trivial⟩ fun d _=>?_
  cases d<;>refine ⟨rfl,?_⟩
  ·refine dEr ?_;rfl
  ·refine dEr ?_;rfl
  ·refine dEr ?_;rfl
  ·refine dEr ?_;rfl
  ·refine dEr ?_;rfl
  ·refine dEr ?_;rfl
 have k5:ek≠5:=k5;refine dr ?_;apply cP<;>intro k6
 ·have k6:ek=6:=k6;have e:evW w ⟨ek,ew,ep,eo,pos⟩=netW w ⟨ek,0,[],ja,pos⟩:=by unfold evW; rw [if_neg k1,if_neg k2,if_neg k3,if_neg k4,if_pos (show 5≤ek∧ek≤7 by omega)]; rfl
  rw [e];refine dr ?_;apply cP<;>intro kk;rotate_left
  ·exact absurd k6 kk
  refine dr ?_;refine oW ((zbJ W0 hM w ek pos h1 hz1 (by omega)).swp 4 96) rfl ⟨rfl,rfl,rfl,rfl,rfl,rfl,rfl,rfl,trivial⟩ rfl rfl ⟨.o,trivial⟩ fun d _=>?_
  cases d<;>refine ⟨rfl,?_⟩
  ·refine dEr ?_;rfl
  ·refine dEr ?_;rfl
  ·refine dEr ?_;rfl
  ·refine dEr ?_;rfl
  ·refine dEr ?_;rfl
  ·refine dEr ?_;rfl
 have k6:ek≠6:=k6;refine dr ?_;apply cP<;>intro k7
 ·have k7:ek=7:=k7;have e:evW w ⟨ek,ew,ep,eo,pos⟩=netW w ⟨ek,0,[],ja,pos⟩:=by unfold evW; rw [if_neg k1,if_neg k2,if_neg k3,if_neg k4,if_pos (show 5≤ek∧ek≤7 by omega)]; rfl
  rw [e];refine dr ?_;refine oW ((zbJ W0 hM w ek pos h1 hz1 (by omega)).swp 4 96) rfl ⟨rfl,rfl,rfl,rfl,rfl,rfl,rfl,rfl,trivial⟩ rfl rfl ⟨.o,trivial⟩ fun d _=>?_
  cases d<;>refine ⟨rfl,?_⟩
  ·refine dEr ?_;rfl
  ·refine dEr ?_;rfl
  ·refine dEr ?_;rfl
  ·refine dEr ?_;rfl
  ·refine dEr ?_;rfl
  ·refine dEr ?_;rfl
 have k7:ek≠7:=k7;have e:evW w ⟨ek,ew,ep,eo,pos⟩=(w,1):=by unfold evW; rw [if_neg k1,if_neg k2,if_neg k3,if_neg k4,if_neg (show ¬ (5≤ek∧ek≤7) by omega)]
 rw [e];refine dEr ?_;rfl

def zmT:XC:=(.s (.r [.ex 6 (.alloc zV)]) (.s (.r [.mv 8 0,.o1 9 86 [8],.mv 7 9]) (.cut (.s (.r [.mv 10 1,.n1 11 10,.b1 12 .gtr 11 (.i 0),.mv 13 12,.g3 14 0 13,.gt 15 (.opn 38 [14,(.i 2)]) 13,.gt 16 (.bin .eql 15 (.i 0)) 13,.p2 17 13 16]) (.cnd 17 (.r [.mv 18 1,.mv 19 0,.mv 20 1,.n1 21 20,.o1 22 38 [19,21],.i1 23 3 18 22,.f1 24 0 23,.l1 25 1 24,.mv 7 25]) .skip)) (.s (.s (.r [.mv 26 0,.o1 27 38 [26,(.i 16)]]) (.blk 0 (.s (.s (.r [.b1 29 .eql 27 (.i 0),.mv 28 29]) (.cnd 28 .skip (.s (.r [.b1 30 .eql 27 (.i 1),.mv 28 30]) (.cnd 28 .skip (.r [.b1 31 .eql 27 (.i 2),.mv 28 31]))))) (.cnd 28 (.s (.r [.mv 32 0,.o1 33 38 [32,(.i 3)],.mv 34 7,.ex 35 (.build zV [(0,(1,(.i 1))),(1,(1,33)),(2,(1,34))]),.s1 8 6 35]) .ret) (.s (.s (.r [.b1 37 .eql 27 (.i 3),.mv 36 37]) (.cnd 36 .skip (.r [.b1 38 .eql 27 (.i 4),.mv 36 38]))) (.cnd 36 (.s (.r [.mv 39 0,.mv 40 1,.o1 41 37 [39,40],.ex 42 (.build zV [(0,(1,(.i 2))),(3,(4,41))]),.s1 8 6 42]) .ret) (.s (.r [.b1 44 .eql 27 (.i 5),.mv 43 44]) (.cnd 43 (.s (.r [.ex 45 (.build zV [(0,(1,(.i 3)))]),.s1 8 6 45]) .ret) (.s (.r [.b1 47 .eql 27 (.i 6),.mv 46 47]) (.cnd 46 (.s (.r [.ex 48 (.build zV [(0,(1,(.i 4)))]),.s1 8 6 48]) .ret) (.s (.r [.b1 50 .eql 27 (.i 7),.mv 49 50]) (.cnd 49 (.s (.r [.mv 51 0,.mv 52 2,.b1 53 .add 52 (.i 1),.o1 54 38 [51,53],.ex 55 (.build zV [(0,(1,(.i 6))),(7,(1,54))]),.s1 8 6 55]) .ret) (.s (.r [.b1 57 .eql 27 (.i 8),.mv 56 57]) (.cnd 56 (.s (.r [.mv 58 0,.mv 59 2,.b1 60 .add 59 (.i 1),.o1 61 38 [58,60],.ex 62 (.build zV [(0,(1,(.i 7))),(7,(1,61))]),.s1 8 6 62]) .ret) (.s (.r [.b1 64 .eql 27 (.i 9),.mv 63 64]) (.cnd 63 (.s (.r [.mv 65 0,.ex 66 (.bsl 1 3 [(.i 0),(.i 8),(.i 1),(.i 5),(.i 2)]),.o1 67 68 [65,66],.mv 68 0,.ex 69 (.bsl 1 3 [(.k (.c (.sc (.int .i64 (.negSucc 0))))),(.i 3),(.i 0)]),.o1 70 68 [68,69],.mv 71 0,.ex 72 (.bsl 1 9 [(.s [47]),(.s []),(.s [47,97])]),.o1 73 94 [71,72],.mv 74 0,.ex 75 (.bsl 1 3 [(.k (.c (.sc (.int .i64 (.negSucc 0))))),(.i 12),(.i 0)]),.o1 76 68 [74,75],.ex 77 (.build zV [(0,(1,67)),(1,(1,70)),(2,(1,73)),(7,(1,76))]),.s1 8 6 77]) .ret) .skip)))))))))))))))) (.s (.r [.mv 78 0,.mv 79 2,.c1 80 138 [(.i 1),79],.o1 81 38 [78,80],.ex 82 (.build zV [(0,(1,(.i 5))),(7,(1,81))]),.s1 8 6 82]) .ret)))))
theorem zmU:zc Tryz.prog [38,68,94,86,37] 82=some (zmT.ac,[(.cell 6 true 8)],83):=by kernel_rfl
theorem zpB (W0:World) (s:Str) (p:Int) (t:List Ent) (n:Int) (hs:s.length≤2000) (hp:0≤p∧p≤90000) (ht:t.length≤100000) (hn:0≤n∧n≤100000) :
  zw Tryz.prog W0 82 [.ptr 1 0,.c (za t),.c (CI n)] (Rd s p) (fun x:Ev × Int=>p≤x.2∧x.2≤p+12) (fun x => .c (eEv x.1)) (fun x=>Rd s x.2):=by
 refine fW mixed zmU fun hg=>?_
 refine dr ?_;refine oW (qW W0 s p hs (by omega)) rfl ⟨rfl,trivial⟩ rfl rfl ⟨_,List.mem_cons_self⟩ fun x0 hx0=>⟨rfl,?_⟩
 refine dEr ?_;refine JW (fun (x:Str) (q:Int)=>[(0,.ptr 1 0),(1,.c (za t)),(2,.c (CI n)),(6,.ptr 96 0),(7,.c (CS x))]) (fun x q=>[(1,rdB s q),(96,.box [.c (CI 0),.c (CI 0),.c (CS []),.c (CI 0),.c (CS []),.c (CS []),.c (CS []),.c (CI 0)])]) (fun x q=>p≤q∧q≤p+3) ?_ ?_
 ·refine dr ?_;apply cP<;>intro h1
  ·refine dr ?_;refine oW (zX W0 s (p+1) 2 hs (by omega) (by omega)) rfl ⟨rfl,trivial⟩ rfl rfl ⟨0,by omega,by omega⟩ fun v hv=>⟨rfl,?_⟩
   refine dEr ?_;apply cP<;>intro h2
   ·refine dEr ?_;refine oW (zX W0 s (p+1+1) t.length hs (by omega) (by omega)) rfl ⟨rfl,trivial⟩ rfl rfl ⟨0,by omega,by omega⟩ fun k2 hk2=>⟨rfl,?_⟩
    refine dEr ?_;repeat (refine aX hk2.1 (hk2.2 (by omega)) fun e he=>?_; first|refine dEr ?_|exact dz)
    refine ⟨e.path,p+1+1+1,⟨by omega,by omega⟩,?_⟩;refine dr ?_;trivial
   ·refine dEr ?_;refine ⟨x0,p+1+1,⟨by omega,by omega⟩,?_⟩;refine dr ?_;trivial
  ·refine dEr ?_;refine ⟨x0,p+1,⟨by omega,by omega⟩,?_⟩;refine dr ?_;trivial
 rintro x q ⟨hq1,hq2⟩;refine dr ?_;refine oW (zX W0 s q 16 hs (by omega) (by omega)) rfl ⟨rfl,trivial⟩ rfl rfl ⟨0,by omega,by omega⟩ fun k hk=>⟨rfl,?_⟩
 refine dEr ?_;by_cases a:k=0∨k=1∨k=2
 ·rcases a with rfl|rfl|rfl
  ·refine dr ?_;apply cP<;>intro h1;rotate_left
   ·exact absurd rfl h1
   refine dr ?_;apply cP<;>intro h1;rotate_left
   ·exact absurd rfl h1
   refine dr ?_;refine oW (zX W0 s (q+1) 3 hs (by omega) (by omega)) rfl ⟨rfl,trivial⟩ rfl rfl ⟨0,by omega,by omega⟩ fun v hv=>⟨rfl,?_⟩
   refine dEr ?_;refine ⟨none,_,_,?_,(⟨1,v,x,ja,0⟩,q+1+1),⟨by simp only; omega,by simp only; omega⟩,rfl,rfl⟩;refine dr ?_;trivial
  ·refine dr ?_;apply cP<;>intro h1
   ·exact absurd h1 (by decide)
   refine dr ?_;apply cP<;>intro h1;rotate_left
   ·exact absurd rfl h1
   refine dr ?_;apply cP<;>intro h1;rotate_left
   ·exact absurd rfl h1
   refine dr ?_;refine oW (zX W0 s (q+1) 3 hs (by omega) (by omega)) rfl ⟨rfl,trivial⟩ rfl rfl ⟨0,by omega,by omega⟩ fun v hv=>⟨rfl,?_⟩
   refine dEr ?_;refine ⟨none,_,_,?_,(⟨1,v,x,ja,0⟩,q+1+1),⟨by simp only; omega,by simp only; omega⟩,rfl,rfl⟩;refine dr ?_;trivial
  ·refine dr ?_;apply cP<;>intro h1
   ·exact absurd h1 (by decide)
   refine dr ?_;apply cP<;>intro h1
   ·exact absurd h1 (by decide)
   refine dr ?_;apply cP<;>intro h1;rotate_left
   ·exact absurd rfl h1
   refine dr ?_;refine oW (zX W0 s (q+1) 3 hs (by omega) (by omega)) rfl ⟨rfl,trivial⟩ rfl rfl ⟨0,by omega,by omega⟩ fun v hv=>⟨rfl,?_⟩
   refine dEr ?_;refine ⟨none,_,_,?_,(⟨1,v,x,ja,0⟩,q+1+1),⟨by simp only; omega,by simp only; omega⟩,rfl,rfl⟩;refine dr ?_;trivial
 refine dr ?_;apply cP<;>intro h1
 ·omega
 refine dr ?_;apply cP<;>intro h2
 ·omega
 refine dr ?_;apply cP<;>intro h3
 ·omega
 clear h1 h2 h3;refine dr ?_;by_cases a:k=3
 ·subst a;apply cP<;>intro h1;rotate_left
  ·exact absurd rfl h1
  refine dr ?_;apply cP<;>intro h1;rotate_left
  ·exact absurd rfl h1
  refine dr ?_;refine oW (Q5 W0 s (q+1) t hs (by omega) (by omega)) rfl ⟨rfl,trivial⟩ rfl rfl ⟨((⟨0,[],[],[]⟩,q+1):Op × Int),by simp only; omega,by simp only; omega⟩ fun y hy=>⟨rfl,?_⟩
  obtain ⟨op,r⟩:=y;obtain ⟨hr1,hr2⟩:q+1≤r∧r≤q+1+8:=hy;refine dEr ?_;refine ⟨none,_,_,?_,(⟨2,0,[],op,0⟩,r),⟨by simp only; omega,by simp only; omega⟩,rfl,rfl⟩;refine dr ?_;trivial
 apply cP<;>intro h1
 ·exact absurd h1 a
 refine dr ?_;apply cP<;>intro h1
 ·refine dr ?_;refine oW (Q5 W0 s (q+1) t hs (by omega) (by omega)) rfl ⟨rfl,trivial⟩ rfl rfl ⟨((⟨0,[],[],[]⟩,q+1):Op × Int),by simp only; omega,by simp only; omega⟩ fun y hy=>⟨rfl,?_⟩
  obtain ⟨op,r⟩:=y;obtain ⟨hr1,hr2⟩:q+1≤r∧r≤q+1+8:=hy;refine dEr ?_;refine ⟨none,_,_,?_,(⟨2,0,[],op,0⟩,r),⟨by simp only; omega,by simp only; omega⟩,rfl,rfl⟩;refine dr ?_;trivial
 refine dr ?_;apply cP<;>intro h2
 ·refine dr ?_;refine ⟨none,_,_,?_,(⟨3,0,[],ja,0⟩,q+1),⟨by simp only; omega,by simp only; omega⟩,rfl,rfl⟩;refine dr ?_;trivial
 refine dr ?_;apply cP<;>intro h3
 ·refine dr ?_;refine ⟨none,_,_,?_,(⟨4,0,[],ja,0⟩,q+1),⟨by simp only; omega,by simp only; omega⟩,rfl,rfl⟩;refine dr ?_;trivial
 refine dr ?_;apply cP<;>intro h4
 ·refine dr ?_;repeat (refine oB (by omega) ?_; first|refine dr ?_|exact dz)
  refine oW (zX W0 s (q+1) (n+1) hs (by omega) (by omega)) rfl ⟨rfl,trivial⟩ rfl rfl ⟨0,by omega,by omega⟩ fun v hv=>⟨rfl,?_⟩
  refine dEr ?_;refine ⟨none,_,_,?_,(⟨6,0,[],ja,v⟩,q+1+1),⟨by simp only; omega,by simp only; omega⟩,rfl,rfl⟩;refine dr ?_;trivial
 refine dr ?_;apply cP<;>intro h5
 ·refine dr ?_;repeat (refine oB (by omega) ?_; first|refine dr ?_|exact dz)
  refine oW (zX W0 s (q+1) (n+1) hs (by omega) (by omega)) rfl ⟨rfl,trivial⟩ rfl rfl ⟨0,by omega,by omega⟩ fun v hv=>⟨rfl,?_⟩
  refine dEr ?_;refine ⟨none,_,_,?_,(⟨7,0,[],ja,v⟩,q+1+1),⟨by simp only; omega,by simp only; omega⟩,rfl,rfl⟩;refine dr ?_;trivial
 refine dr ?_;apply cP<;>intro h6
 ·refine dr ?_;refine oW (ym W0 s (q+1) [0,8,1,5,2] hs (by omega) (by decide)) rfl ⟨rfl,trivial⟩ rfl rfl ⟨0,by decide⟩ fun v1 _=>⟨rfl,?_⟩
  refine dEr ?_;refine oW (ym W0 s (q+1+1) [-1,3,0] hs (by omega) (by decide)) rfl ⟨rfl,trivial⟩ rfl rfl ⟨0,by decide⟩ fun v2 _=>⟨rfl,?_⟩
  refine dEr ?_;refine oW (f_of W0 s (q+1+1+1) [[47],[],[47,97]] hs (by omega) (by decide)) rfl ⟨rfl,trivial⟩ rfl rfl ⟨_,List.mem_cons_self⟩ fun v3 _=>⟨rfl,?_⟩
  refine dEr ?_;refine oW (ym W0 s (q+1+1+1+1) [-1,12,0] hs (by omega) (by decide)) rfl ⟨rfl,trivial⟩ rfl rfl ⟨0,by decide⟩ fun v4 _=>⟨rfl,?_⟩
  refine dEr ?_;refine ⟨none,_,_,?_,(⟨v1,v2,v3,ja,v4⟩,q+1+1+1+1+1),⟨by simp only; omega,by simp only; omega⟩,rfl,rfl⟩;refine dr ?_;trivial
 have hm:zR 1 n≤100000:=by unfold zR; split<;>omega
 refine dr ?_;repeat (refine c0 (zei W0 1 n) rfl ?_; first|refine dr ?_|exact dz)
 refine oW (zX W0 s (q+1) (zR 1 n) hs (by omega) (by omega)) rfl ⟨rfl,trivial⟩ rfl rfl ⟨0,by omega,by omega⟩ fun v hv=>⟨rfl,?_⟩
 refine dEr ?_;refine ⟨none,_,_,?_,(⟨5,0,[],ja,v⟩,q+1+1),⟨by simp only; omega,by simp only; omega⟩,rfl,rfl⟩;refine dr ?_;trivial
def znx:XC:=(.s (.r [.ex 2 (.alloc zW)]) (.s (.r [.mv 8 0,.o1 9 88 [8],.ex 3 (.alloc [.nil,.nil,.nil]),.s1 3 3 9]) (.cut (.s (.r [.l2 10 3 3,.c1 11 89 [10],.u1 12 11]) (.cnd 12 (.r [.ex 13 (.build [.nil,.nil,.nil] []),.s1 3 3 13]) .skip)) (.s (.r [.l2 14 3 3,.o1 15 90 [14],.ex 4 (.alloc zW),.s1 14 4 15]) (.s (.s (.r [.mv 16 0,.ex 17 (.bsl 1 3 [(.i 12),(.i 24),(.i 36),(.i 48),(.i 6),(.i 0)]),.o1 18 68 [16,17],.mv 5 18]) (.blk 0 (.loop (.s (.s (.r [.mv 19 5,.b1 20 .gtr 19 (.i 0)]) (.ce 20 0)) (.s (.blk 1 (.s (.r [.f1 24 0 4,.l2 25 3 24,.c1 26 36 [25],.mv 23 26,.e1 27 23 0,.e1 28 23 1,.a1 6 27 3 46,.mv 7 28]) (.d [.exo [1,4,5,6,592] 30 (.ld true 14 4),.mv 31 0,.mv 32 6,.f1 33 8 4,.exo [1,4,5,6,592] 34 (.ld false 1 33),.n1 35 34,.exo [1,4,5,6,592] 36 (.opn 82 [31,32,35]),.exo [1,4,5,6,592] 37 (.opn 80 [30,36]),.mv 29 37,.e1 38 29 0,.e1 39 29 1,.s1 14 4 38]))) (.r [.mv 21 5,.b1 22 .sub 21 (.i 1),.mv 5 22])))))) (.s (.r [.l2 40 14 4,.o1 41 81 [40],.s1 14 2 41]) .ret))))))
theorem zny:zc Tryz.prog [88,68,82,80,90,81,1000001,1000004,1000005,1000006,1000592] 35=some (znx.ac,[(.cell 2 true 14)],42):=by kernel_rfl
structure WR (n:Nat) (w:Wld):Prop where
 z:WZ (100+n) w
 h:w.holds.length=3
 f:w.floors.length=3
 ck : -(20000+20000 * (n:Int))≤w.clock∧w.clock≤20000+20000 * n
 ct : -(20000+20000 * (n:Int))≤w.count∧w.count≤20000+20000 * n
theorem WG.wr {n:Nat} {w:Wld} (h:WG w) (hz:HZ n w) (hn:n≤100):WR 0 w:=⟨h.wz (hz.mono (by omega)) (by omega),h.pl.hl,h.pl.fl,by have:=h.pl.ck; omega,by have:=h.pl.ct; omega⟩
theorem WZ.mono {n m:Nat} {w:Wld} (h:WZ n w) (hm:n≤m):WZ m w:=⟨h.o.mono hm,h.z.mono hm,by have:=h.h; omega,by have:=h.f; omega,by have:=h.t; omega⟩
theorem WR.mono {n m:Nat} {w:Wld} (h:WR n w) (hm:n≤m):WR m w:=⟨h.z.mono (by omega),h.h,h.f,by have:=h.ck; omega,by have:=h.ct; omega⟩
theorem zf7:oOk noO=true:=by decide +kernel
theorem zpS (W0:World) (s:Str) (p:Int) (hs:s.length≤2000) (hp:0≤p∧p≤20000) :
  zw Tryz.prog W0 35 [.ptr 1 0] (Rd s p) (fun x:Wld × Int=>WR 0 x.1∧p≤x.2∧x.2≤p+1200) (fun x => .c (zB x.1)) (fun x=>Rd s x.2):=by
 refine fW mixed zny fun hg=>?_
 refine dr ?_;refine oW (zps W0 s p hs (by omega)) rfl ⟨rfl,trivial⟩ rfl rfl ⟨(noO,p),OS.no,by simp,by simp; omega⟩ fun x hx=>⟨rfl,?_⟩
 obtain ⟨o0,q0⟩:=x;obtain ⟨a1,a2,a3⟩:OS o0∧p≤q0∧q0≤p+600:=hx;refine dEr ?_;refine cutz 3 (fun (o:Over)=>[(0,.ptr 1 0),(2,.ptr 32 0),(3,.ptr 48 0)]) (fun o=>[(1,rdB s q0),(32,zWB),(48,ovB o)]) (fun o=>OS o∧oOk o=true) ?_ ?_
 ·refine dEr ?_;repeat (refine c0 (J7 W0 o0) rfl ?_; first|refine dEr ?_|exact dz)
  apply cP<;>intro h1
  ·refine dr ?_;refine ⟨noO,⟨OS.no,zf7⟩,?_⟩;refine zj.trans (F1:=_) (m1:=_) (zj.nilC 48 [.nil,.nil,.nil] [.c (.row []),.c (.row []),.c (.row [])] rfl ⟨nc1,nc1,nc1,trivial⟩) (z:=none) ?_;refine dr ?_;trivial
  ·refine dr ?_;refine ⟨o0,⟨a1,h1⟩,?_⟩;refine zn.s (z:=none) ?_;refine dr ?_;trivial
 rintro o ⟨ho,h1⟩;have g0:WG (newW o):=WG.new h1;refine dr ?_;refine oW (zqh W0 o (ho.oz.mono (by omega))) rfl trivial rfl rfl ⟨(),trivial⟩ fun _ _=>⟨rfl,?_⟩
 refine dEr ?_;refine oW (ym W0 s q0 [12,24,36,48,6,0] hs (by omega) (by decide)) rfl ⟨rfl,trivial⟩ rfl rfl ⟨0,by decide⟩ fun n hn=>⟨rfl,?_⟩
 have hn2:0≤n∧n≤48:=by
  simp only [List.mem_cons,List.not_mem_nil,or_false] at hn;omega
 refine dEr ?_;refine lq3 (fun (x:Wld) (i q:Int)=>[(0,.ptr 1 0),(2,.ptr 32 0),(3,.ptr 48 0),(4,.ptr 64 0),(5,.c (CI i))]) (fun x _ q=>[(1,rdB s q),(32,zWB),(48,ovB o),(64,.box (wCo 6 x))]++wMn 6 x)
  (fun x i q=>0≤i∧i≤n∧p≤q∧q≤p+601+12 * (n - i)∧WG x∧HZ (n - i).toNat x) (fun _ i _=>i.toNat) (newW o) n (q0+1) ⟨by omega,by omega,by omega,by omega,g0,HZ.new.mono (by omega)⟩ ?_ ?_
 ·refine zj.newB 64 o rfl rfl (by decide) (z:=none) ?_;refine dr ?_;repeat (refine oB (by simp) ?_; first|refine dr ?_|exact dz)
  trivial
 rintro x i q ⟨hi1,hi2,hq1,hq2,hx,hz⟩;refine dr ?_;apply cP<;>intro h3
 ·have hv:=y9 W0 x.over;have hvl:=@YB x.over;rw [QV] at hv;generalize (z7 x.over).getD []=t at *;have hnt:x.net.length≤1000:=by have:=hx.pl.nl; omega
  refine dEr ?_;repeat (refine c0 hv rfl ?_; first|refine dEr ?_|exact dz)
  refine oW (zpB W0 s q t x.net.length hs (by omega) (by omega) (by omega)) rfl ⟨rfl,trivial⟩ rfl rfl ⟨((⟨0,0,[],ja,0⟩,q):Ev × Int),by simp only; omega,by simp only; omega⟩ fun y hy=>⟨rfl,?_⟩
  obtain ⟨ev,r⟩:=y;obtain ⟨hr1,hr2⟩:q≤r∧r≤q+12:=hy;have hx':=hx.ev ev;have hz':=hz.ev ev;refine dEr ?_;refine oW (zer W0 x ev hx (hz.mono (by omega))) rfl ⟨rfl,rfl,rfl,trivial⟩ rfl rfl ⟨false,trivial⟩ fun b _=>?_
  generalize evW x ev=rr at *;obtain ⟨x',c⟩:=rr;cases b with
  | true =>
   refine ⟨rfl,?_⟩;refine dEr ?_;repeat ((first|refine oB (by omega) ?_|refine oB (by simp) ?_); first|refine dEr ?_|exact dz)
   refine ⟨x',i - 1,r,⟨by omega,by omega,by omega,by omega,hx',hz'.mono (by omega)⟩,by omega,?_⟩;refine zj.ren 6 592 rfl rfl (z:=none) ?_;refine dr ?_;repeat (refine oB (by simp) ?_; first|refine dr ?_|exact dz)
   trivial
  | false =>
   refine ⟨rfl,?_⟩;refine dEr ?_;repeat ((first|refine oB (by omega) ?_|refine oB (by simp) ?_); first|refine dEr ?_|exact dz)
   refine ⟨x',i - 1,r,⟨by omega,by omega,by omega,by omega,hx',hz'.mono (by omega)⟩,by omega,?_⟩;refine zn.s (z:=none) ?_;refine dr ?_;repeat (refine oB (by simp) ?_; first|refine dr ?_|exact dz)
   trivial
 refine dr ?_;have hw:WR 0 x:=hx.wr hz (by omega);refine oW (zbR W0 x (hx.wz (hz.mono (by omega)) (by omega))) rfl ⟨rfl,rfl,rfl,trivial⟩ rfl rfl ⟨(),trivial⟩ fun _ _=>⟨rfl,?_⟩
 refine dEr ?_;repeat (refine oB (by simp) ?_; first|refine dEr ?_|exact dz)
 refine ⟨none,_,_,?_,(x,q),⟨hw,by omega,by omega⟩,rfl,rfl⟩;refine dr ?_;trivial
def ziv:XC:=(.s (.r [.x1 1 0,.ex 2 (.alloc zW)]) (.s (.r [.l2 5 14 1,.ex 3 (.alloc zW),.s1 14 3 5]) (.s (.r [.f1 6 0 1,.l2 7 3 6,.c1 8 137 [7],.f1 9 0 3,.s1 3 9 8]) (.s (.r [.ex 10 .bsl0,.f1 11 5 1,.l1 12 1 11,.ex 13 (.app true 4 40 59 10 12),.f1 14 5 3,.s1 1 14 13]) (.s (.r [.ex 15 .bsl0,.f1 16 6 3,.s1 1 16 15]) (.s (.s (.r [.m1 4 (.i 0)]) (.blk 0 (.loop (.s (.s (.r [.mv 17 4,.f1 18 6 1,.l1 19 1 18,.n1 20 19,.b1 21 .lss 17 20]) (.ce 21 0)) (.s (.blk 1 (.d [.f1 24 6 3,.l1 25 1 24,.ex 26 .bsl0,.f1 27 6 1,.l1 28 1 27,.mv 29 4,.i1 30 1 28 29,.l1 31 1 30,.ex 32 (.app true 7 80 48 26 31),.ex 33 (.bsl 1 44 [32]),.ex 34 (.app false 1 24 44 25 33),.f1 35 6 3,.s1 1 35 34])) (.ic 22 23 4)))))) (.s (.r [.ex 36 .bsl0,.f1 37 7 1,.l1 38 1 37,.ex 39 (.app true 1 8 3 36 38),.f1 40 7 3,.s1 1 40 39]) (.s (.r [.ex 41 .bsl0,.f1 42 8 1,.l1 43 1 42,.ex 44 (.app true 9 96 67 41 43),.f1 45 8 3,.s1 1 45 44]) (.s (.r [.l2 46 14 3,.s1 14 2 46]) .ret)))))))))
theorem ziw:zc Tryz.prog [] 81=some (ziv.ac,[(.cell 2 true 14)],47):=by kernel_rfl
def cpM (h0 h1 h2:List Hold):Nat→XM
 | 0=>[(14,.row [] 1 44)]
 | 1=>[(14,.rowP [.own 15 h0.length] 44),(15,.row (h0.map zF) 7 48)]
 | 2=>[(14,.rowP [.own 15 h0.length,.own 31 h1.length] 44),(15,.row (h0.map zF) 7 48),(31,.row (h1.map zF) 7 48)]
 | _=>[(14,.rowP [.own 15 h0.length,.own 31 h1.length,.own 47 h2.length] 44),(15,.row (h0.map zF) 7 48),(31,.row (h1.map zF) 7 48),(47,.row (h2.map zF) 7 48)]
theorem zpy (W0:World) (w:Wld) (h0 h1 h2:List Hold) (hz:WZ 1000000 w) (h3:w.holds=[h0,h1,h2]):zw Tryz.prog W0 81 [.c (zB w)] [] (fun _:Unit=>True) (fun _ => .agg [.c (za w.over.base),.c (zy w.over.layers),.c (ze w.over.upper),I w.clock,I w.count,.own 208 w.leases.length,.own 14 3,.own 624 w.floors.length,.own 704 w.net.length,B w.waits,I w.op.kind,.c (CS w.op.path),.c (CS w.op.dest),.c (CS w.op.data)]) (fun _=>cpM h0 h1 h2 3++[(208,.row (w.leases.map jt) 4 59),(624,.row (w.floors.map CI) 1 3),(704,.row (w.net.map eMsg) 9 67)]):=by
 obtain ⟨o,cl,cn,ls,hds,fl,nt,wt,wop⟩:=w;simp only at h3;subst h3;obtain ⟨hzo,⟨hzl,hzh⟩,hh,hf,hn⟩:=hz;simp only at hzo hzl hzh hh hf hn;show zw _ _ _ [.c (.agg [za o.base,zy o.layers,ze o.upper,CI cl,CI cn,zv ls,jC [h0,h1,h2],jU fl,jM nt,CB wt,CI wop.kind,CS wop.path,CS wop.dest,CS wop.data])] _ _ _ _;refine fW mixed ziw fun hg=>?_
 refine dEr ?_;repeat ((first|refine c0 (J5 W0 _ (hzo.mono (by omega))) rfl ?_|refine oB (by simp; omega) ?_|refine oB (by simp) ?_); first|refine dEr ?_|exact dz)
 refine lq (σ:=Nat) (fun k=>[(1,.ptr 16 0),(2,.ptr 32 0),(3,.ptr 48 0),(4,I k)]) (fun k=>cpM h0 h1 h2 k++[(16,.box [.c (za o.base),.c (zy o.layers),.c (ze o.upper),I cl,I cn,.c (zv ls),.c (jC [h0,h1,h2]),.c (jU fl),.c (jM nt),B wt,I wop.kind,.c (CS wop.path),.c (CS wop.dest),.c (CS wop.data)]),(32,zWB),(48,.box [.c (za o.base),.c (zy o.layers),.c (ze o.upper),I cl,I cn,.own 208 ls.length,.own 14 k,.c (jU fl),.c (jM nt),B wt,I wop.kind,.c (CS wop.path),.c (CS wop.dest),.c (CS wop.data)]),(208,.row (ls.map jt) 4 59)]) (fun k=>k≤3) (fun k=>3 - k) 0 (by simp) ?_ ?_
 ·refine zn.trans (z:=none) (z':=some 3) (F1:=[(1,.ptr 16 0),(2,.ptr 32 0),(3,.ptr 48 0),(4,I 0)]) (m1:=[(16,.box [.c (za o.base),.c (zy o.layers),.c (ze o.upper),I cl,I cn,.c (zv ls),.c (jC [h0,h1,h2]),.c (jU fl),.c (jM nt),B wt,I wop.kind,.c (CS wop.path),.c (CS wop.dest),.c (CS wop.data)]),(32,zWB),(48,.box [.c (za o.base),.c (zy o.layers),.c (ze o.upper),I cl,I cn,.own 208 ls.length,.nil,.c (jU fl),.c (jM nt),B wt,I wop.kind,.c (CS wop.path),.c (CS wop.dest),.c (CS wop.data)]),(208,.row (ls.map jt) 4 59)]) ?_ ?_
  ·refine dr ?_;repeat (refine oB (by simp<;>rfl) ?_; first|refine dr ?_|exact dz)
   trivial
  ·show zj _ _ _ _ _;exact zj.er (zj.nilB 48 _ [.c (za o.base),.c (zy o.layers),.c (ze o.upper),I cl,I cn,.own 208 ls.length,.own 14 0,.c (jU fl),.c (jM nt),B wt,I wop.kind,.c (CS wop.path),.c (CS wop.dest),.c (CS wop.data)] 14 44 rfl rfl ⟨nr0,nr0,nr0,nr0,nr0,nr0,nr1,nr0,nr0,nr0,nr0,nr0,nr0,nr0,trivial⟩) rfl
 intro k hk;rcases k with _ | _ | _ | _ | k
 ·have hzk:=hzh h0 (by simp);refine dr ?_;apply cP<;>intro hq;rotate_left
  ·simp at hq
  refine dr ?_;repeat ((first|refine oB (by simp; omega) ?_|refine oB (by simp) ?_); first|refine dr ?_|exact dz)
  refine ⟨1,by omega,by omega,?_⟩;refine zj.ren 512 15 rfl rfl (z:=none) ?_;refine dr ?_;repeat (refine oB (by simp) ?_; first|refine dr ?_|exact dz)
  trivial
 ·have hzk:=hzh h1 (by simp);refine dr ?_;apply cP<;>intro hq;rotate_left
  ·simp at hq
  refine dr ?_;repeat ((first|refine oB (by simp; omega) ?_|refine oB (by simp) ?_); first|refine dr ?_|exact dz)
  refine ⟨2,by omega,by omega,?_⟩;refine zj.ren 512 31 rfl rfl (z:=none) ?_;refine dr ?_;repeat (refine oB (by simp) ?_; first|refine dr ?_|exact dz)
  trivial
 ·have hzk:=hzh h2 (by simp);refine dr ?_;apply cP<;>intro hq;rotate_left
  ·simp at hq
  refine dr ?_;repeat ((first|refine oB (by simp; omega) ?_|refine oB (by simp) ?_); first|refine dr ?_|exact dz)
  refine ⟨3,by omega,by omega,?_⟩;refine zj.ren 512 47 rfl rfl (z:=none) ?_;refine dr ?_;repeat (refine oB (by simp) ?_; first|refine dr ?_|exact dz)
  trivial
 ·refine dr ?_;apply cP<;>intro hq
  ·simp at hq
  refine dr ?_;repeat ((first|refine oB (by simp; omega) ?_|refine oB (by simp) ?_); first|refine dr ?_|exact dz)
  refine ⟨none,_,_,?_,(),trivial,rfl,rfl⟩;refine dr ?_;repeat (refine oB (by simp) ?_; first|refine dr ?_|exact dz)
  trivial
 ·omega
theorem zpx (W0:World) (w:Wld) (h0 h1 h2:List Hold) (hz:WZ 1000000 w) (h3:w.holds=[h0,h1,h2]):zw Tryz.prog W0 81 [.c (zB w)] [] (fun _:Unit=>True) (fun _ => .agg [.c (za w.over.base),.c (zy w.over.layers),.c (ze w.over.upper),I w.clock,I w.count,.own 7 w.leases.length,.own 4 3,.own 5 w.floors.length,.own 6 w.net.length,B w.waits,I w.op.kind,.c (CS w.op.path),.c (CS w.op.dest),.c (CS w.op.data)]) (fun _=>[(4,.rowP [.own 15 h0.length,.own 31 h1.length,.own 47 h2.length] 44),(15,.row (h0.map zF) 7 48),(31,.row (h1.map zF) 7 48),(47,.row (h2.map zF) 7 48),(7,.row (w.leases.map jt) 4 59),(5,.row (w.floors.map CI) 1 3),(6,.row (w.net.map eMsg) 9 67)]) :=
 ((((zpy W0 w h0 h1 h2 hz h3).swp 14 4).swp 624 5).swp 704 6).swp 208 7
def zmM:XC:=(.s (.r [.x1 3 1,.ex 4 (.alloc zW)]) (.s (.r [.l2 8 14 3,.o1 9 81 [8],.ex 5 (.alloc zW),.s1 14 5 9]) (.s (.r [.f1 10 8 5,.l1 11 1 10,.n1 12 11,.mv 6 12]) (.cut (.cut (.r [.mv 13 0,.o1 14 38 [13,(.i 100)]]) (.blk 0 (.s (.r [.b1 16 .eql 14 (.i 0),.mv 15 16]) (.cnd 15 (.d [.f1 17 3 5,.exo [1,15,31,47] 18 (.ld false 1 17),.mv 19 0,.exo [1,15,31,47] 20 (.bsl 1 3 [(.k (.c (.sc (.int .i64 (.negSucc 2))))),(.i 1),(.k (.c (.sc (.int .i64 (.negSucc 0))))),(.i 10000)]),.exo [1,15,31,47] 21 (.opn 68 [19,20]),.b1 22 .add 18 21,.f1 23 3 5,.s1 1 23 22]) (.s (.r [.b1 25 .eql 14 (.i 1),.mv 24 25]) (.cnd 24 (.r [.mv 26 0,.f1 27 4 5,.l1 28 1 27,.b1 29 .sub 28 (.i 1),.ex 30 (.bsl 1 3 [(.i 0),(.k (.c (.sc (.int .i64 (.negSucc 0))))),29,(.i 10000)]),.o1 31 68 [26,30],.f1 32 4 5,.s1 1 32 31]) (.s (.r [.b1 34 .eql 14 (.i 2),.mv 33 34]) (.cnd 33 (.s (.r [.f1 35 5 5,.l1 36 1 35,.n1 37 36,.b1 38 .gtr 37 (.i 0)]) (.cnd 38 (.r [.f1 39 5 5,.l1 40 1 39,.ex 41 (.slr 4 40 (.some (.i 1)) .none),.f1 42 5 5,.s1 1 42 41]) .skip)) (.s (.r [.b1 44 .eql 14 (.i 3),.mv 43 44]) (.cnd 43 (.s (.r [.f1 45 5 5,.l1 46 1 45,.n1 47 46,.b1 48 .gtr 47 (.i 0)]) (.cnd 48 (.d [.f1 49 5 5,.l1 50 1 49,.f1 51 5 5,.l1 52 1 51,.ex 53 (.ia 4 52 (.i 0)),.l2 54 4 53,.ex 55 (.bsl 4 59 [54]),.ex 56 (.app false 4 40 59 50 55),.f1 57 5 5,.s1 1 57 56]) .skip)) (.s (.r [.b1 59 .eql 14 (.i 4),.mv 58 59]) (.cnd 58 (.d [.f1 60 6 5,.exo [1,15,31,47] 61 (.ld false 1 60),.mv 62 0,.exo [1,15,31,47] 63 (.opn 38 [62,(.i 3)]),.f1 64 6 5,.exo [1,15,31,47] 65 (.ld false 1 64),.mv 66 0,.exo [1,15,31,47] 67 (.opn 38 [66,(.i 3)]),.exo [1,15,31,47] 68 (.ia 1 65 67),.exo [1,15,31,47] 69 (.ld false 1 68),.mv 70 0,.exo [1,15,31,47] 71 (.opn 86 [70]),.mv 72 0,.exo [1,15,31,47] 73 (.opn 38 [72,(.i 3)]),.f1 74 3 5,.exo [1,15,31,47] 75 (.ld false 1 74),.mv 76 0,.exo [1,15,31,47] 77 (.opn 38 [76,(.i 3)]),.b1 78 .add 75 77,.ex 79 (.build [sE,(B false),sE,(B false),sE,(I 0),(I 0)] [(0,(1,71)),(5,(1,73)),(6,(1,78))]),.exo [1,15,31,47] 80 (.bsl 7 48 [79]),.exo [1,15,31,47] 81 (.app false 7 80 48 69 80),.exo [1,15,31,47] 82 (.ia 1 61 63),⟨.none,(.st 1 82 81),.none,false,[1,15,31,47]⟩]) (.s (.r [.b1 84 .eql 14 (.i 5),.mv 83 84]) (.cnd 83 (.d [.f1 85 7 5,.exo [1,15,31,47] 86 (.ld false 1 85),.mv 87 0,.exo [1,15,31,47] 88 (.opn 38 [87,(.i 3)]),.mv 89 0,.f1 90 4 5,.exo [1,15,31,47] 91 (.ld false 1 90),.f1 92 4 5,.exo [1,15,31,47] 93 (.ld false 1 92),.b1 94 .add 93 (.i 1),.exo [1,15,31,47] 95 (.bsl 1 3 [(.k (.c (.sc (.int .i64 (.negSucc 0))))),91,94,(.i 0)]),.exo [1,15,31,47] 96 (.opn 68 [89,95]),.exo [1,15,31,47] 97 (.ia 1 86 88),.s1 1 97 96]) (.s (.r [.b1 99 .eql 14 (.i 6),.mv 98 99]) (.cnd 98 (.s (.r [.mv 100 6,.b1 101 .gtr 100 (.i 0)]) (.cnd 101 (.s (.r [.mv 102 0,.mv 103 6,.o1 104 38 [102,103],.mv 7 104]) (.d [.f1 105 8 5,.exo [1,15,31,47] 106 (.ld false 1 105),.mv 107 7,.mv 108 0,.exo [1,15,31,47] 109 (.bsl 1 3 [(.i 0),(.i 5),(.i 2),(.i 4)]),.exo [1,15,31,47] 110 (.opn 68 [108,109]),.exo [1,15,31,47] 111 (.ia 9 106 107),.f1 112 0 111,.s1 1 112 110])) .skip)) (.s (.r [.b1 114 .eql 14 (.i 7),.mv 113 114]) (.cnd 113 (.d [.f1 115 8 5,.exo [1,15,31,47] 116 (.ld false 1 115),.mv 117 0,.exo [1,15,31,47] 118 (.opn 38 [117,(.i 4)]),.b1 119 .add (.i 1) 118,.mv 120 0,.exo [1,15,31,47] 121 (.opn 38 [120,(.i 4)]),.mv 122 0,.exo [1,15,31,47] 123 (.opn 86 [122]),.mv 124 0,.exo [1,15,31,47] 125 (.opn 38 [124,(.i 4)]),.ex 126 (.build [sE,(B false),sE,(B false),sE,(I 0),(I 0)] [(0,(1,123)),(5,(1,125))]),.ex 127 (.build [(I 0),(I 0),sE,(B false),sE,(B false),sE,(I 0),(I 0)] [(0,(1,119)),(1,(1,121)),(2,(7,126))]),.exo [1,15,31,47] 128 (.bsl 9 67 [127]),.ex 129 (.app false 9 96 67 116 128),.f1 130 8 5,.s1 1 130 129]) (.s (.r [.b1 132 .eql 14 (.i 8),.mv 131 132]) (.cnd 131 (.r [.f1 133 9 5,.l1 134 1 133,.u1 135 134,.f1 136 9 5,.s1 1 136 135]) (.s (.r [.b1 138 .eql 14 (.i 9),.mv 137 138]) (.cnd 137 (.r [.f1 140 0 5,.l2 141 3 140,.ex 142 (.build [(I 0),sE,sE,sE] [(0,(1,(.i 2))),(1,(1,(.s [47,97]))),(3,(1,(.s [113])))]),.c1 143 87 [141,142],.mv 139 143,.e1 144 139 0,.e1 145 139 1,.f1 146 0 5,.s1 3 146 144]) .skip)))))))))))))))))))))) (.s (.r [.l2 147 14 5,.s1 14 4 147]) .ret)))))
theorem zmN:zc Tryz.prog [81,38,68,86,1000001,1000015,1000031,1000047] 34=some (zmM.ac,[(.cell 4 true 14)],148):=by kernel_rfl
abbrev bnC (w:Wld) (lv hv fv nv:PV):XB := .box [.c (za w.over.base),.c (zy w.over.layers),.c (ze w.over.upper),I w.clock,I w.count,lv,hv,fv,nv,B w.waits,I w.op.kind,.c (CS w.op.path),.c (CS w.op.dest),.c (CS w.op.data)]
abbrev bnH (h0 h1 h2:List Hold):XM:=[(4,.rowP [.own 15 h0.length,.own 31 h1.length,.own 47 h2.length] 44),(15,.row (h0.map zF) 7 48),(31,.row (h1.map zF) 7 48),(47,.row (h2.map zF) 7 48)]
abbrev bnL (w:Wld):XM:=[(7,.row (w.leases.map jt) 4 59)]
abbrev bnN (w:Wld):XM:=[(5,.row (w.floors.map CI) 1 3),(6,.row (w.net.map eMsg) 9 67)]
abbrev bnF (v:Int) (w:Wld):Fr:=[(0,.ptr 1 0),(4,.ptr 64 0),(5,.ptr 80 0),(6,I w.net.length),(14,.c (CI v))]
abbrev bnB (s:Str) (q:Int) (w:Wld) (lv hv:PV):XM:=[(1,rdB s q),(64,zWB),(80,bnC w lv hv (.own 5 w.floors.length) (.own 6 w.net.length))]++bnN w
theorem zdw {s:Str} {q:Int} {w:Wld} {h0 h1 h2:List Hold} (h3:w.holds=[h0,h1,h2]) {F:Fr} {m:XM} {z:Option Nat} (v:Int)
  (h:zn [1] z F m (bnF v w) (bnB s q w (.own 7 w.leases.length) (.own 4 3)++bnH h0 h1 h2++bnL w)):zn [1] (some 3) F m (bnF v w) (bnB s q w (.own 7 w.leases.length) (.c (jC w.holds))++bnL w):=by
 refine zn.trans (z':=some 3) h ?_;refine zj.trans (z:=some 3) (F1:=bnF v w) (m1:=(4,.rowP [.c (zf h0),.own 31 h1.length,.own 47 h2.length] 44)::(bnB s q w (.own 7 w.leases.length) (.own 4 3)++[(31,.row (h1.map zF) 7 48),(47,.row (h2.map zF) 7 48)]++bnL w)) (zj.pull 4 15 rfl rfl (by simp [frA,fr1]; rfl) rfl ?_) ?_
 ·refine dr ?_;trivial
 refine zj.trans (z:=some 3) (F1:=bnF v w) (m1:=(4,.rowP [.c (zf h0),.c (zf h1),.own 47 h2.length] 44)::(bnB s q w (.own 7 w.leases.length) (.own 4 3)++[(47,.row (h2.map zF) 7 48)]++bnL w)) (zj.pull 4 31 rfl rfl (by simp [frA,fr1]; rfl) rfl ?_) ?_
 ·refine dr ?_;trivial
 refine zj.trans (z:=some 4) (F1:=bnF v w) (m1:=(4,.row [zf h0,zf h1,zf h2] 1 44)::(bnB s q w (.own 7 w.leases.length) (.own 4 3)++bnL w)) (zj.er (zj.pull 4 47 (Lp':=[.c (zf h0),.c (zf h1),.c (zf h2)]) rfl rfl (by simp [frA,fr1]; rfl) rfl ?_) rfl) ?_
 ·refine dr ?_;trivial
 rw [h3];refine dr ?_;repeat (refine oB (by simp) ?_; first|refine dr ?_|exact dz)
 trivial
theorem qU {s:Str} {q:Int} (x:Wld) {F:Fr} {m:XM} {z:Option Nat}
  (h:zn [1] z F m [(4,.ptr 64 0),(5,.ptr 80 0)] (bnB s q x (.c (zv x.leases)) (.c (jC x.holds)))):zn [1] (some 3) F m [(4,.ptr 64 0),(5,.ptr 80 0)] [(1,rdB s q),(64,zWB),(80,wBx x)]:=by
 refine zn.trans (z':=some 3) h ?_;refine zn.trans (z:=some 5) (z':=some 6) (F1:=[(4,.ptr 64 0),(5,.ptr 80 0)]) (m1:=[(1,rdB s q),(64,zWB),(80,bnC x (.c (zv x.leases)) (.c (jC x.holds)) (.c (jU x.floors)) (.own 6 x.net.length)),(6,.row (x.net.map eMsg) 9 67)]) ?_ ?_
 ·refine dr ?_;repeat (refine oB (by simp) ?_; first|refine dr ?_|exact dz)
  trivial
 ·refine dr ?_;repeat (refine oB (by simp) ?_; first|refine dr ?_|exact dz)
  trivial
theorem Zr {s:Str} {q:Int} (x:Wld) (g0 g1 g2:List Hold) (hx:x.holds=[g0,g1,g2]) {F:Fr} {m:XM} {z:Option Nat}
  (h:zn [1] z F m [(4,.ptr 64 0),(5,.ptr 80 0)] ((4,.row [zf g0,zf g1,zf g2] 1 44)::bnB s q x (.c (zv x.leases)) (.own 4 3))):zn [1] (some 3) F m [(4,.ptr 64 0),(5,.ptr 80 0)] [(1,rdB s q),(64,zWB),(80,wBx x)]:=by
 refine qU x (z:=some 3) (zn.trans (z':=some 4) h ?_);rw [hx];refine dr ?_;repeat (refine oB (by simp) ?_; first|refine dr ?_|exact dz)
 trivial
theorem WR.hold {n:Nat} {w:Wld} (h:WR n w) {g0 g1 g2:List Hold} (e0:g0.length≤101+n) (e1:g1.length≤101+n) (e2:g2.length≤101+n):WR (n+1) { w with holds:=[g0,g1,g2] }:=by
 obtain ⟨⟨z1,⟨z2,z3⟩,z4,z5,z6⟩,h,f,ck,ct⟩:=h;refine ⟨⟨z1.mono (by omega),⟨by simp only; omega,fun y hy=>?_⟩,by simp; omega,by simp only; omega,by simp only; omega⟩,rfl,f,by simp only; omega,by simp only; omega⟩;simp only [List.mem_cons,List.not_mem_nil,or_false] at hy;rcases hy with rfl|rfl|rfl<;>omega
def bnM (s:Str) (q:Int) (w:Wld) (h0 h1 h2:List Hold):Nat→XM
 | 0=>bnB s q w (.own 7 w.leases.length) (.c (jC w.holds))++bnL w
 | 1=>bnB s q w (.c (zv w.leases)) (.own 4 3)++bnH h0 h1 h2
 | _=>bnB s q w (.c (zv w.leases)) (.c (jC w.holds))
theorem WR.set {n:Nat} {w x:Wld} (h:WR n w) (h1:x.over=w.over∨OZ 32 x.over) (h2:x.leases.length≤w.leases.length+1) (h3:x.holds=w.holds) (h4:x.floors.length=w.floors.length) (h5:x.net.length≤w.net.length+1)
  (h6 : -(20000+20000 * (n:Int)+10010)≤x.clock∧x.clock≤20000+20000 * n+10010) (h7 : -(20000+20000 * (n:Int)+10010)≤x.count∧x.count≤20000+20000 * n+10010):WR (n+1) x:=by
 obtain ⟨⟨z1,⟨z2,z3⟩,z4,z5,z6⟩,h,f,ck,ct⟩:=h;refine ⟨⟨?_,⟨by omega,fun y hy=>?_⟩,by rw [h3]; omega,by omega,by omega⟩,by rw [h3]; exact h,by omega,by omega,by omega⟩
 ·rcases h1 with e | h1
  ·rw [e]; exact z1.mono (by omega)
  ·exact h1.mono (by omega)
 ·rw [h3] at hy; have:=z3 y hy; omega
set_option maxHeartbeats 8000000 in
theorem zpv (W0:World) (s:Str) (p:Int) (n:Nat) (w:Wld) (hs:s.length≤2000) (hp:0≤p∧p≤90000) (hn:n≤1000) (hw:WR n w) :
  zw Tryz.prog W0 34 [.ptr 1 0,.c (zB w)] (Rd s p) (fun x:Wld × Int=>WR (n+1) x.1∧p≤x.2∧x.2≤p+8) (fun x => .c (zB x.1)) (fun x=>Rd s x.2):=by
 obtain ⟨h0,h1,h2,h3⟩:∃ h0 h1 h2,w.holds=[h0,h1,h2]:=by
  have:=hw.h
  match hh:w.holds with
  | [a,b,c]=>exact ⟨a,b,c,rfl⟩
  | [] | [_] | [_,_] | _::_::_::_::_=>rw [hh] at this; simp at this
 have hz:=hw.z;have hw':WR (n+1) w:=hw.mono (by omega);refine fW mixed zmN fun hg=>?_
 refine dr ?_;refine oW (zpx W0 w h0 h1 h2 (hz.mono (by omega)) h3) rfl trivial rfl rfl ⟨(),trivial⟩ fun _ _=>⟨rfl,?_⟩
 refine dEr ?_;refine cutz 3 (σ:=Wld × Int) (fun _=>[(4,.ptr 64 0),(5,.ptr 80 0)]) (fun x=>[(1,rdB s x.2),(64,zWB),(80,wBx x.1)]) (fun x=>WR (n+1) x.1∧p≤x.2∧x.2≤p+8) ?_ ?_;rotate_left
 ·rintro ⟨x,q⟩ ⟨hx,hq1,hq2⟩;refine dr ?_;refine ⟨none,_,_,?_,(x,q),⟨hx,hq1,hq2⟩,rfl,rfl⟩;refine dr ?_;trivial
 refine dr ?_;refine cutz 3 (σ:=Int × Nat) (fun x=>bnF x.1 w) (fun x=>bnM s (p+1) w h0 h1 h2 x.2) (fun x=>(x.2=0∧x.1=3)∨(x.2=1∧x.1=4)∨(x.2=2∧x.1≠3∧x.1≠4)) ?_ ?_
 ·refine dr ?_;refine oW (zX W0 s p 100 hs (by omega) (by omega)) rfl ⟨rfl,trivial⟩ rfl rfl ⟨0,by omega,by omega⟩ fun v hv=>⟨rfl,?_⟩
  refine dEr ?_;by_cases a:v=3
  ·refine ⟨(v,0),.inl ⟨rfl,a⟩,zdw h3 v (z:=none) ?_⟩;refine dr ?_;trivial
  by_cases b:v=4
  ·refine ⟨(v,1),.inr (.inl ⟨rfl,b⟩),zn.s (z:=some 7) ?_⟩;refine dr ?_;repeat (refine oB (by simp) ?_; first|refine dr ?_|exact dz)
   trivial
  refine ⟨(v,2),.inr (.inr ⟨rfl,a,b⟩),zn.trans (z':=some 7) (zdw (s:=s) (q:=p+1) h3 v (z:=none) ?_) ?_⟩
  ·refine dr ?_;trivial
  ·refine dr ?_;repeat (refine oB (by simp) ?_; first|refine dr ?_|exact dz)
   trivial
 rintro ⟨v,k⟩ hvk;simp only at hvk;have ck:=hw.ck;have ct:=hw.ct;have hf3:=hw.f;have hh3:=hw.h;have zt:=hz.t;have zl:=hz.z.l;rcases hvk with ⟨rfl,rfl⟩ | ⟨rfl,rfl⟩ | ⟨rfl,hv3,hv4⟩
 ·
  refine dr ?_;apply cP<;>intro k1
  ·exact absurd k1 (by decide)
  refine dr ?_;apply cP<;>intro k1
  ·exact absurd k1 (by decide)
  refine dr ?_;apply cP<;>intro k1
  ·exact absurd k1 (by decide)
  refine dr ?_;apply cP<;>intro k1;rotate_left
  ·exact absurd rfl k1
  refine dr ?_;apply cP<;>intro k2
  ·obtain ⟨l,ls,hl⟩:∃ l ls,w.leases=l::ls:=by
    cases h:w.leases with
    | nil=>rw [h] at k2; simp at k2
    | cons l ls=>exact ⟨l,ls,rfl⟩
   refine dr ?_;repeat ((first|refine aM (j:=0) rfl (by omega) ?_|refine oB (by simp; omega) ?_|refine oB (by simp) ?_); first|refine dr ?_|exact dz)
   refine ⟨({ w with leases:=w.leases++[w.leases[0]'(by omega)] },p+1),⟨hw.set (.inl rfl) (by simp) rfl rfl (by simp) (by simp only; omega) (by simp only; omega),by simp only; omega,by simp only; omega⟩,qU _ (z:=some 7) ?_⟩;refine dr ?_;repeat (refine oB (by first|(simp; done)|(simp; exact congrArg CV.row app1)) ?_; first|refine dr ?_|exact dz)
   trivial
  ·refine dr ?_;refine ⟨(w,p+1),⟨hw',by simp only; omega,by simp only; omega⟩,qU w (z:=some 7) ?_⟩;refine dr ?_;repeat (refine oB (by simp) ?_; first|refine dr ?_|exact dz)
   trivial
 ·
  refine dr ?_;apply cP<;>intro k1
  ·exact absurd k1 (by decide)
  refine dr ?_;apply cP<;>intro k1
  ·exact absurd k1 (by decide)
  refine dr ?_;apply cP<;>intro k1
  ·exact absurd k1 (by decide)
  refine dr ?_;apply cP<;>intro k1
  ·exact absurd k1 (by decide)
  refine dr ?_;apply cP<;>intro k1;rotate_left
  ·exact absurd rfl k1
  refine dr ?_;refine oW (zX W0 s (p+1) 3 hs (by omega) (by omega)) rfl ⟨rfl,trivial⟩ rfl rfl ⟨0,by omega,by omega⟩ fun i hi=>⟨rfl,?_⟩
  refine dEr ?_;refine oW (zX W0 s (p+1+1) 3 hs (by omega) (by omega)) rfl ⟨rfl,trivial⟩ rfl rfl ⟨0,by omega,by omega⟩ fun j hj=>⟨rfl,?_⟩
  refine dEr ?_;obtain ⟨i,rfl⟩:∃ k:Nat,i=k:=⟨i.toNat,by omega⟩;obtain ⟨j,rfl⟩:∃ k:Nat,j=k:=⟨j.toNat,by omega⟩;have hi2:i < 3:=by have:=hi.2 (by omega); omega
  have hj2:j < 3:=by have:=hj.2 (by omega); omega
  clear hi hj;have z3:=hz.z.h;rw [h3] at z3;have e0:=z3 h0 (by simp);have e1:=z3 h1 (by simp);have e2:=z3 h2 (by simp);have hc:(i=0∨i=1∨i=2)∧(j=0∨j=1∨j=2):=⟨by omega,by omega⟩;obtain ⟨rfl|rfl|rfl,rfl|rfl|rfl⟩:=hc
  ·
   refine dr ?_;repeat ((first|refine nE (j:=0) rfl ?_|refine oB (by decide) ?_); first|refine dr ?_|exact dz)
   refine oW (qW W0 s (p+1+1+1) hs (by omega)) rfl ⟨rfl,trivial⟩ rfl rfl ⟨_,List.mem_cons_self⟩ fun a3 ha3=>⟨rfl,?_⟩
   refine dEr ?_;refine oW (zX W0 s (p+1+1+1+1) 3 hs (by omega) (by omega)) rfl ⟨rfl,trivial⟩ rfl rfl ⟨0,by omega,by omega⟩ fun a4 ha4=>⟨rfl,?_⟩
   refine dEr ?_;refine oW (zX W0 s (p+1+1+1+1+1) 3 hs (by omega) (by omega)) rfl ⟨rfl,trivial⟩ rfl rfl ⟨0,by omega,by omega⟩ fun a5 ha5=>⟨rfl,?_⟩
   have ha5':=ha5.2 (by omega);refine dEr ?_;repeat (refine oB (by omega) ?_; first|refine dEr ?_|exact dz)
   refine ⟨({ w with holds:=[h0++[⟨a3,false,noE,a4,w.clock+a5⟩],h1,h2] },p+1+1+1+1+1+1),⟨hw.hold (by first|omega|(simp; omega)) (by first|omega|(simp; omega)) (by first|omega|(simp; omega)),by simp only; omega,by simp only; omega⟩,Zr _ (h0++[⟨a3,false,noE,a4,w.clock+a5⟩]) (h1) (h2) rfl (z:=some 3) ?_⟩;refine zj.trans (z:=some 3) (F1:=[(4,.ptr 64 0),(5,.ptr 80 0)]) (m1:=(4,.rowP [.c (zf (h0++[⟨a3,false,noE,a4,w.clock+a5⟩])),.c (zf h1),.own 47 h2.length] 44)::(bnB s (p+1+1+1+1+1+1) w (.c (zv w.leases)) (.own 4 3)++[(47,.row (h2.map zF) 7 48)])) (zj.pull 4 31 (m3:=bnB s (p+1+1+1+1+1+1) w (.c (zv w.leases)) (.own 4 3)++[(47,.row (h2.map zF) 7 48)]) (Lp':=[.c (zf (h0++[⟨a3,false,noE,a4,w.clock+a5⟩])),.c (zf h1),.own 47 h2.length]) rfl rfl (by simp [frA,fr1,zf]<;>rfl) rfl ?_) ?_
   ·refine dr ?_;repeat (refine oB (by first|(simp; done)|(simp [zf]; rfl)) ?_; first|refine dr ?_|exact dz)
    trivial
   refine zj.trans (z:=none) (F1:=[(4,.ptr 64 0),(5,.ptr 80 0)]) (m1:=(4,.row [zf (h0++[⟨a3,false,noE,a4,w.clock+a5⟩]),zf (h1),zf (h2)] 1 44)::(bnB s (p+1+1+1+1+1+1) w (.c (zv w.leases)) (.own 4 3))) (zj.er (zj.pull 4 47 (m3:=bnB s (p+1+1+1+1+1+1) w (.c (zv w.leases)) (.own 4 3)) (Lp':=[.c (zf (h0++[⟨a3,false,noE,a4,w.clock+a5⟩])),.c (zf h1),.c (zf h2)]) rfl rfl (by simp [frA,fr1,zf]<;>rfl) rfl ?_) rfl) ?_
   ·refine dr ?_;repeat (refine oB (by first|(simp; done)|(simp [zf]; rfl)) ?_; first|refine dr ?_|exact dz)
    trivial
   refine dr ?_;repeat (refine oB (by first|(simp; done)|(simp [zf]; rfl)) ?_; first|refine dr ?_|exact dz)
   trivial
  ·
   refine dr ?_;repeat ((first|refine nE (j:=1) rfl ?_|refine oB (by decide) ?_); first|refine dr ?_|exact dz)
   refine oW (qW W0 s (p+1+1+1) hs (by omega)) rfl ⟨rfl,trivial⟩ rfl rfl ⟨_,List.mem_cons_self⟩ fun a3 ha3=>⟨rfl,?_⟩
   refine dEr ?_;refine oW (zX W0 s (p+1+1+1+1) 3 hs (by omega) (by omega)) rfl ⟨rfl,trivial⟩ rfl rfl ⟨0,by omega,by omega⟩ fun a4 ha4=>⟨rfl,?_⟩
   refine dEr ?_;refine oW (zX W0 s (p+1+1+1+1+1) 3 hs (by omega) (by omega)) rfl ⟨rfl,trivial⟩ rfl rfl ⟨0,by omega,by omega⟩ fun a5 ha5=>⟨rfl,?_⟩
   have ha5':=ha5.2 (by omega);refine dEr ?_;repeat (refine oB (by omega) ?_; first|refine dEr ?_|exact dz)
   refine ⟨({ w with holds:=[h1++[⟨a3,false,noE,a4,w.clock+a5⟩],h1,h2] },p+1+1+1+1+1+1),⟨hw.hold (by first|omega|(simp; omega)) (by first|omega|(simp; omega)) (by first|omega|(simp; omega)),by simp only; omega,by simp only; omega⟩,Zr _ (h1++[⟨a3,false,noE,a4,w.clock+a5⟩]) (h1) (h2) rfl (z:=some 3) ?_⟩;refine zj.trans (z:=some 3) (zj.ung 4 31 (n:=h1.length) (C:=h1.map zF) (Lp':=[.c (.row (h1.map zF++[.agg [CS a3,CB false,CS [],CB false,CS [],CI a4,CI (w.clock+a5)]])),.c (zf h1),.own 47 h2.length]) rfl rfl (by simp) ⟨.inl rfl,.inr ⟨rfl,rfl⟩,.inl rfl,trivial⟩) ?_;refine zj.trans (z:=none) (F1:=[(4,.ptr 64 0),(5,.ptr 80 0)]) (m1:=(4,.row [zf (h1++[⟨a3,false,noE,a4,w.clock+a5⟩]),zf (h1),zf (h2)] 1 44)::(bnB s (p+1+1+1+1+1+1) w (.c (zv w.leases)) (.own 4 3))) (zj.er (zj.pull 4 47 (m3:=bnB s (p+1+1+1+1+1+1) w (.c (zv w.leases)) (.own 4 3)) (Lp':=[.c (zf (h1++[⟨a3,false,noE,a4,w.clock+a5⟩])),.c (zf h1),.c (zf h2)]) rfl rfl (by simp [frA,fr1,zf]<;>rfl) rfl ?_) rfl) ?_
   ·refine dr ?_;repeat (refine oB (by first|(simp; done)|(simp [zf]; rfl)) ?_; first|refine dr ?_|exact dz)
    trivial
   refine dr ?_;repeat (refine oB (by first|(simp; done)|(simp [zf]; rfl)) ?_; first|refine dr ?_|exact dz)
   trivial
  ·
   refine dr ?_;repeat ((first|refine nE (j:=2) rfl ?_|refine oB (by decide) ?_); first|refine dr ?_|exact dz)
   refine oW (qW W0 s (p+1+1+1) hs (by omega)) rfl ⟨rfl,trivial⟩ rfl rfl ⟨_,List.mem_cons_self⟩ fun a3 ha3=>⟨rfl,?_⟩
   refine dEr ?_;refine oW (zX W0 s (p+1+1+1+1) 3 hs (by omega) (by omega)) rfl ⟨rfl,trivial⟩ rfl rfl ⟨0,by omega,by omega⟩ fun a4 ha4=>⟨rfl,?_⟩
   refine dEr ?_;refine oW (zX W0 s (p+1+1+1+1+1) 3 hs (by omega) (by omega)) rfl ⟨rfl,trivial⟩ rfl rfl ⟨0,by omega,by omega⟩ fun a5 ha5=>⟨rfl,?_⟩
   have ha5':=ha5.2 (by omega);refine dEr ?_;repeat (refine oB (by omega) ?_; first|refine dEr ?_|exact dz)
   refine ⟨({ w with holds:=[h2++[⟨a3,false,noE,a4,w.clock+a5⟩],h1,h2] },p+1+1+1+1+1+1),⟨hw.hold (by first|omega|(simp; omega)) (by first|omega|(simp; omega)) (by first|omega|(simp; omega)),by simp only; omega,by simp only; omega⟩,Zr _ (h2++[⟨a3,false,noE,a4,w.clock+a5⟩]) (h1) (h2) rfl (z:=some 3) ?_⟩;refine zj.trans (z:=some 3) (zj.ung 4 47 (n:=h2.length) (C:=h2.map zF) (Lp':=[.c (.row (h2.map zF++[.agg [CS a3,CB false,CS [],CB false,CS [],CI a4,CI (w.clock+a5)]])),.own 31 h1.length,.c (zf h2)]) rfl rfl (by simp) ⟨.inl rfl,.inl rfl,.inr ⟨rfl,rfl⟩,trivial⟩) ?_;refine zj.trans (z:=none) (F1:=[(4,.ptr 64 0),(5,.ptr 80 0)]) (m1:=(4,.row [zf (h2++[⟨a3,false,noE,a4,w.clock+a5⟩]),zf (h1),zf (h2)] 1 44)::(bnB s (p+1+1+1+1+1+1) w (.c (zv w.leases)) (.own 4 3))) (zj.er (zj.pull 4 31 (m3:=bnB s (p+1+1+1+1+1+1) w (.c (zv w.leases)) (.own 4 3)) (Lp':=[.c (zf (h2++[⟨a3,false,noE,a4,w.clock+a5⟩])),.c (zf h1),.c (zf h2)]) rfl rfl (by simp [frA,fr1,zf]<;>rfl) rfl ?_) rfl) ?_
   ·refine dr ?_;repeat (refine oB (by first|(simp; done)|(simp [zf]; rfl)) ?_; first|refine dr ?_|exact dz)
    trivial
   refine dr ?_;repeat (refine oB (by first|(simp; done)|(simp [zf]; rfl)) ?_; first|refine dr ?_|exact dz)
   trivial
  ·
   refine dr ?_;repeat ((first|refine nE (j:=0) rfl ?_|refine oB (by decide) ?_); first|refine dr ?_|exact dz)
   refine oW (qW W0 s (p+1+1+1) hs (by omega)) rfl ⟨rfl,trivial⟩ rfl rfl ⟨_,List.mem_cons_self⟩ fun a3 ha3=>⟨rfl,?_⟩
   refine dEr ?_;refine oW (zX W0 s (p+1+1+1+1) 3 hs (by omega) (by omega)) rfl ⟨rfl,trivial⟩ rfl rfl ⟨0,by omega,by omega⟩ fun a4 ha4=>⟨rfl,?_⟩
   refine dEr ?_;refine oW (zX W0 s (p+1+1+1+1+1) 3 hs (by omega) (by omega)) rfl ⟨rfl,trivial⟩ rfl rfl ⟨0,by omega,by omega⟩ fun a5 ha5=>⟨rfl,?_⟩
   have ha5':=ha5.2 (by omega);refine dEr ?_;repeat (refine oB (by omega) ?_; first|refine dEr ?_|exact dz)
   refine ⟨({ w with holds:=[h0,h0++[⟨a3,false,noE,a4,w.clock+a5⟩],h2] },p+1+1+1+1+1+1),⟨hw.hold (by first|omega|(simp; omega)) (by first|omega|(simp; omega)) (by first|omega|(simp; omega)),by simp only; omega,by simp only; omega⟩,Zr _ (h0) (h0++[⟨a3,false,noE,a4,w.clock+a5⟩]) (h2) rfl (z:=some 3) ?_⟩;refine zj.trans (z:=some 3) (zj.ung 4 15 (n:=h0.length) (C:=h0.map zF) (Lp':=[.c (zf h0),.c (.row (h0.map zF++[.agg [CS a3,CB false,CS [],CB false,CS [],CI a4,CI (w.clock+a5)]])),.own 47 h2.length]) rfl rfl (by simp) ⟨.inr ⟨rfl,rfl⟩,.inl rfl,.inl rfl,trivial⟩) ?_;refine zj.trans (z:=none) (F1:=[(4,.ptr 64 0),(5,.ptr 80 0)]) (m1:=(4,.row [zf (h0),zf (h0++[⟨a3,false,noE,a4,w.clock+a5⟩]),zf (h2)] 1 44)::(bnB s (p+1+1+1+1+1+1) w (.c (zv w.leases)) (.own 4 3))) (zj.er (zj.pull 4 47 (m3:=bnB s (p+1+1+1+1+1+1) w (.c (zv w.leases)) (.own 4 3)) (Lp':=[.c (zf h0),.c (zf (h0++[⟨a3,false,noE,a4,w.clock+a5⟩])),.c (zf h2)]) rfl rfl (by simp [frA,fr1,zf]<;>rfl) rfl ?_) rfl) ?_
   ·refine dr ?_;repeat (refine oB (by first|(simp; done)|(simp [zf]; rfl)) ?_; first|refine dr ?_|exact dz)
    trivial
   refine dr ?_;repeat (refine oB (by first|(simp; done)|(simp [zf]; rfl)) ?_; first|refine dr ?_|exact dz)
   trivial
  ·
   refine dr ?_;repeat ((first|refine nE (j:=1) rfl ?_|refine oB (by decide) ?_); first|refine dr ?_|exact dz)
   refine oW (qW W0 s (p+1+1+1) hs (by omega)) rfl ⟨rfl,trivial⟩ rfl rfl ⟨_,List.mem_cons_self⟩ fun a3 ha3=>⟨rfl,?_⟩
   refine dEr ?_;refine oW (zX W0 s (p+1+1+1+1) 3 hs (by omega) (by omega)) rfl ⟨rfl,trivial⟩ rfl rfl ⟨0,by omega,by omega⟩ fun a4 ha4=>⟨rfl,?_⟩
   refine dEr ?_;refine oW (zX W0 s (p+1+1+1+1+1) 3 hs (by omega) (by omega)) rfl ⟨rfl,trivial⟩ rfl rfl ⟨0,by omega,by omega⟩ fun a5 ha5=>⟨rfl,?_⟩
   have ha5':=ha5.2 (by omega);refine dEr ?_;repeat (refine oB (by omega) ?_; first|refine dEr ?_|exact dz)
   refine ⟨({ w with holds:=[h0,h1++[⟨a3,false,noE,a4,w.clock+a5⟩],h2] },p+1+1+1+1+1+1),⟨hw.hold (by first|omega|(simp; omega)) (by first|omega|(simp; omega)) (by first|omega|(simp; omega)),by simp only; omega,by simp only; omega⟩,Zr _ (h0) (h1++[⟨a3,false,noE,a4,w.clock+a5⟩]) (h2) rfl (z:=some 3) ?_⟩;refine zj.trans (z:=some 3) (F1:=[(4,.ptr 64 0),(5,.ptr 80 0)]) (m1:=(4,.rowP [.c (zf h0),.c (zf (h1++[⟨a3,false,noE,a4,w.clock+a5⟩])),.own 47 h2.length] 44)::(bnB s (p+1+1+1+1+1+1) w (.c (zv w.leases)) (.own 4 3)++[(47,.row (h2.map zF) 7 48)])) (zj.pull 4 15 (m3:=bnB s (p+1+1+1+1+1+1) w (.c (zv w.leases)) (.own 4 3)++[(47,.row (h2.map zF) 7 48)]) (Lp':=[.c (zf h0),.c (zf (h1++[⟨a3,false,noE,a4,w.clock+a5⟩])),.own 47 h2.length]) rfl rfl (by simp [frA,fr1,zf]<;>rfl) rfl ?_) ?_
   ·refine dr ?_;repeat (refine oB (by first|(simp; done)|(simp [zf]; rfl)) ?_; first|refine dr ?_|exact dz)
    trivial
   refine zj.trans (z:=none) (F1:=[(4,.ptr 64 0),(5,.ptr 80 0)]) (m1:=(4,.row [zf (h0),zf (h1++[⟨a3,false,noE,a4,w.clock+a5⟩]),zf (h2)] 1 44)::(bnB s (p+1+1+1+1+1+1) w (.c (zv w.leases)) (.own 4 3))) (zj.er (zj.pull 4 47 (m3:=bnB s (p+1+1+1+1+1+1) w (.c (zv w.leases)) (.own 4 3)) (Lp':=[.c (zf h0),.c (zf (h1++[⟨a3,false,noE,a4,w.clock+a5⟩])),.c (zf h2)]) rfl rfl (by simp [frA,fr1,zf]<;>rfl) rfl ?_) rfl) ?_
   ·refine dr ?_;repeat (refine oB (by first|(simp; done)|(simp [zf]; rfl)) ?_; first|refine dr ?_|exact dz)
    trivial
   refine dr ?_;repeat (refine oB (by first|(simp; done)|(simp [zf]; rfl)) ?_; first|refine dr ?_|exact dz)
   trivial
  ·
   refine dr ?_;repeat ((first|refine nE (j:=2) rfl ?_|refine oB (by decide) ?_); first|refine dr ?_|exact dz)
   refine oW (qW W0 s (p+1+1+1) hs (by omega)) rfl ⟨rfl,trivial⟩ rfl rfl ⟨_,List.mem_cons_self⟩ fun a3 ha3=>⟨rfl,?_⟩
   refine dEr ?_;refine oW (zX W0 s (p+1+1+1+1) 3 hs (by omega) (by omega)) rfl ⟨rfl,trivial⟩ rfl rfl ⟨0,by omega,by omega⟩ fun a4 ha4=>⟨rfl,?_⟩
   refine dEr ?_;refine oW (zX W0 s (p+1+1+1+1+1) 3 hs (by omega) (by omega)) rfl ⟨rfl,trivial⟩ rfl rfl ⟨0,by omega,by omega⟩ fun a5 ha5=>⟨rfl,?_⟩
   have ha5':=ha5.2 (by omega);refine dEr ?_;repeat (refine oB (by omega) ?_; first|refine dEr ?_|exact dz)
   refine ⟨({ w with holds:=[h0,h2++[⟨a3,false,noE,a4,w.clock+a5⟩],h2] },p+1+1+1+1+1+1),⟨hw.hold (by first|omega|(simp; omega)) (by first|omega|(simp; omega)) (by first|omega|(simp; omega)),by simp only; omega,by simp only; omega⟩,Zr _ (h0) (h2++[⟨a3,false,noE,a4,w.clock+a5⟩]) (h2) rfl (z:=some 3) ?_⟩;refine zj.trans (z:=some 3) (zj.ung 4 47 (n:=h2.length) (C:=h2.map zF) (Lp':=[.own 15 h0.length,.c (.row (h2.map zF++[.agg [CS a3,CB false,CS [],CB false,CS [],CI a4,CI (w.clock+a5)]])),.c (zf h2)]) rfl rfl (by simp) ⟨.inl rfl,.inl rfl,.inr ⟨rfl,rfl⟩,trivial⟩) ?_;refine zj.trans (z:=none) (F1:=[(4,.ptr 64 0),(5,.ptr 80 0)]) (m1:=(4,.row [zf (h0),zf (h2++[⟨a3,false,noE,a4,w.clock+a5⟩]),zf (h2)] 1 44)::(bnB s (p+1+1+1+1+1+1) w (.c (zv w.leases)) (.own 4 3))) (zj.er (zj.pull 4 15 (m3:=bnB s (p+1+1+1+1+1+1) w (.c (zv w.leases)) (.own 4 3)) (Lp':=[.c (zf h0),.c (zf (h2++[⟨a3,false,noE,a4,w.clock+a5⟩])),.c (zf h2)]) rfl rfl (by simp [frA,fr1,zf]<;>rfl) rfl ?_) rfl) ?_
   ·refine dr ?_;repeat (refine oB (by first|(simp; done)|(simp [zf]; rfl)) ?_; first|refine dr ?_|exact dz)
    trivial
   refine dr ?_;repeat (refine oB (by first|(simp; done)|(simp [zf]; rfl)) ?_; first|refine dr ?_|exact dz)
   trivial
  ·
   refine dr ?_;repeat ((first|refine nE (j:=0) rfl ?_|refine oB (by decide) ?_); first|refine dr ?_|exact dz)
   refine oW (qW W0 s (p+1+1+1) hs (by omega)) rfl ⟨rfl,trivial⟩ rfl rfl ⟨_,List.mem_cons_self⟩ fun a3 ha3=>⟨rfl,?_⟩
   refine dEr ?_;refine oW (zX W0 s (p+1+1+1+1) 3 hs (by omega) (by omega)) rfl ⟨rfl,trivial⟩ rfl rfl ⟨0,by omega,by omega⟩ fun a4 ha4=>⟨rfl,?_⟩
   refine dEr ?_;refine oW (zX W0 s (p+1+1+1+1+1) 3 hs (by omega) (by omega)) rfl ⟨rfl,trivial⟩ rfl rfl ⟨0,by omega,by omega⟩ fun a5 ha5=>⟨rfl,?_⟩
   have ha5':=ha5.2 (by omega);refine dEr ?_;repeat (refine oB (by omega) ?_; first|refine dEr ?_|exact dz)
   refine ⟨({ w with holds:=[h0,h1,h0++[⟨a3,false,noE,a4,w.clock+a5⟩]] },p+1+1+1+1+1+1),⟨hw.hold (by first|omega|(simp; omega)) (by first|omega|(simp; omega)) (by first|omega|(simp; omega)),by simp only; omega,by simp only; omega⟩,Zr _ (h0) (h1) (h0++[⟨a3,false,noE,a4,w.clock+a5⟩]) rfl (z:=some 3) ?_⟩;refine zj.trans (z:=some 3) (zj.ung 4 15 (n:=h0.length) (C:=h0.map zF) (Lp':=[.c (zf h0),.own 31 h1.length,.c (.row (h0.map zF++[.agg [CS a3,CB false,CS [],CB false,CS [],CI a4,CI (w.clock+a5)]]))]) rfl rfl (by simp) ⟨.inr ⟨rfl,rfl⟩,.inl rfl,.inl rfl,trivial⟩) ?_;refine zj.trans (z:=none) (F1:=[(4,.ptr 64 0),(5,.ptr 80 0)]) (m1:=(4,.row [zf (h0),zf (h1),zf (h0++[⟨a3,false,noE,a4,w.clock+a5⟩])] 1 44)::(bnB s (p+1+1+1+1+1+1) w (.c (zv w.leases)) (.own 4 3))) (zj.er (zj.pull 4 31 (m3:=bnB s (p+1+1+1+1+1+1) w (.c (zv w.leases)) (.own 4 3)) (Lp':=[.c (zf h0),.c (zf h1),.c (zf (h0++[⟨a3,false,noE,a4,w.clock+a5⟩]))]) rfl rfl (by simp [frA,fr1,zf]<;>rfl) rfl ?_) rfl) ?_
   ·refine dr ?_;repeat (refine oB (by first|(simp; done)|(simp [zf]; rfl)) ?_; first|refine dr ?_|exact dz)
    trivial
   refine dr ?_;repeat (refine oB (by first|(simp; done)|(simp [zf]; rfl)) ?_; first|refine dr ?_|exact dz)
   trivial
  ·
   refine dr ?_;repeat ((first|refine nE (j:=1) rfl ?_|refine oB (by decide) ?_); first|refine dr ?_|exact dz)
   refine oW (qW W0 s (p+1+1+1) hs (by omega)) rfl ⟨rfl,trivial⟩ rfl rfl ⟨_,List.mem_cons_self⟩ fun a3 ha3=>⟨rfl,?_⟩
   refine dEr ?_;refine oW (zX W0 s (p+1+1+1+1) 3 hs (by omega) (by omega)) rfl ⟨rfl,trivial⟩ rfl rfl ⟨0,by omega,by omega⟩ fun a4 ha4=>⟨rfl,?_⟩
   refine dEr ?_;refine oW (zX W0 s (p+1+1+1+1+1) 3 hs (by omega) (by omega)) rfl ⟨rfl,trivial⟩ rfl rfl ⟨0,by omega,by omega⟩ fun a5 ha5=>⟨rfl,?_⟩
   have ha5':=ha5.2 (by omega);refine dEr ?_;repeat (refine oB (by omega) ?_; first|refine dEr ?_|exact dz)
   refine ⟨({ w with holds:=[h0,h1,h1++[⟨a3,false,noE,a4,w.clock+a5⟩]] },p+1+1+1+1+1+1),⟨hw.hold (by first|omega|(simp; omega)) (by first|omega|(simp; omega)) (by first|omega|(simp; omega)),by simp only; omega,by simp only; omega⟩,Zr _ (h0) (h1) (h1++[⟨a3,false,noE,a4,w.clock+a5⟩]) rfl (z:=some 3) ?_⟩;refine zj.trans (z:=some 3) (zj.ung 4 31 (n:=h1.length) (C:=h1.map zF) (Lp':=[.own 15 h0.length,.c (zf h1),.c (.row (h1.map zF++[.agg [CS a3,CB false,CS [],CB false,CS [],CI a4,CI (w.clock+a5)]]))]) rfl rfl (by simp) ⟨.inl rfl,.inr ⟨rfl,rfl⟩,.inl rfl,trivial⟩) ?_;refine zj.trans (z:=none) (F1:=[(4,.ptr 64 0),(5,.ptr 80 0)]) (m1:=(4,.row [zf (h0),zf (h1),zf (h1++[⟨a3,false,noE,a4,w.clock+a5⟩])] 1 44)::(bnB s (p+1+1+1+1+1+1) w (.c (zv w.leases)) (.own 4 3))) (zj.er (zj.pull 4 15 (m3:=bnB s (p+1+1+1+1+1+1) w (.c (zv w.leases)) (.own 4 3)) (Lp':=[.c (zf h0),.c (zf h1),.c (zf (h1++[⟨a3,false,noE,a4,w.clock+a5⟩]))]) rfl rfl (by simp [frA,fr1,zf]<;>rfl) rfl ?_) rfl) ?_
   ·refine dr ?_;repeat (refine oB (by first|(simp; done)|(simp [zf]; rfl)) ?_; first|refine dr ?_|exact dz)
    trivial
   refine dr ?_;repeat (refine oB (by first|(simp; done)|(simp [zf]; rfl)) ?_; first|refine dr ?_|exact dz)
   trivial
  ·
   refine dr ?_;repeat ((first|refine nE (j:=2) rfl ?_|refine oB (by decide) ?_); first|refine dr ?_|exact dz)
   refine oW (qW W0 s (p+1+1+1) hs (by omega)) rfl ⟨rfl,trivial⟩ rfl rfl ⟨_,List.mem_cons_self⟩ fun a3 ha3=>⟨rfl,?_⟩
   refine dEr ?_;refine oW (zX W0 s (p+1+1+1+1) 3 hs (by omega) (by omega)) rfl ⟨rfl,trivial⟩ rfl rfl ⟨0,by omega,by omega⟩ fun a4 ha4=>⟨rfl,?_⟩
   refine dEr ?_;refine oW (zX W0 s (p+1+1+1+1+1) 3 hs (by omega) (by omega)) rfl ⟨rfl,trivial⟩ rfl rfl ⟨0,by omega,by omega⟩ fun a5 ha5=>⟨rfl,?_⟩
   have ha5':=ha5.2 (by omega);refine dEr ?_;repeat (refine oB (by omega) ?_; first|refine dEr ?_|exact dz)
   refine ⟨({ w with holds:=[h0,h1,h2++[⟨a3,false,noE,a4,w.clock+a5⟩]] },p+1+1+1+1+1+1),⟨hw.hold (by first|omega|(simp; omega)) (by first|omega|(simp; omega)) (by first|omega|(simp; omega)),by simp only; omega,by simp only; omega⟩,Zr _ (h0) (h1) (h2++[⟨a3,false,noE,a4,w.clock+a5⟩]) rfl (z:=some 3) ?_⟩;refine zj.trans (z:=some 3) (F1:=[(4,.ptr 64 0),(5,.ptr 80 0)]) (m1:=(4,.rowP [.c (zf h0),.own 31 h1.length,.c (zf (h2++[⟨a3,false,noE,a4,w.clock+a5⟩]))] 44)::(bnB s (p+1+1+1+1+1+1) w (.c (zv w.leases)) (.own 4 3)++[(31,.row (h1.map zF) 7 48)])) (zj.pull 4 15 (m3:=bnB s (p+1+1+1+1+1+1) w (.c (zv w.leases)) (.own 4 3)++[(31,.row (h1.map zF) 7 48)]) (Lp':=[.c (zf h0),.own 31 h1.length,.c (zf (h2++[⟨a3,false,noE,a4,w.clock+a5⟩]))]) rfl rfl (by simp [frA,fr1,zf]<;>rfl) rfl ?_) ?_
   ·refine dr ?_;repeat (refine oB (by first|(simp; done)|(simp [zf]; rfl)) ?_; first|refine dr ?_|exact dz)
    trivial
   refine zj.trans (z:=none) (F1:=[(4,.ptr 64 0),(5,.ptr 80 0)]) (m1:=(4,.row [zf (h0),zf (h1),zf (h2++[⟨a3,false,noE,a4,w.clock+a5⟩])] 1 44)::(bnB s (p+1+1+1+1+1+1) w (.c (zv w.leases)) (.own 4 3))) (zj.er (zj.pull 4 31 (m3:=bnB s (p+1+1+1+1+1+1) w (.c (zv w.leases)) (.own 4 3)) (Lp':=[.c (zf h0),.c (zf h1),.c (zf (h2++[⟨a3,false,noE,a4,w.clock+a5⟩]))]) rfl rfl (by simp [frA,fr1,zf]<;>rfl) rfl ?_) rfl) ?_
   ·refine dr ?_;repeat (refine oB (by first|(simp; done)|(simp [zf]; rfl)) ?_; first|refine dr ?_|exact dz)
    trivial
   refine dr ?_;repeat (refine oB (by first|(simp; done)|(simp [zf]; rfl)) ?_; first|refine dr ?_|exact dz)
   trivial
 ·refine dr ?_;apply cP<;>intro k0
  ·refine dr ?_;refine oW (ym W0 s (p+1) [-3,1,-1,10000] hs (by omega) (by decide)) rfl ⟨rfl,trivial⟩ rfl rfl ⟨1,by decide⟩ fun y hy=>⟨rfl,?_⟩
   have hy2 : -3≤y∧y≤10000:=by
    simp only [List.mem_cons,List.not_mem_nil,or_false] at hy;omega
   refine dEr ?_;repeat (refine oB (by omega) ?_; first|refine dEr ?_|exact dz)
   refine ⟨({ w with clock:=w.clock+y },p+1+1),⟨hw.set (.inl rfl) (by simp) rfl rfl (by simp) (by simp only; omega) (by simp only; omega),by simp only; omega,by simp only; omega⟩,qU _ (z:=none) ?_⟩;refine dr ?_;repeat (refine oB (by simp) ?_; first|refine dr ?_|exact dz)
   trivial
  refine dr ?_;apply cP<;>intro k1
  ·refine dr ?_;repeat (refine oB (by omega) ?_; first|refine dr ?_|exact dz)
   refine oW (ym W0 s (p+1) [0,-1,w.count - 1,10000] hs (by omega) (by simp)) rfl ⟨rfl,trivial⟩ rfl rfl ⟨0,by simp⟩ fun y hy=>⟨rfl,?_⟩
   have hy2:y=0∨y = -1∨y=w.count - 1∨y=10000:=by
    simpa only [List.mem_cons,List.not_mem_nil,or_false] using hy
   refine dEr ?_;refine ⟨({ w with count:=y },p+1+1),⟨hw.set (.inl rfl) (by simp) rfl rfl (by simp) (by simp only; omega) (by simp only; omega),by simp only; omega,by simp only; omega⟩,qU _ (z:=none) ?_⟩;refine dr ?_;repeat (refine oB (by simp) ?_; first|refine dr ?_|exact dz)
   trivial
  refine dr ?_;apply cP<;>intro k2
  ·refine dr ?_;apply cP<;>intro j2
   ·refine dr ?_;repeat (refine sLoM 1 rfl (by omega) ?_; first|refine dr ?_|exact dz)
    refine ⟨({ w with leases:=w.leases.drop 1 },p+1),⟨hw.set (.inl rfl) (by simp; omega) rfl rfl (by simp) (by simp only; omega) (by simp only; omega),by simp only; omega,by simp only; omega⟩,qU _ (z:=none) ?_⟩;refine dr ?_;repeat (refine oB (by simp) ?_; first|refine dr ?_|exact dz)
    trivial
   ·refine dr ?_;refine ⟨(w,p+1),⟨hw',by simp only; omega,by simp only; omega⟩,qU w (z:=none) ?_⟩;refine dr ?_;trivial
  refine dr ?_;apply cP<;>intro k3
  ·exact absurd k3 hv3
  refine dr ?_;apply cP<;>intro k4
  ·exact absurd k4 hv4
  clear k3 k4;refine dr ?_;apply cP<;>intro k5
  ·refine dr ?_;refine oW (zX W0 s (p+1) 3 hs (by omega) (by omega)) rfl ⟨rfl,trivial⟩ rfl rfl ⟨0,by omega,by omega⟩ fun k hk=>⟨rfl,?_⟩
   obtain ⟨k,rfl⟩:∃ j:Nat,k=j:=⟨k.toNat,by omega⟩;have hk':k < w.floors.length:=by have:=hk.2 (by omega); omega
   refine dEr ?_;repeat (refine oB (by omega) ?_; first|refine dEr ?_|exact dz)
   refine oW (ym W0 s (p+1+1) [-1,w.count,w.count+1,0] hs (by omega) (by simp)) rfl ⟨rfl,trivial⟩ rfl rfl ⟨0,by simp⟩ fun y hy=>⟨rfl,?_⟩
   refine dEr ?_;repeat ((first|refine aM (j:=k) rfl (by omega) ?_|refine nE (j:=k) rfl ?_); first|refine dEr ?_|exact dz)
   refine ⟨({ w with floors:=w.floors.set k y },p+1+1+1),⟨hw.set (.inl rfl) (by simp) rfl (by simp) (by simp) (by simp only; omega) (by simp only; omega),by simp only; omega,by simp only; omega⟩,qU _ (z:=none) ?_⟩;refine dr ?_;repeat (refine oB (by first|(simp; done)|(simp [List.map_set]; done)) ?_; first|refine dr ?_|exact dz)
   trivial
  refine dr ?_;apply cP<;>intro k6
  ·refine dr ?_;apply cP<;>intro j6
   ·refine dr ?_;refine oW (zX W0 s (p+1) w.net.length hs (by omega) (by omega)) rfl ⟨rfl,trivial⟩ rfl rfl ⟨0,by omega,by omega⟩ fun k hk=>⟨rfl,?_⟩
    obtain ⟨k,rfl⟩:∃ j:Nat,k=j:=⟨k.toNat,by omega⟩;have hk':k < w.net.length:=by have:=hk.2 (by omega); omega
    refine dEr ?_;refine oW (ym W0 s (p+1+1) [0,5,2,4] hs (by omega) (by decide)) rfl ⟨rfl,trivial⟩ rfl rfl ⟨0,by decide⟩ fun y hy=>⟨rfl,?_⟩
    refine dEr ?_;repeat ((first|refine aM (j:=k) rfl (by omega) ?_|refine nE (j:=k) rfl ?_); first|refine dEr ?_|exact dz)
    refine ⟨({ w with net:=w.net.set k ⟨y,w.net[k].who,w.net[k].hold⟩ },p+1+1+1),⟨hw.set (.inl rfl) (by simp) rfl rfl (by simp) (by simp only; omega) (by simp only; omega),by simp only; omega,by simp only; omega⟩,qU _ (z:=none) ?_⟩;refine dr ?_;repeat (refine oB (by first|(simp; done)|(simp [List.map_set]; rfl)) ?_; first|refine dr ?_|exact dz)
    trivial
   ·refine dr ?_;refine ⟨(w,p+1),⟨hw',by simp only; omega,by simp only; omega⟩,qU w (z:=none) ?_⟩;refine dr ?_;trivial
  refine dr ?_;apply cP<;>intro k7
  ·refine dr ?_;refine oW (zX W0 s (p+1) 4 hs (by omega) (by omega)) rfl ⟨rfl,trivial⟩ rfl rfl ⟨0,by omega,by omega⟩ fun a1 ha1=>⟨rfl,?_⟩
   have ha1':=ha1.2 (by omega);have ha1'':=ha1.1;refine dEr ?_;repeat (refine oB (by omega) ?_; first|refine dEr ?_|exact dz)
   refine oW (zX W0 s (p+1+1) 4 hs (by omega) (by omega)) rfl ⟨rfl,trivial⟩ rfl rfl ⟨0,by omega,by omega⟩ fun a2 ha2=>⟨rfl,?_⟩
   refine dEr ?_;refine oW (qW W0 s (p+1+1+1) hs (by omega)) rfl ⟨rfl,trivial⟩ rfl rfl ⟨_,List.mem_cons_self⟩ fun a3 ha3=>⟨rfl,?_⟩
   refine dEr ?_;refine oW (zX W0 s (p+1+1+1+1) 4 hs (by omega) (by omega)) rfl ⟨rfl,trivial⟩ rfl rfl ⟨0,by omega,by omega⟩ fun a4 ha4=>⟨rfl,?_⟩
   refine dEr ?_;repeat ((first|refine oB (by simp; omega) ?_|refine oB (by simp) ?_); first|refine dEr ?_|exact dz)
   refine ⟨({ w with net:=w.net++[⟨1+a1,a2,⟨a3,false,noE,a4,0⟩⟩] },p+1+1+1+1+1),⟨hw.set (.inl rfl) (by simp) rfl rfl (by simp) (by simp only; omega) (by simp only; omega),by simp only; omega,by simp only; omega⟩,qU _ (z:=none) ?_⟩;refine dr ?_;repeat (refine oB (by first|(simp; done)|(simp; rfl)) ?_; first|refine dr ?_|exact dz)
   trivial
  refine dr ?_;apply cP<;>intro k8
  ·refine dr ?_;refine ⟨({ w with waits:=!w.waits },p+1),⟨hw.set (.inl rfl) (by simp) rfl rfl (by simp) (by simp only; omega) (by simp only; omega),by simp only; omega,by simp only; omega⟩,qU _ (z:=none) ?_⟩;refine dr ?_;repeat (refine oB (by simp) ?_; first|refine dr ?_|exact dz)
   trivial
  refine dr ?_;apply cP<;>intro k9
  ·have q:=zai W0 w.over ⟨2,[47,97],[],[113]⟩;have qs:=@OS.do w.over ⟨2,[47,97],[],[113]⟩
   refine dEr ?_;repeat (refine c0 q rfl ?_; first|refine dEr ?_|exact dz)
   refine ⟨({ w with over:=(oDo w.over ⟨2,[47,97],[],[113]⟩).1 },p+1),⟨hw.set (.inr qs.oz) (by simp) rfl rfl (by simp) (by simp only; omega) (by simp only; omega),by simp only; omega,by simp only; omega⟩,qU _ (z:=none) ?_⟩;refine dr ?_;repeat (refine oB (by simp) ?_; first|refine dr ?_|exact dz)
   trivial
  ·refine dr ?_;refine ⟨(w,p+1),⟨hw',by simp only; omega,by simp only; omega⟩,qU w (z:=none) ?_⟩;refine dr ?_;trivial

def w0W:Wld:=newW noO
theorem w0R:WR 0 w0W:=(WG.new zf7).wr HZ.new (by omega)


open Go Go.RowKit Go.WideShapes Go.ChangeShapes Go.ChangeAt
abbrev RC (W:World) (y:CV) (v:Value):Prop:=RepC W (fun _=>False) y v∧v.oneCell'=true
def Opn {H:Type} (enc:TypeId × Value→H) (P:Program) (W:World) (t:TypeId) {α:Type} (f:α→CV):Prop :=
 ∀ (base:Nat) (sp:Nat→Bool) (held:Bool) (fuel:Nat) (cs:List Value) (x:DataW H × List MemPlace),DataW.trod enc P W base sp held fuel t cs=some x→∃ a:α,zb (RC W) (f a).cells cs
section
variable {H:Type} {enc:TypeId × Value→H} {P:Program} {W:World}
theorem zrN {t:TypeId} (ht:P.underlying t=some (.int .u8)):Opn enc P W t (fun b:UInt8=>CU b.toNat):=by
 intro base sp held fuel cs x h;obtain ⟨n,rfl,_,hw⟩:=DataW.trod_int ht h;have hw':0≤n∧n≤255:=by simpa [Lit.wf,IntKind.min,IntKind.max,IntKind.signed,IntKind.bits] using hw
 have e:((UInt8.ofNat n.toNat).toNat:Int)=n:=by simp; omega
 refine ⟨UInt8.ofNat n.toNat,⟨?_,rfl⟩,trivial⟩;show RepC W _ (CU (UInt8.ofNat n.toNat).toNat) _;rw [e];exact .sc (by simpa [wfv,IntKind.min,IntKind.max,IntKind.signed,IntKind.bits] using hw')
theorem YE {a:Addr} (h:a.spot=none) (n:Nat):a.add n=⟨a.block,a.off+n,none⟩:=by
 unfold Addr.add;split
 ·rename_i hn; subst hn; cases a; simp at h; subst h; rfl
 ·rfl
theorem zdk {α:Type} {R:CV→Value→Prop} {f:α→CV} {sz:Nat} {g:Nat→List Value}:∀ {L:List α} {k:Nat},(∀ i (h:i < L.length),zb R (f L[i]).cells (g (k+i))) →
  zb R ((L.map f).flatMap CV.cells) ((List.range' k L.length).flatMap g)
 | [],k,_=>trivial
 | a::L,k,h=>by
  simp only [List.map_cons,List.flatMap_cons,List.length_cons,List.range'_succ];refine zb.append (h 0 (by simp)) (zdk (sz:=sz) (k:=k+1) fun i hi=>?_);have:=h (i+1) (by simp; omega);rw [show k+1+i=k+(i+1) by omega]
  simpa using this
theorem zfL {α:Type} {q:Nat→α→Prop}:∀ {n:Nat},(∀ i,i < n→∃ a,q i a)→∃ L:List α,L.length=n∧∀ i (h:i < L.length),q i L[i]
 | 0,_=>⟨[],rfl,fun i h=>by simp at h⟩
 | n+1,h=>by
  obtain ⟨L,hl,hq⟩:=zfL (n:=n) fun i hi=>h i (by omega)
  obtain ⟨a,ha⟩:=h n (by omega);refine ⟨L++[a],by simp [hl],fun i hi=>?_⟩;by_cases hin:i < L.length
  ·rw [List.getElem_append_left hin]; exact hq i hin
  ·have:i=L.length:=by simp at hi; omega
   subst this;simp only [List.getElem_concat_length];rw [hl]; exact ha
theorem zrM {t e:TypeId} {α:Type} {f:α→CV} (sz:Nat) (ht:P.underlying t=some (.slice e)) (hc:P.cellsOf e=sz) (h0:0 < sz) (hf:∀ a,(f a).cells.length=sz) (he:Opn enc P W e f):Opn enc P W t (fun l:List α => .row (l.map f)):=by
 intro base sp held fuel cs x h;rcases DataW.trod_slice ht h with ⟨rfl,_⟩ | ⟨a,len,cap,elems,rest,n,_,rfl,_,_,hle,hcap,helen,hel,_⟩
 ·exact ⟨[],⟨.nil (Nat.zero_le _),rfl⟩,trivial⟩
 ·rw [hc] at hel;have key:∀ i,i < len→∃ (y:α),∃ cs',cs'.length=sz∧(∀ j,j < sz→W.cell? ((a.add (i * sz)).add j)=cs'[j]?)∧zb (RC W) (f y).cells cs':=by
   intro i hi;have h1:=hel i hi;have h2:∃ z,elems[i]? = some z:=⟨elems[i]'(by omega),by simp [helen,hi]⟩;obtain ⟨z,h2⟩:=h2;rw [h2] at h1;obtain ⟨cs',h3,h4⟩:=Option.bind_eq_some_iff.1 h1;obtain ⟨y,hy⟩:=he _ _ _ _ _ _ h4;obtain ⟨_,h5,h6⟩:=World.cells?_some h3;exact ⟨y,cs',h5,h6,hy⟩
  obtain ⟨L,hl,hL⟩:=zfL key;refine ⟨L,⟨?_,rfl⟩,trivial⟩;by_cases hne:L=[]
  ·subst hne;simp only [List.length_nil] at hl;subst hl;exact .nil hcap
  ·have hpos:0 < L.length:=List.length_pos_iff.2 hne;have hsp:a.spot=none:=by
    obtain ⟨cs',h5,h6,_⟩:=hL 0 hpos;have:=h6 0 h0;simp only [Nat.zero_mul] at this;have e0:(a.add 0).add 0=a:=by simp [Addr.add]
    rw [e0] at this;have h7:∃ u,cs'[0]? = some u:=⟨cs'[0]'(by omega),by simp [h5,h0]⟩;obtain ⟨u,h7⟩:=h7;rw [h7] at this;unfold World.cell? at this;split at this
    ·split at this
     ·cases this
     ·rename_i hh; simpa using hh
    ·cases this
   let g:Nat→List Value:=fun i=>(List.range sz).map fun j=>(W.cell? ⟨a.block,a.off+(i * sz+j),none⟩).getD undef
   have hg:∀ i (h:i < L.length),zb (RC W) (f L[i]).cells (g i)∧∀ j,j < sz→W.cell? ⟨a.block,a.off+(i * sz+j),none⟩=(g i)[j]? := by
    intro i hi;obtain ⟨cs',h5,h6,h7⟩:=hL i hi;have e:g i=cs':=by
     apply List.ext_getElem?;intro j;by_cases hj:j < sz
     ·have:=h6 j hj;rw [YE hsp,YE rfl] at this;simp only [g,List.getElem?_map,List.getElem?_range hj,Option.map_some];rw [show a.off+(i * sz+j)=a.off+i * sz+j by omega,this];have:cs'[j]? = some (cs'[j]'(by omega)):=by simp [h5,hj]
      rw [this]; rfl
     ·rw [List.getElem?_eq_none (by simp [g]; omega),List.getElem?_eq_none (by omega)]
    rw [e];refine ⟨h7,fun j hj=>?_⟩;have:=h6 j hj;rw [YE hsp,YE rfl] at this;rw [← this,show a.off+i * sz+j=a.off+(i * sz+j) by omega]
   have hall:=zdk (R:=RC W) (f:=f) (sz:=sz) (g:=g) (L:=L) (k:=0) fun i hi=>by simpa using (hg i hi).1
   have hlen:(L.map f).length=len:=by simpa using hl
   have hcell:∀ (m:Nat),m≤L.length→∀ j v,((List.range' 0 m).flatMap g)[j]? = some v→W.cell? ⟨a.block,a.off+j,none⟩=some v:=by
    intro m;induction m with
    | zero=>intro _ j v hv; simp at hv
    | succ m ih =>
     intro hm j v hv;rw [List.range'_concat,List.flatMap_append] at hv;have hln:∀ m,((List.range' 0 m).flatMap g).length=m * sz:=by
      intro m;induction m with
      | zero=>simp
      | succ m ih=>rw [List.range'_concat,List.flatMap_append,List.length_append,ih]; simp [g,Nat.add_mul]
     by_cases hj:j < m * sz
     ·rw [List.getElem?_append_left (by rw [hln]; exact hj)] at hv;exact ih (by omega) j v hv
     ·rw [List.getElem?_append_right (by rw [hln]; omega),hln] at hv;simp only [Nat.zero_add,Nat.one_mul,List.flatMap_cons,List.flatMap_nil,List.append_nil] at hv;have hj2:j - m * sz < sz:=by
       rcases Nat.lt_or_ge (j - m * sz) sz with h' | h'
       ·exact h'
       ·rw [List.getElem?_eq_none (by simp [g]; omega)] at hv; cases hv
      have:=(hg m (by omega)).2 _ hj2;rw [hv,show m * sz+(j - m * sz)=j by omega] at this;exact this
   obtain ⟨ab,ao,asp⟩:=a;simp only at hsp;subst hsp;rw [← hlen];refine .row (sz:=sz) (vs:=(List.range' 0 L.length).flatMap g) (by simpa using hne) h0 (by rw [hlen]; exact hle) hcap (fun h=>h) ?_ hall.length ?_ ?_ fun j v hv=>?_
   ·intro y hy;obtain ⟨b,_,rfl⟩:=List.mem_map.1 hy;exact hf b
   ·intro i y v hy hv;obtain ⟨u,hu,hr⟩:=hall.get i y hy;rw [hv] at hu; cases hu; exact hr.1
   ·intro v hv;obtain ⟨i,hi⟩:=List.mem_iff_getElem?.1 hv;have hlt:i < ((L.map f).flatMap CV.cells).length:=by
     rw [hall.length]; exact (List.getElem?_eq_some_iff.1 hi).1
    obtain ⟨u,hu,hr⟩:=hall.get i _ (List.getElem?_eq_getElem hlt);rw [hi] at hu; cases hu; exact hr.2
   ·exact hcell L.length (Nat.le_refl _) j v hv
theorem zrL {y:CV} (hy:∀ cs,y ≠ .agg cs) {vs:List Value} (h:zb (RC W) y.cells vs):∃ v,vs=[v]∧RC W y v:=by
 have e:y.cells=[y]:=by cases y<;>first|rfl|exact absurd rfl (hy _)
 rw [e] at h
 match vs,h with
 | [v],h=>exact ⟨v,rfl,h.1⟩
theorem zdr {t:TypeId} {α:Type} {f:α→CV} (h:Opn enc P W t f) (hf:∀ a cs,f a ≠ .agg cs) {base:Nat} {v:Value} (h1:∀ cs,v ≠ .agg cs)
  {sp:Nat→Bool} {held:Bool} {d:DataW H} {ps:List MemPlace} (hd:DataW.Trod enc P W base sp held t v d ps):∃ a,RepC W (fun _=>False) (f a) v:=by
 obtain ⟨fuel,hx⟩:=hd;obtain ⟨a,ha⟩:=h _ _ _ _ _ _ hx;obtain ⟨u,hu,hr⟩:=zrL (hf a) ha;refine ⟨a,?_⟩;have:v.cells.toList=[v]:=by cases v<;>first|rfl|exact absurd rfl (h1 _)
 rw [this] at hu; cases hu;exact hr.1
theorem zeY {f:FuncId} {args:List CV} {vs:Array Value} (h:Fn P W f args (.c (CB true)) []) (ha:zb (RepC W fun _=>False) args vs.toList) :
  Calls P f vs W fun e W'=>e = .returned (.bool true)∧Below W.heap.size W W':=by
 have hlive:∀ b,¬ zi ⟨fun _=>none,fun _=>False⟩ [] b:=by
  rintro b (hb | ⟨id,hb,_⟩)
  ·exact hb
  ·simp [lk] at hb
 have hm:MemOk ⟨fun _=>none,fun _=>False⟩ [] W:=⟨fun id b hb=>by simp [lk] at hb,fun i j b hi=>by simp [lk] at hi,fun b hb=>hb.elim,fun id b hb=>by simp [lk] at hb⟩;refine (h ⟨fun _=>none,fun _=>False⟩ W vs (Below.refl _ _) (MW.start hm fun b hb=>(hlive b hb).elim) ?_).mono ?_
 ·have key:∀ {args:List CV} {us:List Value},zb (RepC W fun _=>False) args us→zb (Rep ⟨fun _=>none,fun _=>False⟩ [] W) (args.map .c) us:=by
   intro args;induction args with
   | nil=>intro us h; cases us with | nil=>trivial | cons=>exact h.elim
   | cons a l ih =>
    intro us h;cases us with
    | nil=>exact h.elim
    | cons u us =>
     refine ⟨RepC.rep (h.1.mono fun b o v _ hc=>⟨hlive b,hc⟩),ih h.2⟩
  exact key ha
 ·rintro e W' ⟨v,r,m',κ',rfl,⟨rfl,rfl⟩,h1,h2⟩;refine ⟨?_,?_⟩
  ·have:=Rep.c h2;cases this;rfl
  ·have e:=h1.ext;exact ⟨e.os,e.tape,e.output,e.size,fun k hk=>e.block k hk fun ⟨id,hid,_⟩=>by simp [lk] at hid⟩
theorem zht (hl:laidOutB P=true) {W':World} (hb:Below W.heap.size W W') {sp:Nat→Bool}:∀ {ts:List TypeId} {vs:List Value} {ds:List (DataW H)} {ps:List MemPlace},(∀ t∈ts,P.readableRec t=true∧t < P.types.size) →
  DataW.TrodAll enc P W 0 (fun _=>true) true ts vs ds ps→(∀ p∈ps,p.block < W.heap.size)→(∀ p∈ps,sp p.block=true)→DataW.TrodAll enc P W' 0 sp true ts vs ds ps
 | [],[],[],ps,_,h,_,_=>h
 | t::ts,v::vs,d::ds,ps,hr,h,hlt,hs=>by
  obtain ⟨p,q,h1,h2,rfl⟩:=h;obtain ⟨h3,h4⟩:=hr t (by simp);exact ⟨p,q,WideElems.Trod_stays hl h3 h4 h1 (fun x hx=>hb.same (hlt x (by simp [hx]))) (fun x hx=>hs x (by simp [hx])),
   zht hl hb (fun t ht=>hr t (by simp [ht])) h2 (fun x hx=>hlt x (by simp [hx])) (fun x hx=>hs x (by simp [hx])),rfl⟩
 | [],_::_,_,_,_,h,_,_=>h.elim
 | [],[],_::_,_,_,h,_,_=>h.elim
 | _::_,[],_,_,_,h,_,_=>h.elim
 | _::_,_::_,[],_,_,h,_,_=>h.elim
theorem zfG (hl:laidOutB P=true) {fn:Func} {s:ChangeSpec} {tb:TypeId} {apart fresh handsOn again:Bool} {W':World} {args:Array Value} {ds:List (DataW H)} {before:List MemPlace}
  (hr:(fn.params.toList.all fun t=>P.readableRec t&&decide (t < P.types.size))=true) (hres:fn.resultTypes=#[tb]) (htb:P.underlying tb=some .bool) (hv:s.vars=[])
  (hW:DataW.Whole enc P fn.params.toList s.vars apart W args.toList ds [] before) (hs:s.fn H (ds++[])={ results:=[.lit (.bool true)],args:=ds }) (hb:Below W.heap.size W W') :
  s.post enc P fn apart fresh handsOn again W args (.bool true) W':=by
 have hr:∀ t∈fn.params.toList,P.readableRec t=true∧t < P.types.size:=fun t ht=>by
  have:=List.all_eq_true.1 hr t ht
  simpa using this
 have hlt:∀ p∈before,p.block < W.heap.size:=fun p hp=>hW.lt p hp
 have hW0:=hW;obtain ⟨p,q,hA,hV,hpq,hfz,hnd⟩:=hW;rw [hv] at hV;obtain ⟨_,rfl⟩:=trodVars_none hV;rw [List.append_nil] at hpq;subst hpq;have hbool:∀ (b:Nat) (sp:Nat→Bool) (hd:Bool),DataW.TrodAll enc P W' b sp hd fn.resultTypes.toList ((Value.bool true).resultList fn.resultTypes.size) (s.fn H (ds++[])).results []:=by
  intro b sp hd;rw [hres,hs];exact trodAll_mk1 ⟨1,by simp [DataW.trod,Value.cells,htb]⟩
 have hargs:∀ sp:Nat→Bool,(∀ x∈before,sp x.block=true)→DataW.TrodAll enc P W' 0 sp true fn.params.toList args.toList ds before:=fun sp hsp=>zht hl hb hr hA hlt hsp
 have hvars:∀ sp,DataW.TrodVars enc P W' sp s.vars [] []:=fun sp=>by rw [hv]; rfl
 refine ⟨ds,[],before,[],before,[],hW0,hbool _ _ _,?_,?_,World.keptBut_mono (fun x hx=>⟨hx,.inr (.inl hx)⟩) (hb.frame (·∈before)),fun _=>⟨fun j t r ht hr'=>?_,(s.fn H (ds++[])).results++ds,[],before,⟨before,[],?_,?_,(List.append_nil _).symm,fun b off hx=>?_,hnd⟩,fun x hx _=>hx⟩⟩
 ·rw [hs]; exact hargs _ fun x hx=>by simpa using hlt x hx
 ·rw [hs]; exact hvars _
 ·rw [hres] at ht hr'
  match j,ht,hr' with
  | 0,ht,hr' =>
   have e1:tb=t:=by simpa using ht
   have e2:Value.bool true=r:=by simpa [Value.resultList] using hr'
   subst e1 e2;simp [Value.okWide,htb,Cell.okWide,Cell.ok]
  | j+1,ht,_=>simp at ht
 ·have:=trodAll_append (hargs (fun _=>true) fun _ _=>rfl) (hbool 0 (fun _=>true) true)
  simpa using this
 ·exact hvars _
 ·rw [hb.frozen (hlt _ hx)]; exact hfz b off hx
end

theorem zfF:laidOutB Tryz.prog=true:=by kernel_rfl
theorem ownK:ownKnob Tryz.prog.godebug=none:=by kernel_rfl
section
variable {H:Type} {enc:TypeId × Value→H} {W:World}
set_option maxRecDepth 100000 in
theorem zdq {r:Reach} {b:Nat} {v:Value} (h:Value.okWide Tryz.prog W r b 22 v):∀ cs,v ≠ .agg cs:=by
 rintro cs rfl;unfold Value.okWide at h;rw [Tryz.underlying22] at h;unfold Cell.okWide at h;rw [Tryz.underlying22] at h;unfold Cell.ok at h;rw [Tryz.underlying22] at h;exact h
theorem zgb:Opn enc Tryz.prog W 22 qr:=zrM (f:=fun b:UInt8=>CU b.toNat) 1 (by kernel_rfl) (by kernel_rfl) (by decide) (fun _=>rfl) (zrN (t:=5) (by kernel_rfl))
end

def zrW:List Value:=[128,191,160,191,128,159,144,191,128,143,0,0,0,0,0,0,0,0,0,0,0,0,0,0,0,0,0,0,0,0,0,0].map fun n:Nat=>Value.int .u8 (n:Int)
def firstCells:List Value:=Go.Pinned.utf8FirstZ.map fun n:Nat=>Value.int .u8 (n:Int)
def Qk (P:Program) (os:Os):World:=Sort.mapBlock (Sort.mapBlock (World.holding P os ⟨#[],#[],[]⟩) 2 fun _=>zrW.toArray) 1 fun _=>firstCells.toArray

theorem zfi {W:World} (h:W.ShapedOpen Tryz.prog):HM W :=
 Go.Proofs.cell_of_shapedOpen_int (zero:=#[.int .i64 0]) (t:=3) h (of_decide_eq_true (by kernel_rfl)) (by kernel_rfl) rfl (by kernel_rfl) (by kernel_rfl) Tryz.underlying3

theorem xiT {a:Int} {A B:Prop} (h:A):cndX (eqI a a) A B:=by rw [qG.2 rfl]; exact h
theorem xiF {a:Int} {A B:Prop} (h:B):cndX (!eqI a a) A B:=by rw [qG.2 rfl]; exact h
theorem xbT {a:Bool} {A B:Prop} (h:A):cndX (eqB a a) A B:=by rw [y3.2 rfl]; exact h
theorem xbF {a:Bool} {A B:Prop} (h:B):cndX (!eqB a a) A B:=by rw [y3.2 rfl]; exact h
theorem xiN {a b:Int} {A B:Prop} (k:B) (h:a≠b:=by decide):cndX (eqI a b) A B:=by rw [ZO.2 h]; exact k
theorem xiM {a b:Int} {A B:Prop} (k:A) (h:a≠b:=by decide):cndX (!eqI a b) A B:=by rw [ZO.2 h]; exact k
theorem xbN {a b:Bool} {A B:Prop} (k:B) (h:a≠b:=by decide):cndX (eqB a b) A B:=by rw [zbC.2 h]; exact k
theorem xbM {a b:Bool} {A B:Prop} (k:A) (h:a≠b:=by decide):cndX (!eqB a b) A B:=by rw [zbC.2 h]; exact k
theorem xeT {p d:Str} {b:Bool} {A B:Prop} (h:A):cndX (eqS p p&&(eqB b b&&(eqS d d&&true))) A B:=by rw [JZ.2 rfl,y3.2 rfl,JZ.2 rfl]; exact h
theorem xeF {p d:Str} {b:Bool} {A B:Prop} (h:B):cndX (!(eqS p p&&(eqB b b&&(eqS d d&&true)))) A B:=by rw [JZ.2 rfl,y3.2 rfl,JZ.2 rfl]; exact h
theorem y8 (W0:World) (a b:Over) (h:a=b):Fn Tryz.prog W0 32 [jR a,jR b] (.c (CB true)) []:=by
 have:=zee W0 a b
 rwa [decide_eq_true h] at this
theorem y6 (W0:World) (a b:List Ent) (h:a=b):Fn Tryz.prog W0 31 [za a,za b] (.c (CB true)) []:=by
 have:=zeb W0 a b
 rwa [decide_eq_true h] at this
theorem y7 (W0:World) (a b:List Mark) (h:a=b):Fn Tryz.prog W0 85 [ze a,ze b] (.c (CB true)) []:=by
 have:=Y7 W0 a b
 rwa [decide_eq_true h] at this

section
variable {w:Wld}
theorem busy (h:WG w) (op:Op):let x:=(jq w op).1; let c:=(jq w op).2
  (x.waits=false→c≠20∧c≠21∧jI x=(x,22)) ∧
  (x.waits=true→jq x op=(x,21)∧((jI x).2=0↔zI x x.op=[])∧((jI x).1.waits=true↔(jI x).2≠0)):=by
 intro x c;have hx:WG x:=h.write op;refine ⟨fun hw=>?_,fun hw=>?_⟩
 ·refine ⟨?_,?_,?_⟩
  ·show (jq w op).2≠20;rcases @zdh w op with ⟨a,q⟩ | ⟨a,b,d,q⟩ | ⟨a,b,d,q⟩ | ⟨a,b,d,q⟩
   ·rw [q]; simp
   ·rw [q]; have:=@zc8 (vwG w.over) op; simp only; omega
   ·exfalso;have hw:(jq w op).1.waits=false:=hw;rw [q] at hw;simp only at hw;rw [(@Zl (zI w op) { w with waits:=true,op:=op }).2.2.2.2.2.2.1] at hw;cases hw
   ·rw [q]; simp
  ·show (jq w op).2≠21;rcases @zdh w op with ⟨a,q⟩ | ⟨a,b,d,q⟩ | ⟨a,b,d,q⟩ | ⟨a,b,d,q⟩
   ·exfalso;have hw:(jq w op).1.waits=false:=hw;rw [q] at hw;simp only at hw;rw [a] at hw; cases hw
   ·rw [q]; have:=@zc8 (vwG w.over) op; simp only; omega
   ·rw [q]; simp
   ·rw [q]; simp
  ·unfold jI; rw [if_pos hw]
 ·refine ⟨by unfold jq; rw [if_pos hw],?_,?_⟩
  ·rcases @zhv x with ⟨a,q⟩ | ⟨a,b,q⟩ | ⟨a,b,q⟩
   ·rw [hw] at a; cases a
   ·rw [q]; simp [b]
   ·rw [q]; simp [b]
  ·rcases @zhv x with ⟨a,q⟩ | ⟨a,b,q⟩ | ⟨a,b,q⟩
   ·rw [hw] at a; cases a
   ·rw [q];simp only;rw [(@Zl (zI x x.op) x).2.2.2.2.2.2.1,hw];simp
   ·rw [q]; simp
end

theorem kT {a b:Int} {A B:Prop} (h:a=b) (k:A):cndX (eqI a b) A B:=by rw [qG.2 h]; exact k
theorem kTn {a b:Int} {A B:Prop} (h:a≠b) (k:A):cndX (!eqI a b) A B:=by rw [ZO.2 h]; exact k
theorem kFn {a b:Int} {A B:Prop} (h:a=b) (k:B):cndX (!eqI a b) A B:=by rw [qG.2 h]; exact k
theorem kBt {b:Bool} {A B:Prop} (h:b=true) (k:A):cndX b A B:=by rw [h]; exact k
theorem kBf {b:Bool} {A B:Prop} (h:b=false) (k:B):cndX b A B:=by rw [h]; exact k
theorem kNt {b:Bool} {A B:Prop} (h:b=true) (k:B):cndX (!b) A B:=by rw [h]; exact k
theorem kNf {b:Bool} {A B:Prop} (h:b=false) (k:A):cndX (!b) A B:=by rw [h]; exact k
theorem kEB {a b:Bool} {A B:Prop} (h:a=b) (k:A):cndX (eqB a b) A B:=by rw [y3.2 h]; exact k
theorem zgM (W0:World) (a:Wld):Fn Tryz.prog W0 21 [zB a,zB a] (.c (CB true)) []:=by
 have:=zo7 W0 a a
 simpa using this

def zkD:XC:=(.s (.r [.ex 2 (.alloc zW),.ex 3 (.alloc [(I 0),sE,sE,sE])]) (.s (.r [.mv 9 0,.o1 10 33 [9],.mv 4 10]) (.s (.r [.mv 11 4,.mv 12 4,.o1 13 35 [12],.o1 14 34 [11,13],.ex 5 (.alloc zW),.s1 14 5 14]) (.s (.r [.f1 16 0 5,.l2 17 3 16,.c1 18 36 [17],.mv 15 18,.e1 19 15 0,.e1 20 15 1,.a1 6 19 3 46,.mv 7 20]) (.s (.r [.mv 21 4,.mv 22 6,.o1 23 37 [21,22],.ex 8 (.alloc [(I 0),sE,sE,sE]),.s1 4 8 23]) (.s (.s (.r [.f1 24 5 5,.l1 25 1 24,.n1 26 25,.b1 27 .gtr 26 (.i 0),.mv 28 27,.g3 29 4 28,.gt 30 (.opn 38 [29,(.i 2)]) 28,.gt 31 (.bin .eql 30 (.i 0)) 28,.p2 32 28 31]) (.cnd 32 (.r [.f1 33 5 5,.l1 34 1 33,.ex 35 (.ia 4 34 (.i 0)),.f1 36 1 35,.l1 37 1 36,.f1 38 1 8,.s1 1 38 37]) .skip)) (.s (.d [.exo [32,48] 39 (.ld true 14 5),.exo [32,48] 40 (.ld true 4 8),.nuo [32,48] (.st 14 2 39),.nuo [32,48] (.st 4 3 40)]) .ret)))))))
theorem zkE:zc Tryz.prog [33,35,34,37,38,1000032,1000048] 12=some (zkD.ac,[(.cell 2 true 14),(.cell 3 true 4)],41):=by kernel_rfl
theorem zd7 (W0:World) (c:Str):zw Tryz.prog W0 12 [.c (qr c)] [] (fun x:Wld × Op=>WR 1 x.1) (fun x => .tup [.c (zB x.1),.c (eOp x.2)]) (fun _=>[]):=by
 refine fW mixed zkE fun hg=>?_
 refine dr ?_;refine oW (zpa W0 c) rfl trivial rfl rfl ⟨[],by simp⟩ fun s hs=>⟨rfl,?_⟩
 refine dEr ?_;refine oW (zpS W0 s 0 hs (by omega)) rfl ⟨rfl,trivial⟩ rfl rfl ⟨(w0W,0),w0R,by simp,by simp⟩ fun x hx=>⟨rfl,?_⟩
 obtain ⟨w,q⟩:=x;obtain ⟨a1,a2,a3⟩:WR 0 w∧0≤q∧q≤0+1200:=hx;refine dEr ?_;refine oW (zpv W0 s q 0 w hs (by omega) (by omega) a1) rfl ⟨rfl,trivial⟩ rfl rfl ⟨(w,q),a1.mono (by omega),by simp only; omega,by simp only; omega⟩ fun x hx=>⟨rfl,?_⟩
 obtain ⟨x,r⟩:=x;obtain ⟨b1,b2,b3⟩:WR 1 x∧q≤r∧r≤q+8:=hx;have hv:=y9 W0 x.over;have hvl:=@YB x.over;rw [QV] at hv;generalize (z7 x.over).getD []=t at *;refine dEr ?_;repeat (refine c0 hv rfl ?_; first|refine dEr ?_|exact dz)
 refine oW (Q5 W0 s r t hs (by omega) (by omega)) rfl ⟨rfl,trivial⟩ rfl rfl ⟨((⟨0,[],[],[]⟩,r):Op × Int),by simp only; omega,by simp only; omega⟩ fun y hy=>⟨rfl,?_⟩
 obtain ⟨op,r2⟩:=y;obtain ⟨c1,c2⟩:r≤r2∧r2≤r+8:=hy;refine dEr ?_;apply cP<;>intro k1
 ·refine dr ?_;refine oW (zX W0 s r2 2 hs (by omega) (by omega)) rfl ⟨rfl,trivial⟩ rfl rfl ⟨0,by omega,by omega⟩ fun v hv=>⟨rfl,?_⟩
  refine dEr ?_;apply cP<;>intro k2
  ·have e1:0 < x.leases.length:=by
    have k1:(0:Int) < (x.leases.length:Int):=k1;omega
   refine dr ?_;repeat (refine aM (j:=0) rfl e1 ?_; first|refine dr ?_|exact dz)
   refine ⟨none,_,_,?_,(x,{ op with path:=x.leases[0].path }),b1,rfl,rfl⟩;refine dr ?_;trivial
  ·refine dr ?_;refine ⟨none,_,_,?_,(x,op),b1,rfl,rfl⟩;refine dr ?_;trivial
 ·refine dr ?_;refine ⟨none,_,_,?_,(x,op),b1,rfl,rfl⟩;refine dr ?_;trivial

def zld:XC:=(.s (.r [.x1 2 0,.x1 3 1,.ex 4 (.newb zW),.m1 5 (.i 0)]) (.s (.s (.r [.l2 8 14 2,.c1 9 15 [8],.u1 10 9]) (.cnd 10 (.s (.r [.ex 11 (.build zW []),.s1 14 4 11,.m1 5 (.i 1)]) .ret) .skip)) (.s (.d [.exo [4,5,6,592] 13 (.ld true 14 2),.exo [4,5,6,592] 14 (.opn 81 [13]),.exo [4,5,6,592] 15 (.ld true 8 3),.exo [4,5,6,592] 16 (.opn 80 [14,15]),.mv 12 16,.e1 17 12 0,.e1 18 12 1,.ex 6 (.newb zW),.s1 14 6 17,.mv 7 18]) (.s (.r [.l2 19 14 6,.o1 20 81 [19],.mv 21 7,.s1 14 4 20,.mv 5 21]) .ret))))
theorem zle:zc Tryz.prog [80,81,999997,1000004,1000005,1000006,1000592] 29=some (zld.ac,[(.cell 4 true 14),(.t 5)],22):=by kernel_rfl
theorem zqg (W0:World) (w:Wld) (ev:Ev) (hz:HZ 100000 w):Fn Tryz.prog W0 29 [zB w,eEv ev] (.c (.tup [zB (wDo w ev).1,CI (wDo w ev).2])) []:=by
 refine fX mixed zle fun hg=>?_
 refine dEr ?_;repeat (refine c0 (zaj W0 w) rfl ?_; first|refine dEr ?_|exact dz)
 apply cP<;>intro h1
 ·refine dr ?_;unfold wDo; rw [if_neg h1]<;>rfl
 rw [JN h1];have hx:=h1.ev ev;have hz':=hz.ev ev;refine dr ?_;refine oW (zpz W0 w (h1.wz (hz.mono (by omega)) (by omega))) rfl trivial rfl rfl ⟨(),trivial⟩ fun _ _=>⟨rfl,?_⟩
 refine dEr ?_;refine oW (zer W0 w ev h1 (hz.mono (by omega))) rfl ⟨rfl,rfl,rfl,trivial⟩ rfl rfl ⟨false,trivial⟩ fun b _=>?_
 generalize evW w ev=r at *;obtain ⟨x',c⟩:=r;cases b with
 | true =>
  refine ⟨rfl,?_⟩;refine dEr ?_;refine oW ((zbR W0 x' (hx.wz (hz'.mono (by omega)) (by omega))).swp 6 592) rfl ⟨rfl,rfl,rfl,trivial⟩ rfl rfl ⟨(),trivial⟩ fun _ _=>⟨rfl,?_⟩
  refine dEr ?_;rfl
 | false =>
  refine ⟨rfl,?_⟩;refine dEr ?_;refine oW (zbR W0 x' (hx.wz (hz'.mono (by omega)) (by omega))) rfl ⟨rfl,rfl,rfl,trivial⟩ rfl rfl ⟨(),trivial⟩ fun _ _=>⟨rfl,?_⟩
  refine dEr ?_;rfl

section
variable {w:Wld}
variable {who:Int} {p:Str}
end

def zkr:XC:=(.s (.r [.m1 2 .n]) (.s (.s (.r [.mv 17 0,.n1 18 17,.b1 19 .gtr 18 (.i 1048576)]) (.cnd 19 (.rt 2) .skip)) (.s (.r [.mv 21 0,.o1 22 12 [21],.mv 20 22,.e1 23 20 0,.e1 24 20 1,.ex 3 (.alloc zW),.ex 4 (.alloc [(I 0),sE,sE,sE]),.s1 14 3 23,.s1 4 4 24]) (.s (.r [.l2 25 14 3,.l2 26 4 4,.c1 27 13 [25,26],.a1 5 27 4 59]) (.s (.s (.r [.mv 28 5,.n1 29 28,.l2 30 14 3,.l2 31 4 4,.c1 32 14 [30,31],.n1 33 32,.b1 34 .neq 29 33,.mv 35 34,.gf 36 (.ld true 14 3) 35,.gf 37 (.call 15 [36]) 35,.gf 38 (.un .not 37) 35,.p1 39 35 38,.mv 40 39,.h1 41 9 3 40,.h2 42 1 41 40,.p1 43 40 42]) (.cnd 43 (.s (.r [.mv 44 5,.n1 45 44,.l2 46 14 3,.l2 47 4 4,.c1 48 14 [46,47],.n1 49 48,.b1 50 .eql 45 49,.mv 2 50]) .ret) .skip)) (.s (.r [.l2 52 14 3,.l2 53 4 4,.ex 54 (.build zV [(0,(1,(.i 2))),(3,(4,53))]),.c1 55 16 [52,54],.mv 51 55,.e1 56 51 0,.e1 57 51 1,.ex 6 (.alloc zW),.s1 14 6 56,.mv 7 57]) (.s (.s (.r [.mv 58 7,.b1 59 .neq 58 (.i 0)]) (.cnd 59 (.s (.r [.mv 60 7,.b1 61 .eql 60 (.i 20),.mv 62 5,.n1 63 62,.b1 64 .gtr 63 (.i 0),.ex 65 (.bb false 61 64),.mv 2 65]) .ret) .skip)) (.s (.s (.r [.m1 8 (.i 0)]) (.blk 0 (.loop (.s (.s (.r [.mv 66 8,.b1 67 .lss 66 (.i 3)]) (.ce 67 0)) (.s (.blk 1 (.s (.r [.m1 9 (.i 0)]) (.blk 2 (.loop (.s (.s (.r [.mv 70 9,.f1 71 6 3,.l1 72 1 71,.mv 73 8,.i1 74 1 72 73,.l1 75 1 74,.n1 76 75,.b1 77 .lss 70 76]) (.ce 77 2)) (.s (.blk 3 (.s (.r [.f1 80 6 3,.l1 81 1 80,.mv 82 8,.i1 83 1 81 82,.l1 84 1 83,.mv 85 9,.i1 86 7 84 85,.f1 87 0 86,.l1 88 1 87,.mv 10 88]) (.s (.r [.l2 90 14 3,.mv 91 8,.mv 92 10,.c1 93 17 [90,91,92],.mv 89 93,.e1 94 89 0,.e1 95 89 1,.e1 96 89 2,.ex 11 (.alloc zE),.s1 3 11 94,.mv 12 95,.mv 13 96]) (.s (.r [.l2 98 14 6,.mv 99 8,.mv 100 10,.c1 101 17 [98,99,100],.mv 97 101,.e1 102 97 0,.e1 103 97 1,.e1 104 97 2,.ex 14 (.alloc zE),.s1 3 14 102,.mv 15 103,.mv 16 104]) (.s (.r [.l2 105 3 11,.l2 106 3 14,.ex 107 (.beq true [.s,.b,.s] 105 106),.mv 108 107,.h3 109 12 108,.h3 110 15 108,.gf 111 (.bb true 109 110) 108,.p1 112 108 111,.mv 113 112,.h3 114 13 113,.h3 115 16 113,.gf 116 (.bb true 114 115) 113,.p1 117 113 116]) (.cnd 117 (.rf 2) .skip)))))) (.ic 78 79 9))))))) (.ic 68 69 8)))))) (.s (.r [.f1 118 5 3,.l1 119 1 118,.n1 120 119,.f1 121 5 6,.l1 122 1 121,.n1 123 122,.b1 124 .eql 120 123,.mv 125 124,.g1 126 8 3 125,.g2 127 1 126 125,.gt 128 (.len false 127) 125,.g1 129 8 6 125,.g2 130 1 129 125,.gt 131 (.len false 130) 125,.gt 132 (.bin .eql 128 131) 125,.p2 133 125 132,.mv 2 133]) .ret)))))))))
theorem zks:zc Tryz.prog [12] 3=some (zkr.ac,[(.t 2)],134):=by kernel_rfl
set_option maxHeartbeats 4000000 in
theorem zoF (W0:World) (hs:W0.ShapedOpen Tryz.prog) (c0':Str):Fn Tryz.prog W0 3 [qr c0'] (.c (CB true)) []:=by
 refine fX mixed zks fun hg=>?_
 have hM:=zfi hs;refine dr ?_;apply cP<;>intro h0
 ·exact dz
 refine dr ?_;refine oW (zd7 W0 c0') rfl trivial rfl rfl ⟨(w0W,ja),w0R.mono (by omega)⟩ fun x hx=>⟨rfl,?_⟩
 obtain ⟨w,op⟩:=x;have hw:WR 1 w:=hx;clear hx;have hl0:w.leases.length≤1000000:=by have:=hw.z.z.l; omega
 have q1:=zbK W0 hM w op hl0;have q2:=zeB W0 w op hl0;have q4:=zaj W0 w;have sm:=zgM W0;have zz:=hw.z.z;by_cases g:WG w;rotate_left
 ·rw [show wBars w op=[] from if_neg g] at q1 q2;rw [tb_f g] at q4;refine dEr ?_;repeat ((first|refine c0 q1 rfl ?_|refine c0 q2 rfl ?_|refine c0 q4 rfl ?_|refine kFn rfl ?_|apply xiT|apply xiF|apply xbT|apply xbF|refine xiN ?_|refine xiM ?_|refine xbN ?_|refine xbM ?_|apply xeT|apply xeF|refine c0 (y8 W0 _ _ rfl) rfl ?_|refine c0 (y6 W0 _ _ rfl) rfl ?_|refine c0 (y7 W0 _ _ rfl) rfl ?_); first|refine dEr ?_|exact dz)
  exact congrArg CB (qG.2 rfl)
 rw [show wBars w op=zI w op from if_pos g] at q1 q2;rw [tb_t g] at q4;have wc:=@zdh w op;have e1:=Y8 W0 hM w ⟨2,0,[],op,0⟩ (zz.mono (by omega));rw [JN g,zbe] at e1;have td:=@zc8 (vwG w.over) op;have gx:=g.write op;generalize zI w op=bars at *;cases hwt:w.waits with
 | true =>
  refine dEr ?_;repeat ((first|refine c0 q1 rfl ?_|refine c0 q2 rfl ?_|refine c0 q4 rfl ?_|refine kFn rfl ?_|refine kBt hwt ?_|apply xiT|apply xiF|apply xbT|apply xbF|refine xiN ?_|refine xiM ?_|refine xbN ?_|refine xbM ?_|apply xeT|apply xeF|refine c0 (y8 W0 _ _ rfl) rfl ?_|refine c0 (y6 W0 _ _ rfl) rfl ?_|refine c0 (y7 W0 _ _ rfl) rfl ?_); first|refine dEr ?_|exact dz)
  exact congrArg CB (qG.2 rfl)
 | false =>
 rcases wc with ⟨a,q⟩ | ⟨a,b,d,q⟩ | ⟨a,b,d,q⟩ | ⟨a,b,d,q⟩
 ·rw [hwt] at a; cases a
 ·rw [q] at e1;subst d;have e1:Fn Tryz.prog W0 16 [zB w,eEv ⟨2,0,[],op,0⟩] (.c (.tup [zB w,CI (zx (vwG w.over) op).2])) []:=e1;clear q;generalize (zx (vwG w.over) op).2=c at *;refine dEr ?_;repeat ((first|refine c0 q1 rfl ?_|refine c0 q2 rfl ?_|refine c0 q4 rfl ?_|refine kFn rfl ?_|refine kBf hwt ?_|refine c0 e1 rfl ?_|refine kTn b ?_|apply xiT|apply xiF|apply xbT|apply xbF|refine xiN ?_|refine xiM ?_|refine xbN ?_|refine xbM ?_|apply xeT|apply xeF|refine c0 (y8 W0 _ _ rfl) rfl ?_|refine c0 (y6 W0 _ _ rfl) rfl ?_|refine c0 (y7 W0 _ _ rfl) rfl ?_); first|refine dEr ?_|exact dz)
  show CB (eqB (eqI c 20) (ltI 0 0))=CB true;rw [ZO.2 (by omega),zfR.2 (by simp),y3.2 rfl]
 ·rw [q] at e1;generalize jT { w with waits:=true,op:=op } bars=x at *;have e1:Fn Tryz.prog W0 16 [zB w,eEv ⟨2,0,[],op,0⟩] (.c (.tup [zB x,CI 20])) []:=e1;have hb:0 < bars.length:=List.length_pos_iff.2 d;refine dEr ?_;repeat ((first|refine c0 q1 rfl ?_|refine c0 q2 rfl ?_|refine c0 q4 rfl ?_|refine kFn rfl ?_|refine kBf hwt ?_|refine c0 e1 rfl ?_|refine kTn (by decide) ?_|apply xiT|apply xiF|apply xbT|apply xbF|refine xiN ?_|refine xiM ?_|refine xbN ?_|refine xbM ?_|apply xeT|apply xeF|refine c0 (y8 W0 _ _ rfl) rfl ?_|refine c0 (y6 W0 _ _ rfl) rfl ?_|refine c0 (y7 W0 _ _ rfl) rfl ?_); first|refine dEr ?_|exact dz)
  show CB (eqB (eqI 20 20) (ltI 0 bars.length))=CB true;rw [qG.2 rfl,zaI.2 (by omega),y3.2 rfl]
 ·rw [q] at e1 gx;subst d;have e1:Fn Tryz.prog W0 16 [zB w,eEv ⟨2,0,[],op,0⟩] (.c (.tup [zB { w with over:=(oDo w.over op).1 },CI 0])) []:=e1;have q6:=fun who p=>zeh W0 hM w who p
  have q7:=fun who p=>zeh W0 hM { w with over:=(oDo w.over op).1 } who p
  have rs:=fun who p=>ztq (who:=who) (p:=p) g (show WG { w with over:=(oDo w.over op).1 } from gx) rfl rfl
  generalize (oDo w.over op).1=o at *;refine dEr ?_;repeat ((first|refine c0 q1 rfl ?_|refine c0 q2 rfl ?_|refine c0 q4 rfl ?_|refine kFn rfl ?_|refine kBf hwt ?_|refine c0 e1 rfl ?_|refine kFn rfl ?_|apply xiT|apply xiF|apply xbT|apply xbF|refine xiN ?_|refine xiM ?_|refine xbN ?_|refine xbM ?_|apply xeT|apply xeF|refine c0 (y8 W0 _ _ rfl) rfl ?_|refine c0 (y6 W0 _ _ rfl) rfl ?_|refine c0 (y7 W0 _ _ rfl) rfl ?_); first|refine dEr ?_|exact dz)
  have hh:=g.pl.hl;have hz:=zz.h;refine lp (σ:=Nat) (fun i=>[(3,.ptr 48 0),(6,.ptr 96 0),(8,I i)]) (fun _=>[(48,wBx w),(96,wBx { w with over:=o })]) (fun i=>i≤3) (fun i=>3 - i) 0 (by omega) ?_ ?_
  ·refine dr ?_;trivial
  intro i hi;refine dr ?_;apply cP<;>intro a1;rotate_left
  ·refine dEr ?_;repeat ((first|apply xiT|apply xiF|apply xbT|apply xbF|refine xiN ?_|refine xiM ?_|refine xbN ?_|refine xbM ?_|apply xeT|apply xeF|refine c0 (y8 W0 _ _ rfl) rfl ?_|refine c0 (y6 W0 _ _ rfl) rfl ?_|refine c0 (y7 W0 _ _ rfl) rfl ?_); first|refine dEr ?_|exact dz)
   try exact congrArg CB (qG.2 rfl)
  have hih:i < w.holds.length:=by omega
  have hzi:=hz _ (List.getElem_mem hih);refine dr ?_;refine lp (σ:=Nat) (fun k=>[(3,.ptr 48 0),(6,.ptr 96 0),(8,I i),(9,I k)]) (fun _=>[(48,wBx w),(96,wBx { w with over:=o })]) (fun k=>k≤w.holds[i].length) (fun k=>w.holds[i].length - k) 0 (by omega) ?_ ?_
  ·refine dr ?_;trivial
  intro k hk;refine dr ?_;apply cP<;>intro a2;rotate_left
  ·refine dr ?_;refine ⟨i+1,by omega,by omega,?_⟩;refine dr ?_;trivial
  have hk':k < w.holds[i].length:=by omega
  have c1:=q6 i w.holds[i][k].path;have c2:=q7 i w.holds[i][k].path;rw [rs] at c2;unfold eWR at c1 c2;generalize wRead w i w.holds[i][k].path=r at *;generalize (r.getD (noE,false)).1=r1 at *;generalize (r.getD (noE,false)).2=r2 at *;generalize r.isSome=r3 at *;refine dEr ?_;repeat ((first|refine c0 c1 rfl ?_|refine c0 c2 rfl ?_|apply xiT|apply xiF|apply xbT|apply xbF|refine xiN ?_|refine xiM ?_|refine xbN ?_|refine xbM ?_|apply xeT|apply xeF|refine c0 (y8 W0 _ _ rfl) rfl ?_|refine c0 (y6 W0 _ _ rfl) rfl ?_|refine c0 (y7 W0 _ _ rfl) rfl ?_); first|refine dEr ?_|exact dz)
  refine ⟨k+1,by omega,by omega,?_⟩;refine dr ?_;trivial
def zkp:XC:=(.s (.r [.m1 2 .n]) (.s (.s (.r [.mv 14 0,.n1 15 14,.b1 16 .gtr 15 (.i 1048576)]) (.cnd 16 (.rt 2) .skip)) (.s (.r [.mv 18 0,.o1 19 12 [18],.mv 17 19,.e1 20 17 0,.e1 21 17 1,.ex 3 (.alloc zW),.ex 4 (.alloc [(I 0),sE,sE,sE]),.s1 14 3 20,.s1 4 4 21]) (.s (.r [.l2 22 4 4,.ex 23 (.build zV [(0,(1,(.i 2))),(3,(4,22))]),.ex 5 (.alloc zV),.s1 8 5 23]) (.s (.r [.l2 25 14 3,.l2 26 8 5,.c1 27 16 [25,26],.mv 24 27,.e1 28 24 0,.e1 29 24 1,.ex 6 (.alloc zW),.s1 14 6 28,.mv 7 29]) (.s (.r [.l2 31 14 3,.l2 32 8 5,.c1 33 29 [31,32],.mv 30 33,.e1 34 30 0,.e1 35 30 1,.ex 8 (.alloc zW),.s1 14 8 34,.mv 9 35]) (.s (.s (.r [.mv 36 7,.mv 37 9,.b1 38 .neq 36 37,.mv 39 38,.gf 40 (.ld true 14 6) 39,.gf 41 (.ld true 14 8) 39,.gf 42 (.call 21 [40,41]) 39,.gf 43 (.un .not 42) 39,.p1 44 39 43,.mv 45 44,.gf 46 (.ld true 14 3) 45,.gf 47 (.call 15 [46]) 45,.gf 48 (.un .not 47) 45,.p1 49 45 48]) (.cnd 49 (.s (.r [.mv 50 7,.mv 51 9,.b1 52 .eql 50 51,.mv 53 52,.gt 54 (.ld true 14 6) 53,.gt 55 (.ld true 14 8) 53,.gt 56 (.call 21 [54,55]) 53,.p2 57 53 56,.mv 2 57]) .ret) .skip)) (.s (.r [.l2 59 14 6,.ex 60 (.build zV [(0,(1,(.i 3)))]),.c1 61 16 [59,60],.mv 58 61,.e1 62 58 0,.e1 63 58 1,.ex 10 (.alloc zW),.s1 14 10 62,.mv 11 63]) (.s (.s (.r [.f1 64 9 6,.l1 65 1 64,.u1 66 65]) (.cnd 66 (.s (.r [.mv 67 7,.b1 68 .neq 67 (.i 20),.mv 69 68,.g3 70 7 69,.gt 71 (.bin .neq 70 (.i 21)) 69,.p2 72 69 71,.mv 73 72,.g3 74 11 73,.gt 75 (.bin .eql 74 (.i 22)) 73,.p2 76 73 75,.mv 77 76,.gt 78 (.ld true 14 10) 77,.gt 79 (.ld true 14 6) 77,.gt 80 (.call 21 [78,79]) 77,.p2 81 77 80,.mv 2 81]) .ret) .skip)) (.s (.r [.l2 83 14 6,.l2 84 8 5,.c1 85 16 [83,84],.mv 82 85,.e1 86 82 0,.e1 87 82 1,.ex 12 (.alloc zW),.s1 14 12 86,.mv 13 87]) (.s (.r [.mv 88 13,.b1 89 .eql 88 (.i 21),.mv 90 89,.gt 91 (.ld true 14 12) 90,.gt 92 (.ld true 14 6) 90,.gt 93 (.call 21 [91,92]) 90,.p2 94 90 93,.mv 95 94,.g3 96 11 95,.gt 97 (.bin .eql 96 (.i 0)) 95,.gt 98 (.ld true 14 6) 95,.g1 99 10 6 95,.gt 100 (.ld true 4 99) 95,.gt 101 (.call 13 [98,100]) 95,.gt 102 (.len false 101) 95,.gt 103 (.bin .eql 102 (.i 0)) 95,.gt 104 (.bb false 97 103) 95,.p2 105 95 104,.mv 106 105,.g1 107 9 10 106,.g2 108 1 107 106,.g3 109 11 106,.gt 110 (.bin .neq 109 (.i 0)) 106,.gt 111 (.bb false 108 110) 106,.p2 112 106 111,.mv 2 112]) .ret)))))))))))
theorem zkq:zc Tryz.prog [12] 8=some (zkp.ac,[(.t 2)],113):=by kernel_rfl
set_option maxHeartbeats 4000000 in
theorem zoE (W0:World) (hs:W0.ShapedOpen Tryz.prog) (c0':Str):Fn Tryz.prog W0 8 [qr c0'] (.c (CB true)) []:=by
 refine fX mixed zkq fun hg=>?_
 have hM:=zfi hs;refine dr ?_;apply cP<;>intro h0
 ·exact dz
 refine dr ?_;refine oW (zd7 W0 c0') rfl trivial rfl rfl ⟨(w0W,ja),w0R.mono (by omega)⟩ fun x hx=>⟨rfl,?_⟩
 obtain ⟨w,op⟩:=x;have hw:WR 1 w:=hx;clear hx;have hl0:w.leases.length≤1000000:=by have:=hw.z.z.l; omega
 have q1:=zbK W0 hM w op hl0;have q2:=zeB W0 w op hl0;have q4:=zaj W0 w;have sm:=zgM W0;have zz:=hw.z.z;have e1:=Y8 W0 hM w ⟨2,0,[],op,0⟩ (zz.mono (by omega));have e2:=zqg W0 w ⟨2,0,[],op,0⟩ (zz.mono (by omega));by_cases g:WG w;rotate_left
 ·rw [show wDo w ⟨2,0,[],op,0⟩=(noW,1) from if_neg g] at e1 e2;rw [tb_f g] at q4;have e1:Fn Tryz.prog W0 16 [zB w,eEv ⟨2,0,[],op,0⟩] (.c (.tup [zB noW,CI 1])) []:=e1;have e2:Fn Tryz.prog W0 29 [zB w,eEv ⟨2,0,[],op,0⟩] (.c (.tup [zB noW,CI 1])) []:=e2;refine dEr ?_;repeat ((first|refine c0 e1 rfl ?_|refine c0 e2 rfl ?_|refine c0 q4 rfl ?_|refine kFn rfl ?_|refine c0 (sm noW) rfl ?_|apply xiT|apply xiF|apply xbT|apply xbF|refine xiN ?_|refine xiM ?_|refine xbN ?_|refine xbM ?_|apply xeT|apply xeF|refine c0 (y8 W0 _ _ rfl) rfl ?_|refine c0 (y6 W0 _ _ rfl) rfl ?_|refine c0 (y7 W0 _ _ rfl) rfl ?_); first|refine dEr ?_|exact dz)
  trace_state
 rw [JN g,zbe] at e1 e2;rw [tb_t g] at q4;have bz:=busy g op;have z1:=zz.ev ⟨2,0,[],op,0⟩;have gx:=g.write op;rw [zbe] at z1;generalize jq w op=r at *;obtain ⟨x,c⟩:=r;have bz:(x.waits=false→c≠20∧c≠21∧jI x=(x,22))∧(x.waits=true→jq x op=(x,21)∧((jI x).2=0↔zI x x.op=[])∧((jI x).1.waits=true↔(jI x).2≠0)):=bz;have z1:HZ 102 x:=z1;have gx:WG x:=gx;have e1:Fn Tryz.prog W0 16 [zB w,eEv ⟨2,0,[],op,0⟩] (.c (.tup [zB x,CI c])) []:=e1;have e2:Fn Tryz.prog W0 29 [zB w,eEv ⟨2,0,[],op,0⟩] (.c (.tup [zB x,CI c])) []:=e2;have e3:=Y8 W0 hM x ⟨3,0,[],ja,0⟩ (z1.mono (by omega));rw [JN gx,zti] at e3;have e4:=Y8 W0 hM x ⟨2,0,[],op,0⟩ (z1.mono (by omega));rw [JN gx,zbe] at e4;have qb:=zbK W0 hM x x.op (by have:=z1.l; omega);rw [show wBars x x.op=zI x x.op from if_pos gx] at qb;cases hwt:x.waits with
 | false =>
  obtain ⟨b1,b2,b3⟩:=bz.1 hwt;rw [b3] at e3;have e3:Fn Tryz.prog W0 16 [zB x,eEv ⟨3,0,[],ja,0⟩] (.c (.tup [zB x,CI 22])) []:=e3;refine dEr ?_;repeat ((first|refine c0 e1 rfl ?_|refine c0 e2 rfl ?_|refine c0 q4 rfl ?_|refine kFn rfl ?_|refine c0 (sm x) rfl ?_|refine c0 e3 rfl ?_|refine kNf hwt ?_|refine kTn b1 ?_|refine kTn b2 ?_|refine kT rfl ?_|apply xiT|apply xiF|apply xbT|apply xbF|refine xiN ?_|refine xiM ?_|refine xbN ?_|refine xbM ?_|apply xeT|apply xeF|refine c0 (y8 W0 _ _ rfl) rfl ?_|refine c0 (y6 W0 _ _ rfl) rfl ?_|refine c0 (y7 W0 _ _ rfl) rfl ?_); first|refine dEr ?_|exact dz)
 | true =>
  obtain ⟨b1,b2,b3⟩:=bz.2 hwt;rw [b1] at e4;have e4:Fn Tryz.prog W0 16 [zB x,eEv ⟨2,0,[],op,0⟩] (.c (.tup [zB x,CI 21])) []:=e4;generalize jI x=r at *;obtain ⟨z,d⟩:=r;have e3:Fn Tryz.prog W0 16 [zB x,eEv ⟨3,0,[],ja,0⟩] (.c (.tup [zB z,CI d])) []:=e3;have b2:d=0↔zI x x.op=[]:=b2;have b3:z.waits=true↔d≠0:=b3;generalize zI x x.op=bars at *;have hE:eqI d 0=eqI bars.length 0:=by
   by_cases hd:d=0
   ·rw [qG.2 hd,b2.1 hd]; exact (qG.2 rfl).symm
   ·have:bars≠[]:=fun hh=>hd (b2.2 hh)
    have:=List.length_pos_iff.2 this;rw [ZO.2 hd,ZO.2 (by omega)]
  have hF:z.waits=!eqI d 0:=by
   by_cases hd:d=0
   ·rw [qG.2 hd];cases hz:z.waits with
    | true=>exact absurd hd (b3.1 hz)
    | false=>rfl
   ·rw [ZO.2 hd,b3.2 hd]; rfl
  refine dEr ?_;repeat ((first|refine c0 e1 rfl ?_|refine c0 e2 rfl ?_|refine c0 q4 rfl ?_|refine kFn rfl ?_|refine c0 (sm x) rfl ?_|refine c0 e3 rfl ?_|refine kNt hwt ?_|refine c0 e4 rfl ?_|refine c0 qb rfl ?_|refine kEB hE ?_|apply xiT|apply xiF|apply xbT|apply xbF|refine xiN ?_|refine xiM ?_|refine xbN ?_|refine xbM ?_|apply xeT|apply xeF|refine c0 (y8 W0 _ _ rfl) rfl ?_|refine c0 (y6 W0 _ _ rfl) rfl ?_|refine c0 (y7 W0 _ _ rfl) rfl ?_); first|refine dEr ?_|exact dz)
  exact congrArg CB (y3.2 hF)
end Go.Proofs.YtopfccpgdldcdaaGreatDoor
