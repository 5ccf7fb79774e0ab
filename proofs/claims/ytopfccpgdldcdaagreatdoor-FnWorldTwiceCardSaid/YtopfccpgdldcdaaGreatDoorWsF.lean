/- The texts Id4, Id5, Id6, Dd1, Dd2, Dd3, Cm1, Dm1, Dm2, Lb1, Lc1, Qb5, Le0, Pe1, Qb7, Ld8, joined; no condition. -/
import Derived.Test.YtopfccpgdldcdaaGreatDoorWsE
import Derived.OpenShut
import Derived.Carry
import Derived.ChangeSame
import Derived.ProofKit
import Derived.Test.YtopfccpgdldcdaaGreatDoorRows
import Derived.Test.YtopfccpgdldcdaaGreatDoorCards
import Derived.Test.YtopfccpgdldcdaaGreatDoorTie
import Derived.Deep.DeepHandedRow
import Derived.Lib.LaidTab
import Derived.Sort.Row

namespace Go.Proofs.YtopfccpgdldcdaaGreatDoor
set_option linter.unusedSimpArgs false
set_option linter.unusedVariables false
open Go Go.RowKit
def znP:XC:=(.s (.s (.d [.mv 12 0,.k1 13 12,.f1 14 4 13,.l1 15 1 14,.b1 16 .eql 15 (.i 10000),.mv 17 16,.h3 18 0 17,.gf 19 (.nck 18) 17,.h1 20 9 19 17,.h2 21 1 20 17,.h3 22 21 17,.g3 23 0 22,.gt 24 (.nck 23) 22,.gt 25 (.ld true 14 24) 22,.g3 26 0 22,.gt 27 (.nck 26) 22,.g1 28 10 27 22,.gt 29 (.ld true 4 28) 22,.gt 30 (.opn 39 [25,29]) 22,.g3 31 2 22,.gt 32 (.call 40 [30,31]) 22,.gf 33 (.pick 22 32 .n) 17,.p1 34 17 33]) (.cnd 34 .ret .skip)) (.s (.r [.mv 35 0,.k1 36 35,.f1 37 4 36,.l1 38 1 37,.b1 39 .add 38 (.i 1),.k1 40 35,.f1 41 4 40,.s1 1 41 39]) (.s (.r [.mv 42 0,.k1 43 42,.f1 44 3 43,.l1 45 1 44,.b1 46 .add 45 (.i 5),.mv 6 46]) (.cut (.s (.r [.mv 47 0,.k1 48 47,.f1 49 5 48,.l1 50 1 49,.mv 51 1,.mv 52 2,.c1 53 130 [50,51,52],.mv 7 53]) (.s (.r [.mv 54 7,.b1 55 .geq 54 (.i 0)]) (.cnd 55 (.r [.mv 56 0,.mv 57 0,.k1 58 57,.f1 59 5 58,.l1 60 1 59,.mv 61 7,.mv 62 7,.b1 63 .add 62 (.i 1),.o1 64 160 [60,61,63],.k1 65 56,.f1 66 5 65,.s1 1 66 64]) .skip))) (.s (.d [.mv 67 0,.mv 68 0,.k1 69 68,.f1 70 5 69,.l1 71 1 70,.mv 72 1,.mv 73 2,.mv 74 0,.k1 75 74,.f1 76 4 75,.l1 77 1 76,.mv 78 6,.ex 79 (.build [(I 0),sE,(I 0),(I 0)] [(0,(1,72)),(1,(1,73)),(2,(1,77)),(3,(1,78))]),.ex 80 (.bsl 4 59 [79]),.ex 81 (.app false 4 40 59 71 80),.k1 82 67,.f1 83 5 82,.s1 1 83 81]) (.s (.r [.mv 85 0,.k1 86 85,.f1 87 0 86,.l2 88 3 87,.c1 89 18 [88],.mv 84 89,.e1 90 84 0,.e1 91 84 1,.a1 8 90 3 46,.mv 9 91]) (.s (.r [.mv 93 8,.mv 94 2,.c1 95 26 [93,94],.mv 92 95,.e1 96 92 0,.e1 97 92 1,.ex 10 (.alloc zE),.s1 3 10 96,.mv 11 97]) (.d [.mv 98 0,.mv 99 1,.mv 100 2,.mv 101 11,.l2 102 3 10,.mv 103 0,.k1 104 103,.f1 105 4 104,.l1 106 1 105,.mv 107 6,.ex 108 (.build [sE,(B false),sE,(B false),sE,(I 0),(I 0)] [(0,(1,100)),(1,(1,101)),(2,(3,102)),(5,(1,106)),(6,(1,107))]),.ex 109 (.build [(I 0),(I 0),sE,(B false),sE,(B false),sE,(I 0),(I 0)] [(0,(1,(.i 2))),(1,(1,99)),(2,(7,108))]),.o1 110 50 [98,109]]))))))))
theorem znQ:zc Tryz.prog [50,160,39] 108=some (znP.ac,[],111):=by kernel_rfl
theorem zaD {w:Wld} {who:Int} {p:Str}:XB.row ((je w.leases who p (w.count+1)).map jw++[jw ⟨who,p,w.count+1,w.clock+5⟩]) 4 59 = .row ((grantL w who p).leases.map jw) 4 59:=xrow1
theorem zo9 (W0:World) (hM:HM W0) (w:Wld) (who:Int) (p:Str) (h:WG w) (hl:w.leases.length≤1000000):zx Tryz.prog W0 108 [.ptr 4 0,.c (CI who),.c (CS p)] (wMp w) (fun _:Bool=>True) (fun _ => .tup []) (fun b=>wMl b (ye w who p)):=by
 refine fW mixed znQ fun hg=>?_
 have hv:=Qc W0 hM w.over;rw [if_pos h.ov,zbp h] at hv;have ht:=zeO W0 hM w w.op h.ov;have hc:=h.pl.ck;have hct:=h.pl.ct;have hn:w.net.length≤1000:=by have:=h.pl.nl; omega
 rw [zaE];generalize hts:qa w w.op=ts at *;have hget:=zew W0 hM (vwG w.over) p;rw [if_pos h.gx,qR] at hget;have hofl:(je w.leases who p (w.count+1)).length≤1000000:=Nat.le_trans (List.length_filter_le _ _) hl;have ho:=zgp h.ls.d (who:=who) (n:=w.count+1) (p:=p);have hla:=zam W0 w.leases who p;refine dr ?_;apply cP<;>intro h0
 ·rw [if_pos (.inr (by omega))];refine dr ?_;refine ⟨none,_,_,?_,false,trivial,rfl,rfl⟩;refine dr ?_;trivial
 refine dr ?_;apply cP<;>intro h1
 ·refine dr ?_;refine oW ht rfl ⟨rfl,rfl,rfl,rfl,rfl,rfl,rfl,trivial⟩ rfl rfl ⟨(),trivial⟩ fun _ _=>⟨rfl,?_⟩
  refine dEr ?_;repeat (refine c0 (zbT W0 ts p) rfl ?_; first|refine dEr ?_|exact dz)
  apply cP<;>intro h2
  ·rw [if_pos (.inl ⟨h1,by rw [List.contains_eq_mem,decide_eq_true_iff] at h2; exact h2⟩)];refine dEr ?_;refine ⟨none,_,_,?_,false,trivial,rfl,rfl⟩;refine dr ?_;trivial
  have h2':p ∉ ts:=by rw [List.contains_eq_mem,decide_eq_false_iff_not] at h2; exact h2
  rw [if_neg (by rintro (⟨_,h⟩ | h); exact h2' h; omega)];refine dEr ?_;refine cuts (σ:=Bool) (fun _=>[(0,.ptr 4 0),(1,.c (CI who)),(2,.c (CS p)),(6,I (w.clock+5))]) (fun b=>wMl b { w with count:=w.count+1,leases:=je w.leases who p (w.count+1) }) (fun _=>True) ?_ ?_
  ·refine dEr ?_;repeat (refine c0 hla rfl ?_; first|refine dEr ?_|exact dz)
   rcases @Yo w.leases who p with ⟨e1,e2⟩ | ⟨j,hj,e1,e2⟩
   ·rw [e2] at ho;rw [e1,show je w.leases who p (w.count+1)=w.leases from ho];apply cP<;>intro h3
    ·omega
    refine dr ?_;refine ⟨false,trivial,?_⟩;refine zn.s (z:=none) ?_;refine dr ?_;trivial
   ·have hnum:=(h.ls.g _ (List.getElem_mem hj)).2.2.2.1;rw [e2,e1] at ho;have ho:je w.leases who p (w.count+1)=if w.leases[j].num≤w.count+1 then w.leases.eraseIdx (j:Int).toNat else w.leases:=ho
    rw [e1,ho,if_pos (by omega)];apply cP<;>intro h3;rotate_left
    ·omega
    refine dr ?_;refine oW (zbU W0 w.leases j hj 5 1600 (by decide) hl) rfl ⟨rfl,trivial⟩ rfl rfl ⟨(),trivial⟩ fun _ _=>⟨rfl,?_⟩
    refine dEr ?_;refine ⟨true,trivial,?_⟩;refine zn.s (z:=none) ?_;refine dr ?_;repeat (refine oB (by simp [List.length_eraseIdx,hj]) ?_; first|refine dr ?_|exact dz)
    trivial
  rintro b _;cases b with
  | true =>
   refine dr ?_;repeat ((first|refine oB (by simp; omega) ?_|refine oB (by simp) ?_|refine c0 hv rfl ?_|refine c0 hget rfl ?_); first|refine dr ?_|exact dz)
   intro _;refine dEr ?_;repeat ((first|refine oB (by simp; omega) ?_|refine oB (by simp) ?_|refine c0 hv rfl ?_|refine c0 hget rfl ?_); first|refine dEr ?_|exact dz)
   refine oW ((Zk W0 (grantL w who p) (jV w who p) hn).swp 5 1600) rfl ⟨congrArg some (congrArg (fun y=>XB.box [.c (za w.over.base),.c (zA w.over.layers),.c (ze w.over.upper),I w.clock,I (w.count+1),y,.own 6 3,.own 10 w.floors.length,.own 11 w.net.length,B w.waits,I w.op.kind,.c (CS w.op.path),.c (CS w.op.dest),.c (CS w.op.data)]) QQ),congrArg some zaD,rfl,rfl,rfl,rfl,rfl,rfl,trivial⟩ rfl rfl ⟨(),trivial⟩ fun _ _=>⟨rfl,?_⟩
   refine dEr ?_;refine ⟨none,_,_,?_,true,trivial,rfl,rfl⟩;refine dr ?_;trivial
  | false =>
   refine dr ?_;repeat ((first|refine oB (by simp; omega) ?_|refine oB (by simp) ?_|refine c0 hv rfl ?_|refine c0 hget rfl ?_); first|refine dr ?_|exact dz)
   intro _;refine dEr ?_;repeat ((first|refine oB (by simp; omega) ?_|refine oB (by simp) ?_|refine c0 hv rfl ?_|refine c0 hget rfl ?_); first|refine dEr ?_|exact dz)
   refine oW ((Zk W0 (grantL w who p) (jV w who p) hn)) rfl ⟨congrArg some (congrArg (fun y=>XB.box [.c (za w.over.base),.c (zA w.over.layers),.c (ze w.over.upper),I w.clock,I (w.count+1),y,.own 6 3,.own 10 w.floors.length,.own 11 w.net.length,B w.waits,I w.op.kind,.c (CS w.op.path),.c (CS w.op.dest),.c (CS w.op.data)]) QQ),congrArg some zaD,rfl,rfl,rfl,rfl,rfl,rfl,trivial⟩ rfl rfl ⟨(),trivial⟩ fun _ _=>⟨rfl,?_⟩
   refine dEr ?_;refine ⟨none,_,_,?_,false,trivial,rfl,rfl⟩;refine dr ?_;trivial
 ·refine dr ?_;rw [if_neg (by rintro (⟨h,_⟩ | h); rw [h] at h1; cases h1; omega)];refine dEr ?_;refine cuts (σ:=Bool) (fun _=>[(0,.ptr 4 0),(1,.c (CI who)),(2,.c (CS p)),(6,I (w.clock+5))]) (fun b=>wMl b { w with count:=w.count+1,leases:=je w.leases who p (w.count+1) }) (fun _=>True) ?_ ?_
  ·refine dEr ?_;repeat (refine c0 hla rfl ?_; first|refine dEr ?_|exact dz)
   rcases @Yo w.leases who p with ⟨e1,e2⟩ | ⟨j,hj,e1,e2⟩
   ·rw [e2] at ho;rw [e1,show je w.leases who p (w.count+1)=w.leases from ho];apply cP<;>intro h3
    ·omega
    refine dr ?_;refine ⟨false,trivial,?_⟩;refine zn.s (z:=none) ?_;refine dr ?_;trivial
   ·have hnum:=(h.ls.g _ (List.getElem_mem hj)).2.2.2.1;rw [e2,e1] at ho;have ho:je w.leases who p (w.count+1)=if w.leases[j].num≤w.count+1 then w.leases.eraseIdx (j:Int).toNat else w.leases:=ho
    rw [e1,ho,if_pos (by omega)];apply cP<;>intro h3;rotate_left
    ·omega
    refine dr ?_;refine oW (zbU W0 w.leases j hj 5 1600 (by decide) hl) rfl ⟨rfl,trivial⟩ rfl rfl ⟨(),trivial⟩ fun _ _=>⟨rfl,?_⟩
    refine dEr ?_;refine ⟨true,trivial,?_⟩;refine zn.s (z:=none) ?_;refine dr ?_;repeat (refine oB (by simp [List.length_eraseIdx,hj]) ?_; first|refine dr ?_|exact dz)
    trivial
  rintro b _;cases b with
  | true =>
   refine dr ?_;repeat ((first|refine oB (by simp; omega) ?_|refine oB (by simp) ?_|refine c0 hv rfl ?_|refine c0 hget rfl ?_); first|refine dr ?_|exact dz)
   intro _;refine dEr ?_;repeat ((first|refine oB (by simp; omega) ?_|refine oB (by simp) ?_|refine c0 hv rfl ?_|refine c0 hget rfl ?_); first|refine dEr ?_|exact dz)
   refine oW ((Zk W0 (grantL w who p) (jV w who p) hn).swp 5 1600) rfl ⟨congrArg some (congrArg (fun y=>XB.box [.c (za w.over.base),.c (zA w.over.layers),.c (ze w.over.upper),I w.clock,I (w.count+1),y,.own 6 3,.own 10 w.floors.length,.own 11 w.net.length,B w.waits,I w.op.kind,.c (CS w.op.path),.c (CS w.op.dest),.c (CS w.op.data)]) QQ),congrArg some zaD,rfl,rfl,rfl,rfl,rfl,rfl,trivial⟩ rfl rfl ⟨(),trivial⟩ fun _ _=>⟨rfl,?_⟩
   refine dEr ?_;refine ⟨none,_,_,?_,true,trivial,rfl,rfl⟩;refine dr ?_;trivial
  | false =>
   refine dr ?_;repeat ((first|refine oB (by simp; omega) ?_|refine oB (by simp) ?_|refine c0 hv rfl ?_|refine c0 hget rfl ?_); first|refine dr ?_|exact dz)
   intro _;refine dEr ?_;repeat ((first|refine oB (by simp; omega) ?_|refine oB (by simp) ?_|refine c0 hv rfl ?_|refine c0 hget rfl ?_); first|refine dEr ?_|exact dz)
   refine oW ((Zk W0 (grantL w who p) (jV w who p) hn)) rfl ⟨congrArg some (congrArg (fun y=>XB.box [.c (za w.over.base),.c (zA w.over.layers),.c (ze w.over.upper),I w.clock,I (w.count+1),y,.own 6 3,.own 10 w.floors.length,.own 11 w.net.length,B w.waits,I w.op.kind,.c (CS w.op.path),.c (CS w.op.dest),.c (CS w.op.data)]) QQ),congrArg some zaD,rfl,rfl,rfl,rfl,rfl,rfl,trivial⟩ rfl rfl ⟨(),trivial⟩ fun _ _=>⟨rfl,?_⟩
   refine dEr ?_;refine ⟨none,_,_,?_,false,trivial,rfl,rfl⟩;refine dr ?_;trivial
def zn1:XC:=(.cut (.s (.r [.mv 9 0,.k1 10 9,.f1 11 6 10,.l1 12 1 11,.mv 13 1,.i1 14 1 12 13,.l1 15 1 14,.mv 16 2,.c1 17 55 [15,16],.mv 8 17]) (.s (.r [.mv 18 8,.b1 19 .geq 18 (.i 0),.mv 20 19,.g3 21 0 20,.gt 22 (.nck 21) 20,.g1 23 6 22 20,.g2 24 1 23 20,.g3 25 1 20,.gt 26 (.ia 1 24 25) 20,.g2 27 1 26 20,.g3 28 8 20,.gt 29 (.ia 7 27 28) 20,.g1 30 5 29 20,.g2 31 1 30 20,.g3 32 3 20,.gt 33 (.bin .leq 31 32) 20,.p2 34 20 33]) (.cnd 34 (.d [.mv 35 0,.k1 36 35,.f1 37 6 36,.exo [7,1616] 38 (.ld false 1 37),.mv 39 1,.mv 40 0,.k1 41 40,.f1 42 6 41,.exo [7,1616] 43 (.ld false 1 42),.mv 44 1,.exo [7,1616] 45 (.ia 1 43 44),.exo [7,1616] 46 (.ld false 1 45),.mv 47 8,.mv 48 8,.b1 49 .add 48 (.i 1),.exo [7,1616] 50 (.opn 161 [46,47,49]),.exo [7,1616] 51 (.ia 1 38 39),.s1 1 51 50]) .skip))) (.s (.d [.mv 52 0,.k1 53 52,.f1 54 7 53,.l1 55 1 54,.mv 56 1,.mv 57 0,.k1 58 57,.f1 59 7 58,.l1 60 1 59,.mv 61 1,.i1 62 1 60 61,.l1 63 1 62,.mv 64 3,.ex 65 (.mm true 63 64),.i1 66 1 55 56,.s1 1 66 65]) (.r [.mv 67 0,.mv 68 1,.mv 69 2,.mv 70 3,.ex 71 (.build [sE,(B false),sE,(B false),sE,(I 0),(I 0)] [(0,(1,69)),(5,(1,70))]),.ex 72 (.build [(I 0),(I 0),sE,(B false),sE,(B false),sE,(I 0),(I 0)] [(0,(1,(.i 4))),(1,(1,68)),(2,(7,71))]),.o1 73 50 [67,72]])))
theorem zn2:zc Tryz.prog [50,161,1000007,1001616] 110=some (zn1.ac,[],74):=by kernel_rfl
theorem zpe (W0:World) (w:Wld) (p:Str) (n:Int) (h:WG w) (hz:HZ 1000000 w):zx Tryz.prog W0 110 [.ptr 4 0,I 0,.c (CS p),.c (CI n)] (wMp w) (fun _:Bool=>True) (fun _ => .tup []) (fun b=>wM0 b (zP { w with holds:=w.holds.set 0 (zX (hdW w 0) p n),floors:=w.floors.set 0 (zJ (flW w 0) n) } ⟨4,0,⟨p,false,noE,n,0⟩⟩)):=by
 have hw:isW 0:=⟨by omega,by omega⟩;have f3:=h.pl.fl;have hn:w.net.length≤1000:=by have:=h.pl.nl; omega
 have s:=@zhS w (zX (hdW w 0) p n) w.floors h.pl.hl;have hd:(hdW w 0).Pairwise fun a b=>a.path≠b.path:=(h.hd 0 (by omega)).d
 have hlen:(hdW w 0).length≤1000000:=y6 hz 0;have ht:=zcD hd (p:=p) (n:=n);have hcs:=y5 (hdW w 0) p;have hha:=ZH W0 (hdW w 0) p;refine fW mixed zn2 fun hg=>?_
 refine cuts (σ:=Bool) (fun _=>[(0,.ptr 4 0),(1,I 0),(2,.c (CS p)),(3,.c (CI n))]) (fun b=>wM0 b { w with holds:=w.holds.set 0 (zX (hdW w 0) p n) }) (fun _=>True) ?_ ?_
 ·refine dEr ?_;repeat ((first|refine oB (by decide) ?_|refine c0 hha rfl ?_); first|refine dEr ?_|exact dz)
  rcases hcs with ⟨e1,e2⟩ | ⟨j,hj,e1,e2,e3⟩
  ·have lv:=ht.2 (fun j hj e=>by rw [e1] at e; omega);rw [e1];apply cP<;>intro c3
   ·omega
   refine dr ?_;refine ⟨false,trivial,?_⟩;show zn _ _ _ _ _ (wMx 5 7 8 9 11 _);rw [qE s,lv];refine zn.s (z:=none) ?_;refine dr ?_;trivial
  rw [e1];apply cP<;>intro c3;rotate_left
  ·omega
  refine dr ?_;repeat (refine oB (by decide) ?_; first|refine dr ?_|exact dz)
  apply cP<;>intro c4
  ·have lv:=ht.1 j hj e1 c4;refine dr ?_;repeat (refine oB (by decide) ?_; first|refine dr ?_|exact dz)
   refine oW (Qb W0 (hdW w 0) j hj 7 1616 (by decide) hlen) rfl ⟨rfl,trivial⟩ rfl rfl ⟨(),trivial⟩ fun _ _=>⟨rfl,?_⟩
   refine dEr ?_;repeat (refine oB (by decide) ?_; first|refine dEr ?_|exact dz)
   refine ⟨true,trivial,?_⟩;show zn _ _ _ _ _ (_::wMx 5 1616 8 9 11 _);rw [qE s,lv];refine zn.s (z:=none) ?_;refine dr ?_;repeat (refine oB (by simp [List.length_eraseIdx,hj]) ?_; first|refine dr ?_|exact dz)
   trivial
  ·have lv:zX (hdW w 0) p n=hdW w 0:=by
    refine ht.2 fun i hi e=>?_
    have hij:i=j:=by omega
    subst hij;exact c4
   refine dr ?_;refine ⟨false,trivial,?_⟩;show zn _ _ _ _ _ (wMx 5 7 8 9 11 _);rw [qE s,lv];refine zn.s (z:=none) ?_;refine dr ?_;trivial
 have hs:=Zk W0 { w with holds:=w.holds.set 0 (zX (hdW w 0) p n),floors:=w.floors.set 0 (zJ (flW w 0) n) } ⟨4,0,⟨p,false,noE,n,0⟩⟩ hn;have fr:XB.row ((w.floors.map CI).set 0 (CI (max (flW w 0) n))) 1 3 = .row ((w.floors.set 0 (zJ (flW w 0) n)).map CI) 1 3:=by
  rw [show zJ (flW w 0) n=max (flW w 0) n by unfold zJ; split<;>omega,set1]
 have fb:∀ k,XB.box [.c (za w.over.base),.c (zA w.over.layers),.c (ze w.over.upper),I w.clock,I w.count,.own 5 w.leases.length,.own 6 3,.own 10 w.floors.length,.own k w.net.length,B w.waits,I w.op.kind,.c (CS w.op.path),.c (CS w.op.dest),.c (CS w.op.data)] =
   .box [.c (za w.over.base),.c (zA w.over.layers),.c (ze w.over.upper),I w.clock,I w.count,.own 5 w.leases.length,.own 6 3,.own 10 (w.floors.set 0 (zJ (flW w 0) n)).length,.own k w.net.length,B w.waits,I w.op.kind,.c (CS w.op.path),.c (CS w.op.dest),.c (CS w.op.data)]:=fun k=>by rw [List.length_set]
 rintro b _;cases b with
 | true =>
  refine dEr ?_;repeat ((first|refine oB (by rw [f3]; decide) ?_|refine aFl hw f3 ?_); first|refine dEr ?_|exact dz)
  refine oW (hs.swp 7 1616) rfl ⟨congrArg some (fb 11),rfl,rfl,rfl,rfl,rfl,congrArg some fr,rfl,trivial⟩ rfl rfl ⟨(),trivial⟩ fun _ _=>⟨rfl,?_⟩
  refine dEr ?_;refine ⟨none,_,_,?_,true,trivial,rfl,rfl⟩;refine dr ?_;trivial
 | false =>
  refine dEr ?_;repeat ((first|refine oB (by rw [f3]; decide) ?_|refine aFl hw f3 ?_); first|refine dEr ?_|exact dz)
  refine oW hs rfl ⟨congrArg some (fb 11),rfl,rfl,rfl,rfl,rfl,congrArg some fr,rfl,trivial⟩ rfl rfl ⟨(),trivial⟩ fun _ _=>⟨rfl,?_⟩
  refine dEr ?_;refine ⟨none,_,_,?_,false,trivial,rfl,rfl⟩;refine dr ?_;trivial
def zn3:XC:=(.cut (.s (.r [.mv 9 0,.k1 10 9,.f1 11 6 10,.l1 12 1 11,.mv 13 1,.i1 14 1 12 13,.l1 15 1 14,.mv 16 2,.c1 17 55 [15,16],.mv 8 17]) (.s (.r [.mv 18 8,.b1 19 .geq 18 (.i 0),.mv 20 19,.g3 21 0 20,.gt 22 (.nck 21) 20,.g1 23 6 22 20,.g2 24 1 23 20,.g3 25 1 20,.gt 26 (.ia 1 24 25) 20,.g2 27 1 26 20,.g3 28 8 20,.gt 29 (.ia 7 27 28) 20,.g1 30 5 29 20,.g2 31 1 30 20,.g3 32 3 20,.gt 33 (.bin .leq 31 32) 20,.p2 34 20 33]) (.cnd 34 (.d [.mv 35 0,.k1 36 35,.f1 37 6 36,.exo [8,1616] 38 (.ld false 1 37),.mv 39 1,.mv 40 0,.k1 41 40,.f1 42 6 41,.exo [8,1616] 43 (.ld false 1 42),.mv 44 1,.exo [8,1616] 45 (.ia 1 43 44),.exo [8,1616] 46 (.ld false 1 45),.mv 47 8,.mv 48 8,.b1 49 .add 48 (.i 1),.exo [8,1616] 50 (.opn 161 [46,47,49]),.exo [8,1616] 51 (.ia 1 38 39),.s1 1 51 50]) .skip))) (.s (.d [.mv 52 0,.k1 53 52,.f1 54 7 53,.l1 55 1 54,.mv 56 1,.mv 57 0,.k1 58 57,.f1 59 7 58,.l1 60 1 59,.mv 61 1,.i1 62 1 60 61,.l1 63 1 62,.mv 64 3,.ex 65 (.mm true 63 64),.i1 66 1 55 56,.s1 1 66 65]) (.r [.mv 67 0,.mv 68 1,.mv 69 2,.mv 70 3,.ex 71 (.build [sE,(B false),sE,(B false),sE,(I 0),(I 0)] [(0,(1,69)),(5,(1,70))]),.ex 72 (.build [(I 0),(I 0),sE,(B false),sE,(B false),sE,(I 0),(I 0)] [(0,(1,(.i 4))),(1,(1,68)),(2,(7,71))]),.o1 73 50 [67,72]])))
theorem zn4:zc Tryz.prog [50,161,1000008,1001616] 110=some (zn3.ac,[],74):=by kernel_rfl
theorem zpf (W0:World) (w:Wld) (p:Str) (n:Int) (h:WG w) (hz:HZ 1000000 w):zx Tryz.prog W0 110 [.ptr 4 0,I 1,.c (CS p),.c (CI n)] (wMp w) (fun _:Bool=>True) (fun _ => .tup []) (fun b=>wM1 b (zP { w with holds:=w.holds.set 1 (zX (hdW w 1) p n),floors:=w.floors.set 1 (zJ (flW w 1) n) } ⟨4,1,⟨p,false,noE,n,0⟩⟩)):=by
 have hw:isW 1:=⟨by omega,by omega⟩;have f3:=h.pl.fl;have hn:w.net.length≤1000:=by have:=h.pl.nl; omega
 have s:=@zhT w (zX (hdW w 1) p n) w.floors h.pl.hl;have hd:(hdW w 1).Pairwise fun a b=>a.path≠b.path:=(h.hd 1 (by omega)).d
 have hlen:(hdW w 1).length≤1000000:=y6 hz 1;have ht:=zcD hd (p:=p) (n:=n);have hcs:=y5 (hdW w 1) p;have hha:=ZH W0 (hdW w 1) p;refine fW mixed zn4 fun hg=>?_
 refine cuts (σ:=Bool) (fun _=>[(0,.ptr 4 0),(1,I 1),(2,.c (CS p)),(3,.c (CI n))]) (fun b=>wM1 b { w with holds:=w.holds.set 1 (zX (hdW w 1) p n) }) (fun _=>True) ?_ ?_
 ·refine dEr ?_;repeat ((first|refine oB (by decide) ?_|refine c0 hha rfl ?_); first|refine dEr ?_|exact dz)
  rcases hcs with ⟨e1,e2⟩ | ⟨j,hj,e1,e2,e3⟩
  ·have lv:=ht.2 (fun j hj e=>by rw [e1] at e; omega);rw [e1];apply cP<;>intro c3
   ·omega
   refine dr ?_;refine ⟨false,trivial,?_⟩;show zn _ _ _ _ _ (wMx 5 7 8 9 11 _);rw [qE s,lv];refine zn.s (z:=none) ?_;refine dr ?_;trivial
  rw [e1];apply cP<;>intro c3;rotate_left
  ·omega
  refine dr ?_;repeat (refine oB (by decide) ?_; first|refine dr ?_|exact dz)
  apply cP<;>intro c4
  ·have lv:=ht.1 j hj e1 c4;refine dr ?_;repeat (refine oB (by decide) ?_; first|refine dr ?_|exact dz)
   refine oW (Qb W0 (hdW w 1) j hj 8 1616 (by decide) hlen) rfl ⟨rfl,trivial⟩ rfl rfl ⟨(),trivial⟩ fun _ _=>⟨rfl,?_⟩
   refine dEr ?_;repeat (refine oB (by decide) ?_; first|refine dEr ?_|exact dz)
   refine ⟨true,trivial,?_⟩;show zn _ _ _ _ _ (_::wMx 5 7 1616 9 11 _);rw [qE s,lv];refine zn.s (z:=none) ?_;refine dr ?_;repeat (refine oB (by simp [List.length_eraseIdx,hj]) ?_; first|refine dr ?_|exact dz)
   trivial
  ·have lv:zX (hdW w 1) p n=hdW w 1:=by
    refine ht.2 fun i hi e=>?_
    have hij:i=j:=by omega
    subst hij;exact c4
   refine dr ?_;refine ⟨false,trivial,?_⟩;show zn _ _ _ _ _ (wMx 5 7 8 9 11 _);rw [qE s,lv];refine zn.s (z:=none) ?_;refine dr ?_;trivial
 have hs:=Zk W0 { w with holds:=w.holds.set 1 (zX (hdW w 1) p n),floors:=w.floors.set 1 (zJ (flW w 1) n) } ⟨4,1,⟨p,false,noE,n,0⟩⟩ hn;have fr:XB.row ((w.floors.map CI).set 1 (CI (max (flW w 1) n))) 1 3 = .row ((w.floors.set 1 (zJ (flW w 1) n)).map CI) 1 3:=by
  rw [show zJ (flW w 1) n=max (flW w 1) n by unfold zJ; split<;>omega,set1]
 have fb:∀ k,XB.box [.c (za w.over.base),.c (zA w.over.layers),.c (ze w.over.upper),I w.clock,I w.count,.own 5 w.leases.length,.own 6 3,.own 10 w.floors.length,.own k w.net.length,B w.waits,I w.op.kind,.c (CS w.op.path),.c (CS w.op.dest),.c (CS w.op.data)] =
   .box [.c (za w.over.base),.c (zA w.over.layers),.c (ze w.over.upper),I w.clock,I w.count,.own 5 w.leases.length,.own 6 3,.own 10 (w.floors.set 1 (zJ (flW w 1) n)).length,.own k w.net.length,B w.waits,I w.op.kind,.c (CS w.op.path),.c (CS w.op.dest),.c (CS w.op.data)]:=fun k=>by rw [List.length_set]
 rintro b _;cases b with
 | true =>
  refine dEr ?_;repeat ((first|refine oB (by rw [f3]; decide) ?_|refine aFl hw f3 ?_); first|refine dEr ?_|exact dz)
  refine oW (hs.swp 8 1616) rfl ⟨congrArg some (fb 11),rfl,rfl,rfl,rfl,rfl,congrArg some fr,rfl,trivial⟩ rfl rfl ⟨(),trivial⟩ fun _ _=>⟨rfl,?_⟩
  refine dEr ?_;refine ⟨none,_,_,?_,true,trivial,rfl,rfl⟩;refine dr ?_;trivial
 | false =>
  refine dEr ?_;repeat ((first|refine oB (by rw [f3]; decide) ?_|refine aFl hw f3 ?_); first|refine dEr ?_|exact dz)
  refine oW hs rfl ⟨congrArg some (fb 11),rfl,rfl,rfl,rfl,rfl,congrArg some fr,rfl,trivial⟩ rfl rfl ⟨(),trivial⟩ fun _ _=>⟨rfl,?_⟩
  refine dEr ?_;refine ⟨none,_,_,?_,false,trivial,rfl,rfl⟩;refine dr ?_;trivial
def zn5:XC:=(.cut (.s (.r [.mv 9 0,.k1 10 9,.f1 11 6 10,.l1 12 1 11,.mv 13 1,.i1 14 1 12 13,.l1 15 1 14,.mv 16 2,.c1 17 55 [15,16],.mv 8 17]) (.s (.r [.mv 18 8,.b1 19 .geq 18 (.i 0),.mv 20 19,.g3 21 0 20,.gt 22 (.nck 21) 20,.g1 23 6 22 20,.g2 24 1 23 20,.g3 25 1 20,.gt 26 (.ia 1 24 25) 20,.g2 27 1 26 20,.g3 28 8 20,.gt 29 (.ia 7 27 28) 20,.g1 30 5 29 20,.g2 31 1 30 20,.g3 32 3 20,.gt 33 (.bin .leq 31 32) 20,.p2 34 20 33]) (.cnd 34 (.d [.mv 35 0,.k1 36 35,.f1 37 6 36,.exo [9,1616] 38 (.ld false 1 37),.mv 39 1,.mv 40 0,.k1 41 40,.f1 42 6 41,.exo [9,1616] 43 (.ld false 1 42),.mv 44 1,.exo [9,1616] 45 (.ia 1 43 44),.exo [9,1616] 46 (.ld false 1 45),.mv 47 8,.mv 48 8,.b1 49 .add 48 (.i 1),.exo [9,1616] 50 (.opn 161 [46,47,49]),.exo [9,1616] 51 (.ia 1 38 39),.s1 1 51 50]) .skip))) (.s (.d [.mv 52 0,.k1 53 52,.f1 54 7 53,.l1 55 1 54,.mv 56 1,.mv 57 0,.k1 58 57,.f1 59 7 58,.l1 60 1 59,.mv 61 1,.i1 62 1 60 61,.l1 63 1 62,.mv 64 3,.ex 65 (.mm true 63 64),.i1 66 1 55 56,.s1 1 66 65]) (.r [.mv 67 0,.mv 68 1,.mv 69 2,.mv 70 3,.ex 71 (.build [sE,(B false),sE,(B false),sE,(I 0),(I 0)] [(0,(1,69)),(5,(1,70))]),.ex 72 (.build [(I 0),(I 0),sE,(B false),sE,(B false),sE,(I 0),(I 0)] [(0,(1,(.i 4))),(1,(1,68)),(2,(7,71))]),.o1 73 50 [67,72]])))
theorem zn6:zc Tryz.prog [50,161,1000009,1001616] 110=some (zn5.ac,[],74):=by kernel_rfl
theorem zpg (W0:World) (w:Wld) (p:Str) (n:Int) (h:WG w) (hz:HZ 1000000 w):zx Tryz.prog W0 110 [.ptr 4 0,I 2,.c (CS p),.c (CI n)] (wMp w) (fun _:Bool=>True) (fun _ => .tup []) (fun b=>wM2 b (zP { w with holds:=w.holds.set 2 (zX (hdW w 2) p n),floors:=w.floors.set 2 (zJ (flW w 2) n) } ⟨4,2,⟨p,false,noE,n,0⟩⟩)):=by
 have hw:isW 2:=⟨by omega,by omega⟩;have f3:=h.pl.fl;have hn:w.net.length≤1000:=by have:=h.pl.nl; omega
 have s:=@zhU w (zX (hdW w 2) p n) w.floors h.pl.hl;have hd:(hdW w 2).Pairwise fun a b=>a.path≠b.path:=(h.hd 2 (by omega)).d
 have hlen:(hdW w 2).length≤1000000:=y6 hz 2;have ht:=zcD hd (p:=p) (n:=n);have hcs:=y5 (hdW w 2) p;have hha:=ZH W0 (hdW w 2) p;refine fW mixed zn6 fun hg=>?_
 refine cuts (σ:=Bool) (fun _=>[(0,.ptr 4 0),(1,I 2),(2,.c (CS p)),(3,.c (CI n))]) (fun b=>wM2 b { w with holds:=w.holds.set 2 (zX (hdW w 2) p n) }) (fun _=>True) ?_ ?_
 ·refine dEr ?_;repeat ((first|refine oB (by decide) ?_|refine c0 hha rfl ?_); first|refine dEr ?_|exact dz)
  rcases hcs with ⟨e1,e2⟩ | ⟨j,hj,e1,e2,e3⟩
  ·have lv:=ht.2 (fun j hj e=>by rw [e1] at e; omega);rw [e1];apply cP<;>intro c3
   ·omega
   refine dr ?_;refine ⟨false,trivial,?_⟩;show zn _ _ _ _ _ (wMx 5 7 8 9 11 _);rw [qE s,lv];refine zn.s (z:=none) ?_;refine dr ?_;trivial
  rw [e1];apply cP<;>intro c3;rotate_left
  ·omega
  refine dr ?_;repeat (refine oB (by decide) ?_; first|refine dr ?_|exact dz)
  apply cP<;>intro c4
  ·have lv:=ht.1 j hj e1 c4;refine dr ?_;repeat (refine oB (by decide) ?_; first|refine dr ?_|exact dz)
   refine oW (Qb W0 (hdW w 2) j hj 9 1616 (by decide) hlen) rfl ⟨rfl,trivial⟩ rfl rfl ⟨(),trivial⟩ fun _ _=>⟨rfl,?_⟩
   refine dEr ?_;repeat (refine oB (by decide) ?_; first|refine dEr ?_|exact dz)
   refine ⟨true,trivial,?_⟩;show zn _ _ _ _ _ (_::wMx 5 7 8 1616 11 _);rw [qE s,lv];refine zn.s (z:=none) ?_;refine dr ?_;repeat (refine oB (by simp [List.length_eraseIdx,hj]) ?_; first|refine dr ?_|exact dz)
   trivial
  ·have lv:zX (hdW w 2) p n=hdW w 2:=by
    refine ht.2 fun i hi e=>?_
    have hij:i=j:=by omega
    subst hij;exact c4
   refine dr ?_;refine ⟨false,trivial,?_⟩;show zn _ _ _ _ _ (wMx 5 7 8 9 11 _);rw [qE s,lv];refine zn.s (z:=none) ?_;refine dr ?_;trivial
 have hs:=Zk W0 { w with holds:=w.holds.set 2 (zX (hdW w 2) p n),floors:=w.floors.set 2 (zJ (flW w 2) n) } ⟨4,2,⟨p,false,noE,n,0⟩⟩ hn;have fr:XB.row ((w.floors.map CI).set 2 (CI (max (flW w 2) n))) 1 3 = .row ((w.floors.set 2 (zJ (flW w 2) n)).map CI) 1 3:=by
  rw [show zJ (flW w 2) n=max (flW w 2) n by unfold zJ; split<;>omega,set1]
 have fb:∀ k,XB.box [.c (za w.over.base),.c (zA w.over.layers),.c (ze w.over.upper),I w.clock,I w.count,.own 5 w.leases.length,.own 6 3,.own 10 w.floors.length,.own k w.net.length,B w.waits,I w.op.kind,.c (CS w.op.path),.c (CS w.op.dest),.c (CS w.op.data)] =
   .box [.c (za w.over.base),.c (zA w.over.layers),.c (ze w.over.upper),I w.clock,I w.count,.own 5 w.leases.length,.own 6 3,.own 10 (w.floors.set 2 (zJ (flW w 2) n)).length,.own k w.net.length,B w.waits,I w.op.kind,.c (CS w.op.path),.c (CS w.op.dest),.c (CS w.op.data)]:=fun k=>by rw [List.length_set]
 rintro b _;cases b with
 | true =>
  refine dEr ?_;repeat ((first|refine oB (by rw [f3]; decide) ?_|refine aFl hw f3 ?_); first|refine dEr ?_|exact dz)
  refine oW (hs.swp 9 1616) rfl ⟨congrArg some (fb 11),rfl,rfl,rfl,rfl,rfl,congrArg some fr,rfl,trivial⟩ rfl rfl ⟨(),trivial⟩ fun _ _=>⟨rfl,?_⟩
  refine dEr ?_;refine ⟨none,_,_,?_,true,trivial,rfl,rfl⟩;refine dr ?_;trivial
 | false =>
  refine dEr ?_;repeat ((first|refine oB (by rw [f3]; decide) ?_|refine aFl hw f3 ?_); first|refine dEr ?_|exact dz)
  refine oW hs rfl ⟨congrArg some (fb 11),rfl,rfl,rfl,rfl,rfl,congrArg some fr,rfl,trivial⟩ rfl rfl ⟨(),trivial⟩ fun _ _=>⟨rfl,?_⟩
  refine dEr ?_;refine ⟨none,_,_,?_,false,trivial,rfl,rfl⟩;refine dr ?_;trivial

inductive Dv where
 | o
 | n
 | l
 | a
 | b
 | c
abbrev wMv (d:Dv) (w:Wld):XM:=match d with
 | .o=>wMp w
 | .n=>(11,.dead 9 67)::wMx 5 7 8 9 1632 w
 | .l=>(11,.dead 9 67)::(5,.dead 4 59)::wMx 1600 7 8 9 1632 w
 | .a=>(11,.dead 9 67)::(7,.dead 7 48)::wMx 5 1616 8 9 1632 w
 | .b=>(11,.dead 9 67)::(8,.dead 7 48)::wMx 5 7 1616 9 1632 w
 | .c=>(11,.dead 9 67)::(9,.dead 7 48)::wMx 5 7 8 1616 1632 w
def znT:XC:=(.s (.r [.m1 6 (.i 0)]) (.s (.s (.r [.mv 8 2,.b1 9 .lss 8 (.i 0),.mv 10 9,.h3 11 2 10,.h3 12 0 10,.gf 13 (.nck 12) 10,.h1 14 8 13 10,.h2 15 1 14 10,.gf 16 (.len false 15) 10,.gf 17 (.bin .geq 11 16) 10,.p1 18 10 17]) (.cnd 18 (.s (.r [.m1 6 (.i 22)]) .ret) .skip)) (.s (.r [.mv 19 0,.k1 20 19,.f1 21 8 20,.l1 22 1 21,.mv 23 2,.i1 24 9 22 23,.l2 25 9 24,.ex 7 (.alloc [(I 0),(I 0),sE,(B false),sE,(B false),sE,(I 0),(I 0)]),.s1 9 7 25]) (.s (.s (.r [.mv 26 1,.b1 27 .eql 26 (.i 7)]) (.cnd 27 (.s (.r [.mv 28 0,.l2 29 9 7,.o1 30 50 [28,29]]) (.s (.r [.m1 6 (.i 0)]) .ret)) .skip)) (.s (.r [.mv 31 0,.mv 32 0,.k1 33 32,.f1 34 8 33,.l1 35 1 34,.mv 36 2,.mv 37 2,.b1 38 .add 37 (.i 1),.o1 39 107 [35,36,38],.k1 40 31,.f1 41 8 40,.s1 1 41 39]) (.s (.s (.r [.mv 42 1,.b1 43 .eql 42 (.i 6)]) (.cnd 43 (.s (.r [.m1 6 (.i 0)]) .ret) .skip)) (.s (.s (.r [.f1 44 0 7,.l1 45 1 44]) (.blk 0 (.s (.r [.b1 47 .eql 45 (.i 1),.mv 46 47]) (.cnd 46 (.r [.mv 48 0,.f1 49 1 7,.l1 50 1 49,.f1 51 2 7,.f1 52 0 51,.l1 53 1 52,.o1 54 108 [48,50,53]]) (.s (.r [.b1 56 .eql 45 (.i 2),.mv 55 56]) (.cnd 55 (.r [.mv 57 0,.f1 58 1 7,.l1 59 1 58,.f1 60 2 7,.l2 61 7 60,.o1 62 109 [57,59,61]]) (.s (.r [.b1 64 .eql 45 (.i 3),.mv 63 64]) (.cnd 63 (.r [.mv 65 0,.f1 66 1 7,.l1 67 1 66,.f1 68 2 7,.f1 69 0 68,.l1 70 1 69,.f1 71 2 7,.f1 72 5 71,.l1 73 1 72,.o1 74 110 [65,67,70,73]]) (.s (.r [.b1 76 .eql 45 (.i 4),.mv 75 76]) (.cnd 75 (.r [.mv 77 0,.f1 78 1 7,.l1 79 1 78,.f1 80 2 7,.f1 81 0 80,.l1 82 1 81,.f1 83 2 7,.f1 84 5 83,.l1 85 1 84,.o1 86 111 [77,79,82,85]]) .skip)))))))))) (.s (.r [.m1 6 (.i 0)]) .ret))))))))
theorem znU:zc Tryz.prog [50,107,108,109,110,111] 54=some (znT.ac,[(.t 6)],87):=by kernel_rfl
set_option maxHeartbeats 2000000 in
theorem zbZ (W0:World) (hM:HM W0) (w:Wld) (ek pos:Int) (h:WG w) (hz:HZ 1000000 w) (hk:5≤ek∧ek≤7):zx Tryz.prog W0 54 [.ptr 4 0,.c (CI ek),.c (CI pos)] (wMp w) (fun _:Dv=>True) (fun _ => .c (CI (netW w ⟨ek,0,[],zO,pos⟩).2)) (fun d=>wMv d (netW w ⟨ek,0,[],zO,pos⟩).1):=by
 refine fW mixed znU fun hg=>?_
 have hn:w.net.length≤1000:=by have:=h.pl.nl; omega
 have hw:netW w ⟨ek,0,[],zO,pos⟩=if pos < 0∨(w.net.length:Int)≤pos then (w,22)
  else if ek=7 then (zP w (w.net.getD pos.toNat noMs),0)
  else if ek=5 then (zy { w with net:=w.net.eraseIdx pos.toNat } (w.net.getD pos.toNat noMs),0)
  else ({ w with net:=w.net.eraseIdx pos.toNat },0):=rfl
 rw [hw];refine dr ?_;apply cP<;>intro h1
 ·rw [if_pos (.inl h1)];refine dr ?_;refine ⟨none,_,_,?_,.o,trivial,rfl,rfl⟩;refine dr ?_;trivial
 refine dr ?_;apply cP<;>intro h2
 ·rw [if_pos (.inr h2)];refine dr ?_;refine ⟨none,_,_,?_,.o,trivial,rfl,rfl⟩;refine dr ?_;trivial
 have h1':0≤pos:=h1;have h2':pos < (w.net.length:Int):=h2;rw [if_neg (by omega)];obtain ⟨k,rfl⟩:∃ k:Nat,pos=(k:Int):=⟨pos.toNat,by omega⟩;have hk':k < w.net.length:=by omega
 have hgd:w.net.getD (k:Int).toNat noMs=w.net[k]:=by rw [Int.toNat_natCast,List.getD_eq_getElem?_getD,List.getElem?_eq_getElem hk']; rfl
 rw [hgd,Int.toNat_natCast];have hms:=h.ms _ (List.getElem_mem hk');refine dr ?_;apply cP<;>intro h3
 ·have h3':ek=7:=h3;rw [if_pos h3'];refine dr ?_;refine oW (Zk W0 w w.net[k] hn) rfl ⟨rfl,rfl,rfl,rfl,rfl,rfl,rfl,rfl,trivial⟩ rfl rfl ⟨(),trivial⟩ fun _ _=>⟨rfl,?_⟩
  refine dEr ?_;refine ⟨none,_,_,?_,.o,trivial,rfl,rfl⟩;refine dr ?_;trivial
 have h3':ek≠7:=h3;rw [if_neg h3'];refine dr ?_;refine oW (zoJ W0 w.net k hk' 11 1632 (by decide) (by omega)) rfl ⟨rfl,trivial⟩ rfl rfl ⟨(),trivial⟩ fun _ _=>⟨rfl,?_⟩
 refine dEr ?_;apply cP<;>intro h4
 ·have h4':ek≠5:=by have:ek=6:=h4; omega
  rw [if_neg h4'];refine dr ?_;refine ⟨none,_,_,?_,.n,trivial,rfl,rfl⟩;refine dr ?_;repeat (refine oB (by simp [List.length_eraseIdx,hk']) ?_; first|refine dr ?_|exact dz)
  trivial
 have h4':ek=5:=by have:ek≠6:=h4; omega
 rw [if_pos h4'];have h1w:WG { w with net:=w.net.eraseIdx k }:=h.lose k;have hz1:HZ 1000000 { w with net:=w.net.eraseIdx k }:=⟨hz.l,hz.h⟩;have bx:XB.box [.c (za w.over.base),.c (zA w.over.layers),.c (ze w.over.upper),I w.clock,I w.count,.own 5 w.leases.length,.own 6 3,.own 10 w.floors.length,.own 1632 (w.net.length - 1),B w.waits,I w.op.kind,.c (CS w.op.path),.c (CS w.op.dest),.c (CS w.op.data)] = .box (wCx 5 1632 { w with net:=w.net.eraseIdx k }):=by
  show _=XB.box [.c (za w.over.base),.c (zA w.over.layers),.c (ze w.over.upper),I w.clock,I w.count,.own 5 w.leases.length,.own 6 3,.own 10 w.floors.length,.own 1632 (w.net.eraseIdx k).length,B w.waits,I w.op.kind,.c (CS w.op.path),.c (CS w.op.dest),.c (CS w.op.data)];rw [List.length_eraseIdx,if_pos hk']
 generalize w.net[k]=m at *;obtain ⟨mk,mw,mh⟩:=m;have hmw:mw=0∨mw=1∨mw=2:=by have h1:=hms.who.1; have h2:=hms.who.2; simp only at h1 h2; omega
 refine dr ?_;apply cP<;>intro k1
 ·have k1:mk=1:=k1;rw [show zy { w with net:=w.net.eraseIdx k } ⟨mk,mw,mh⟩=ye { w with net:=w.net.eraseIdx k } mw mh.path by unfold zy; rw [if_pos k1]];refine dr ?_;refine oW ((zo9 W0 hM { w with net:=w.net.eraseIdx k } mw mh.path h1w hz1.l).swp 11 1632) rfl ⟨congrArg some bx,rfl,rfl,rfl,rfl,rfl,rfl,rfl,trivial⟩ rfl rfl ⟨false,trivial⟩ fun b _=>?_
  cases b with
  | true =>
   refine ⟨rfl,?_⟩;refine dEr ?_;refine ⟨none,_,_,?_,.l,trivial,rfl,rfl⟩;refine dr ?_;trivial
  | false =>
   refine ⟨rfl,?_⟩;refine dEr ?_;refine ⟨none,_,_,?_,.n,trivial,rfl,rfl⟩;refine dr ?_;trivial
 have k1:mk≠1:=k1;refine dr ?_;apply cP<;>intro k2
 ·have k2:mk=2:=k2;rcases hmw with rfl|rfl|rfl
  ·rw [show zy { w with net:=w.net.eraseIdx k } ⟨mk,0,mh⟩=(if w.clock < mh.til∧flW { w with net:=w.net.eraseIdx k } 0 < mh.num then { w with net:=w.net.eraseIdx k,holds:=w.holds.set 0 (z8 (hdW { w with net:=w.net.eraseIdx k } 0) mh) } else { w with net:=w.net.eraseIdx k }) by unfold zy; rw [if_neg k1,if_pos k2]; rfl];refine dr ?_;refine oW ((zpb W0 { w with net:=w.net.eraseIdx k } mh h1w hz1).swp 11 1632) rfl ⟨congrArg some bx,rfl,rfl,rfl,rfl,rfl,rfl,rfl,trivial⟩ rfl rfl ⟨false,trivial⟩ fun b _=>?_
   cases b with
   | true =>
    refine ⟨rfl,?_⟩;refine dEr ?_;refine ⟨none,_,_,?_,.a,trivial,rfl,rfl⟩;refine dr ?_;trivial
   | false =>
    refine ⟨rfl,?_⟩;refine dEr ?_;refine ⟨none,_,_,?_,.n,trivial,rfl,rfl⟩;refine dr ?_;trivial
  ·rw [show zy { w with net:=w.net.eraseIdx k } ⟨mk,1,mh⟩=(if w.clock < mh.til∧flW { w with net:=w.net.eraseIdx k } 1 < mh.num then { w with net:=w.net.eraseIdx k,holds:=w.holds.set 1 (z8 (hdW { w with net:=w.net.eraseIdx k } 1) mh) } else { w with net:=w.net.eraseIdx k }) by unfold zy; rw [if_neg k1,if_pos k2]; rfl];refine dr ?_;refine oW ((zpc W0 { w with net:=w.net.eraseIdx k } mh h1w hz1).swp 11 1632) rfl ⟨congrArg some bx,rfl,rfl,rfl,rfl,rfl,rfl,rfl,trivial⟩ rfl rfl ⟨false,trivial⟩ fun b _=>?_
   cases b with
   | true =>
    refine ⟨rfl,?_⟩;refine dEr ?_;refine ⟨none,_,_,?_,.b,trivial,rfl,rfl⟩;refine dr ?_;trivial
   | false =>
    refine ⟨rfl,?_⟩;refine dEr ?_;refine ⟨none,_,_,?_,.n,trivial,rfl,rfl⟩;refine dr ?_;trivial
  ·rw [show zy { w with net:=w.net.eraseIdx k } ⟨mk,2,mh⟩=(if w.clock < mh.til∧flW { w with net:=w.net.eraseIdx k } 2 < mh.num then { w with net:=w.net.eraseIdx k,holds:=w.holds.set 2 (z8 (hdW { w with net:=w.net.eraseIdx k } 2) mh) } else { w with net:=w.net.eraseIdx k }) by unfold zy; rw [if_neg k1,if_pos k2]; rfl];refine dr ?_;refine oW ((zpd W0 { w with net:=w.net.eraseIdx k } mh h1w hz1).swp 11 1632) rfl ⟨congrArg some bx,rfl,rfl,rfl,rfl,rfl,rfl,rfl,trivial⟩ rfl rfl ⟨false,trivial⟩ fun b _=>?_
   cases b with
   | true =>
    refine ⟨rfl,?_⟩;refine dEr ?_;refine ⟨none,_,_,?_,.c,trivial,rfl,rfl⟩;refine dr ?_;trivial
   | false =>
    refine ⟨rfl,?_⟩;refine dEr ?_;refine ⟨none,_,_,?_,.n,trivial,rfl,rfl⟩;refine dr ?_;trivial
 have k2:mk≠2:=k2;have hpl:mh=JR mh:=hms.plain k2;refine dr ?_;apply cP<;>intro k3
 ·have k3:mk=3:=k3;rcases hmw with rfl|rfl|rfl
  ·rw [show zy { w with net:=w.net.eraseIdx k } ⟨mk,0,mh⟩=zP { w with net:=w.net.eraseIdx k,holds:=w.holds.set 0 (zX (hdW { w with net:=w.net.eraseIdx k } 0) mh.path mh.num),floors:=w.floors.set 0 (zJ (flW { w with net:=w.net.eraseIdx k } 0) mh.num) } ⟨4,0,⟨mh.path,false,noE,mh.num,0⟩⟩ by unfold zy; rw [if_neg k1,if_neg k2,if_pos k3]; exact congrArg (fun y=>zP _ ⟨4,0,y⟩) hpl];refine dr ?_;refine oW ((zpe W0 { w with net:=w.net.eraseIdx k } mh.path mh.num h1w hz1).swp 11 1632) rfl ⟨congrArg some bx,rfl,rfl,rfl,rfl,rfl,rfl,rfl,trivial⟩ rfl rfl ⟨false,trivial⟩ fun b _=>?_
   cases b with
   | true =>
    refine ⟨rfl,?_⟩;refine dEr ?_;refine ⟨none,_,_,?_,.a,trivial,rfl,rfl⟩;refine dr ?_;trivial
   | false =>
    refine ⟨rfl,?_⟩;refine dEr ?_;refine ⟨none,_,_,?_,.n,trivial,rfl,rfl⟩;refine dr ?_;trivial
  ·rw [show zy { w with net:=w.net.eraseIdx k } ⟨mk,1,mh⟩=zP { w with net:=w.net.eraseIdx k,holds:=w.holds.set 1 (zX (hdW { w with net:=w.net.eraseIdx k } 1) mh.path mh.num),floors:=w.floors.set 1 (zJ (flW { w with net:=w.net.eraseIdx k } 1) mh.num) } ⟨4,1,⟨mh.path,false,noE,mh.num,0⟩⟩ by unfold zy; rw [if_neg k1,if_neg k2,if_pos k3]; exact congrArg (fun y=>zP _ ⟨4,1,y⟩) hpl];refine dr ?_;refine oW ((zpf W0 { w with net:=w.net.eraseIdx k } mh.path mh.num h1w hz1).swp 11 1632) rfl ⟨congrArg some bx,rfl,rfl,rfl,rfl,rfl,rfl,rfl,trivial⟩ rfl rfl ⟨false,trivial⟩ fun b _=>?_
   cases b with
   | true =>
    refine ⟨rfl,?_⟩;refine dEr ?_;refine ⟨none,_,_,?_,.b,trivial,rfl,rfl⟩;refine dr ?_;trivial
   | false =>
    refine ⟨rfl,?_⟩;refine dEr ?_;refine ⟨none,_,_,?_,.n,trivial,rfl,rfl⟩;refine dr ?_;trivial
  ·rw [show zy { w with net:=w.net.eraseIdx k } ⟨mk,2,mh⟩=zP { w with net:=w.net.eraseIdx k,holds:=w.holds.set 2 (zX (hdW { w with net:=w.net.eraseIdx k } 2) mh.path mh.num),floors:=w.floors.set 2 (zJ (flW { w with net:=w.net.eraseIdx k } 2) mh.num) } ⟨4,2,⟨mh.path,false,noE,mh.num,0⟩⟩ by unfold zy; rw [if_neg k1,if_neg k2,if_pos k3]; exact congrArg (fun y=>zP _ ⟨4,2,y⟩) hpl];refine dr ?_;refine oW ((zpg W0 { w with net:=w.net.eraseIdx k } mh.path mh.num h1w hz1).swp 11 1632) rfl ⟨congrArg some bx,rfl,rfl,rfl,rfl,rfl,rfl,rfl,trivial⟩ rfl rfl ⟨false,trivial⟩ fun b _=>?_
   cases b with
   | true =>
    refine ⟨rfl,?_⟩;refine dEr ?_;refine ⟨none,_,_,?_,.c,trivial,rfl,rfl⟩;refine dr ?_;trivial
   | false =>
    refine ⟨rfl,?_⟩;refine dEr ?_;refine ⟨none,_,_,?_,.n,trivial,rfl,rfl⟩;refine dr ?_;trivial
 have k3:mk≠3:=k3;refine dr ?_;apply cP<;>intro k4
 ·have k4:mk=4:=k4;rw [show zy { w with net:=w.net.eraseIdx k } ⟨mk,mw,mh⟩={ w with net:=w.net.eraseIdx k,leases:=je w.leases mw mh.path mh.num } by unfold zy; rw [if_neg k1,if_neg k2,if_neg k3,if_pos k4]];refine dr ?_;refine oW ((zpa W0 { w with net:=w.net.eraseIdx k } mw mh.path mh.num h1w hz1.l).swp 11 1632) rfl ⟨congrArg some bx,rfl,rfl,rfl,rfl,rfl,rfl,rfl,trivial⟩ rfl rfl ⟨false,trivial⟩ fun b _=>?_
  cases b with
  | true =>
   refine ⟨rfl,?_⟩;refine dEr ?_;refine ⟨none,_,_,?_,.l,trivial,rfl,rfl⟩;refine dr ?_;trivial
  | false =>
   refine ⟨rfl,?_⟩;refine dEr ?_;refine ⟨none,_,_,?_,.n,trivial,rfl,rfl⟩;refine dr ?_;trivial
 ·have k4:mk≠4:=k4;have h1:=hms.kind.1;have h2:=hms.kind.2;simp only at h1 h2;omega

def zjA:XC:=(.s (.r [.x1 1 0,.ex 2 (.alloc zW)]) (.s (.r [.l2 6 14 1,.ex 3 (.alloc zW),.s1 14 3 6]) (.s (.r [.f1 7 0 1,.l2 8 3 7,.c1 9 102 [8],.f1 10 0 3,.s1 3 10 9]) (.s (.r [.f1 11 5 1,.l1 12 1 11,.ex 13 (.app true 4 40 59 (.k .nil) 12),.f1 14 5 3,.s1 1 14 13]) (.s (.r [.f1 15 6 3,.nu (.st 1 15 (.k .nil))]) (.s (.s (.r [.f1 16 6 1,.l1 17 1 16,.n1 18 17,.m1 19 (.i 0)]) (.blk 0 (.loop (.s (.r [.b1 20 .lss 19 18]) (.s (.ce 20 0) (.s (.blk 1 (.s (.r [.i1 21 1 17 19,.l1 22 1 21,.a1 5 22 7 48]) (.d [.f1 23 6 3,.l1 24 1 23,.mv 25 5,.ex 26 (.app true 7 80 48 (.k .nil) 25),.ex 27 (.bsl 1 44 [26]),.ex 28 (.app false 1 24 44 24 27),.f1 29 6 3,.s1 1 29 28]))) (.r [.b1 30 .add 19 (.i 1),.mv 19 30]))))))) (.s (.r [.f1 31 7 1,.l1 32 1 31,.ex 33 (.app true 1 8 3 (.k .nil) 32),.f1 34 7 3,.s1 1 34 33]) (.s (.r [.f1 35 8 1,.l1 36 1 35,.ex 37 (.app true 9 96 67 (.k .nil) 36),.f1 38 8 3,.s1 1 38 37]) (.s (.r [.l2 39 14 3,.s1 14 2 39]) .ret)))))))))
theorem zjB:zc Tryz.prog [] 48=some (zjA.ac,[(.cell 2 true 14)],40):=by kernel_rfl
abbrev cwB (w:Wld) (x:PV):XB := .box [.c (za w.over.base),.c (zA w.over.layers),.c (ze w.over.upper),I w.clock,I w.count,.own 208 w.leases.length,x,.c (jQ w.floors),.c (jK w.net),B w.waits,I w.op.kind,.c (CS w.op.path),.c (CS w.op.dest),.c (CS w.op.data)]
abbrev cwM (w:Wld) (k:Nat):XM:=match k with
 | 0=>[(16,wBx w),(32,zWB),(48,cwB w .nil),(208,.row (w.leases.map jw) 4 59)]
 | 1=>[(16,wBx w),(32,zWB),(48,cwB w (.own 6 1)),(208,.row (w.leases.map jw) 4 59),(6,.rowP [.own 7 (hdW w 0).length] 44),(7,.row ((hdW w 0).map zG) 7 48)]
 | 2=>[(16,wBx w),(32,zWB),(48,cwB w (.own 6 2)),(208,.row (w.leases.map jw) 4 59),(6,.rowP [.own 7 (hdW w 0).length,.own 8 (hdW w 1).length] 44),(7,.row ((hdW w 0).map zG) 7 48),(8,.row ((hdW w 1).map zG) 7 48)]
 | _=>[(16,wBx w),(32,zWB),(48,cwB w (.own 6 3)),(208,.row (w.leases.map jw) 4 59),(6,.rowP [.own 7 (hdW w 0).length,.own 8 (hdW w 1).length,.own 9 (hdW w 2).length] 44),(7,.row ((hdW w 0).map zG) 7 48),(8,.row ((hdW w 1).map zG) 7 48),(9,.row ((hdW w 2).map zG) 7 48)]
theorem zo7 (W0:World) (w:Wld) (h3:w.holds.length=3) (hz:WZ 1000000 w):zx Tryz.prog W0 48 [.c (eWldP w)] [] (fun _:Unit=>True) (fun _ => .agg [.c (za w.over.base),.c (zA w.over.layers),.c (ze w.over.upper),I w.clock,I w.count,.own 208 w.leases.length,.own 6 3,.own 528 w.floors.length,.own 592 w.net.length,B w.waits,I w.op.kind,.c (CS w.op.path),.c (CS w.op.dest),.c (CS w.op.data)])
  (fun _=>[(208,.row (w.leases.map jw) 4 59),(6,.rowP [.own 7 (hdW w 0).length,.own 8 (hdW w 1).length,.own 9 (hdW w 2).length] 44),(7,.row ((hdW w 0).map zG) 7 48),(8,.row ((hdW w 1).map zG) 7 48),(9,.row ((hdW w 2).map zG) 7 48),(528,.row (w.floors.map CI) 1 3),(592,.row (w.net.map eMsg) 9 67)]):=by
 rw [Y9 h3];refine fW mixed zjB fun hg=>?_
 obtain ⟨hzo,hzh,_,hf,hn⟩:=hz;have hl:=hzh.l;have l0:=y6 hzh 0;have l1:=y6 hzh 1;have l2:=y6 hzh 2;have e17:PV.c (jB w.holds) = .c (.row [zf (hdW w 0),zf (hdW w 1),zf (hdW w 2)]):=congrArg (fun l=>PV.c (jB l)) (holds3 h3);have e18:I (w.holds.length:Int)=I 3:=by rw [h3]; rfl
 refine dEr ?_;repeat ((first|refine c0 (zep W0 _ (hzo.mono (by omega))) rfl ?_|refine oB (by simp; omega) ?_|refine oB (by simp) ?_); first|refine dEr ?_|exact dz)
 refine lq (σ:=Nat) (fun k=>[(1,.ptr 16 0),(2,.ptr 32 0),(3,.ptr 48 0),(17,.c (.row [zf (hdW w 0),zf (hdW w 1),zf (hdW w 2)])),(18,I 3),(19,I k)]) (fun k=>cwM w k) (fun k=>k≤3) (fun k=>3 - k) 0 (by simp) ?_ ?_
 ·refine zn.s (z:=none) ?_;refine dr ?_;repeat (refine oB (by first|exact e17|exact e18) ?_; first|refine dr ?_|exact dz)
  trivial
 intro k hk;obtain rfl|rfl|rfl|rfl:k=0∨k=1∨k=2∨k=3:=by omega
 ·refine dr ?_;apply cP<;>intro h1;rotate_left
  ·omega
  refine dr ?_;repeat ((first|refine ⟨0,rfl,_,rfl,?_⟩|refine oB (by simp; omega) ?_|refine oB (by simp) ?_|refine oB (by decide) ?_); first|refine dr ?_|exact dz)
  refine ⟨1,by omega,by omega,?_⟩;refine zj.ren 7 416 rfl rfl (z:=some 3) ?_;refine zj.ren 6 448 rfl rfl (z:=none) ?_;refine dr ?_;repeat (refine oB (by simp) ?_; first|refine dr ?_|exact dz)
  trivial
 ·refine dr ?_;apply cP<;>intro h1;rotate_left
  ·omega
  refine dr ?_;repeat ((first|refine ⟨1,rfl,_,rfl,?_⟩|refine oB (by simp; omega) ?_|refine oB (by simp) ?_|refine oB (by decide) ?_); first|refine dr ?_|exact dz)
  refine ⟨2,by omega,by omega,?_⟩;refine zj.ren 8 416 rfl rfl (z:=none) ?_;refine dr ?_;repeat (refine oB (by simp) ?_; first|refine dr ?_|exact dz)
  trivial
 ·refine dr ?_;apply cP<;>intro h1;rotate_left
  ·omega
  refine dr ?_;repeat ((first|refine ⟨2,rfl,_,rfl,?_⟩|refine oB (by simp; omega) ?_|refine oB (by simp) ?_|refine oB (by decide) ?_); first|refine dr ?_|exact dz)
  refine ⟨3,by omega,by omega,?_⟩;refine zj.ren 9 416 rfl rfl (z:=none) ?_;refine dr ?_;repeat (refine oB (by simp) ?_; first|refine dr ?_|exact dz)
  trivial
 ·refine dr ?_;apply cP<;>intro h1
  ·omega
  refine dr ?_;repeat ((first|refine oB (by simp; omega) ?_|refine oB (by simp) ?_); first|refine dr ?_|exact dz)
  refine ⟨none,_,_,?_,(),trivial,rfl,rfl⟩;refine dr ?_;repeat (refine oB (by simp) ?_; first|refine dr ?_|exact dz)
  trivial
theorem zo8 (W0:World) (w:Wld) (h3:w.holds.length=3) (hz:WZ 1000000 w):zx Tryz.prog W0 48 [.c (eWldP w)] [] (fun _:Unit=>True) (fun _ => .agg (wCx 5 11 w)) (fun _=>wRx w) :=
 (((zo7 W0 w h3 hz).swp 208 5).swp 528 10).swp 592 11
def zji:XC:=(.s (.r [.x1 2 0,.x1 3 1,.ex 4 (.alloc zW),.m1 5 (.i 0)]) (.s (.s (.r [.l2 10 14 2,.c1 11 28 [10],.u1 12 11]) (.cnd 12 (.s (.r [.ex 13 (.build zW []),.s1 14 4 13,.m1 5 (.i 1)]) .ret) .skip)) (.s (.r [.l2 14 14 2,.o1 15 48 [14],.ex 6 (.alloc zW),.s1 14 6 15]) (.s (.s (.r [.f1 16 0 3,.l1 17 1 16]) (.blk 0 (.s (.r [.b1 19 .eql 17 (.i 1),.mv 18 19]) (.cnd 18 (.s (.s (.r [.f1 20 1 3,.l1 21 1 20,.c1 22 49 [21],.u1 23 22,.mv 24 23,.h1 25 2 3 24,.h2 26 1 25 24,.gf 27 (.call 25 [26]) 24,.gf 28 (.un .not 27) 24,.p1 29 24 28]) (.cnd 29 (.s (.r [.l2 30 14 6,.s1 14 4 30,.m1 5 (.i 1)]) .ret) .skip)) (.s (.r [.f1 31 1 3,.l1 32 1 31,.f1 33 2 3,.l1 34 1 33,.ex 35 (.build [sE,(B false),sE,(B false),sE,(I 0),(I 0)] [(0,(1,34))]),.ex 36 (.build [(I 0),(I 0),sE,(B false),sE,(B false),sE,(I 0),(I 0)] [(0,(1,(.i 1))),(1,(1,32)),(2,(7,35))]),.o1 37 50 [6,36]]) (.s (.r [.l2 38 14 6,.s1 14 4 38,.m1 5 (.i 0)]) .ret))) (.s (.r [.b1 40 .eql 17 (.i 2),.mv 39 40]) (.cnd 39 (.s (.r [.f1 41 3 3,.l2 42 4 41,.o1 43 51 [6,42],.mv 7 43]) (.s (.r [.l2 44 14 6,.mv 45 7,.s1 14 4 44,.mv 5 45]) .ret)) (.s (.r [.b1 47 .eql 17 (.i 3),.mv 46 47]) (.cnd 46 (.s (.r [.o1 48 52 [6],.mv 8 48]) (.s (.r [.l2 49 14 6,.mv 50 8,.s1 14 4 49,.mv 5 50]) .ret)) (.s (.r [.b1 52 .eql 17 (.i 4),.mv 51 52]) (.cnd 51 (.s (.r [.o1 53 53 [6]]) (.s (.r [.l2 54 14 6,.s1 14 4 54,.m1 5 (.i 0)]) .ret)) (.s (.s (.r [.b1 56 .eql 17 (.i 5),.mv 55 56]) (.cnd 55 .skip (.s (.r [.b1 57 .eql 17 (.i 6),.mv 55 57]) (.cnd 55 .skip (.r [.b1 58 .eql 17 (.i 7),.mv 55 58]))))) (.cnd 55 (.s (.r [.f1 59 0 3,.l1 60 1 59,.f1 61 7 3,.l1 62 1 61,.o1 63 54 [6,60,62],.mv 9 63]) (.s (.r [.l2 64 14 6,.mv 65 9,.s1 14 4 64,.mv 5 65]) .ret)) .skip)))))))))))) (.s (.r [.l2 66 14 6,.s1 14 4 66,.m1 5 (.i 1)]) .ret)))))
theorem zjj:zc Tryz.prog [48,50,51,52,53,54] 16=some (zji.ac,[(.cell 4 true 14),(.t 5)],67):=by kernel_rfl
set_option maxHeartbeats 2000000 in
theorem ZI (W0:World) (hM:HM W0) (w:Wld) (ev:Ev) (hz:HZ 100000 w):Fn Tryz.prog W0 16 [zv w,eEv ev] (.c (.tup [zv (wDo w ev).1,CI (wDo w ev).2])) []:=by
 obtain ⟨ek,ew,ep,eo,pos⟩:=ev;show Fn _ _ _ [zv w,.agg [CI ek,CI ew,CS ep,CI eo.kind,CS eo.path,CS eo.dest,CS eo.data,CI pos]] _ _;refine fX mixed zjj fun hg=>?_
 refine dEr ?_;repeat (refine c0 (JF W0 hM w) rfl ?_; first|refine dEr ?_|exact dz)
 apply cP<;>intro h1
 ·refine dr ?_;unfold wDo; rw [if_neg h1]<;>rfl
 rw [Ze h1];have hx:=h1.ev ⟨ek,ew,ep,eo,pos⟩;rw [← Y9 hx.pl.hl];clear hx;have hcw:=zo8 W0 w h1.pl.hl (h1.wz (hz.mono (by omega)) (by omega));rw [Y9 h1.pl.hl] at hcw;have hn:w.net.length≤1000:=by have:=h1.pl.nl; omega
 have hz1:HZ 1000000 w:=hz.mono (by omega);refine dr ?_;refine oW hcw rfl trivial rfl rfl ⟨(),trivial⟩ fun _ _=>⟨rfl,?_⟩
 refine dEr ?_;apply cP<;>intro k1
 ·have k1:ek=1:=k1;refine dEr ?_;repeat (refine c0 (zag W0 _) rfl ?_; first|refine dEr ?_|exact dz)
  apply cP<;>intro a1
  ·have e:evW w ⟨ek,ew,ep,eo,pos⟩=(w,1):=by unfold evW; rw [if_pos k1,if_neg (fun hh=>a1 hh.1)]
   rw [e];refine dEr ?_;rfl
  refine dEr ?_;repeat (refine c0 (qS W0 hM _) rfl ?_; first|refine dEr ?_|exact dz)
  apply cP<;>intro a2
  ·have e:evW w ⟨ek,ew,ep,eo,pos⟩=(w,1):=by unfold evW; rw [if_pos k1,if_neg (fun hh=>by rw [hh.2] at a2; cases a2)]
   rw [e];refine dEr ?_;rfl
  have e:evW w ⟨ek,ew,ep,eo,pos⟩=(zP w ⟨1,ew,⟨ep,false,noE,0,0⟩⟩,0):=by unfold evW; rw [if_pos k1,if_pos ⟨a1,a2⟩]
  rw [e];refine dr ?_;refine oW ((Zk W0 w ⟨1,ew,⟨ep,false,noE,0,0⟩⟩ hn).swp 4 96) rfl ⟨rfl,rfl,rfl,rfl,rfl,rfl,rfl,rfl,trivial⟩ rfl rfl ⟨(),trivial⟩ fun _ _=>⟨rfl,?_⟩
  refine dEr ?_;rfl
 have k1:ek≠1:=k1;refine dr ?_;apply cP<;>intro k2
 ·have k2:ek=2:=k2;have e:evW w ⟨ek,ew,ep,eo,pos⟩=qz w eo:=by unfold evW; rw [if_neg k1,if_pos k2]
  rw [e];refine dr ?_;refine oW ((zqz W0 hM w eo h1 hz1.l).swp 4 96) rfl ⟨rfl,rfl,rfl,rfl,rfl,rfl,rfl,rfl,trivial⟩ rfl rfl ⟨(),trivial⟩ fun _ _=>⟨rfl,?_⟩
  refine dEr ?_;rfl
 have k2:ek≠2:=k2;refine dr ?_;apply cP<;>intro k3
 ·have k3:ek=3:=k3;have e:evW w ⟨ek,ew,ep,eo,pos⟩=tryW w:=by unfold evW; rw [if_neg k1,if_neg k2,if_pos k3]
  rw [e];refine dr ?_;refine oW ((zeT W0 hM w h1 hz1.l).swp 4 96) rfl ⟨rfl,rfl,rfl,rfl,rfl,rfl,rfl,rfl,trivial⟩ rfl rfl ⟨(),trivial⟩ fun _ _=>⟨rfl,?_⟩
  refine dEr ?_;rfl
 have k3:ek≠3:=k3;refine dr ?_;apply cP<;>intro k4
 ·have k4:ek=4:=k4;have e:evW w ⟨ek,ew,ep,eo,pos⟩=(yv w,0):=by unfold evW; rw [if_neg k1,if_neg k2,if_neg k3,if_pos k4]
  rw [e];refine dr ?_;refine oW ((zqx W0 w h1 hz1.l).swp 4 96) rfl ⟨rfl,rfl,rfl,rfl,rfl,rfl,rfl,rfl,trivial⟩ rfl rfl ⟨(),trivial⟩ fun _ _=>⟨rfl,?_⟩
  refine dEr ?_;rfl
 have k4:ek≠4:=k4;refine dr ?_;apply cP<;>intro k5
 ·have k5:ek=5:=k5;have e:evW w ⟨ek,ew,ep,eo,pos⟩=netW w ⟨ek,0,[],zO,pos⟩:=by unfold evW; rw [if_neg k1,if_neg k2,if_neg k3,if_neg k4,if_pos (show 5≤ek∧ek≤7 by omega)]; rfl
  rw [e];refine dr ?_;apply cP<;>intro kk;rotate_left
  ·exact absurd k5 kk
  refine dr ?_;refine oW ((zbZ W0 hM w ek pos h1 hz1 (by omega)).swp 4 96) rfl ⟨rfl,rfl,rfl,rfl,rfl,rfl,rfl,rfl,trivial⟩ rfl rfl ⟨.o,trivial⟩ fun d _=>?_
  cases d<;>refine ⟨rfl,?_⟩
  ·refine dEr ?_;rfl
  ·refine dEr ?_;rfl
  ·refine dEr ?_;rfl
  ·refine dEr ?_;rfl
  ·refine dEr ?_;rfl
  ·refine dEr ?_;rfl
 have k5:ek≠5:=k5;refine dr ?_;apply cP<;>intro k6
 ·have k6:ek=6:=k6;have e:evW w ⟨ek,ew,ep,eo,pos⟩=netW w ⟨ek,0,[],zO,pos⟩:=by unfold evW; rw [if_neg k1,if_neg k2,if_neg k3,if_neg k4,if_pos (show 5≤ek∧ek≤7 by omega)]; rfl
  rw [e];refine dr ?_;apply cP<;>intro kk;rotate_left
  ·exact absurd k6 kk
  refine dr ?_;refine oW ((zbZ W0 hM w ek pos h1 hz1 (by omega)).swp 4 96) rfl ⟨rfl,rfl,rfl,rfl,rfl,rfl,rfl,rfl,trivial⟩ rfl rfl ⟨.o,trivial⟩ fun d _=>?_
  cases d<;>refine ⟨rfl,?_⟩
  ·refine dEr ?_;rfl
  ·refine dEr ?_;rfl
  ·refine dEr ?_;rfl
  ·refine dEr ?_;rfl
  ·refine dEr ?_;rfl
  ·refine dEr ?_;rfl
 have k6:ek≠6:=k6;refine dr ?_;apply cP<;>intro k7
 ·have k7:ek=7:=k7;have e:evW w ⟨ek,ew,ep,eo,pos⟩=netW w ⟨ek,0,[],zO,pos⟩:=by unfold evW; rw [if_neg k1,if_neg k2,if_neg k3,if_neg k4,if_pos (show 5≤ek∧ek≤7 by omega)]; rfl
  rw [e];refine dr ?_;refine oW ((zbZ W0 hM w ek pos h1 hz1 (by omega)).swp 4 96) rfl ⟨rfl,rfl,rfl,rfl,rfl,rfl,rfl,rfl,trivial⟩ rfl rfl ⟨.o,trivial⟩ fun d _=>?_
  cases d<;>refine ⟨rfl,?_⟩
  ·refine dEr ?_;rfl
  ·refine dEr ?_;rfl
  ·refine dEr ?_;rfl
  ·refine dEr ?_;rfl
  ·refine dEr ?_;rfl
  ·refine dEr ?_;rfl
 have k7:ek≠7:=k7;have e:evW w ⟨ek,ew,ep,eo,pos⟩=(w,1):=by unfold evW; rw [if_neg k1,if_neg k2,if_neg k3,if_neg k4,if_neg (show ¬ (5≤ek∧ek≤7) by omega)]
 rw [e];refine dEr ?_;rfl

def zm4:XC:=(.s (.r [.ex 6 (.alloc zV)]) (.s (.r [.mv 8 0,.o1 9 86 [8],.mv 7 9]) (.cut (.s (.r [.mv 10 1,.n1 11 10,.b1 12 .gtr 11 (.i 0),.mv 13 12,.g3 14 0 13,.gt 15 (.opn 38 [14,(.i 2)]) 13,.gt 16 (.bin .eql 15 (.i 0)) 13,.p2 17 13 16]) (.cnd 17 (.r [.mv 18 1,.mv 19 0,.mv 20 1,.n1 21 20,.o1 22 38 [19,21],.i1 23 3 18 22,.f1 24 0 23,.l1 25 1 24,.mv 7 25]) .skip)) (.s (.s (.r [.mv 26 0,.o1 27 38 [26,(.i 16)]]) (.blk 0 (.s (.s (.r [.b1 29 .eql 27 (.i 0),.mv 28 29]) (.cnd 28 .skip (.s (.r [.b1 30 .eql 27 (.i 1),.mv 28 30]) (.cnd 28 .skip (.r [.b1 31 .eql 27 (.i 2),.mv 28 31]))))) (.cnd 28 (.s (.r [.mv 32 0,.o1 33 38 [32,(.i 3)],.mv 34 7,.ex 35 (.build zV [(0,(1,(.i 1))),(1,(1,33)),(2,(1,34))]),.s1 8 6 35]) .ret) (.s (.s (.r [.b1 37 .eql 27 (.i 3),.mv 36 37]) (.cnd 36 .skip (.r [.b1 38 .eql 27 (.i 4),.mv 36 38]))) (.cnd 36 (.s (.r [.mv 39 0,.mv 40 1,.o1 41 37 [39,40],.ex 42 (.build zV [(0,(1,(.i 2))),(3,(4,41))]),.s1 8 6 42]) .ret) (.s (.r [.b1 44 .eql 27 (.i 5),.mv 43 44]) (.cnd 43 (.s (.r [.ex 45 (.build zV [(0,(1,(.i 3)))]),.s1 8 6 45]) .ret) (.s (.r [.b1 47 .eql 27 (.i 6),.mv 46 47]) (.cnd 46 (.s (.r [.ex 48 (.build zV [(0,(1,(.i 4)))]),.s1 8 6 48]) .ret) (.s (.r [.b1 50 .eql 27 (.i 7),.mv 49 50]) (.cnd 49 (.s (.r [.mv 51 0,.mv 52 2,.b1 53 .add 52 (.i 1),.o1 54 38 [51,53],.ex 55 (.build zV [(0,(1,(.i 6))),(7,(1,54))]),.s1 8 6 55]) .ret) (.s (.r [.b1 57 .eql 27 (.i 8),.mv 56 57]) (.cnd 56 (.s (.r [.mv 58 0,.mv 59 2,.b1 60 .add 59 (.i 1),.o1 61 38 [58,60],.ex 62 (.build zV [(0,(1,(.i 7))),(7,(1,61))]),.s1 8 6 62]) .ret) (.s (.r [.b1 64 .eql 27 (.i 9),.mv 63 64]) (.cnd 63 (.s (.r [.mv 65 0,.ex 66 (.bsl 1 3 [(.i 0),(.i 8),(.i 1),(.i 5),(.i 2)]),.o1 67 68 [65,66],.mv 68 0,.ex 69 (.bsl 1 3 [(.k (.c (.sc (.int .i64 (.negSucc 0))))),(.i 3),(.i 0)]),.o1 70 68 [68,69],.mv 71 0,.ex 72 (.bsl 1 9 [(.s [47]),(.s []),(.s [47,97])]),.o1 73 94 [71,72],.mv 74 0,.ex 75 (.bsl 1 3 [(.k (.c (.sc (.int .i64 (.negSucc 0))))),(.i 12),(.i 0)]),.o1 76 68 [74,75],.ex 77 (.build zV [(0,(1,67)),(1,(1,70)),(2,(1,73)),(7,(1,76))]),.s1 8 6 77]) .ret) .skip)))))))))))))))) (.s (.r [.mv 78 0,.mv 79 2,.c1 80 138 [(.i 1),79],.o1 81 38 [78,80],.ex 82 (.build zV [(0,(1,(.i 5))),(7,(1,81))]),.s1 8 6 82]) .ret)))))
theorem zm5:zc Tryz.prog [38,68,94,86,37] 82=some (zm4.ac,[(.cell 6 true 8)],83):=by kernel_rfl
theorem zeI (W0:World) (s:Str) (p:Int) (t:List Ent) (n:Int) (hs:s.length≤2000) (hp:0≤p∧p≤90000) (ht:t.length≤100000) (hn:0≤n∧n≤100000) :
  zx Tryz.prog W0 82 [.ptr 1 0,.c (za t),.c (CI n)] (Rd s p) (fun x:Ev × Int=>p≤x.2∧x.2≤p+12) (fun x => .c (eEv x.1)) (fun x=>Rd s x.2):=by
 refine fW mixed zm5 fun hg=>?_
 refine dr ?_;refine oW (yc W0 s p hs (by omega)) rfl ⟨rfl,trivial⟩ rfl rfl ⟨_,List.mem_cons_self⟩ fun x0 hx0=>⟨rfl,?_⟩
 refine dEr ?_;refine J7 (fun (x:Str) (q:Int)=>[(0,.ptr 1 0),(1,.c (za t)),(2,.c (CI n)),(6,.ptr 96 0),(7,.c (CS x))]) (fun x q=>[(1,rdB s q),(96,.box [.c (CI 0),.c (CI 0),.c (CS []),.c (CI 0),.c (CS []),.c (CS []),.c (CS []),.c (CI 0)])]) (fun x q=>p≤q∧q≤p+3) ?_ ?_
 ·refine dr ?_;apply cP<;>intro h1
  ·refine dr ?_;refine oW (zZ W0 s (p+1) 2 hs (by omega) (by omega)) rfl ⟨rfl,trivial⟩ rfl rfl ⟨0,by omega,by omega⟩ fun v hv=>⟨rfl,?_⟩
   refine dEr ?_;apply cP<;>intro h2
   ·refine dEr ?_;refine oW (zZ W0 s (p+1+1) t.length hs (by omega) (by omega)) rfl ⟨rfl,trivial⟩ rfl rfl ⟨0,by omega,by omega⟩ fun k2 hk2=>⟨rfl,?_⟩
    refine dEr ?_;repeat (refine aX hk2.1 (hk2.2 (by omega)) fun e he=>?_; first|refine dEr ?_|exact dz)
    refine ⟨e.path,p+1+1+1,⟨by omega,by omega⟩,?_⟩;refine dr ?_;trivial
   ·refine dEr ?_;refine ⟨x0,p+1+1,⟨by omega,by omega⟩,?_⟩;refine dr ?_;trivial
  ·refine dEr ?_;refine ⟨x0,p+1,⟨by omega,by omega⟩,?_⟩;refine dr ?_;trivial
 rintro x q ⟨hq1,hq2⟩;refine dr ?_;refine oW (zZ W0 s q 16 hs (by omega) (by omega)) rfl ⟨rfl,trivial⟩ rfl rfl ⟨0,by omega,by omega⟩ fun k hk=>⟨rfl,?_⟩
 refine dEr ?_;by_cases a:k=0∨k=1∨k=2
 ·rcases a with rfl|rfl|rfl
  ·refine dr ?_;apply cP<;>intro h1;rotate_left
   ·exact absurd rfl h1
   refine dr ?_;apply cP<;>intro h1;rotate_left
   ·exact absurd rfl h1
   refine dr ?_;refine oW (zZ W0 s (q+1) 3 hs (by omega) (by omega)) rfl ⟨rfl,trivial⟩ rfl rfl ⟨0,by omega,by omega⟩ fun v hv=>⟨rfl,?_⟩
   refine dEr ?_;refine ⟨none,_,_,?_,(⟨1,v,x,zO,0⟩,q+1+1),⟨by simp only; omega,by simp only; omega⟩,rfl,rfl⟩;refine dr ?_;trivial
  ·refine dr ?_;apply cP<;>intro h1
   ·exact absurd h1 (by decide)
   refine dr ?_;apply cP<;>intro h1;rotate_left
   ·exact absurd rfl h1
   refine dr ?_;apply cP<;>intro h1;rotate_left
   ·exact absurd rfl h1
   refine dr ?_;refine oW (zZ W0 s (q+1) 3 hs (by omega) (by omega)) rfl ⟨rfl,trivial⟩ rfl rfl ⟨0,by omega,by omega⟩ fun v hv=>⟨rfl,?_⟩
   refine dEr ?_;refine ⟨none,_,_,?_,(⟨1,v,x,zO,0⟩,q+1+1),⟨by simp only; omega,by simp only; omega⟩,rfl,rfl⟩;refine dr ?_;trivial
  ·refine dr ?_;apply cP<;>intro h1
   ·exact absurd h1 (by decide)
   refine dr ?_;apply cP<;>intro h1
   ·exact absurd h1 (by decide)
   refine dr ?_;apply cP<;>intro h1;rotate_left
   ·exact absurd rfl h1
   refine dr ?_;refine oW (zZ W0 s (q+1) 3 hs (by omega) (by omega)) rfl ⟨rfl,trivial⟩ rfl rfl ⟨0,by omega,by omega⟩ fun v hv=>⟨rfl,?_⟩
   refine dEr ?_;refine ⟨none,_,_,?_,(⟨1,v,x,zO,0⟩,q+1+1),⟨by simp only; omega,by simp only; omega⟩,rfl,rfl⟩;refine dr ?_;trivial
 refine dr ?_;apply cP<;>intro h1
 ·omega
 refine dr ?_;apply cP<;>intro h2
 ·omega
 refine dr ?_;apply cP<;>intro h3
 ·omega
 clear h1 h2 h3;refine dr ?_;by_cases a:k=3
 ·subst a;apply cP<;>intro h1;rotate_left
  ·exact absurd rfl h1
  refine dr ?_;apply cP<;>intro h1;rotate_left
  ·exact absurd rfl h1
  refine dr ?_;refine oW (zai W0 s (q+1) t hs (by omega) (by omega)) rfl ⟨rfl,trivial⟩ rfl rfl ⟨((⟨0,[],[],[]⟩,q+1):Op × Int),by simp only; omega,by simp only; omega⟩ fun y hy=>⟨rfl,?_⟩
  obtain ⟨op,r⟩:=y;obtain ⟨hr1,hr2⟩:q+1≤r∧r≤q+1+8:=hy;refine dEr ?_;refine ⟨none,_,_,?_,(⟨2,0,[],op,0⟩,r),⟨by simp only; omega,by simp only; omega⟩,rfl,rfl⟩;refine dr ?_;trivial
 apply cP<;>intro h1
 ·exact absurd h1 a
 refine dr ?_;apply cP<;>intro h1
 ·refine dr ?_;refine oW (zai W0 s (q+1) t hs (by omega) (by omega)) rfl ⟨rfl,trivial⟩ rfl rfl ⟨((⟨0,[],[],[]⟩,q+1):Op × Int),by simp only; omega,by simp only; omega⟩ fun y hy=>⟨rfl,?_⟩
  obtain ⟨op,r⟩:=y;obtain ⟨hr1,hr2⟩:q+1≤r∧r≤q+1+8:=hy;refine dEr ?_;refine ⟨none,_,_,?_,(⟨2,0,[],op,0⟩,r),⟨by simp only; omega,by simp only; omega⟩,rfl,rfl⟩;refine dr ?_;trivial
 refine dr ?_;apply cP<;>intro h2
 ·refine dr ?_;refine ⟨none,_,_,?_,(⟨3,0,[],zO,0⟩,q+1),⟨by simp only; omega,by simp only; omega⟩,rfl,rfl⟩;refine dr ?_;trivial
 refine dr ?_;apply cP<;>intro h3
 ·refine dr ?_;refine ⟨none,_,_,?_,(⟨4,0,[],zO,0⟩,q+1),⟨by simp only; omega,by simp only; omega⟩,rfl,rfl⟩;refine dr ?_;trivial
 refine dr ?_;apply cP<;>intro h4
 ·refine dr ?_;repeat (refine oB (by omega) ?_; first|refine dr ?_|exact dz)
  refine oW (zZ W0 s (q+1) (n+1) hs (by omega) (by omega)) rfl ⟨rfl,trivial⟩ rfl rfl ⟨0,by omega,by omega⟩ fun v hv=>⟨rfl,?_⟩
  refine dEr ?_;refine ⟨none,_,_,?_,(⟨6,0,[],zO,v⟩,q+1+1),⟨by simp only; omega,by simp only; omega⟩,rfl,rfl⟩;refine dr ?_;trivial
 refine dr ?_;apply cP<;>intro h5
 ·refine dr ?_;repeat (refine oB (by omega) ?_; first|refine dr ?_|exact dz)
  refine oW (zZ W0 s (q+1) (n+1) hs (by omega) (by omega)) rfl ⟨rfl,trivial⟩ rfl rfl ⟨0,by omega,by omega⟩ fun v hv=>⟨rfl,?_⟩
  refine dEr ?_;refine ⟨none,_,_,?_,(⟨7,0,[],zO,v⟩,q+1+1),⟨by simp only; omega,by simp only; omega⟩,rfl,rfl⟩;refine dr ?_;trivial
 refine dr ?_;apply cP<;>intro h6
 ·refine dr ?_;refine oW (yB W0 s (q+1) [0,8,1,5,2] hs (by omega) (by decide)) rfl ⟨rfl,trivial⟩ rfl rfl ⟨0,by decide⟩ fun v1 _=>⟨rfl,?_⟩
  refine dEr ?_;refine oW (yB W0 s (q+1+1) [-1,3,0] hs (by omega) (by decide)) rfl ⟨rfl,trivial⟩ rfl rfl ⟨0,by decide⟩ fun v2 _=>⟨rfl,?_⟩
  refine dEr ?_;refine oW (f_of W0 s (q+1+1+1) [[47],[],[47,97]] hs (by omega) (by decide)) rfl ⟨rfl,trivial⟩ rfl rfl ⟨_,List.mem_cons_self⟩ fun v3 _=>⟨rfl,?_⟩
  refine dEr ?_;refine oW (yB W0 s (q+1+1+1+1) [-1,12,0] hs (by omega) (by decide)) rfl ⟨rfl,trivial⟩ rfl rfl ⟨0,by decide⟩ fun v4 _=>⟨rfl,?_⟩
  refine dEr ?_;refine ⟨none,_,_,?_,(⟨v1,v2,v3,zO,v4⟩,q+1+1+1+1+1),⟨by simp only; omega,by simp only; omega⟩,rfl,rfl⟩;refine dr ?_;trivial
 have hm:zJ 1 n≤100000:=by unfold zJ; split<;>omega
 refine dr ?_;repeat (refine c0 (zex W0 1 n) rfl ?_; first|refine dr ?_|exact dz)
 refine oW (zZ W0 s (q+1) (zJ 1 n) hs (by omega) (by omega)) rfl ⟨rfl,trivial⟩ rfl rfl ⟨0,by omega,by omega⟩ fun v hv=>⟨rfl,?_⟩
 refine dEr ?_;refine ⟨none,_,_,?_,(⟨5,0,[],zO,v⟩,q+1+1),⟨by simp only; omega,by simp only; omega⟩,rfl,rfl⟩;refine dr ?_;trivial
def znJ:XC:=(.s (.r [.ex 2 (.alloc zW)]) (.s (.r [.mv 8 0,.o1 9 88 [8],.ex 3 (.alloc [.nil,.nil,.nil]),.s1 3 3 9]) (.cut (.s (.r [.l2 10 3 3,.c1 11 89 [10],.u1 12 11]) (.cnd 12 (.r [.ex 13 (.build [.nil,.nil,.nil] []),.s1 3 3 13]) .skip)) (.s (.r [.l2 14 3 3,.o1 15 90 [14],.ex 4 (.alloc zW),.s1 14 4 15]) (.s (.s (.r [.mv 16 0,.ex 17 (.bsl 1 3 [(.i 12),(.i 24),(.i 36),(.i 48),(.i 6),(.i 0)]),.o1 18 68 [16,17],.mv 5 18]) (.blk 0 (.loop (.s (.s (.r [.mv 19 5,.b1 20 .gtr 19 (.i 0)]) (.ce 20 0)) (.s (.blk 1 (.s (.r [.f1 24 0 4,.l2 25 3 24,.c1 26 36 [25],.mv 23 26,.e1 27 23 0,.e1 28 23 1,.a1 6 27 3 46,.mv 7 28]) (.d [.exo [1,4,5,6,592] 30 (.ld true 14 4),.mv 31 0,.mv 32 6,.f1 33 8 4,.exo [1,4,5,6,592] 34 (.ld false 1 33),.n1 35 34,.exo [1,4,5,6,592] 36 (.opn 82 [31,32,35]),.exo [1,4,5,6,592] 37 (.opn 80 [30,36]),.mv 29 37,.e1 38 29 0,.e1 39 29 1,.s1 14 4 38]))) (.r [.mv 21 5,.b1 22 .sub 21 (.i 1),.mv 5 22])))))) (.s (.r [.l2 40 14 4,.o1 41 81 [40],.s1 14 2 41]) .ret))))))
theorem znK:zc Tryz.prog [88,68,82,80,90,81,1000001,1000004,1000005,1000006,1000592] 35=some (znJ.ac,[(.cell 2 true 14)],42):=by kernel_rfl
structure WR (n:Nat) (w:Wld):Prop where
 z:WZ (100+n) w
 h:w.holds.length=3
 f:w.floors.length=3
 ck : -(20000+20000 * (n:Int))≤w.clock∧w.clock≤20000+20000 * n
 ct : -(20000+20000 * (n:Int))≤w.count∧w.count≤20000+20000 * n
theorem WG.wr {n:Nat} {w:Wld} (h:WG w) (hz:HZ n w) (hn:n≤100):WR 0 w:=⟨h.wz (hz.mono (by omega)) (by omega),h.pl.hl,h.pl.fl,by have:=h.pl.ck; omega,by have:=h.pl.ct; omega⟩
theorem WZ.mono {n m:Nat} {w:Wld} (h:WZ n w) (hm:n≤m):WZ m w:=⟨h.o.mono hm,h.z.mono hm,by have:=h.h; omega,by have:=h.f; omega,by have:=h.t; omega⟩
theorem WR.mono {n m:Nat} {w:Wld} (h:WR n w) (hm:n≤m):WR m w:=⟨h.z.mono (by omega),h.h,h.f,by have:=h.ck; omega,by have:=h.ct; omega⟩
theorem zgl:oOk noO=true:=by decide +kernel
theorem zp7 (W0:World) (s:Str) (p:Int) (hs:s.length≤2000) (hp:0≤p∧p≤20000) :
  zx Tryz.prog W0 35 [.ptr 1 0] (Rd s p) (fun x:Wld × Int=>WR 0 x.1∧p≤x.2∧x.2≤p+1200) (fun x => .c (zv x.1)) (fun x=>Rd s x.2):=by
 refine fW mixed znK fun hg=>?_
 refine dr ?_;refine oW (zpK W0 s p hs (by omega)) rfl ⟨rfl,trivial⟩ rfl rfl ⟨(noO,p),OS.no,by simp,by simp; omega⟩ fun x hx=>⟨rfl,?_⟩
 obtain ⟨o0,q0⟩:=x;obtain ⟨a1,a2,a3⟩:OS o0∧p≤q0∧q0≤p+600:=hx;refine dEr ?_;refine cutz 3 (fun (o:Over)=>[(0,.ptr 1 0),(2,.ptr 32 0),(3,.ptr 48 0)]) (fun o=>[(1,rdB s q0),(32,zWB),(48,ovB o)]) (fun o=>OS o∧oOk o=true) ?_ ?_
 ·refine dEr ?_;repeat (refine c0 (Qj W0 o0) rfl ?_; first|refine dEr ?_|exact dz)
  apply cP<;>intro h1
  ·refine dr ?_;refine ⟨noO,⟨OS.no,zgl⟩,?_⟩;refine zj.trans (F1:=_) (m1:=_) (zj.nilC 48 [.nil,.nil,.nil] [.c (.row []),.c (.row []),.c (.row [])] rfl ⟨nc1,nc1,nc1,trivial⟩) (z:=none) ?_;refine dr ?_;trivial
  ·refine dr ?_;refine ⟨o0,⟨a1,h1⟩,?_⟩;refine zn.s (z:=none) ?_;refine dr ?_;trivial
 rintro o ⟨ho,h1⟩;have g0:WG (newW o):=WG.new h1;refine dr ?_;refine oW (zqv W0 o (ho.oz.mono (by omega))) rfl trivial rfl rfl ⟨(),trivial⟩ fun _ _=>⟨rfl,?_⟩
 refine dEr ?_;refine oW (yB W0 s q0 [12,24,36,48,6,0] hs (by omega) (by decide)) rfl ⟨rfl,trivial⟩ rfl rfl ⟨0,by decide⟩ fun n hn=>⟨rfl,?_⟩
 have hn2:0≤n∧n≤48:=by
  simp only [List.mem_cons,List.not_mem_nil,or_false] at hn;omega
 refine dEr ?_;refine lq3 (fun (x:Wld) (i q:Int)=>[(0,.ptr 1 0),(2,.ptr 32 0),(3,.ptr 48 0),(4,.ptr 64 0),(5,.c (CI i))]) (fun x _ q=>[(1,rdB s q),(32,zWB),(48,ovB o),(64,.box (wCo 6 x))]++wMn 6 x)
  (fun x i q=>0≤i∧i≤n∧p≤q∧q≤p+601+12 * (n - i)∧WG x∧HZ (n - i).toNat x) (fun _ i _=>i.toNat) (newW o) n (q0+1) ⟨by omega,by omega,by omega,by omega,g0,HZ.new.mono (by omega)⟩ ?_ ?_
 ·refine zj.newB 64 o rfl rfl (by decide) (z:=none) ?_;refine dr ?_;repeat (refine oB (by simp) ?_; first|refine dr ?_|exact dz)
  trivial
 rintro x i q ⟨hi1,hi2,hq1,hq2,hx,hz⟩;refine dr ?_;apply cP<;>intro h3
 ·have hv:=ZJ W0 x.over;have hvl:=@zbo x.over;rw [Y6] at hv;generalize (jk x.over).getD []=t at *;have hnt:x.net.length≤1000:=by have:=hx.pl.nl; omega
  refine dEr ?_;repeat (refine c0 hv rfl ?_; first|refine dEr ?_|exact dz)
  refine oW (zeI W0 s q t x.net.length hs (by omega) (by omega) (by omega)) rfl ⟨rfl,trivial⟩ rfl rfl ⟨((⟨0,0,[],zO,0⟩,q):Ev × Int),by simp only; omega,by simp only; omega⟩ fun y hy=>⟨rfl,?_⟩
  obtain ⟨ev,r⟩:=y;obtain ⟨hr1,hr2⟩:q≤r∧r≤q+12:=hy;have hx':=hx.ev ev;have hz':=hz.ev ev;refine dEr ?_;refine oW (zeH W0 x ev hx (hz.mono (by omega))) rfl ⟨rfl,rfl,rfl,trivial⟩ rfl rfl ⟨false,trivial⟩ fun b _=>?_
  generalize evW x ev=rr at *;obtain ⟨x',c⟩:=rr;cases b with
  | true =>
   refine ⟨rfl,?_⟩;refine dEr ?_;repeat ((first|refine oB (by omega) ?_|refine oB (by simp) ?_); first|refine dEr ?_|exact dz)
   refine ⟨x',i - 1,r,⟨by omega,by omega,by omega,by omega,hx',hz'.mono (by omega)⟩,by omega,?_⟩;refine zj.ren 6 592 rfl rfl (z:=none) ?_;refine dr ?_;repeat (refine oB (by simp) ?_; first|refine dr ?_|exact dz)
   trivial
  | false =>
   refine ⟨rfl,?_⟩;refine dEr ?_;repeat ((first|refine oB (by omega) ?_|refine oB (by simp) ?_); first|refine dEr ?_|exact dz)
   refine ⟨x',i - 1,r,⟨by omega,by omega,by omega,by omega,hx',hz'.mono (by omega)⟩,by omega,?_⟩;refine zn.s (z:=none) ?_;refine dr ?_;repeat (refine oB (by simp) ?_; first|refine dr ?_|exact dz)
   trivial
 refine dr ?_;have hw:WR 0 x:=hx.wr hz (by omega);refine oW (zb5 W0 x (hx.wz (hz.mono (by omega)) (by omega))) rfl ⟨rfl,rfl,rfl,trivial⟩ rfl rfl ⟨(),trivial⟩ fun _ _=>⟨rfl,?_⟩
 refine dEr ?_;repeat (refine oB (by simp) ?_; first|refine dEr ?_|exact dz)
 refine ⟨none,_,_,?_,(x,q),⟨hw,by omega,by omega⟩,rfl,rfl⟩;refine dr ?_;trivial
def ziI:XC:=(.s (.r [.x1 1 0,.ex 2 (.alloc zW)]) (.s (.r [.l2 5 14 1,.ex 3 (.alloc zW),.s1 14 3 5]) (.s (.r [.f1 6 0 1,.l2 7 3 6,.c1 8 137 [7],.f1 9 0 3,.s1 3 9 8]) (.s (.r [.ex 10 .bsl0,.f1 11 5 1,.l1 12 1 11,.ex 13 (.app true 4 40 59 10 12),.f1 14 5 3,.s1 1 14 13]) (.s (.r [.ex 15 .bsl0,.f1 16 6 3,.s1 1 16 15]) (.s (.s (.r [.m1 4 (.i 0)]) (.blk 0 (.loop (.s (.s (.r [.mv 17 4,.f1 18 6 1,.l1 19 1 18,.n1 20 19,.b1 21 .lss 17 20]) (.ce 21 0)) (.s (.blk 1 (.d [.f1 24 6 3,.l1 25 1 24,.ex 26 .bsl0,.f1 27 6 1,.l1 28 1 27,.mv 29 4,.i1 30 1 28 29,.l1 31 1 30,.ex 32 (.app true 7 80 48 26 31),.ex 33 (.bsl 1 44 [32]),.ex 34 (.app false 1 24 44 25 33),.f1 35 6 3,.s1 1 35 34])) (.ic 22 23 4)))))) (.s (.r [.ex 36 .bsl0,.f1 37 7 1,.l1 38 1 37,.ex 39 (.app true 1 8 3 36 38),.f1 40 7 3,.s1 1 40 39]) (.s (.r [.ex 41 .bsl0,.f1 42 8 1,.l1 43 1 42,.ex 44 (.app true 9 96 67 41 43),.f1 45 8 3,.s1 1 45 44]) (.s (.r [.l2 46 14 3,.s1 14 2 46]) .ret)))))))))
theorem ziJ:zc Tryz.prog [] 81=some (ziI.ac,[(.cell 2 true 14)],47):=by kernel_rfl
def cpM (h0 h1 h2:List Hold):Nat→XM
 | 0=>[(14,.row [] 1 44)]
 | 1=>[(14,.rowP [.own 15 h0.length] 44),(15,.row (h0.map zG) 7 48)]
 | 2=>[(14,.rowP [.own 15 h0.length,.own 31 h1.length] 44),(15,.row (h0.map zG) 7 48),(31,.row (h1.map zG) 7 48)]
 | _=>[(14,.rowP [.own 15 h0.length,.own 31 h1.length,.own 47 h2.length] 44),(15,.row (h0.map zG) 7 48),(31,.row (h1.map zG) 7 48),(47,.row (h2.map zG) 7 48)]
theorem zpP (W0:World) (w:Wld) (h0 h1 h2:List Hold) (hz:WZ 1000000 w) (h3:w.holds=[h0,h1,h2]):zx Tryz.prog W0 81 [.c (zv w)] [] (fun _:Unit=>True) (fun _ => .agg [.c (za w.over.base),.c (zA w.over.layers),.c (ze w.over.upper),I w.clock,I w.count,.own 208 w.leases.length,.own 14 3,.own 624 w.floors.length,.own 704 w.net.length,B w.waits,I w.op.kind,.c (CS w.op.path),.c (CS w.op.dest),.c (CS w.op.data)]) (fun _=>cpM h0 h1 h2 3++[(208,.row (w.leases.map jw) 4 59),(624,.row (w.floors.map CI) 1 3),(704,.row (w.net.map eMsg) 9 67)]):=by
 obtain ⟨o,cl,cn,ls,hds,fl,nt,wt,wop⟩:=w;simp only at h3;subst h3;obtain ⟨hzo,⟨hzl,hzh⟩,hh,hf,hn⟩:=hz;simp only at hzo hzl hzh hh hf hn;show zx _ _ _ [.c (.agg [za o.base,zA o.layers,ze o.upper,CI cl,CI cn,zw ls,jB [h0,h1,h2],jQ fl,jK nt,CB wt,CI wop.kind,CS wop.path,CS wop.dest,CS wop.data])] _ _ _ _;refine fW mixed ziJ fun hg=>?_
 refine dEr ?_;repeat ((first|refine c0 (Qh W0 _ (hzo.mono (by omega))) rfl ?_|refine oB (by simp; omega) ?_|refine oB (by simp) ?_); first|refine dEr ?_|exact dz)
 refine lq (σ:=Nat) (fun k=>[(1,.ptr 16 0),(2,.ptr 32 0),(3,.ptr 48 0),(4,I k)]) (fun k=>cpM h0 h1 h2 k++[(16,.box [.c (za o.base),.c (zA o.layers),.c (ze o.upper),I cl,I cn,.c (zw ls),.c (jB [h0,h1,h2]),.c (jQ fl),.c (jK nt),B wt,I wop.kind,.c (CS wop.path),.c (CS wop.dest),.c (CS wop.data)]),(32,zWB),(48,.box [.c (za o.base),.c (zA o.layers),.c (ze o.upper),I cl,I cn,.own 208 ls.length,.own 14 k,.c (jQ fl),.c (jK nt),B wt,I wop.kind,.c (CS wop.path),.c (CS wop.dest),.c (CS wop.data)]),(208,.row (ls.map jw) 4 59)]) (fun k=>k≤3) (fun k=>3 - k) 0 (by simp) ?_ ?_
 ·refine zn.trans (z:=none) (z':=some 3) (F1:=[(1,.ptr 16 0),(2,.ptr 32 0),(3,.ptr 48 0),(4,I 0)]) (m1:=[(16,.box [.c (za o.base),.c (zA o.layers),.c (ze o.upper),I cl,I cn,.c (zw ls),.c (jB [h0,h1,h2]),.c (jQ fl),.c (jK nt),B wt,I wop.kind,.c (CS wop.path),.c (CS wop.dest),.c (CS wop.data)]),(32,zWB),(48,.box [.c (za o.base),.c (zA o.layers),.c (ze o.upper),I cl,I cn,.own 208 ls.length,.nil,.c (jQ fl),.c (jK nt),B wt,I wop.kind,.c (CS wop.path),.c (CS wop.dest),.c (CS wop.data)]),(208,.row (ls.map jw) 4 59)]) ?_ ?_
  ·refine dr ?_;repeat (refine oB (by simp<;>rfl) ?_; first|refine dr ?_|exact dz)
   trivial
  ·show zj _ _ _ _ _;exact zj.er (zj.nilB 48 _ [.c (za o.base),.c (zA o.layers),.c (ze o.upper),I cl,I cn,.own 208 ls.length,.own 14 0,.c (jQ fl),.c (jK nt),B wt,I wop.kind,.c (CS wop.path),.c (CS wop.dest),.c (CS wop.data)] 14 44 rfl rfl ⟨nr0,nr0,nr0,nr0,nr0,nr0,nr1,nr0,nr0,nr0,nr0,nr0,nr0,nr0,trivial⟩) rfl
 intro k hk;rcases k with _ | _ | _ | _ | k
 ·have hzk:=hzh h0 (by simp);refine dr ?_;apply cP<;>intro hq;rotate_left
  ·simp at hq
  refine dr ?_;repeat ((first|refine oB (by simp; omega) ?_|refine oB (by simp) ?_); first|refine dr ?_|exact dz)
  refine ⟨1,by omega,by omega,?_⟩;refine zj.ren 512 15 rfl rfl (z:=none) ?_;refine dr ?_;repeat (refine oB (by simp) ?_; first|refine dr ?_|exact dz)
  trivial
 ·have hzk:=hzh h1 (by simp);refine dr ?_;apply cP<;>intro hq;rotate_left
  ·simp at hq
  refine dr ?_;repeat ((first|refine oB (by simp; omega) ?_|refine oB (by simp) ?_); first|refine dr ?_|exact dz)
  refine ⟨2,by omega,by omega,?_⟩;refine zj.ren 512 31 rfl rfl (z:=none) ?_;refine dr ?_;repeat (refine oB (by simp) ?_; first|refine dr ?_|exact dz)
  trivial
 ·have hzk:=hzh h2 (by simp);refine dr ?_;apply cP<;>intro hq;rotate_left
  ·simp at hq
  refine dr ?_;repeat ((first|refine oB (by simp; omega) ?_|refine oB (by simp) ?_); first|refine dr ?_|exact dz)
  refine ⟨3,by omega,by omega,?_⟩;refine zj.ren 512 47 rfl rfl (z:=none) ?_;refine dr ?_;repeat (refine oB (by simp) ?_; first|refine dr ?_|exact dz)
  trivial
 ·refine dr ?_;apply cP<;>intro hq
  ·simp at hq
  refine dr ?_;repeat ((first|refine oB (by simp; omega) ?_|refine oB (by simp) ?_); first|refine dr ?_|exact dz)
  refine ⟨none,_,_,?_,(),trivial,rfl,rfl⟩;refine dr ?_;repeat (refine oB (by simp) ?_; first|refine dr ?_|exact dz)
  trivial
 ·omega
theorem zpO (W0:World) (w:Wld) (h0 h1 h2:List Hold) (hz:WZ 1000000 w) (h3:w.holds=[h0,h1,h2]):zx Tryz.prog W0 81 [.c (zv w)] [] (fun _:Unit=>True) (fun _ => .agg [.c (za w.over.base),.c (zA w.over.layers),.c (ze w.over.upper),I w.clock,I w.count,.own 7 w.leases.length,.own 4 3,.own 5 w.floors.length,.own 6 w.net.length,B w.waits,I w.op.kind,.c (CS w.op.path),.c (CS w.op.dest),.c (CS w.op.data)]) (fun _=>[(4,.rowP [.own 15 h0.length,.own 31 h1.length,.own 47 h2.length] 44),(15,.row (h0.map zG) 7 48),(31,.row (h1.map zG) 7 48),(47,.row (h2.map zG) 7 48),(7,.row (w.leases.map jw) 4 59),(5,.row (w.floors.map CI) 1 3),(6,.row (w.net.map eMsg) 9 67)]) :=
 ((((zpP W0 w h0 h1 h2 hz h3).swp 14 4).swp 624 5).swp 704 6).swp 208 7
def zmX:XC:=(.s (.r [.x1 3 1,.ex 4 (.alloc zW)]) (.s (.r [.l2 8 14 3,.o1 9 81 [8],.ex 5 (.alloc zW),.s1 14 5 9]) (.s (.r [.f1 10 8 5,.l1 11 1 10,.n1 12 11,.mv 6 12]) (.cut (.cut (.r [.mv 13 0,.o1 14 38 [13,(.i 100)]]) (.blk 0 (.s (.r [.b1 16 .eql 14 (.i 0),.mv 15 16]) (.cnd 15 (.d [.f1 17 3 5,.exo [1,15,31,47] 18 (.ld false 1 17),.mv 19 0,.exo [1,15,31,47] 20 (.bsl 1 3 [(.k (.c (.sc (.int .i64 (.negSucc 2))))),(.i 1),(.k (.c (.sc (.int .i64 (.negSucc 0))))),(.i 10000)]),.exo [1,15,31,47] 21 (.opn 68 [19,20]),.b1 22 .add 18 21,.f1 23 3 5,.s1 1 23 22]) (.s (.r [.b1 25 .eql 14 (.i 1),.mv 24 25]) (.cnd 24 (.r [.mv 26 0,.f1 27 4 5,.l1 28 1 27,.b1 29 .sub 28 (.i 1),.ex 30 (.bsl 1 3 [(.i 0),(.k (.c (.sc (.int .i64 (.negSucc 0))))),29,(.i 10000)]),.o1 31 68 [26,30],.f1 32 4 5,.s1 1 32 31]) (.s (.r [.b1 34 .eql 14 (.i 2),.mv 33 34]) (.cnd 33 (.s (.r [.f1 35 5 5,.l1 36 1 35,.n1 37 36,.b1 38 .gtr 37 (.i 0)]) (.cnd 38 (.r [.f1 39 5 5,.l1 40 1 39,.ex 41 (.slr 4 40 (.some (.i 1)) .none),.f1 42 5 5,.s1 1 42 41]) .skip)) (.s (.r [.b1 44 .eql 14 (.i 3),.mv 43 44]) (.cnd 43 (.s (.r [.f1 45 5 5,.l1 46 1 45,.n1 47 46,.b1 48 .gtr 47 (.i 0)]) (.cnd 48 (.d [.f1 49 5 5,.l1 50 1 49,.f1 51 5 5,.l1 52 1 51,.ex 53 (.ia 4 52 (.i 0)),.l2 54 4 53,.ex 55 (.bsl 4 59 [54]),.ex 56 (.app false 4 40 59 50 55),.f1 57 5 5,.s1 1 57 56]) .skip)) (.s (.r [.b1 59 .eql 14 (.i 4),.mv 58 59]) (.cnd 58 (.d [.f1 60 6 5,.exo [1,15,31,47] 61 (.ld false 1 60),.mv 62 0,.exo [1,15,31,47] 63 (.opn 38 [62,(.i 3)]),.f1 64 6 5,.exo [1,15,31,47] 65 (.ld false 1 64),.mv 66 0,.exo [1,15,31,47] 67 (.opn 38 [66,(.i 3)]),.exo [1,15,31,47] 68 (.ia 1 65 67),.exo [1,15,31,47] 69 (.ld false 1 68),.mv 70 0,.exo [1,15,31,47] 71 (.opn 86 [70]),.mv 72 0,.exo [1,15,31,47] 73 (.opn 38 [72,(.i 3)]),.f1 74 3 5,.exo [1,15,31,47] 75 (.ld false 1 74),.mv 76 0,.exo [1,15,31,47] 77 (.opn 38 [76,(.i 3)]),.b1 78 .add 75 77,.ex 79 (.build [sE,(B false),sE,(B false),sE,(I 0),(I 0)] [(0,(1,71)),(5,(1,73)),(6,(1,78))]),.exo [1,15,31,47] 80 (.bsl 7 48 [79]),.exo [1,15,31,47] 81 (.app false 7 80 48 69 80),.exo [1,15,31,47] 82 (.ia 1 61 63),⟨.none,(.st 1 82 81),.none,false,[1,15,31,47]⟩]) (.s (.r [.b1 84 .eql 14 (.i 5),.mv 83 84]) (.cnd 83 (.d [.f1 85 7 5,.exo [1,15,31,47] 86 (.ld false 1 85),.mv 87 0,.exo [1,15,31,47] 88 (.opn 38 [87,(.i 3)]),.mv 89 0,.f1 90 4 5,.exo [1,15,31,47] 91 (.ld false 1 90),.f1 92 4 5,.exo [1,15,31,47] 93 (.ld false 1 92),.b1 94 .add 93 (.i 1),.exo [1,15,31,47] 95 (.bsl 1 3 [(.k (.c (.sc (.int .i64 (.negSucc 0))))),91,94,(.i 0)]),.exo [1,15,31,47] 96 (.opn 68 [89,95]),.exo [1,15,31,47] 97 (.ia 1 86 88),.s1 1 97 96]) (.s (.r [.b1 99 .eql 14 (.i 6),.mv 98 99]) (.cnd 98 (.s (.r [.mv 100 6,.b1 101 .gtr 100 (.i 0)]) (.cnd 101 (.s (.r [.mv 102 0,.mv 103 6,.o1 104 38 [102,103],.mv 7 104]) (.d [.f1 105 8 5,.exo [1,15,31,47] 106 (.ld false 1 105),.mv 107 7,.mv 108 0,.exo [1,15,31,47] 109 (.bsl 1 3 [(.i 0),(.i 5),(.i 2),(.i 4)]),.exo [1,15,31,47] 110 (.opn 68 [108,109]),.exo [1,15,31,47] 111 (.ia 9 106 107),.f1 112 0 111,.s1 1 112 110])) .skip)) (.s (.r [.b1 114 .eql 14 (.i 7),.mv 113 114]) (.cnd 113 (.d [.f1 115 8 5,.exo [1,15,31,47] 116 (.ld false 1 115),.mv 117 0,.exo [1,15,31,47] 118 (.opn 38 [117,(.i 4)]),.b1 119 .add (.i 1) 118,.mv 120 0,.exo [1,15,31,47] 121 (.opn 38 [120,(.i 4)]),.mv 122 0,.exo [1,15,31,47] 123 (.opn 86 [122]),.mv 124 0,.exo [1,15,31,47] 125 (.opn 38 [124,(.i 4)]),.ex 126 (.build [sE,(B false),sE,(B false),sE,(I 0),(I 0)] [(0,(1,123)),(5,(1,125))]),.ex 127 (.build [(I 0),(I 0),sE,(B false),sE,(B false),sE,(I 0),(I 0)] [(0,(1,119)),(1,(1,121)),(2,(7,126))]),.exo [1,15,31,47] 128 (.bsl 9 67 [127]),.ex 129 (.app false 9 96 67 116 128),.f1 130 8 5,.s1 1 130 129]) (.s (.r [.b1 132 .eql 14 (.i 8),.mv 131 132]) (.cnd 131 (.r [.f1 133 9 5,.l1 134 1 133,.u1 135 134,.f1 136 9 5,.s1 1 136 135]) (.s (.r [.b1 138 .eql 14 (.i 9),.mv 137 138]) (.cnd 137 (.r [.f1 140 0 5,.l2 141 3 140,.ex 142 (.build [(I 0),sE,sE,sE] [(0,(1,(.i 2))),(1,(1,(.s [47,97]))),(3,(1,(.s [113])))]),.c1 143 87 [141,142],.mv 139 143,.e1 144 139 0,.e1 145 139 1,.f1 146 0 5,.s1 3 146 144]) .skip)))))))))))))))))))))) (.s (.r [.l2 147 14 5,.s1 14 4 147]) .ret)))))
theorem zmY:zc Tryz.prog [81,38,68,86,1000001,1000015,1000031,1000047] 34=some (zmX.ac,[(.cell 4 true 14)],148):=by kernel_rfl
abbrev bnC (w:Wld) (lv hv fv nv:PV):XB := .box [.c (za w.over.base),.c (zA w.over.layers),.c (ze w.over.upper),I w.clock,I w.count,lv,hv,fv,nv,B w.waits,I w.op.kind,.c (CS w.op.path),.c (CS w.op.dest),.c (CS w.op.data)]
abbrev bnH (h0 h1 h2:List Hold):XM:=[(4,.rowP [.own 15 h0.length,.own 31 h1.length,.own 47 h2.length] 44),(15,.row (h0.map zG) 7 48),(31,.row (h1.map zG) 7 48),(47,.row (h2.map zG) 7 48)]
abbrev bnL (w:Wld):XM:=[(7,.row (w.leases.map jw) 4 59)]
abbrev bnN (w:Wld):XM:=[(5,.row (w.floors.map CI) 1 3),(6,.row (w.net.map eMsg) 9 67)]
abbrev bnF (v:Int) (w:Wld):Fr:=[(0,.ptr 1 0),(4,.ptr 64 0),(5,.ptr 80 0),(6,I w.net.length),(14,.c (CI v))]
abbrev bnB (s:Str) (q:Int) (w:Wld) (lv hv:PV):XM:=[(1,rdB s q),(64,zWB),(80,bnC w lv hv (.own 5 w.floors.length) (.own 6 w.net.length))]++bnN w
theorem zdN {s:Str} {q:Int} {w:Wld} {h0 h1 h2:List Hold} (h3:w.holds=[h0,h1,h2]) {F:Fr} {m:XM} {z:Option Nat} (v:Int)
  (h:zn [1] z F m (bnF v w) (bnB s q w (.own 7 w.leases.length) (.own 4 3)++bnH h0 h1 h2++bnL w)):zn [1] (some 3) F m (bnF v w) (bnB s q w (.own 7 w.leases.length) (.c (jB w.holds))++bnL w):=by
 refine zn.trans (z':=some 3) h ?_;refine zj.trans (z:=some 3) (F1:=bnF v w) (m1:=(4,.rowP [.c (zf h0),.own 31 h1.length,.own 47 h2.length] 44)::(bnB s q w (.own 7 w.leases.length) (.own 4 3)++[(31,.row (h1.map zG) 7 48),(47,.row (h2.map zG) 7 48)]++bnL w)) (zj.pull 4 15 rfl rfl (by simp [frA,fr1]; rfl) rfl ?_) ?_
 ·refine dr ?_;trivial
 refine zj.trans (z:=some 3) (F1:=bnF v w) (m1:=(4,.rowP [.c (zf h0),.c (zf h1),.own 47 h2.length] 44)::(bnB s q w (.own 7 w.leases.length) (.own 4 3)++[(47,.row (h2.map zG) 7 48)]++bnL w)) (zj.pull 4 31 rfl rfl (by simp [frA,fr1]; rfl) rfl ?_) ?_
 ·refine dr ?_;trivial
 refine zj.trans (z:=some 4) (F1:=bnF v w) (m1:=(4,.row [zf h0,zf h1,zf h2] 1 44)::(bnB s q w (.own 7 w.leases.length) (.own 4 3)++bnL w)) (zj.er (zj.pull 4 47 (Lp':=[.c (zf h0),.c (zf h1),.c (zf h2)]) rfl rfl (by simp [frA,fr1]; rfl) rfl ?_) rfl) ?_
 ·refine dr ?_;trivial
 rw [h3];refine dr ?_;repeat (refine oB (by simp) ?_; first|refine dr ?_|exact dz)
 trivial
theorem ya {s:Str} {q:Int} (x:Wld) {F:Fr} {m:XM} {z:Option Nat}
  (h:zn [1] z F m [(4,.ptr 64 0),(5,.ptr 80 0)] (bnB s q x (.c (zw x.leases)) (.c (jB x.holds)))):zn [1] (some 3) F m [(4,.ptr 64 0),(5,.ptr 80 0)] [(1,rdB s q),(64,zWB),(80,wBx x)]:=by
 refine zn.trans (z':=some 3) h ?_;refine zn.trans (z:=some 5) (z':=some 6) (F1:=[(4,.ptr 64 0),(5,.ptr 80 0)]) (m1:=[(1,rdB s q),(64,zWB),(80,bnC x (.c (zw x.leases)) (.c (jB x.holds)) (.c (jQ x.floors)) (.own 6 x.net.length)),(6,.row (x.net.map eMsg) 9 67)]) ?_ ?_
 ·refine dr ?_;repeat (refine oB (by simp) ?_; first|refine dr ?_|exact dz)
  trivial
 ·refine dr ?_;repeat (refine oB (by simp) ?_; first|refine dr ?_|exact dz)
  trivial
theorem Zz {s:Str} {q:Int} (x:Wld) (g0 g1 g2:List Hold) (hx:x.holds=[g0,g1,g2]) {F:Fr} {m:XM} {z:Option Nat}
  (h:zn [1] z F m [(4,.ptr 64 0),(5,.ptr 80 0)] ((4,.row [zf g0,zf g1,zf g2] 1 44)::bnB s q x (.c (zw x.leases)) (.own 4 3))):zn [1] (some 3) F m [(4,.ptr 64 0),(5,.ptr 80 0)] [(1,rdB s q),(64,zWB),(80,wBx x)]:=by
 refine ya x (z:=some 3) (zn.trans (z':=some 4) h ?_);rw [hx];refine dr ?_;repeat (refine oB (by simp) ?_; first|refine dr ?_|exact dz)
 trivial
theorem WR.hold {n:Nat} {w:Wld} (h:WR n w) {g0 g1 g2:List Hold} (e0:g0.length≤101+n) (e1:g1.length≤101+n) (e2:g2.length≤101+n):WR (n+1) { w with holds:=[g0,g1,g2] }:=by
 obtain ⟨⟨z1,⟨z2,z3⟩,z4,z5,z6⟩,h,f,ck,ct⟩:=h;refine ⟨⟨z1.mono (by omega),⟨by simp only; omega,fun y hy=>?_⟩,by simp; omega,by simp only; omega,by simp only; omega⟩,rfl,f,by simp only; omega,by simp only; omega⟩;simp only [List.mem_cons,List.not_mem_nil,or_false] at hy;rcases hy with rfl|rfl|rfl<;>omega
def bnM (s:Str) (q:Int) (w:Wld) (h0 h1 h2:List Hold):Nat→XM
 | 0=>bnB s q w (.own 7 w.leases.length) (.c (jB w.holds))++bnL w
 | 1=>bnB s q w (.c (zw w.leases)) (.own 4 3)++bnH h0 h1 h2
 | _=>bnB s q w (.c (zw w.leases)) (.c (jB w.holds))
theorem WR.set {n:Nat} {w x:Wld} (h:WR n w) (h1:x.over=w.over∨OZ 32 x.over) (h2:x.leases.length≤w.leases.length+1) (h3:x.holds=w.holds) (h4:x.floors.length=w.floors.length) (h5:x.net.length≤w.net.length+1)
  (h6 : -(20000+20000 * (n:Int)+10010)≤x.clock∧x.clock≤20000+20000 * n+10010) (h7 : -(20000+20000 * (n:Int)+10010)≤x.count∧x.count≤20000+20000 * n+10010):WR (n+1) x:=by
 obtain ⟨⟨z1,⟨z2,z3⟩,z4,z5,z6⟩,h,f,ck,ct⟩:=h;refine ⟨⟨?_,⟨by omega,fun y hy=>?_⟩,by rw [h3]; omega,by omega,by omega⟩,by rw [h3]; exact h,by omega,by omega,by omega⟩
 ·rcases h1 with e | h1
  ·rw [e]; exact z1.mono (by omega)
  ·exact h1.mono (by omega)
 ·rw [h3] at hy; have:=z3 y hy; omega
set_option maxHeartbeats 8000000 in
theorem zpM (W0:World) (s:Str) (p:Int) (n:Nat) (w:Wld) (hs:s.length≤2000) (hp:0≤p∧p≤90000) (hn:n≤1000) (hw:WR n w) :
  zx Tryz.prog W0 34 [.ptr 1 0,.c (zv w)] (Rd s p) (fun x:Wld × Int=>WR (n+1) x.1∧p≤x.2∧x.2≤p+8) (fun x => .c (zv x.1)) (fun x=>Rd s x.2):=by
 obtain ⟨h0,h1,h2,h3⟩:∃ h0 h1 h2,w.holds=[h0,h1,h2]:=by
  have:=hw.h
  match hh:w.holds with
  | [a,b,c]=>exact ⟨a,b,c,rfl⟩
  | [] | [_] | [_,_] | _::_::_::_::_=>rw [hh] at this; simp at this
 have hz:=hw.z;have hw':WR (n+1) w:=hw.mono (by omega);refine fW mixed zmY fun hg=>?_
 refine dr ?_;refine oW (zpO W0 w h0 h1 h2 (hz.mono (by omega)) h3) rfl trivial rfl rfl ⟨(),trivial⟩ fun _ _=>⟨rfl,?_⟩
 refine dEr ?_;refine cutz 3 (σ:=Wld × Int) (fun _=>[(4,.ptr 64 0),(5,.ptr 80 0)]) (fun x=>[(1,rdB s x.2),(64,zWB),(80,wBx x.1)]) (fun x=>WR (n+1) x.1∧p≤x.2∧x.2≤p+8) ?_ ?_;rotate_left
 ·rintro ⟨x,q⟩ ⟨hx,hq1,hq2⟩;refine dr ?_;refine ⟨none,_,_,?_,(x,q),⟨hx,hq1,hq2⟩,rfl,rfl⟩;refine dr ?_;trivial
 refine dr ?_;refine cutz 3 (σ:=Int × Nat) (fun x=>bnF x.1 w) (fun x=>bnM s (p+1) w h0 h1 h2 x.2) (fun x=>(x.2=0∧x.1=3)∨(x.2=1∧x.1=4)∨(x.2=2∧x.1≠3∧x.1≠4)) ?_ ?_
 ·refine dr ?_;refine oW (zZ W0 s p 100 hs (by omega) (by omega)) rfl ⟨rfl,trivial⟩ rfl rfl ⟨0,by omega,by omega⟩ fun v hv=>⟨rfl,?_⟩
  refine dEr ?_;by_cases a:v=3
  ·refine ⟨(v,0),.inl ⟨rfl,a⟩,zdN h3 v (z:=none) ?_⟩;refine dr ?_;trivial
  by_cases b:v=4
  ·refine ⟨(v,1),.inr (.inl ⟨rfl,b⟩),zn.s (z:=some 7) ?_⟩;refine dr ?_;repeat (refine oB (by simp) ?_; first|refine dr ?_|exact dz)
   trivial
  refine ⟨(v,2),.inr (.inr ⟨rfl,a,b⟩),zn.trans (z':=some 7) (zdN (s:=s) (q:=p+1) h3 v (z:=none) ?_) ?_⟩
  ·refine dr ?_;trivial
  ·refine dr ?_;repeat (refine oB (by simp) ?_; first|refine dr ?_|exact dz)
   trivial
 rintro ⟨v,k⟩ hvk;simp only at hvk;have ck:=hw.ck;have ct:=hw.ct;have hf3:=hw.f;have hh3:=hw.h;have zt:=hz.t;have zl:=hz.z.l;rcases hvk with ⟨rfl,rfl⟩ | ⟨rfl,rfl⟩ | ⟨rfl,hv3,hv4⟩
 ·
  refine dr ?_;apply cP<;>intro k1
  ·exact absurd k1 (by decide)
  refine dr ?_;apply cP<;>intro k1
  ·exact absurd k1 (by decide)
  refine dr ?_;apply cP<;>intro k1
  ·exact absurd k1 (by decide)
  refine dr ?_;apply cP<;>intro k1;rotate_left
  ·exact absurd rfl k1
  refine dr ?_;apply cP<;>intro k2
  ·obtain ⟨l,ls,hl⟩:∃ l ls,w.leases=l::ls:=by
    cases h:w.leases with
    | nil=>rw [h] at k2; simp at k2
    | cons l ls=>exact ⟨l,ls,rfl⟩
   refine dr ?_;repeat ((first|refine aM (j:=0) rfl (by omega) ?_|refine oB (by simp; omega) ?_|refine oB (by simp) ?_); first|refine dr ?_|exact dz)
   refine ⟨({ w with leases:=w.leases++[w.leases[0]'(by omega)] },p+1),⟨hw.set (.inl rfl) (by simp) rfl rfl (by simp) (by simp only; omega) (by simp only; omega),by simp only; omega,by simp only; omega⟩,ya _ (z:=some 7) ?_⟩;refine dr ?_;repeat (refine oB (by first|(simp; done)|(simp; exact congrArg CV.row app1)) ?_; first|refine dr ?_|exact dz)
   trivial
  ·refine dr ?_;refine ⟨(w,p+1),⟨hw',by simp only; omega,by simp only; omega⟩,ya w (z:=some 7) ?_⟩;refine dr ?_;repeat (refine oB (by simp) ?_; first|refine dr ?_|exact dz)
   trivial
 ·
  refine dr ?_;apply cP<;>intro k1
  ·exact absurd k1 (by decide)
  refine dr ?_;apply cP<;>intro k1
  ·exact absurd k1 (by decide)
  refine dr ?_;apply cP<;>intro k1
  ·exact absurd k1 (by decide)
  refine dr ?_;apply cP<;>intro k1
  ·exact absurd k1 (by decide)
  refine dr ?_;apply cP<;>intro k1;rotate_left
  ·exact absurd rfl k1
  refine dr ?_;refine oW (zZ W0 s (p+1) 3 hs (by omega) (by omega)) rfl ⟨rfl,trivial⟩ rfl rfl ⟨0,by omega,by omega⟩ fun i hi=>⟨rfl,?_⟩
  refine dEr ?_;refine oW (zZ W0 s (p+1+1) 3 hs (by omega) (by omega)) rfl ⟨rfl,trivial⟩ rfl rfl ⟨0,by omega,by omega⟩ fun j hj=>⟨rfl,?_⟩
  refine dEr ?_;obtain ⟨i,rfl⟩:∃ k:Nat,i=k:=⟨i.toNat,by omega⟩;obtain ⟨j,rfl⟩:∃ k:Nat,j=k:=⟨j.toNat,by omega⟩;have hi2:i < 3:=by have:=hi.2 (by omega); omega
  have hj2:j < 3:=by have:=hj.2 (by omega); omega
  clear hi hj;have z3:=hz.z.h;rw [h3] at z3;have e0:=z3 h0 (by simp);have e1:=z3 h1 (by simp);have e2:=z3 h2 (by simp);have hc:(i=0∨i=1∨i=2)∧(j=0∨j=1∨j=2):=⟨by omega,by omega⟩;obtain ⟨rfl|rfl|rfl,rfl|rfl|rfl⟩:=hc
  ·
   refine dr ?_;repeat ((first|refine nE (j:=0) rfl ?_|refine oB (by decide) ?_); first|refine dr ?_|exact dz)
   refine oW (yc W0 s (p+1+1+1) hs (by omega)) rfl ⟨rfl,trivial⟩ rfl rfl ⟨_,List.mem_cons_self⟩ fun a3 ha3=>⟨rfl,?_⟩
   refine dEr ?_;refine oW (zZ W0 s (p+1+1+1+1) 3 hs (by omega) (by omega)) rfl ⟨rfl,trivial⟩ rfl rfl ⟨0,by omega,by omega⟩ fun a4 ha4=>⟨rfl,?_⟩
   refine dEr ?_;refine oW (zZ W0 s (p+1+1+1+1+1) 3 hs (by omega) (by omega)) rfl ⟨rfl,trivial⟩ rfl rfl ⟨0,by omega,by omega⟩ fun a5 ha5=>⟨rfl,?_⟩
   have ha5':=ha5.2 (by omega);refine dEr ?_;repeat (refine oB (by omega) ?_; first|refine dEr ?_|exact dz)
   refine ⟨({ w with holds:=[h0++[⟨a3,false,noE,a4,w.clock+a5⟩],h1,h2] },p+1+1+1+1+1+1),⟨hw.hold (by first|omega|(simp; omega)) (by first|omega|(simp; omega)) (by first|omega|(simp; omega)),by simp only; omega,by simp only; omega⟩,Zz _ (h0++[⟨a3,false,noE,a4,w.clock+a5⟩]) (h1) (h2) rfl (z:=some 3) ?_⟩;refine zj.trans (z:=some 3) (F1:=[(4,.ptr 64 0),(5,.ptr 80 0)]) (m1:=(4,.rowP [.c (zf (h0++[⟨a3,false,noE,a4,w.clock+a5⟩])),.c (zf h1),.own 47 h2.length] 44)::(bnB s (p+1+1+1+1+1+1) w (.c (zw w.leases)) (.own 4 3)++[(47,.row (h2.map zG) 7 48)])) (zj.pull 4 31 (m3:=bnB s (p+1+1+1+1+1+1) w (.c (zw w.leases)) (.own 4 3)++[(47,.row (h2.map zG) 7 48)]) (Lp':=[.c (zf (h0++[⟨a3,false,noE,a4,w.clock+a5⟩])),.c (zf h1),.own 47 h2.length]) rfl rfl (by simp [frA,fr1,zf]<;>rfl) rfl ?_) ?_
   ·refine dr ?_;repeat (refine oB (by first|(simp; done)|(simp [zf]; rfl)) ?_; first|refine dr ?_|exact dz)
    trivial
   refine zj.trans (z:=none) (F1:=[(4,.ptr 64 0),(5,.ptr 80 0)]) (m1:=(4,.row [zf (h0++[⟨a3,false,noE,a4,w.clock+a5⟩]),zf (h1),zf (h2)] 1 44)::(bnB s (p+1+1+1+1+1+1) w (.c (zw w.leases)) (.own 4 3))) (zj.er (zj.pull 4 47 (m3:=bnB s (p+1+1+1+1+1+1) w (.c (zw w.leases)) (.own 4 3)) (Lp':=[.c (zf (h0++[⟨a3,false,noE,a4,w.clock+a5⟩])),.c (zf h1),.c (zf h2)]) rfl rfl (by simp [frA,fr1,zf]<;>rfl) rfl ?_) rfl) ?_
   ·refine dr ?_;repeat (refine oB (by first|(simp; done)|(simp [zf]; rfl)) ?_; first|refine dr ?_|exact dz)
    trivial
   refine dr ?_;repeat (refine oB (by first|(simp; done)|(simp [zf]; rfl)) ?_; first|refine dr ?_|exact dz)
   trivial
  ·
   refine dr ?_;repeat ((first|refine nE (j:=1) rfl ?_|refine oB (by decide) ?_); first|refine dr ?_|exact dz)
   refine oW (yc W0 s (p+1+1+1) hs (by omega)) rfl ⟨rfl,trivial⟩ rfl rfl ⟨_,List.mem_cons_self⟩ fun a3 ha3=>⟨rfl,?_⟩
   refine dEr ?_;refine oW (zZ W0 s (p+1+1+1+1) 3 hs (by omega) (by omega)) rfl ⟨rfl,trivial⟩ rfl rfl ⟨0,by omega,by omega⟩ fun a4 ha4=>⟨rfl,?_⟩
   refine dEr ?_;refine oW (zZ W0 s (p+1+1+1+1+1) 3 hs (by omega) (by omega)) rfl ⟨rfl,trivial⟩ rfl rfl ⟨0,by omega,by omega⟩ fun a5 ha5=>⟨rfl,?_⟩
   have ha5':=ha5.2 (by omega);refine dEr ?_;repeat (refine oB (by omega) ?_; first|refine dEr ?_|exact dz)
   refine ⟨({ w with holds:=[h1++[⟨a3,false,noE,a4,w.clock+a5⟩],h1,h2] },p+1+1+1+1+1+1),⟨hw.hold (by first|omega|(simp; omega)) (by first|omega|(simp; omega)) (by first|omega|(simp; omega)),by simp only; omega,by simp only; omega⟩,Zz _ (h1++[⟨a3,false,noE,a4,w.clock+a5⟩]) (h1) (h2) rfl (z:=some 3) ?_⟩;refine zj.trans (z:=some 3) (zj.ung 4 31 (n:=h1.length) (C:=h1.map zG) (Lp':=[.c (.row (h1.map zG++[.agg [CS a3,CB false,CS [],CB false,CS [],CI a4,CI (w.clock+a5)]])),.c (zf h1),.own 47 h2.length]) rfl rfl (by simp) ⟨.inl rfl,.inr ⟨rfl,rfl⟩,.inl rfl,trivial⟩) ?_;refine zj.trans (z:=none) (F1:=[(4,.ptr 64 0),(5,.ptr 80 0)]) (m1:=(4,.row [zf (h1++[⟨a3,false,noE,a4,w.clock+a5⟩]),zf (h1),zf (h2)] 1 44)::(bnB s (p+1+1+1+1+1+1) w (.c (zw w.leases)) (.own 4 3))) (zj.er (zj.pull 4 47 (m3:=bnB s (p+1+1+1+1+1+1) w (.c (zw w.leases)) (.own 4 3)) (Lp':=[.c (zf (h1++[⟨a3,false,noE,a4,w.clock+a5⟩])),.c (zf h1),.c (zf h2)]) rfl rfl (by simp [frA,fr1,zf]<;>rfl) rfl ?_) rfl) ?_
   ·refine dr ?_;repeat (refine oB (by first|(simp; done)|(simp [zf]; rfl)) ?_; first|refine dr ?_|exact dz)
    trivial
   refine dr ?_;repeat (refine oB (by first|(simp; done)|(simp [zf]; rfl)) ?_; first|refine dr ?_|exact dz)
   trivial
  ·
   refine dr ?_;repeat ((first|refine nE (j:=2) rfl ?_|refine oB (by decide) ?_); first|refine dr ?_|exact dz)
   refine oW (yc W0 s (p+1+1+1) hs (by omega)) rfl ⟨rfl,trivial⟩ rfl rfl ⟨_,List.mem_cons_self⟩ fun a3 ha3=>⟨rfl,?_⟩
   refine dEr ?_;refine oW (zZ W0 s (p+1+1+1+1) 3 hs (by omega) (by omega)) rfl ⟨rfl,trivial⟩ rfl rfl ⟨0,by omega,by omega⟩ fun a4 ha4=>⟨rfl,?_⟩
   refine dEr ?_;refine oW (zZ W0 s (p+1+1+1+1+1) 3 hs (by omega) (by omega)) rfl ⟨rfl,trivial⟩ rfl rfl ⟨0,by omega,by omega⟩ fun a5 ha5=>⟨rfl,?_⟩
   have ha5':=ha5.2 (by omega);refine dEr ?_;repeat (refine oB (by omega) ?_; first|refine dEr ?_|exact dz)
   refine ⟨({ w with holds:=[h2++[⟨a3,false,noE,a4,w.clock+a5⟩],h1,h2] },p+1+1+1+1+1+1),⟨hw.hold (by first|omega|(simp; omega)) (by first|omega|(simp; omega)) (by first|omega|(simp; omega)),by simp only; omega,by simp only; omega⟩,Zz _ (h2++[⟨a3,false,noE,a4,w.clock+a5⟩]) (h1) (h2) rfl (z:=some 3) ?_⟩;refine zj.trans (z:=some 3) (zj.ung 4 47 (n:=h2.length) (C:=h2.map zG) (Lp':=[.c (.row (h2.map zG++[.agg [CS a3,CB false,CS [],CB false,CS [],CI a4,CI (w.clock+a5)]])),.own 31 h1.length,.c (zf h2)]) rfl rfl (by simp) ⟨.inl rfl,.inl rfl,.inr ⟨rfl,rfl⟩,trivial⟩) ?_;refine zj.trans (z:=none) (F1:=[(4,.ptr 64 0),(5,.ptr 80 0)]) (m1:=(4,.row [zf (h2++[⟨a3,false,noE,a4,w.clock+a5⟩]),zf (h1),zf (h2)] 1 44)::(bnB s (p+1+1+1+1+1+1) w (.c (zw w.leases)) (.own 4 3))) (zj.er (zj.pull 4 31 (m3:=bnB s (p+1+1+1+1+1+1) w (.c (zw w.leases)) (.own 4 3)) (Lp':=[.c (zf (h2++[⟨a3,false,noE,a4,w.clock+a5⟩])),.c (zf h1),.c (zf h2)]) rfl rfl (by simp [frA,fr1,zf]<;>rfl) rfl ?_) rfl) ?_
   ·refine dr ?_;repeat (refine oB (by first|(simp; done)|(simp [zf]; rfl)) ?_; first|refine dr ?_|exact dz)
    trivial
   refine dr ?_;repeat (refine oB (by first|(simp; done)|(simp [zf]; rfl)) ?_; first|refine dr ?_|exact dz)
   trivial
  ·
   refine dr ?_;repeat ((first|refine nE (j:=0) rfl ?_|refine oB (by decide) ?_); first|refine dr ?_|exact dz)
   refine oW (yc W0 s (p+1+1+1) hs (by omega)) rfl ⟨rfl,trivial⟩ rfl rfl ⟨_,List.mem_cons_self⟩ fun a3 ha3=>⟨rfl,?_⟩
   refine dEr ?_;refine oW (zZ W0 s (p+1+1+1+1) 3 hs (by omega) (by omega)) rfl ⟨rfl,trivial⟩ rfl rfl ⟨0,by omega,by omega⟩ fun a4 ha4=>⟨rfl,?_⟩
   refine dEr ?_;refine oW (zZ W0 s (p+1+1+1+1+1) 3 hs (by omega) (by omega)) rfl ⟨rfl,trivial⟩ rfl rfl ⟨0,by omega,by omega⟩ fun a5 ha5=>⟨rfl,?_⟩
   have ha5':=ha5.2 (by omega);refine dEr ?_;repeat (refine oB (by omega) ?_; first|refine dEr ?_|exact dz)
   refine ⟨({ w with holds:=[h0,h0++[⟨a3,false,noE,a4,w.clock+a5⟩],h2] },p+1+1+1+1+1+1),⟨hw.hold (by first|omega|(simp; omega)) (by first|omega|(simp; omega)) (by first|omega|(simp; omega)),by simp only; omega,by simp only; omega⟩,Zz _ (h0) (h0++[⟨a3,false,noE,a4,w.clock+a5⟩]) (h2) rfl (z:=some 3) ?_⟩;refine zj.trans (z:=some 3) (zj.ung 4 15 (n:=h0.length) (C:=h0.map zG) (Lp':=[.c (zf h0),.c (.row (h0.map zG++[.agg [CS a3,CB false,CS [],CB false,CS [],CI a4,CI (w.clock+a5)]])),.own 47 h2.length]) rfl rfl (by simp) ⟨.inr ⟨rfl,rfl⟩,.inl rfl,.inl rfl,trivial⟩) ?_;refine zj.trans (z:=none) (F1:=[(4,.ptr 64 0),(5,.ptr 80 0)]) (m1:=(4,.row [zf (h0),zf (h0++[⟨a3,false,noE,a4,w.clock+a5⟩]),zf (h2)] 1 44)::(bnB s (p+1+1+1+1+1+1) w (.c (zw w.leases)) (.own 4 3))) (zj.er (zj.pull 4 47 (m3:=bnB s (p+1+1+1+1+1+1) w (.c (zw w.leases)) (.own 4 3)) (Lp':=[.c (zf h0),.c (zf (h0++[⟨a3,false,noE,a4,w.clock+a5⟩])),.c (zf h2)]) rfl rfl (by simp [frA,fr1,zf]<;>rfl) rfl ?_) rfl) ?_
   ·refine dr ?_;repeat (refine oB (by first|(simp; done)|(simp [zf]; rfl)) ?_; first|refine dr ?_|exact dz)
    trivial
   refine dr ?_;repeat (refine oB (by first|(simp; done)|(simp [zf]; rfl)) ?_; first|refine dr ?_|exact dz)
   trivial
  ·
   refine dr ?_;repeat ((first|refine nE (j:=1) rfl ?_|refine oB (by decide) ?_); first|refine dr ?_|exact dz)
   refine oW (yc W0 s (p+1+1+1) hs (by omega)) rfl ⟨rfl,trivial⟩ rfl rfl ⟨_,List.mem_cons_self⟩ fun a3 ha3=>⟨rfl,?_⟩
   refine dEr ?_;refine oW (zZ W0 s (p+1+1+1+1) 3 hs (by omega) (by omega)) rfl ⟨rfl,trivial⟩ rfl rfl ⟨0,by omega,by omega⟩ fun a4 ha4=>⟨rfl,?_⟩
   refine dEr ?_;refine oW (zZ W0 s (p+1+1+1+1+1) 3 hs (by omega) (by omega)) rfl ⟨rfl,trivial⟩ rfl rfl ⟨0,by omega,by omega⟩ fun a5 ha5=>⟨rfl,?_⟩
   have ha5':=ha5.2 (by omega);refine dEr ?_;repeat (refine oB (by omega) ?_; first|refine dEr ?_|exact dz)
   refine ⟨({ w with holds:=[h0,h1++[⟨a3,false,noE,a4,w.clock+a5⟩],h2] },p+1+1+1+1+1+1),⟨hw.hold (by first|omega|(simp; omega)) (by first|omega|(simp; omega)) (by first|omega|(simp; omega)),by simp only; omega,by simp only; omega⟩,Zz _ (h0) (h1++[⟨a3,false,noE,a4,w.clock+a5⟩]) (h2) rfl (z:=some 3) ?_⟩;refine zj.trans (z:=some 3) (F1:=[(4,.ptr 64 0),(5,.ptr 80 0)]) (m1:=(4,.rowP [.c (zf h0),.c (zf (h1++[⟨a3,false,noE,a4,w.clock+a5⟩])),.own 47 h2.length] 44)::(bnB s (p+1+1+1+1+1+1) w (.c (zw w.leases)) (.own 4 3)++[(47,.row (h2.map zG) 7 48)])) (zj.pull 4 15 (m3:=bnB s (p+1+1+1+1+1+1) w (.c (zw w.leases)) (.own 4 3)++[(47,.row (h2.map zG) 7 48)]) (Lp':=[.c (zf h0),.c (zf (h1++[⟨a3,false,noE,a4,w.clock+a5⟩])),.own 47 h2.length]) rfl rfl (by simp [frA,fr1,zf]<;>rfl) rfl ?_) ?_
   ·refine dr ?_;repeat (refine oB (by first|(simp; done)|(simp [zf]; rfl)) ?_; first|refine dr ?_|exact dz)
    trivial
   refine zj.trans (z:=none) (F1:=[(4,.ptr 64 0),(5,.ptr 80 0)]) (m1:=(4,.row [zf (h0),zf (h1++[⟨a3,false,noE,a4,w.clock+a5⟩]),zf (h2)] 1 44)::(bnB s (p+1+1+1+1+1+1) w (.c (zw w.leases)) (.own 4 3))) (zj.er (zj.pull 4 47 (m3:=bnB s (p+1+1+1+1+1+1) w (.c (zw w.leases)) (.own 4 3)) (Lp':=[.c (zf h0),.c (zf (h1++[⟨a3,false,noE,a4,w.clock+a5⟩])),.c (zf h2)]) rfl rfl (by simp [frA,fr1,zf]<;>rfl) rfl ?_) rfl) ?_
   ·refine dr ?_;repeat (refine oB (by first|(simp; done)|(simp [zf]; rfl)) ?_; first|refine dr ?_|exact dz)
    trivial
   refine dr ?_;repeat (refine oB (by first|(simp; done)|(simp [zf]; rfl)) ?_; first|refine dr ?_|exact dz)
   trivial
  ·
   refine dr ?_;repeat ((first|refine nE (j:=2) rfl ?_|refine oB (by decide) ?_); first|refine dr ?_|exact dz)
   refine oW (yc W0 s (p+1+1+1) hs (by omega)) rfl ⟨rfl,trivial⟩ rfl rfl ⟨_,List.mem_cons_self⟩ fun a3 ha3=>⟨rfl,?_⟩
   refine dEr ?_;refine oW (zZ W0 s (p+1+1+1+1) 3 hs (by omega) (by omega)) rfl ⟨rfl,trivial⟩ rfl rfl ⟨0,by omega,by omega⟩ fun a4 ha4=>⟨rfl,?_⟩
   refine dEr ?_;refine oW (zZ W0 s (p+1+1+1+1+1) 3 hs (by omega) (by omega)) rfl ⟨rfl,trivial⟩ rfl rfl ⟨0,by omega,by omega⟩ fun a5 ha5=>⟨rfl,?_⟩
   have ha5':=ha5.2 (by omega);refine dEr ?_;repeat (refine oB (by omega) ?_; first|refine dEr ?_|exact dz)
   refine ⟨({ w with holds:=[h0,h2++[⟨a3,false,noE,a4,w.clock+a5⟩],h2] },p+1+1+1+1+1+1),⟨hw.hold (by first|omega|(simp; omega)) (by first|omega|(simp; omega)) (by first|omega|(simp; omega)),by simp only; omega,by simp only; omega⟩,Zz _ (h0) (h2++[⟨a3,false,noE,a4,w.clock+a5⟩]) (h2) rfl (z:=some 3) ?_⟩;refine zj.trans (z:=some 3) (zj.ung 4 47 (n:=h2.length) (C:=h2.map zG) (Lp':=[.own 15 h0.length,.c (.row (h2.map zG++[.agg [CS a3,CB false,CS [],CB false,CS [],CI a4,CI (w.clock+a5)]])),.c (zf h2)]) rfl rfl (by simp) ⟨.inl rfl,.inl rfl,.inr ⟨rfl,rfl⟩,trivial⟩) ?_;refine zj.trans (z:=none) (F1:=[(4,.ptr 64 0),(5,.ptr 80 0)]) (m1:=(4,.row [zf (h0),zf (h2++[⟨a3,false,noE,a4,w.clock+a5⟩]),zf (h2)] 1 44)::(bnB s (p+1+1+1+1+1+1) w (.c (zw w.leases)) (.own 4 3))) (zj.er (zj.pull 4 15 (m3:=bnB s (p+1+1+1+1+1+1) w (.c (zw w.leases)) (.own 4 3)) (Lp':=[.c (zf h0),.c (zf (h2++[⟨a3,false,noE,a4,w.clock+a5⟩])),.c (zf h2)]) rfl rfl (by simp [frA,fr1,zf]<;>rfl) rfl ?_) rfl) ?_
   ·refine dr ?_;repeat (refine oB (by first|(simp; done)|(simp [zf]; rfl)) ?_; first|refine dr ?_|exact dz)
    trivial
   refine dr ?_;repeat (refine oB (by first|(simp; done)|(simp [zf]; rfl)) ?_; first|refine dr ?_|exact dz)
   trivial
  ·
   refine dr ?_;repeat ((first|refine nE (j:=0) rfl ?_|refine oB (by decide) ?_); first|refine dr ?_|exact dz)
   refine oW (yc W0 s (p+1+1+1) hs (by omega)) rfl ⟨rfl,trivial⟩ rfl rfl ⟨_,List.mem_cons_self⟩ fun a3 ha3=>⟨rfl,?_⟩
   refine dEr ?_;refine oW (zZ W0 s (p+1+1+1+1) 3 hs (by omega) (by omega)) rfl ⟨rfl,trivial⟩ rfl rfl ⟨0,by omega,by omega⟩ fun a4 ha4=>⟨rfl,?_⟩
   refine dEr ?_;refine oW (zZ W0 s (p+1+1+1+1+1) 3 hs (by omega) (by omega)) rfl ⟨rfl,trivial⟩ rfl rfl ⟨0,by omega,by omega⟩ fun a5 ha5=>⟨rfl,?_⟩
   have ha5':=ha5.2 (by omega);refine dEr ?_;repeat (refine oB (by omega) ?_; first|refine dEr ?_|exact dz)
   refine ⟨({ w with holds:=[h0,h1,h0++[⟨a3,false,noE,a4,w.clock+a5⟩]] },p+1+1+1+1+1+1),⟨hw.hold (by first|omega|(simp; omega)) (by first|omega|(simp; omega)) (by first|omega|(simp; omega)),by simp only; omega,by simp only; omega⟩,Zz _ (h0) (h1) (h0++[⟨a3,false,noE,a4,w.clock+a5⟩]) rfl (z:=some 3) ?_⟩;refine zj.trans (z:=some 3) (zj.ung 4 15 (n:=h0.length) (C:=h0.map zG) (Lp':=[.c (zf h0),.own 31 h1.length,.c (.row (h0.map zG++[.agg [CS a3,CB false,CS [],CB false,CS [],CI a4,CI (w.clock+a5)]]))]) rfl rfl (by simp) ⟨.inr ⟨rfl,rfl⟩,.inl rfl,.inl rfl,trivial⟩) ?_;refine zj.trans (z:=none) (F1:=[(4,.ptr 64 0),(5,.ptr 80 0)]) (m1:=(4,.row [zf (h0),zf (h1),zf (h0++[⟨a3,false,noE,a4,w.clock+a5⟩])] 1 44)::(bnB s (p+1+1+1+1+1+1) w (.c (zw w.leases)) (.own 4 3))) (zj.er (zj.pull 4 31 (m3:=bnB s (p+1+1+1+1+1+1) w (.c (zw w.leases)) (.own 4 3)) (Lp':=[.c (zf h0),.c (zf h1),.c (zf (h0++[⟨a3,false,noE,a4,w.clock+a5⟩]))]) rfl rfl (by simp [frA,fr1,zf]<;>rfl) rfl ?_) rfl) ?_
   ·refine dr ?_;repeat (refine oB (by first|(simp; done)|(simp [zf]; rfl)) ?_; first|refine dr ?_|exact dz)
    trivial
   refine dr ?_;repeat (refine oB (by first|(simp; done)|(simp [zf]; rfl)) ?_; first|refine dr ?_|exact dz)
   trivial
  ·
   refine dr ?_;repeat ((first|refine nE (j:=1) rfl ?_|refine oB (by decide) ?_); first|refine dr ?_|exact dz)
   refine oW (yc W0 s (p+1+1+1) hs (by omega)) rfl ⟨rfl,trivial⟩ rfl rfl ⟨_,List.mem_cons_self⟩ fun a3 ha3=>⟨rfl,?_⟩
   refine dEr ?_;refine oW (zZ W0 s (p+1+1+1+1) 3 hs (by omega) (by omega)) rfl ⟨rfl,trivial⟩ rfl rfl ⟨0,by omega,by omega⟩ fun a4 ha4=>⟨rfl,?_⟩
   refine dEr ?_;refine oW (zZ W0 s (p+1+1+1+1+1) 3 hs (by omega) (by omega)) rfl ⟨rfl,trivial⟩ rfl rfl ⟨0,by omega,by omega⟩ fun a5 ha5=>⟨rfl,?_⟩
   have ha5':=ha5.2 (by omega);refine dEr ?_;repeat (refine oB (by omega) ?_; first|refine dEr ?_|exact dz)
   refine ⟨({ w with holds:=[h0,h1,h1++[⟨a3,false,noE,a4,w.clock+a5⟩]] },p+1+1+1+1+1+1),⟨hw.hold (by first|omega|(simp; omega)) (by first|omega|(simp; omega)) (by first|omega|(simp; omega)),by simp only; omega,by simp only; omega⟩,Zz _ (h0) (h1) (h1++[⟨a3,false,noE,a4,w.clock+a5⟩]) rfl (z:=some 3) ?_⟩;refine zj.trans (z:=some 3) (zj.ung 4 31 (n:=h1.length) (C:=h1.map zG) (Lp':=[.own 15 h0.length,.c (zf h1),.c (.row (h1.map zG++[.agg [CS a3,CB false,CS [],CB false,CS [],CI a4,CI (w.clock+a5)]]))]) rfl rfl (by simp) ⟨.inl rfl,.inr ⟨rfl,rfl⟩,.inl rfl,trivial⟩) ?_;refine zj.trans (z:=none) (F1:=[(4,.ptr 64 0),(5,.ptr 80 0)]) (m1:=(4,.row [zf (h0),zf (h1),zf (h1++[⟨a3,false,noE,a4,w.clock+a5⟩])] 1 44)::(bnB s (p+1+1+1+1+1+1) w (.c (zw w.leases)) (.own 4 3))) (zj.er (zj.pull 4 15 (m3:=bnB s (p+1+1+1+1+1+1) w (.c (zw w.leases)) (.own 4 3)) (Lp':=[.c (zf h0),.c (zf h1),.c (zf (h1++[⟨a3,false,noE,a4,w.clock+a5⟩]))]) rfl rfl (by simp [frA,fr1,zf]<;>rfl) rfl ?_) rfl) ?_
   ·refine dr ?_;repeat (refine oB (by first|(simp; done)|(simp [zf]; rfl)) ?_; first|refine dr ?_|exact dz)
    trivial
   refine dr ?_;repeat (refine oB (by first|(simp; done)|(simp [zf]; rfl)) ?_; first|refine dr ?_|exact dz)
   trivial
  ·
   refine dr ?_;repeat ((first|refine nE (j:=2) rfl ?_|refine oB (by decide) ?_); first|refine dr ?_|exact dz)
   refine oW (yc W0 s (p+1+1+1) hs (by omega)) rfl ⟨rfl,trivial⟩ rfl rfl ⟨_,List.mem_cons_self⟩ fun a3 ha3=>⟨rfl,?_⟩
   refine dEr ?_;refine oW (zZ W0 s (p+1+1+1+1) 3 hs (by omega) (by omega)) rfl ⟨rfl,trivial⟩ rfl rfl ⟨0,by omega,by omega⟩ fun a4 ha4=>⟨rfl,?_⟩
   refine dEr ?_;refine oW (zZ W0 s (p+1+1+1+1+1) 3 hs (by omega) (by omega)) rfl ⟨rfl,trivial⟩ rfl rfl ⟨0,by omega,by omega⟩ fun a5 ha5=>⟨rfl,?_⟩
   have ha5':=ha5.2 (by omega);refine dEr ?_;repeat (refine oB (by omega) ?_; first|refine dEr ?_|exact dz)
   refine ⟨({ w with holds:=[h0,h1,h2++[⟨a3,false,noE,a4,w.clock+a5⟩]] },p+1+1+1+1+1+1),⟨hw.hold (by first|omega|(simp; omega)) (by first|omega|(simp; omega)) (by first|omega|(simp; omega)),by simp only; omega,by simp only; omega⟩,Zz _ (h0) (h1) (h2++[⟨a3,false,noE,a4,w.clock+a5⟩]) rfl (z:=some 3) ?_⟩;refine zj.trans (z:=some 3) (F1:=[(4,.ptr 64 0),(5,.ptr 80 0)]) (m1:=(4,.rowP [.c (zf h0),.own 31 h1.length,.c (zf (h2++[⟨a3,false,noE,a4,w.clock+a5⟩]))] 44)::(bnB s (p+1+1+1+1+1+1) w (.c (zw w.leases)) (.own 4 3)++[(31,.row (h1.map zG) 7 48)])) (zj.pull 4 15 (m3:=bnB s (p+1+1+1+1+1+1) w (.c (zw w.leases)) (.own 4 3)++[(31,.row (h1.map zG) 7 48)]) (Lp':=[.c (zf h0),.own 31 h1.length,.c (zf (h2++[⟨a3,false,noE,a4,w.clock+a5⟩]))]) rfl rfl (by simp [frA,fr1,zf]<;>rfl) rfl ?_) ?_
   ·refine dr ?_;repeat (refine oB (by first|(simp; done)|(simp [zf]; rfl)) ?_; first|refine dr ?_|exact dz)
    trivial
   refine zj.trans (z:=none) (F1:=[(4,.ptr 64 0),(5,.ptr 80 0)]) (m1:=(4,.row [zf (h0),zf (h1),zf (h2++[⟨a3,false,noE,a4,w.clock+a5⟩])] 1 44)::(bnB s (p+1+1+1+1+1+1) w (.c (zw w.leases)) (.own 4 3))) (zj.er (zj.pull 4 31 (m3:=bnB s (p+1+1+1+1+1+1) w (.c (zw w.leases)) (.own 4 3)) (Lp':=[.c (zf h0),.c (zf h1),.c (zf (h2++[⟨a3,false,noE,a4,w.clock+a5⟩]))]) rfl rfl (by simp [frA,fr1,zf]<;>rfl) rfl ?_) rfl) ?_
   ·refine dr ?_;repeat (refine oB (by first|(simp; done)|(simp [zf]; rfl)) ?_; first|refine dr ?_|exact dz)
    trivial
   refine dr ?_;repeat (refine oB (by first|(simp; done)|(simp [zf]; rfl)) ?_; first|refine dr ?_|exact dz)
   trivial
 ·refine dr ?_;apply cP<;>intro k0
  ·refine dr ?_;refine oW (yB W0 s (p+1) [-3,1,-1,10000] hs (by omega) (by decide)) rfl ⟨rfl,trivial⟩ rfl rfl ⟨1,by decide⟩ fun y hy=>⟨rfl,?_⟩
   have hy2 : -3≤y∧y≤10000:=by
    simp only [List.mem_cons,List.not_mem_nil,or_false] at hy;omega
   refine dEr ?_;repeat (refine oB (by omega) ?_; first|refine dEr ?_|exact dz)
   refine ⟨({ w with clock:=w.clock+y },p+1+1),⟨hw.set (.inl rfl) (by simp) rfl rfl (by simp) (by simp only; omega) (by simp only; omega),by simp only; omega,by simp only; omega⟩,ya _ (z:=none) ?_⟩;refine dr ?_;repeat (refine oB (by simp) ?_; first|refine dr ?_|exact dz)
   trivial
  refine dr ?_;apply cP<;>intro k1
  ·refine dr ?_;repeat (refine oB (by omega) ?_; first|refine dr ?_|exact dz)
   refine oW (yB W0 s (p+1) [0,-1,w.count - 1,10000] hs (by omega) (by simp)) rfl ⟨rfl,trivial⟩ rfl rfl ⟨0,by simp⟩ fun y hy=>⟨rfl,?_⟩
   have hy2:y=0∨y = -1∨y=w.count - 1∨y=10000:=by
    simpa only [List.mem_cons,List.not_mem_nil,or_false] using hy
   refine dEr ?_;refine ⟨({ w with count:=y },p+1+1),⟨hw.set (.inl rfl) (by simp) rfl rfl (by simp) (by simp only; omega) (by simp only; omega),by simp only; omega,by simp only; omega⟩,ya _ (z:=none) ?_⟩;refine dr ?_;repeat (refine oB (by simp) ?_; first|refine dr ?_|exact dz)
   trivial
  refine dr ?_;apply cP<;>intro k2
  ·refine dr ?_;apply cP<;>intro j2
   ·refine dr ?_;repeat (refine sLoM 1 rfl (by omega) ?_; first|refine dr ?_|exact dz)
    refine ⟨({ w with leases:=w.leases.drop 1 },p+1),⟨hw.set (.inl rfl) (by simp; omega) rfl rfl (by simp) (by simp only; omega) (by simp only; omega),by simp only; omega,by simp only; omega⟩,ya _ (z:=none) ?_⟩;refine dr ?_;repeat (refine oB (by simp) ?_; first|refine dr ?_|exact dz)
    trivial
   ·refine dr ?_;refine ⟨(w,p+1),⟨hw',by simp only; omega,by simp only; omega⟩,ya w (z:=none) ?_⟩;refine dr ?_;trivial
  refine dr ?_;apply cP<;>intro k3
  ·exact absurd k3 hv3
  refine dr ?_;apply cP<;>intro k4
  ·exact absurd k4 hv4
  clear k3 k4;refine dr ?_;apply cP<;>intro k5
  ·refine dr ?_;refine oW (zZ W0 s (p+1) 3 hs (by omega) (by omega)) rfl ⟨rfl,trivial⟩ rfl rfl ⟨0,by omega,by omega⟩ fun k hk=>⟨rfl,?_⟩
   obtain ⟨k,rfl⟩:∃ j:Nat,k=j:=⟨k.toNat,by omega⟩;have hk':k < w.floors.length:=by have:=hk.2 (by omega); omega
   refine dEr ?_;repeat (refine oB (by omega) ?_; first|refine dEr ?_|exact dz)
   refine oW (yB W0 s (p+1+1) [-1,w.count,w.count+1,0] hs (by omega) (by simp)) rfl ⟨rfl,trivial⟩ rfl rfl ⟨0,by simp⟩ fun y hy=>⟨rfl,?_⟩
   refine dEr ?_;repeat ((first|refine aM (j:=k) rfl (by omega) ?_|refine nE (j:=k) rfl ?_); first|refine dEr ?_|exact dz)
   refine ⟨({ w with floors:=w.floors.set k y },p+1+1+1),⟨hw.set (.inl rfl) (by simp) rfl (by simp) (by simp) (by simp only; omega) (by simp only; omega),by simp only; omega,by simp only; omega⟩,ya _ (z:=none) ?_⟩;refine dr ?_;repeat (refine oB (by first|(simp; done)|(simp [List.map_set]; done)) ?_; first|refine dr ?_|exact dz)
   trivial
  refine dr ?_;apply cP<;>intro k6
  ·refine dr ?_;apply cP<;>intro j6
   ·refine dr ?_;refine oW (zZ W0 s (p+1) w.net.length hs (by omega) (by omega)) rfl ⟨rfl,trivial⟩ rfl rfl ⟨0,by omega,by omega⟩ fun k hk=>⟨rfl,?_⟩
    obtain ⟨k,rfl⟩:∃ j:Nat,k=j:=⟨k.toNat,by omega⟩;have hk':k < w.net.length:=by have:=hk.2 (by omega); omega
    refine dEr ?_;refine oW (yB W0 s (p+1+1) [0,5,2,4] hs (by omega) (by decide)) rfl ⟨rfl,trivial⟩ rfl rfl ⟨0,by decide⟩ fun y hy=>⟨rfl,?_⟩
    refine dEr ?_;repeat ((first|refine aM (j:=k) rfl (by omega) ?_|refine nE (j:=k) rfl ?_); first|refine dEr ?_|exact dz)
    refine ⟨({ w with net:=w.net.set k ⟨y,w.net[k].who,w.net[k].hold⟩ },p+1+1+1),⟨hw.set (.inl rfl) (by simp) rfl rfl (by simp) (by simp only; omega) (by simp only; omega),by simp only; omega,by simp only; omega⟩,ya _ (z:=none) ?_⟩;refine dr ?_;repeat (refine oB (by first|(simp; done)|(simp [List.map_set]; rfl)) ?_; first|refine dr ?_|exact dz)
    trivial
   ·refine dr ?_;refine ⟨(w,p+1),⟨hw',by simp only; omega,by simp only; omega⟩,ya w (z:=none) ?_⟩;refine dr ?_;trivial
  refine dr ?_;apply cP<;>intro k7
  ·refine dr ?_;refine oW (zZ W0 s (p+1) 4 hs (by omega) (by omega)) rfl ⟨rfl,trivial⟩ rfl rfl ⟨0,by omega,by omega⟩ fun a1 ha1=>⟨rfl,?_⟩
   have ha1':=ha1.2 (by omega);have ha1'':=ha1.1;refine dEr ?_;repeat (refine oB (by omega) ?_; first|refine dEr ?_|exact dz)
   refine oW (zZ W0 s (p+1+1) 4 hs (by omega) (by omega)) rfl ⟨rfl,trivial⟩ rfl rfl ⟨0,by omega,by omega⟩ fun a2 ha2=>⟨rfl,?_⟩
   refine dEr ?_;refine oW (yc W0 s (p+1+1+1) hs (by omega)) rfl ⟨rfl,trivial⟩ rfl rfl ⟨_,List.mem_cons_self⟩ fun a3 ha3=>⟨rfl,?_⟩
   refine dEr ?_;refine oW (zZ W0 s (p+1+1+1+1) 4 hs (by omega) (by omega)) rfl ⟨rfl,trivial⟩ rfl rfl ⟨0,by omega,by omega⟩ fun a4 ha4=>⟨rfl,?_⟩
   refine dEr ?_;repeat ((first|refine oB (by simp; omega) ?_|refine oB (by simp) ?_); first|refine dEr ?_|exact dz)
   refine ⟨({ w with net:=w.net++[⟨1+a1,a2,⟨a3,false,noE,a4,0⟩⟩] },p+1+1+1+1+1),⟨hw.set (.inl rfl) (by simp) rfl rfl (by simp) (by simp only; omega) (by simp only; omega),by simp only; omega,by simp only; omega⟩,ya _ (z:=none) ?_⟩;refine dr ?_;repeat (refine oB (by first|(simp; done)|(simp; rfl)) ?_; first|refine dr ?_|exact dz)
   trivial
  refine dr ?_;apply cP<;>intro k8
  ·refine dr ?_;refine ⟨({ w with waits:=!w.waits },p+1),⟨hw.set (.inl rfl) (by simp) rfl rfl (by simp) (by simp only; omega) (by simp only; omega),by simp only; omega,by simp only; omega⟩,ya _ (z:=none) ?_⟩;refine dr ?_;repeat (refine oB (by simp) ?_; first|refine dr ?_|exact dz)
   trivial
  refine dr ?_;apply cP<;>intro k9
  ·have q:=zap W0 w.over ⟨2,[47,97],[],[113]⟩;have qs:=@OS.do w.over ⟨2,[47,97],[],[113]⟩
   refine dEr ?_;repeat (refine c0 q rfl ?_; first|refine dEr ?_|exact dz)
   refine ⟨({ w with over:=(oDo w.over ⟨2,[47,97],[],[113]⟩).1 },p+1),⟨hw.set (.inr qs.oz) (by simp) rfl rfl (by simp) (by simp only; omega) (by simp only; omega),by simp only; omega,by simp only; omega⟩,ya _ (z:=none) ?_⟩;refine dr ?_;repeat (refine oB (by simp) ?_; first|refine dr ?_|exact dz)
   trivial
  ·refine dr ?_;refine ⟨(w,p+1),⟨hw',by simp only; omega,by simp only; omega⟩,ya w (z:=none) ?_⟩;refine dr ?_;trivial

def w0W:Wld:=newW noO
theorem w0R:WR 0 w0W:=(WG.new zgl).wr HZ.new (by omega)

def zkS:XC:=(.s (.r [.ex 2 (.alloc zW),.ex 3 (.alloc zV)]) (.s (.r [.mv 8 0,.o1 9 33 [8],.mv 4 9]) (.s (.r [.mv 10 4,.mv 11 4,.o1 12 35 [11],.o1 13 34 [10,12],.ex 5 (.alloc zW),.s1 14 5 13]) (.s (.r [.f1 15 0 5,.l2 16 3 15,.c1 17 36 [16],.mv 14 17,.e1 18 14 0,.e1 19 14 1,.a1 6 18 3 46,.mv 7 19]) (.s (.d [.exl 20 (.ld true 14 5),.mv 21 4,.mv 22 6,.f1 23 8 5,.exl 24 (.ld false 1 23),.n1 25 24,.exl 26 (.opn 82 [21,22,25]),.s1 14 2 20,.s1 8 3 26]) .ret)))))
theorem zkT:zc Tryz.prog [33,35,34,82] 30=some (zkS.ac,[(.cell 2 true 14),(.cell 3 true 8)],27):=by kernel_rfl
theorem zbV (W0:World) (c:Str):zx Tryz.prog W0 30 [.c (qm c)] [] (fun x:Wld × Ev=>WR 1 x.1) (fun x => .tup [.c (zv x.1),.c (eEv x.2)]) (fun _=>[]):=by
 refine fW mixed zkT fun hg=>?_
 refine dr ?_;refine oW (zps W0 c) rfl trivial rfl rfl ⟨[],by simp⟩ fun s hs=>⟨rfl,?_⟩
 refine dEr ?_;refine oW (zp7 W0 s 0 hs (by omega)) rfl ⟨rfl,trivial⟩ rfl rfl ⟨(w0W,0),w0R,by simp,by simp⟩ fun x hx=>⟨rfl,?_⟩
 obtain ⟨w,q⟩:=x;obtain ⟨a1,a2,a3⟩:WR 0 w∧0≤q∧q≤0+1200:=hx;refine dEr ?_;refine oW (zpM W0 s q 0 w hs (by omega) (by omega) a1) rfl ⟨rfl,trivial⟩ rfl rfl ⟨(w,q),a1.mono (by omega),by simp only; omega,by simp only; omega⟩ fun x hx=>⟨rfl,?_⟩
 obtain ⟨x,r⟩:=x;obtain ⟨b1,b2,b3⟩:WR 1 x∧q≤r∧r≤q+8:=hx;have hv:=ZJ W0 x.over;have hvl:=@zbo x.over;rw [Y6] at hv;generalize (jk x.over).getD []=t at *;have hnt:=b1.z.t;refine dEr ?_;repeat (refine c0 hv rfl ?_; first|refine dEr ?_|exact dz)
 refine oW (zeI W0 s r t x.net.length hs (by omega) (by omega) (by omega)) rfl ⟨rfl,trivial⟩ rfl rfl ⟨((⟨0,0,[],zO,0⟩,r):Ev × Int),by simp only; omega,by simp only; omega⟩ fun y hy=>⟨rfl,?_⟩
 obtain ⟨ev,r2⟩:=y;refine dEr ?_;refine ⟨none,_,_,?_,(x,ev),b1,rfl,rfl⟩;refine dr ?_;trivial

open Go Go.RowKit Go.WideShapes Go.ChangeShapes Go.ChangeAt
abbrev RC (W:World) (y:CV) (v:Value):Prop:=RepC W (fun _=>False) y v∧v.oneCell'=true
def Opn {H:Type} (enc:TypeId × Value→H) (P:Program) (W:World) (t:TypeId) {α:Type} (f:α→CV):Prop :=
 ∀ (base:Nat) (sp:Nat→Bool) (held:Bool) (fuel:Nat) (cs:List Value) (x:DataW H × List MemPlace),DataW.trod enc P W base sp held fuel t cs=some x→∃ a:α,zb (RC W) (f a).cells cs
section
variable {H:Type} {enc:TypeId × Value→H} {P:Program} {W:World}
theorem zrZ {t:TypeId} (ht:P.underlying t=some (.int .u8)):Opn enc P W t (fun b:UInt8=>CU b.toNat):=by
 intro base sp held fuel cs x h;obtain ⟨n,rfl,_,hw⟩:=DataW.trod_int ht h;have hw':0≤n∧n≤255:=by simpa [Lit.wf,IntKind.min,IntKind.max,IntKind.signed,IntKind.bits] using hw
 have e:((UInt8.ofNat n.toNat).toNat:Int)=n:=by simp; omega
 refine ⟨UInt8.ofNat n.toNat,⟨?_,rfl⟩,trivial⟩;show RepC W _ (CU (UInt8.ofNat n.toNat).toNat) _;rw [e];exact .sc (by simpa [wfv,IntKind.min,IntKind.max,IntKind.signed,IntKind.bits] using hw')
theorem YL {a:Addr} (h:a.spot=none) (n:Nat):a.add n=⟨a.block,a.off+n,none⟩:=by
 unfold Addr.add;split
 ·rename_i hn; subst hn; cases a; simp at h; subst h; rfl
 ·rfl
theorem zdE {α:Type} {R:CV→Value→Prop} {f:α→CV} {sz:Nat} {g:Nat→List Value}:∀ {L:List α} {k:Nat},(∀ i (h:i < L.length),zb R (f L[i]).cells (g (k+i))) →
  zb R ((L.map f).flatMap CV.cells) ((List.range' k L.length).flatMap g)
 | [],k,_=>trivial
 | a::L,k,h=>by
  simp only [List.map_cons,List.flatMap_cons,List.length_cons,List.range'_succ];refine zb.append (h 0 (by simp)) (zdE (sz:=sz) (k:=k+1) fun i hi=>?_);have:=h (i+1) (by simp; omega);rw [show k+1+i=k+(i+1) by omega]
  simpa using this
theorem zfZ {α:Type} {q:Nat→α→Prop}:∀ {n:Nat},(∀ i,i < n→∃ a,q i a)→∃ L:List α,L.length=n∧∀ i (h:i < L.length),q i L[i]
 | 0,_=>⟨[],rfl,fun i h=>by simp at h⟩
 | n+1,h=>by
  obtain ⟨L,hl,hq⟩:=zfZ (n:=n) fun i hi=>h i (by omega)
  obtain ⟨a,ha⟩:=h n (by omega);refine ⟨L++[a],by simp [hl],fun i hi=>?_⟩;by_cases hin:i < L.length
  ·rw [List.getElem_append_left hin]; exact hq i hin
  ·have:i=L.length:=by simp at hi; omega
   subst this;simp only [List.getElem_concat_length];rw [hl]; exact ha
theorem zrY {t e:TypeId} {α:Type} {f:α→CV} (sz:Nat) (ht:P.underlying t=some (.slice e)) (hc:P.cellsOf e=sz) (h0:0 < sz) (hf:∀ a,(f a).cells.length=sz) (he:Opn enc P W e f):Opn enc P W t (fun l:List α => .row (l.map f)):=by
 intro base sp held fuel cs x h;rcases DataW.trod_slice ht h with ⟨rfl,_⟩ | ⟨a,len,cap,elems,rest,n,_,rfl,_,_,hle,hcap,helen,hel,_⟩
 ·exact ⟨[],⟨.nil (Nat.zero_le _),rfl⟩,trivial⟩
 ·rw [hc] at hel;have key:∀ i,i < len→∃ (y:α),∃ cs',cs'.length=sz∧(∀ j,j < sz→W.cell? ((a.add (i * sz)).add j)=cs'[j]?)∧zb (RC W) (f y).cells cs':=by
   intro i hi;have h1:=hel i hi;have h2:∃ z,elems[i]? = some z:=⟨elems[i]'(by omega),by simp [helen,hi]⟩;obtain ⟨z,h2⟩:=h2;rw [h2] at h1;obtain ⟨cs',h3,h4⟩:=Option.bind_eq_some_iff.1 h1;obtain ⟨y,hy⟩:=he _ _ _ _ _ _ h4;obtain ⟨_,h5,h6⟩:=World.cells?_some h3;exact ⟨y,cs',h5,h6,hy⟩
  obtain ⟨L,hl,hL⟩:=zfZ key;refine ⟨L,⟨?_,rfl⟩,trivial⟩;by_cases hne:L=[]
  ·subst hne;simp only [List.length_nil] at hl;subst hl;exact .nil hcap
  ·have hpos:0 < L.length:=List.length_pos_iff.2 hne;have hsp:a.spot=none:=by
    obtain ⟨cs',h5,h6,_⟩:=hL 0 hpos;have:=h6 0 h0;simp only [Nat.zero_mul] at this;have e0:(a.add 0).add 0=a:=by simp [Addr.add]
    rw [e0] at this;have h7:∃ u,cs'[0]? = some u:=⟨cs'[0]'(by omega),by simp [h5,h0]⟩;obtain ⟨u,h7⟩:=h7;rw [h7] at this;unfold World.cell? at this;split at this
    ·split at this
     ·cases this
     ·rename_i hh; simpa using hh
    ·cases this
   let g:Nat→List Value:=fun i=>(List.range sz).map fun j=>(W.cell? ⟨a.block,a.off+(i * sz+j),none⟩).getD undef
   have hg:∀ i (h:i < L.length),zb (RC W) (f L[i]).cells (g i)∧∀ j,j < sz→W.cell? ⟨a.block,a.off+(i * sz+j),none⟩=(g i)[j]? := by
    intro i hi;obtain ⟨cs',h5,h6,h7⟩:=hL i hi;have e:g i=cs':=by
     apply List.ext_getElem?;intro j;by_cases hj:j < sz
     ·have:=h6 j hj;rw [YL hsp,YL rfl] at this;simp only [g,List.getElem?_map,List.getElem?_range hj,Option.map_some];rw [show a.off+(i * sz+j)=a.off+i * sz+j by omega,this];have:cs'[j]? = some (cs'[j]'(by omega)):=by simp [h5,hj]
      rw [this]; rfl
     ·rw [List.getElem?_eq_none (by simp [g]; omega),List.getElem?_eq_none (by omega)]
    rw [e];refine ⟨h7,fun j hj=>?_⟩;have:=h6 j hj;rw [YL hsp,YL rfl] at this;rw [← this,show a.off+i * sz+j=a.off+(i * sz+j) by omega]
   have hall:=zdE (R:=RC W) (f:=f) (sz:=sz) (g:=g) (L:=L) (k:=0) fun i hi=>by simpa using (hg i hi).1
   have hlen:(L.map f).length=len:=by simpa using hl
   have hcell:∀ (m:Nat),m≤L.length→∀ j v,((List.range' 0 m).flatMap g)[j]? = some v→W.cell? ⟨a.block,a.off+j,none⟩=some v:=by
    intro m;induction m with
    | zero=>intro _ j v hv; simp at hv
    | succ m ih =>
     intro hm j v hv;rw [List.range'_concat,List.flatMap_append] at hv;have hln:∀ m,((List.range' 0 m).flatMap g).length=m * sz:=by
      intro m;induction m with
      | zero=>simp
      | succ m ih=>rw [List.range'_concat,List.flatMap_append,List.length_append,ih]; simp [g,Nat.add_mul]
     by_cases hj:j < m * sz
     ·rw [List.getElem?_append_left (by rw [hln]; exact hj)] at hv;exact ih (by omega) j v hv
     ·rw [List.getElem?_append_right (by rw [hln]; omega),hln] at hv;simp only [Nat.zero_add,Nat.one_mul,List.flatMap_cons,List.flatMap_nil,List.append_nil] at hv;have hj2:j - m * sz < sz:=by
       rcases Nat.lt_or_ge (j - m * sz) sz with h' | h'
       ·exact h'
       ·rw [List.getElem?_eq_none (by simp [g]; omega)] at hv; cases hv
      have:=(hg m (by omega)).2 _ hj2;rw [hv,show m * sz+(j - m * sz)=j by omega] at this;exact this
   obtain ⟨ab,ao,asp⟩:=a;simp only at hsp;subst hsp;rw [← hlen];refine .row (sz:=sz) (vs:=(List.range' 0 L.length).flatMap g) (by simpa using hne) h0 (by rw [hlen]; exact hle) hcap (fun h=>h) ?_ hall.length ?_ ?_ fun j v hv=>?_
   ·intro y hy;obtain ⟨b,_,rfl⟩:=List.mem_map.1 hy;exact hf b
   ·intro i y v hy hv;obtain ⟨u,hu,hr⟩:=hall.get i y hy;rw [hv] at hu; cases hu; exact hr.1
   ·intro v hv;obtain ⟨i,hi⟩:=List.mem_iff_getElem?.1 hv;have hlt:i < ((L.map f).flatMap CV.cells).length:=by
     rw [hall.length]; exact (List.getElem?_eq_some_iff.1 hi).1
    obtain ⟨u,hu,hr⟩:=hall.get i _ (List.getElem?_eq_getElem hlt);rw [hi] at hu; cases hu; exact hr.2
   ·exact hcell L.length (Nat.le_refl _) j v hv
theorem zrX {y:CV} (hy:∀ cs,y ≠ .agg cs) {vs:List Value} (h:zb (RC W) y.cells vs):∃ v,vs=[v]∧RC W y v:=by
 have e:y.cells=[y]:=by cases y<;>first|rfl|exact absurd rfl (hy _)
 rw [e] at h
 match vs,h with
 | [v],h=>exact ⟨v,rfl,h.1⟩
theorem zbt {t:TypeId} {α:Type} {f:α→CV} (h:Opn enc P W t f) (hf:∀ a cs,f a ≠ .agg cs) {base:Nat} {v:Value} (h1:∀ cs,v ≠ .agg cs)
  {sp:Nat→Bool} {held:Bool} {d:DataW H} {ps:List MemPlace} (hd:DataW.Trod enc P W base sp held t v d ps):∃ a,RepC W (fun _=>False) (f a) v:=by
 obtain ⟨fuel,hx⟩:=hd;obtain ⟨a,ha⟩:=h _ _ _ _ _ _ hx;obtain ⟨u,hu,hr⟩:=zrX (hf a) ha;refine ⟨a,?_⟩;have:v.cells.toList=[v]:=by cases v<;>first|rfl|exact absurd rfl (h1 _)
 rw [this] at hu; cases hu;exact hr.1
theorem zcc {f:FuncId} {args:List CV} {vs:Array Value} (h:Fn P W f args (.c (CB true)) []) (ha:zb (RepC W fun _=>False) args vs.toList) :
  Calls P f vs W fun e W'=>e = .returned (.bool true)∧Below W.heap.size W W':=by
 have hlive:∀ b,¬ zi ⟨fun _=>none,fun _=>False⟩ [] b:=by
  rintro b (hb | ⟨id,hb,_⟩)
  ·exact hb
  ·simp [lk] at hb
 have hm:MemOk ⟨fun _=>none,fun _=>False⟩ [] W:=⟨fun id b hb=>by simp [lk] at hb,fun i j b hi=>by simp [lk] at hi,fun b hb=>hb.elim,fun id b hb=>by simp [lk] at hb⟩;refine (h ⟨fun _=>none,fun _=>False⟩ W vs (Below.refl _ _) (MW.start hm fun b hb=>(hlive b hb).elim) ?_).mono ?_
 ·have key:∀ {args:List CV} {us:List Value},zb (RepC W fun _=>False) args us→zb (Rep ⟨fun _=>none,fun _=>False⟩ [] W) (args.map .c) us:=by
   intro args;induction args with
   | nil=>intro us h; cases us with | nil=>trivial | cons=>exact h.elim
   | cons a l ih =>
    intro us h;cases us with
    | nil=>exact h.elim
    | cons u us =>
     refine ⟨RepC.rep (h.1.mono fun b o v _ hc=>⟨hlive b,hc⟩),ih h.2⟩
  exact key ha
 ·rintro e W' ⟨v,r,m',κ',rfl,⟨rfl,rfl⟩,h1,h2⟩;refine ⟨?_,?_⟩
  ·have:=Rep.c h2;cases this;rfl
  ·have e:=h1.ext;exact ⟨e.os,e.tape,e.output,e.size,fun k hk=>e.block k hk fun ⟨id,hid,_⟩=>by simp [lk] at hid⟩
theorem zhH (hl:laidOutB P=true) {W':World} (hb:Below W.heap.size W W') {sp:Nat→Bool}:∀ {ts:List TypeId} {vs:List Value} {ds:List (DataW H)} {ps:List MemPlace},(∀ t∈ts,P.readableRec t=true∧t < P.types.size) →
  DataW.TrodAll enc P W 0 (fun _=>true) true ts vs ds ps→(∀ p∈ps,p.block < W.heap.size)→(∀ p∈ps,sp p.block=true)→DataW.TrodAll enc P W' 0 sp true ts vs ds ps
 | [],[],[],ps,_,h,_,_=>h
 | t::ts,v::vs,d::ds,ps,hr,h,hlt,hs=>by
  obtain ⟨p,q,h1,h2,rfl⟩:=h;obtain ⟨h3,h4⟩:=hr t (by simp);exact ⟨p,q,WideElems.Trod_stays hl h3 h4 h1 (fun x hx=>hb.same (hlt x (by simp [hx]))) (fun x hx=>hs x (by simp [hx])),
   zhH hl hb (fun t ht=>hr t (by simp [ht])) h2 (fun x hx=>hlt x (by simp [hx])) (fun x hx=>hs x (by simp [hx])),rfl⟩
 | [],_::_,_,_,_,h,_,_=>h.elim
 | [],[],_::_,_,_,h,_,_=>h.elim
 | _::_,[],_,_,_,h,_,_=>h.elim
 | _::_,_::_,[],_,_,h,_,_=>h.elim
theorem zcC (hl:laidOutB P=true) {fn:Func} {s:ChangeSpec} {tb:TypeId} {apart fresh handsOn again:Bool} {W':World} {args:Array Value} {ds:List (DataW H)} {before:List MemPlace}
  (hr:(fn.params.toList.all fun t=>P.readableRec t&&decide (t < P.types.size))=true) (hres:fn.resultTypes=#[tb]) (htb:P.underlying tb=some .bool) (hv:s.vars=[])
  (hW:DataW.Whole enc P fn.params.toList s.vars apart W args.toList ds [] before) (hs:s.fn H (ds++[])={ results:=[.lit (.bool true)],args:=ds }) (hb:Below W.heap.size W W') :
  s.post enc P fn apart fresh handsOn again W args (.bool true) W':=by
 have hr:∀ t∈fn.params.toList,P.readableRec t=true∧t < P.types.size:=fun t ht=>by
  have:=List.all_eq_true.1 hr t ht
  simpa using this
 have hlt:∀ p∈before,p.block < W.heap.size:=fun p hp=>hW.lt p hp
 have hW0:=hW;obtain ⟨p,q,hA,hV,hpq,hfz,hnd⟩:=hW;rw [hv] at hV;obtain ⟨_,rfl⟩:=trodVars_none hV;rw [List.append_nil] at hpq;subst hpq;have hbool:∀ (b:Nat) (sp:Nat→Bool) (hd:Bool),DataW.TrodAll enc P W' b sp hd fn.resultTypes.toList ((Value.bool true).resultList fn.resultTypes.size) (s.fn H (ds++[])).results []:=by
  intro b sp hd;rw [hres,hs];exact trodAll_mk1 ⟨1,by simp [DataW.trod,Value.cells,htb]⟩
 have hargs:∀ sp:Nat→Bool,(∀ x∈before,sp x.block=true)→DataW.TrodAll enc P W' 0 sp true fn.params.toList args.toList ds before:=fun sp hsp=>zhH hl hb hr hA hlt hsp
 have hvars:∀ sp,DataW.TrodVars enc P W' sp s.vars [] []:=fun sp=>by rw [hv]; rfl
 refine ⟨ds,[],before,[],before,[],hW0,hbool _ _ _,?_,?_,World.keptBut_mono (fun x hx=>⟨hx,.inr (.inl hx)⟩) (hb.frame (·∈before)),fun _=>⟨fun j t r ht hr'=>?_,(s.fn H (ds++[])).results++ds,[],before,⟨before,[],?_,?_,(List.append_nil _).symm,fun b off hx=>?_,hnd⟩,fun x hx _=>hx⟩⟩
 ·rw [hs]; exact hargs _ fun x hx=>by simpa using hlt x hx
 ·rw [hs]; exact hvars _
 ·rw [hres] at ht hr'
  match j,ht,hr' with
  | 0,ht,hr' =>
   have e1:tb=t:=by simpa using ht
   have e2:Value.bool true=r:=by simpa [Value.resultList] using hr'
   subst e1 e2;simp [Value.okWide,htb,Cell.okWide,Cell.ok]
  | j+1,ht,_=>simp at ht
 ·have:=trodAll_append (hargs (fun _=>true) fun _ _=>rfl) (hbool 0 (fun _=>true) true)
  simpa using this
 ·exact hvars _
 ·rw [hb.frozen (hlt _ hx)]; exact hfz b off hx
end

theorem zcB:laidOutB Tryz.prog=true:=by kernel_rfl
theorem ownK:ownKnob Tryz.prog.godebug=none:=by kernel_rfl
section
variable {H:Type} {enc:TypeId × Value→H} {W:World}
set_option maxRecDepth 100000 in
theorem zbs {r:Reach} {b:Nat} {v:Value} (h:Value.okWide Tryz.prog W r b 22 v):∀ cs,v ≠ .agg cs:=by
 rintro cs rfl;unfold Value.okWide at h;rw [Tryz.underlying22] at h;unfold Cell.okWide at h;rw [Tryz.underlying22] at h;unfold Cell.ok at h;rw [Tryz.underlying22] at h;exact h
theorem zcR:Opn enc Tryz.prog W 22 qm:=zrY (f:=fun b:UInt8=>CU b.toNat) 1 (by kernel_rfl) (by kernel_rfl) (by decide) (fun _=>rfl) (zrZ (t:=5) (by kernel_rfl))
end

def zr8:List Value:=[128,191,160,191,128,159,144,191,128,143,0,0,0,0,0,0,0,0,0,0,0,0,0,0,0,0,0,0,0,0,0,0].map fun n:Nat=>Value.int .u8 (n:Int)
def firstCells:List Value:=Go.Pinned.utf8FirstZ.map fun n:Nat=>Value.int .u8 (n:Int)
def ZO (P:Program) (os:Os):World:=Sort.mapBlock (Sort.mapBlock (World.holding P os ⟨#[],#[],[]⟩) 2 fun _=>zr8.toArray) 1 fun _=>firstCells.toArray

theorem zcs {W:World} (h:W.ShapedOpen Tryz.prog):HM W :=
 Go.Proofs.cell_of_shapedOpen_int (zero:=#[.int .i64 0]) (t:=3) h (of_decide_eq_true (by kernel_rfl)) (by kernel_rfl) rfl (by kernel_rfl) (by kernel_rfl) Tryz.underlying3

theorem xiT {a:Int} {A B:Prop} (h:A):cndX (eqI a a) A B:=by rw [qg.2 rfl]; exact h
theorem xiF {a:Int} {A B:Prop} (h:B):cndX (!eqI a a) A B:=by rw [qg.2 rfl]; exact h
theorem xbT {a:Bool} {A B:Prop} (h:A):cndX (eqB a a) A B:=by rw [Z1.2 rfl]; exact h
theorem xbF {a:Bool} {A B:Prop} (h:B):cndX (!eqB a a) A B:=by rw [Z1.2 rfl]; exact h
theorem xiN {a b:Int} {A B:Prop} (k:B) (h:a≠b:=by decide):cndX (eqI a b) A B:=by rw [zad.2 h]; exact k
theorem xiM {a b:Int} {A B:Prop} (k:A) (h:a≠b:=by decide):cndX (!eqI a b) A B:=by rw [zad.2 h]; exact k
theorem xbN {a b:Bool} {A B:Prop} (k:B) (h:a≠b:=by decide):cndX (eqB a b) A B:=by rw [zbR.2 h]; exact k
theorem xbM {a b:Bool} {A B:Prop} (k:A) (h:a≠b:=by decide):cndX (!eqB a b) A B:=by rw [zbR.2 h]; exact k
theorem xeT {p d:Str} {b:Bool} {A B:Prop} (h:A):cndX (eqS p p&&(eqB b b&&(eqS d d&&true))) A B:=by rw [ZE.2 rfl,Z1.2 rfl,ZE.2 rfl]; exact h
theorem xeF {p d:Str} {b:Bool} {A B:Prop} (h:B):cndX (!(eqS p p&&(eqB b b&&(eqS d d&&true)))) A B:=by rw [ZE.2 rfl,Z1.2 rfl,ZE.2 rfl]; exact h
theorem j7 (W0:World) (a b:Over) (h:a=b):Fn Tryz.prog W0 32 [jL a,jL b] (.c (CB true)) []:=by
 have:=zeu W0 a b
 rwa [decide_eq_true h] at this
theorem j0 (W0:World) (a b:List Ent) (h:a=b):Fn Tryz.prog W0 31 [za a,za b] (.c (CB true)) []:=by
 have:=zer W0 a b
 rwa [decide_eq_true h] at this
theorem j3 (W0:World) (a b:List Mark) (h:a=b):Fn Tryz.prog W0 85 [ze a,ze b] (.c (CB true)) []:=by
 have:=zaf W0 a b
 rwa [decide_eq_true h] at this

section
variable {w:Wld}
def jN:Nat→Wld→Wld
 | 0,w=>w
 | n+1,w=>yv (jN n w)
theorem zbg (h:WG w):∀ n,Later w (jN n w)
 | 0 => .refl h
 | n+1=>(zbg h n).tick
theorem zbe:∀ {n:Nat},w.clock+n≤10000→(jN n w).clock=w.clock+n
 | 0,_=>by simp [jN]
 | n+1,h=>by
  have ih:=zbe (n:=n) (by omega);show jZ (jN n w)=_;unfold jZ;rw [ih,if_pos (by omega)];omega
theorem zdu (h:WG w) (n:Nat):WG (jN n w):=(zbg h n).g
theorem zhA (h:WG w) (n:Nat):wDo (jN n w) ⟨4,0,[],zO,0⟩=(jN (n+1) w,0):=by
 rw [Ze (zdu h n),zhz]; rfl
theorem ztG (h:WG w) (hw:w.waits=true) {n:Nat} (hn:w.clock+n≤10000) (hb:∀ l∈zS w w.op,l.til≤w.clock+n) :
  wDo (jN n w) ⟨3,0,[],zO,0⟩=({ jN n w with over:=(oDo w.over w.op).1,waits:=false,op:=zO },0)∧(zF (vwG w.over) w.op).2=0∧vwG (oDo w.over w.op).1=(zF (vwG w.over) w.op).1:=by
 have hl:=zbg h n;have hb2:=hl.none (late:=w.clock+n) hb (zbe hn) (by omega);refine ⟨?_,h.wt.2 hw,ztD h w.op⟩;rw [Ze hl.g,ztv];rcases @ztu (jN n w) with ⟨a,q⟩ | ⟨a,b,q⟩ | ⟨a,b,q⟩
 ·rw [hl.wt,hw] at a; cases a
 ·exact absurd hb2 b
 ·rw [q,hl.op,hl.o]
theorem ends (h:WG w) (hc:w.clock≤9990):(jN 5 w).leases=[]:=by
 have hl:=zbg h 5;have hk:=zbe (w:=w) (n:=5) (by omega);cases he:(jN 5 w).leases with
 | nil=>rfl
 | cons l r =>
  exfalso;obtain ⟨h1,h2⟩:=hl.l l (by rw [he]; simp);have:=(h.ls.g l h1).2.2.2.2;rcases h2 with h2 | h2<;>omega
end

theorem kF {a b:Int} {A B:Prop} (h:a≠b) (k:B):cndX (eqI a b) A B:=by rw [zad.2 h]; exact k
theorem kFn {a b:Int} {A B:Prop} (h:a=b) (k:B):cndX (!eqI a b) A B:=by rw [qg.2 h]; exact k
theorem kLt {a b:Int} {A B:Prop} (h:a < b) (k:A):cndX (ltI a b) A B:=by rw [zaP.2 h]; exact k
theorem kGe {a b:Int} {A B:Prop} (h:b≤a) (k:B):cndX (ltI a b) A B:=by rw [zf5.2 h]; exact k
theorem kGt {a b:Int} {A B:Prop} (h:b < a) (k:B):cndX (leI a b) A B:=by rw [zfU.2 h]; exact k
theorem kNt {b:Bool} {A B:Prop} (h:b=true) (k:B):cndX (!b) A B:=by rw [h]; exact k
theorem kNf {b:Bool} {A B:Prop} (h:b=false) (k:A):cndX (!b) A B:=by rw [h]; exact k
theorem xhF {p d e:Str} {b c:Bool} {i j:Int} {A B:Prop} (h:B):cndX (!(eqS p p&&(eqB b b&&(eqS d d&&(eqB c c&&(eqS e e&&(eqI i i&&(eqI j j&&true)))))))) A B:=by
 rw [ZE.2 rfl,Z1.2 rfl,ZE.2 rfl,Z1.2 rfl,ZE.2 rfl,qg.2 rfl,qg.2 rfl]; exact h
theorem zda (W0:World) (a:Wld):Fn Tryz.prog W0 21 [zv a,zv a] (.c (CB true)) []:=by
 have:=zpp W0 a a
 simpa using this

def zlq:XC:=(.s (.r [.x1 2 0,.x1 3 1,.ex 4 (.newb zW),.m1 5 (.i 0)]) (.s (.s (.r [.l2 8 14 2,.c1 9 15 [8],.u1 10 9]) (.cnd 10 (.s (.r [.ex 11 (.build zW []),.s1 14 4 11,.m1 5 (.i 1)]) .ret) .skip)) (.s (.d [.exo [4,5,6,592] 13 (.ld true 14 2),.exo [4,5,6,592] 14 (.opn 81 [13]),.exo [4,5,6,592] 15 (.ld true 8 3),.exo [4,5,6,592] 16 (.opn 80 [14,15]),.mv 12 16,.e1 17 12 0,.e1 18 12 1,.ex 6 (.newb zW),.s1 14 6 17,.mv 7 18]) (.s (.r [.l2 19 14 6,.o1 20 81 [19],.mv 21 7,.s1 14 4 20,.mv 5 21]) .ret))))
theorem zlr:zc Tryz.prog [80,81,999997,1000004,1000005,1000006,1000592] 29=some (zlq.ac,[(.cell 4 true 14),(.t 5)],22):=by kernel_rfl
theorem zb7 (W0:World) (w:Wld) (ev:Ev) (hz:HZ 100000 w):Fn Tryz.prog W0 29 [zv w,eEv ev] (.c (.tup [zv (wDo w ev).1,CI (wDo w ev).2])) []:=by
 refine fX mixed zlr fun hg=>?_
 refine dEr ?_;repeat (refine c0 (zaq W0 w) rfl ?_; first|refine dEr ?_|exact dz)
 apply cP<;>intro h1
 ·refine dr ?_;unfold wDo; rw [if_neg h1]<;>rfl
 rw [Ze h1];have hx:=h1.ev ev;have hz':=hz.ev ev;refine dr ?_;refine oW (zpQ W0 w (h1.wz (hz.mono (by omega)) (by omega))) rfl trivial rfl rfl ⟨(),trivial⟩ fun _ _=>⟨rfl,?_⟩
 refine dEr ?_;refine oW (zeH W0 w ev h1 (hz.mono (by omega))) rfl ⟨rfl,rfl,rfl,trivial⟩ rfl rfl ⟨false,trivial⟩ fun b _=>?_
 generalize evW w ev=r at *;obtain ⟨x',c⟩:=r;cases b with
 | true =>
  refine ⟨rfl,?_⟩;refine dEr ?_;refine oW ((zb5 W0 x' (hx.wz (hz'.mono (by omega)) (by omega))).swp 6 592) rfl ⟨rfl,rfl,rfl,trivial⟩ rfl rfl ⟨(),trivial⟩ fun _ _=>⟨rfl,?_⟩
  refine dEr ?_;rfl
 | false =>
  refine ⟨rfl,?_⟩;refine dEr ?_;refine oW (zb5 W0 x' (hx.wz (hz'.mono (by omega)) (by omega))) rfl ⟨rfl,rfl,rfl,trivial⟩ rfl rfl ⟨(),trivial⟩ fun _ _=>⟨rfl,?_⟩
  refine dEr ?_;rfl

section
variable {w:Wld}
theorem ev_5 {ev:Ev} (h:ev.kind=5):evW w ev=evW w (qn ev.pos):=by
 unfold evW;rw [if_neg (by omega),if_neg (by omega),if_neg (by omega),if_neg (by omega),if_pos (by omega)];rw [if_neg (by simp [qn]),if_neg (by simp [qn]),if_neg (by simp [qn]),if_neg (by simp [qn]),if_pos (by simp [qn])];unfold netW;simp [h,qn]
theorem zoq {a:Wld} {m:Msg} (hk:m.kind≠1):∃ r,(zy a m).net=a.net++r:=by
 unfold zy;rw [if_neg hk];split
 ·split
  ·exact ⟨[],by simp⟩
  ·exact ⟨[],by simp⟩
 ·split
  ·unfold zP;split
   ·exact ⟨_,rfl⟩
   ·exact ⟨[],by simp⟩
  ·split
   ·exact ⟨[],by simp⟩
   ·exact ⟨[],by simp⟩
theorem twice (h:WG w) {ev:Ev} (hk:ev.kind=5) {k j:Nat} (hp:ev.pos=k) (hl:k < w.net.length) (hl2:w.net.length < 12) (hm:(w.net.getD k noMs).kind≠1) (hj:j+1=w.net.length) :
  Same3 (evW (evW (evW w (yK k)).1 ev).1 (qn j)).1 (evW (evW w (yK k)).1 ev).1∧(evW (evW (evW w (yK k)).1 ev).1 (qn j)).1.over=(evW (evW w (yK k)).1 ev).1.over:=by
 rw [zd9 hl hl2];generalize hmm:w.net.getD k noMs=m at *;have hmem:m∈w.net:=hmm▸zcl hl;have hw:=(h.ms m hmem).who;have e2:(evW { w with net:=w.net++[m] } ev).1=zy { w with net:=w.net.eraseIdx k++[m] } m:=by
  rw [ev_5 hk,hp,Yg (by simp; omega)];simp only;rw [show (w.net++[m]).getD k noMs=m from by rw [← hmm]; simp [List.getD,List.getElem?_append_left hl],List.eraseIdx_append_of_lt_length hl]
 simp only [e2];obtain ⟨r,hr⟩:=@zoq { w with net:=w.net.eraseIdx k++[m] } m hm;have hE:(w.net.eraseIdx k).length=j:=by rw [List.length_eraseIdx,if_pos hl]; omega
 have ct:=zot (w:={ w with net:=w.net.eraseIdx k++[m] }) hm hw h.pl.hl h.pl.fl;generalize hx:zy { w with net:=w.net.eraseIdx k++[m] } m=x at *;have hnet:x.net.getD j noMs=m∧j < x.net.length:=by
  rw [hr];simp only [List.append_assoc,List.singleton_append];refine ⟨?_,by simp; omega⟩;rw [← hE];exact zbv.1
 rw [Yg hnet.2,hnet.1];have s2:=zor (a:={ x with net:=x.net.eraseIdx j }) (b:=x) hm ⟨rfl,rfl,rfl,rfl⟩;exact ⟨⟨s2.h.trans ct.h,s2.f.trans ct.f,s2.l.trans ct.l,s2.c.trans ct.c⟩,(@zop { x with net:=x.net.eraseIdx j } m).1⟩
variable {who:Int} {p:Str}
end

theorem zbf {n:Nat} {w:Wld} (h:HZ n w):∀ k,HZ (n+k) (jN k w)
 | 0=>h
 | k+1=>by
  have:=(zbf h k).ev ⟨4,0,[],zO,0⟩;rw [zhz] at this;exact this
def zkC:XC:=(.s (.r [.m1 2 .n]) (.s (.s (.r [.mv 16 0,.n1 17 16,.b1 18 .gtr 17 (.i 1048576)]) (.cnd 18 (.rt 2) .skip)) (.s (.r [.mv 20 0,.o1 21 30 [20],.mv 19 21,.e1 22 19 0,.e1 23 19 1,.ex 3 (.alloc zW),.ex 4 (.alloc zV),.s1 14 3 22,.s1 8 4 23]) (.s (.r [.l2 25 14 3,.l2 26 8 4,.c1 27 16 [25,26],.mv 24 27,.e1 28 24 0,.e1 29 24 1,.ex 5 (.alloc zW),.s1 14 5 28,.mv 6 29]) (.s (.r [.l2 31 14 3,.l2 32 8 4,.c1 33 29 [31,32],.mv 30 33,.e1 34 30 0,.e1 35 30 1,.ex 7 (.alloc zW),.s1 14 7 34,.mv 8 35]) (.s (.s (.r [.mv 36 6,.mv 37 8,.b1 38 .neq 36 37,.mv 39 38,.gf 40 (.ld true 14 3) 39,.gf 41 (.call 15 [40]) 39,.gf 42 (.un .not 41) 39,.p1 43 39 42,.mv 44 43,.h1 45 3 5 44,.h2 46 1 45 44,.gf 47 (.bin .gtr 46 (.i 9990)) 44,.p1 48 44 47]) (.cnd 48 (.s (.r [.mv 49 6,.mv 50 8,.b1 51 .eql 49 50,.mv 2 51]) .ret) .skip)) (.s (.s (.r [.m1 9 (.i 0)]) (.blk 0 (.loop (.s (.s (.r [.mv 52 9,.f1 53 5 5,.l1 54 1 53,.n1 55 54,.b1 56 .lss 52 55]) (.ce 56 0)) (.s (.blk 1 (.s (.d [.f1 59 5 5,.l1 60 1 59,.mv 61 9,.i1 62 4 60 61,.f1 63 3 62,.l1 64 1 63,.f1 65 3 5,.l1 66 1 65,.b1 67 .add 66 (.i 5),.b1 68 .gtr 64 67]) (.cnd 68 (.rt 2) .skip))) (.ic 57 58 9)))))) (.s (.s (.r [.m1 10 (.i 0)]) (.blk 2 (.loop (.s (.s (.r [.mv 69 10,.b1 70 .lss 69 (.i 5)]) (.ce 70 2)) (.s (.blk 3 (.r [.l2 74 14 5,.ex 75 (.build zV [(0,(1,(.i 4)))]),.c1 76 16 [74,75],.mv 73 76,.e1 77 73 0,.e1 78 73 1,.s1 14 5 77])) (.ic 71 72 10)))))) (.s (.s (.r [.m1 11 (.i 0)]) (.blk 4 (.loop (.s (.s (.r [.mv 79 11,.f1 80 6 5,.l1 81 1 80,.n1 82 81,.b1 83 .lss 79 82]) (.ce 83 4)) (.s (.blk 5 (.s (.r [.m1 12 (.i 0)]) (.blk 6 (.loop (.s (.s (.r [.mv 86 12,.f1 87 6 5,.l1 88 1 87,.mv 89 11,.i1 90 1 88 89,.l1 91 1 90,.n1 92 91,.b1 93 .lss 86 92]) (.ce 93 6)) (.s (.blk 7 (.s (.d [.l2 97 14 5,.mv 98 11,.f1 99 6 5,.l1 100 1 99,.mv 101 11,.i1 102 1 100 101,.l1 103 1 102,.mv 104 12,.i1 105 7 103 104,.f1 106 0 105,.l1 107 1 106,.c1 108 17 [97,98,107],.mv 96 108,.e1 109 96 0,.e1 110 96 1,.e1 111 96 2,.ex 13 (.alloc zE),.s1 3 13 109,.mv 14 110,.mv 15 111]) (.s (.r [.mv 112 15]) (.cnd 112 (.rf 2) .skip)))) (.ic 94 95 12))))))) (.ic 84 85 11)))))) (.s (.r [.f1 113 5 5,.l1 114 1 113,.n1 115 114,.b1 116 .eql 115 (.i 0),.mv 2 116]) .ret))))))))))
theorem zkD:zc Tryz.prog [30] 10=some (zkC.ac,[(.t 2)],117):=by kernel_rfl
set_option maxHeartbeats 2000000 in
theorem zoT (W0:World) (hs:W0.ShapedOpen Tryz.prog) (c0':Str):Fn Tryz.prog W0 10 [qm c0'] (.c (CB true)) []:=by
 refine fX mixed zkD fun hg=>?_
 have hM:=zcs hs;refine dr ?_;apply cP<;>intro h0
 ·exact dz
 refine dr ?_;refine oW (zbV W0 c0') rfl trivial rfl rfl ⟨(w0W,⟨0,0,[],zO,0⟩),w0R.mono (by omega)⟩ fun x hx=>⟨rfl,?_⟩
 obtain ⟨w,ev⟩:=x;have hw:WR 1 w:=hx;clear hx;have q1:=ZI W0 hM w ev (hw.z.z.mono (by omega));have q2:=zb7 W0 w ev (hw.z.z.mono (by omega));have q3:=JF W0 hM w;have q4:=zaq W0 w;have sm:=zda W0;have hlo:=hw.ck;have hco:=hw.ct;by_cases g:WG w;rotate_left
 ·rw [show wDo w ev=(noW,1) from if_neg g] at q1 q2;rw [tb_f g] at q4;have q1:Fn Tryz.prog W0 16 [zv w,eEv ev] (.c (.tup [zv noW,CI 1])) []:=q1;have q2:Fn Tryz.prog W0 29 [zv w,eEv ev] (.c (.tup [zv noW,CI 1])) []:=q2;refine dEr ?_;repeat ((first|refine c0 q1 rfl ?_|refine c0 q2 rfl ?_|refine c0 q4 rfl ?_|refine kFn rfl ?_|apply xiT|apply xiF|apply xbT|apply xbF|refine xiN ?_|refine xiM ?_|refine xbN ?_|refine xbM ?_|apply xeT|apply xeF|refine c0 (j7 W0 _ _ rfl) rfl ?_|refine c0 (j0 W0 _ _ rfl) rfl ?_|refine c0 (j3 W0 _ _ rfl) rfl ?_); first|refine dEr ?_|exact dz)
  exact congrArg CB (qg.2 rfl)
 have hz':=hw.z.z.ev ev;rw [Ze g] at q1 q2;rw [tb_t g] at q4;have gx:=g.ev ev;generalize evW w ev=r at *;obtain ⟨x,c⟩:=r;have q1:Fn Tryz.prog W0 16 [zv w,eEv ev] (.c (.tup [zv x,CI c])) []:=q1;have q2:Fn Tryz.prog W0 29 [zv w,eEv ev] (.c (.tup [zv x,CI c])) []:=q2;have gx:WG x:=gx;have hz':HZ 102 x:=hz';have ckx:=gx.pl.ck;by_cases hc:x.clock≤9990;rotate_left
 ·refine dEr ?_;repeat ((first|refine c0 q1 rfl ?_|refine c0 q2 rfl ?_|refine c0 q4 rfl ?_|refine kFn rfl ?_|refine kLt (by first|omega|(simp only; omega)) ?_|apply xiT|apply xiF|apply xbT|apply xbF|refine xiN ?_|refine xiM ?_|refine xbN ?_|refine xbM ?_|apply xeT|apply xeF|refine c0 (j7 W0 _ _ rfl) rfl ?_|refine c0 (j0 W0 _ _ rfl) rfl ?_|refine c0 (j3 W0 _ _ rfl) rfl ?_); first|refine dEr ?_|exact dz)
  exact congrArg CB (qg.2 rfl)
 refine dEr ?_;repeat ((first|refine c0 q1 rfl ?_|refine c0 q2 rfl ?_|refine c0 q4 rfl ?_|refine kFn rfl ?_|refine kGe (by first|omega|(simp only; omega)) ?_|apply xiT|apply xiF|apply xbT|apply xbF|refine xiN ?_|refine xiM ?_|refine xbN ?_|refine xbM ?_|apply xeT|apply xeF|refine c0 (j7 W0 _ _ rfl) rfl ?_|refine c0 (j0 W0 _ _ rfl) rfl ?_|refine c0 (j3 W0 _ _ rfl) rfl ?_); first|refine dEr ?_|exact dz)
 refine lp (σ:=Nat) (fun k=>[(5,.ptr 80 0),(9,I k)]) (fun _=>[(80,wBx x)]) (fun k=>k≤x.leases.length) (fun k=>x.leases.length - k) 0 (by omega) ?_ ?_
 ·refine dr ?_;trivial
 intro k hk;refine dr ?_;apply cP<;>intro a1;rotate_left
 ·refine dr ?_;refine lp (σ:=Nat) (fun i=>[(5,.ptr 80 0),(10,I i)]) (fun i=>[(80,wBx (jN i x))]) (fun i=>i≤5) (fun i=>5 - i) 0 (by omega) ?_ ?_
  ·refine dr ?_;trivial
  intro i hi;refine dr ?_;apply cP<;>intro a2;rotate_left
  ·have hi5:i=5:=by omega
   subst hi5;have hle:=ends gx hc;have hh:=(zdu gx 5).pl.hl;have hzt:=(zbf hz' 5).h;have q6:=fun who p=>zpo W0 hM (jN 5 x) who p
   have rn:=fun who p=>ztE (w:=jN 5 x) (who:=who) (p:=p) hle
   generalize jN 5 x=y at *;refine dr ?_;refine lp (σ:=Nat) (fun i=>[(5,.ptr 80 0),(11,I i)]) (fun _=>[(80,wBx y)]) (fun i=>i≤y.holds.length) (fun i=>y.holds.length - i) 0 (by omega) ?_ ?_
   ·refine dr ?_;trivial
   intro i hi;refine dr ?_;apply cP<;>intro a3;rotate_left
   ·refine dr ?_;exact congrArg CB (qg.2 (by rw [hle]; rfl))
   have hi':i < y.holds.length:=by omega
   have hzi:=hzt _ (List.getElem_mem hi');refine dr ?_;refine lp (σ:=Nat) (fun k=>[(5,.ptr 80 0),(11,I i),(12,I k)]) (fun _=>[(80,wBx y)]) (fun k=>k≤y.holds[i].length) (fun k=>y.holds[i].length - k) 0 (by omega) ?_ ?_
   ·refine dr ?_;trivial
   intro k hk;refine dr ?_;apply cP<;>intro a4;rotate_left
   ·refine dr ?_;refine ⟨i+1,by omega,by omega,?_⟩;refine dr ?_;trivial
   have hk':k < y.holds[i].length:=by omega
   have q6:=q6 i y.holds[i][k].path;rw [rn i y.holds[i][k].path] at q6;have q6:Fn Tryz.prog W0 17 [zv y,CI i,CS y.holds[i][k].path] (.c (.tup [eEnt noE,CB false,CB false])) []:=q6;refine dEr ?_;repeat ((first|refine c0 q6 rfl ?_|apply xiT|apply xiF|apply xbT|apply xbF|refine xiN ?_|refine xiM ?_|refine xbN ?_|refine xbM ?_|apply xeT|apply xeF|refine c0 (j7 W0 _ _ rfl) rfl ?_|refine c0 (j0 W0 _ _ rfl) rfl ?_|refine c0 (j3 W0 _ _ rfl) rfl ?_); first|refine dEr ?_|exact dz)
   refine ⟨k+1,by omega,by omega,?_⟩;refine dr ?_;trivial
  have q7:=ZI W0 hM (jN i x) ⟨4,0,[],zO,0⟩ ((zbf hz' i).mono (by omega));rw [zhA gx i] at q7;have q7:Fn Tryz.prog W0 16 [zv (jN i x),eEv ⟨4,0,[],zO,0⟩] (.c (.tup [zv (jN (i+1) x),CI 0])) []:=q7;refine dEr ?_;repeat (refine c0 q7 rfl ?_; first|refine dEr ?_|exact dz)
  refine ⟨i+1,by omega,by omega,?_⟩;refine dr ?_;trivial
 have hk':k < x.leases.length:=by omega
 have hll:=hz'.l;refine dr ?_;repeat (refine oB (by first|omega|(simp only; omega)) ?_; first|refine dr ?_|exact dz)
 apply cP<;>intro a2
 ·exact dz
 refine dr ?_;refine ⟨k+1,by omega,by omega,?_⟩;refine dr ?_;trivial
def zkG:XC:=(.s (.r [.m1 2 .n]) (.s (.s (.r [.mv 20 0,.n1 21 20,.b1 22 .gtr 21 (.i 1048576)]) (.cnd 22 (.rt 2) .skip)) (.s (.r [.mv 24 0,.o1 25 30 [24],.mv 23 25,.e1 26 23 0,.e1 27 23 1,.ex 3 (.alloc zW),.ex 4 (.alloc zV),.s1 14 3 26,.s1 8 4 27]) (.s (.r [.l2 29 14 3,.l2 30 8 4,.c1 31 16 [29,30],.mv 28 31,.e1 32 28 0,.e1 33 28 1,.ex 5 (.alloc zW),.s1 14 5 32,.mv 6 33]) (.s (.r [.l2 35 14 3,.l2 36 8 4,.c1 37 29 [35,36],.mv 34 37,.e1 38 34 0,.e1 39 34 1,.ex 7 (.alloc zW),.s1 14 7 38,.mv 8 39]) (.s (.s (.r [.mv 40 6,.mv 41 8,.b1 42 .neq 40 41,.mv 43 42,.gf 44 (.ld true 14 3) 43,.gf 45 (.call 15 [44]) 43,.gf 46 (.un .not 45) 43,.p1 47 43 46,.mv 48 47,.h1 49 9 5 48,.h2 50 1 49 48,.gf 51 (.un .not 50) 48,.p1 52 48 51,.mv 53 52,.h1 54 3 5 53,.h2 55 1 54 53,.gf 56 (.bin .gtr 55 (.i 9990)) 53,.p1 57 53 56]) (.cnd 57 (.s (.r [.mv 58 6,.mv 59 8,.b1 60 .eql 58 59,.mv 2 60]) .ret) .skip)) (.s (.r [.f1 62 0 5,.l2 63 3 62,.c1 64 18 [63],.mv 61 64,.e1 65 61 0,.e1 66 61 1,.a1 9 65 3 46,.mv 10 66]) (.s (.r [.mv 68 9,.f1 69 10 5,.l2 70 4 69,.c1 71 19 [68,70],.mv 67 71,.e1 72 67 0,.e1 73 67 1,.a1 11 72 3 46,.mv 12 73]) (.s (.r [.l2 74 14 5,.f1 75 10 5,.l2 76 4 75,.c1 77 13 [74,76],.a1 13 77 4 59]) (.s (.r [.f1 78 3 5,.l1 79 1 78,.mv 14 79]) (.s (.s (.r [.m1 15 (.i 0)]) (.blk 0 (.loop (.s (.s (.r [.mv 80 15,.mv 81 13,.n1 82 81,.b1 83 .lss 80 82]) (.ce 83 0)) (.s (.blk 1 (.s (.r [.mv 86 13,.mv 87 15,.i1 88 4 86 87,.f1 89 3 88,.l1 90 1 89,.mv 91 14,.b1 92 .gtr 90 91]) (.cnd 92 (.r [.mv 93 13,.mv 94 15,.i1 95 4 93 94,.f1 96 3 95,.l1 97 1 96,.mv 14 97]) .skip))) (.ic 84 85 15)))))) (.s (.s (.r [.mv 98 14,.f1 99 3 5,.l1 100 1 99,.b1 101 .add 100 (.i 15),.b1 102 .gtr 98 101,.mv 103 102,.h3 104 14 103,.gf 105 (.bin .gtr 104 (.i 10000)) 103,.p1 106 103 105]) (.cnd 106 (.rt 2) .skip)) (.s (.blk 2 (.loop (.s (.s (.r [.f1 107 3 5,.l1 108 1 107,.mv 109 14,.b1 110 .lss 108 109]) (.ce 110 2)) (.blk 3 (.r [.l2 112 14 5,.ex 113 (.build zV [(0,(1,(.i 4)))]),.c1 114 16 [112,113],.mv 111 114,.e1 115 111 0,.e1 116 111 1,.s1 14 5 115]))))) (.s (.r [.l2 118 14 5,.ex 119 (.build zV [(0,(1,(.i 3)))]),.c1 120 16 [118,119],.mv 117 120,.e1 121 117 0,.e1 122 117 1,.ex 16 (.alloc zW),.s1 14 16 121,.mv 17 122]) (.s (.r [.f1 124 0 16,.l2 125 3 124,.c1 126 18 [125],.mv 123 126,.e1 127 123 0,.e1 128 123 1,.a1 18 127 3 46,.mv 19 128]) (.s (.r [.mv 129 12,.b1 130 .eql 129 (.i 0),.mv 131 130,.g3 132 17 131,.gt 133 (.bin .eql 132 (.i 0)) 131,.p2 134 131 133,.mv 135 134,.g1 136 9 16 135,.g2 137 1 136 135,.gt 138 (.un .not 137) 135,.p2 139 135 138,.mv 140 139,.g3 141 18 140,.g3 142 11 140,.gt 143 (.call 31 [141,142]) 140,.p2 144 140 143,.mv 2 144]) .ret))))))))))))))))
theorem zkH:zc Tryz.prog [30] 9=some (zkG.ac,[(.t 2)],145):=by kernel_rfl
set_option maxHeartbeats 4000000 in
theorem zoV (W0:World) (hs:W0.ShapedOpen Tryz.prog) (c0':Str):Fn Tryz.prog W0 9 [qm c0'] (.c (CB true)) []:=by
 refine fX mixed zkH fun hg=>?_
 have hM:=zcs hs;refine dr ?_;apply cP<;>intro h0
 ·exact dz
 refine dr ?_;refine oW (zbV W0 c0') rfl trivial rfl rfl ⟨(w0W,⟨0,0,[],zO,0⟩),w0R.mono (by omega)⟩ fun x hx=>⟨rfl,?_⟩
 obtain ⟨w,ev⟩:=x;have hw:WR 1 w:=hx;clear hx;have q1:=ZI W0 hM w ev (hw.z.z.mono (by omega));have q2:=zb7 W0 w ev (hw.z.z.mono (by omega));have q3:=JF W0 hM w;have q4:=zaq W0 w;have sm:=zda W0;have hlo:=hw.ck;have hco:=hw.ct;by_cases g:WG w;rotate_left
 ·rw [show wDo w ev=(noW,1) from if_neg g] at q1 q2;rw [tb_f g] at q4;have q1:Fn Tryz.prog W0 16 [zv w,eEv ev] (.c (.tup [zv noW,CI 1])) []:=q1;have q2:Fn Tryz.prog W0 29 [zv w,eEv ev] (.c (.tup [zv noW,CI 1])) []:=q2;refine dEr ?_;repeat ((first|refine c0 q1 rfl ?_|refine c0 q2 rfl ?_|refine c0 q4 rfl ?_|refine kFn rfl ?_|apply xiT|apply xiF|apply xbT|apply xbF|refine xiN ?_|refine xiM ?_|refine xbN ?_|refine xbM ?_|apply xeT|apply xeF|refine c0 (j7 W0 _ _ rfl) rfl ?_|refine c0 (j0 W0 _ _ rfl) rfl ?_|refine c0 (j3 W0 _ _ rfl) rfl ?_); first|refine dEr ?_|exact dz)
  exact congrArg CB (qg.2 rfl)
 have hz':=hw.z.z.ev ev;rw [Ze g] at q1 q2;rw [tb_t g] at q4;have gx:=g.ev ev;generalize evW w ev=r at *;obtain ⟨x,c⟩:=r;have q1:Fn Tryz.prog W0 16 [zv w,eEv ev] (.c (.tup [zv x,CI c])) []:=q1;have q2:Fn Tryz.prog W0 29 [zv w,eEv ev] (.c (.tup [zv x,CI c])) []:=q2;have gx:WG x:=gx;have hz':HZ 102 x:=hz';have ckx:=gx.pl.ck;cases hwt:x.waits with
 | false =>
  refine dEr ?_;repeat ((first|refine c0 q1 rfl ?_|refine c0 q2 rfl ?_|refine c0 q4 rfl ?_|refine kFn rfl ?_|refine kNf hwt ?_|apply xiT|apply xiF|apply xbT|apply xbF|refine xiN ?_|refine xiM ?_|refine xbN ?_|refine xbM ?_|apply xeT|apply xeF|refine c0 (j7 W0 _ _ rfl) rfl ?_|refine c0 (j0 W0 _ _ rfl) rfl ?_|refine c0 (j3 W0 _ _ rfl) rfl ?_); first|refine dEr ?_|exact dz)
  exact congrArg CB (qg.2 rfl)
 | true =>
 by_cases hc:x.clock≤9990;rotate_left
 ·refine dEr ?_;repeat ((first|refine c0 q1 rfl ?_|refine c0 q2 rfl ?_|refine c0 q4 rfl ?_|refine kFn rfl ?_|refine kNt hwt ?_|refine kLt (by first|omega|(simp only; omega)) ?_|apply xiT|apply xiF|apply xbT|apply xbF|refine xiN ?_|refine xiM ?_|refine xbN ?_|refine xbM ?_|apply xeT|apply xeF|refine c0 (j7 W0 _ _ rfl) rfl ?_|refine c0 (j0 W0 _ _ rfl) rfl ?_|refine c0 (j3 W0 _ _ rfl) rfl ?_); first|refine dEr ?_|exact dz)
  exact congrArg CB (qg.2 rfl)
 have view:∀ x,WG x→Fn Tryz.prog W0 18 [jL x.over] (.c (.tup [za (vwG x.over),CB true])) []:=fun x hx=>by
  obtain ⟨t,g⟩:=hx.og;have:=Qc W0 hM x.over;rw [if_pos hx.ov,g.vw] at this;exact this
 have v1:=view x gx;have qt:Fn Tryz.prog W0 19 [za (vwG x.over),eOp x.op] (.c (.tup [za (zF (vwG x.over) x.op).1,CI (zF (vwG x.over) x.op).2])) []:=Qe W0 hM (vwG x.over) x.op;have ht:=gx.wt.2 hwt;rw [ht] at qt;have qb:=zpn W0 hM x x.op (by have:=hz'.l; omega);rw [show wBars x x.op=zS x x.op from if_pos gx] at qb;have wd:=fun n h1 h2=>ztG gx hwt (n:=n) h1 h2
 have tz:=zbf hz';have ts:=zhA gx;have tw:=zdu gx;have tc:=fun n h=>zbe (w:=x) (n:=n) h
 generalize (zF (vwG x.over) x.op).1=u at *;have hbl:(zS x x.op).length≤102:=Nat.le_trans (List.length_filter_le _ _) hz'.l;generalize zS x x.op=bars at *;refine dEr ?_;repeat ((first|refine c0 q1 rfl ?_|refine c0 q2 rfl ?_|refine c0 q4 rfl ?_|refine kFn rfl ?_|refine kNt hwt ?_|refine kGe (by first|omega|(simp only; omega)) ?_|refine c0 v1 rfl ?_|refine c0 qt rfl ?_|refine c0 qb rfl ?_|apply xiT|apply xiF|apply xbT|apply xbF|refine xiN ?_|refine xiM ?_|refine xbN ?_|refine xbM ?_|apply xeT|apply xeF|refine c0 (j7 W0 _ _ rfl) rfl ?_|refine c0 (j0 W0 _ _ rfl) rfl ?_|refine c0 (j3 W0 _ _ rfl) rfl ?_); first|refine dEr ?_|exact dz)
 refine lp2 (fun (late:Int) (k:Nat)=>[(5,.ptr 80 0),(11,.c (za u)),(12,I 0),(13,.c (zw bars)),(14,I late),(15,I k)]) (fun _ _=>[(80,wBx x)])
  (fun late k=>k≤bars.length∧x.clock≤late∧∀ l∈bars.take k,l.til≤late) (fun _ k=>bars.length - k) x.clock 0 ⟨by omega,by omega,by simp⟩ ?_ ?_
 ·refine dr ?_;trivial
 rintro late k ⟨hk,hlt,hb⟩;refine dr ?_;apply cP<;>intro a1
 ·have hk':k < bars.length:=by omega
  refine dr ?_;apply cP<;>intro a2
  ·refine dr ?_;refine ⟨bars[k].til,k+1,⟨by omega,by omega,fun l hl=>?_⟩,by omega,?_⟩
   ·rw [List.take_succ_eq_append_getElem hk'] at hl;rcases List.mem_append.1 hl with hl | hl
    ·have:=hb l hl; omega
    ·rw [List.mem_singleton.1 hl]; exact Int.le_refl _
   refine dr ?_;trivial
  ·refine dr ?_;refine ⟨late,k+1,⟨by omega,by omega,fun l hl=>?_⟩,by omega,?_⟩
   ·rw [List.take_succ_eq_append_getElem hk'] at hl;rcases List.mem_append.1 hl with hl | hl
    ·exact hb l hl
    ·rw [List.mem_singleton.1 hl]; omega
   refine dr ?_;trivial
 rw [List.take_of_length_le (by omega)] at hb;refine dr ?_;repeat (refine oB (by first|omega|(simp only; omega)) ?_; first|refine dr ?_|exact dz)
 apply cP<;>intro a3
 ·exact dz
 refine dr ?_;apply cP<;>intro a4
 ·exact dz
 refine dr ?_;refine lp (σ:=Nat) (fun n=>[(5,.ptr 80 0),(11,.c (za u)),(12,I 0),(14,I late)]) (fun n=>[(80,wBx (jN n x))]) (fun n=>x.clock+n≤late) (fun n=>(late - x.clock - n).toNat) 0 (by simp; omega) ?_ ?_
 ·refine dr ?_;trivial
 intro n hn;have tc:=tc n (by omega);refine dr ?_;apply cP<;>intro a5
 ·have a5:(jN n x).clock < late:=a5;have e5:=ZI W0 hM (jN n x) ⟨4,0,[],zO,0⟩ ((tz n).mono (by omega));rw [ts n] at e5;have e5:Fn Tryz.prog W0 16 [zv (jN n x),eEv ⟨4,0,[],zO,0⟩] (.c (.tup [zv (jN (n+1) x),CI 0])) []:=e5;refine dEr ?_;repeat (refine c0 e5 rfl ?_; first|refine dEr ?_|exact dz)
  refine ⟨n+1,by omega,by omega,?_⟩;refine dr ?_;trivial
 have a5:late≤(jN n x).clock:=a5;obtain ⟨w1,w2,w3⟩:=wd n (by omega) (fun l hl=>by have:=hb l hl; omega);have e6:=ZI W0 hM (jN n x) ⟨3,0,[],zO,0⟩ ((tz n).mono (by omega));have gy:=WG.do (tw n) ⟨3,0,[],zO,0⟩
 rw [w1] at e6 gy;generalize jN n x=xn at *;have e6:Fn Tryz.prog W0 16 [zv xn,eEv ⟨3,0,[],zO,0⟩] (.c (.tup [zv { xn with over:=(oDo x.over x.op).1,waits:=false,op:=zO },CI 0])) []:=e6;have v2:Fn Tryz.prog W0 18 [jL (oDo x.over x.op).1] (.c (.tup [za (vwG (oDo x.over x.op).1),CB true])) []:=view _ gy;rw [w3] at v2;generalize (oDo x.over x.op).1=o at *;refine dEr ?_;repeat ((first|refine c0 e6 rfl ?_|refine c0 v2 rfl ?_|apply xiT|apply xiF|apply xbT|apply xbF|refine xiN ?_|refine xiM ?_|refine xbN ?_|refine xbM ?_|apply xeT|apply xeF|refine c0 (j7 W0 _ _ rfl) rfl ?_|refine c0 (j0 W0 _ _ rfl) rfl ?_|refine c0 (j3 W0 _ _ rfl) rfl ?_); first|refine dEr ?_|exact dz)
 try rfl
def zkE:XC:=(.s (.r [.m1 2 .n]) (.s (.s (.r [.mv 15 0,.n1 16 15,.b1 17 .gtr 16 (.i 1048576)]) (.cnd 17 (.rt 2) .skip)) (.s (.r [.mv 19 0,.o1 20 30 [19],.mv 18 20,.e1 21 18 0,.e1 22 18 1,.ex 3 (.alloc zW),.ex 4 (.alloc zV),.s1 14 3 21,.s1 8 4 22]) (.s (.r [.l2 24 14 3,.l2 25 8 4,.c1 26 16 [24,25],.mv 23 26,.e1 27 23 0,.e1 28 23 1,.ex 5 (.alloc zW),.s1 14 5 27,.mv 6 28]) (.s (.r [.l2 30 14 3,.l2 31 8 4,.c1 32 29 [30,31],.mv 29 32,.e1 33 29 0,.e1 34 29 1,.ex 7 (.alloc zW),.s1 14 7 33,.mv 8 34]) (.s (.s (.r [.mv 35 6,.mv 36 8,.b1 37 .neq 35 36,.mv 38 37,.gf 39 (.ld true 14 3) 38,.gf 40 (.call 15 [39]) 38,.gf 41 (.un .not 40) 38,.p1 42 38 41,.mv 43 42,.h1 44 0 4 43,.h2 45 1 44 43,.gf 46 (.bin .neq 45 (.i 5)) 43,.p1 47 43 46,.mv 48 47,.h1 49 7 4 48,.h2 50 1 49 48,.gf 51 (.bin .lss 50 (.i 0)) 48,.p1 52 48 51,.mv 53 52,.h1 54 7 4 53,.h2 55 1 54 53,.h1 56 8 3 53,.h2 57 1 56 53,.gf 58 (.len false 57) 53,.gf 59 (.bin .geq 55 58) 53,.p1 60 53 59,.mv 61 60,.h1 62 8 3 61,.h2 63 1 62 61,.gf 64 (.len false 63) 61,.gf 65 (.bin .geq 64 (.i 12)) 61,.p1 66 61 65,.mv 67 66,.h1 68 8 3 67,.h2 69 1 68 67,.h1 70 7 4 67,.h2 71 1 70 67,.gf 72 (.ia 9 69 71) 67,.h1 73 0 72 67,.h2 74 1 73 67,.gf 75 (.bin .eql 74 (.i 1)) 67,.p1 76 67 75]) (.cnd 76 (.s (.r [.mv 77 6,.mv 78 8,.b1 79 .eql 77 78,.mv 2 79]) .ret) .skip)) (.s (.r [.l2 81 14 3,.f1 82 7 4,.l1 83 1 82,.ex 84 (.build zV [(0,(1,(.i 7))),(7,(1,83))]),.c1 85 16 [81,84],.mv 80 85,.e1 86 80 0,.e1 87 80 1,.ex 9 (.alloc zW),.s1 14 9 86,.mv 10 87]) (.s (.r [.l2 89 14 9,.l2 90 8 4,.c1 91 16 [89,90],.mv 88 91,.e1 92 88 0,.e1 93 88 1,.s1 14 9 92]) (.s (.r [.l2 95 14 9,.f1 96 8 3,.l1 97 1 96,.n1 98 97,.b1 99 .sub 98 (.i 1),.ex 100 (.build zV [(0,(1,(.i 5))),(7,(1,99))]),.c1 101 16 [95,100],.mv 94 101,.e1 102 94 0,.e1 103 94 1,.ex 11 (.alloc zW),.s1 14 11 102,.mv 12 103]) (.s (.s (.r [.m1 13 (.i 0)]) (.blk 0 (.loop (.s (.s (.r [.mv 104 13,.b1 105 .lss 104 (.i 3)]) (.ce 105 0)) (.s (.blk 1 (.s (.s (.d [.f1 108 6 9,.l1 109 1 108,.mv 110 13,.i1 111 1 109 110,.l1 112 1 111,.n1 113 112,.f1 114 6 11,.l1 115 1 114,.mv 116 13,.i1 117 1 115 116,.l1 118 1 117,.n1 119 118,.b1 120 .neq 113 119,.mv 121 120,.h1 122 7 9 121,.h2 123 1 122 121,.h3 124 13 121,.gf 125 (.ia 1 123 124) 121,.h2 126 1 125 121,.h1 127 7 11 121,.h2 128 1 127 121,.h3 129 13 121,.gf 130 (.ia 1 128 129) 121,.h2 131 1 130 121,.gf 132 (.bin .neq 126 131) 121,.p1 133 121 132]) (.cnd 133 (.rf 2) .skip)) (.s (.r [.m1 14 (.i 0)]) (.blk 2 (.loop (.s (.s (.r [.mv 134 14,.f1 135 6 9,.l1 136 1 135,.mv 137 13,.i1 138 1 136 137,.l1 139 1 138,.n1 140 139,.b1 141 .lss 134 140]) (.ce 141 2)) (.s (.blk 3 (.s (.d [.f1 144 6 9,.l1 145 1 144,.mv 146 13,.i1 147 1 145 146,.l1 148 1 147,.mv 149 14,.i1 150 7 148 149,.l2 151 7 150,.f1 152 6 11,.l1 153 1 152,.mv 154 13,.i1 155 1 153 154,.l1 156 1 155,.mv 157 14,.i1 158 7 156 157,.l2 159 7 158,.ex 160 (.beq true [.s,.b,.s,.b,.s,(.i .i64),(.i .i64)] 151 159)]) (.cnd 160 (.rf 2) .skip))) (.ic 142 143 14)))))))) (.ic 106 107 13)))))) (.s (.r [.f1 161 5 9,.l1 162 1 161,.n1 163 162,.f1 164 5 11,.l1 165 1 164,.n1 166 165,.b1 167 .eql 163 166,.mv 168 167,.g1 169 0 9 168,.gt 170 (.ld true 3 169) 168,.g1 171 0 11 168,.gt 172 (.ld true 3 171) 168,.gt 173 (.call 32 [170,172]) 168,.p2 174 168 173,.mv 2 174]) .ret)))))))))))
theorem zkF:zc Tryz.prog [30] 11=some (zkE.ac,[(.t 2)],175):=by kernel_rfl
set_option maxHeartbeats 4000000 in
theorem zoU (W0:World) (hs:W0.ShapedOpen Tryz.prog) (c0':Str):Fn Tryz.prog W0 11 [qm c0'] (.c (CB true)) []:=by
 refine fX mixed zkF fun hg=>?_
 have hM:=zcs hs;refine dr ?_;apply cP<;>intro h0
 ·exact dz
 refine dr ?_;refine oW (zbV W0 c0') rfl trivial rfl rfl ⟨(w0W,⟨0,0,[],zO,0⟩),w0R.mono (by omega)⟩ fun x hx=>⟨rfl,?_⟩
 obtain ⟨w,ev⟩:=x;have hw:WR 1 w:=hx;clear hx;have q1:=ZI W0 hM w ev (hw.z.z.mono (by omega));have q2:=zb7 W0 w ev (hw.z.z.mono (by omega));have q3:=JF W0 hM w;have q4:=zaq W0 w;have sm:=zda W0;have hlo:=hw.ck;have hco:=hw.ct;by_cases g:WG w;rotate_left
 ·rw [show wDo w ev=(noW,1) from if_neg g] at q1 q2;rw [tb_f g] at q4;have q1:Fn Tryz.prog W0 16 [zv w,eEv ev] (.c (.tup [zv noW,CI 1])) []:=q1;have q2:Fn Tryz.prog W0 29 [zv w,eEv ev] (.c (.tup [zv noW,CI 1])) []:=q2;refine dEr ?_;repeat ((first|refine c0 q1 rfl ?_|refine c0 q2 rfl ?_|refine c0 q4 rfl ?_|refine kFn rfl ?_|apply xiT|apply xiF|apply xbT|apply xbF|refine xiN ?_|refine xiM ?_|refine xbN ?_|refine xbM ?_|apply xeT|apply xeF|refine c0 (j7 W0 _ _ rfl) rfl ?_|refine c0 (j0 W0 _ _ rfl) rfl ?_|refine c0 (j3 W0 _ _ rfl) rfl ?_); first|refine dEr ?_|exact dz)
  exact congrArg CB (qg.2 rfl)
 rw [Ze g] at q1 q2;rw [tb_t g] at q4;generalize evW w ev=r at q1 q2;obtain ⟨x0,c⟩:=r;have q1:Fn Tryz.prog W0 16 [zv w,eEv ev] (.c (.tup [zv x0,CI c])) []:=q1;have q2:Fn Tryz.prog W0 29 [zv w,eEv ev] (.c (.tup [zv x0,CI c])) []:=q2;by_cases H:ev.kind=5∧0≤ev.pos∧ev.pos < w.net.length∧w.net.length < 12∧(w.net.getD ev.pos.toNat noMs).kind≠1;rotate_left
 ·refine dEr ?_;repeat ((first|refine c0 q1 rfl ?_|refine c0 q2 rfl ?_|refine c0 q4 rfl ?_|refine kFn rfl ?_|apply xiT|apply xiF|apply xbT|apply xbF|refine xiN ?_|refine xiM ?_|refine xbN ?_|refine xbM ?_|apply xeT|apply xeF|refine c0 (j7 W0 _ _ rfl) rfl ?_|refine c0 (j0 W0 _ _ rfl) rfl ?_|refine c0 (j3 W0 _ _ rfl) rfl ?_); first|refine dEr ?_|exact dz)
  apply cP<;>intro k1
  ·refine dEr ?_;repeat ((first|apply xiT|apply xiF|apply xbT|apply xbF|refine xiN ?_|refine xiM ?_|refine xbN ?_|refine xbM ?_|apply xeT|apply xeF|refine c0 (j7 W0 _ _ rfl) rfl ?_|refine c0 (j0 W0 _ _ rfl) rfl ?_|refine c0 (j3 W0 _ _ rfl) rfl ?_); first|refine dEr ?_|exact dz)
   exact congrArg CB (qg.2 rfl)
  refine dEr ?_;repeat ((first|apply xiT|apply xiF|apply xbT|apply xbF|refine xiN ?_|refine xiM ?_|refine xbN ?_|refine xbM ?_|apply xeT|apply xeF|refine c0 (j7 W0 _ _ rfl) rfl ?_|refine c0 (j0 W0 _ _ rfl) rfl ?_|refine c0 (j3 W0 _ _ rfl) rfl ?_); first|refine dEr ?_|exact dz)
  apply cP<;>intro k2
  ·refine dEr ?_;repeat ((first|apply xiT|apply xiF|apply xbT|apply xbF|refine xiN ?_|refine xiM ?_|refine xbN ?_|refine xbM ?_|apply xeT|apply xeF|refine c0 (j7 W0 _ _ rfl) rfl ?_|refine c0 (j0 W0 _ _ rfl) rfl ?_|refine c0 (j3 W0 _ _ rfl) rfl ?_); first|refine dEr ?_|exact dz)
   exact congrArg CB (qg.2 rfl)
  refine dEr ?_;repeat ((first|apply xiT|apply xiF|apply xbT|apply xbF|refine xiN ?_|refine xiM ?_|refine xbN ?_|refine xbM ?_|apply xeT|apply xeF|refine c0 (j7 W0 _ _ rfl) rfl ?_|refine c0 (j0 W0 _ _ rfl) rfl ?_|refine c0 (j3 W0 _ _ rfl) rfl ?_); first|refine dEr ?_|exact dz)
  apply cP<;>intro k3
  ·refine dEr ?_;repeat ((first|apply xiT|apply xiF|apply xbT|apply xbF|refine xiN ?_|refine xiM ?_|refine xbN ?_|refine xbM ?_|apply xeT|apply xeF|refine c0 (j7 W0 _ _ rfl) rfl ?_|refine c0 (j0 W0 _ _ rfl) rfl ?_|refine c0 (j3 W0 _ _ rfl) rfl ?_); first|refine dEr ?_|exact dz)
   exact congrArg CB (qg.2 rfl)
  refine dEr ?_;repeat ((first|apply xiT|apply xiF|apply xbT|apply xbF|refine xiN ?_|refine xiM ?_|refine xbN ?_|refine xbM ?_|apply xeT|apply xeF|refine c0 (j7 W0 _ _ rfl) rfl ?_|refine c0 (j0 W0 _ _ rfl) rfl ?_|refine c0 (j3 W0 _ _ rfl) rfl ?_); first|refine dEr ?_|exact dz)
  apply cP<;>intro k4
  ·refine dEr ?_;repeat ((first|apply xiT|apply xiF|apply xbT|apply xbF|refine xiN ?_|refine xiM ?_|refine xbN ?_|refine xbM ?_|apply xeT|apply xeF|refine c0 (j7 W0 _ _ rfl) rfl ?_|refine c0 (j0 W0 _ _ rfl) rfl ?_|refine c0 (j3 W0 _ _ rfl) rfl ?_); first|refine dEr ?_|exact dz)
   exact congrArg CB (qg.2 rfl)
  have k2:0≤ev.pos:=k2;have k3:ev.pos < (w.net.length:Int):=k3;have k4:(w.net.length:Int) < 12:=k4;have k1:ev.kind=5:=k1;have hj:ev.pos.toNat < w.net.length:=by omega
  refine dEr ?_;repeat ((first|refine aM (j:=ev.pos.toNat) (by simp only; omega) hj ?_|apply xiT|apply xiF|apply xbT|apply xbF|refine xiN ?_|refine xiM ?_|refine xbN ?_|refine xbM ?_|apply xeT|apply xeF|refine c0 (j7 W0 _ _ rfl) rfl ?_|refine c0 (j0 W0 _ _ rfl) rfl ?_|refine c0 (j3 W0 _ _ rfl) rfl ?_); first|refine dEr ?_|exact dz)
  apply cP<;>intro k5
  ·refine dEr ?_;repeat ((first|apply xiT|apply xiF|apply xbT|apply xbF|refine xiN ?_|refine xiM ?_|refine xbN ?_|refine xbM ?_|apply xeT|apply xeF|refine c0 (j7 W0 _ _ rfl) rfl ?_|refine c0 (j0 W0 _ _ rfl) rfl ?_|refine c0 (j3 W0 _ _ rfl) rfl ?_); first|refine dEr ?_|exact dz)
   exact congrArg CB (qg.2 rfl)
  exfalso;refine H ⟨by omega,by omega,by omega,by omega,?_⟩;rw [show w.net.getD ev.pos.toNat noMs=w.net[ev.pos.toNat] by simp [List.getD,hj]];exact k5
 obtain ⟨k1,k2,k3,k4,k5⟩:=H;obtain ⟨k,hk⟩:∃ k:Nat,ev.pos=k:=⟨ev.pos.toNat,by omega⟩;obtain ⟨j,hj⟩:∃ j:Nat,j+1=w.net.length:=⟨w.net.length - 1,by omega⟩;have hkl:k < w.net.length:=by omega
 have hjj:(w.net.length:Int) - 1=j:=by omega
 have k5':(w.net.getD k noMs).kind≠1:=by rw [hk] at k5; exact k5
 have k6:w.net[k].kind≠1:=by
  rw [show w.net.getD k noMs=w.net[k] by simp [List.getD,hkl]] at k5'; exact k5'
 have tw:=twice g k1 hk hkl k4 k5' hj;have g1:=g.ev (yK k);have z0:=hw.z.z;have z1:=z0.ev (yK k);have e1:=ZI W0 hM w (yK k) (z0.mono (by omega));rw [Ze g] at e1;generalize (evW w (yK k)).1=x1 at *;have g2:=g1.ev ev;have z2:=z1.ev ev;have e2:=ZI W0 hM x1 ev (z1.mono (by omega));rw [Ze g1] at e2;generalize (evW x1 ev).1=x2 at *;have g3:=g2.ev (qn j);have e3:=ZI W0 hM x2 (qn ((w.net.length:Int) - 1)) (z2.mono (by omega));rw [Ze g2,show evW x2 (qn ((w.net.length:Int) - 1))=evW x2 (qn j) by rw [hjj]] at e3;generalize (evW x2 (qn j)).1=y at *;generalize (evW w (yK k)).2=d1 at *;generalize (evW x1 ev).2=d2 at *;generalize (evW x2 (qn j)).2=d3 at *;have hh2:=g2.pl.hl;have hf2:=g2.pl.fl;have hz2:=z2.h;obtain ⟨⟨t1,t2,t3,t4⟩,t5⟩:=tw;obtain ⟨yo,yck,yct,yl,yh,yf,yn,yw,yop⟩:=y;simp only at t1 t2 t3 t4 t5;subst t1 t2 t3 t5;have e1:Fn Tryz.prog W0 16 [zv w,.agg [CI 7,CI 0,CS [],CI 0,CS [],CS [],CS [],CI ev.pos]] (.c (.tup [zv x1,CI d1])) []:=by rw [hk]; exact e1
 have e2:Fn Tryz.prog W0 16 [zv x1,eEv ev] (.c (.tup [zv x2,CI d2])) []:=e2;have e3:Fn Tryz.prog W0 16 [zv x2,.agg [CI 5,CI 0,CS [],CI 0,CS [],CS [],CS [],CI ((w.net.length:Int) - 1)]] (.c (.tup [zv ⟨x2.over,yck,yct,x2.leases,x2.holds,x2.floors,yn,yw,yop⟩,CI d3])) []:=e3;refine dEr ?_;repeat ((first|refine c0 q1 rfl ?_|refine c0 q2 rfl ?_|refine c0 q4 rfl ?_|refine kFn rfl ?_|refine kFn k1 ?_|refine kGe (by first|omega|(simp only; omega)) ?_|refine kGt (by first|omega|(simp only; omega)) ?_|refine aM (j:=k) (by first|omega|(simp only; omega)) hkl ?_|refine kF k6 ?_|refine c0 e1 rfl ?_|refine c0 e2 rfl ?_|refine oB (by first|omega|(simp only; omega)) ?_|refine c0 e3 rfl ?_|apply xiT|apply xiF|apply xbT|apply xbF|refine xiN ?_|refine xiM ?_|refine xbN ?_|refine xbM ?_|apply xeT|apply xeF|refine c0 (j7 W0 _ _ rfl) rfl ?_|refine c0 (j0 W0 _ _ rfl) rfl ?_|refine c0 (j3 W0 _ _ rfl) rfl ?_); first|refine dEr ?_|exact dz)
 refine lp (σ:=Nat) (fun i=>[(9,.ptr 144 0),(11,.ptr 176 0),(13,I i)]) (fun _=>[(144,wBx x2),(176,wBx ⟨x2.over,yck,yct,x2.leases,x2.holds,x2.floors,yn,yw,yop⟩)]) (fun i=>i≤3) (fun i=>3 - i) 0 (by omega) ?_ ?_
 ·refine dr ?_;trivial
 intro i hi;refine dr ?_;apply cP<;>intro a1;rotate_left
 ·refine dEr ?_;repeat ((first|apply xiT|apply xiF|apply xbT|apply xbF|refine xiN ?_|refine xiM ?_|refine xbN ?_|refine xbM ?_|apply xeT|apply xeF|refine c0 (j7 W0 _ _ rfl) rfl ?_|refine c0 (j0 W0 _ _ rfl) rfl ?_|refine c0 (j3 W0 _ _ rfl) rfl ?_); first|refine dEr ?_|exact dz)
  try rfl
 have hi3:i < 3:=by omega
 have hih:i < x2.holds.length:=by omega
 have hif:i < x2.floors.length:=by omega
 refine dEr ?_;repeat ((first|apply xiT|apply xiF|apply xbT|apply xbF|refine xiN ?_|refine xiM ?_|refine xbN ?_|refine xbM ?_|apply xeT|apply xeF|refine c0 (j7 W0 _ _ rfl) rfl ?_|refine c0 (j0 W0 _ _ rfl) rfl ?_|refine c0 (j3 W0 _ _ rfl) rfl ?_); first|refine dEr ?_|exact dz)
 refine lp (σ:=Nat) (fun k=>[(9,.ptr 144 0),(11,.ptr 176 0),(13,I i),(14,I k)]) (fun _=>[(144,wBx x2),(176,wBx ⟨x2.over,yck,yct,x2.leases,x2.holds,x2.floors,yn,yw,yop⟩)]) (fun k=>k≤x2.holds[i].length) (fun k=>x2.holds[i].length - k) 0 (by omega) ?_ ?_
 ·refine dr ?_;trivial
 intro k hk;refine dr ?_;apply cP<;>intro a2;rotate_left
 ·refine dr ?_;refine ⟨i+1,by omega,by omega,?_⟩;refine dr ?_;trivial
 have hkk:k < x2.holds[i].length:=by omega
 have hzk:=hz2 _ (List.getElem_mem hih);refine dEr ?_;repeat ((first|apply xhF|apply xiT|apply xiF|apply xbT|apply xbF|refine xiN ?_|refine xiM ?_|refine xbN ?_|refine xbM ?_|apply xeT|apply xeF|refine c0 (j7 W0 _ _ rfl) rfl ?_|refine c0 (j0 W0 _ _ rfl) rfl ?_|refine c0 (j3 W0 _ _ rfl) rfl ?_); first|refine dEr ?_|exact dz)
 refine ⟨k+1,by omega,by omega,?_⟩;refine dr ?_;trivial
end Go.Proofs.YtopfccpgdldcdaaGreatDoor
