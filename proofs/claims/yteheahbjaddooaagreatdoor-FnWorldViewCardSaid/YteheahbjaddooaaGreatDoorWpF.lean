/- The texts Id4, Id5, Id6, Id7, Dd1, Dd2, Dd3, Cm1, Dm1, Dm2, Lb1, Lc1, Qb5, Ld3, Ld4, Ld5, joined; no condition. -/
import Derived.Test.YteheahbjaddooaaGreatDoorWpE
import Derived.OpenShut
import Derived.Carry
import Derived.ChangeSame
import Derived.ProofKit
import Derived.Test.YteheahbjaddooaaGreatDoorRows
import Derived.Test.YteheahbjaddooaaGreatDoorCards
import Derived.Test.YteheahbjaddooaaGreatDoorTie
import Derived.Deep.DeepHandedRow
import Derived.Lib.LaidTab
import Derived.Sort.Row

namespace Go.Proofs.YteheahbjaddooaaGreatDoor
set_option linter.unusedSimpArgs false
set_option linter.unusedVariables false
open Go Go.RowKit
def zcv:XC:=(.s (.s (.d [.mv 12 0,.ex 13 (.nck 12),.f1 14 4 13,.l1 15 1 14,.b1 16 .eql 15 (.i 10000),.mv 17 16,.gf 18 (.mv 0) 17,.gf 19 (.nck 18) 17,.gf 20 (.fa 9 19) 17,.gf 21 (.ld false 1 20) 17,.gf 22 (.mv 21) 17,.gt 23 (.mv 0) 22,.gt 24 (.nck 23) 22,.gt 25 (.ld true 14 24) 22,.gt 26 (.mv 0) 22,.gt 27 (.nck 26) 22,.gt 28 (.fa 10 27) 22,.gt 29 (.ld true 4 28) 22,.gt 30 (.opn 184 [25,29]) 22,.gt 31 (.mv 2) 22,.gt 32 (.call 185 [30,31]) 22,.gf 33 (.pick 22 32 .n) 17,.ex 34 (.pick 17 .y 33)]) (.cnd 34 .ret .skip)) (.s (.r [.mv 35 0,.ex 36 (.nck 35),.f1 37 4 36,.l1 38 1 37,.b1 39 .add 38 (.i 1),.ex 40 (.nck 35),.f1 41 4 40,.s1 1 41 39]) (.s (.r [.mv 42 0,.ex 43 (.nck 42),.f1 44 3 43,.l1 45 1 44,.b1 46 .add 45 (.i 5),.mv 6 46]) (.cut (.s (.r [.mv 47 0,.ex 48 (.nck 47),.f1 49 5 48,.l1 50 1 49,.mv 51 1,.mv 52 2,.c1 53 104 [50,51,52],.mv 7 53]) (.s (.r [.mv 54 7,.b1 55 .geq 54 (.i 0)]) (.cnd 55 (.r [.mv 56 0,.mv 57 0,.ex 58 (.nck 57),.f1 59 5 58,.l1 60 1 59,.mv 61 7,.mv 62 7,.b1 63 .add 62 (.i 1),.o1 64 186 [60,61,63],.ex 65 (.nck 56),.f1 66 5 65,.s1 1 66 64]) .skip))) (.s (.d [.mv 67 0,.mv 68 0,.ex 69 (.nck 68),.f1 70 5 69,.l1 71 1 70,.mv 72 1,.mv 73 2,.mv 74 0,.ex 75 (.nck 74),.f1 76 4 75,.l1 77 1 76,.mv 78 6,.ex 79 (.build [(I 0),sE,(I 0),(I 0)] [(0,(1,72)),(1,(1,73)),(2,(1,77)),(3,(1,78))]),.ex 80 (.bsl 4 72 [79]),.ex 81 (.app false 4 40 72 71 80),.ex 82 (.nck 67),.f1 83 5 82,.s1 1 83 81]) (.s (.r [.mv 85 0,.ex 86 (.nck 85),.f1 87 0 86,.l2 88 3 87,.c1 89 14 [88],.mv 84 89,.e1 90 84 0,.e1 91 84 1,.a1 8 90 3 39,.mv 9 91]) (.s (.r [.mv 93 8,.mv 94 2,.c1 95 15 [93,94],.mv 92 95,.e1 96 92 0,.e1 97 92 1,.ex 10 (.alloc [sE,(B false),sE]),.s1 3 10 96,.mv 11 97]) (.d [.mv 98 0,.mv 99 1,.mv 100 2,.mv 101 11,.l2 102 3 10,.mv 103 0,.ex 104 (.nck 103),.f1 105 4 104,.l1 106 1 105,.mv 107 6,.ex 108 (.build [sE,(B false),sE,(B false),sE,(I 0),(I 0)] [(0,(1,100)),(1,(1,101)),(2,(3,102)),(5,(1,106)),(6,(1,107))]),.ex 109 (.build [(I 0),(I 0),sE,(B false),sE,(B false),sE,(I 0),(I 0)] [(0,(1,(.i 2))),(1,(1,99)),(2,(7,108))]),.o1 110 80 [98,109]]))))))))
theorem zcw:compF Tryz.prog [80,186,184] 134=some (zcv.ac,[],111):=by kernel_rfl
theorem ziB {w:Wld} {who:Int} {p:Str}:XB.row ((offL w.leases who p (w.count+1)).map eLease++[eLease ⟨who,p,w.count+1,w.clock+5⟩]) 4 72 = .row ((grantL w who p).leases.map eLease) 4 72:=xrow1
theorem zeW (W0:World) (hM:HM W0) (w:Wld) (who:Int) (p:Str) (h:WG w) (hl:w.leases.length≤1000000):FunW Tryz.prog W0 134 [.ptr 4 0,.c (CI who),.c (CS p)] (wMp w) (fun _:Bool=>True) (fun _ => .tup []) (fun b=>wMl b (grantW w who p)):=by
 refine funW (c:=zcv) mixed zcw (by simp) rfl rfl fun hg=>?_
 have hv:=jh W0 hM w.over
 rw [if_pos h.ov,zo3 h] at hv
 have ht:=zgC W0 hM w w.op h.ov
 have hc:=h.pl.ck
 have hct:=h.pl.ct
 have hn:w.net.length≤1000:=by have:=h.pl.nl; omega
 rw [ziC]
 generalize hts:turnsW w w.op=ts at *
 have hget:=zfi W0 hM (vwG w.over) p
 rw [if_pos h.gx,zJ] at hget
 have hofl:(offL w.leases who p (w.count+1)).length≤1000000:=Nat.le_trans (List.length_filter_le _ _) hl
 have ho:=zkN h.ls.d (who:=who) (n:=w.count+1) (p:=p)
 have hla:=zgs W0 w.leases who p
 refine dr ?_
 refine cP ?_ ?_<;>intro h0
 ·rw [if_pos (.inr (by omega))]
  refine dr ?_
  refine ⟨none,_,_,?_,false,trivial,rfl,rfl⟩
  refine dr ?_
  trivial
 refine dr ?_
 refine cP ?_ ?_<;>intro h1
 ·refine dr ?_
  refine oW ht rfl ⟨rfl,rfl,rfl,rfl,rfl,rfl,rfl,trivial⟩ rfl rfl ⟨(),trivial⟩ fun _ _=>⟨rfl,?_⟩
  refine dEr ?_
  repeat (refine c0 (zen W0 ts p) rfl ?_; first | refine dEr ?_ | exact dz)
  refine cP ?_ ?_<;>intro h2
  ·rw [if_pos (.inl ⟨h1,by rw [List.contains_eq_mem,decide_eq_true_iff] at h2; exact h2⟩)]
   refine dEr ?_
   refine ⟨none,_,_,?_,false,trivial,rfl,rfl⟩
   refine dr ?_
   trivial
  have h2':p ∉ ts:=by rw [List.contains_eq_mem,decide_eq_false_iff_not] at h2; exact h2
  rw [if_neg (by rintro (⟨_,h⟩ | h); exact h2' h; omega)]
  refine dEr ?_
  refine cuts (σ:=Bool) (fun _=>[(0,.ptr 4 0),(1,.c (CI who)),(2,.c (CS p)),(6,I (w.clock+5))]) (fun b=>wMl b { w with count:=w.count+1,leases:=offL w.leases who p (w.count+1) }) (fun _=>True) ?_ ?_
  ·refine dEr ?_
   repeat (refine c0 hla rfl ?_; first | refine dEr ?_ | exact dz)
   rcases @qu w.leases who p with ⟨e1,e2⟩ | ⟨j,hj,e1,e2⟩
   ·rw [e2] at ho
    rw [e1,show offL w.leases who p (w.count+1)=w.leases from ho]
    refine cP ?_ ?_<;>intro h3
    ·omega
    refine dr ?_
    refine ⟨false,trivial,?_⟩
    refine KeepX.s (z:=none) ?_
    refine dr ?_
    trivial
   ·have hnum:=(h.ls.g _ (List.getElem_mem hj)).2.2.2.1
    rw [e2,e1] at ho
    have ho:offL w.leases who p (w.count+1)=if w.leases[j].num≤w.count+1 then w.leases.eraseIdx (j:Int).toNat else w.leases:=ho
    rw [e1,ho,if_pos (by omega)]
    refine cP ?_ ?_<;>intro h3
    rotate_left
    ·omega
    refine dr ?_
    refine oW (zeo W0 w.leases j hj 5 1600 (by decide) hl) rfl ⟨rfl,trivial⟩ rfl rfl ⟨(),trivial⟩ fun _ _=>⟨rfl,?_⟩
    refine dEr ?_
    refine ⟨true,trivial,?_⟩
    refine KeepX.s (z:=none) ?_
    refine dr ?_
    repeat (refine oB (by simp [List.length_eraseIdx,hj]) ?_; first | refine dr ?_ | exact dz)
    trivial
  rintro b _
  cases b with
  | true =>
   refine dr ?_
   repeat ((first | refine oB (by simp; omega) ?_ | refine oB (by simp) ?_ | refine c0 hv rfl ?_ | refine c0 hget rfl ?_); first | refine dr ?_ | exact dz)
   intro _
   refine dEr ?_
   repeat ((first | refine oB (by simp; omega) ?_ | refine oB (by simp) ?_ | refine c0 hv rfl ?_ | refine c0 hget rfl ?_); first | refine dEr ?_ | exact dz)
   refine oW ((jz W0 (grantL w who p) (grantM w who p) hn).swp 5 1600) rfl ⟨congrArg some (congrArg (fun y=>XB.box [.c (eEnts w.over.base),.c (eMarkss w.over.layers),.c (eMarks w.over.upper),I w.clock,I (w.count+1),y,.own 6 3,.own 10 w.floors.length,.own 11 w.net.length,B w.waits,I w.op.kind,.c (CS w.op.path),.c (CS w.op.dest),.c (CS w.op.data)]) xown1),congrArg some ziB,rfl,rfl,rfl,rfl,rfl,rfl,trivial⟩ rfl rfl ⟨(),trivial⟩ fun _ _=>⟨rfl,?_⟩
   refine dEr ?_
   refine ⟨none,_,_,?_,true,trivial,rfl,rfl⟩
   refine dr ?_
   trivial
  | false =>
   refine dr ?_
   repeat ((first | refine oB (by simp; omega) ?_ | refine oB (by simp) ?_ | refine c0 hv rfl ?_ | refine c0 hget rfl ?_); first | refine dr ?_ | exact dz)
   intro _
   refine dEr ?_
   repeat ((first | refine oB (by simp; omega) ?_ | refine oB (by simp) ?_ | refine c0 hv rfl ?_ | refine c0 hget rfl ?_); first | refine dEr ?_ | exact dz)
   refine oW ((jz W0 (grantL w who p) (grantM w who p) hn)) rfl ⟨congrArg some (congrArg (fun y=>XB.box [.c (eEnts w.over.base),.c (eMarkss w.over.layers),.c (eMarks w.over.upper),I w.clock,I (w.count+1),y,.own 6 3,.own 10 w.floors.length,.own 11 w.net.length,B w.waits,I w.op.kind,.c (CS w.op.path),.c (CS w.op.dest),.c (CS w.op.data)]) xown1),congrArg some ziB,rfl,rfl,rfl,rfl,rfl,rfl,trivial⟩ rfl rfl ⟨(),trivial⟩ fun _ _=>⟨rfl,?_⟩
   refine dEr ?_
   refine ⟨none,_,_,?_,false,trivial,rfl,rfl⟩
   refine dr ?_
   trivial
 ·refine dr ?_
  rw [if_neg (by rintro (⟨h,_⟩ | h); rw [h] at h1; cases h1; omega)]
  refine dEr ?_
  refine cuts (σ:=Bool) (fun _=>[(0,.ptr 4 0),(1,.c (CI who)),(2,.c (CS p)),(6,I (w.clock+5))]) (fun b=>wMl b { w with count:=w.count+1,leases:=offL w.leases who p (w.count+1) }) (fun _=>True) ?_ ?_
  ·refine dEr ?_
   repeat (refine c0 hla rfl ?_; first | refine dEr ?_ | exact dz)
   rcases @qu w.leases who p with ⟨e1,e2⟩ | ⟨j,hj,e1,e2⟩
   ·rw [e2] at ho
    rw [e1,show offL w.leases who p (w.count+1)=w.leases from ho]
    refine cP ?_ ?_<;>intro h3
    ·omega
    refine dr ?_
    refine ⟨false,trivial,?_⟩
    refine KeepX.s (z:=none) ?_
    refine dr ?_
    trivial
   ·have hnum:=(h.ls.g _ (List.getElem_mem hj)).2.2.2.1
    rw [e2,e1] at ho
    have ho:offL w.leases who p (w.count+1)=if w.leases[j].num≤w.count+1 then w.leases.eraseIdx (j:Int).toNat else w.leases:=ho
    rw [e1,ho,if_pos (by omega)]
    refine cP ?_ ?_<;>intro h3
    rotate_left
    ·omega
    refine dr ?_
    refine oW (zeo W0 w.leases j hj 5 1600 (by decide) hl) rfl ⟨rfl,trivial⟩ rfl rfl ⟨(),trivial⟩ fun _ _=>⟨rfl,?_⟩
    refine dEr ?_
    refine ⟨true,trivial,?_⟩
    refine KeepX.s (z:=none) ?_
    refine dr ?_
    repeat (refine oB (by simp [List.length_eraseIdx,hj]) ?_; first | refine dr ?_ | exact dz)
    trivial
  rintro b _
  cases b with
  | true =>
   refine dr ?_
   repeat ((first | refine oB (by simp; omega) ?_ | refine oB (by simp) ?_ | refine c0 hv rfl ?_ | refine c0 hget rfl ?_); first | refine dr ?_ | exact dz)
   intro _
   refine dEr ?_
   repeat ((first | refine oB (by simp; omega) ?_ | refine oB (by simp) ?_ | refine c0 hv rfl ?_ | refine c0 hget rfl ?_); first | refine dEr ?_ | exact dz)
   refine oW ((jz W0 (grantL w who p) (grantM w who p) hn).swp 5 1600) rfl ⟨congrArg some (congrArg (fun y=>XB.box [.c (eEnts w.over.base),.c (eMarkss w.over.layers),.c (eMarks w.over.upper),I w.clock,I (w.count+1),y,.own 6 3,.own 10 w.floors.length,.own 11 w.net.length,B w.waits,I w.op.kind,.c (CS w.op.path),.c (CS w.op.dest),.c (CS w.op.data)]) xown1),congrArg some ziB,rfl,rfl,rfl,rfl,rfl,rfl,trivial⟩ rfl rfl ⟨(),trivial⟩ fun _ _=>⟨rfl,?_⟩
   refine dEr ?_
   refine ⟨none,_,_,?_,true,trivial,rfl,rfl⟩
   refine dr ?_
   trivial
  | false =>
   refine dr ?_
   repeat ((first | refine oB (by simp; omega) ?_ | refine oB (by simp) ?_ | refine c0 hv rfl ?_ | refine c0 hget rfl ?_); first | refine dr ?_ | exact dz)
   intro _
   refine dEr ?_
   repeat ((first | refine oB (by simp; omega) ?_ | refine oB (by simp) ?_ | refine c0 hv rfl ?_ | refine c0 hget rfl ?_); first | refine dEr ?_ | exact dz)
   refine oW ((jz W0 (grantL w who p) (grantM w who p) hn)) rfl ⟨congrArg some (congrArg (fun y=>XB.box [.c (eEnts w.over.base),.c (eMarkss w.over.layers),.c (eMarks w.over.upper),I w.clock,I (w.count+1),y,.own 6 3,.own 10 w.floors.length,.own 11 w.net.length,B w.waits,I w.op.kind,.c (CS w.op.path),.c (CS w.op.dest),.c (CS w.op.data)]) xown1),congrArg some ziB,rfl,rfl,rfl,rfl,rfl,rfl,trivial⟩ rfl rfl ⟨(),trivial⟩ fun _ _=>⟨rfl,?_⟩
   refine dEr ?_
   refine ⟨none,_,_,?_,false,trivial,rfl,rfl⟩
   refine dr ?_
   trivial
def zcH:XC:=(.cut (.s (.r [.mv 9 0,.ex 10 (.nck 9),.f1 11 6 10,.l1 12 1 11,.mv 13 1,.i1 14 1 12 13,.l1 15 1 14,.mv 16 2,.c1 17 41 [15,16],.mv 8 17]) (.s (.r [.mv 18 8,.b1 19 .geq 18 (.i 0),.mv 20 19,.gt 21 (.mv 0) 20,.gt 22 (.nck 21) 20,.gt 23 (.fa 6 22) 20,.gt 24 (.ld false 1 23) 20,.gt 25 (.mv 1) 20,.gt 26 (.ia 1 24 25) 20,.gt 27 (.ld false 1 26) 20,.gt 28 (.mv 8) 20,.gt 29 (.ia 7 27 28) 20,.gt 30 (.fa 5 29) 20,.gt 31 (.ld false 1 30) 20,.gt 32 (.mv 3) 20,.gt 33 (.bin .leq 31 32) 20,.ex 34 (.pick 20 33 .n)]) (.cnd 34 (.d [.mv 35 0,.ex 36 (.nck 35),.f1 37 6 36,.exo [7,1616] 38 (.ld false 1 37),.mv 39 1,.mv 40 0,.ex 41 (.nck 40),.f1 42 6 41,.exo [7,1616] 43 (.ld false 1 42),.mv 44 1,.exo [7,1616] 45 (.ia 1 43 44),.exo [7,1616] 46 (.ld false 1 45),.mv 47 8,.mv 48 8,.b1 49 .add 48 (.i 1),.exo [7,1616] 50 (.opn 187 [46,47,49]),.exo [7,1616] 51 (.ia 1 38 39),.s1 1 51 50]) .skip))) (.s (.d [.mv 52 0,.ex 53 (.nck 52),.f1 54 7 53,.l1 55 1 54,.mv 56 1,.mv 57 0,.ex 58 (.nck 57),.f1 59 7 58,.l1 60 1 59,.mv 61 1,.i1 62 1 60 61,.l1 63 1 62,.mv 64 3,.ex 65 (.mm true 63 64),.i1 66 1 55 56,.s1 1 66 65]) (.r [.mv 67 0,.mv 68 1,.mv 69 2,.mv 70 3,.ex 71 (.build [sE,(B false),sE,(B false),sE,(I 0),(I 0)] [(0,(1,69)),(5,(1,70))]),.ex 72 (.build [(I 0),(I 0),sE,(B false),sE,(B false),sE,(I 0),(I 0)] [(0,(1,(.i 4))),(1,(1,68)),(2,(7,71))]),.o1 73 80 [67,72]])))
theorem zcI:compF Tryz.prog [80,187,1000007,1001616] 136=some (zcH.ac,[],74):=by kernel_rfl
theorem ze1 (W0:World) (w:Wld) (p:Str) (n:Int) (h:WG w) (hz:HZ 1000000 w):FunW Tryz.prog W0 136 [.ptr 4 0,I 0,.c (CS p),.c (CI n)] (wMp w) (fun _:Bool=>True) (fun _ => .tup []) (fun b=>wM0 b (sendW { w with holds:=w.holds.set 0 (leaveH (hdW w 0) p n),floors:=w.floors.set 0 (maxI (flW w 0) n) } ⟨4,0,⟨p,false,noE,n,0⟩⟩)):=by
 have hw:isW 0:=⟨by omega,by omega⟩
 have f3:=h.pl.fl
 have hn:w.net.length≤1000:=by have:=h.pl.nl; omega
 have s:=@zo6 w (leaveH (hdW w 0) p n) w.floors h.pl.hl
 have hd:(hdW w 0).Pairwise fun a b=>a.path≠b.path:=(h.hd 0 (by omega)).d
 have hlen:(hdW w 0).length≤1000000:=qf hz 0
 have ht:=zjC hd (p:=p) (n:=n)
 have hcs:=qe (hdW w 0) p
 have hha:=jg W0 (hdW w 0) p
 refine funW (c:=zcH) mixed zcI (by simp) rfl rfl fun hg=>?_
 refine cuts (σ:=Bool) (fun _=>[(0,.ptr 4 0),(1,I 0),(2,.c (CS p)),(3,.c (CI n))]) (fun b=>wM0 b { w with holds:=w.holds.set 0 (leaveH (hdW w 0) p n) }) (fun _=>True) ?_ ?_
 ·refine dEr ?_
  repeat ((first | refine oB (by decide) ?_ | refine c0 hha rfl ?_); first | refine dEr ?_ | exact dz)
  rcases hcs with ⟨e1,e2⟩ | ⟨j,hj,e1,e2,e3⟩
  ·have lv:=ht.2 (fun j hj e=>by rw [e1] at e; omega)
   rw [e1]
   refine cP ?_ ?_<;>intro c3
   ·omega
   refine dr ?_
   refine ⟨false,trivial,?_⟩
   show KeepX _ _ _ _ _ (wMx 5 7 8 9 11 _)
   rw [Zi s,lv]
   refine KeepX.s (z:=none) ?_
   refine dr ?_
   trivial
  rw [e1]
  refine cP ?_ ?_<;>intro c3
  rotate_left
  ·omega
  refine dr ?_
  repeat (refine oB (by decide) ?_; first | refine dr ?_ | exact dz)
  refine cP ?_ ?_<;>intro c4
  ·have lv:=ht.1 j hj e1 c4
   refine dr ?_
   repeat (refine oB (by decide) ?_; first | refine dr ?_ | exact dz)
   refine oW (ja W0 (hdW w 0) j hj 7 1616 (by decide) hlen) rfl ⟨rfl,trivial⟩ rfl rfl ⟨(),trivial⟩ fun _ _=>⟨rfl,?_⟩
   refine dEr ?_
   repeat (refine oB (by decide) ?_; first | refine dEr ?_ | exact dz)
   refine ⟨true,trivial,?_⟩
   show KeepX _ _ _ _ _ (_::wMx 5 1616 8 9 11 _)
   rw [Zi s,lv]
   refine KeepX.s (z:=none) ?_
   refine dr ?_
   repeat (refine oB (by simp [List.length_eraseIdx,hj]) ?_; first | refine dr ?_ | exact dz)
   trivial
  ·have lv:leaveH (hdW w 0) p n=hdW w 0:=by
    refine ht.2 fun i hi e=>?_
    have hij:i=j:=by omega
    subst hij
    exact c4
   refine dr ?_
   refine ⟨false,trivial,?_⟩
   show KeepX _ _ _ _ _ (wMx 5 7 8 9 11 _)
   rw [Zi s,lv]
   refine KeepX.s (z:=none) ?_
   refine dr ?_
   trivial
 have hs:=jz W0 { w with holds:=w.holds.set 0 (leaveH (hdW w 0) p n),floors:=w.floors.set 0 (maxI (flW w 0) n) } ⟨4,0,⟨p,false,noE,n,0⟩⟩ hn
 have fr:XB.row ((w.floors.map CI).set 0 (CI (max (flW w 0) n))) 1 3 = .row ((w.floors.set 0 (maxI (flW w 0) n)).map CI) 1 3:=by
  rw [show maxI (flW w 0) n=max (flW w 0) n by unfold maxI; split<;>omega,set1]
 have fb:∀ k,XB.box [.c (eEnts w.over.base),.c (eMarkss w.over.layers),.c (eMarks w.over.upper),I w.clock,I w.count,.own 5 w.leases.length,.own 6 3,.own 10 w.floors.length,.own k w.net.length,B w.waits,I w.op.kind,.c (CS w.op.path),.c (CS w.op.dest),.c (CS w.op.data)] =
   .box [.c (eEnts w.over.base),.c (eMarkss w.over.layers),.c (eMarks w.over.upper),I w.clock,I w.count,.own 5 w.leases.length,.own 6 3,.own 10 (w.floors.set 0 (maxI (flW w 0) n)).length,.own k w.net.length,B w.waits,I w.op.kind,.c (CS w.op.path),.c (CS w.op.dest),.c (CS w.op.data)]:=fun k=>by rw [List.length_set]
 rintro b _
 cases b with
 | true =>
  refine dEr ?_
  repeat ((first | refine oB (by rw [f3]; decide) ?_ | refine aFl hw f3 ?_); first | refine dEr ?_ | exact dz)
  refine oW (hs.swp 7 1616) rfl ⟨congrArg some (fb 11),rfl,rfl,rfl,rfl,rfl,congrArg some fr,rfl,trivial⟩ rfl rfl ⟨(),trivial⟩ fun _ _=>⟨rfl,?_⟩
  refine dEr ?_
  refine ⟨none,_,_,?_,true,trivial,rfl,rfl⟩
  refine dr ?_
  trivial
 | false =>
  refine dEr ?_
  repeat ((first | refine oB (by rw [f3]; decide) ?_ | refine aFl hw f3 ?_); first | refine dEr ?_ | exact dz)
  refine oW hs rfl ⟨congrArg some (fb 11),rfl,rfl,rfl,rfl,rfl,congrArg some fr,rfl,trivial⟩ rfl rfl ⟨(),trivial⟩ fun _ _=>⟨rfl,?_⟩
  refine dEr ?_
  refine ⟨none,_,_,?_,false,trivial,rfl,rfl⟩
  refine dr ?_
  trivial
def zcJ:XC:=(.cut (.s (.r [.mv 9 0,.ex 10 (.nck 9),.f1 11 6 10,.l1 12 1 11,.mv 13 1,.i1 14 1 12 13,.l1 15 1 14,.mv 16 2,.c1 17 41 [15,16],.mv 8 17]) (.s (.r [.mv 18 8,.b1 19 .geq 18 (.i 0),.mv 20 19,.gt 21 (.mv 0) 20,.gt 22 (.nck 21) 20,.gt 23 (.fa 6 22) 20,.gt 24 (.ld false 1 23) 20,.gt 25 (.mv 1) 20,.gt 26 (.ia 1 24 25) 20,.gt 27 (.ld false 1 26) 20,.gt 28 (.mv 8) 20,.gt 29 (.ia 7 27 28) 20,.gt 30 (.fa 5 29) 20,.gt 31 (.ld false 1 30) 20,.gt 32 (.mv 3) 20,.gt 33 (.bin .leq 31 32) 20,.ex 34 (.pick 20 33 .n)]) (.cnd 34 (.d [.mv 35 0,.ex 36 (.nck 35),.f1 37 6 36,.exo [8,1616] 38 (.ld false 1 37),.mv 39 1,.mv 40 0,.ex 41 (.nck 40),.f1 42 6 41,.exo [8,1616] 43 (.ld false 1 42),.mv 44 1,.exo [8,1616] 45 (.ia 1 43 44),.exo [8,1616] 46 (.ld false 1 45),.mv 47 8,.mv 48 8,.b1 49 .add 48 (.i 1),.exo [8,1616] 50 (.opn 187 [46,47,49]),.exo [8,1616] 51 (.ia 1 38 39),.s1 1 51 50]) .skip))) (.s (.d [.mv 52 0,.ex 53 (.nck 52),.f1 54 7 53,.l1 55 1 54,.mv 56 1,.mv 57 0,.ex 58 (.nck 57),.f1 59 7 58,.l1 60 1 59,.mv 61 1,.i1 62 1 60 61,.l1 63 1 62,.mv 64 3,.ex 65 (.mm true 63 64),.i1 66 1 55 56,.s1 1 66 65]) (.r [.mv 67 0,.mv 68 1,.mv 69 2,.mv 70 3,.ex 71 (.build [sE,(B false),sE,(B false),sE,(I 0),(I 0)] [(0,(1,69)),(5,(1,70))]),.ex 72 (.build [(I 0),(I 0),sE,(B false),sE,(B false),sE,(I 0),(I 0)] [(0,(1,(.i 4))),(1,(1,68)),(2,(7,71))]),.o1 73 80 [67,72]])))
theorem zcK:compF Tryz.prog [80,187,1000008,1001616] 136=some (zcJ.ac,[],74):=by kernel_rfl
theorem ze2 (W0:World) (w:Wld) (p:Str) (n:Int) (h:WG w) (hz:HZ 1000000 w):FunW Tryz.prog W0 136 [.ptr 4 0,I 1,.c (CS p),.c (CI n)] (wMp w) (fun _:Bool=>True) (fun _ => .tup []) (fun b=>wM1 b (sendW { w with holds:=w.holds.set 1 (leaveH (hdW w 1) p n),floors:=w.floors.set 1 (maxI (flW w 1) n) } ⟨4,1,⟨p,false,noE,n,0⟩⟩)):=by
 have hw:isW 1:=⟨by omega,by omega⟩
 have f3:=h.pl.fl
 have hn:w.net.length≤1000:=by have:=h.pl.nl; omega
 have s:=@zo7 w (leaveH (hdW w 1) p n) w.floors h.pl.hl
 have hd:(hdW w 1).Pairwise fun a b=>a.path≠b.path:=(h.hd 1 (by omega)).d
 have hlen:(hdW w 1).length≤1000000:=qf hz 1
 have ht:=zjC hd (p:=p) (n:=n)
 have hcs:=qe (hdW w 1) p
 have hha:=jg W0 (hdW w 1) p
 refine funW (c:=zcJ) mixed zcK (by simp) rfl rfl fun hg=>?_
 refine cuts (σ:=Bool) (fun _=>[(0,.ptr 4 0),(1,I 1),(2,.c (CS p)),(3,.c (CI n))]) (fun b=>wM1 b { w with holds:=w.holds.set 1 (leaveH (hdW w 1) p n) }) (fun _=>True) ?_ ?_
 ·refine dEr ?_
  repeat ((first | refine oB (by decide) ?_ | refine c0 hha rfl ?_); first | refine dEr ?_ | exact dz)
  rcases hcs with ⟨e1,e2⟩ | ⟨j,hj,e1,e2,e3⟩
  ·have lv:=ht.2 (fun j hj e=>by rw [e1] at e; omega)
   rw [e1]
   refine cP ?_ ?_<;>intro c3
   ·omega
   refine dr ?_
   refine ⟨false,trivial,?_⟩
   show KeepX _ _ _ _ _ (wMx 5 7 8 9 11 _)
   rw [Zi s,lv]
   refine KeepX.s (z:=none) ?_
   refine dr ?_
   trivial
  rw [e1]
  refine cP ?_ ?_<;>intro c3
  rotate_left
  ·omega
  refine dr ?_
  repeat (refine oB (by decide) ?_; first | refine dr ?_ | exact dz)
  refine cP ?_ ?_<;>intro c4
  ·have lv:=ht.1 j hj e1 c4
   refine dr ?_
   repeat (refine oB (by decide) ?_; first | refine dr ?_ | exact dz)
   refine oW (ja W0 (hdW w 1) j hj 8 1616 (by decide) hlen) rfl ⟨rfl,trivial⟩ rfl rfl ⟨(),trivial⟩ fun _ _=>⟨rfl,?_⟩
   refine dEr ?_
   repeat (refine oB (by decide) ?_; first | refine dEr ?_ | exact dz)
   refine ⟨true,trivial,?_⟩
   show KeepX _ _ _ _ _ (_::wMx 5 7 1616 9 11 _)
   rw [Zi s,lv]
   refine KeepX.s (z:=none) ?_
   refine dr ?_
   repeat (refine oB (by simp [List.length_eraseIdx,hj]) ?_; first | refine dr ?_ | exact dz)
   trivial
  ·have lv:leaveH (hdW w 1) p n=hdW w 1:=by
    refine ht.2 fun i hi e=>?_
    have hij:i=j:=by omega
    subst hij
    exact c4
   refine dr ?_
   refine ⟨false,trivial,?_⟩
   show KeepX _ _ _ _ _ (wMx 5 7 8 9 11 _)
   rw [Zi s,lv]
   refine KeepX.s (z:=none) ?_
   refine dr ?_
   trivial
 have hs:=jz W0 { w with holds:=w.holds.set 1 (leaveH (hdW w 1) p n),floors:=w.floors.set 1 (maxI (flW w 1) n) } ⟨4,1,⟨p,false,noE,n,0⟩⟩ hn
 have fr:XB.row ((w.floors.map CI).set 1 (CI (max (flW w 1) n))) 1 3 = .row ((w.floors.set 1 (maxI (flW w 1) n)).map CI) 1 3:=by
  rw [show maxI (flW w 1) n=max (flW w 1) n by unfold maxI; split<;>omega,set1]
 have fb:∀ k,XB.box [.c (eEnts w.over.base),.c (eMarkss w.over.layers),.c (eMarks w.over.upper),I w.clock,I w.count,.own 5 w.leases.length,.own 6 3,.own 10 w.floors.length,.own k w.net.length,B w.waits,I w.op.kind,.c (CS w.op.path),.c (CS w.op.dest),.c (CS w.op.data)] =
   .box [.c (eEnts w.over.base),.c (eMarkss w.over.layers),.c (eMarks w.over.upper),I w.clock,I w.count,.own 5 w.leases.length,.own 6 3,.own 10 (w.floors.set 1 (maxI (flW w 1) n)).length,.own k w.net.length,B w.waits,I w.op.kind,.c (CS w.op.path),.c (CS w.op.dest),.c (CS w.op.data)]:=fun k=>by rw [List.length_set]
 rintro b _
 cases b with
 | true =>
  refine dEr ?_
  repeat ((first | refine oB (by rw [f3]; decide) ?_ | refine aFl hw f3 ?_); first | refine dEr ?_ | exact dz)
  refine oW (hs.swp 8 1616) rfl ⟨congrArg some (fb 11),rfl,rfl,rfl,rfl,rfl,congrArg some fr,rfl,trivial⟩ rfl rfl ⟨(),trivial⟩ fun _ _=>⟨rfl,?_⟩
  refine dEr ?_
  refine ⟨none,_,_,?_,true,trivial,rfl,rfl⟩
  refine dr ?_
  trivial
 | false =>
  refine dEr ?_
  repeat ((first | refine oB (by rw [f3]; decide) ?_ | refine aFl hw f3 ?_); first | refine dEr ?_ | exact dz)
  refine oW hs rfl ⟨congrArg some (fb 11),rfl,rfl,rfl,rfl,rfl,congrArg some fr,rfl,trivial⟩ rfl rfl ⟨(),trivial⟩ fun _ _=>⟨rfl,?_⟩
  refine dEr ?_
  refine ⟨none,_,_,?_,false,trivial,rfl,rfl⟩
  refine dr ?_
  trivial
def zcL:XC:=(.cut (.s (.r [.mv 9 0,.ex 10 (.nck 9),.f1 11 6 10,.l1 12 1 11,.mv 13 1,.i1 14 1 12 13,.l1 15 1 14,.mv 16 2,.c1 17 41 [15,16],.mv 8 17]) (.s (.r [.mv 18 8,.b1 19 .geq 18 (.i 0),.mv 20 19,.gt 21 (.mv 0) 20,.gt 22 (.nck 21) 20,.gt 23 (.fa 6 22) 20,.gt 24 (.ld false 1 23) 20,.gt 25 (.mv 1) 20,.gt 26 (.ia 1 24 25) 20,.gt 27 (.ld false 1 26) 20,.gt 28 (.mv 8) 20,.gt 29 (.ia 7 27 28) 20,.gt 30 (.fa 5 29) 20,.gt 31 (.ld false 1 30) 20,.gt 32 (.mv 3) 20,.gt 33 (.bin .leq 31 32) 20,.ex 34 (.pick 20 33 .n)]) (.cnd 34 (.d [.mv 35 0,.ex 36 (.nck 35),.f1 37 6 36,.exo [9,1616] 38 (.ld false 1 37),.mv 39 1,.mv 40 0,.ex 41 (.nck 40),.f1 42 6 41,.exo [9,1616] 43 (.ld false 1 42),.mv 44 1,.exo [9,1616] 45 (.ia 1 43 44),.exo [9,1616] 46 (.ld false 1 45),.mv 47 8,.mv 48 8,.b1 49 .add 48 (.i 1),.exo [9,1616] 50 (.opn 187 [46,47,49]),.exo [9,1616] 51 (.ia 1 38 39),.s1 1 51 50]) .skip))) (.s (.d [.mv 52 0,.ex 53 (.nck 52),.f1 54 7 53,.l1 55 1 54,.mv 56 1,.mv 57 0,.ex 58 (.nck 57),.f1 59 7 58,.l1 60 1 59,.mv 61 1,.i1 62 1 60 61,.l1 63 1 62,.mv 64 3,.ex 65 (.mm true 63 64),.i1 66 1 55 56,.s1 1 66 65]) (.r [.mv 67 0,.mv 68 1,.mv 69 2,.mv 70 3,.ex 71 (.build [sE,(B false),sE,(B false),sE,(I 0),(I 0)] [(0,(1,69)),(5,(1,70))]),.ex 72 (.build [(I 0),(I 0),sE,(B false),sE,(B false),sE,(I 0),(I 0)] [(0,(1,(.i 4))),(1,(1,68)),(2,(7,71))]),.o1 73 80 [67,72]])))
theorem zcM:compF Tryz.prog [80,187,1000009,1001616] 136=some (zcL.ac,[],74):=by kernel_rfl
theorem ze3 (W0:World) (w:Wld) (p:Str) (n:Int) (h:WG w) (hz:HZ 1000000 w):FunW Tryz.prog W0 136 [.ptr 4 0,I 2,.c (CS p),.c (CI n)] (wMp w) (fun _:Bool=>True) (fun _ => .tup []) (fun b=>wM2 b (sendW { w with holds:=w.holds.set 2 (leaveH (hdW w 2) p n),floors:=w.floors.set 2 (maxI (flW w 2) n) } ⟨4,2,⟨p,false,noE,n,0⟩⟩)):=by
 have hw:isW 2:=⟨by omega,by omega⟩
 have f3:=h.pl.fl
 have hn:w.net.length≤1000:=by have:=h.pl.nl; omega
 have s:=@zo8 w (leaveH (hdW w 2) p n) w.floors h.pl.hl
 have hd:(hdW w 2).Pairwise fun a b=>a.path≠b.path:=(h.hd 2 (by omega)).d
 have hlen:(hdW w 2).length≤1000000:=qf hz 2
 have ht:=zjC hd (p:=p) (n:=n)
 have hcs:=qe (hdW w 2) p
 have hha:=jg W0 (hdW w 2) p
 refine funW (c:=zcL) mixed zcM (by simp) rfl rfl fun hg=>?_
 refine cuts (σ:=Bool) (fun _=>[(0,.ptr 4 0),(1,I 2),(2,.c (CS p)),(3,.c (CI n))]) (fun b=>wM2 b { w with holds:=w.holds.set 2 (leaveH (hdW w 2) p n) }) (fun _=>True) ?_ ?_
 ·refine dEr ?_
  repeat ((first | refine oB (by decide) ?_ | refine c0 hha rfl ?_); first | refine dEr ?_ | exact dz)
  rcases hcs with ⟨e1,e2⟩ | ⟨j,hj,e1,e2,e3⟩
  ·have lv:=ht.2 (fun j hj e=>by rw [e1] at e; omega)
   rw [e1]
   refine cP ?_ ?_<;>intro c3
   ·omega
   refine dr ?_
   refine ⟨false,trivial,?_⟩
   show KeepX _ _ _ _ _ (wMx 5 7 8 9 11 _)
   rw [Zi s,lv]
   refine KeepX.s (z:=none) ?_
   refine dr ?_
   trivial
  rw [e1]
  refine cP ?_ ?_<;>intro c3
  rotate_left
  ·omega
  refine dr ?_
  repeat (refine oB (by decide) ?_; first | refine dr ?_ | exact dz)
  refine cP ?_ ?_<;>intro c4
  ·have lv:=ht.1 j hj e1 c4
   refine dr ?_
   repeat (refine oB (by decide) ?_; first | refine dr ?_ | exact dz)
   refine oW (ja W0 (hdW w 2) j hj 9 1616 (by decide) hlen) rfl ⟨rfl,trivial⟩ rfl rfl ⟨(),trivial⟩ fun _ _=>⟨rfl,?_⟩
   refine dEr ?_
   repeat (refine oB (by decide) ?_; first | refine dEr ?_ | exact dz)
   refine ⟨true,trivial,?_⟩
   show KeepX _ _ _ _ _ (_::wMx 5 7 8 1616 11 _)
   rw [Zi s,lv]
   refine KeepX.s (z:=none) ?_
   refine dr ?_
   repeat (refine oB (by simp [List.length_eraseIdx,hj]) ?_; first | refine dr ?_ | exact dz)
   trivial
  ·have lv:leaveH (hdW w 2) p n=hdW w 2:=by
    refine ht.2 fun i hi e=>?_
    have hij:i=j:=by omega
    subst hij
    exact c4
   refine dr ?_
   refine ⟨false,trivial,?_⟩
   show KeepX _ _ _ _ _ (wMx 5 7 8 9 11 _)
   rw [Zi s,lv]
   refine KeepX.s (z:=none) ?_
   refine dr ?_
   trivial
 have hs:=jz W0 { w with holds:=w.holds.set 2 (leaveH (hdW w 2) p n),floors:=w.floors.set 2 (maxI (flW w 2) n) } ⟨4,2,⟨p,false,noE,n,0⟩⟩ hn
 have fr:XB.row ((w.floors.map CI).set 2 (CI (max (flW w 2) n))) 1 3 = .row ((w.floors.set 2 (maxI (flW w 2) n)).map CI) 1 3:=by
  rw [show maxI (flW w 2) n=max (flW w 2) n by unfold maxI; split<;>omega,set1]
 have fb:∀ k,XB.box [.c (eEnts w.over.base),.c (eMarkss w.over.layers),.c (eMarks w.over.upper),I w.clock,I w.count,.own 5 w.leases.length,.own 6 3,.own 10 w.floors.length,.own k w.net.length,B w.waits,I w.op.kind,.c (CS w.op.path),.c (CS w.op.dest),.c (CS w.op.data)] =
   .box [.c (eEnts w.over.base),.c (eMarkss w.over.layers),.c (eMarks w.over.upper),I w.clock,I w.count,.own 5 w.leases.length,.own 6 3,.own 10 (w.floors.set 2 (maxI (flW w 2) n)).length,.own k w.net.length,B w.waits,I w.op.kind,.c (CS w.op.path),.c (CS w.op.dest),.c (CS w.op.data)]:=fun k=>by rw [List.length_set]
 rintro b _
 cases b with
 | true =>
  refine dEr ?_
  repeat ((first | refine oB (by rw [f3]; decide) ?_ | refine aFl hw f3 ?_); first | refine dEr ?_ | exact dz)
  refine oW (hs.swp 9 1616) rfl ⟨congrArg some (fb 11),rfl,rfl,rfl,rfl,rfl,congrArg some fr,rfl,trivial⟩ rfl rfl ⟨(),trivial⟩ fun _ _=>⟨rfl,?_⟩
  refine dEr ?_
  refine ⟨none,_,_,?_,true,trivial,rfl,rfl⟩
  refine dr ?_
  trivial
 | false =>
  refine dEr ?_
  repeat ((first | refine oB (by rw [f3]; decide) ?_ | refine aFl hw f3 ?_); first | refine dEr ?_ | exact dz)
  refine oW hs rfl ⟨congrArg some (fb 11),rfl,rfl,rfl,rfl,rfl,congrArg some fr,rfl,trivial⟩ rfl rfl ⟨(),trivial⟩ fun _ _=>⟨rfl,?_⟩
  refine dEr ?_
  refine ⟨none,_,_,?_,false,trivial,rfl,rfl⟩
  refine dr ?_
  trivial

inductive Dv where
 | o
 | n
 | l
 | a
 | b
 | c
abbrev wMv (d:Dv) (w:Wld):XM:=match d with
 | .o=>wMp w
 | .n=>(11,.dead 9 55)::wMx 5 7 8 9 1632 w
 | .l=>(11,.dead 9 55)::(5,.dead 4 72)::wMx 1600 7 8 9 1632 w
 | .a=>(11,.dead 9 55)::(7,.dead 7 53)::wMx 5 1616 8 9 1632 w
 | .b=>(11,.dead 9 55)::(8,.dead 7 53)::wMx 5 7 1616 9 1632 w
 | .c=>(11,.dead 9 55)::(9,.dead 7 53)::wMx 5 7 8 1616 1632 w
def zcz:XC:=(.s (.r [.m1 6 (.i 0)]) (.s (.s (.r [.mv 8 2,.b1 9 .lss 8 (.i 0),.mv 10 9,.gf 11 (.mv 2) 10,.gf 12 (.mv 0) 10,.gf 13 (.nck 12) 10,.gf 14 (.fa 8 13) 10,.gf 15 (.ld false 1 14) 10,.gf 16 (.len false 15) 10,.gf 17 (.bin .geq 11 16) 10,.ex 18 (.pick 10 .y 17)]) (.cnd 18 (.s (.r [.m1 6 (.i 22)]) .ret) .skip)) (.s (.r [.mv 19 0,.ex 20 (.nck 19),.f1 21 8 20,.l1 22 1 21,.mv 23 2,.i1 24 9 22 23,.l2 25 9 24,.ex 7 (.alloc [(I 0),(I 0),sE,(B false),sE,(B false),sE,(I 0),(I 0)]),.s1 9 7 25]) (.s (.s (.r [.mv 26 1,.b1 27 .eql 26 (.i 7)]) (.cnd 27 (.s (.r [.mv 28 0,.l2 29 9 7,.o1 30 80 [28,29]]) (.s (.r [.m1 6 (.i 0)]) .ret)) .skip)) (.s (.r [.mv 31 0,.mv 32 0,.ex 33 (.nck 32),.f1 34 8 33,.l1 35 1 34,.mv 36 2,.mv 37 2,.b1 38 .add 37 (.i 1),.o1 39 133 [35,36,38],.ex 40 (.nck 31),.f1 41 8 40,.s1 1 41 39]) (.s (.s (.r [.mv 42 1,.b1 43 .eql 42 (.i 6)]) (.cnd 43 (.s (.r [.m1 6 (.i 0)]) .ret) .skip)) (.s (.s (.r [.f1 44 0 7,.l1 45 1 44]) (.blk 0 (.s (.r [.b1 47 .eql 45 (.i 1),.mv 46 47]) (.cnd 46 (.r [.mv 48 0,.f1 49 1 7,.l1 50 1 49,.f1 51 2 7,.f1 52 0 51,.l1 53 1 52,.o1 54 134 [48,50,53]]) (.s (.r [.b1 56 .eql 45 (.i 2),.mv 55 56]) (.cnd 55 (.r [.mv 57 0,.f1 58 1 7,.l1 59 1 58,.f1 60 2 7,.l2 61 7 60,.o1 62 135 [57,59,61]]) (.s (.r [.b1 64 .eql 45 (.i 3),.mv 63 64]) (.cnd 63 (.r [.mv 65 0,.f1 66 1 7,.l1 67 1 66,.f1 68 2 7,.f1 69 0 68,.l1 70 1 69,.f1 71 2 7,.f1 72 5 71,.l1 73 1 72,.o1 74 136 [65,67,70,73]]) (.s (.r [.b1 76 .eql 45 (.i 4),.mv 75 76]) (.cnd 75 (.r [.mv 77 0,.f1 78 1 7,.l1 79 1 78,.f1 80 2 7,.f1 81 0 80,.l1 82 1 81,.f1 83 2 7,.f1 84 5 83,.l1 85 1 84,.o1 86 137 [77,79,82,85]]) .skip)))))))))) (.s (.r [.m1 6 (.i 0)]) .ret))))))))
theorem zcA:compF Tryz.prog [80,133,134,135,136,137] 84=some (zcz.ac,[(.t 6)],87):=by kernel_rfl
set_option maxHeartbeats 2000000 in
theorem zeV (W0:World) (hM:HM W0) (w:Wld) (ek pos:Int) (h:WG w) (hz:HZ 1000000 w) (hk:5≤ek∧ek≤7):FunW Tryz.prog W0 84 [.ptr 4 0,.c (CI ek),.c (CI pos)] (wMp w) (fun _:Dv=>True) (fun _ => .c (CI (netW w ⟨ek,0,[],noOp,pos⟩).2)) (fun d=>wMv d (netW w ⟨ek,0,[],noOp,pos⟩).1):=by
 refine funW (c:=zcz) mixed zcA (by simp) rfl rfl fun hg=>?_
 have hn:w.net.length≤1000:=by have:=h.pl.nl; omega
 have hw:netW w ⟨ek,0,[],noOp,pos⟩=if pos < 0∨(w.net.length:Int)≤pos then (w,22)
  else if ek=7 then (sendW w (w.net.getD pos.toNat noMs),0)
  else if ek=5 then (comeW { w with net:=w.net.eraseIdx pos.toNat } (w.net.getD pos.toNat noMs),0)
  else ({ w with net:=w.net.eraseIdx pos.toNat },0):=rfl
 rw [hw]
 refine dr ?_
 refine cP ?_ ?_<;>intro h1
 ·rw [if_pos (.inl h1)]
  refine dr ?_
  refine ⟨none,_,_,?_,.o,trivial,rfl,rfl⟩
  refine dr ?_
  trivial
 refine dr ?_
 refine cP ?_ ?_<;>intro h2
 ·rw [if_pos (.inr h2)]
  refine dr ?_
  refine ⟨none,_,_,?_,.o,trivial,rfl,rfl⟩
  refine dr ?_
  trivial
 have h1':0≤pos:=h1
 have h2':pos < (w.net.length:Int):=h2
 rw [if_neg (by omega)]
 obtain ⟨k,rfl⟩:∃ k:Nat,pos=(k:Int):=⟨pos.toNat,by omega⟩
 have hk':k < w.net.length:=by omega
 have hgd:w.net.getD (k:Int).toNat noMs=w.net[k]:=by rw [Int.toNat_natCast,List.getD_eq_getElem?_getD,List.getElem?_eq_getElem hk']; rfl
 rw [hgd,Int.toNat_natCast]
 have hms:=h.ms _ (List.getElem_mem hk')
 refine dr ?_
 refine cP ?_ ?_<;>intro h3
 ·have h3':ek=7:=h3
  rw [if_pos h3']
  refine dr ?_
  refine oW (jz W0 w w.net[k] hn) rfl ⟨rfl,rfl,rfl,rfl,rfl,rfl,rfl,rfl,trivial⟩ rfl rfl ⟨(),trivial⟩ fun _ _=>⟨rfl,?_⟩
  refine dEr ?_
  refine ⟨none,_,_,?_,.o,trivial,rfl,rfl⟩
  refine dr ?_
  trivial
 have h3':ek≠7:=h3
 rw [if_neg h3']
 refine dr ?_
 refine oW (zep W0 w.net k hk' 11 1632 (by decide) (by omega)) rfl ⟨rfl,trivial⟩ rfl rfl ⟨(),trivial⟩ fun _ _=>⟨rfl,?_⟩
 refine dEr ?_
 refine cP ?_ ?_<;>intro h4
 ·have h4':ek≠5:=by have:ek=6:=h4; omega
  rw [if_neg h4']
  refine dr ?_
  refine ⟨none,_,_,?_,.n,trivial,rfl,rfl⟩
  refine dr ?_
  repeat (refine oB (by simp [List.length_eraseIdx,hk']) ?_; first | refine dr ?_ | exact dz)
  trivial
 have h4':ek=5:=by have:ek≠6:=h4; omega
 rw [if_pos h4']
 have h1w:WG { w with net:=w.net.eraseIdx k }:=h.lose k
 have hz1:HZ 1000000 { w with net:=w.net.eraseIdx k }:=⟨hz.l,hz.h⟩
 have bx:XB.box [.c (eEnts w.over.base),.c (eMarkss w.over.layers),.c (eMarks w.over.upper),I w.clock,I w.count,.own 5 w.leases.length,.own 6 3,.own 10 w.floors.length,.own 1632 (w.net.length - 1),B w.waits,I w.op.kind,.c (CS w.op.path),.c (CS w.op.dest),.c (CS w.op.data)] = .box (wCx 5 1632 { w with net:=w.net.eraseIdx k }):=by
  show _=XB.box [.c (eEnts w.over.base),.c (eMarkss w.over.layers),.c (eMarks w.over.upper),I w.clock,I w.count,.own 5 w.leases.length,.own 6 3,.own 10 w.floors.length,.own 1632 (w.net.eraseIdx k).length,B w.waits,I w.op.kind,.c (CS w.op.path),.c (CS w.op.dest),.c (CS w.op.data)]
  rw [List.length_eraseIdx,if_pos hk']
 generalize w.net[k]=m at *
 obtain ⟨mk,mw,mh⟩:=m
 have hmw:mw=0∨mw=1∨mw=2:=by have h1:=hms.who.1; have h2:=hms.who.2; simp only at h1 h2; omega
 refine dr ?_
 refine cP ?_ ?_<;>intro k1
 ·have k1:mk=1:=k1
  rw [show comeW { w with net:=w.net.eraseIdx k } ⟨mk,mw,mh⟩=grantW { w with net:=w.net.eraseIdx k } mw mh.path by unfold comeW; rw [if_pos k1]]
  refine dr ?_
  refine oW ((zeW W0 hM { w with net:=w.net.eraseIdx k } mw mh.path h1w hz1.l).swp 11 1632) rfl ⟨congrArg some bx,rfl,rfl,rfl,rfl,rfl,rfl,rfl,trivial⟩ rfl rfl ⟨false,trivial⟩ fun b _=>?_
  cases b with
  | true =>
   refine ⟨rfl,?_⟩
   refine dEr ?_
   refine ⟨none,_,_,?_,.l,trivial,rfl,rfl⟩
   refine dr ?_
   trivial
  | false =>
   refine ⟨rfl,?_⟩
   refine dEr ?_
   refine ⟨none,_,_,?_,.n,trivial,rfl,rfl⟩
   refine dr ?_
   trivial
 have k1:mk≠1:=k1
 refine dr ?_
 refine cP ?_ ?_<;>intro k2
 ·have k2:mk=2:=k2
  rcases hmw with rfl | rfl | rfl
  ·rw [show comeW { w with net:=w.net.eraseIdx k } ⟨mk,0,mh⟩=(if w.clock < mh.til∧flW { w with net:=w.net.eraseIdx k } 0 < mh.num then { w with net:=w.net.eraseIdx k,holds:=w.holds.set 0 (takeH (hdW { w with net:=w.net.eraseIdx k } 0) mh) } else { w with net:=w.net.eraseIdx k }) by unfold comeW; rw [if_neg k1,if_pos k2]; rfl]
   refine dr ?_
   refine oW ((zeY W0 { w with net:=w.net.eraseIdx k } mh h1w hz1).swp 11 1632) rfl ⟨congrArg some bx,rfl,rfl,rfl,rfl,rfl,rfl,rfl,trivial⟩ rfl rfl ⟨false,trivial⟩ fun b _=>?_
   cases b with
   | true =>
    refine ⟨rfl,?_⟩
    refine dEr ?_
    refine ⟨none,_,_,?_,.a,trivial,rfl,rfl⟩
    refine dr ?_
    trivial
   | false =>
    refine ⟨rfl,?_⟩
    refine dEr ?_
    refine ⟨none,_,_,?_,.n,trivial,rfl,rfl⟩
    refine dr ?_
    trivial
  ·rw [show comeW { w with net:=w.net.eraseIdx k } ⟨mk,1,mh⟩=(if w.clock < mh.til∧flW { w with net:=w.net.eraseIdx k } 1 < mh.num then { w with net:=w.net.eraseIdx k,holds:=w.holds.set 1 (takeH (hdW { w with net:=w.net.eraseIdx k } 1) mh) } else { w with net:=w.net.eraseIdx k }) by unfold comeW; rw [if_neg k1,if_pos k2]; rfl]
   refine dr ?_
   refine oW ((zeZ W0 { w with net:=w.net.eraseIdx k } mh h1w hz1).swp 11 1632) rfl ⟨congrArg some bx,rfl,rfl,rfl,rfl,rfl,rfl,rfl,trivial⟩ rfl rfl ⟨false,trivial⟩ fun b _=>?_
   cases b with
   | true =>
    refine ⟨rfl,?_⟩
    refine dEr ?_
    refine ⟨none,_,_,?_,.b,trivial,rfl,rfl⟩
    refine dr ?_
    trivial
   | false =>
    refine ⟨rfl,?_⟩
    refine dEr ?_
    refine ⟨none,_,_,?_,.n,trivial,rfl,rfl⟩
    refine dr ?_
    trivial
  ·rw [show comeW { w with net:=w.net.eraseIdx k } ⟨mk,2,mh⟩=(if w.clock < mh.til∧flW { w with net:=w.net.eraseIdx k } 2 < mh.num then { w with net:=w.net.eraseIdx k,holds:=w.holds.set 2 (takeH (hdW { w with net:=w.net.eraseIdx k } 2) mh) } else { w with net:=w.net.eraseIdx k }) by unfold comeW; rw [if_neg k1,if_pos k2]; rfl]
   refine dr ?_
   refine oW ((ze0 W0 { w with net:=w.net.eraseIdx k } mh h1w hz1).swp 11 1632) rfl ⟨congrArg some bx,rfl,rfl,rfl,rfl,rfl,rfl,rfl,trivial⟩ rfl rfl ⟨false,trivial⟩ fun b _=>?_
   cases b with
   | true =>
    refine ⟨rfl,?_⟩
    refine dEr ?_
    refine ⟨none,_,_,?_,.c,trivial,rfl,rfl⟩
    refine dr ?_
    trivial
   | false =>
    refine ⟨rfl,?_⟩
    refine dEr ?_
    refine ⟨none,_,_,?_,.n,trivial,rfl,rfl⟩
    refine dr ?_
    trivial
 have k2:mk≠2:=k2
 have hpl:mh=plainH mh:=hms.plain k2
 refine dr ?_
 refine cP ?_ ?_<;>intro k3
 ·have k3:mk=3:=k3
  rcases hmw with rfl | rfl | rfl
  ·rw [show comeW { w with net:=w.net.eraseIdx k } ⟨mk,0,mh⟩=sendW { w with net:=w.net.eraseIdx k,holds:=w.holds.set 0 (leaveH (hdW { w with net:=w.net.eraseIdx k } 0) mh.path mh.num),floors:=w.floors.set 0 (maxI (flW { w with net:=w.net.eraseIdx k } 0) mh.num) } ⟨4,0,⟨mh.path,false,noE,mh.num,0⟩⟩ by unfold comeW; rw [if_neg k1,if_neg k2,if_pos k3]; exact congrArg (fun y=>sendW _ ⟨4,0,y⟩) hpl]
   refine dr ?_
   refine oW ((ze1 W0 { w with net:=w.net.eraseIdx k } mh.path mh.num h1w hz1).swp 11 1632) rfl ⟨congrArg some bx,rfl,rfl,rfl,rfl,rfl,rfl,rfl,trivial⟩ rfl rfl ⟨false,trivial⟩ fun b _=>?_
   cases b with
   | true =>
    refine ⟨rfl,?_⟩
    refine dEr ?_
    refine ⟨none,_,_,?_,.a,trivial,rfl,rfl⟩
    refine dr ?_
    trivial
   | false =>
    refine ⟨rfl,?_⟩
    refine dEr ?_
    refine ⟨none,_,_,?_,.n,trivial,rfl,rfl⟩
    refine dr ?_
    trivial
  ·rw [show comeW { w with net:=w.net.eraseIdx k } ⟨mk,1,mh⟩=sendW { w with net:=w.net.eraseIdx k,holds:=w.holds.set 1 (leaveH (hdW { w with net:=w.net.eraseIdx k } 1) mh.path mh.num),floors:=w.floors.set 1 (maxI (flW { w with net:=w.net.eraseIdx k } 1) mh.num) } ⟨4,1,⟨mh.path,false,noE,mh.num,0⟩⟩ by unfold comeW; rw [if_neg k1,if_neg k2,if_pos k3]; exact congrArg (fun y=>sendW _ ⟨4,1,y⟩) hpl]
   refine dr ?_
   refine oW ((ze2 W0 { w with net:=w.net.eraseIdx k } mh.path mh.num h1w hz1).swp 11 1632) rfl ⟨congrArg some bx,rfl,rfl,rfl,rfl,rfl,rfl,rfl,trivial⟩ rfl rfl ⟨false,trivial⟩ fun b _=>?_
   cases b with
   | true =>
    refine ⟨rfl,?_⟩
    refine dEr ?_
    refine ⟨none,_,_,?_,.b,trivial,rfl,rfl⟩
    refine dr ?_
    trivial
   | false =>
    refine ⟨rfl,?_⟩
    refine dEr ?_
    refine ⟨none,_,_,?_,.n,trivial,rfl,rfl⟩
    refine dr ?_
    trivial
  ·rw [show comeW { w with net:=w.net.eraseIdx k } ⟨mk,2,mh⟩=sendW { w with net:=w.net.eraseIdx k,holds:=w.holds.set 2 (leaveH (hdW { w with net:=w.net.eraseIdx k } 2) mh.path mh.num),floors:=w.floors.set 2 (maxI (flW { w with net:=w.net.eraseIdx k } 2) mh.num) } ⟨4,2,⟨mh.path,false,noE,mh.num,0⟩⟩ by unfold comeW; rw [if_neg k1,if_neg k2,if_pos k3]; exact congrArg (fun y=>sendW _ ⟨4,2,y⟩) hpl]
   refine dr ?_
   refine oW ((ze3 W0 { w with net:=w.net.eraseIdx k } mh.path mh.num h1w hz1).swp 11 1632) rfl ⟨congrArg some bx,rfl,rfl,rfl,rfl,rfl,rfl,rfl,trivial⟩ rfl rfl ⟨false,trivial⟩ fun b _=>?_
   cases b with
   | true =>
    refine ⟨rfl,?_⟩
    refine dEr ?_
    refine ⟨none,_,_,?_,.c,trivial,rfl,rfl⟩
    refine dr ?_
    trivial
   | false =>
    refine ⟨rfl,?_⟩
    refine dEr ?_
    refine ⟨none,_,_,?_,.n,trivial,rfl,rfl⟩
    refine dr ?_
    trivial
 have k3:mk≠3:=k3
 refine dr ?_
 refine cP ?_ ?_<;>intro k4
 ·have k4:mk=4:=k4
  rw [show comeW { w with net:=w.net.eraseIdx k } ⟨mk,mw,mh⟩={ w with net:=w.net.eraseIdx k,leases:=offL w.leases mw mh.path mh.num } by unfold comeW; rw [if_neg k1,if_neg k2,if_neg k3,if_pos k4]]
  refine dr ?_
  refine oW ((zeX W0 { w with net:=w.net.eraseIdx k } mw mh.path mh.num h1w hz1.l).swp 11 1632) rfl ⟨congrArg some bx,rfl,rfl,rfl,rfl,rfl,rfl,rfl,trivial⟩ rfl rfl ⟨false,trivial⟩ fun b _=>?_
  cases b with
  | true =>
   refine ⟨rfl,?_⟩
   refine dEr ?_
   refine ⟨none,_,_,?_,.l,trivial,rfl,rfl⟩
   refine dr ?_
   trivial
  | false =>
   refine ⟨rfl,?_⟩
   refine dEr ?_
   refine ⟨none,_,_,?_,.n,trivial,rfl,rfl⟩
   refine dr ?_
   trivial
 ·have k4:mk≠4:=k4
  have h1:=hms.kind.1
  have h2:=hms.kind.2
  simp only at h1 h2
  omega

def Qv:XC:=(.s (.r [.ex 1 (.box 0),.ex 2 (.alloc [.nil,.nil,.nil,(I 0),(I 0),.nil,.nil,.nil,.nil,(B false),(I 0),sE,sE,sE])]) (.s (.r [.l2 6 14 1,.ex 3 (.alloc [.nil,.nil,.nil,(I 0),(I 0),.nil,.nil,.nil,.nil,(B false),(I 0),sE,sE,sE]),.s1 14 3 6]) (.s (.r [.f1 7 0 1,.l2 8 3 7,.c1 9 77 [8],.f1 10 0 3,.s1 3 10 9]) (.s (.r [.f1 11 5 1,.l1 12 1 11,.ex 13 (.app true 4 40 72 (.k .nil) 12),.f1 14 5 3,.s1 1 14 13]) (.s (.r [.f1 15 6 3,.nu (.st 1 15 (.k .nil))]) (.s (.s (.r [.f1 16 6 1,.l1 17 1 16,.n1 18 17,.m1 19 (.i 0)]) (.blk 0 (.loop (.s (.r [.b1 20 .lss 19 18]) (.s (.cnd 20 .skip (.exit 0)) (.s (.blk 1 (.s (.r [.i1 21 1 17 19,.l1 22 1 21,.a1 5 22 7 53]) (.d [.f1 23 6 3,.l1 24 1 23,.mv 25 5,.ex 26 (.app true 7 80 53 (.k .nil) 25),.ex 27 (.bsl 1 56 [26]),.ex 28 (.app false 1 24 56 24 27),.f1 29 6 3,.s1 1 29 28]))) (.r [.b1 30 .add 19 (.i 1),.mv 19 30]))))))) (.s (.r [.f1 31 7 1,.l1 32 1 31,.ex 33 (.app true 1 8 3 (.k .nil) 32),.f1 34 7 3,.s1 1 34 33]) (.s (.r [.f1 35 8 1,.l1 36 1 35,.ex 37 (.app true 9 96 55 (.k .nil) 36),.f1 38 8 3,.s1 1 38 37]) (.s (.r [.l2 39 14 3,.s1 14 2 39]) .ret)))))))))
theorem Qw:compF Tryz.prog [] 78=some (Qv.ac,[(.cell 2 true 14)],40):=by kernel_rfl
abbrev cwB (w:Wld) (x:PV):XB := .box [.c (eEnts w.over.base),.c (eMarkss w.over.layers),.c (eMarks w.over.upper),I w.clock,I w.count,.own 208 w.leases.length,x,.c (eInts w.floors),.c (eMsgs w.net),B w.waits,I w.op.kind,.c (CS w.op.path),.c (CS w.op.dest),.c (CS w.op.data)]
abbrev cwM (w:Wld) (k:Nat):XM:=match k with
 | 0=>[(16,wBx w),(32,zWB),(48,cwB w .nil),(208,.row (w.leases.map eLease) 4 72)]
 | 1=>[(16,wBx w),(32,zWB),(48,cwB w (.own 6 1)),(208,.row (w.leases.map eLease) 4 72),(6,.rowP [.own 7 (hdW w 0).length] 56),(7,.row ((hdW w 0).map eHold) 7 53)]
 | 2=>[(16,wBx w),(32,zWB),(48,cwB w (.own 6 2)),(208,.row (w.leases.map eLease) 4 72),(6,.rowP [.own 7 (hdW w 0).length,.own 8 (hdW w 1).length] 56),(7,.row ((hdW w 0).map eHold) 7 53),(8,.row ((hdW w 1).map eHold) 7 53)]
 | _=>[(16,wBx w),(32,zWB),(48,cwB w (.own 6 3)),(208,.row (w.leases.map eLease) 4 72),(6,.rowP [.own 7 (hdW w 0).length,.own 8 (hdW w 1).length,.own 9 (hdW w 2).length] 56),(7,.row ((hdW w 0).map eHold) 7 53),(8,.row ((hdW w 1).map eHold) 7 53),(9,.row ((hdW w 2).map eHold) 7 53)]
theorem zeS (W0:World) (w:Wld) (h3:w.holds.length=3) (hz:WZ 1000000 w):FunW Tryz.prog W0 78 [.c (eWldP w)] [] (fun _:Unit=>True) (fun _ => .agg [.c (eEnts w.over.base),.c (eMarkss w.over.layers),.c (eMarks w.over.upper),I w.clock,I w.count,.own 208 w.leases.length,.own 6 3,.own 528 w.floors.length,.own 592 w.net.length,B w.waits,I w.op.kind,.c (CS w.op.path),.c (CS w.op.dest),.c (CS w.op.data)])
  (fun _=>[(208,.row (w.leases.map eLease) 4 72),(6,.rowP [.own 7 (hdW w 0).length,.own 8 (hdW w 1).length,.own 9 (hdW w 2).length] 56),(7,.row ((hdW w 0).map eHold) 7 53),(8,.row ((hdW w 1).map eHold) 7 53),(9,.row ((hdW w 2).map eHold) 7 53),(528,.row (w.floors.map CI) 1 3),(592,.row (w.net.map eMsg) 9 55)]):=by
 rw [zd4 h3]
 refine funW (c:=Qv) mixed Qw (by simp) rfl rfl fun hg=>?_
 obtain ⟨hzo,hzh,_,hf,hn⟩:=hz
 have hl:=hzh.l
 have l0:=qf hzh 0
 have l1:=qf hzh 1
 have l2:=qf hzh 2
 have e17:PV.c (eHoldss w.holds) = .c (.row [eHolds (hdW w 0),eHolds (hdW w 1),eHolds (hdW w 2)]):=congrArg (fun l=>PV.c (eHoldss l)) (holds3 h3)
 have e18:I (w.holds.length:Int)=I 3:=by rw [h3]; rfl
 refine dEr ?_
 repeat ((first | refine c0 (zeR W0 _ (hzo.mono (by omega))) rfl ?_ | refine oB (by simp; omega) ?_ | refine oB (by simp) ?_); first | refine dEr ?_ | exact dz)
 refine lq (σ:=Nat) (fun k=>[(1,.ptr 16 0),(2,.ptr 32 0),(3,.ptr 48 0),(17,.c (.row [eHolds (hdW w 0),eHolds (hdW w 1),eHolds (hdW w 2)])),(18,I 3),(19,I k)]) (fun k=>cwM w k) (fun k=>k≤3) (fun k=>3 - k) 0 (by simp) ?_ ?_
 ·refine KeepX.s (z:=none) ?_
  refine dr ?_
  repeat (refine oB (by first | exact e17 | exact e18) ?_; first | refine dr ?_ | exact dz)
  trivial
 intro k hk
 obtain rfl | rfl | rfl | rfl:k=0∨k=1∨k=2∨k=3:=by omega
 ·refine dr ?_
  refine cP ?_ ?_<;>intro h1
  rotate_left
  ·omega
  refine dr ?_
  repeat ((first | refine ⟨0,rfl,_,rfl,?_⟩ | refine oB (by simp; omega) ?_ | refine oB (by simp) ?_ | refine oB (by decide) ?_); first | refine dr ?_ | exact dz)
  refine ⟨1,by omega,by omega,?_⟩
  refine KeepS.ren 7 416 rfl rfl (z:=some 3) ?_
  refine KeepS.ren 6 448 rfl rfl (z:=none) ?_
  refine dr ?_
  repeat (refine oB (by simp) ?_; first | refine dr ?_ | exact dz)
  trivial
 ·refine dr ?_
  refine cP ?_ ?_<;>intro h1
  rotate_left
  ·omega
  refine dr ?_
  repeat ((first | refine ⟨1,rfl,_,rfl,?_⟩ | refine oB (by simp; omega) ?_ | refine oB (by simp) ?_ | refine oB (by decide) ?_); first | refine dr ?_ | exact dz)
  refine ⟨2,by omega,by omega,?_⟩
  refine KeepS.ren 8 416 rfl rfl (z:=none) ?_
  refine dr ?_
  repeat (refine oB (by simp) ?_; first | refine dr ?_ | exact dz)
  trivial
 ·refine dr ?_
  refine cP ?_ ?_<;>intro h1
  rotate_left
  ·omega
  refine dr ?_
  repeat ((first | refine ⟨2,rfl,_,rfl,?_⟩ | refine oB (by simp; omega) ?_ | refine oB (by simp) ?_ | refine oB (by decide) ?_); first | refine dr ?_ | exact dz)
  refine ⟨3,by omega,by omega,?_⟩
  refine KeepS.ren 9 416 rfl rfl (z:=none) ?_
  refine dr ?_
  repeat (refine oB (by simp) ?_; first | refine dr ?_ | exact dz)
  trivial
 ·refine dr ?_
  refine cP ?_ ?_<;>intro h1
  ·omega
  refine dr ?_
  repeat ((first | refine oB (by simp; omega) ?_ | refine oB (by simp) ?_); first | refine dr ?_ | exact dz)
  refine ⟨none,_,_,?_,(),trivial,rfl,rfl⟩
  refine dr ?_
  repeat (refine oB (by simp) ?_; first | refine dr ?_ | exact dz)
  trivial
theorem zeT (W0:World) (w:Wld) (h3:w.holds.length=3) (hz:WZ 1000000 w):FunW Tryz.prog W0 78 [.c (eWldP w)] [] (fun _:Unit=>True) (fun _ => .agg (wCx 5 11 w)) (fun _=>wRx w) :=
 (((zeS W0 w h3 hz).swp 208 5).swp 528 10).swp 592 11
def J9:XC:=(.s (.r [.ex 2 (.box 0),.ex 3 (.box 1),.ex 4 (.alloc [.nil,.nil,.nil,(I 0),(I 0),.nil,.nil,.nil,.nil,(B false),(I 0),sE,sE,sE]),.m1 5 (.i 0)]) (.s (.s (.r [.l2 10 14 2,.c1 11 20 [10],.ex 12 (.un .not 11)]) (.cnd 12 (.s (.r [.ex 13 (.build [.nil,.nil,.nil,(I 0),(I 0),.nil,.nil,.nil,.nil,(B false),(I 0),sE,sE,sE] []),.s1 14 4 13,.m1 5 (.i 1)]) .ret) .skip)) (.s (.r [.l2 14 14 2,.o1 15 78 [14],.ex 6 (.alloc [.nil,.nil,.nil,(I 0),(I 0),.nil,.nil,.nil,.nil,(B false),(I 0),sE,sE,sE]),.s1 14 6 15]) (.s (.s (.r [.f1 16 0 3,.l1 17 1 16]) (.blk 0 (.s (.r [.b1 19 .eql 17 (.i 1),.mv 18 19]) (.cnd 18 (.s (.s (.r [.f1 20 1 3,.l1 21 1 20,.c1 22 40 [21],.ex 23 (.un .not 22),.mv 24 23,.gf 25 (.fa 2 3) 24,.gf 26 (.ld false 1 25) 24,.gf 27 (.call 79 [26]) 24,.gf 28 (.un .not 27) 24,.ex 29 (.pick 24 .y 28)]) (.cnd 29 (.s (.r [.l2 30 14 6,.s1 14 4 30,.m1 5 (.i 1)]) .ret) .skip)) (.s (.r [.f1 31 1 3,.l1 32 1 31,.f1 33 2 3,.l1 34 1 33,.ex 35 (.build [sE,(B false),sE,(B false),sE,(I 0),(I 0)] [(0,(1,34))]),.ex 36 (.build [(I 0),(I 0),sE,(B false),sE,(B false),sE,(I 0),(I 0)] [(0,(1,(.i 1))),(1,(1,32)),(2,(7,35))]),.o1 37 80 [6,36]]) (.s (.r [.l2 38 14 6,.s1 14 4 38,.m1 5 (.i 0)]) .ret))) (.s (.r [.b1 40 .eql 17 (.i 2),.mv 39 40]) (.cnd 39 (.s (.r [.f1 41 3 3,.l2 42 4 41,.o1 43 81 [6,42],.mv 7 43]) (.s (.r [.l2 44 14 6,.mv 45 7,.s1 14 4 44,.mv 5 45]) .ret)) (.s (.r [.b1 47 .eql 17 (.i 3),.mv 46 47]) (.cnd 46 (.s (.r [.o1 48 82 [6],.mv 8 48]) (.s (.r [.l2 49 14 6,.mv 50 8,.s1 14 4 49,.mv 5 50]) .ret)) (.s (.r [.b1 52 .eql 17 (.i 4),.mv 51 52]) (.cnd 51 (.s (.r [.o1 53 83 [6]]) (.s (.r [.l2 54 14 6,.s1 14 4 54,.m1 5 (.i 0)]) .ret)) (.s (.s (.r [.b1 56 .eql 17 (.i 5),.mv 55 56]) (.cnd 55 .skip (.s (.r [.b1 57 .eql 17 (.i 6),.mv 55 57]) (.cnd 55 .skip (.r [.b1 58 .eql 17 (.i 7),.mv 55 58]))))) (.cnd 55 (.s (.r [.f1 59 0 3,.l1 60 1 59,.f1 61 7 3,.l1 62 1 61,.o1 63 84 [6,60,62],.mv 9 63]) (.s (.r [.l2 64 14 6,.mv 65 9,.s1 14 4 64,.mv 5 65]) .ret)) .skip)))))))))))) (.s (.r [.l2 66 14 6,.s1 14 4 66,.m1 5 (.i 1)]) .ret)))))
theorem Qa:compF Tryz.prog [78,80,81,82,83,84] 27=some (J9.ac,[(.cell 4 true 14),(.t 5)],67):=by kernel_rfl
set_option maxHeartbeats 2000000 in
theorem zfj (W0:World) (hM:HM W0) (w:Wld) (ev:Ev) (hz:HZ 100000 w):Fn Tryz.prog W0 27 [eWld w,eEv ev] (.c (.tup [eWld (wDo w ev).1,CI (wDo w ev).2])) []:=by
 obtain ⟨ek,ew,ep,eo,pos⟩:=ev
 show Fn _ _ _ [eWld w,.agg [CI ek,CI ew,CS ep,CI eo.kind,CS eo.path,CS eo.dest,CS eo.data,CI pos]] _ _
 refine fnX (c:=J9) mixed Qa (by simp) rfl fun hg=>?_
 refine dEr ?_
 repeat (refine c0 (zfl W0 hM w) rfl ?_; first | refine dEr ?_ | exact dz)
 refine cP ?_ ?_<;>intro h1
 ·refine dr ?_
  unfold wDo; rw [if_neg h1]<;>rfl
 rw [zo5 h1]
 have hx:=h1.ev ⟨ek,ew,ep,eo,pos⟩
 rw [← zd4 hx.pl.hl]
 clear hx
 have hcw:=zeT W0 w h1.pl.hl (h1.wz (hz.mono (by omega)) (by omega))
 rw [zd4 h1.pl.hl] at hcw
 have hn:w.net.length≤1000:=by have:=h1.pl.nl; omega
 have hz1:HZ 1000000 w:=hz.mono (by omega)
 refine dr ?_
 refine oW hcw rfl trivial rfl rfl ⟨(),trivial⟩ fun _ _=>⟨rfl,?_⟩
 refine dEr ?_
 refine cP ?_ ?_<;>intro k1
 ·have k1:ek=1:=k1
  refine dEr ?_
  repeat (refine c0 (zfr W0 _) rfl ?_; first | refine dEr ?_ | exact dz)
  refine cP ?_ ?_<;>intro a1
  ·have e:evW w ⟨ek,ew,ep,eo,pos⟩=(w,1):=by unfold evW; rw [if_pos k1,if_neg (fun hh=>a1 hh.1)]
   rw [e]
   refine dEr ?_
   rfl
  refine dEr ?_
  repeat (refine c0 (ji W0 hM _) rfl ?_; first | refine dEr ?_ | exact dz)
  refine cP ?_ ?_<;>intro a2
  ·have e:evW w ⟨ek,ew,ep,eo,pos⟩=(w,1):=by unfold evW; rw [if_pos k1,if_neg (fun hh=>by rw [hh.2] at a2; cases a2)]
   rw [e]
   refine dEr ?_
   rfl
  have e:evW w ⟨ek,ew,ep,eo,pos⟩=(sendW w ⟨1,ew,⟨ep,false,noE,0,0⟩⟩,0):=by unfold evW; rw [if_pos k1,if_pos ⟨a1,a2⟩]
  rw [e]
  refine dr ?_
  refine oW ((jz W0 w ⟨1,ew,⟨ep,false,noE,0,0⟩⟩ hn).swp 4 96) rfl ⟨rfl,rfl,rfl,rfl,rfl,rfl,rfl,rfl,trivial⟩ rfl rfl ⟨(),trivial⟩ fun _ _=>⟨rfl,?_⟩
  refine dEr ?_
  rfl
 have k1:ek≠1:=k1
 refine dr ?_
 refine cP ?_ ?_<;>intro k2
 ·have k2:ek=2:=k2
  have e:evW w ⟨ek,ew,ep,eo,pos⟩=writeW w eo:=by unfold evW; rw [if_neg k1,if_pos k2]
  rw [e]
  refine dr ?_
  refine oW ((zg2 W0 hM w eo h1 hz1.l).swp 4 96) rfl ⟨rfl,rfl,rfl,rfl,rfl,rfl,rfl,rfl,trivial⟩ rfl rfl ⟨(),trivial⟩ fun _ _=>⟨rfl,?_⟩
  refine dEr ?_
  rfl
 have k2:ek≠2:=k2
 refine dr ?_
 refine cP ?_ ?_<;>intro k3
 ·have k3:ek=3:=k3
  have e:evW w ⟨ek,ew,ep,eo,pos⟩=tryW w:=by unfold evW; rw [if_neg k1,if_neg k2,if_pos k3]
  rw [e]
  refine dr ?_
  refine oW ((zg0 W0 hM w h1 hz1.l).swp 4 96) rfl ⟨rfl,rfl,rfl,rfl,rfl,rfl,rfl,rfl,trivial⟩ rfl rfl ⟨(),trivial⟩ fun _ _=>⟨rfl,?_⟩
  refine dEr ?_
  rfl
 have k3:ek≠3:=k3
 refine dr ?_
 refine cP ?_ ?_<;>intro k4
 ·have k4:ek=4:=k4
  have e:evW w ⟨ek,ew,ep,eo,pos⟩=(tickW w,0):=by unfold evW; rw [if_neg k1,if_neg k2,if_neg k3,if_pos k4]
  rw [e]
  refine dr ?_
  refine oW ((zgZ W0 w h1 hz1.l).swp 4 96) rfl ⟨rfl,rfl,rfl,rfl,rfl,rfl,rfl,rfl,trivial⟩ rfl rfl ⟨(),trivial⟩ fun _ _=>⟨rfl,?_⟩
  refine dEr ?_
  rfl
 have k4:ek≠4:=k4
 refine dr ?_
 refine cP ?_ ?_<;>intro k5
 ·have k5:ek=5:=k5
  have e:evW w ⟨ek,ew,ep,eo,pos⟩=netW w ⟨ek,0,[],noOp,pos⟩:=by unfold evW; rw [if_neg k1,if_neg k2,if_neg k3,if_neg k4,if_pos (show 5≤ek∧ek≤7 by omega)]; rfl
  rw [e]
  refine dr ?_
  refine cP ?_ ?_<;>intro kk
  rotate_left
  ·exact absurd k5 kk
  refine dr ?_
  refine oW ((zeV W0 hM w ek pos h1 hz1 (by omega)).swp 4 96) rfl ⟨rfl,rfl,rfl,rfl,rfl,rfl,rfl,rfl,trivial⟩ rfl rfl ⟨.o,trivial⟩ fun d _=>?_
  cases d<;>refine ⟨rfl,?_⟩
  ·refine dEr ?_
   rfl
  ·refine dEr ?_
   rfl
  ·refine dEr ?_
   rfl
  ·refine dEr ?_
   rfl
  ·refine dEr ?_
   rfl
  ·refine dEr ?_
   rfl
 have k5:ek≠5:=k5
 refine dr ?_
 refine cP ?_ ?_<;>intro k6
 ·have k6:ek=6:=k6
  have e:evW w ⟨ek,ew,ep,eo,pos⟩=netW w ⟨ek,0,[],noOp,pos⟩:=by unfold evW; rw [if_neg k1,if_neg k2,if_neg k3,if_neg k4,if_pos (show 5≤ek∧ek≤7 by omega)]; rfl
  rw [e]
  refine dr ?_
  refine cP ?_ ?_<;>intro kk
  rotate_left
  ·exact absurd k6 kk
  refine dr ?_
  refine oW ((zeV W0 hM w ek pos h1 hz1 (by omega)).swp 4 96) rfl ⟨rfl,rfl,rfl,rfl,rfl,rfl,rfl,rfl,trivial⟩ rfl rfl ⟨.o,trivial⟩ fun d _=>?_
  cases d<;>refine ⟨rfl,?_⟩
  ·refine dEr ?_
   rfl
  ·refine dEr ?_
   rfl
  ·refine dEr ?_
   rfl
  ·refine dEr ?_
   rfl
  ·refine dEr ?_
   rfl
  ·refine dEr ?_
   rfl
 have k6:ek≠6:=k6
 refine dr ?_
 refine cP ?_ ?_<;>intro k7
 ·have k7:ek=7:=k7
  have e:evW w ⟨ek,ew,ep,eo,pos⟩=netW w ⟨ek,0,[],noOp,pos⟩:=by unfold evW; rw [if_neg k1,if_neg k2,if_neg k3,if_neg k4,if_pos (show 5≤ek∧ek≤7 by omega)]; rfl
  rw [e]
  refine dr ?_
  refine oW ((zeV W0 hM w ek pos h1 hz1 (by omega)).swp 4 96) rfl ⟨rfl,rfl,rfl,rfl,rfl,rfl,rfl,rfl,trivial⟩ rfl rfl ⟨.o,trivial⟩ fun d _=>?_
  cases d<;>refine ⟨rfl,?_⟩
  ·refine dEr ?_
   rfl
  ·refine dEr ?_
   rfl
  ·refine dEr ?_
   rfl
  ·refine dEr ?_
   rfl
  ·refine dEr ?_
   rfl
  ·refine dEr ?_
   rfl
 have k7:ek≠7:=k7
 have e:evW w ⟨ek,ew,ep,eo,pos⟩=(w,1):=by unfold evW; rw [if_neg k1,if_neg k2,if_neg k3,if_neg k4,if_neg (show ¬ (5≤ek∧ek≤7) by omega)]
 rw [e]
 refine dEr ?_
 rfl

def Qf:XC:=(.s (.r [.ex 2 (.box 0),.ex 4 (.alloc [.nil,.nil,.nil,(I 0),(I 0),.nil,.nil,.nil,.nil,(B false),(I 0),sE,sE,sE]),.ex 5 (.asn (.k .nil) 1 3)]) (.s (.s (.r [.l2 12 3 2,.c1 13 71 [12],.ex 14 (.un .not 13),.mv 15 14,.gf 16 (.mv 1) 15,.gf 17 (.len false 16) 15,.gf 18 (.bin .gtr 17 (.i 80)) 15,.ex 19 (.pick 15 .y 18)]) (.cnd 19 (.s (.r [.ex 20 (.build [.nil,.nil,.nil,(I 0),(I 0),.nil,.nil,.nil,.nil,(B false),(I 0),sE,sE,sE] []),.s1 14 4 20,.ex 5 (.asn (.k .nil) 1 3)]) .ret) .skip)) (.s (.r [.l2 21 3 2,.c1 22 26 [21],.ex 6 (.alloc [.nil,.nil,.nil,(I 0),(I 0),.nil,.nil,.nil,.nil,(B false),(I 0),sE,sE,sE]),.s1 14 6 22]) (.s (.r [.ex 7 (.asn (.k .nil) 1 3)]) (.s (.s (.r [.mv 23 1,.n1 24 23,.m1 25 (.i 0)]) (.blk 0 (.loop (.s (.r [.b1 26 .lss 25 24]) (.s (.cnd 26 .skip (.exit 0)) (.s (.blk 1 (.s (.r [.i1 27 8 23 25,.l2 28 8 27,.ex 9 (.alloc [(I 0),(I 0),sE,(I 0),sE,sE,sE,(I 0)]),.s1 8 9 28]) (.s (.r [.l2 30 14 6,.l2 31 8 9,.c1 32 27 [30,31],.mv 29 32,.e1 33 29 0,.e1 34 29 1,.ex 10 (.alloc [.nil,.nil,.nil,(I 0),(I 0),.nil,.nil,.nil,.nil,(B false),(I 0),sE,sE,sE]),.s1 14 10 33,.mv 11 34]) (.s (.r [.l2 35 14 10,.s1 14 6 35]) (.r [.mv 36 7,.mv 37 11,.ex 38 (.bsl 1 3 [37]),.ex 39 (.app false 1 8 3 36 38),.a1 7 39 1 3]))))) (.r [.b1 40 .add 25 (.i 1),.mv 25 40]))))))) (.s (.r [.l2 41 14 6,.mv 42 7,.s1 14 4 41,.a1 5 42 1 3]) .ret))))))
theorem Qg:compF Tryz.prog [] 23=some (Qf.ac,[(.cell 4 true 14),(.t 5)],43):=by kernel_rfl
theorem zfm (W0:World) (hM:HM W0) (o:Over) (evs:List Ev):Fn Tryz.prog W0 23 [eOver o,eEvs evs] (.c (ePlay (wPlay o evs))) []:=by
 refine fnX (c:=Qf) mixed Qg (by simp) rfl fun hg=>?_
 have g1:evs.length≤9223372036854775807:=goodRow (hg _ (by simp:eEvs evs∈_))
 refine dEr ?_
 repeat (refine c0 (zff W0 hM o) rfl ?_; first | refine dEr ?_ | exact dz)
 refine cP ?_ ?_<;>intro h1
 ·refine dr ?_
  repeat (refine oB (by simp) ?_; first | refine dr ?_ | exact dz)
  rw [Zj (fun hh=>by rw [hh.1] at h1; cases h1)]<;>rfl
 refine dr ?_
 refine cP ?_ ?_<;>intro h2
 ·refine dr ?_
  repeat (refine oB (by simp) ?_; first | refine dr ?_ | exact dz)
  rw [Zj (fun hh=>by omega)]<;>rfl
 have h2':evs.length≤80:=by omega
 rw [Zk h1 h2']
 have hs:=OS.ok h1
 have g0:WG (newW o):=WG.new h1
 refine dEr ?_
 repeat (refine c0 (zfk W0 o (hs.oz.mono (by omega))) rfl ?_; first | refine dEr ?_ | exact dz)
 refine lp3 (fun (k:Nat) (x:Wld) (cs:List Int)=>[(4,.ptr 64 0),(6,.ptr 96 0),(7,.own 112 cs.length),(23,.c (eEvs evs)),(24,I evs.length),(25,I k)]) (fun _ x cs=>[(64,zWB),(96,wBx x),(112,.row (cs.map CI) 1 3)])
  (fun k x cs=>k≤evs.length∧playA (newW o) (evs.take k)=(x,cs)∧WG x∧HZ k x∧cs.length=k) (fun k _ _=>evs.length - k) 0 (newW o) [] ⟨by omega,by rw [List.take_zero,zlz],g0,HZ.new,rfl⟩ ?_ ?_
 ·refine dr ?_
  trivial
 rintro k x cs ⟨hk,hp,hx,hz,hcl⟩
 refine dr ?_
 refine cP ?_ ?_<;>intro h3
 ·have hk':k < evs.length:=by omega
  have hn:=yw (w:=newW o) hk'
  rw [hp] at hn
  have hx':=hx.ev evs[k]
  have hz':=hz.ev evs[k]
  have hd:=zfj W0 hM x evs[k] (hz.mono (by omega))
  rw [zo5 hx] at hd
  generalize evW x evs[k]=r at *
  obtain ⟨x',c⟩:=r
  refine dEr ?_
  repeat ((first | refine c0 hd rfl ?_ | refine oB (by simp; omega) ?_ | refine oB (by simp) ?_); first | refine dEr ?_ | exact dz)
  refine ⟨k+1,x',cs++[c],⟨by omega,hn,hx',hz',by simp; omega⟩,by omega,?_⟩
  refine dr ?_
  repeat ((first | refine oB xown1 ?_ | refine oB xrow1 ?_ | refine oB (by simp) ?_); first | refine dr ?_ | exact dz)
  trivial
 have hkl:k=evs.length:=by omega
 rw [hkl,List.take_length] at hp
 rw [hp]
 refine dr ?_
 repeat (refine oB (by simp) ?_; first | refine dr ?_ | exact dz)
 rfl

def zb1:XC:=(.s (.r [.ex 6 (.alloc [(I 0),(I 0),sE,(I 0),sE,sE,sE,(I 0)])]) (.s (.r [.mv 8 0,.o1 9 92 [8],.mv 7 9]) (.cut (.s (.r [.mv 10 1,.n1 11 10,.b1 12 .gtr 11 (.i 0),.mv 13 12,.gt 14 (.mv 0) 13,.gt 15 (.opn 38 [14,(.i 2)]) 13,.gt 16 (.bin .eql 15 (.i 0)) 13,.ex 17 (.pick 13 16 .n)]) (.cnd 17 (.r [.mv 18 1,.mv 19 0,.mv 20 1,.n1 21 20,.o1 22 38 [19,21],.i1 23 3 18 22,.f1 24 0 23,.l1 25 1 24,.mv 7 25]) .skip)) (.s (.s (.r [.mv 26 0,.o1 27 38 [26,(.i 16)]]) (.blk 0 (.s (.s (.r [.b1 29 .eql 27 (.i 0),.mv 28 29]) (.cnd 28 .skip (.s (.r [.b1 30 .eql 27 (.i 1),.mv 28 30]) (.cnd 28 .skip (.r [.b1 31 .eql 27 (.i 2),.mv 28 31]))))) (.cnd 28 (.s (.r [.mv 32 0,.o1 33 38 [32,(.i 3)],.mv 34 7,.ex 35 (.build [(I 0),(I 0),sE,(I 0),sE,sE,sE,(I 0)] [(0,(1,(.i 1))),(1,(1,33)),(2,(1,34))]),.s1 8 6 35]) .ret) (.s (.s (.r [.b1 37 .eql 27 (.i 3),.mv 36 37]) (.cnd 36 .skip (.r [.b1 38 .eql 27 (.i 4),.mv 36 38]))) (.cnd 36 (.s (.r [.mv 39 0,.mv 40 1,.o1 41 112 [39,40],.ex 42 (.build [(I 0),(I 0),sE,(I 0),sE,sE,sE,(I 0)] [(0,(1,(.i 2))),(3,(4,41))]),.s1 8 6 42]) .ret) (.s (.r [.b1 44 .eql 27 (.i 5),.mv 43 44]) (.cnd 43 (.s (.r [.ex 45 (.build [(I 0),(I 0),sE,(I 0),sE,sE,sE,(I 0)] [(0,(1,(.i 3)))]),.s1 8 6 45]) .ret) (.s (.r [.b1 47 .eql 27 (.i 6),.mv 46 47]) (.cnd 46 (.s (.r [.ex 48 (.build [(I 0),(I 0),sE,(I 0),sE,sE,sE,(I 0)] [(0,(1,(.i 4)))]),.s1 8 6 48]) .ret) (.s (.r [.b1 50 .eql 27 (.i 7),.mv 49 50]) (.cnd 49 (.s (.r [.mv 51 0,.mv 52 2,.b1 53 .add 52 (.i 1),.o1 54 38 [51,53],.ex 55 (.build [(I 0),(I 0),sE,(I 0),sE,sE,sE,(I 0)] [(0,(1,(.i 6))),(7,(1,54))]),.s1 8 6 55]) .ret) (.s (.r [.b1 57 .eql 27 (.i 8),.mv 56 57]) (.cnd 56 (.s (.r [.mv 58 0,.mv 59 2,.b1 60 .add 59 (.i 1),.o1 61 38 [58,60],.ex 62 (.build [(I 0),(I 0),sE,(I 0),sE,sE,sE,(I 0)] [(0,(1,(.i 7))),(7,(1,61))]),.s1 8 6 62]) .ret) (.s (.r [.b1 64 .eql 27 (.i 9),.mv 63 64]) (.cnd 63 (.s (.r [.mv 65 0,.ex 66 (.bsl 1 3 [(.i 0),(.i 8),(.i 1),(.i 5),(.i 2)]),.o1 67 36 [65,66],.mv 68 0,.ex 69 (.bsl 1 3 [(.k (.c (.sc (.int .i64 (.negSucc 0))))),(.i 3),(.i 0)]),.o1 70 36 [68,69],.mv 71 0,.ex 72 (.bsl 1 9 [(.s [47]),(.s []),(.s [47,97])]),.o1 73 95 [71,72],.mv 74 0,.ex 75 (.bsl 1 3 [(.k (.c (.sc (.int .i64 (.negSucc 0))))),(.i 12),(.i 0)]),.o1 76 36 [74,75],.ex 77 (.build [(I 0),(I 0),sE,(I 0),sE,sE,sE,(I 0)] [(0,(1,67)),(1,(1,70)),(2,(1,73)),(7,(1,76))]),.s1 8 6 77]) .ret) .skip)))))))))))))))) (.s (.r [.mv 78 0,.mv 79 2,.c1 80 113 [(.i 1),79],.o1 81 38 [78,80],.ex 82 (.build [(I 0),(I 0),sE,(I 0),sE,sE,sE,(I 0)] [(0,(1,(.i 5))),(7,(1,81))]),.s1 8 6 82]) .ret)))))
theorem zb2:compF Tryz.prog [38,36,95,92,112] 70=some (zb1.ac,[(.cell 6 true 8)],83):=by kernel_rfl
theorem zgd (W0:World) (s:Str) (p:Int) (t:List Ent) (n:Int) (hs:s.length≤2000) (hp:0≤p∧p≤90000) (ht:t.length≤100000) (hn:0≤n∧n≤100000) :
  FunW Tryz.prog W0 70 [.ptr 1 0,.c (eEnts t),.c (CI n)] (Rd s p) (fun x:Ev × Int=>p≤x.2∧x.2≤p+12) (fun x => .c (eEv x.1)) (fun x=>Rd s x.2):=by
 refine funW (c:=zb1) mixed zb2 (by simp) rfl rfl fun hg=>?_
 refine dr ?_
 refine oW (zfy W0 s p hs (by omega)) rfl ⟨rfl,trivial⟩ rfl rfl ⟨_,List.mem_cons_self⟩ fun x0 hx0=>⟨rfl,?_⟩
 refine dEr ?_
 refine cutp2 (fun (x:Str) (q:Int)=>[(0,.ptr 1 0),(1,.c (eEnts t)),(2,.c (CI n)),(6,.ptr 96 0),(7,.c (CS x))]) (fun x q=>[(1,rdB s q),(96,.box [.c (CI 0),.c (CI 0),.c (CS []),.c (CI 0),.c (CS []),.c (CS []),.c (CS []),.c (CI 0)])]) (fun x q=>p≤q∧q≤p+3) ?_ ?_
 ·refine dr ?_
  refine cP ?_ ?_<;>intro h1
  ·refine dr ?_
   refine oW (jy W0 s (p+1) 2 hs (by omega) (by omega)) rfl ⟨rfl,trivial⟩ rfl rfl ⟨0,by omega,by omega⟩ fun v hv=>⟨rfl,?_⟩
   refine dEr ?_
   refine cP ?_ ?_<;>intro h2
   ·refine dEr ?_
    refine oW (jy W0 s (p+1+1) t.length hs (by omega) (by omega)) rfl ⟨rfl,trivial⟩ rfl rfl ⟨0,by omega,by omega⟩ fun k2 hk2=>⟨rfl,?_⟩
    refine dEr ?_
    repeat (refine aX hk2.1 (hk2.2 (by omega)) fun e he=>?_; first | refine dEr ?_ | exact dz)
    refine ⟨e.path,p+1+1+1,⟨by omega,by omega⟩,?_⟩
    refine dr ?_
    trivial
   ·refine dEr ?_
    refine ⟨x0,p+1+1,⟨by omega,by omega⟩,?_⟩
    refine dr ?_
    trivial
  ·refine dEr ?_
   refine ⟨x0,p+1,⟨by omega,by omega⟩,?_⟩
   refine dr ?_
   trivial
 rintro x q ⟨hq1,hq2⟩
 refine dr ?_
 refine oW (jy W0 s q 16 hs (by omega) (by omega)) rfl ⟨rfl,trivial⟩ rfl rfl ⟨0,by omega,by omega⟩ fun k hk=>⟨rfl,?_⟩
 refine dEr ?_
 by_cases a:k=0∨k=1∨k=2
 ·rcases a with rfl | rfl | rfl
  ·refine dr ?_
   refine cP ?_ ?_<;>intro h1
   rotate_left
   ·exact absurd rfl h1
   refine dr ?_
   refine cP ?_ ?_<;>intro h1
   rotate_left
   ·exact absurd rfl h1
   refine dr ?_
   refine oW (jy W0 s (q+1) 3 hs (by omega) (by omega)) rfl ⟨rfl,trivial⟩ rfl rfl ⟨0,by omega,by omega⟩ fun v hv=>⟨rfl,?_⟩
   refine dEr ?_
   refine ⟨none,_,_,?_,(⟨1,v,x,noOp,0⟩,q+1+1),⟨by simp only; omega,by simp only; omega⟩,rfl,rfl⟩
   refine dr ?_
   trivial
  ·refine dr ?_
   refine cP ?_ ?_<;>intro h1
   ·exact absurd h1 (by decide)
   refine dr ?_
   refine cP ?_ ?_<;>intro h1
   rotate_left
   ·exact absurd rfl h1
   refine dr ?_
   refine cP ?_ ?_<;>intro h1
   rotate_left
   ·exact absurd rfl h1
   refine dr ?_
   refine oW (jy W0 s (q+1) 3 hs (by omega) (by omega)) rfl ⟨rfl,trivial⟩ rfl rfl ⟨0,by omega,by omega⟩ fun v hv=>⟨rfl,?_⟩
   refine dEr ?_
   refine ⟨none,_,_,?_,(⟨1,v,x,noOp,0⟩,q+1+1),⟨by simp only; omega,by simp only; omega⟩,rfl,rfl⟩
   refine dr ?_
   trivial
  ·refine dr ?_
   refine cP ?_ ?_<;>intro h1
   ·exact absurd h1 (by decide)
   refine dr ?_
   refine cP ?_ ?_<;>intro h1
   ·exact absurd h1 (by decide)
   refine dr ?_
   refine cP ?_ ?_<;>intro h1
   rotate_left
   ·exact absurd rfl h1
   refine dr ?_
   refine oW (jy W0 s (q+1) 3 hs (by omega) (by omega)) rfl ⟨rfl,trivial⟩ rfl rfl ⟨0,by omega,by omega⟩ fun v hv=>⟨rfl,?_⟩
   refine dEr ?_
   refine ⟨none,_,_,?_,(⟨1,v,x,noOp,0⟩,q+1+1),⟨by simp only; omega,by simp only; omega⟩,rfl,rfl⟩
   refine dr ?_
   trivial
 refine dr ?_
 refine cP ?_ ?_<;>intro h1
 ·omega
 refine dr ?_
 refine cP ?_ ?_<;>intro h2
 ·omega
 refine dr ?_
 refine cP ?_ ?_<;>intro h3
 ·omega
 clear h1 h2 h3
 refine dr ?_
 by_cases a:k=3
 ·subst a
  refine cP ?_ ?_<;>intro h1
  rotate_left
  ·exact absurd rfl h1
  refine dr ?_
  refine cP ?_ ?_<;>intro h1
  rotate_left
  ·exact absurd rfl h1
  refine dr ?_
  refine oW (zfM W0 s (q+1) t hs (by omega) (by omega)) rfl ⟨rfl,trivial⟩ rfl rfl ⟨((⟨0,[],[],[]⟩,q+1):Op × Int),by simp only; omega,by simp only; omega⟩ fun y hy=>⟨rfl,?_⟩
  obtain ⟨op,r⟩:=y
  obtain ⟨hr1,hr2⟩:q+1≤r∧r≤q+1+8:=hy
  refine dEr ?_
  refine ⟨none,_,_,?_,(⟨2,0,[],op,0⟩,r),⟨by simp only; omega,by simp only; omega⟩,rfl,rfl⟩
  refine dr ?_
  trivial
 refine cP ?_ ?_<;>intro h1
 ·exact absurd h1 a
 refine dr ?_
 refine cP ?_ ?_<;>intro h1
 ·refine dr ?_
  refine oW (zfM W0 s (q+1) t hs (by omega) (by omega)) rfl ⟨rfl,trivial⟩ rfl rfl ⟨((⟨0,[],[],[]⟩,q+1):Op × Int),by simp only; omega,by simp only; omega⟩ fun y hy=>⟨rfl,?_⟩
  obtain ⟨op,r⟩:=y
  obtain ⟨hr1,hr2⟩:q+1≤r∧r≤q+1+8:=hy
  refine dEr ?_
  refine ⟨none,_,_,?_,(⟨2,0,[],op,0⟩,r),⟨by simp only; omega,by simp only; omega⟩,rfl,rfl⟩
  refine dr ?_
  trivial
 refine dr ?_
 refine cP ?_ ?_<;>intro h2
 ·refine dr ?_
  refine ⟨none,_,_,?_,(⟨3,0,[],noOp,0⟩,q+1),⟨by simp only; omega,by simp only; omega⟩,rfl,rfl⟩
  refine dr ?_
  trivial
 refine dr ?_
 refine cP ?_ ?_<;>intro h3
 ·refine dr ?_
  refine ⟨none,_,_,?_,(⟨4,0,[],noOp,0⟩,q+1),⟨by simp only; omega,by simp only; omega⟩,rfl,rfl⟩
  refine dr ?_
  trivial
 refine dr ?_
 refine cP ?_ ?_<;>intro h4
 ·refine dr ?_
  repeat (refine oB (by omega) ?_; first | refine dr ?_ | exact dz)
  refine oW (jy W0 s (q+1) (n+1) hs (by omega) (by omega)) rfl ⟨rfl,trivial⟩ rfl rfl ⟨0,by omega,by omega⟩ fun v hv=>⟨rfl,?_⟩
  refine dEr ?_
  refine ⟨none,_,_,?_,(⟨6,0,[],noOp,v⟩,q+1+1),⟨by simp only; omega,by simp only; omega⟩,rfl,rfl⟩
  refine dr ?_
  trivial
 refine dr ?_
 refine cP ?_ ?_<;>intro h5
 ·refine dr ?_
  repeat (refine oB (by omega) ?_; first | refine dr ?_ | exact dz)
  refine oW (jy W0 s (q+1) (n+1) hs (by omega) (by omega)) rfl ⟨rfl,trivial⟩ rfl rfl ⟨0,by omega,by omega⟩ fun v hv=>⟨rfl,?_⟩
  refine dEr ?_
  refine ⟨none,_,_,?_,(⟨7,0,[],noOp,v⟩,q+1+1),⟨by simp only; omega,by simp only; omega⟩,rfl,rfl⟩
  refine dr ?_
  trivial
 refine dr ?_
 refine cP ?_ ?_<;>intro h6
 ·refine dr ?_
  refine oW (jx W0 s (q+1) [0,8,1,5,2] hs (by omega) (by decide)) rfl ⟨rfl,trivial⟩ rfl rfl ⟨0,by decide⟩ fun v1 _=>⟨rfl,?_⟩
  refine dEr ?_
  refine oW (jx W0 s (q+1+1) [-1,3,0] hs (by omega) (by decide)) rfl ⟨rfl,trivial⟩ rfl rfl ⟨0,by decide⟩ fun v2 _=>⟨rfl,?_⟩
  refine dEr ?_
  refine oW (f_of W0 s (q+1+1+1) [[47],[],[47,97]] hs (by omega) (by decide)) rfl ⟨rfl,trivial⟩ rfl rfl ⟨_,List.mem_cons_self⟩ fun v3 _=>⟨rfl,?_⟩
  refine dEr ?_
  refine oW (jx W0 s (q+1+1+1+1) [-1,12,0] hs (by omega) (by decide)) rfl ⟨rfl,trivial⟩ rfl rfl ⟨0,by decide⟩ fun v4 _=>⟨rfl,?_⟩
  refine dEr ?_
  refine ⟨none,_,_,?_,(⟨v1,v2,v3,noOp,v4⟩,q+1+1+1+1+1),⟨by simp only; omega,by simp only; omega⟩,rfl,rfl⟩
  refine dr ?_
  trivial
 have hm:maxI 1 n≤100000:=by unfold maxI; split<;>omega
 refine dr ?_
 repeat (refine c0 (zfv W0 1 n) rfl ?_; first | refine dr ?_ | exact dz)
 refine oW (jy W0 s (q+1) (maxI 1 n) hs (by omega) (by omega)) rfl ⟨rfl,trivial⟩ rfl rfl ⟨0,by omega,by omega⟩ fun v hv=>⟨rfl,?_⟩
 refine dEr ?_
 refine ⟨none,_,_,?_,(⟨5,0,[],noOp,v⟩,q+1+1),⟨by simp only; omega,by simp only; omega⟩,rfl,rfl⟩
 refine dr ?_
 trivial
structure WR (n:Nat) (w:Wld):Prop where
 z:WZ (100+n) w
 h:w.holds.length=3
 f:w.floors.length=3
 ck : -(20000+20000 * (n:Int))≤w.clock∧w.clock≤20000+20000 * n
 ct : -(20000+20000 * (n:Int))≤w.count∧w.count≤20000+20000 * n
theorem WG.wr {n:Nat} {w:Wld} (h:WG w) (hz:HZ n w) (hn:n≤100):WR 0 w:=⟨h.wz (hz.mono (by omega)) (by omega),h.pl.hl,h.pl.fl,by have:=h.pl.ck; omega,by have:=h.pl.ct; omega⟩
theorem WZ.mono {n m:Nat} {w:Wld} (h:WZ n w) (hm:n≤m):WZ m w:=⟨h.o.mono hm,h.z.mono hm,by have:=h.h; omega,by have:=h.f; omega,by have:=h.t; omega⟩
theorem WR.mono {n m:Nat} {w:Wld} (h:WR n w) (hm:n≤m):WR m w:=⟨h.z.mono (by omega),h.h,h.f,by have:=h.ck; omega,by have:=h.ct; omega⟩
theorem WR.hold {n:Nat} {w:Wld} (h:WR n w) {g0 g1 g2:List Hold} (e0:g0.length≤101+n) (e1:g1.length≤101+n) (e2:g2.length≤101+n):WR (n+1) { w with holds:=[g0,g1,g2] }:=by
 obtain ⟨⟨z1,⟨z2,z3⟩,z4,z5,z6⟩,h,f,ck,ct⟩:=h
 refine ⟨⟨z1.mono (by omega),⟨by simp only; omega,fun y hy=>?_⟩,by simp; omega,by simp only; omega,by simp only; omega⟩,rfl,f,by simp only; omega,by simp only; omega⟩
 simp only [List.mem_cons,List.not_mem_nil,or_false] at hy
 rcases hy with rfl | rfl | rfl<;>omega
theorem WR.set {n:Nat} {w x:Wld} (h:WR n w) (h1:x.over=w.over∨OZ 32 x.over) (h2:x.leases.length≤w.leases.length+1) (h3:x.holds=w.holds) (h4:x.floors.length=w.floors.length) (h5:x.net.length≤w.net.length+1)
  (h6 : -(20000+20000 * (n:Int)+10010)≤x.clock∧x.clock≤20000+20000 * n+10010) (h7 : -(20000+20000 * (n:Int)+10010)≤x.count∧x.count≤20000+20000 * n+10010):WR (n+1) x:=by
 obtain ⟨⟨z1,⟨z2,z3⟩,z4,z5,z6⟩,h,f,ck,ct⟩:=h
 refine ⟨⟨?_,⟨by omega,fun y hy=>?_⟩,by rw [h3]; omega,by omega,by omega⟩,by rw [h3]; exact h,by omega,by omega,by omega⟩
 ·rcases h1 with e | h1
  ·rw [e]; exact z1.mono (by omega)
  ·exact h1.mono (by omega)
 ·rw [h3] at hy; have:=z3 y hy; omega


def YL:XC:=(.s (.r [.ex 2 (.alloc [.nil,.nil,.nil]),.ex 3 (.asn (.k .nil) 8 67)]) (.s (.r [.mv 10 0,.o1 11 33 [10],.mv 4 11]) (.s (.r [.mv 12 4,.o1 13 68 [12],.ex 5 (.alloc [.nil,.nil,.nil]),.s1 3 5 13]) (.s (.r [.ex 14 .bsl0,.a1 6 14 8 67]) (.s (.r [.l2 16 3 5,.c1 17 69 [16],.mv 15 17,.e1 18 15 0,.e1 19 15 1,.a1 7 18 3 39,.mv 8 19]) (.s (.s (.r [.mv 20 4,.mv 21 4,.o1 22 38 [21,(.i 2)],.b1 23 .add (.i 80) 22,.ex 24 (.bsl 1 3 [(.i 10),(.i 20),(.i 35),(.i 50),(.i 5),(.i 0),23]),.o1 25 36 [20,24],.mv 9 25]) (.blk 0 (.loop (.s (.s (.r [.mv 26 9,.b1 27 .gtr 26 (.i 0)]) (.cnd 27 .skip (.exit 0))) (.s (.blk 1 (.r [.mv 30 6,.mv 31 4,.mv 32 7,.o1 33 70 [31,32,(.i 4)],.ex 34 (.bsl 8 67 [33]),.ex 35 (.app false 8 96 67 30 34),.a1 6 35 8 67])) (.r [.mv 28 9,.b1 29 .sub 28 (.i 1),.mv 9 29])))))) (.s (.r [.l2 36 3 5,.mv 37 6,.s1 3 2 36,.a1 3 37 8 67]) .ret)))))))
theorem YM:compF Tryz.prog [33,68,36,38,70] 22=some (YL.ac,[(.cell 2 true 3),(.t 3)],38):=by kernel_rfl
theorem zer (W0:World) (c:Str):FunW Tryz.prog W0 22 [.c (eCode c)] [] (fun x:Over × List Ev=>OZ 80 x.1∧x.2.length≤1000) (fun x => .tup [.c (eOver x.1),.c (eEvs x.2)]) (fun _=>[]):=by
 refine funW (c:=YL) mixed YM (by simp) rfl rfl fun hg=>?_
 refine dr ?_
 refine oW (zft W0 c) rfl trivial rfl rfl ⟨[],by simp⟩ fun s hs=>⟨rfl,?_⟩
 refine dEr ?_
 refine oW (zf7 W0 s 0 hs (by omega)) rfl ⟨rfl,trivial⟩ rfl rfl ⟨(noO,0),OS.no.oz.mono (by omega),by simp,by simp⟩ fun x hx=>⟨rfl,?_⟩
 obtain ⟨o,q⟩:=x
 obtain ⟨a1,a2,a3⟩:OZ 80 o∧0≤q∧q≤0+640:=hx
 have hv:=jv W0 o
 have hvl:=@zo1 o
 rw [zd1] at hv
 generalize (view4 o).getD []=t at *
 refine dEr ?_
 repeat (refine c0 hv rfl ?_; first | refine dEr ?_ | exact dz)
 refine oW (jy W0 s q 2 hs (by omega) (by omega)) rfl ⟨rfl,trivial⟩ rfl rfl ⟨0,by omega,by omega⟩ fun v hv=>⟨rfl,?_⟩
 have hv1:=hv.1
 have hv2:=hv.2 (by omega)
 refine dEr ?_
 repeat (refine oB (by omega) ?_; first | refine dEr ?_ | exact dz)
 refine oW (jx W0 s (q+1) [10,20,35,50,5,0,80+v] hs (by omega) (by simp)) rfl ⟨rfl,trivial⟩ rfl rfl ⟨10,by simp⟩ fun n hn=>⟨rfl,?_⟩
 have hn2:0≤n∧n≤100:=by
  simp only [List.mem_cons,List.not_mem_nil,or_false] at hn
  omega
 refine dEr ?_
 refine lp3 (fun (out:List Ev) (i r:Int)=>[(2,.ptr 32 0),(4,.ptr 1 0),(5,.ptr 80 0),(6,.own 96 out.length),(7,.c (eEnts t)),(9,.c (CI i))]) (fun out _ r=>[(1,rdB s r),(32,.box [.nil,.nil,.nil]),(80,ovB o),(96,.row (out.map eEv) 8 67)])
  (fun out i r=>0≤i∧i≤n∧(out.length:Int)≤n - i∧0≤r∧r≤700+12 * (n - i)) (fun _ i _=>i.toNat) [] n (q+1+1) ⟨by omega,by omega,by simp,by omega,by omega⟩ ?_ ?_
 ·refine dr ?_
  repeat (refine oB (by simp) ?_; first | refine dr ?_ | exact dz)
  trivial
 rintro out i r ⟨hi1,hi2,ho,hr1,hr2⟩
 refine dr ?_
 refine cP ?_ ?_<;>intro h1
 ·refine dr ?_
  refine oW (zgd W0 s r t 4 hs (by omega) (by omega) (by omega)) rfl ⟨rfl,trivial⟩ rfl rfl ⟨((⟨0,0,[],noOp,0⟩,r):Ev × Int),by simp only; omega,by simp only; omega⟩ fun y hy=>⟨rfl,?_⟩
  obtain ⟨ev,r2⟩:=y
  obtain ⟨b1,b2⟩:r≤r2∧r2≤r+12:=hy
  refine dEr ?_
  repeat ((first | refine oB (by simp; omega) ?_ | refine oB (by simp) ?_ | refine oB (by omega) ?_); first | refine dEr ?_ | exact dz)
  refine ⟨out++[ev],i - 1,r2,⟨by omega,by omega,by simp; omega,by omega,by omega⟩,by omega,?_⟩
  refine dr ?_
  repeat (refine oB (by simp<;>rfl) ?_; first | refine dr ?_ | exact dz)
  trivial
 ·refine dr ?_
  repeat (refine oB (by simp) ?_; first | refine dr ?_ | exact dz)
  refine ⟨some 96,_,_,?_,(o,out),⟨a1,by show out.length≤1000; omega⟩,rfl,rfl⟩
  refine dr ?_
  repeat (refine oB (by simp<;>rfl) ?_; first | refine dr ?_ | exact dz)
  trivial

open Go Go.RowKit Go.WideShapes Go.ChangeShapes Go.ChangeAt
abbrev RC (W:World) (y:CV) (v:Value):Prop:=RepC W (fun _=>False) y v∧v.oneCell'=true
def Opn {H:Type} (enc:TypeId × Value→H) (P:Program) (W:World) (t:TypeId) {α:Type} (f:α→CV):Prop :=
 ∀ (base:Nat) (sp:Nat→Bool) (held:Bool) (fuel:Nat) (cs:List Value) (x:DataW H × List MemPlace),DataW.trod enc P W base sp held fuel t cs=some x→∃ a:α,All2 (RC W) (f a).cells cs
section
variable {H:Type} {enc:TypeId × Value→H} {P:Program} {W:World}
theorem zll {t:TypeId} (ht:P.underlying t=some (.int .u8)):Opn enc P W t (fun b:UInt8=>CU b.toNat):=by
 intro base sp held fuel cs x h
 obtain ⟨n,rfl,_,hw⟩:=DataW.trod_int ht h
 have hw':0≤n∧n≤255:=by simpa [Lit.wf,IntKind.min,IntKind.max,IntKind.signed,IntKind.bits] using hw
 have e:((UInt8.ofNat n.toNat).toNat:Int)=n:=by simp; omega
 refine ⟨UInt8.ofNat n.toNat,⟨?_,rfl⟩,trivial⟩
 show RepC W _ (CU (UInt8.ofNat n.toNat).toNat) _
 rw [e]
 exact .sc (by simpa [wfv,IntKind.min,IntKind.max,IntKind.signed,IntKind.bits] using hw')
theorem Zp {a:Addr} (h:a.spot=none) (n:Nat):a.add n=⟨a.block,a.off+n,none⟩:=by
 unfold Addr.add
 split
 ·rename_i hn; subst hn; cases a; simp at h; subst h; rfl
 ·rfl
theorem Zs {α:Type} {R:CV→Value→Prop} {f:α→CV} {sz:Nat} {g:Nat→List Value}:∀ {L:List α} {k:Nat},(∀ i (h:i < L.length),All2 R (f L[i]).cells (g (k+i))) →
  All2 R ((L.map f).flatMap CV.cells) ((List.range' k L.length).flatMap g)
 | [],k,_=>trivial
 | a::L,k,h=>by
  simp only [List.map_cons,List.flatMap_cons,List.length_cons,List.range'_succ]
  refine All2.append (h 0 (by simp)) (Zs (sz:=sz) (k:=k+1) fun i hi=>?_)
  have:=h (i+1) (by simp; omega)
  rw [show k+1+i=k+(i+1) by omega]
  simpa using this
theorem zjH {α:Type} {q:Nat→α→Prop}:∀ {n:Nat},(∀ i,i < n→∃ a,q i a)→∃ L:List α,L.length=n∧∀ i (h:i < L.length),q i L[i]
 | 0,_=>⟨[],rfl,fun i h=>by simp at h⟩
 | n+1,h=>by
  obtain ⟨L,hl,hq⟩:=zjH (n:=n) fun i hi=>h i (by omega)
  obtain ⟨a,ha⟩:=h n (by omega)
  refine ⟨L++[a],by simp [hl],fun i hi=>?_⟩
  by_cases hin:i < L.length
  ·rw [List.getElem_append_left hin]; exact hq i hin
  ·have:i=L.length:=by simp at hi; omega
   subst this
   simp only [List.getElem_concat_length]
   rw [hl]; exact ha
theorem zlk {t e:TypeId} {α:Type} {f:α→CV} (sz:Nat) (ht:P.underlying t=some (.slice e)) (hc:P.cellsOf e=sz) (h0:0 < sz) (hf:∀ a,(f a).cells.length=sz) (he:Opn enc P W e f):Opn enc P W t (fun l:List α => .row (l.map f)):=by
 intro base sp held fuel cs x h
 rcases DataW.trod_slice ht h with ⟨rfl,_⟩ | ⟨a,len,cap,elems,rest,n,_,rfl,_,_,hle,hcap,helen,hel,_⟩
 ·exact ⟨[],⟨.nil (Nat.zero_le _),rfl⟩,trivial⟩
 ·rw [hc] at hel
  have key:∀ i,i < len→∃ (y:α),∃ cs',cs'.length=sz∧(∀ j,j < sz→W.cell? ((a.add (i * sz)).add j)=cs'[j]?)∧All2 (RC W) (f y).cells cs':=by
   intro i hi
   have h1:=hel i hi
   have h2:∃ z,elems[i]? = some z:=⟨elems[i]'(by omega),by simp [helen,hi]⟩
   obtain ⟨z,h2⟩:=h2
   rw [h2] at h1
   obtain ⟨cs',h3,h4⟩:=Option.bind_eq_some_iff.1 h1
   obtain ⟨y,hy⟩:=he _ _ _ _ _ _ h4
   obtain ⟨_,h5,h6⟩:=World.cells?_some h3
   exact ⟨y,cs',h5,h6,hy⟩
  obtain ⟨L,hl,hL⟩:=zjH key
  refine ⟨L,⟨?_,rfl⟩,trivial⟩
  by_cases hne:L=[]
  ·subst hne
   simp only [List.length_nil] at hl
   subst hl
   exact .nil hcap
  ·have hpos:0 < L.length:=List.length_pos_iff.2 hne
   have hsp:a.spot=none:=by
    obtain ⟨cs',h5,h6,_⟩:=hL 0 hpos
    have:=h6 0 h0
    simp only [Nat.zero_mul] at this
    have e0:(a.add 0).add 0=a:=by simp [Addr.add]
    rw [e0] at this
    have h7:∃ u,cs'[0]? = some u:=⟨cs'[0]'(by omega),by simp [h5,h0]⟩
    obtain ⟨u,h7⟩:=h7
    rw [h7] at this
    unfold World.cell? at this
    split at this
    ·split at this
     ·cases this
     ·rename_i hh; simpa using hh
    ·cases this
   let g:Nat→List Value:=fun i=>(List.range sz).map fun j=>(W.cell? ⟨a.block,a.off+(i * sz+j),none⟩).getD undef
   have hg:∀ i (h:i < L.length),All2 (RC W) (f L[i]).cells (g i)∧∀ j,j < sz→W.cell? ⟨a.block,a.off+(i * sz+j),none⟩=(g i)[j]? := by
    intro i hi
    obtain ⟨cs',h5,h6,h7⟩:=hL i hi
    have e:g i=cs':=by
     apply List.ext_getElem?
     intro j
     by_cases hj:j < sz
     ·have:=h6 j hj
      rw [Zp hsp,Zp rfl] at this
      simp only [g,List.getElem?_map,List.getElem?_range hj,Option.map_some]
      rw [show a.off+(i * sz+j)=a.off+i * sz+j by omega,this]
      have:cs'[j]? = some (cs'[j]'(by omega)):=by simp [h5,hj]
      rw [this]; rfl
     ·rw [List.getElem?_eq_none (by simp [g]; omega),List.getElem?_eq_none (by omega)]
    rw [e]
    refine ⟨h7,fun j hj=>?_⟩
    have:=h6 j hj
    rw [Zp hsp,Zp rfl] at this
    rw [← this,show a.off+i * sz+j=a.off+(i * sz+j) by omega]
   have hall:=Zs (R:=RC W) (f:=f) (sz:=sz) (g:=g) (L:=L) (k:=0) fun i hi=>by simpa using (hg i hi).1
   have hlen:(L.map f).length=len:=by simpa using hl
   have hcell:∀ (m:Nat),m≤L.length→∀ j v,((List.range' 0 m).flatMap g)[j]? = some v→W.cell? ⟨a.block,a.off+j,none⟩=some v:=by
    intro m
    induction m with
    | zero=>intro _ j v hv; simp at hv
    | succ m ih =>
     intro hm j v hv
     rw [List.range'_concat,List.flatMap_append] at hv
     have hln:∀ m,((List.range' 0 m).flatMap g).length=m * sz:=by
      intro m
      induction m with
      | zero=>simp
      | succ m ih=>rw [List.range'_concat,List.flatMap_append,List.length_append,ih]; simp [g,Nat.add_mul]
     by_cases hj:j < m * sz
     ·rw [List.getElem?_append_left (by rw [hln]; exact hj)] at hv
      exact ih (by omega) j v hv
     ·rw [List.getElem?_append_right (by rw [hln]; omega),hln] at hv
      simp only [Nat.zero_add,Nat.one_mul,List.flatMap_cons,List.flatMap_nil,List.append_nil] at hv
      have hj2:j - m * sz < sz:=by
       rcases Nat.lt_or_ge (j - m * sz) sz with h' | h'
       ·exact h'
       ·rw [List.getElem?_eq_none (by simp [g]; omega)] at hv; cases hv
      have:=(hg m (by omega)).2 _ hj2
      rw [hv,show m * sz+(j - m * sz)=j by omega] at this
      exact this
   obtain ⟨ab,ao,asp⟩:=a
   simp only at hsp
   subst hsp
   rw [← hlen]
   refine .row (sz:=sz) (vs:=(List.range' 0 L.length).flatMap g) (by simpa using hne) h0 (by rw [hlen]; exact hle) hcap (fun h=>h) ?_ hall.length ?_ ?_ fun j v hv=>?_
   ·intro y hy
    obtain ⟨b,_,rfl⟩:=List.mem_map.1 hy
    exact hf b
   ·intro i y v hy hv
    obtain ⟨u,hu,hr⟩:=hall.get i y hy
    rw [hv] at hu; cases hu; exact hr.1
   ·intro v hv
    obtain ⟨i,hi⟩:=List.mem_iff_getElem?.1 hv
    have hlt:i < ((L.map f).flatMap CV.cells).length:=by
     rw [hall.length]; exact (List.getElem?_eq_some_iff.1 hi).1
    obtain ⟨u,hu,hr⟩:=hall.get i _ (List.getElem?_eq_getElem hlt)
    rw [hi] at hu; cases hu; exact hr.2
   ·exact hcell L.length (Nat.le_refl _) j v hv
theorem zld {y:CV} (hy:∀ cs,y ≠ .agg cs) {vs:List Value} (h:All2 (RC W) y.cells vs):∃ v,vs=[v]∧RC W y v:=by
 have e:y.cells=[y]:=by cases y<;>first | rfl | exact absurd rfl (hy _)
 rw [e] at h
 match vs,h with
 | [v],h=>exact ⟨v,rfl,h.1⟩
theorem ZH {t:TypeId} {α:Type} {f:α→CV} (h:Opn enc P W t f) (hf:∀ a cs,f a ≠ .agg cs) {base:Nat} {v:Value} (h1:∀ cs,v ≠ .agg cs)
  {sp:Nat→Bool} {held:Bool} {d:DataW H} {ps:List MemPlace} (hd:DataW.Trod enc P W base sp held t v d ps):∃ a,RepC W (fun _=>False) (f a) v:=by
 obtain ⟨fuel,hx⟩:=hd
 obtain ⟨a,ha⟩:=h _ _ _ _ _ _ hx
 obtain ⟨u,hu,hr⟩:=zld (hf a) ha
 refine ⟨a,?_⟩
 have:v.cells.toList=[v]:=by cases v<;>first | rfl | exact absurd rfl (h1 _)
 rw [this] at hu; cases hu
 exact hr.1
theorem zhB {f:FuncId} {args:List CV} {vs:Array Value} (h:Fn P W f args (.c (CB true)) []) (ha:All2 (RepC W fun _=>False) args vs.toList) :
  Calls P f vs W fun e W'=>e = .returned (.bool true)∧Below W.heap.size W W':=by
 have hlive:∀ b,¬ Live ⟨fun _=>none,fun _=>False⟩ [] b:=by
  rintro b (hb | ⟨id,hb,_⟩)
  ·exact hb
  ·simp [lk] at hb
 have hm:MemOk ⟨fun _=>none,fun _=>False⟩ [] W:=⟨fun id b hb=>by simp [lk] at hb,fun i j b hi=>by simp [lk] at hi,fun b hb=>hb.elim,fun id b hb=>by simp [lk] at hb⟩
 refine (h ⟨fun _=>none,fun _=>False⟩ W vs (Below.refl _ _) (MW.start hm fun b hb=>(hlive b hb).elim) ?_).mono ?_
 ·have key:∀ {args:List CV} {us:List Value},All2 (RepC W fun _=>False) args us→All2 (Rep ⟨fun _=>none,fun _=>False⟩ [] W) (args.map .c) us:=by
   intro args
   induction args with
   | nil=>intro us h; cases us with | nil=>trivial | cons=>exact h.elim
   | cons a l ih =>
    intro us h
    cases us with
    | nil=>exact h.elim
    | cons u us =>
     refine ⟨RepC.rep (h.1.mono fun b o v _ hc=>⟨hlive b,hc⟩),ih h.2⟩
  exact key ha
 ·rintro e W' ⟨v,r,m',κ',rfl,⟨rfl,rfl⟩,h1,h2⟩
  refine ⟨?_,?_⟩
  ·have:=Rep.c h2
   cases this
   rfl
  ·have e:=h1.ext
   exact ⟨e.os,e.tape,e.output,e.size,fun k hk=>e.block k hk fun ⟨id,hid,_⟩=>by simp [lk] at hid⟩
theorem zoy (hl:laidOutB P=true) {W':World} (hb:Below W.heap.size W W') {sp:Nat→Bool}:∀ {ts:List TypeId} {vs:List Value} {ds:List (DataW H)} {ps:List MemPlace},(∀ t∈ts,P.readableRec t=true∧t < P.types.size) →
  DataW.TrodAll enc P W 0 (fun _=>true) true ts vs ds ps→(∀ p∈ps,p.block < W.heap.size)→(∀ p∈ps,sp p.block=true)→DataW.TrodAll enc P W' 0 sp true ts vs ds ps
 | [],[],[],ps,_,h,_,_=>h
 | t::ts,v::vs,d::ds,ps,hr,h,hlt,hs=>by
  obtain ⟨p,q,h1,h2,rfl⟩:=h
  obtain ⟨h3,h4⟩:=hr t (by simp)
  exact ⟨p,q,WideElems.Trod_stays hl h3 h4 h1 (fun x hx=>hb.same (hlt x (by simp [hx]))) (fun x hx=>hs x (by simp [hx])),
   zoy hl hb (fun t ht=>hr t (by simp [ht])) h2 (fun x hx=>hlt x (by simp [hx])) (fun x hx=>hs x (by simp [hx])),rfl⟩
 | [],_::_,_,_,_,h,_,_=>h.elim
 | [],[],_::_,_,_,h,_,_=>h.elim
 | _::_,[],_,_,_,h,_,_=>h.elim
 | _::_,_::_,[],_,_,h,_,_=>h.elim
theorem zjw (hl:laidOutB P=true) {fn:Func} {s:ChangeSpec} {tb:TypeId} {apart fresh handsOn again:Bool} {W':World} {args:Array Value} {ds:List (DataW H)} {before:List MemPlace}
  (hr:(fn.params.toList.all fun t=>P.readableRec t&&decide (t < P.types.size))=true) (hres:fn.resultTypes=#[tb]) (htb:P.underlying tb=some .bool) (hv:s.vars=[])
  (hW:DataW.Whole enc P fn.params.toList s.vars apart W args.toList ds [] before) (hs:s.fn H (ds++[])={ results:=[.lit (.bool true)],args:=ds }) (hb:Below W.heap.size W W') :
  s.post enc P fn apart fresh handsOn again W args (.bool true) W':=by
 have hr:∀ t∈fn.params.toList,P.readableRec t=true∧t < P.types.size:=fun t ht=>by
  have:=List.all_eq_true.1 hr t ht
  simpa using this
 have hlt:∀ p∈before,p.block < W.heap.size:=fun p hp=>hW.lt p hp
 have hW0:=hW
 obtain ⟨p,q,hA,hV,hpq,hfz,hnd⟩:=hW
 rw [hv] at hV
 obtain ⟨_,rfl⟩:=trodVars_none hV
 rw [List.append_nil] at hpq
 subst hpq
 have hbool:∀ (b:Nat) (sp:Nat→Bool) (hd:Bool),DataW.TrodAll enc P W' b sp hd fn.resultTypes.toList ((Value.bool true).resultList fn.resultTypes.size) (s.fn H (ds++[])).results []:=by
  intro b sp hd
  rw [hres,hs]
  exact trodAll_mk1 ⟨1,by simp [DataW.trod,Value.cells,htb]⟩
 have hargs:∀ sp:Nat→Bool,(∀ x∈before,sp x.block=true)→DataW.TrodAll enc P W' 0 sp true fn.params.toList args.toList ds before:=fun sp hsp=>zoy hl hb hr hA hlt hsp
 have hvars:∀ sp,DataW.TrodVars enc P W' sp s.vars [] []:=fun sp=>by rw [hv]; rfl
 refine ⟨ds,[],before,[],before,[],hW0,hbool _ _ _,?_,?_,World.keptBut_mono (fun x hx=>⟨hx,.inr (.inl hx)⟩) (hb.frame (·∈before)),fun _=>⟨fun j t r ht hr'=>?_,(s.fn H (ds++[])).results++ds,[],before,⟨before,[],?_,?_,(List.append_nil _).symm,fun b off hx=>?_,hnd⟩,fun x hx _=>hx⟩⟩
 ·rw [hs]; exact hargs _ fun x hx=>by simpa using hlt x hx
 ·rw [hs]; exact hvars _
 ·rw [hres] at ht hr'
  match j,ht,hr' with
  | 0,ht,hr' =>
   have e1:tb=t:=by simpa using ht
   have e2:Value.bool true=r:=by simpa [Value.resultList] using hr'
   subst e1 e2
   simp [Value.okWide,htb,Cell.okWide,Cell.ok]
  | j+1,ht,_=>simp at ht
 ·have:=trodAll_append (hargs (fun _=>true) fun _ _=>rfl) (hbool 0 (fun _=>true) true)
  simpa using this
 ·exact hvars _
 ·rw [hb.frozen (hlt _ hx)]; exact hfz b off hx
end

theorem laidOut:laidOutB Tryz.prog=true:=by kernel_rfl
theorem ownK:ownKnob Tryz.prog.godebug=none:=by kernel_rfl
section
variable {H:Type} {enc:TypeId × Value→H} {W:World}
set_option maxRecDepth 100000 in
theorem ZG {r:Reach} {b:Nat} {v:Value} (h:Value.okWide Tryz.prog W r b 22 v):∀ cs,v ≠ .agg cs:=by
 rintro cs rfl
 unfold Value.okWide at h
 rw [Tryz.underlying22] at h
 unfold Cell.okWide at h
 rw [Tryz.underlying22] at h
 unfold Cell.ok at h
 rw [Tryz.underlying22] at h
 exact h
theorem zkL:Opn enc Tryz.prog W 22 eCode:=zlk (f:=fun b:UInt8=>CU b.toNat) 1 (by kernel_rfl) (by kernel_rfl) (by decide) (fun _=>rfl) (zll (t:=5) (by kernel_rfl))
end

def rangeCells:List Value:=[128,191,160,191,128,159,144,191,128,143,0,0,0,0,0,0,0,0,0,0,0,0,0,0,0,0,0,0,0,0,0,0].map fun n:Nat=>Value.int .u8 (n:Int)
def firstCells:List Value:=Go.Pinned.utf8FirstZ.map fun n:Nat=>Value.int .u8 (n:Int)
def laidW (P:Program) (os:Os):World:=Sort.mapBlock (Sort.mapBlock (World.holding P os ⟨#[],#[],[]⟩) 2 fun _=>rangeCells.toArray) 1 fun _=>firstCells.toArray

theorem ziE {W:World} (h:W.ShapedOpen Tryz.prog):HM W :=
 Go.Proofs.cell_of_shapedOpen_int (zero:=#[.int .i64 0]) (t:=3) h (of_decide_eq_true (by kernel_rfl)) (by kernel_rfl) rfl (by kernel_rfl) (by kernel_rfl) Tryz.underlying3

theorem xiT {a:Int} {A B:Prop} (h:A):cndX (eqI a a) A B:=by rw [zR.2 rfl]; exact h
theorem xiF {a:Int} {A B:Prop} (h:B):cndX (!eqI a a) A B:=by rw [zR.2 rfl]; exact h
theorem xbT {a:Bool} {A B:Prop} (h:A):cndX (eqB a a) A B:=by rw [zO.2 rfl]; exact h
theorem xbF {a:Bool} {A B:Prop} (h:B):cndX (!eqB a a) A B:=by rw [zO.2 rfl]; exact h
theorem xiN {a b:Int} {A B:Prop} (k:B) (h:a≠b:=by decide):cndX (eqI a b) A B:=by rw [zQ.2 h]; exact k
theorem xiM {a b:Int} {A B:Prop} (k:A) (h:a≠b:=by decide):cndX (!eqI a b) A B:=by rw [zQ.2 h]; exact k
theorem xbN {a b:Bool} {A B:Prop} (k:B) (h:a≠b:=by decide):cndX (eqB a b) A B:=by rw [zeb.2 h]; exact k
theorem xbM {a b:Bool} {A B:Prop} (k:A) (h:a≠b:=by decide):cndX (!eqB a b) A B:=by rw [zeb.2 h]; exact k
theorem xeT {p d:Str} {b:Bool} {A B:Prop} (h:A):cndX (eqS p p&&(eqB b b&&(eqS d d&&true))) A B:=by rw [zT.2 rfl,zO.2 rfl,zT.2 rfl]; exact h
theorem xeF {p d:Str} {b:Bool} {A B:Prop} (h:B):cndX (!(eqS p p&&(eqB b b&&(eqS d d&&true)))) A B:=by rw [zT.2 rfl,zO.2 rfl,zT.2 rfl]; exact h
theorem jd (W0:World) (a b:Over) (h:a=b):Fn Tryz.prog W0 30 [eOver a,eOver b] (.c (CB true)) []:=by
 have:=zfg W0 a b
 rwa [decide_eq_true h] at this
theorem jb (W0:World) (a b:List Ent) (h:a=b):Fn Tryz.prog W0 32 [eEnts a,eEnts b] (.c (CB true)) []:=by
 have:=ze8 W0 a b
 rwa [decide_eq_true h] at this
theorem jc (W0:World) (a b:List Mark) (h:a=b):Fn Tryz.prog W0 86 [eMarks a,eMarks b] (.c (CB true)) []:=by
 have:=zfc W0 a b
 rwa [decide_eq_true h] at this

section
variable {w:Wld}
theorem zlm {ev:Ev} (h2:ev.kind≠2) (h3:ev.kind≠3):(evW w ev).1.over=w.over∧(evW w ev).1.waits=w.waits∧(evW w ev).1.op=w.op:=by
 unfold evW
 split
 ·split
  ·obtain ⟨a,_,_,_,_,_,b,c⟩:=@yJ w ⟨1,ev.who,⟨ev.path,false,noE,0,0⟩⟩
   exact ⟨a,b,c⟩
  ·exact ⟨rfl,rfl,rfl⟩
 ·try rw [if_neg h2,if_neg h3]
  split
  ·exact ⟨rfl,rfl,rfl⟩
  ·split
   ·obtain ⟨a,_,b,c⟩:=@zky w ev; exact ⟨a,b,c⟩
   ·exact ⟨rfl,rfl,rfl⟩
theorem ev_2 {ev:Ev} (h:ev.kind=2):evW w ev=writeW w ev.op:=by unfold evW; rw [if_neg (by omega),if_pos h]
theorem ev_3 {ev:Ev} (h:ev.kind=3):evW w ev=tryW w:=by unfold evW; rw [if_neg (by omega),if_neg (by omega),if_pos h]
def waitsN (wop:Op) (ev:Ev) (c:Int):Op:=if ev.kind=2∧c=20 then ev.op else wop
theorem zo2 (h:WG w) {wop:Op} (hw:w.waits=true→wop=w.op) (ev:Ev) :
  ((ev.kind=2∨ev.kind=3)→(evW w ev).2=0→treeDo (vwG w.over) (if ev.kind=3 then wop else ev.op)=(vwG (evW w ev).1.over,0)) ∧
  (¬ ((ev.kind=2∨ev.kind=3)∧(evW w ev).2=0)→vwG (evW w ev).1.over=vwG w.over) ∧
  ((evW w ev).1.waits=true→waitsN wop ev (evW w ev).2=(evW w ev).1.op) ∧
  (ev.kind=2→(evW w ev).2≠20→(evW w ev).2≠21→(evW w ev).2≠0→(treeDo (vwG w.over) ev.op).2=(evW w ev).2):=by
 have pr:∀ {op:Op},(treeDo (vwG w.over) op).2=0→treeDo (vwG w.over) op=(vwG (oDo w.over op).1,0):=fun {op} hc=>by
  rw [zo0 h op]; exact Prod.ext rfl hc
 by_cases h2:ev.kind=2
 ·rw [ev_2 h2,if_neg (by omega)]
  have e:∀ c,waitsN wop ev c=if c=20 then ev.op else wop:=fun c=>by unfold waitsN; simp [h2]
  rw [e]
  rcases @zpg w ev.op with ⟨a,q⟩ | ⟨a,b,c,q⟩ | ⟨a,b,c,q⟩ | ⟨a,b,c,q⟩<;>rw [q]
  ·exact ⟨fun _ hh=>by simp at hh,fun _=>rfl,fun _=>by rw [if_neg (by simp)]; exact hw a,fun _ _ hh=>absurd rfl hh⟩
  ·refine ⟨fun _ hh=>absurd hh b,fun _=>rfl,fun hh=>?_,fun _ _ _ _=>rfl⟩
   rw [a] at hh; cases hh
  ·obtain ⟨s1,_,_,_,_,_,s7,s8⟩:=@yB (barsW w ev.op) { w with waits:=true,op:=ev.op }
   refine ⟨fun _ hh=>by simp at hh,fun _=>by rw [s1],fun _=>?_,fun _ hh=>absurd rfl hh⟩
   rw [if_pos rfl,s8]
  ·refine ⟨fun _ _=>pr b,fun hh=>absurd ⟨.inl h2,rfl⟩ hh,fun hh=>?_,fun _ _ _ hh=>absurd rfl hh⟩
   have hh:w.waits=true:=hh
   rw [a] at hh; cases hh
 ·by_cases h3:ev.kind=3
  ·rw [ev_3 h3,if_pos h3]
   have e:∀ c,waitsN wop ev c=wop:=fun c=>by unfold waitsN; rw [if_neg (by omega)]
   rw [e]
   rcases @zoA w with ⟨a,q⟩ | ⟨a,b,q⟩ | ⟨a,b,q⟩<;>rw [q]
   ·refine ⟨fun _ hh=>by simp at hh,fun _=>rfl,fun hh=>?_,fun hh=>absurd hh h2⟩
    rw [a] at hh; cases hh
   ·obtain ⟨s1,_,_,_,_,_,s7,s8⟩:=@yB (barsW w w.op) w
    exact ⟨fun _ hh=>by simp at hh,fun _=>by rw [s1],fun _=>by rw [s8]; exact hw a,fun hh=>absurd hh h2⟩
   ·refine ⟨fun _ _=>?_,fun hh=>absurd ⟨.inr h3,rfl⟩ hh,fun hh=>(by cases hh),fun hh=>absurd hh h2⟩
    rw [hw a]
    exact pr (h.wt.2 a)
  ·obtain ⟨a,b,c⟩:=@zlm w ev h2 h3
   refine ⟨fun hh=>absurd hh (by omega),fun _=>by rw [a],fun hh=>?_,fun hh=>absurd hh h2⟩
   rw [b] at hh
   rw [c]
   unfold waitsN
   rw [if_neg (by omega)]
   exact hw hh
end

theorem zmv (W0:World) (a:Wld):Fn Tryz.prog W0 18 [eWld a,eWld a] (.c (CB true)) []:=by
 have:=zfo W0 a a
 simpa using this
def Yx:XC:=(.s (.r [.m1 2 .n]) (.s (.s (.r [.mv 15 0,.n1 16 15,.b1 17 .gtr 16 (.i 1048576)]) (.cnd 17 (.s (.r [.m1 2 .y]) .ret) .skip)) (.s (.r [.mv 19 0,.o1 20 22 [19],.mv 18 20,.e1 21 18 0,.e1 22 18 1,.ex 3 (.alloc [.nil,.nil,.nil]),.s1 3 3 21,.a1 4 22 8 67]) (.s (.r [.l2 24 3 3,.mv 25 4,.c1 26 23 [24,25],.mv 23 26,.e1 27 23 0,.e1 28 23 1,.ex 5 (.alloc [.nil,.nil,.nil,(I 0),(I 0),.nil,.nil,.nil,.nil,(B false),(I 0),sE,sE,sE]),.s1 14 5 27,.a1 6 28 1 3]) (.s (.r [.l2 30 3 3,.mv 31 4,.c1 32 24 [30,31],.mv 29 32,.e1 33 29 0,.e1 34 29 1,.ex 7 (.alloc [.nil,.nil,.nil,(I 0),(I 0),.nil,.nil,.nil,.nil,(B false),(I 0),sE,sE,sE]),.s1 14 7 33,.a1 8 34 1 3]) (.s (.s (.r [.l2 35 14 5,.l2 36 14 7,.c1 37 18 [35,36],.ex 38 (.un .not 37),.mv 39 38,.gf 40 (.mv 6) 39,.gf 41 (.len false 40) 39,.gf 42 (.mv 8) 39,.gf 43 (.len false 42) 39,.gf 44 (.bin .neq 41 43) 39,.ex 45 (.pick 39 .y 44),.mv 46 45,.gf 47 (.ld true 3 3) 46,.gf 48 (.call 25 [47]) 46,.gf 49 (.un .not 48) 46,.ex 50 (.pick 46 .y 49),.mv 51 50,.gf 52 (.mv 4) 51,.gf 53 (.len false 52) 51,.gf 54 (.bin .gtr 53 (.i 80)) 51,.ex 55 (.pick 51 .y 54)]) (.cnd 55 (.s (.r [.l2 56 14 5,.l2 57 14 7,.c1 58 18 [56,57],.mv 59 58,.gt 60 (.mv 6) 59,.gt 61 (.len false 60) 59,.gt 62 (.mv 8) 59,.gt 63 (.len false 62) 59,.gt 64 (.bin .eql 61 63) 59,.ex 65 (.pick 59 64 .n),.mv 2 65]) .ret) .skip)) (.s (.r [.mv 66 4,.n1 67 66,.mv 9 67]) (.s (.s (.r [.mv 68 9,.b1 69 .eql 68 (.i 0)]) (.cnd 69 (.s (.d [.l2 70 14 5,.l2 71 3 3,.c1 72 26 [71],.c1 73 18 [70,72],.mv 2 73]) .ret) .skip)) (.s (.d [.l2 75 3 3,.mv 76 4,.mv 77 9,.b1 78 .sub 77 (.i 1),.ex 79 (.slr 8 76 .none (.some 78)),.c1 80 23 [75,79],.mv 74 80,.e1 81 74 0,.e1 82 74 1,.ex 10 (.alloc [.nil,.nil,.nil,(I 0),(I 0),.nil,.nil,.nil,.nil,(B false),(I 0),sE,sE,sE]),.s1 14 10 81,.a1 11 82 1 3]) (.s (.d [.l2 84 14 10,.mv 85 4,.mv 86 9,.b1 87 .sub 86 (.i 1),.i1 88 8 85 87,.l2 89 8 88,.c1 90 27 [84,89],.mv 83 90,.e1 91 83 0,.e1 92 83 1,.ex 12 (.alloc [.nil,.nil,.nil,(I 0),(I 0),.nil,.nil,.nil,.nil,(B false),(I 0),sE,sE,sE]),.s1 14 12 91,.mv 13 92]) (.s (.s (.r [.m1 14 (.i 0)]) (.blk 0 (.loop (.s (.s (.r [.mv 93 14,.mv 94 9,.b1 95 .sub 94 (.i 1),.b1 96 .lss 93 95]) (.cnd 96 .skip (.exit 0))) (.s (.blk 1 (.s (.d [.mv 99 11,.mv 100 14,.i1 101 1 99 100,.l1 102 1 101,.mv 103 6,.mv 104 14,.i1 105 1 103 104,.l1 106 1 105,.b1 107 .neq 102 106]) (.cnd 107 (.s (.r [.m1 2 .n]) .ret) .skip))) (.r [.mv 97 14,.b1 98 .add 97 (.i 1),.mv 14 98])))))) (.s (.r [.mv 108 13,.mv 109 6,.mv 110 9,.b1 111 .sub 110 (.i 1),.i1 112 1 109 111,.l1 113 1 112,.b1 114 .eql 108 113,.mv 115 114,.gt 116 (.ld true 14 12) 115,.gt 117 (.ld true 14 5) 115,.gt 118 (.call 18 [116,117]) 115,.ex 119 (.pick 115 118 .n),.mv 2 119]) .ret))))))))))))
theorem Yy:compF Tryz.prog [22] 5=some (Yx.ac,[(.t 2)],120):=by kernel_rfl
theorem zeB (W0:World) (hs:W0.ShapedOpen Tryz.prog) (c0':Str):Fn Tryz.prog W0 5 [eCode c0'] (.c (CB true)) []:=by
 refine fnX (c:=Yx) mixed Yy (by simp) rfl fun hg=>?_
 have hM:=ziE hs
 refine dr ?_
 refine cP ?_ ?_<;>intro h0
 ·exact dz
 refine dr ?_
 refine oW (zer W0 c0') rfl trivial rfl rfl ⟨(noO,[]),OS.no.oz.mono (by omega),by simp⟩ fun x hx=>⟨rfl,?_⟩
 obtain ⟨o,evs⟩:=x
 have hlen:evs.length≤1000:=hx.2
 clear hx
 have q1:=zfm W0 hM o evs
 have q2:=zgY W0 o evs
 have q3:=jB W0 o
 have sm:=zmv W0
 by_cases hy:oOk o=true∧evs.length≤80
 rotate_left
 ·rw [show wPlay o evs=(noW,[]) from Zj hy] at q1 q2
  have q1:Fn Tryz.prog W0 23 [eOver o,eEvs evs] (.c (.tup [eWld noW,eInts []])) []:=q1
  have q2:Fn Tryz.prog W0 24 [eOver o,eEvs evs] (.c (.tup [eWld noW,eInts []])) []:=q2
  cases h1:oOk o with
  | false =>
   rw [h1] at q3
   refine dEr ?_
   repeat ((first | refine c0 q1 rfl ?_ | refine c0 q2 rfl ?_ | refine c0 q3 rfl ?_ | refine c0 (sm _) rfl ?_ | refine xiT ?_ | refine xiF ?_ | refine xbT ?_ | refine xbF ?_ | refine xiN ?_ | refine xiM ?_ | refine xbN ?_ | refine xbM ?_ | refine xeT ?_ | refine xeF ?_ | refine c0 (jd W0 _ _ rfl) rfl ?_ | refine c0 (jb W0 _ _ rfl) rfl ?_ | refine c0 (jc W0 _ _ rfl) rfl ?_); first | refine dEr ?_ | exact dz)
   exact congrArg CB (zR.2 rfl)
  | true =>
   have hl:80 < evs.length:=Nat.lt_of_not_le fun hh=>hy ⟨h1,hh⟩
   rw [h1] at q3
   refine dEr ?_
   repeat ((first | refine c0 q1 rfl ?_ | refine c0 q2 rfl ?_ | refine c0 q3 rfl ?_ | refine c0 (sm _) rfl ?_ | refine xiT ?_ | refine xiF ?_ | refine xbT ?_ | refine xbF ?_ | refine xiN ?_ | refine xiM ?_ | refine xbN ?_ | refine xbM ?_ | refine xeT ?_ | refine xeF ?_ | refine c0 (jd W0 _ _ rfl) rfl ?_ | refine c0 (jb W0 _ _ rfl) rfl ?_ | refine c0 (jc W0 _ _ rfl) rfl ?_); first | refine dEr ?_ | exact dz)
   refine cP ?_ ?_<;>intro h2
   rotate_left
   ·have h2:(evs.length:Int)≤80:=h2
    omega
   refine dEr ?_
   repeat ((first | refine c0 (sm _) rfl ?_ | refine xiT ?_ | refine xiF ?_ | refine xbT ?_ | refine xbF ?_ | refine xiN ?_ | refine xiM ?_ | refine xbN ?_ | refine xbM ?_ | refine xeT ?_ | refine xeF ?_ | refine c0 (jd W0 _ _ rfl) rfl ?_ | refine c0 (jb W0 _ _ rfl) rfl ?_ | refine c0 (jc W0 _ _ rfl) rfl ?_); first | refine dEr ?_ | exact dz)
   exact congrArg CB (zR.2 rfl)
 obtain ⟨h1,h80⟩:=hy
 have g0:WG (newW o):=WG.new h1
 have hs:=OS.ok h1
 have q4:=zfk W0 o (hs.oz.mono (by omega))
 rw [show wPlay o evs=playA (newW o) evs from Zk h1 h80] at q1 q2
 rw [h1] at q3
 have pl:=yv (w:=newW o) (l:=evs)
 have q5:=fun n=>zfm W0 hM o (evs.take n)
 have pn:=fun k (h:k < evs.length)=>yw (w:=newW o) h
 have pz:=fun n=>(HZ.play (w:=newW o) HZ.new:HZ (0+(evs.take n).length) (playA (newW o) (evs.take n)).1)
 have pg:=fun n=>WG.play (l:=evs.take n) g0
 generalize hp:playA (newW o) evs=r at *
 obtain ⟨w,cs⟩:=r
 have q1:Fn Tryz.prog W0 23 [eOver o,eEvs evs] (.c (.tup [eWld w,eInts cs])) []:=q1
 have q2:Fn Tryz.prog W0 24 [eOver o,eEvs evs] (.c (.tup [eWld w,eInts cs])) []:=q2
 refine dEr ?_
 repeat ((first | refine c0 q1 rfl ?_ | refine c0 q2 rfl ?_ | refine c0 q3 rfl ?_ | refine c0 (sm _) rfl ?_ | refine xiT ?_ | refine xiF ?_ | refine xbT ?_ | refine xbF ?_ | refine xiN ?_ | refine xiM ?_ | refine xbN ?_ | refine xbM ?_ | refine xeT ?_ | refine xeF ?_ | refine c0 (jd W0 _ _ rfl) rfl ?_ | refine c0 (jb W0 _ _ rfl) rfl ?_ | refine c0 (jc W0 _ _ rfl) rfl ?_); first | refine dEr ?_ | exact dz)
 refine cP ?_ ?_<;>intro h2
 ·have h2:(80:Int) < (evs.length:Int):=h2
  omega
 refine dr ?_
 refine cP ?_ ?_<;>intro h3
 ·have h3:(evs.length:Int)=0:=h3
  have h30:evs=[]:=List.eq_nil_of_length_eq_zero (by omega)
  subst h30
  rw [zlz] at hp
  cases hp
  refine dEr ?_
  repeat ((first | refine c0 q4 rfl ?_ | refine c0 (sm _) rfl ?_ | refine xiT ?_ | refine xiF ?_ | refine xbT ?_ | refine xbF ?_ | refine xiN ?_ | refine xiM ?_ | refine xbN ?_ | refine xbM ?_ | refine xeT ?_ | refine xeF ?_ | refine c0 (jd W0 _ _ rfl) rfl ?_ | refine c0 (jb W0 _ _ rfl) rfl ?_ | refine c0 (jc W0 _ _ rfl) rfl ?_); first | refine dEr ?_ | exact dz)
 have h3:¬ (evs.length:Int)=0:=h3
 obtain ⟨n,hn⟩:∃ n,evs.length=n+1:=⟨evs.length - 1,by omega⟩
 have hn':n < evs.length:=by omega
 have p1:=pn n hn'
 rw [show evs.take (n+1)=evs from List.take_of_length_le (by omega),hp] at p1
 have q5:=q5 n
 have pz:=pz n
 have pg:=pg n
 have pl2:=yv (w:=newW o) (l:=evs.take n)
 rw [show wPlay o (evs.take n)=playA (newW o) (evs.take n) from Zk h1 (by rw [List.length_take]; omega)] at q5
 generalize playA (newW o) (evs.take n)=r2 at *
 obtain ⟨y,ps⟩:=r2
 have q6:=zfj W0 hM y evs[n] (pz.mono (by rw [List.length_take]; omega))
 rw [zo5 pg] at q6
 generalize evW y evs[n]=r3 at *
 obtain ⟨z,c⟩:=r3
 obtain ⟨rfl,rfl⟩:w=z∧cs=ps++[c]:=by cases p1; exact ⟨rfl,rfl⟩
 have q5:Fn Tryz.prog W0 23 [eOver o,eEvs (evs.take n)] (.c (.tup [eWld y,eInts ps])) []:=q5
 have q6:Fn Tryz.prog W0 27 [eWld y,eEv evs[n]] (.c (.tup [eWld w,CI c])) []:=q6
 have pl2:ps.length=n:=by have:ps.length=(evs.take n).length:=pl2; rw [List.length_take] at this; omega
 refine dEr ?_
 repeat ((first | refine sHiM n (show (evs.length:Int) - 1=(n:Int) by omega) (show n≤evs.length by omega) ?_ | refine c0 q5 rfl ?_ | refine c0 q6 rfl ?_ | refine aM (j:=n) (show (evs.length:Int) - 1=(n:Int) by omega) hn' ?_); first | refine dEr ?_ | exact dz)
 refine lp (σ:=Nat) (fun k=>[(5,.ptr 80 0),(6,.c (eInts (ps++[c]))),(9,I evs.length),(11,.c (eInts ps)),(12,.ptr 192 0),(13,.c (CI c)),(14,I k)]) (fun _=>[(80,wBx w),(192,wBx w)]) (fun k=>k≤n) (fun k=>n - k) 0 (by omega) ?_ ?_
 ·refine dr ?_
  trivial
 intro k hk
 refine dr ?_
 refine cP ?_ ?_<;>intro h4
 ·have hk':k < n:=by omega
  have e:(ps++[c])[k]'(by simp; omega)=ps[k]:=List.getElem_append_left (by omega)
  refine dr ?_
  repeat ((first | refine aM (j:=k) rfl (by omega) ?_ | refine aM (j:=k) rfl (by simp; omega) ?_); first | refine dr ?_ | exact dz)
  rw [e]
  refine cP ?_ ?_<;>intro h5
  ·exact absurd rfl h5
  refine dr ?_
  refine ⟨k+1,by omega,by omega,?_⟩
  refine dr ?_
  trivial
 ·have e:(ps++[c])[n]'(by simp; omega)=c:=by rw [List.getElem_append_right (by omega)]; simp
  refine dr ?_
  repeat (refine aM (j:=n) (by omega) (by simp; omega) ?_; first | refine dr ?_ | exact dz)
  rw [e]
  refine dEr ?_
  repeat ((first | refine c0 (sm _) rfl ?_ | refine xiT ?_ | refine xiF ?_ | refine xbT ?_ | refine xbF ?_ | refine xiN ?_ | refine xiM ?_ | refine xbN ?_ | refine xbM ?_ | refine xeT ?_ | refine xeF ?_ | refine c0 (jd W0 _ _ rfl) rfl ?_ | refine c0 (jb W0 _ _ rfl) rfl ?_ | refine c0 (jc W0 _ _ rfl) rfl ?_); first | refine dEr ?_ | exact dz)

def Yv:XC:=(.s (.r [.m1 2 .n]) (.s (.s (.r [.mv 19 0,.n1 20 19,.b1 21 .gtr 20 (.i 1048576)]) (.cnd 21 (.s (.r [.m1 2 .y]) .ret) .skip)) (.s (.r [.mv 23 0,.o1 24 22 [23],.mv 22 24,.e1 25 22 0,.e1 26 22 1,.ex 3 (.alloc [.nil,.nil,.nil]),.s1 3 3 25,.a1 4 26 8 67]) (.s (.r [.l2 28 3 3,.mv 29 4,.c1 30 23 [28,29],.mv 27 30,.e1 31 27 0,.e1 32 27 1,.ex 5 (.alloc [.nil,.nil,.nil,(I 0),(I 0),.nil,.nil,.nil,.nil,(B false),(I 0),sE,sE,sE]),.s1 14 5 31,.a1 6 32 1 3]) (.s (.r [.l2 34 3 3,.mv 35 4,.c1 36 24 [34,35],.mv 33 36,.e1 37 33 0,.e1 38 33 1,.ex 7 (.alloc [.nil,.nil,.nil,(I 0),(I 0),.nil,.nil,.nil,.nil,(B false),(I 0),sE,sE,sE]),.s1 14 7 37,.a1 8 38 1 3]) (.s (.s (.r [.l2 39 14 5,.l2 40 14 7,.c1 41 18 [39,40],.ex 42 (.un .not 41),.mv 43 42,.gf 44 (.mv 6) 43,.gf 45 (.len false 44) 43,.gf 46 (.mv 8) 43,.gf 47 (.len false 46) 43,.gf 48 (.bin .neq 45 47) 43,.ex 49 (.pick 43 .y 48)]) (.cnd 49 (.s (.r [.m1 2 .n]) .ret) .skip)) (.s (.s (.r [.l2 50 3 3,.c1 51 25 [50],.ex 52 (.un .not 51),.mv 53 52,.gf 54 (.mv 4) 53,.gf 55 (.len false 54) 53,.gf 56 (.bin .gtr 55 (.i 80)) 53,.ex 57 (.pick 53 .y 56)]) (.cnd 57 (.s (.r [.l2 58 14 5,.ex 59 (.build [.nil,.nil,.nil,(I 0),(I 0),.nil,.nil,.nil,.nil,(B false),(I 0),sE,sE,sE] []),.c1 60 18 [58,59],.mv 61 60,.gt 62 (.mv 6) 61,.gt 63 (.len false 62) 61,.gt 64 (.bin .eql 63 (.i 0)) 61,.ex 65 (.pick 61 64 .n),.mv 2 65]) .ret) .skip)) (.s (.r [.f1 67 0 5,.l2 68 3 67,.c1 69 14 [68],.mv 66 69,.e1 70 66 0,.e1 71 66 1,.a1 9 70 3 39,.mv 10 71]) (.s (.s (.r [.m1 11 (.i 0)]) (.blk 0 (.loop (.s (.s (.r [.mv 72 11,.f1 73 6 5,.l1 74 1 73,.n1 75 74,.b1 76 .lss 72 75]) (.cnd 76 .skip (.exit 0))) (.s (.blk 1 (.s (.r [.m1 12 (.i 0)]) (.blk 2 (.loop (.s (.s (.r [.mv 79 12,.f1 80 6 5,.l1 81 1 80,.mv 82 11,.i1 83 1 81 82,.l1 84 1 83,.n1 85 84,.b1 86 .lss 79 85]) (.cnd 86 .skip (.exit 2))) (.s (.blk 3 (.s (.r [.f1 89 6 5,.l1 90 1 89,.mv 91 11,.i1 92 1 90 91,.l1 93 1 92,.mv 94 12,.i1 95 7 93 94,.f1 96 0 95,.l1 97 1 96,.mv 13 97]) (.s (.r [.l2 99 14 5,.mv 100 11,.mv 101 13,.c1 102 12 [99,100,101],.mv 98 102,.e1 103 98 0,.e1 104 98 1,.e1 105 98 2,.ex 14 (.alloc [sE,(B false),sE]),.s1 3 14 103,.mv 15 104,.mv 16 105]) (.s (.r [.mv 107 9,.mv 108 13,.c1 109 15 [107,108],.mv 106 109,.e1 110 106 0,.e1 111 106 1,.ex 17 (.alloc [sE,(B false),sE]),.s1 3 17 110,.mv 18 111]) (.s (.r [.mv 112 16,.mv 113 112,.gt 114 (.ld true 3 17) 113,.gt 115 (.ld true 3 14) 113,.gt 116 (.beq true [.s,.b,.s] 114 115) 113,.gt 117 (.mv 116) 113,.gf 118 (.mv 18) 117,.gf 119 (.mv 15) 117,.gf 120 (.bb true 118 119) 117,.gt 121 (.pick 117 .y 120) 113,.ex 122 (.pick 113 121 .n)]) (.cnd 122 (.s (.r [.m1 2 .n]) .ret) .skip)))))) (.r [.mv 87 12,.b1 88 .add 87 (.i 1),.mv 12 88]))))))) (.r [.mv 77 11,.b1 78 .add 77 (.i 1),.mv 11 78])))))) (.s (.r [.l2 123 14 5,.c1 124 20 [123],.mv 125 124,.gt 126 (.mv 6) 125,.gt 127 (.len false 126) 125,.gt 128 (.mv 4) 125,.gt 129 (.len false 128) 125,.gt 130 (.bin .eql 127 129) 125,.ex 131 (.pick 125 130 .n),.mv 2 131]) .ret))))))))))
theorem Yw:compF Tryz.prog [22] 6=some (Yv.ac,[(.t 2)],132):=by kernel_rfl
set_option maxRecDepth 20000 in
theorem zeA (W0:World) (hs:W0.ShapedOpen Tryz.prog) (c0':Str):Fn Tryz.prog W0 6 [eCode c0'] (.c (CB true)) []:=by
 refine fnX (c:=Yv) mixed Yw (by simp) rfl fun hg=>?_
 have hM:=ziE hs
 refine dr ?_
 refine cP ?_ ?_<;>intro h0
 ·exact dz
 refine dr ?_
 refine oW (zer W0 c0') rfl trivial rfl rfl ⟨(noO,[]),OS.no.oz.mono (by omega),by simp⟩ fun x hx=>⟨rfl,?_⟩
 obtain ⟨o,evs⟩:=x
 have hlen:evs.length≤1000:=hx.2
 clear hx
 have q1:=zfm W0 hM o evs
 have q2:=zgY W0 o evs
 have q3:=jB W0 o
 have sm:=zmv W0
 by_cases hy:oOk o=true∧evs.length≤80
 rotate_left
 ·rw [show wPlay o evs=(noW,[]) from Zj hy] at q1 q2
  have q1:Fn Tryz.prog W0 23 [eOver o,eEvs evs] (.c (.tup [eWld noW,eInts []])) []:=q1
  have q2:Fn Tryz.prog W0 24 [eOver o,eEvs evs] (.c (.tup [eWld noW,eInts []])) []:=q2
  cases h1:oOk o with
  | false =>
   rw [h1] at q3
   refine dEr ?_
   repeat ((first | refine c0 q1 rfl ?_ | refine c0 q2 rfl ?_ | refine c0 q3 rfl ?_ | refine c0 (sm noW) rfl ?_ | refine xiT ?_ | refine xiF ?_ | refine xbT ?_ | refine xbF ?_ | refine xiN ?_ | refine xiM ?_ | refine xbN ?_ | refine xbM ?_ | refine xeT ?_ | refine xeF ?_ | refine c0 (jd W0 _ _ rfl) rfl ?_ | refine c0 (jb W0 _ _ rfl) rfl ?_ | refine c0 (jc W0 _ _ rfl) rfl ?_); first | refine dEr ?_ | exact dz)
   exact congrArg CB (zR.2 rfl)
  | true =>
   have hl:80 < evs.length:=Nat.lt_of_not_le fun hh=>hy ⟨h1,hh⟩
   rw [h1] at q3
   refine dEr ?_
   repeat ((first | refine c0 q1 rfl ?_ | refine c0 q2 rfl ?_ | refine c0 q3 rfl ?_ | refine c0 (sm noW) rfl ?_ | refine xiT ?_ | refine xiF ?_ | refine xbT ?_ | refine xbF ?_ | refine xiN ?_ | refine xiM ?_ | refine xbN ?_ | refine xbM ?_ | refine xeT ?_ | refine xeF ?_ | refine c0 (jd W0 _ _ rfl) rfl ?_ | refine c0 (jb W0 _ _ rfl) rfl ?_ | refine c0 (jc W0 _ _ rfl) rfl ?_); first | refine dEr ?_ | exact dz)
   refine cP ?_ ?_<;>intro h2
   rotate_left
   ·have h2:(evs.length:Int)≤80:=h2
    omega
   refine dEr ?_
   repeat ((first | refine c0 (sm noW) rfl ?_ | refine xiT ?_ | refine xiF ?_ | refine xbT ?_ | refine xbF ?_ | refine xiN ?_ | refine xiM ?_ | refine xbN ?_ | refine xbM ?_ | refine xeT ?_ | refine xeF ?_ | refine c0 (jd W0 _ _ rfl) rfl ?_ | refine c0 (jb W0 _ _ rfl) rfl ?_ | refine c0 (jc W0 _ _ rfl) rfl ?_); first | refine dEr ?_ | exact dz)
   exact congrArg CB (zR.2 rfl)
 obtain ⟨h1,h80⟩:=hy
 have g0:WG (newW o):=WG.new h1
 rw [show wPlay o evs=playA (newW o) evs from Zk h1 h80] at q1 q2
 rw [h1] at q3
 have pl:=yv (w:=newW o) (l:=evs)
 have pg:=WG.play (l:=evs) g0
 have pz:=(HZ.play (w:=newW o) HZ.new:HZ (0+evs.length) (playA (newW o) evs).1)
 generalize playA (newW o) evs=r at *
 obtain ⟨w,cs⟩:=r
 have q1:Fn Tryz.prog W0 23 [eOver o,eEvs evs] (.c (.tup [eWld w,eInts cs])) []:=q1
 have q2:Fn Tryz.prog W0 24 [eOver o,eEvs evs] (.c (.tup [eWld w,eInts cs])) []:=q2
 have pl:cs.length=evs.length:=pl
 have pg:WG w:=pg
 obtain ⟨t,g⟩:=pg.og
 have q4:=jh W0 hM w.over
 rw [if_pos pg.ov,g.vw] at q4
 have q4:Fn Tryz.prog W0 14 [eOver w.over] (.c (.tup [eEnts (vwG w.over),CB true])) []:=q4
 have q5:∀ p,Fn Tryz.prog W0 15 [eEnts (vwG w.over),CS p] (.c (eEntO (get (vwG w.over) p))) []:=fun p=>by
  have:=zfi W0 hM (vwG w.over) p
  rwa [if_pos pg.gx] at this
 have q6:=fun who p=>zfn W0 hM w who p
 have q7:=zfl W0 hM w
 rw [tb_t pg] at q7
 have hl:=pg.pl.hl
 have so:=fun who p r (h:wRead w who p=some r)=>zpb h
 generalize vwG w.over=v at *
 refine dEr ?_
 repeat ((first | refine c0 q1 rfl ?_ | refine c0 q2 rfl ?_ | refine c0 q3 rfl ?_ | refine c0 (sm w) rfl ?_ | refine c0 q4 rfl ?_ | refine xiT ?_ | refine xiF ?_ | refine xbT ?_ | refine xbF ?_ | refine xiN ?_ | refine xiM ?_ | refine xbN ?_ | refine xbM ?_ | refine xeT ?_ | refine xeF ?_ | refine c0 (jd W0 _ _ rfl) rfl ?_ | refine c0 (jb W0 _ _ rfl) rfl ?_ | refine c0 (jc W0 _ _ rfl) rfl ?_); first | refine dEr ?_ | exact dz)
 refine cP ?_ ?_<;>intro h2
 ·have h2:(80:Int) < (evs.length:Int):=h2
  omega
 refine dEr ?_
 repeat (refine c0 q4 rfl ?_; first | refine dEr ?_ | exact dz)
 refine lp (σ:=Nat) (fun i=>[(4,.c (eEvs evs)),(5,.ptr 80 0),(6,.c (eInts cs)),(9,.c (eEnts v)),(11,I i)]) (fun _=>[(80,wBx w)]) (fun i=>i≤3) (fun i=>3 - i) 0 (by omega) ?_ ?_
 ·refine dr ?_
  trivial
 intro i hi
 refine dr ?_
 refine cP ?_ ?_<;>intro a1
 rotate_left
 ·refine dEr ?_
  repeat ((first | refine c0 q7 rfl ?_ | refine xiT ?_ | refine xiF ?_ | refine xbT ?_ | refine xbF ?_ | refine xiN ?_ | refine xiM ?_ | refine xbN ?_ | refine xbM ?_ | refine xeT ?_ | refine xeF ?_ | refine c0 (jd W0 _ _ rfl) rfl ?_ | refine c0 (jb W0 _ _ rfl) rfl ?_ | refine c0 (jc W0 _ _ rfl) rfl ?_); first | refine dEr ?_ | exact dz)
  exact congrArg CB (zR.2 (by show (cs.length:Int)=(evs.length:Int); omega))
 have hi3:i < 3:=by omega
 have hi':i < w.holds.length:=by omega
 have hzi:w.holds[i].length≤0+evs.length:=pz.h _ (List.getElem_mem hi')
 refine dr ?_
 refine lp (σ:=Nat) (fun k=>[(4,.c (eEvs evs)),(5,.ptr 80 0),(6,.c (eInts cs)),(9,.c (eEnts v)),(11,I i),(12,I k)]) (fun _=>[(80,wBx w)]) (fun k=>k≤w.holds[i].length) (fun k=>w.holds[i].length - k) 0 (by omega) ?_ ?_
 ·refine dr ?_
  trivial
 intro k hk
 refine dr ?_
 refine cP ?_ ?_<;>intro a2
 rotate_left
 ·refine dr ?_
  refine ⟨i+1,by omega,by omega,?_⟩
  refine dr ?_
  trivial
 have hk':k < w.holds[i].length:=by omega
 have q5:=q5 w.holds[i][k].path
 have q6:=q6 i w.holds[i][k].path
 have so:=so i w.holds[i][k].path
 generalize hp:w.holds[i][k].path=p at *
 cases hr:wRead w i p with
 | none =>
  rw [hr] at q6
  have q6:Fn Tryz.prog W0 12 [eWld w,CI i,CS p] (.c (.tup [eEnt noE,CB false,CB false])) []:=q6
  rw [zJ] at q5
  generalize (get v p).getD noE=e' at *
  generalize (get v p).isSome=b' at *
  refine dr ?_
  rw [hp]
  refine dEr ?_
  repeat ((first | refine c0 q6 rfl ?_ | refine c0 q5 rfl ?_); first | refine dEr ?_ | exact dz)
  refine ⟨k+1,by omega,by omega,?_⟩
  refine dr ?_
  trivial
 | some r =>
  obtain ⟨e,b⟩:=r
  obtain ⟨_,_,_,g4,g5⟩:=so _ hr
  have e4:eEntO (get v p) = .tup [eEnt e,CB b]:=by
   rw [← show (get v p).getD noE=e from g4,← show (get v p).isSome=b from g5]
   cases get v p<;>rfl
  rw [hr] at q6
  rw [e4] at q5
  have q6:Fn Tryz.prog W0 12 [eWld w,CI i,CS p] (.c (.tup [eEnt e,CB b,CB true])) []:=q6
  refine dr ?_
  rw [hp]
  refine dEr ?_
  repeat ((first | refine c0 q6 rfl ?_ | refine c0 q5 rfl ?_ | refine xiT ?_ | refine xiF ?_ | refine xbT ?_ | refine xbF ?_ | refine xiN ?_ | refine xiM ?_ | refine xbN ?_ | refine xbM ?_ | refine xeT ?_ | refine xeF ?_ | refine c0 (jd W0 _ _ rfl) rfl ?_ | refine c0 (jb W0 _ _ rfl) rfl ?_ | refine c0 (jc W0 _ _ rfl) rfl ?_); first | refine dEr ?_ | exact dz)
  refine ⟨k+1,by omega,by omega,?_⟩
  refine dr ?_
  trivial

theorem kT {a b:Int} {A B:Prop} (h:a=b) (k:A):cndX (eqI a b) A B:=by rw [zR.2 h]; exact k
theorem kF {a b:Int} {A B:Prop} (h:a≠b) (k:B):cndX (eqI a b) A B:=by rw [zQ.2 h]; exact k
theorem kTn {a b:Int} {A B:Prop} (h:a≠b) (k:A):cndX (!eqI a b) A B:=by rw [zQ.2 h]; exact k
theorem kFn {a b:Int} {A B:Prop} (h:a=b) (k:B):cndX (!eqI a b) A B:=by rw [zR.2 h]; exact k
def Yz:XC:=(.s (.r [.m1 2 .n]) (.s (.s (.r [.mv 20 0,.n1 21 20,.b1 22 .gtr 21 (.i 1048576)]) (.cnd 22 (.s (.r [.m1 2 .y]) .ret) .skip)) (.s (.r [.mv 24 0,.o1 25 22 [24],.mv 23 25,.e1 26 23 0,.e1 27 23 1,.ex 3 (.alloc [.nil,.nil,.nil]),.s1 3 3 26,.a1 4 27 8 67]) (.s (.r [.l2 29 3 3,.mv 30 4,.c1 31 23 [29,30],.mv 28 31,.e1 32 28 0,.e1 33 28 1,.ex 5 (.alloc [.nil,.nil,.nil,(I 0),(I 0),.nil,.nil,.nil,.nil,(B false),(I 0),sE,sE,sE]),.s1 14 5 32,.a1 6 33 1 3]) (.s (.r [.l2 35 3 3,.mv 36 4,.c1 37 24 [35,36],.mv 34 37,.e1 38 34 0,.e1 39 34 1,.ex 7 (.alloc [.nil,.nil,.nil,(I 0),(I 0),.nil,.nil,.nil,.nil,(B false),(I 0),sE,sE,sE]),.s1 14 7 38,.a1 8 39 1 3]) (.s (.s (.r [.l2 40 14 5,.l2 41 14 7,.c1 42 18 [40,41],.ex 43 (.un .not 42),.mv 44 43,.gf 45 (.mv 6) 44,.gf 46 (.len false 45) 44,.gf 47 (.mv 8) 44,.gf 48 (.len false 47) 44,.gf 49 (.bin .neq 46 48) 44,.ex 50 (.pick 44 .y 49),.mv 51 50,.gf 52 (.ld true 3 3) 51,.gf 53 (.call 25 [52]) 51,.gf 54 (.un .not 53) 51,.ex 55 (.pick 51 .y 54),.mv 56 55,.gf 57 (.mv 4) 56,.gf 58 (.len false 57) 56,.gf 59 (.bin .gtr 58 (.i 80)) 56,.ex 60 (.pick 56 .y 59)]) (.cnd 60 (.s (.r [.l2 61 14 5,.l2 62 14 7,.c1 63 18 [61,62],.mv 64 63,.gt 65 (.mv 6) 64,.gt 66 (.len false 65) 64,.gt 67 (.mv 8) 64,.gt 68 (.len false 67) 64,.gt 69 (.bin .eql 66 68) 64,.ex 70 (.pick 64 69 .n),.mv 2 70]) .ret) .skip)) (.s (.r [.l2 72 3 3,.c1 73 14 [72],.mv 71 73,.e1 74 71 0,.e1 75 71 1,.a1 9 74 3 39,.mv 10 75]) (.s (.r [.ex 76 (.build [(I 0),sE,sE,sE] []),.ex 11 (.alloc [(I 0),sE,sE,sE]),.s1 4 11 76]) (.s (.s (.r [.m1 12 (.i 0)]) (.blk 0 (.loop (.s (.s (.r [.mv 77 12,.mv 78 4,.n1 79 78,.b1 80 .lss 77 79]) (.cnd 80 .skip (.exit 0))) (.s (.blk 1 (.s (.r [.mv 83 6,.mv 84 12,.i1 85 1 83 84,.l1 86 1 85,.mv 13 86]) (.s (.s (.r [.mv 87 13,.mv 88 8,.mv 89 12,.i1 90 1 88 89,.l1 91 1 90,.b1 92 .neq 87 91]) (.cnd 92 (.s (.r [.m1 2 .n]) .ret) .skip)) (.s (.r [.mv 93 4,.mv 94 12,.i1 95 8 93 94,.f1 96 3 95,.l2 97 4 96,.ex 14 (.alloc [(I 0),sE,sE,sE]),.s1 4 14 97]) (.s (.s (.r [.mv 98 4,.mv 99 12,.i1 100 8 98 99,.f1 101 0 100,.l1 102 1 101,.b1 103 .eql 102 (.i 3)]) (.cnd 103 (.r [.l2 104 4 11,.s1 4 14 104]) .skip)) (.s (.s (.r [.mv 105 4,.mv 106 12,.i1 107 8 105 106,.f1 108 0 107,.l1 109 1 108,.b1 110 .eql 109 (.i 2),.mv 111 110,.gf 112 (.mv 4) 111,.gf 113 (.mv 12) 111,.gf 114 (.ia 8 112 113) 111,.gf 115 (.fa 0 114) 111,.gf 116 (.ld false 1 115) 111,.gf 117 (.bin .eql 116 (.i 3)) 111,.ex 118 (.pick 111 .y 117),.mv 119 118,.gt 120 (.mv 13) 119,.gt 121 (.bin .eql 120 (.i 0)) 119,.ex 122 (.pick 119 121 .n)]) (.cnd 122 (.s (.r [.m1 15 (.i 0)]) (.s (.r [.mv 124 9,.l2 125 4 14,.c1 126 31 [124,125],.mv 123 126,.e1 127 123 0,.e1 128 123 1,.a1 9 127 3 39,.mv 15 128]) (.s (.r [.mv 129 15,.b1 130 .neq 129 (.i 0)]) (.cnd 130 (.s (.r [.m1 2 .n]) .ret) .skip)))) .skip)) (.s (.s (.r [.mv 131 4,.mv 132 12,.i1 133 8 131 132,.f1 134 0 133,.l1 135 1 134,.b1 136 .eql 135 (.i 2),.mv 137 136,.gt 138 (.mv 13) 137,.gt 139 (.bin .eql 138 (.i 20)) 137,.ex 140 (.pick 137 139 .n)]) (.cnd 140 (.r [.l2 141 4 14,.s1 4 11 141]) .skip)) (.s (.r [.mv 142 4,.mv 143 12,.i1 144 8 142 143,.f1 145 0 144,.l1 146 1 145,.b1 147 .eql 146 (.i 2),.mv 148 147,.gt 149 (.mv 13) 148,.gt 150 (.bin .neq 149 (.i 20)) 148,.ex 151 (.pick 148 150 .n),.mv 152 151,.gt 153 (.mv 13) 152,.gt 154 (.bin .neq 153 (.i 21)) 152,.ex 155 (.pick 152 154 .n),.mv 156 155,.gt 157 (.mv 13) 156,.gt 158 (.bin .neq 157 (.i 0)) 156,.ex 159 (.pick 156 158 .n)]) (.cnd 159 (.s (.r [.mv 161 9,.l2 162 4 14,.c1 163 31 [161,162],.mv 160 163,.e1 164 160 0,.e1 165 160 1,.a1 16 164 3 39,.mv 17 165]) (.s (.r [.mv 166 17,.mv 167 13,.b1 168 .neq 166 167]) (.cnd 168 (.s (.r [.m1 2 .n]) .ret) .skip))) .skip))))))))) (.r [.mv 81 12,.b1 82 .add 81 (.i 1),.mv 12 82])))))) (.s (.r [.f1 170 0 5,.l2 171 3 170,.c1 172 14 [171],.mv 169 172,.e1 173 169 0,.e1 174 169 1,.a1 18 173 3 39,.mv 19 174]) (.s (.r [.mv 175 9,.mv 176 18,.c1 177 32 [175,176],.mv 2 177]) .ret)))))))))))
theorem YA:compF Tryz.prog [22] 10=some (Yz.ac,[(.t 2)],178):=by kernel_rfl
theorem zeC (W0:World) (hs:W0.ShapedOpen Tryz.prog) (c0':Str):Fn Tryz.prog W0 10 [eCode c0'] (.c (CB true)) []:=by
 refine fnX (c:=Yz) mixed YA (by simp) rfl fun hg=>?_
 have hM:=ziE hs
 refine dr ?_
 refine cP ?_ ?_<;>intro h0
 ·exact dz
 refine dr ?_
 refine oW (zer W0 c0') rfl trivial rfl rfl ⟨(noO,[]),OS.no.oz.mono (by omega),by simp⟩ fun x hx=>⟨rfl,?_⟩
 obtain ⟨o,evs⟩:=x
 have hlen:evs.length≤1000:=hx.2
 clear hx
 have q1:=zfm W0 hM o evs
 have q2:=zgY W0 o evs
 have q3:=jB W0 o
 have sm:=zmv W0
 by_cases hy:oOk o=true∧evs.length≤80
 rotate_left
 ·rw [show wPlay o evs=(noW,[]) from Zj hy] at q1 q2
  have q1:Fn Tryz.prog W0 23 [eOver o,eEvs evs] (.c (.tup [eWld noW,eInts []])) []:=q1
  have q2:Fn Tryz.prog W0 24 [eOver o,eEvs evs] (.c (.tup [eWld noW,eInts []])) []:=q2
  cases h1:oOk o with
  | false =>
   rw [h1] at q3
   refine dEr ?_
   repeat ((first | refine c0 q1 rfl ?_ | refine c0 q2 rfl ?_ | refine c0 q3 rfl ?_ | refine c0 (sm noW) rfl ?_ | refine xiT ?_ | refine xiF ?_ | refine xbT ?_ | refine xbF ?_ | refine xiN ?_ | refine xiM ?_ | refine xbN ?_ | refine xbM ?_ | refine xeT ?_ | refine xeF ?_ | refine c0 (jd W0 _ _ rfl) rfl ?_ | refine c0 (jb W0 _ _ rfl) rfl ?_ | refine c0 (jc W0 _ _ rfl) rfl ?_); first | refine dEr ?_ | exact dz)
   exact congrArg CB (zR.2 rfl)
  | true =>
   have hl:80 < evs.length:=Nat.lt_of_not_le fun hh=>hy ⟨h1,hh⟩
   rw [h1] at q3
   refine dEr ?_
   repeat ((first | refine c0 q1 rfl ?_ | refine c0 q2 rfl ?_ | refine c0 q3 rfl ?_ | refine c0 (sm noW) rfl ?_ | refine xiT ?_ | refine xiF ?_ | refine xbT ?_ | refine xbF ?_ | refine xiN ?_ | refine xiM ?_ | refine xbN ?_ | refine xbM ?_ | refine xeT ?_ | refine xeF ?_ | refine c0 (jd W0 _ _ rfl) rfl ?_ | refine c0 (jb W0 _ _ rfl) rfl ?_ | refine c0 (jc W0 _ _ rfl) rfl ?_); first | refine dEr ?_ | exact dz)
   refine cP ?_ ?_<;>intro h2
   rotate_left
   ·have h2:(evs.length:Int)≤80:=h2
    omega
   refine dEr ?_
   repeat ((first | refine c0 (sm noW) rfl ?_ | refine xiT ?_ | refine xiF ?_ | refine xbT ?_ | refine xbF ?_ | refine xiN ?_ | refine xiM ?_ | refine xbN ?_ | refine xbM ?_ | refine xeT ?_ | refine xeF ?_ | refine c0 (jd W0 _ _ rfl) rfl ?_ | refine c0 (jb W0 _ _ rfl) rfl ?_ | refine c0 (jc W0 _ _ rfl) rfl ?_); first | refine dEr ?_ | exact dz)
   exact congrArg CB (zR.2 rfl)
 obtain ⟨h1,h80⟩:=hy
 have g0:WG (newW o):=WG.new h1
 rw [show wPlay o evs=playA (newW o) evs from Zk h1 h80] at q1 q2
 rw [h1] at q3
 have pl:=yv (w:=newW o) (l:=evs)
 have pg:=WG.play (l:=evs) g0
 have pk:=fun k (h:k < evs.length)=>zlB (w:=newW o) h
 have pn:=fun k (h:k < evs.length)=>yw (w:=newW o) h
 have pe:playA (newW o) (evs.take evs.length)=playA (newW o) evs:=by rw [List.take_length]
 generalize playA (newW o) evs=r at *
 obtain ⟨w,cs⟩:=r
 have q1:Fn Tryz.prog W0 23 [eOver o,eEvs evs] (.c (.tup [eWld w,eInts cs])) []:=q1
 have q2:Fn Tryz.prog W0 24 [eOver o,eEvs evs] (.c (.tup [eWld w,eInts cs])) []:=q2
 have pl:cs.length=evs.length:=pl
 have pg:WG w:=pg
 have view:∀ x,WG x→Fn Tryz.prog W0 14 [eOver x.over] (.c (.tup [eEnts (vwG x.over),CB true])) []:=fun x hx=>by
  obtain ⟨t,g⟩:=hx.og
  have:=jh W0 hM x.over
  rw [if_pos hx.ov,g.vw] at this
  exact this
 have q0:=view (newW o) g0
 have q0:Fn Tryz.prog W0 14 [eOver o] (.c (.tup [eEnts (vwG o),CB true])) []:=q0
 have q9:=view w pg
 refine dEr ?_
 repeat ((first | refine c0 q1 rfl ?_ | refine c0 q2 rfl ?_ | refine c0 q3 rfl ?_ | refine c0 (sm w) rfl ?_ | refine xiT ?_ | refine xiF ?_ | refine xbT ?_ | refine xbF ?_ | refine xiN ?_ | refine xiM ?_ | refine xbN ?_ | refine xbM ?_ | refine xeT ?_ | refine xeF ?_ | refine c0 (jd W0 _ _ rfl) rfl ?_ | refine c0 (jb W0 _ _ rfl) rfl ?_ | refine c0 (jc W0 _ _ rfl) rfl ?_); first | refine dEr ?_ | exact dz)
 refine cP ?_ ?_<;>intro h2
 ·have h2:(80:Int) < (evs.length:Int):=h2
  omega
 refine dEr ?_
 repeat (refine c0 q0 rfl ?_; first | refine dEr ?_ | exact dz)
 refine lp3 (fun (k:Nat) (x:Wld) (wop:Op)=>[(4,.c (eEvs evs)),(5,.ptr 80 0),(6,.c (eInts cs)),(8,.c (eInts cs)),(9,.c (eEnts (vwG x.over))),(11,.ptr 176 0),(12,I k)]) (fun _ _ wop=>[(80,wBx w),(176,.box [I wop.kind,.c (CS wop.path),.c (CS wop.dest),.c (CS wop.data)])])
  (fun k x wop=>k≤evs.length∧(playA (newW o) (evs.take k)).1=x∧WG x∧(x.waits=true→wop=x.op)) (fun k _ _=>evs.length - k) 0 (newW o) noOp ⟨by omega,by rw [List.take_zero,zlz],g0,fun h=>by cases h⟩ ?_ ?_
 ·refine dr ?_
  trivial
 rintro k x wop ⟨hk,hp,hx,hw⟩
 refine dr ?_
 refine cP ?_ ?_<;>intro a1
 rotate_left
 ·have hkl:k=evs.length:=by omega
  rw [hkl,pe] at hp
  have hp:w=x:=hp
  subst hp
  refine dEr ?_
  repeat ((first | refine c0 q9 rfl ?_ | refine xiT ?_ | refine xiF ?_ | refine xbT ?_ | refine xbF ?_ | refine xiN ?_ | refine xiM ?_ | refine xbN ?_ | refine xbM ?_ | refine xeT ?_ | refine xeF ?_ | refine c0 (jd W0 _ _ rfl) rfl ?_ | refine c0 (jb W0 _ _ rfl) rfl ?_ | refine c0 (jc W0 _ _ rfl) rfl ?_); first | refine dEr ?_ | exact dz)
 have hk':k < evs.length:=by omega
 have hkc:k < cs.length:=by omega
 have pk:=pk k hk'
 have pn:=congrArg Prod.fst (pn k hk')
 rw [hp] at pk
 simp only [hp] at pn
 have pk:cs[k]=(evW x evs[k]).2:=by
  have:cs[k]? = some (evW x evs[k]).2:=pk
  rw [List.getElem?_eq_getElem hkc] at this
  exact Option.some.inj this
 have hx':=hx.ev evs[k]
 obtain ⟨v1,v2,v3,v4⟩:=zo2 hx hw evs[k]
 generalize evW x evs[k]=r at *
 obtain ⟨x',c⟩:=r
 simp only at pk pn v1 v2 v3 v4 hx'
 subst pk
 by_cases b3:evs[k].kind=3
 ·by_cases z0:cs[k]=0
  ·have td:=v1 (.inr b3) z0
   rw [if_pos b3] at td
   have qtd:=jl W0 hM (vwG x.over) wop
   rw [td] at qtd
   have qtd:Fn Tryz.prog W0 31 [eEnts (vwG x.over),eOp wop] (.c (.tup [eEnts (vwG x'.over),CI 0])) []:=qtd
   refine dEr ?_
   repeat ((first | refine aM (j:=k) rfl hkc ?_ | refine kT (by omega) ?_ | refine kF (by omega) ?_ | refine kTn (by omega) ?_ | refine kFn (by omega) ?_ | refine c0 qtd rfl ?_ | refine xiT ?_ | refine xiF ?_ | refine xbT ?_ | refine xbF ?_ | refine xiN ?_ | refine xiM ?_ | refine xbN ?_ | refine xbM ?_ | refine xeT ?_ | refine xeF ?_ | refine c0 (jd W0 _ _ rfl) rfl ?_ | refine c0 (jb W0 _ _ rfl) rfl ?_ | refine c0 (jc W0 _ _ rfl) rfl ?_); first | refine dEr ?_ | exact dz)
   refine ⟨k+1,x',wop,⟨by omega,pn,hx',fun h=>?_⟩,by omega,?_⟩
   ·have:=v3 h
    unfold waitsN at this
    rw [if_neg (by omega)] at this
    exact this
   refine dr ?_
   trivial
  ·refine dEr ?_
   repeat ((first | refine aM (j:=k) rfl hkc ?_ | refine kT (by omega) ?_ | refine kF (by omega) ?_ | refine kTn (by omega) ?_ | refine kFn (by omega) ?_ | refine xiT ?_ | refine xiF ?_ | refine xbT ?_ | refine xbF ?_ | refine xiN ?_ | refine xiM ?_ | refine xbN ?_ | refine xbM ?_ | refine xeT ?_ | refine xeF ?_ | refine c0 (jd W0 _ _ rfl) rfl ?_ | refine c0 (jb W0 _ _ rfl) rfl ?_ | refine c0 (jc W0 _ _ rfl) rfl ?_); first | refine dEr ?_ | exact dz)
   refine ⟨k+1,x',wop,⟨by omega,pn,hx',fun h=>?_⟩,by omega,?_⟩
   ·have:=v3 h
    unfold waitsN at this
    rw [if_neg (by omega)] at this
    exact this
   rw [show vwG x'.over=vwG x.over from v2 (by omega)]
   refine dr ?_
   trivial
 by_cases b2:evs[k].kind=2
 rotate_left
 ·refine dEr ?_
  repeat ((first | refine aM (j:=k) rfl hkc ?_ | refine kT (by omega) ?_ | refine kF (by omega) ?_ | refine kTn (by omega) ?_ | refine kFn (by omega) ?_ | refine xiT ?_ | refine xiF ?_ | refine xbT ?_ | refine xbF ?_ | refine xiN ?_ | refine xiM ?_ | refine xbN ?_ | refine xbM ?_ | refine xeT ?_ | refine xeF ?_ | refine c0 (jd W0 _ _ rfl) rfl ?_ | refine c0 (jb W0 _ _ rfl) rfl ?_ | refine c0 (jc W0 _ _ rfl) rfl ?_); first | refine dEr ?_ | exact dz)
  refine ⟨k+1,x',wop,⟨by omega,pn,hx',fun h=>?_⟩,by omega,?_⟩
  ·have:=v3 h
   unfold waitsN at this
   rw [if_neg (by omega)] at this
   exact this
  rw [show vwG x'.over=vwG x.over from v2 (by omega)]
  refine dr ?_
  trivial
 by_cases z0:cs[k]=0
 ·have td:=v1 (.inl b2) z0
  rw [if_neg b3] at td
  have qtd:=jl W0 hM (vwG x.over) evs[k].op
  rw [td] at qtd
  have qtd:Fn Tryz.prog W0 31 [eEnts (vwG x.over),eOp evs[k].op] (.c (.tup [eEnts (vwG x'.over),CI 0])) []:=qtd
  refine dEr ?_
  repeat ((first | refine aM (j:=k) rfl hkc ?_ | refine kT (by omega) ?_ | refine kF (by omega) ?_ | refine kTn (by omega) ?_ | refine kFn (by omega) ?_ | refine c0 qtd rfl ?_ | refine xiT ?_ | refine xiF ?_ | refine xbT ?_ | refine xbF ?_ | refine xiN ?_ | refine xiM ?_ | refine xbN ?_ | refine xbM ?_ | refine xeT ?_ | refine xeF ?_ | refine c0 (jd W0 _ _ rfl) rfl ?_ | refine c0 (jb W0 _ _ rfl) rfl ?_ | refine c0 (jc W0 _ _ rfl) rfl ?_); first | refine dEr ?_ | exact dz)
  refine ⟨k+1,x',wop,⟨by omega,pn,hx',fun h=>?_⟩,by omega,?_⟩
  ·have:=v3 h
   unfold waitsN at this
   rw [if_neg (by omega)] at this
   exact this
  refine dr ?_
  trivial
 by_cases c20:cs[k]=20
 ·refine dEr ?_
  repeat ((first | refine aM (j:=k) rfl hkc ?_ | refine kT (by omega) ?_ | refine kF (by omega) ?_ | refine kTn (by omega) ?_ | refine kFn (by omega) ?_ | refine xiT ?_ | refine xiF ?_ | refine xbT ?_ | refine xbF ?_ | refine xiN ?_ | refine xiM ?_ | refine xbN ?_ | refine xbM ?_ | refine xeT ?_ | refine xeF ?_ | refine c0 (jd W0 _ _ rfl) rfl ?_ | refine c0 (jb W0 _ _ rfl) rfl ?_ | refine c0 (jc W0 _ _ rfl) rfl ?_); first | refine dEr ?_ | exact dz)
  refine ⟨k+1,x',evs[k].op,⟨by omega,pn,hx',fun h=>?_⟩,by omega,?_⟩
  ·have:=v3 h
   unfold waitsN at this
   rw [if_pos ⟨b2,c20⟩] at this
   exact this
  rw [show vwG x'.over=vwG x.over from v2 (by omega)]
  refine dr ?_
  trivial
 by_cases c21:cs[k]=21
 ·refine dEr ?_
  repeat ((first | refine aM (j:=k) rfl hkc ?_ | refine kT (by omega) ?_ | refine kF (by omega) ?_ | refine kTn (by omega) ?_ | refine kFn (by omega) ?_ | refine xiT ?_ | refine xiF ?_ | refine xbT ?_ | refine xbF ?_ | refine xiN ?_ | refine xiM ?_ | refine xbN ?_ | refine xbM ?_ | refine xeT ?_ | refine xeF ?_ | refine c0 (jd W0 _ _ rfl) rfl ?_ | refine c0 (jb W0 _ _ rfl) rfl ?_ | refine c0 (jc W0 _ _ rfl) rfl ?_); first | refine dEr ?_ | exact dz)
  refine ⟨k+1,x',wop,⟨by omega,pn,hx',fun h=>?_⟩,by omega,?_⟩
  ·have:=v3 h
   unfold waitsN at this
   rw [if_neg (by omega)] at this
   exact this
  rw [show vwG x'.over=vwG x.over from v2 (by omega)]
  refine dr ?_
  trivial
 ·have td:=v4 b2 c20 c21 z0
  have qtd:=jl W0 hM (vwG x.over) evs[k].op
  generalize treeDo (vwG x.over) evs[k].op=r at *
  obtain ⟨r1,r2⟩:=r
  have td:r2=cs[k]:=td
  have qtd:Fn Tryz.prog W0 31 [eEnts (vwG x.over),eOp evs[k].op] (.c (.tup [eEnts r1,CI r2])) []:=qtd
  refine dEr ?_
  repeat ((first | refine aM (j:=k) rfl hkc ?_ | refine kT (by omega) ?_ | refine kF (by omega) ?_ | refine kTn (by omega) ?_ | refine kFn (by omega) ?_ | refine c0 qtd rfl ?_ | refine xiT ?_ | refine xiF ?_ | refine xbT ?_ | refine xbF ?_ | refine xiN ?_ | refine xiM ?_ | refine xbN ?_ | refine xbM ?_ | refine xeT ?_ | refine xeF ?_ | refine c0 (jd W0 _ _ rfl) rfl ?_ | refine c0 (jb W0 _ _ rfl) rfl ?_ | refine c0 (jc W0 _ _ rfl) rfl ?_); first | refine dEr ?_ | exact dz)
  refine ⟨k+1,x',wop,⟨by omega,pn,hx',fun h=>?_⟩,by omega,?_⟩
  ·have:=v3 h
   unfold waitsN at this
   rw [if_neg (by omega)] at this
   exact this
  rw [show vwG x'.over=vwG x.over from v2 (by omega)]
  refine dr ?_
  trivial
end Go.Proofs.YteheahbjaddooaaGreatDoor
