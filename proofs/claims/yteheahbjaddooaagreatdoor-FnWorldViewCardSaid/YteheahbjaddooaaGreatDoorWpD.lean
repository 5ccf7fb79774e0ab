/- The texts Pb4, Bm2, Pb5, Pb6, Pb7, Db1, Pc1, Pd1, Qb2, Db2, Db3, Dc1, Pd2, Pd3, Qb3, Qb4, Pd4, Pd5, Pd6, Pd7, Shelf, Sh1, Ib1, Sh2, joined; no condition. -/
import Derived.Test.YteheahbjaddooaaGreatDoorWpC
import Derived.Shelf.Strings.Builder1
import Derived.Shelf.Strings.Builder2
import Derived.Shelf.Strings.OnBuilder
import Derived.Shelf.Small.Bits
import Derived.Shelf.Strconv.Itoa0
import Derived.Shelf.Strings.Search1
import Derived.Shelf.Strings.Search2
import Derived.Shelf.Strings.Search3
import Derived.Shelf.Strings.Count
import Derived.Shelf.LaysM
import Derived.Shelf.Strings.Shaped
import Derived.Shelf.Strings.Split
import Derived.Shelf.Unicode.DecodeSlow
import Derived.Ground.SlgnProg
import Derived.Shelf.SlicesE.Equal
import Derived.Shelf.SlLaysE0
import Derived.Shelf.SlLaysH0
import Derived.Ground.SlgfProg
import Derived.Shelf.SlGeneric
import Derived.Shelf.SlSortCmp.NoneTotal
import Derived.Ground.SlsfProg
import Derived.Test.YteheahbjaddooaaGreatDoorProg
import Derived.Shelf.SlSortCmp.WholeK
import Derived.Laws.Cover1

namespace Go.Proofs.YteheahbjaddooaaGreatDoor
set_option linter.unusedSimpArgs false
set_option linter.unusedVariables false
open Go Go.RowKit
def zbn:XC:=(.s (.r [.m1 4 (.i 0)]) (.s (.s (.r [.m1 5 (.i 0)]) (.blk 0 (.loop (.s (.s (.r [.mv 6 5,.mv 7 0,.n1 8 7,.b1 9 .lss 6 8]) (.cnd 9 .skip (.exit 0))) (.s (.blk 1 (.s (.r [.mv 12 0,.mv 13 5,.i1 14 3 12 13,.f1 15 0 14,.l1 16 1 15,.mv 17 1,.b1 18 .eql 16 17]) (.cnd 18 (.s (.r [.mv 19 5,.mv 4 19]) .ret) .skip))) (.r [.mv 10 5,.b1 11 .add 10 (.i 1),.mv 5 11])))))) (.s (.r [.ex 4 (.mv (.k (.c (.sc (.int .i64 (.negSucc 0))))))]) .ret)))
theorem zbo:compF Tryz.prog [] 214=some (zbn.ac,[(.t 4)],20):=by kernel_rfl
theorem zfU (W0:World) (t:List Mark) (p:Str):Fn Tryz.prog W0 214 [eMarks t,CS p] (.c (CI (midx t p))) []:=by
 refine fnX (c:=zbn) mixed zbo (by simp) rfl fun hg=>?_
 have g1:=goodRow (hg _ (by simp:eMarks t∈_))
 refine dr ?_
 refine lp (σ:=Nat) (fun k=>[(0,.c (eMarks t)),(1,.c (CS p)),(5,I k)]) (fun _=>[]) (fun k=>k≤t.length∧∀ i (h':i < t.length),i < k→t[i].path≠p) (fun k=>t.length - k) 0 ⟨by simp,by simp⟩ ?_ ?_
 ·refine dr ?_
  trivial
 rintro k ⟨hk,ha⟩
 refine dr ?_
 refine cP ?_ ?_<;>intro h1
 ·refine dr ?_
  refine cP ?_ ?_<;>intro h2
  ·refine dr ?_
   rw [zko (by omega) h2 ha]
  ·refine dr ?_
   refine ⟨k+1,⟨by omega,fun i h' hi=>?_⟩,by omega,?_⟩
   ·by_cases e:i=k
    ·subst e; exact h2
    ·exact ha i h' (by omega)
   ·refine dr ?_
    trivial
 ·refine dr ?_
  rw [zkp fun i h'=>ha i h' (by omega)]; rfl
def zbv:XC:=(.s (.r [.m1 4 (.i 0)]) (.s (.r [.mv 6 0,.mv 7 1,.c1 8 214 [6,7],.mv 5 8]) (.s (.s (.r [.mv 9 5,.b1 10 .lss 9 (.i 0)]) (.cnd 10 (.s (.r [.m1 4 (.i 0)]) .ret) .skip)) (.s (.r [.mv 11 0,.mv 12 5,.i1 13 3 11 12,.f1 14 1 13,.l1 15 1 14,.mv 4 15]) .ret))))
theorem zbw:compF Tryz.prog [] 181=some (zbv.ac,[(.t 4)],16):=by kernel_rfl
theorem zfY (W0:World) (t:List Mark) (p:Str):Fn Tryz.prog W0 181 [eMarks t,CS p] (.c (CI (kind t p))) []:=by
 refine fnX (c:=zbv) mixed zbw (by simp) rfl fun hg=>?_
 refine dr ?_
 repeat (refine c0 (zfU W0 t p) rfl ?_; first | refine dr ?_ | exact dz)
 intro hg1
 rcases zkn t p with ⟨e1,e2,_⟩ | ⟨j,hj,e1,e2,_⟩
 ·rw [kind,e1,e2]
  refine dr ?_
  refine cP ?_ ?_<;>intro h2
  ·exact dz
  ·omega
 ·rw [kind,e1,e2]
  refine dr ?_
  refine cP ?_ ?_<;>intro h2
  ·omega
  ·exact dz
def zbf:XC:=(.s (.r [.m1 4 .n]) (.s (.s (.r [.m1 5 (.i 0)]) (.blk 0 (.loop (.s (.s (.r [.mv 6 5,.mv 7 0,.n1 8 7,.b1 9 .lss 6 8]) (.cnd 9 .skip (.exit 0))) (.s (.blk 1 (.s (.r [.mv 12 0,.mv 13 5,.i1 14 3 12 13,.f1 15 1 14,.l1 16 1 15,.b1 17 .eql 16 (.i 4),.mv 18 17,.gt 19 (.mv 1) 18,.gt 20 (.mv 0) 18,.gt 21 (.mv 5) 18,.gt 22 (.ia 3 20 21) 18,.gt 23 (.fa 0 22) 18,.gt 24 (.ld false 1 23) 18,.gt 25 (.call 235 [19,24]) 18,.ex 26 (.pick 18 25 .n)]) (.cnd 26 (.s (.r [.m1 4 .y]) .ret) .skip))) (.r [.mv 10 5,.b1 11 .add 10 (.i 1),.mv 5 11])))))) (.s (.r [.m1 4 .n]) .ret)))
theorem zbg:compF Tryz.prog [] 206=some (zbf.ac,[(.t 4)],27):=by kernel_rfl
theorem jr (W0:World) (t:List Mark) (p:Str):Fn Tryz.prog W0 206 [eMarks t,CS p] (.c (CB (bare t p))) []:=by
 refine fnX (c:=zbf) mixed zbg (by simp) rfl fun hg=>?_
 have g1:=goodRow (hg _ (by simp:eMarks t∈_))
 refine dr ?_
 refine lp (σ:=Nat) (fun k=>[(0,.c (eMarks t)),(1,.c (CS p)),(5,I k)]) (fun _=>[]) (fun k=>k≤t.length∧bare (t.take k) p=false) (fun k=>t.length - k) 0 ⟨by simp,by simp [bare]⟩ ?_ ?_
 ·refine dr ?_
  trivial
 rintro k ⟨hk,ha⟩
 refine dr ?_
 refine cP ?_ ?_<;>intro h1
 ·have hk':k < t.length:=by omega
  have no:(t[k].kind==4&&und p t[k].path)=false→bare (t.take (k+1)) p=false:=fun h=>by
   rw [bare] at ha ⊢
   rw [List.take_succ_eq_append_getElem hk',List.any_append,ha]; simpa using h
  have yes:(t[k].kind==4&&und p t[k].path)=true→CB true=CB (bare t p):=fun h=>bT (by
   rw [bare,List.any_eq_true]; exact ⟨t[k],List.getElem_mem hk',h⟩)
  refine dr ?_
  refine cP ?_ ?_<;>intro h2
  ·refine dEr ?_
   repeat (refine c0 (zfA W0 _ _) rfl ?_; first | refine dEr ?_ | exact dz)
   refine cP ?_ ?_<;>intro h3
   ·refine dr ?_
    exact yes (by simp [h2,h3])
   ·refine dr ?_
    refine ⟨k+1,⟨by omega,no (by simp [h3])⟩,by omega,?_⟩
    refine dr ?_
    trivial
  ·refine dr ?_
   refine ⟨k+1,⟨by omega,no (by simp [h2])⟩,by omega,?_⟩
   refine dr ?_
   trivial
 ·refine dr ?_
  have:k=t.length:=by omega
  subst this
  rw [List.take_length] at ha
  rw [ha]
def zbr:XC:=(.s (.r [.m1 4 .n]) (.s (.r [.mv 7 1,.c1 8 123 [7],.mv 5 8]) (.s (.r [.mv 9 0,.mv 10 5,.c1 11 181 [9,10],.mv 6 11]) (.s (.r [.mv 12 5,.ex 13 (.bin .eql 12 (.s [47])),.mv 14 13,.gf 15 (.mv 6) 14,.gf 16 (.bin .eql 15 (.i 2)) 14,.ex 17 (.pick 14 .y 16),.mv 18 17,.gf 19 (.mv 6) 18,.gf 20 (.bin .eql 19 (.i 4)) 18,.ex 21 (.pick 18 .y 20),.mv 4 21]) .ret))))
theorem zbs:compF Tryz.prog [] 205=some (zbr.ac,[(.t 4)],22):=by kernel_rfl
theorem zfW (W0:World) (t:List Mark) (p:Str):Fn Tryz.prog W0 205 [eMarks t,CS p] (.c (CB (inD t p))) []:=by
 refine fnX (c:=zbr) mixed zbs (by simp) rfl fun hg=>?_
 refine dr ?_
 repeat (refine c0 (jD W0 _) rfl ?_; first | refine dr ?_ | exact dz)
 intro hg1
 refine dr ?_
 repeat (refine c0 (zfY W0 _ _) rfl ?_; first | refine dr ?_ | exact dz)
 intro hg1
 refine dr ?_
 refine cP ?_ ?_<;>intro h1
 ·refine dr ?_
  exact bT (by simp [inD,h1])
 ·refine dr ?_
  refine cP ?_ ?_<;>intro h2
  ·refine dr ?_
   exact bT (by simp [inD,h2])
  ·refine dr ?_
   refine congrArg CB ?_
   rw [Bool.eq_iff_iff]; simp [inD,h1,h2,zP]
def zbp:XC:=(.s (.r [.m1 4 .n]) (.s (.s (.r [.m1 5 (.i 0)]) (.blk 0 (.loop (.s (.s (.r [.mv 6 5,.mv 7 0,.n1 8 7,.b1 9 .lss 6 8]) (.cnd 9 .skip (.exit 0))) (.s (.blk 1 (.s (.r [.mv 12 0,.mv 13 5,.i1 14 3 12 13,.f1 15 0 14,.l1 16 1 15,.mv 17 1,.b1 18 .eql 16 17,.mv 19 18,.gt 20 (.mv 0) 19,.gt 21 (.mv 5) 19,.gt 22 (.ia 3 20 21) 19,.gt 23 (.fa 1 22) 19,.gt 24 (.ld false 1 23) 19,.gt 25 (.bin .neq 24 (.i 2)) 19,.ex 26 (.pick 19 25 .n),.mv 27 26,.gf 28 (.mv 0) 27,.gf 29 (.mv 5) 27,.gf 30 (.ia 3 28 29) 27,.gf 31 (.fa 1 30) 27,.gf 32 (.ld false 1 31) 27,.gf 33 (.bin .neq 32 (.i 2)) 27,.gf 34 (.mv 33) 27,.gt 35 (.mv 1) 34,.gt 36 (.mv 0) 34,.gt 37 (.mv 5) 34,.gt 38 (.ia 3 36 37) 34,.gt 39 (.fa 0 38) 34,.gt 40 (.ld false 1 39) 34,.gt 41 (.call 235 [35,40]) 34,.gf 42 (.pick 34 41 .n) 27,.ex 43 (.pick 27 .y 42)]) (.cnd 43 (.s (.r [.m1 4 .y]) .ret) .skip))) (.r [.mv 10 5,.b1 11 .add 10 (.i 1),.mv 5 11])))))) (.s (.r [.m1 4 .n]) .ret)))
theorem zbq:compF Tryz.prog [] 207=some (zbp.ac,[(.t 4)],44):=by kernel_rfl
theorem zfV (W0:World) (t:List Mark) (p:Str):Fn Tryz.prog W0 207 [eMarks t,CS p] (.c (CB (hides t p))) []:=by
 refine fnX (c:=zbp) mixed zbq (by simp) rfl fun hg=>?_
 have g1:=goodRow (hg _ (by simp:eMarks t∈_))
 refine dr ?_
 refine lp (σ:=Nat) (fun k=>[(0,.c (eMarks t)),(1,.c (CS p)),(5,I k)]) (fun _=>[]) (fun k=>k≤t.length∧hides (t.take k) p=false) (fun k=>t.length - k) 0 ⟨by simp,by simp [hides]⟩ ?_ ?_
 ·refine dr ?_
  trivial
 rintro k ⟨hk,ha⟩
 refine dr ?_
 refine cP ?_ ?_<;>intro h1
 ·have hk':k < t.length:=by omega
  have no:hidP p t[k]=false→hides (t.take (k+1)) p=false:=fun h=>by
   rw [hides] at ha ⊢
   rw [List.take_succ_eq_append_getElem hk',List.any_append,ha]; simpa using h
  have yes:hidP p t[k]=true→CB true=CB (hides t p):=fun h=>bT (by
   rw [hides,List.any_eq_true]; exact ⟨t[k],List.getElem_mem hk',h⟩)
  refine dr ?_
  have nx:hidP p t[k]=false→∃ x',(x'≤t.length∧hides (t.take x') p=false)∧x'=k+1:=fun h=>⟨k+1,⟨by omega,no h⟩,rfl⟩
  refine cP ?_ ?_<;>intro h2
  ·refine dr ?_
   refine cP ?_ ?_<;>intro h3
   ·refine dr ?_
    exact yes (by simp [hidP,h2,h3])
   ·refine dr ?_
    refine cP ?_ ?_<;>intro h4
    ·omega
    ·refine dr ?_
     refine ⟨k+1,⟨by omega,no (by simp [hidP,h3])⟩,by omega,?_⟩
     refine dr ?_
     trivial
  ·refine dr ?_
   refine cP ?_ ?_<;>intro h3
   ·refine dEr ?_
    repeat (refine c0 (zfA W0 _ _) rfl ?_; first | refine dEr ?_ | exact dz)
    refine cP ?_ ?_<;>intro h5
    ·refine dr ?_
     exact yes (by simp [hidP,h3,h5])
    ·refine dr ?_
     refine ⟨k+1,⟨by omega,no (by simp [hidP,h2,h5])⟩,by omega,?_⟩
     refine dr ?_
     trivial
   ·refine dr ?_
    refine ⟨k+1,⟨by omega,no (by simp [hidP,h3])⟩,by omega,?_⟩
    refine dr ?_
    trivial
 ·refine dr ?_
  have:k=t.length:=by omega
  subst this
  rw [List.take_length] at ha
  rw [ha]
def YP:XC:=(.s (.r [.m1 2 .n]) (.s (.s (.r [.m1 3 (.i 0)]) (.blk 0 (.loop (.s (.s (.r [.mv 5 3,.mv 6 0,.n1 7 6,.b1 8 .lss 5 7]) (.cnd 8 .skip (.exit 0))) (.s (.blk 1 (.s (.r [.mv 11 0,.mv 12 3,.i1 13 3 11 12,.l2 14 3 13,.ex 4 (.alloc [sE,(I 0),sE]),.s1 3 4 14]) (.s (.s (.r [.f1 15 1 4,.l1 16 1 15,.b1 17 .lss 16 (.i 1),.mv 18 17,.gf 19 (.fa 1 4) 18,.gf 20 (.ld false 1 19) 18,.gf 21 (.bin .gtr 20 (.i 4)) 18,.ex 22 (.pick 18 .y 21),.mv 23 22,.gf 24 (.fa 0 4) 23,.gf 25 (.ld false 1 24) 23,.gf 26 (.call 106 [25]) 23,.gf 27 (.un .not 26) 23,.ex 28 (.pick 23 .y 27),.mv 29 28,.gf 30 (.fa 2 4) 29,.gf 31 (.ld false 1 30) 29,.gf 32 (.call 177 [31]) 29,.gf 33 (.un .not 32) 29,.ex 34 (.pick 29 .y 33),.mv 35 34,.gf 36 (.fa 1 4) 35,.gf 37 (.ld false 1 36) 35,.gf 38 (.bin .neq 37 (.i 1)) 35,.gf 39 (.mv 38) 35,.gt 40 (.fa 2 4) 39,.gt 41 (.ld false 1 40) 39,.gt 42 (.bin .neq 41 (.s [])) 39,.gf 43 (.pick 39 42 .n) 35,.ex 44 (.pick 35 .y 43)]) (.cnd 44 (.s (.r [.m1 2 .n]) .ret) .skip)) (.s (.s (.d [.mv 45 3,.b1 46 .gtr 45 (.i 0),.mv 47 46,.gt 48 (.mv 0) 47,.gt 49 (.mv 3) 47,.gt 50 (.bin .sub 49 (.i 1)) 47,.gt 51 (.ia 3 48 50) 47,.gt 52 (.fa 0 51) 47,.gt 53 (.ld false 1 52) 47,.gt 54 (.fa 0 4) 47,.gt 55 (.ld false 1 54) 47,.gt 56 (.bin .geq 53 55) 47,.ex 57 (.pick 47 56 .n),.mv 58 57,.gf 59 (.mv 0) 58,.gf 60 (.mv 3) 58,.gf 61 (.slr 3 59 .none (.some 60)) 58,.gf 62 (.fa 0 4) 58,.gf 63 (.ld false 1 62) 58,.gf 64 (.call 205 [61,63]) 58,.gf 65 (.un .not 64) 58,.ex 66 (.pick 58 .y 65)]) (.cnd 66 (.s (.r [.m1 2 .n]) .ret) .skip)) (.s (.d [.f1 67 1 4,.l1 68 1 67,.b1 69 .gtr 68 (.i 2),.mv 70 69,.gt 71 (.mv 0) 70,.gt 72 (.mv 3) 70,.gt 73 (.slr 3 71 .none (.some 72)) 70,.gt 74 (.fa 0 4) 70,.gt 75 (.ld false 1 74) 70,.gt 76 (.call 206 [73,75]) 70,.ex 77 (.pick 70 76 .n)]) (.cnd 77 (.s (.r [.m1 2 .n]) .ret) .skip)))))) (.r [.mv 9 3,.b1 10 .add 9 (.i 1),.mv 3 10])))))) (.s (.r [.mv 78 0,.n1 79 78,.b1 80 .leq 79 (.i 32),.mv 2 80]) .ret)))
theorem YQ:compF Tryz.prog [] 171=some (YP.ac,[(.t 2)],81):=by kernel_rfl
theorem jA (W0:World) (t:List Mark):Fn Tryz.prog W0 171 [eMarks t] (.c (CB (lOk t))) []:=by
 refine fnX (c:=YP) mixed YQ (by simp) rfl fun hg=>?_
 have g1:=goodRow (hg _ (by simp:eMarks t∈_))
 refine dr ?_
 refine lp (σ:=Nat) (fun k=>[(0,.c (eMarks t)),(3,I k)]) (fun _=>[]) (fun k=>k≤t.length∧∀ j (h:j < t.length),j < k→mok1 (t.take j) t[j]=true) (fun k=>t.length - k) 0 ⟨by simp,by simp⟩ ?_ ?_
 ·refine dr ?_
  trivial
 rintro k ⟨hk,ha⟩
 refine dr ?_
 refine cP ?_ ?_<;>intro h2
 rotate_left
 ·refine dr ?_
  refine congrArg CB ?_
  rw [lOk,mokA0.2 fun j h=>ha j h (by omega),Bool.eq_iff_iff]; simp [qs]; omega
 have hk':k < t.length:=by omega
 have no:mok1 (t.take k) t[k]=false→CB false=CB (lOk t):=fun h=>bF (by
  rw [lOk,Bool.and_eq_false_iff]; right
  rw [Bool.eq_false_iff]; intro e
  have:=mokA0.1 e k hk'
  rw [h] at this; cases this)
 refine dr ?_
 refine cP ?_ ?_<;>intro h3
 ·refine dr ?_
  exact no (by simp [mok1]; omega)
 refine dr ?_
 refine cP ?_ ?_<;>intro h4
 ·refine dr ?_
  exact no (by simp [mok1]; omega)
 have h34:(decide (1≤t[k].kind)&&decide (t[k].kind≤4))=true:=by simp; omega
 refine dr ?_
 repeat (refine c0 (jC W0 _) rfl ?_; first | refine dr ?_ | exact dz)
 refine cP ?_ ?_<;>intro h5
 ·refine dr ?_
  exact no (by simp [mok1,h5])
 refine dr ?_
 repeat (refine c0 (zfD W0 _) rfl ?_; first | refine dr ?_ | exact dz)
 refine cP ?_ ?_<;>intro h6
 ·refine dr ?_
  exact no (by simp [mok1,h6])
 refine dr ?_
 refine cP ?_ ?_<;>intro h70
 ·refine dr ?_
  refine cP ?_ ?_<;>intro h71
  ·refine dr ?_
   exact no (by simp [mok1,h70,h71])
  ·have h7:(!(t[k].kind != 1&&t[k].data != []))=true:=by simp [h71]
   clear h71
   refine dr ?_
   refine cP ?_ ?_<;>intro h8
   ·have hl:(t.take k).getLast? = some t[k - 1]:=by
     rw [List.getLast?_take,if_neg (by omega),List.getElem?_eq_getElem (by omega)]
     rfl
    refine dr ?_
    repeat (refine aM (j:=k - 1) (by omega) (by omega) ?_; first | refine dr ?_ | exact dz)
    cases hlt:ltS t[k - 1].path t[k].path
    ·refine dr ?_
     exact no (by simp [mok1,mlast,hl,hlt])
    ·have hlast:mlast (t.take k) t[k].path=true:=by rw [mlast,hl]; exact hlt
     refine dEr ?_
     repeat ((first | refine sHiM k rfl (by omega) ?_ | refine c0 (zfW W0 (t.take k) _) rfl ?_); first | refine dEr ?_ | exact dz)
     refine cP ?_ ?_<;>intro h9
     ·refine dr ?_
      exact no (by simp [mok1,h9])
     ·refine dr ?_
      refine cP ?_ ?_<;>intro h10
      ·refine dEr ?_
       repeat ((first | refine sHiM k rfl (by omega) ?_ | refine c0 (jr W0 (t.take k) _) rfl ?_); first | refine dEr ?_ | exact dz)
       refine cP ?_ ?_<;>intro h11
       ·refine dr ?_
        exact no (by simp [mok1,h10,h11])
       ·refine dr ?_
        refine ⟨k+1,⟨by omega,fun j h hj=>?_⟩,by omega,?_⟩
        ·by_cases e:j=k
         ·subst e; rw [mok1,h34,h5,h6,h7,hlast,h9,h11]; simp
         ·exact ha j h (by omega)
        ·refine dr ?_
         trivial
      ·refine dr ?_
       refine ⟨k+1,⟨by omega,fun j h hj=>?_⟩,by omega,?_⟩
       ·by_cases e:j=k
        ·subst e; rw [mok1,h34,h5,h6,h7,hlast,h9]; simp; omega
        ·exact ha j h (by omega)
       ·refine dr ?_
        trivial
   ·have hlast:mlast (t.take k) t[k].path=true:=by
     have hk0:k=0:=by omega
     subst hk0; rfl
    refine dEr ?_
    repeat ((first | refine sHiM k rfl (by omega) ?_ | refine c0 (zfW W0 (t.take k) _) rfl ?_); first | refine dEr ?_ | exact dz)
    refine cP ?_ ?_<;>intro h9
    ·refine dr ?_
     exact no (by simp [mok1,h9])
    ·refine dr ?_
     refine cP ?_ ?_<;>intro h10
     ·refine dEr ?_
      repeat ((first | refine sHiM k rfl (by omega) ?_ | refine c0 (jr W0 (t.take k) _) rfl ?_); first | refine dEr ?_ | exact dz)
      refine cP ?_ ?_<;>intro h11
      ·refine dr ?_
       exact no (by simp [mok1,h10,h11])
      ·refine dr ?_
       refine ⟨k+1,⟨by omega,fun j h hj=>?_⟩,by omega,?_⟩
       ·by_cases e:j=k
        ·subst e; rw [mok1,h34,h5,h6,h7,hlast,h9,h11]; simp
        ·exact ha j h (by omega)
       ·refine dr ?_
        trivial
     ·refine dr ?_
      refine ⟨k+1,⟨by omega,fun j h hj=>?_⟩,by omega,?_⟩
      ·by_cases e:j=k
       ·subst e; rw [mok1,h34,h5,h6,h7,hlast,h9]; simp; omega
       ·exact ha j h (by omega)
      ·refine dr ?_
       trivial
 ·have h7:(!(t[k].kind != 1&&t[k].data != []))=true:=by simp [h70]
  refine dr ?_
  refine cP ?_ ?_<;>intro h8
  ·have hl:(t.take k).getLast? = some t[k - 1]:=by
    rw [List.getLast?_take,if_neg (by omega),List.getElem?_eq_getElem (by omega)]
    rfl
   refine dr ?_
   repeat (refine aM (j:=k - 1) (by omega) (by omega) ?_; first | refine dr ?_ | exact dz)
   cases hlt:ltS t[k - 1].path t[k].path
   ·refine dr ?_
    exact no (by simp [mok1,mlast,hl,hlt])
   ·have hlast:mlast (t.take k) t[k].path=true:=by rw [mlast,hl]; exact hlt
    refine dEr ?_
    repeat ((first | refine sHiM k rfl (by omega) ?_ | refine c0 (zfW W0 (t.take k) _) rfl ?_); first | refine dEr ?_ | exact dz)
    refine cP ?_ ?_<;>intro h9
    ·refine dr ?_
     exact no (by simp [mok1,h9])
    ·refine dr ?_
     refine cP ?_ ?_<;>intro h10
     ·refine dEr ?_
      repeat ((first | refine sHiM k rfl (by omega) ?_ | refine c0 (jr W0 (t.take k) _) rfl ?_); first | refine dEr ?_ | exact dz)
      refine cP ?_ ?_<;>intro h11
      ·refine dr ?_
       exact no (by simp [mok1,h10,h11])
      ·refine dr ?_
       refine ⟨k+1,⟨by omega,fun j h hj=>?_⟩,by omega,?_⟩
       ·by_cases e:j=k
        ·subst e; rw [mok1,h34,h5,h6,h7,hlast,h9,h11]; simp
        ·exact ha j h (by omega)
       ·refine dr ?_
        trivial
     ·refine dr ?_
      refine ⟨k+1,⟨by omega,fun j h hj=>?_⟩,by omega,?_⟩
      ·by_cases e:j=k
       ·subst e; rw [mok1,h34,h5,h6,h7,hlast,h9]; simp; omega
       ·exact ha j h (by omega)
      ·refine dr ?_
       trivial
  ·have hlast:mlast (t.take k) t[k].path=true:=by
    have hk0:k=0:=by omega
    subst hk0; rfl
   refine dEr ?_
   repeat ((first | refine sHiM k rfl (by omega) ?_ | refine c0 (zfW W0 (t.take k) _) rfl ?_); first | refine dEr ?_ | exact dz)
   refine cP ?_ ?_<;>intro h9
   ·refine dr ?_
    exact no (by simp [mok1,h9])
   ·refine dr ?_
    refine cP ?_ ?_<;>intro h10
    ·refine dEr ?_
     repeat ((first | refine sHiM k rfl (by omega) ?_ | refine c0 (jr W0 (t.take k) _) rfl ?_); first | refine dEr ?_ | exact dz)
     refine cP ?_ ?_<;>intro h11
     ·refine dr ?_
      exact no (by simp [mok1,h10,h11])
     ·refine dr ?_
      refine ⟨k+1,⟨by omega,fun j h hj=>?_⟩,by omega,?_⟩
      ·by_cases e:j=k
       ·subst e; rw [mok1,h34,h5,h6,h7,hlast,h9,h11]; simp
       ·exact ha j h (by omega)
      ·refine dr ?_
       trivial
    ·refine dr ?_
     refine ⟨k+1,⟨by omega,fun j h hj=>?_⟩,by omega,?_⟩
     ·by_cases e:j=k
      ·subst e; rw [mok1,h34,h5,h6,h7,hlast,h9]; simp; omega
      ·exact ha j h (by omega)
     ·refine dr ?_
      trivial
end Go.Proofs.YteheahbjaddooaaGreatDoor

namespace Go.Proofs.YteheahbjaddooaaGreatDoor
set_option linter.unusedSimpArgs false
set_option linter.unusedVariables false
open Go Go.RowKit
def YT:XC:=(.s (.r [.m1 4 .n]) (.s (.s (.r [.mv 6 0,.n1 7 6,.mv 8 1,.n1 9 8,.b1 10 .neq 7 9]) (.cnd 10 (.s (.r [.m1 4 .n]) .ret) .skip)) (.s (.s (.r [.m1 5 (.i 0)]) (.blk 0 (.loop (.s (.s (.r [.mv 11 5,.mv 12 0,.n1 13 12,.b1 14 .lss 11 13]) (.cnd 14 .skip (.exit 0))) (.s (.blk 1 (.s (.d [.mv 17 0,.mv 18 5,.i1 19 3 17 18,.l2 20 3 19,.mv 21 1,.mv 22 5,.i1 23 3 21 22,.l2 24 3 23,.ex 25 (.beq true [.s,(.i .i64),.s] 20 24)]) (.cnd 25 (.s (.r [.m1 4 .n]) .ret) .skip))) (.r [.mv 15 5,.b1 16 .add 15 (.i 1),.mv 5 16])))))) (.s (.r [.m1 4 .y]) .ret))))
theorem YU:compF Tryz.prog [] 75=some (YT.ac,[(.t 4)],26):=by kernel_rfl
theorem zgO (W0:World) (a b:List Mark):Fn Tryz.prog W0 75 [eMarks a,eMarks b] (.c (CB (decide (a=b)))) []:=by
 refine fnX (c:=YT) mixed YU (by simp) rfl fun hg=>?_
 have g1:=goodRow (hg _ (by simp:eMarks a∈_))
 refine dr ?_
 refine cP ?_ ?_<;>intro h1
 ·conv=>whnf
  exact dF (yb (by omega))
 conv=>whnf
 refine lp (σ:=Nat) (fun k=>[(0,.c (eMarks a)),(1,.c (eMarks b)),(5,I k)]) (fun _=>[]) (fun k=>k≤a.length∧a.take k=b.take k) (fun k=>a.length - k) 0 ⟨by simp,by simp⟩ ?_ ?_
 ·refine dr ?_
  trivial
 rintro k ⟨hk,he⟩
 refine dr ?_
 refine cP ?_ ?_<;>intro h2
 ·refine dr ?_
  rw [bqMark]
  refine cP ?_ ?_<;>intro h3
  rotate_left
  ·refine dr ?_
   refine ⟨k+1,⟨by omega,y5 (by omega) (by omega) he (by simpa using h3)⟩,by omega,?_⟩
   refine dr ?_
   trivial
  ·conv=>whnf
   exact dF (ya (k:=k) (by omega) (by omega) (by simpa using h3))
 ·refine dr ?_
  have:k=a.length:=by omega
  subst this
  exact dT (zU (by omega) he)
def Z7:XC:=(.s (.r [.m1 4 .n]) (.s (.s (.r [.mv 6 0,.n1 7 6,.mv 8 1,.n1 9 8,.b1 10 .neq 7 9]) (.cnd 10 (.s (.r [.m1 4 .n]) .ret) .skip)) (.s (.s (.r [.mv 11 0,.n1 12 11,.m1 13 (.i 0)]) (.blk 0 (.loop (.s (.r [.b1 14 .lss 13 12]) (.s (.cnd 14 .skip (.exit 0)) (.s (.blk 1 (.s (.r [.mv 15 13,.mv 5 15]) (.s (.d [.mv 16 0,.mv 17 5,.i1 18 3 16 17,.l2 19 3 18,.mv 20 1,.mv 21 5,.i1 22 3 20 21,.l2 23 3 22,.ex 24 (.beq true [.s,.b,.s] 19 23)]) (.cnd 24 (.s (.r [.m1 4 .n]) .ret) .skip)))) (.r [.b1 25 .add 13 (.i 1),.mv 13 25]))))))) (.s (.r [.m1 4 .y]) .ret))))
theorem Z8:compF Tryz.prog [] 91=some (Z7.ac,[(.t 4)],26):=by kernel_rfl
theorem zes (W0:World) (a b:List Ent):Fn Tryz.prog W0 91 [eEnts a,eEnts b] (.c (CB (decide (a=b)))) []:=by
 refine fnX (c:=Z7) mixed Z8 (by simp) rfl fun hg=>?_
 have g1:=goodRow (hg _ (by simp:eEnts a∈_))
 refine dr ?_
 refine cP ?_ ?_<;>intro h1
 ·conv=>whnf
  exact dF (yb (by omega))
 refine dr ?_
 refine lp (σ:=Nat) (fun k=>[(0,.c (eEnts a)),(1,.c (eEnts b)),(12,I a.length),(13,I k)]) (fun _=>[]) (fun k=>k≤a.length∧a.take k=b.take k) (fun k=>a.length - k) 0 ⟨by simp,by simp⟩ ?_ ?_
 ·refine dr ?_
  trivial
 rintro k ⟨hk,he⟩
 refine dr ?_
 refine cP ?_ ?_<;>intro h2
 ·refine dr ?_
  rw [bqEnt]
  refine cP ?_ ?_<;>intro h3
  rotate_left
  ·refine dr ?_
   refine ⟨k+1,⟨by omega,y5 (by omega) (by omega) he (by simpa using h3)⟩,by omega,?_⟩
   refine dr ?_
   trivial
  ·conv=>whnf
   exact dF (ya (k:=k) (by omega) (by omega) (by simpa using h3))
 ·refine dr ?_
  have:k=a.length:=by omega
  subst this
  exact dT (zU (by omega) he)
def Jj:XC:=(.s (.r [.m1 4 .n]) (.s (.s (.r [.mv 6 0,.n1 7 6,.mv 8 1,.n1 9 8,.b1 10 .neq 7 9]) (.cnd 10 (.s (.r [.m1 4 .n]) .ret) .skip)) (.s (.s (.r [.mv 11 0,.n1 12 11,.m1 13 (.i 0)]) (.blk 0 (.loop (.s (.r [.b1 14 .lss 13 12]) (.s (.cnd 14 .skip (.exit 0)) (.s (.blk 1 (.s (.r [.mv 15 13,.mv 5 15]) (.s (.d [.mv 16 0,.mv 17 5,.i1 18 3 16 17,.l2 19 3 18,.mv 20 1,.mv 21 5,.i1 22 3 20 21,.l2 23 3 22,.ex 24 (.beq true [.s,(.i .i64),.s] 19 23)]) (.cnd 24 (.s (.r [.m1 4 .n]) .ret) .skip)))) (.r [.b1 25 .add 13 (.i 1),.mv 13 25]))))))) (.s (.r [.m1 4 .y]) .ret))))
theorem Jk:compF Tryz.prog [] 138=some (Jj.ac,[(.t 4)],26):=by kernel_rfl
theorem zey (W0:World) (a b:List Mark):Fn Tryz.prog W0 138 [eMarks a,eMarks b] (.c (CB (decide (a=b)))) []:=by
 refine fnX (c:=Jj) mixed Jk (by simp) rfl fun hg=>?_
 have g1:=goodRow (hg _ (by simp:eMarks a∈_))
 refine dr ?_
 refine cP ?_ ?_<;>intro h1
 ·conv=>whnf
  exact dF (yb (by omega))
 refine dr ?_
 refine lp (σ:=Nat) (fun k=>[(0,.c (eMarks a)),(1,.c (eMarks b)),(12,I a.length),(13,I k)]) (fun _=>[]) (fun k=>k≤a.length∧a.take k=b.take k) (fun k=>a.length - k) 0 ⟨by simp,by simp⟩ ?_ ?_
 ·refine dr ?_
  trivial
 rintro k ⟨hk,he⟩
 refine dr ?_
 refine cP ?_ ?_<;>intro h2
 ·refine dr ?_
  rw [bqMark]
  refine cP ?_ ?_<;>intro h3
  rotate_left
  ·refine dr ?_
   refine ⟨k+1,⟨by omega,y5 (by omega) (by omega) he (by simpa using h3)⟩,by omega,?_⟩
   refine dr ?_
   trivial
  ·conv=>whnf
   exact dF (ya (k:=k) (by omega) (by omega) (by simpa using h3))
 ·refine dr ?_
  have:k=a.length:=by omega
  subst this
  exact dT (zU (by omega) he)
def Jd:XC:=(.s (.r [.m1 4 .n]) (.s (.s (.r [.mv 6 0,.n1 7 6,.mv 8 1,.n1 9 8,.b1 10 .neq 7 9]) (.cnd 10 (.s (.r [.m1 4 .n]) .ret) .skip)) (.s (.s (.r [.mv 11 0,.n1 12 11,.m1 13 (.i 0)]) (.blk 0 (.loop (.s (.r [.b1 14 .lss 13 12]) (.s (.cnd 14 .skip (.exit 0)) (.s (.blk 1 (.s (.r [.mv 15 13,.mv 5 15]) (.s (.d [.mv 16 0,.mv 17 5,.i1 18 7 16 17,.l2 19 7 18,.mv 20 1,.mv 21 5,.i1 22 7 20 21,.l2 23 7 22,.ex 24 (.beq true [.s,.b,.s,.b,.s,(.i .i64),(.i .i64)] 19 23)]) (.cnd 24 (.s (.r [.m1 4 .n]) .ret) .skip)))) (.r [.b1 25 .add 13 (.i 1),.mv 13 25]))))))) (.s (.r [.m1 4 .y]) .ret))))
theorem Je:compF Tryz.prog [] 47=some (Jd.ac,[(.t 4)],26):=by kernel_rfl
theorem zev (W0:World) (a b:List Hold):Fn Tryz.prog W0 47 [eHolds a,eHolds b] (.c (CB (decide (a=b)))) []:=by
 refine fnX (c:=Jd) mixed Je (by simp) rfl fun hg=>?_
 have g1:=goodRow (hg _ (by simp:eHolds a∈_))
 refine dr ?_
 refine cP ?_ ?_<;>intro h1
 ·conv=>whnf
  exact dF (yb (by omega))
 refine dr ?_
 refine lp (σ:=Nat) (fun k=>[(0,.c (eHolds a)),(1,.c (eHolds b)),(12,I a.length),(13,I k)]) (fun _=>[]) (fun k=>k≤a.length∧a.take k=b.take k) (fun k=>a.length - k) 0 ⟨by simp,by simp⟩ ?_ ?_
 ·refine dr ?_
  trivial
 rintro k ⟨hk,he⟩
 refine dr ?_
 refine cP ?_ ?_<;>intro h2
 ·refine dr ?_
  rw [bqHold]
  refine cP ?_ ?_<;>intro h3
  rotate_left
  ·refine dr ?_
   refine ⟨k+1,⟨by omega,y5 (by omega) (by omega) he (by simpa using h3)⟩,by omega,?_⟩
   refine dr ?_
   trivial
  ·conv=>whnf
   exact dF (ya (k:=k) (by omega) (by omega) (by simpa using h3))
 ·refine dr ?_
  have:k=a.length:=by omega
  subst this
  exact dT (zU (by omega) he)
def Jh:XC:=(.s (.r [.m1 4 .n]) (.s (.s (.r [.mv 6 0,.n1 7 6,.mv 8 1,.n1 9 8,.b1 10 .neq 7 9]) (.cnd 10 (.s (.r [.m1 4 .n]) .ret) .skip)) (.s (.s (.r [.mv 11 0,.n1 12 11,.m1 13 (.i 0)]) (.blk 0 (.loop (.s (.r [.b1 14 .lss 13 12]) (.s (.cnd 14 .skip (.exit 0)) (.s (.blk 1 (.s (.r [.mv 15 13,.mv 5 15]) (.s (.d [.mv 16 0,.mv 17 5,.i1 18 4 16 17,.l2 19 4 18,.mv 20 1,.mv 21 5,.i1 22 4 20 21,.l2 23 4 22,.ex 24 (.beq true [(.i .i64),.s,(.i .i64),(.i .i64)] 19 23)]) (.cnd 24 (.s (.r [.m1 4 .n]) .ret) .skip)))) (.r [.b1 25 .add 13 (.i 1),.mv 13 25]))))))) (.s (.r [.m1 4 .y]) .ret))))
theorem Ji:compF Tryz.prog [] 48=some (Jh.ac,[(.t 4)],26):=by kernel_rfl
theorem zex (W0:World) (a b:List Lease):Fn Tryz.prog W0 48 [eLeases a,eLeases b] (.c (CB (decide (a=b)))) []:=by
 refine fnX (c:=Jh) mixed Ji (by simp) rfl fun hg=>?_
 have g1:=goodRow (hg _ (by simp:eLeases a∈_))
 refine dr ?_
 refine cP ?_ ?_<;>intro h1
 ·conv=>whnf
  exact dF (yb (by omega))
 refine dr ?_
 refine lp (σ:=Nat) (fun k=>[(0,.c (eLeases a)),(1,.c (eLeases b)),(12,I a.length),(13,I k)]) (fun _=>[]) (fun k=>k≤a.length∧a.take k=b.take k) (fun k=>a.length - k) 0 ⟨by simp,by simp⟩ ?_ ?_
 ·refine dr ?_
  trivial
 rintro k ⟨hk,he⟩
 refine dr ?_
 refine cP ?_ ?_<;>intro h2
 ·refine dr ?_
  rw [bqLease]
  refine cP ?_ ?_<;>intro h3
  rotate_left
  ·refine dr ?_
   refine ⟨k+1,⟨by omega,y5 (by omega) (by omega) he (by simpa using h3)⟩,by omega,?_⟩
   refine dr ?_
   trivial
  ·conv=>whnf
   exact dF (ya (k:=k) (by omega) (by omega) (by simpa using h3))
 ·refine dr ?_
  have:k=a.length:=by omega
  subst this
  exact dT (zU (by omega) he)
def Jl:XC:=(.s (.r [.m1 4 .n]) (.s (.s (.r [.mv 6 0,.n1 7 6,.mv 8 1,.n1 9 8,.b1 10 .neq 7 9]) (.cnd 10 (.s (.r [.m1 4 .n]) .ret) .skip)) (.s (.s (.r [.mv 11 0,.n1 12 11,.m1 13 (.i 0)]) (.blk 0 (.loop (.s (.r [.b1 14 .lss 13 12]) (.s (.cnd 14 .skip (.exit 0)) (.s (.blk 1 (.s (.r [.mv 15 13,.mv 5 15]) (.s (.d [.mv 16 0,.mv 17 5,.i1 18 9 16 17,.l2 19 9 18,.mv 20 1,.mv 21 5,.i1 22 9 20 21,.l2 23 9 22,.ex 24 (.beq true [(.i .i64),(.i .i64),.s,.b,.s,.b,.s,(.i .i64),(.i .i64)] 19 23)]) (.cnd 24 (.s (.r [.m1 4 .n]) .ret) .skip)))) (.r [.b1 25 .add 13 (.i 1),.mv 13 25]))))))) (.s (.r [.m1 4 .y]) .ret))))
theorem Jm:compF Tryz.prog [] 51=some (Jl.ac,[(.t 4)],26):=by kernel_rfl
theorem zez (W0:World) (a b:List Msg):Fn Tryz.prog W0 51 [eMsgs a,eMsgs b] (.c (CB (decide (a=b)))) []:=by
 refine fnX (c:=Jl) mixed Jm (by simp) rfl fun hg=>?_
 have g1:=goodRow (hg _ (by simp:eMsgs a∈_))
 refine dr ?_
 refine cP ?_ ?_<;>intro h1
 ·conv=>whnf
  exact dF (yb (by omega))
 refine dr ?_
 refine lp (σ:=Nat) (fun k=>[(0,.c (eMsgs a)),(1,.c (eMsgs b)),(12,I a.length),(13,I k)]) (fun _=>[]) (fun k=>k≤a.length∧a.take k=b.take k) (fun k=>a.length - k) 0 ⟨by simp,by simp⟩ ?_ ?_
 ·refine dr ?_
  trivial
 rintro k ⟨hk,he⟩
 refine dr ?_
 refine cP ?_ ?_<;>intro h2
 ·refine dr ?_
  rw [bqMsg]
  refine cP ?_ ?_<;>intro h3
  rotate_left
  ·refine dr ?_
   refine ⟨k+1,⟨by omega,y5 (by omega) (by omega) he (by simpa using h3)⟩,by omega,?_⟩
   refine dr ?_
   trivial
  ·conv=>whnf
   exact dF (ya (k:=k) (by omega) (by omega) (by simpa using h3))
 ·refine dr ?_
  have:k=a.length:=by omega
  subst this
  exact dT (zU (by omega) he)
def Jt:XC:=(.s (.r [.m1 4 .n]) (.s (.r [.mv 5 0,.mv 6 1,.c1 7 91 [5,6],.mv 4 7]) .ret))
theorem Ju:compF Tryz.prog [] 32=some (Jt.ac,[(.t 4)],8):=by kernel_rfl
theorem ze8 (W0:World) (a b:List Ent):Fn Tryz.prog W0 32 [eEnts a,eEnts b] (.c (CB (decide (a=b)))) []:=by
 refine fnX (c:=Jt) mixed Ju (by simp) rfl fun hg=>?_
 refine dr ?_
 repeat (refine c0 (zes W0 a b) rfl ?_; first | refine dr ?_ | exact dz)
def Jv:XC:=(.s (.r [.m1 4 .n]) (.s (.r [.mv 5 0,.mv 6 1,.c1 7 138 [5,6],.mv 4 7]) .ret))
theorem Jw:compF Tryz.prog [] 86=some (Jv.ac,[(.t 4)],8):=by kernel_rfl
theorem zfc (W0:World) (a b:List Mark):Fn Tryz.prog W0 86 [eMarks a,eMarks b] (.c (CB (decide (a=b)))) []:=by
 refine fnX (c:=Jv) mixed Jw (by simp) rfl fun hg=>?_
 refine dr ?_
 repeat (refine c0 (zey W0 a b) rfl ?_; first | refine dr ?_ | exact dz)
def Jb:XC:=(.s (.r [.m1 6 .n]) (.s (.s (.r [.mv 10 0,.n1 11 10,.mv 12 1,.n1 13 12,.b1 14 .neq 11 13]) (.cnd 14 (.s (.r [.m1 6 .n]) .ret) .skip)) (.s (.s (.r [.mv 15 0,.n1 16 15,.m1 17 (.i 0)]) (.blk 0 (.loop (.s (.r [.b1 18 .lss 17 16]) (.s (.cnd 18 .skip (.exit 0)) (.s (.blk 1 (.s (.r [.mv 19 17,.i1 20 1 15 17,.l1 21 1 20,.mv 7 19,.a1 8 21 3 133]) (.s (.r [.mv 22 1,.mv 23 7,.i1 24 1 22 23,.l1 25 1 24,.a1 9 25 3 133]) (.s (.r [.mv 26 2,.mv 27 8,.mv 28 9,.ex 29 (.callv 26 [27,28]),.ex 30 (.un .not 29)]) (.cnd 30 (.s (.r [.m1 6 .n]) .ret) .skip))))) (.r [.b1 31 .add 17 (.i 1),.mv 17 31]))))))) (.s (.r [.m1 6 .y]) .ret))))
theorem Jc:compF Tryz.prog [] 85=some (Jb.ac,[(.t 6)],32):=by kernel_rfl
theorem zeu (W0:World) (a b:List (List Mark)):Fn Tryz.prog W0 85 [eMarkss a,eMarkss b,.sc (.func (.func 86) #[] #[])] (.c (CB (decide (a=b)))) []:=by
 refine fnX (c:=Jb) mixed Jc (by simp) rfl fun hg=>?_
 have g1:=goodRow (hg _ (by simp:eMarkss a∈_))
 refine dr ?_
 refine cP ?_ ?_<;>intro h1
 ·conv=>whnf
  exact dF (yb (by omega))
 refine dr ?_
 refine lp (σ:=Nat) (fun k=>[(0,.c (eMarkss a)),(1,.c (eMarkss b)),(2,.c (.sc (.func (.func 86) #[] #[]))),(15,.c (eMarkss a)),(16,I a.length),(17,I k)]) (fun _=>[]) (fun k=>k≤a.length∧a.take k=b.take k) (fun k=>a.length - k) 0 ⟨by simp,by simp⟩ ?_ ?_
 ·refine dr ?_
  trivial
 rintro k ⟨hk,he⟩
 refine dr ?_
 refine cP ?_ ?_<;>intro h2
 ·refine dr ?_
  repeat ((first | refine oB ⟨by kernel_rfl,by simp⟩ ?_ | refine c0 (zfc W0 _ _) rfl ?_); first | refine dr ?_ | exact dz)
  refine cP ?_ ?_<;>intro h3
  rotate_left
  ·refine dr ?_
   refine ⟨k+1,⟨by omega,y5 (by omega) (by omega) he (by simpa using h3)⟩,by omega,?_⟩
   refine dr ?_
   trivial
  ·conv=>whnf
   exact dF (ya (k:=k) (by omega) (by omega) (by simpa using h3))
 ·refine dr ?_
  have:k=a.length:=by omega
  subst this
  exact dT (zU (by omega) he)
def JP:XC:=(.s (.r [.ex 2 (.box 0),.ex 3 (.box 1),.m1 4 .n]) (.s (.r [.f1 5 0 2,.l1 6 1 5,.f1 7 0 3,.l1 8 1 7,.c1 9 32 [6,8],.mv 10 9,.gt 11 (.fa 1 2) 10,.gt 12 (.ld false 1 11) 10,.gt 13 (.fa 1 3) 10,.gt 14 (.ld false 1 13) 10,.gt 15 (.call 85 [12,14,(.k (.c (.sc (.func (.func 86) #[] #[]))))]) 10,.ex 16 (.pick 10 15 .n),.mv 17 16,.gt 18 (.fa 2 2) 17,.gt 19 (.ld false 1 18) 17,.gt 20 (.fa 2 3) 17,.gt 21 (.ld false 1 20) 17,.gt 22 (.call 86 [19,21]) 17,.ex 23 (.pick 17 22 .n),.mv 4 23]) .ret))
theorem JQ:compF Tryz.prog [] 30=some (JP.ac,[(.t 4)],24):=by kernel_rfl
theorem zfg (W0:World) (a b:Over):Fn Tryz.prog W0 30 [eOver a,eOver b] (.c (CB (decide (a=b)))) []:=by
 refine fnX (c:=JP) mixed JQ (by simp) rfl fun hg=>?_
 refine dr ?_
 repeat (refine c0 (ze8 W0 a.base b.base) rfl ?_; first | refine dr ?_ | exact dz)
 refine cP ?_ ?_<;>intro h1
 rotate_left
 ·refine dr ?_
  exact dF fun e=>by simp [e] at h1
 refine dr ?_
 repeat (refine c0 (zeu W0 a.layers b.layers) rfl ?_; first | refine dr ?_ | exact dz)
 refine cP ?_ ?_<;>intro h2
 rotate_left
 ·refine dr ?_
  exact dF fun e=>by simp [e] at h2
 refine dr ?_
 repeat (refine c0 (zfc W0 a.upper b.upper) rfl ?_; first | refine dr ?_ | exact dz)
 exact congrArg CB (by cases a; cases b; simp_all)
end Go.Proofs.YteheahbjaddooaaGreatDoor

namespace Go.Proofs.YteheahbjaddooaaGreatDoor
set_option linter.unusedSimpArgs false
set_option linter.unusedVariables false
open Go Go.RowKit
def zbz:XC:=(.s (.r [.ex 4 (.asn (.k .nil) 3 39)]) (.s (.r [.ex 8 .bsl0,.a1 5 8 3 39]) (.s (.s (.r [.m1 6 (.i 0)]) (.blk 0 (.loop (.s (.s (.r [.mv 9 6,.mv 10 1,.n1 11 10,.b1 12 .lss 9 11]) (.cnd 12 .skip (.exit 0))) (.s (.blk 1 (.s (.r [.mv 15 0,.mv 16 1,.mv 17 6,.i1 18 3 16 17,.f1 19 0 18,.l1 20 1 19,.c1 21 207 [15,20],.ex 22 (.un .not 21)]) (.cnd 22 (.r [.mv 23 5,.mv 24 1,.mv 25 6,.i1 26 3 24 25,.l2 27 3 26,.ex 28 (.bsl 3 39 [27]),.ex 29 (.app false 3 40 39 23 28),.a1 5 29 3 39]) .skip))) (.r [.mv 13 6,.b1 14 .add 13 (.i 1),.mv 6 14])))))) (.s (.s (.r [.m1 7 (.i 0)]) (.blk 2 (.loop (.s (.s (.r [.mv 30 7,.mv 31 0,.n1 32 31,.b1 33 .lss 30 32]) (.cnd 33 .skip (.exit 2))) (.s (.blk 3 (.s (.r [.mv 36 0,.mv 37 7,.i1 38 3 36 37,.f1 39 1 38,.l1 40 1 39]) (.blk 4 (.s (.r [.b1 42 .eql 40 (.i 1),.mv 41 42]) (.cnd 41 (.d [.mv 43 5,.mv 44 0,.mv 45 7,.i1 46 3 44 45,.f1 47 0 46,.l1 48 1 47,.mv 49 0,.mv 50 7,.i1 51 3 49 50,.f1 52 2 51,.l1 53 1 52,.ex 54 (.build [sE,(B false),sE] [(0,(1,48)),(2,(1,53))]),.c1 55 178 [43,54],.a1 5 55 3 39]) (.s (.s (.r [.b1 57 .eql 40 (.i 2),.mv 56 57]) (.cnd 56 .skip (.r [.b1 58 .eql 40 (.i 4),.mv 56 58]))) (.cnd 56 (.r [.mv 59 5,.mv 60 0,.mv 61 7,.i1 62 3 60 61,.f1 63 0 62,.l1 64 1 63,.ex 65 (.build [sE,(B false),sE] [(0,(1,64)),(1,(1,.y))]),.c1 66 178 [59,65],.a1 5 66 3 39]) .skip))))))) (.r [.mv 34 7,.b1 35 .add 34 (.i 1),.mv 7 35])))))) (.s (.r [.mv 67 5,.a1 4 67 3 39]) .ret)))))
theorem zbA:compF Tryz.prog [] 172=some (zbz.ac,[(.t 4)],68):=by kernel_rfl
theorem zf0 (W0:World) (l:List Mark) (t:List Ent) (ht:t.length+l.length≤1000000):Fn Tryz.prog W0 172 [eMarks l,eEnts t] (.c (eEnts (onRaw l t))) []:=by
 refine fnX (c:=zbz) mixed zbA (by simp) rfl fun hg=>?_
 refine dr ?_
 refine lp (σ:=Nat) (fun k=>[(0,.c (eMarks l)),(1,.c (eEnts t)),(5,.own 80 ((t.take k).filter fun e=>!hides l e.path).length),(6,I k)]) (fun k=>[(80,.row (((t.take k).filter fun e=>!hides l e.path).map eEnt) 3 39)]) (fun k=>k≤t.length) (fun k=>t.length - k) 0 (by simp) ?_ ?_
 ·refine dr ?_
  trivial
 intro k hk
 have hfl:=zg8 (q:=fun e:Ent=>!hides l e.path) (l:=t) (k:=k)
 refine dr ?_
 refine cP ?_ ?_<;>intro h1
 ·have hk':k < t.length:=by omega
  refine dEr ?_
  repeat (refine c0 (zfV W0 _ _) rfl ?_; first | refine dEr ?_ | exact dz)
  refine cP ?_ ?_<;>intro h2
  ·refine dr ?_
   repeat ((first | refine oB (by simp; omega) ?_ | refine oB (by simp) ?_); first | refine dr ?_ | exact dz)
   refine ⟨k+1,by omega,by omega,?_⟩
   refine dr ?_
   repeat (refine oB (by rw [jI hk' (by simp [h2])]; simp) ?_; first | refine dr ?_ | exact dz)
   trivial
  ·refine dr ?_
   refine ⟨k+1,by omega,by omega,?_⟩
   refine dr ?_
   repeat (refine oB (by rw [jH hk' (by simp [h2])]) ?_; first | refine dr ?_ | exact dz)
   trivial
 have hkl:k=t.length:=by omega
 subst hkl
 rw [List.take_length] at hfl ⊢
 have hR:onRaw l t=l.foldl onP (t.filter fun e=>!hides l e.path):=rfl
 rw [hR]
 generalize (t.filter fun e=>!hides l e.path)=t0 at *
 refine dr ?_
 refine lz (σ:=Nat) 80 (fun k=>[(0,.c (eMarks l)),(1,.c (eEnts t)),(5,.c (eEnts ((l.take k).foldl onP t0))),(7,I k)]) (fun _=>[]) (fun k=>k≤l.length) (fun k=>l.length - k) 0 (by simp) ?_ ?_
 ·refine dr ?_
  repeat (refine oB (by simp) ?_; first | refine dr ?_ | exact dz)
  trivial
 clear h1
 intro k hk
 have hlk:=zhR (l.take k) t0
 have hlk2:=List.length_take_le' k l
 refine dr ?_
 refine cP ?_ ?_<;>intro h1
 ·have hk':k < l.length:=by omega
  refine dr ?_
  refine cP ?_ ?_<;>intro h2
  ·refine dr ?_
   repeat (refine c0 (jq W0 _ ⟨_,_,_⟩ (by omega)) rfl ?_; first | refine dr ?_ | exact dz)
   intro hg1
   refine dr ?_
   refine ⟨k+1,by omega,by omega,?_⟩
   refine dr ?_
   repeat (refine oB (by rw [jV hk',onP,if_pos h2]) ?_; first | refine dr ?_ | exact dz)
   trivial
  ·refine dr ?_
   refine cP ?_ ?_<;>intro h3
   ·refine dr ?_
    refine cP ?_ ?_<;>intro h30
    rotate_left
    ·omega
    refine dr ?_
    repeat (refine c0 (jq W0 _ ⟨_,_,_⟩ (by omega)) rfl ?_; first | refine dr ?_ | exact dz)
    intro hg1
    refine dr ?_
    refine ⟨k+1,by omega,by omega,?_⟩
    refine dr ?_
    repeat (refine oB (by rw [jV hk',onP,if_neg h2,if_pos (.inl h3)]) ?_; first | refine dr ?_ | exact dz)
    trivial
   ·refine dr ?_
    refine cP ?_ ?_<;>intro h4
    ·refine dr ?_
     repeat (refine c0 (jq W0 _ ⟨_,_,_⟩ (by omega)) rfl ?_; first | refine dr ?_ | exact dz)
     intro hg1
     refine dr ?_
     refine ⟨k+1,by omega,by omega,?_⟩
     refine dr ?_
     repeat (refine oB (by rw [jV hk',onP,if_neg h2,if_pos (.inr h4)]) ?_; first | refine dr ?_ | exact dz)
     trivial
    ·refine dr ?_
     refine ⟨k+1,by omega,by omega,?_⟩
     refine dr ?_
     repeat (refine oB (by rw [jV hk',onP,if_neg h2,if_neg (by omega)]) ?_; first | refine dr ?_ | exact dz)
     trivial
 have hkl:k=l.length:=by omega
 refine dr ?_
 rw [hkl,List.take_length]
def YR:XC:=(.s (.r [.ex 4 (.asn (.k .nil) 3 39),.m1 5 .n]) (.s (.s (.r [.mv 7 0,.c1 8 171 [7],.ex 9 (.un .not 8),.mv 10 9,.gf 11 (.mv 1) 10,.gf 12 (.call 119 [11]) 10,.gf 13 (.un .not 12) 10,.ex 14 (.pick 10 .y 13)]) (.cnd 14 (.s (.r [.ex 15 .bsl0,.a1 4 15 3 39,.m1 5 .n]) .ret) .skip)) (.s (.r [.mv 16 0,.mv 17 1,.c1 18 172 [16,17],.a1 6 18 3 39]) (.s (.s (.r [.mv 19 6,.n1 20 19,.b1 21 .gtr 20 (.i 16)]) (.cnd 21 (.s (.r [.ex 22 .bsl0,.a1 4 22 3 39,.m1 5 .n]) .ret) .skip)) (.s (.r [.mv 23 6,.a1 4 23 3 39,.m1 5 .y]) .ret)))))
theorem YS:compF Tryz.prog [] 111=some (YR.ac,[(.t 4),(.t 5)],24):=by kernel_rfl
theorem zgN (W0:World) (l:List Mark) (t:List Ent):Fn Tryz.prog W0 111 [eMarks l,eEnts t] (.c (eEntsO (lOn l t))) []:=by
 refine fnX (c:=YR) mixed YS (by simp) rfl fun hg=>?_
 refine dr ?_
 repeat (refine c0 (jA W0 _) rfl ?_; first | refine dr ?_ | exact dz)
 refine cP ?_ ?_<;>intro h1
 ·refine dEr ?_
  rw [lOn,if_neg (by simp [h1])]; rfl
 refine dEr ?_
 repeat (refine c0 (zgV W0 _) rfl ?_; first | refine dEr ?_ | exact dz)
 refine cP ?_ ?_<;>intro h2
 ·refine dr ?_
  rw [lOn,if_neg (by simp [h2])]; rfl
 have hl:l.length≤32:=by simp only [lOk,Bool.and_eq_true,decide_eq_true_eq] at h1; exact h1.1
 have ht:=(yZ h2).1
 refine dr ?_
 repeat (refine c0 (zf0 W0 _ _ (by omega)) rfl ?_; first | refine dr ?_ | exact dz)
 intro hg2
 refine dr ?_
 rw [lOn,if_pos (by simp [h1,h2])]
 refine cP ?_ ?_<;>intro h3
 ·refine dr ?_
  rw [if_neg (by omega)]; rfl
 ·refine dr ?_
  rw [if_pos (by omega)]; rfl
def zbF:XC:=(.s (.r [.ex 4 (.asn (.k .nil) 3 133)]) (.s (.r [.mv 6 1,.c1 7 123 [6],.mv 5 7]) (.s (.s (.r [.mv 8 5,.ex 9 (.bin .eql 8 (.s [47]))]) (.cnd 9 (.s (.r [.mv 10 0,.a1 4 10 3 133]) .ret) .skip)) (.s (.s (.r [.mv 11 0,.mv 12 5,.c1 13 181 [11,12],.b1 14 .eql 13 (.i 0)]) (.cnd 14 (.r [.mv 15 0,.mv 16 5,.ex 17 (.build [sE,(I 0),sE] [(0,(1,16)),(1,(1,(.i 2)))]),.c1 18 125 [15,17],.a1 0 18 3 133]) .skip)) (.s (.r [.mv 19 0,.mv 20 5,.c1 21 124 [19,20],.a1 4 21 3 133]) .ret)))))
theorem zbG:compF Tryz.prog [] 124=some (zbF.ac,[(.t 4)],22):=by kernel_rfl
theorem ju (W0:World):∀ (n:Nat) (l:List Mark) (p:Str),pOk p=true→(names p).length≤n→l.length+n≤1000000→Fn Tryz.prog W0 124 [eMarks l,CS p] (.c (eMarks ((upsN n p).foldl upsP l))) []
 | 0,l,p,hp,hn,_=>by have:=(yr hp).1.1; omega
 | n+1,l,p,hp,hn,hl=>by
  refine fnX (c:=zbF) mixed zbG (by simp) rfl fun hg=>?_
  refine dr ?_
  repeat (refine c0 (jD W0 _) rfl ?_; first | refine dr ?_ | exact dz)
  intro hg1
  rw [upsN]
  refine cP ?_ ?_<;>intro h1
  ·refine dr ?_
   rw [if_pos h1]; rfl
  rw [if_neg h1]
  obtain ⟨u1,_,u2⟩:=yu hp h1
  have e:((pUp p::upsN n (pUp p)).foldl upsP l)=(upsN n (pUp p)).foldl upsP (upsP l (pUp p)):=rfl
  rw [e,upsP]
  refine dr ?_
  repeat (refine c0 (zfY W0 _ _) rfl ?_; first | refine dr ?_ | exact dz)
  intro hg2
  refine cP ?_ ?_<;>intro h2
  ·rw [if_pos h2]
   have hpl:(lput l ⟨pUp p,2,[]⟩).length≤l.length+1:=yz
   refine dr ?_
   repeat (refine c0 (jt W0 _ ⟨pUp p,2,[]⟩ (by omega)) rfl ?_; first | refine dr ?_ | exact dz)
   intro hg3
   refine dr ?_
   repeat (refine c0 (ju W0 n _ _ u1 (by omega) (by omega)) rfl ?_; first | refine dr ?_ | exact dz)
   intro hg4
   exact dz
  ·rw [if_neg h2]
   refine dr ?_
   repeat (refine c0 (ju W0 n _ _ u1 (by omega) (by omega)) rfl ?_; first | refine dr ?_ | exact dz)
   intro hg4
   exact dz
def zbl:XC:=(.s (.r [.ex 4 (.asn (.k .nil) 3 133)]) (.s (.r [.ex 11 .bsl0,.a1 5 11 3 133]) (.s (.r [.mv 12 0,.mv 13 1,.c1 14 120 [12,13],.a1 6 14 1 9]) (.s (.s (.r [.m1 7 (.i 0)]) (.blk 0 (.loop (.s (.s (.r [.mv 15 7,.mv 16 6,.n1 17 16,.b1 18 .lss 15 17]) (.cnd 18 .skip (.exit 0))) (.s (.blk 1 (.s (.r [.mv 22 1,.mv 23 6,.mv 24 7,.i1 25 1 23 24,.l1 26 1 25,.c1 27 121 [22,26],.mv 21 27,.e1 28 21 0,.e1 29 21 1,.ex 8 (.alloc [sE,(B false),sE]),.s1 3 8 28,.mv 9 29]) (.s (.r [.mv 30 6,.mv 31 7,.i1 32 1 30 31,.l1 33 1 32,.ex 34 (.build [sE,(I 0),sE] [(0,(1,33)),(1,(1,(.i 3)))]),.ex 10 (.alloc [sE,(I 0),sE]),.s1 3 10 34]) (.s (.s (.r [.mv 35 9]) (.cnd 35 (.d [.mv 36 6,.mv 37 7,.i1 38 1 36 37,.l1 39 1 38,.f1 40 2 8,.l1 41 1 40,.ex 42 (.build [sE,(I 0),sE] [(0,(1,39)),(1,(1,(.i 1))),(2,(1,41))]),.s1 3 10 42]) .skip)) (.s (.s (.r [.mv 43 9,.mv 44 43,.gt 45 (.fa 1 8) 44,.gt 46 (.ld false 1 45) 44,.ex 47 (.pick 44 46 .n)]) (.cnd 47 (.r [.f1 48 1 10,.nu (.st 1 48 (.i 2))]) .skip)) (.s (.r [.mv 49 9,.mv 50 49,.gf 51 (.mv 1) 50,.gf 52 (.mv 6) 50,.gf 53 (.mv 7) 50,.gf 54 (.ia 1 52 53) 50,.gf 55 (.ld false 1 54) 50,.gf 56 (.call 123 [55]) 50,.gf 57 (.call 122 [51,56]) 50,.ex 58 (.pick 50 .y 57)]) (.cnd 58 (.d [.mv 59 5,.l2 60 3 10,.c1 61 125 [59,60],.mv 62 6,.mv 63 7,.i1 64 1 62 63,.l1 65 1 64,.c1 66 124 [61,65],.a1 5 66 3 133]) .skip))))))) (.r [.mv 19 7,.b1 20 .add 19 (.i 1),.mv 7 20])))))) (.s (.r [.mv 67 5,.a1 4 67 3 133]) .ret)))))
theorem zbm:compF Tryz.prog [] 76=some (zbl.ac,[(.t 4)],68):=by kernel_rfl
theorem zfT (W0:World) (a b:List Ent) (ha:tOk a=true) (hb:tOk b=true):Fn Tryz.prog W0 76 [eEnts a,eEnts b] (.c (eMarks (diff a b))) []:=by
 have la:=(yZ ha).1
 have lb:=(yZ hb).1
 have lt:=zoB (a:=a) (b:=b)
 have hok:∀ p∈turned a b,pOk p=true:=fun p hp=>zoC ha hb hp
 refine fnX (c:=zbl) mixed zbm (by simp) rfl fun hg=>?_
 refine dr ?_
 repeat (refine c0 (zfQ W0 _ _ (by omega)) rfl ?_; first | refine dr ?_ | exact dz)
 intro hg1
 rw [diff]
 generalize turned a b=L at *
 refine dr ?_
 refine lz (σ:=Nat) 80 (fun k=>[(1,.c (eEnts b)),(6,.c (eStrs L)),(5,.c (eMarks ((L.take k).foldl (difP b) []))),(7,I k)]) (fun _=>[]) (fun k=>k≤L.length) (fun k=>L.length - k) 0 (by simp) ?_ ?_
 ·refine dr ?_
  trivial
 intro k hk
 have hlk:=zhQ (b:=b) (L.take k) []
 have hlk2:=List.length_take_le' k L
 simp only [List.length_nil] at hlk
 refine dr ?_
 refine cP ?_ ?_<;>intro h1
 ·have hk':k < L.length:=by omega
  have hp:=hok _ (List.getElem_mem hk')
  have hc:=jp W0 b L[k]
  have hn:=(yr hp).1.2
  have hpl:∀ m,(lput ((L.take k).foldl (difP b) []) m).length≤((L.take k).foldl (difP b) []).length+1:=fun m=>yz
  cases hx:get b L[k] with
  | none =>
   rw [hx] at hc
   refine dr ?_
   repeat (refine c0 hc rfl ?_; first | refine dr ?_ | exact dz)
   intro hg2
   refine dr ?_
   repeat ((first | refine c0 (jD W0 _) rfl ?_ | refine c0 (jo W0 _ _) rfl ?_); first | refine dr ?_ | exact dz)
   intro hg3
   refine cP ?_ ?_<;>intro h2
   ·refine dEr ?_
    repeat ((first | refine c0 (jt W0 _ ⟨L[k],3,[]⟩ (by omega)) rfl ?_ | refine c0 (ju W0 3 _ _ hp hn (by have:=hpl ⟨L[k],3,[]⟩; omega)) rfl ?_); first | refine dEr ?_ | exact dz)
    refine ⟨k+1,by omega,by omega,?_⟩
    refine dr ?_
    repeat (refine oB (by rw [jV hk',difP,difM,hx]; simp only [if_pos h2]; rfl) ?_; first | refine dr ?_ | exact dz)
    trivial
   ·refine dr ?_
    refine ⟨k+1,by omega,by omega,?_⟩
    refine dr ?_
    repeat (refine oB (by rw [jV hk',difP,difM,hx]; simp [h2]) ?_; first | refine dr ?_ | exact dz)
    trivial
  | some e =>
   rw [hx] at hc
   refine dr ?_
   repeat (refine c0 hc rfl ?_; first | refine dr ?_ | exact dz)
   intro hg2
   refine dr ?_
   refine cP ?_ ?_<;>intro h2
   ·refine dEr ?_
    repeat ((first | refine c0 (jt W0 _ ⟨L[k],2,e.data⟩ (by omega)) rfl ?_ | refine c0 (ju W0 3 _ _ hp hn (by have:=hpl ⟨L[k],2,e.data⟩; omega)) rfl ?_); first | refine dEr ?_ | exact dz)
    refine ⟨k+1,by omega,by omega,?_⟩
    refine dr ?_
    repeat (refine oB (by rw [jV hk',difP,difM,hx]; simp only [if_pos h2]; rfl) ?_; first | refine dr ?_ | exact dz)
    trivial
   ·refine dEr ?_
    repeat ((first | refine c0 (jt W0 _ ⟨L[k],1,e.data⟩ (by omega)) rfl ?_ | refine c0 (ju W0 3 _ _ hp hn (by have:=hpl ⟨L[k],1,e.data⟩; omega)) rfl ?_); first | refine dEr ?_ | exact dz)
    refine ⟨k+1,by omega,by omega,?_⟩
    refine dr ?_
    repeat (refine oB (by rw [jV hk',difP,difM,hx]; simp [h2]; rfl) ?_; first | refine dr ?_ | exact dz)
    trivial
 have hkl:k=L.length:=by omega
 refine dr ?_
 rw [hkl,List.take_length]
end Go.Proofs.YteheahbjaddooaaGreatDoor

namespace Go.Proofs.YteheahbjaddooaaGreatDoor
set_option linter.unusedSimpArgs false
set_option linter.unusedVariables false
open Go Go.RowKit
def zbL:XC:=(.s (.r [.ex 1 (.box 0),.ex 2 (.asn (.k .nil) 3 39),.m1 3 .n]) (.s (.r [.f1 7 0 1,.l1 8 1 7,.a1 4 8 3 39]) (.s (.s (.r [.mv 9 4,.c1 10 119 [9],.ex 11 (.un .not 10),.mv 12 11,.gf 13 (.fa 1 1) 12,.gf 14 (.ld false 1 13) 12,.gf 15 (.len false 14) 12,.gf 16 (.bin .gtr 15 (.i 4)) 12,.ex 17 (.pick 12 .y 16)]) (.cnd 17 (.s (.r [.ex 18 .bsl0,.a1 2 18 3 39,.m1 3 .n]) .ret) .skip)) (.s (.s (.r [.m1 5 (.i 0)]) (.blk 0 (.loop (.s (.s (.r [.mv 19 5,.f1 20 1 1,.l1 21 1 20,.n1 22 21,.b1 23 .lss 19 22]) (.cnd 23 .skip (.exit 0))) (.s (.blk 1 (.s (.r [.m1 6 .n]) (.s (.r [.f1 27 1 1,.l1 28 1 27,.mv 29 5,.i1 30 1 28 29,.l1 31 1 30,.mv 32 4,.c1 33 111 [31,32],.mv 26 33,.e1 34 26 0,.e1 35 26 1,.a1 4 34 3 39,.mv 6 35]) (.s (.r [.mv 36 6,.ex 37 (.un .not 36)]) (.cnd 37 (.s (.r [.ex 38 .bsl0,.a1 2 38 3 39,.m1 3 .n]) .ret) .skip))))) (.r [.mv 24 5,.b1 25 .add 24 (.i 1),.mv 5 25])))))) (.s (.r [.ex 39 .bsl0,.mv 40 4,.ex 41 (.app true 3 40 39 39 40),.a1 2 41 3 39,.m1 3 .y]) .ret)))))
theorem zbM:compF Tryz.prog [] 74=some (zbL.ac,[(.t 2),(.t 3)],42):=by kernel_rfl
theorem zf5 (W0:World) (o:Over):Fn Tryz.prog W0 74 [eOver o] (.c (eEntsO (lower4 o))) []:=by
 refine fnX (c:=zbL) mixed zbM (by simp) rfl fun hg=>?_
 refine dEr ?_
 repeat (refine c0 (zgV W0 _) rfl ?_; first | refine dEr ?_ | exact dz)
 refine cP ?_ ?_<;>intro h1
 ·refine dr ?_
  rw [lower4,if_neg (by simp [h1])]; rfl
 refine dr ?_
 refine cP ?_ ?_<;>intro h2
 ·refine dr ?_
  rw [lower4,if_neg (by omega)]; rfl
 rw [lower4,if_pos ⟨h1,by omega⟩]
 refine dr ?_
 refine lp2 (fun (k:Nat) (t:List Ent)=>[(1,.ptr 16 0),(4,.c (eEnts t)),(5,I k)]) (fun _ _=>[(16,.box [.c (eEnts o.base),.c (eMarkss o.layers),.c (eMarks o.upper)])]) (fun k t=>k≤o.layers.length∧lowerA (o.layers.take k) o.base=some t∧tOk t=true) (fun k _=>o.layers.length - k) 0 o.base ⟨by simp,rfl,h1⟩ ?_ ?_
 ·refine dr ?_
  trivial
 rintro k t ⟨hk,ha,ht⟩
 refine dr ?_
 refine cP ?_ ?_<;>intro h3
 ·have hk':k < o.layers.length:=by omega
  have hn:lowerA (o.layers.take (k+1)) o.base=lOn o.layers[k] t:=by
   rw [List.take_succ_eq_append_getElem hk',qH,ha]
   simp only [lowerA]
   cases lOn o.layers[k] t<;>rfl
  have hc:=zgN W0 o.layers[k] t
  cases hx:lOn o.layers[k] t with
  | none =>
   rw [hx] at hc
   refine dr ?_
   repeat (refine c0 hc rfl ?_; first | refine dr ?_ | exact dz)
   intro hg1
   refine dr ?_
   have:lowerA o.layers o.base=none:=by
    have e:o.layers=o.layers.take (k+1)++o.layers.drop (k+1):=by rw [List.take_append_drop]
    rw [e,qH,hn,hx]
   rw [this]; rfl
  | some t' =>
   rw [hx] at hc
   refine dr ?_
   repeat (refine c0 hc rfl ?_; first | refine dr ?_ | exact dz)
   intro hg1
   refine dr ?_
   refine ⟨k+1,t',⟨by omega,by rw [hn,hx],qq hx⟩,by omega,?_⟩
   refine dr ?_
   trivial
 have hkl:k=o.layers.length:=by omega
 rw [hkl,List.take_length] at ha
 have hl:=(yZ ht).1
 refine dr ?_
 repeat (refine oB (by simp; omega) ?_; first | refine dr ?_ | exact dz)
 rw [ha]; rfl
def zbR:XC:=(.s (.r [.ex 1 (.box 0),.ex 2 (.asn (.k .nil) 3 39),.m1 3 .n]) (.s (.r [.l2 7 3 1,.c1 8 74 [7],.mv 6 8,.e1 9 6 0,.e1 10 6 1,.a1 4 9 3 39,.mv 5 10]) (.s (.s (.r [.mv 11 5,.ex 12 (.un .not 11)]) (.cnd 12 (.s (.r [.ex 13 .bsl0,.a1 2 13 3 39,.m1 3 .n]) .ret) .skip)) (.s (.r [.f1 14 2 1,.l1 15 1 14,.mv 16 4,.c1 17 111 [15,16],.e1 18 17 0,.e1 19 17 1,.a1 2 18 3 39,.mv 3 19]) .ret))))
theorem zbS:compF Tryz.prog [] 69=some (zbR.ac,[(.t 2),(.t 3)],20):=by kernel_rfl
theorem jv (W0:World) (o:Over):Fn Tryz.prog W0 69 [eOver o] (.c (eEntsO (view4 o))) []:=by
 refine fnX (c:=zbR) mixed zbS (by simp) rfl fun hg=>?_
 have hc:=zf5 W0 o
 cases hx:lower4 o with
 | none =>
  rw [hx] at hc
  refine dr ?_
  repeat (refine c0 hc rfl ?_; first | refine dr ?_ | exact dz)
  intro hg1
  refine dr ?_
  rw [view4,hx]; rfl
 | some t =>
  rw [hx] at hc
  have hv:view4 o=lOn o.upper t:=by rw [view4,hx]
  have hc2:=zgN W0 o.upper t
  rw [hv]
  cases hy:lOn o.upper t with
  | none =>
   rw [hy] at hc2
   refine dr ?_
   repeat (refine c0 hc rfl ?_; first | refine dr ?_ | exact dz)
   intro hg1
   refine dr ?_
   repeat (refine c0 hc2 rfl ?_; first | refine dr ?_ | exact dz)
   intro hg2
   refine dr ?_
   rfl
  | some x =>
   rw [hy] at hc2
   refine dr ?_
   repeat (refine c0 hc rfl ?_; first | refine dr ?_ | exact dz)
   intro hg1
   refine dr ?_
   repeat (refine c0 hc2 rfl ?_; first | refine dr ?_ | exact dz)
   intro hg2
   refine dr ?_
   rfl
def Y1:XC:=(.s (.r [.ex 1 (.box 0),.m1 2 .n]) (.s (.r [.l2 8 3 1,.c1 9 74 [8],.mv 7 9,.e1 10 7 0,.e1 11 7 1,.a1 3 10 3 39,.mv 4 11]) (.s (.r [.l2 13 3 1,.c1 14 69 [13],.mv 12 14,.e1 15 12 0,.e1 16 12 1,.a1 5 15 3 39,.mv 6 16]) (.s (.d [.mv 17 4,.mv 18 17,.gt 19 (.mv 6) 18,.ex 20 (.pick 18 19 .n),.mv 21 20,.gt 22 (.fa 2 1) 21,.gt 23 (.ld false 1 22) 21,.gt 24 (.mv 3) 21,.gt 25 (.mv 5) 21,.gt 26 (.call 76 [24,25]) 21,.gt 27 (.call 75 [23,26]) 21,.ex 28 (.pick 21 27 .n),.mv 2 28]) .ret))))
theorem Y2:compF Tryz.prog [] 25=some (Y1.ac,[(.t 2)],29):=by kernel_rfl
theorem jB (W0:World) (o:Over):Fn Tryz.prog W0 25 [eOver o] (.c (CB (oOk o))) []:=by
 refine fnX (c:=Y1) mixed Y2 (by simp) rfl fun hg=>?_
 have hc:=zf5 W0 o
 have hc2:=jv W0 o
 cases hx:lower4 o with
 | none =>
  have hv:view4 o=none:=by rw [view4,hx]
  rw [hx] at hc
  rw [hv] at hc2
  refine dr ?_
  repeat (refine c0 hc rfl ?_; first | refine dr ?_ | exact dz)
  intro hg1
  refine dr ?_
  repeat (refine c0 hc2 rfl ?_; first | refine dr ?_ | exact dz)
  intro hg2
  refine dr ?_
  rw [oOk,hx]
 | some t =>
  rw [hx] at hc
  cases hy:view4 o with
  | none =>
   rw [hy] at hc2
   refine dr ?_
   repeat (refine c0 hc rfl ?_; first | refine dr ?_ | exact dz)
   intro hg1
   refine dr ?_
   repeat (refine c0 hc2 rfl ?_; first | refine dr ?_ | exact dz)
   intro hg2
   refine dr ?_
   rw [oOk,hx,hy]
  | some x =>
   rw [hy] at hc2
   refine dr ?_
   repeat (refine c0 hc rfl ?_; first | refine dr ?_ | exact dz)
   intro hg1
   refine dr ?_
   repeat (refine c0 hc2 rfl ?_; first | refine dr ?_ | exact dz)
   intro hg2
   refine dr ?_
   repeat ((first | refine c0 (zfT W0 t x (zjR hx) (Zh hy)) rfl ?_ | refine c0 (zgO W0 _ _) rfl ?_); first | refine dr ?_ | exact dz)
   intro hg3
   refine dr ?_
   rw [oOk,hx,hy]
end Go.Proofs.YteheahbjaddooaaGreatDoor

namespace Go.Proofs.YteheahbjaddooaaGreatDoor
set_option linter.unusedSimpArgs false
set_option linter.unusedVariables false
open Go Go.RowKit
def zbj:XC:=(.s (.r [.m1 4 (.i 0)]) (.s (.s (.r [.mv 5 0,.b1 6 .eql 5 (.i 2),.mv 7 6,.gt 8 (.mv 1) 7,.gt 9 (.bin .neq 8 (.i 0)) 7,.ex 10 (.pick 7 9 .n),.mv 11 10,.gt 12 (.mv 1) 11,.gt 13 (.bin .neq 12 (.i 2)) 11,.ex 14 (.pick 11 13 .n)]) (.cnd 14 (.s (.r [.m1 4 (.i 4)]) .ret) .skip)) (.s (.r [.mv 15 0,.mv 4 15]) .ret)))
theorem zbk:compF Tryz.prog [] 246=some (zbj.ac,[(.t 4)],16):=by kernel_rfl
theorem zfS (W0:World) (a b:Int):Fn Tryz.prog W0 246 [CI a,CI b] (.c (CI (bothK a b))) []:=by
 refine fnX (c:=zbj) mixed zbk (by simp) rfl fun hg=>?_
 refine dr ?_
 refine cP ?_ ?_<;>intro h1
 ·refine dr ?_
  refine cP ?_ ?_<;>intro h2
  ·refine dr ?_
   refine cP ?_ ?_<;>intro h3
   ·refine dr ?_
    exact congrArg CI (by rw [bothK,if_pos ⟨h1,h2,h3⟩])
   ·refine dr ?_
    exact congrArg CI (by rw [bothK,if_neg (fun h=>h.2.2 h3)])
  ·refine dr ?_
   exact congrArg CI (by rw [bothK,if_neg (fun h=>h.2.1 h2)])
 ·refine dr ?_
  exact congrArg CI (by rw [bothK,if_neg (fun h=>h1 h.1)])
def zbD:XC:=(.s (.r [.ex 2 (.asn (.k .nil) 3 133)]) (.s (.r [.ex 6 .bsl0,.a1 3 6 3 133]) (.s (.s (.r [.m1 4 (.i 0)]) (.blk 0 (.loop (.s (.s (.r [.mv 7 4,.mv 8 0,.n1 9 8,.b1 10 .lss 7 9]) (.cnd 10 .skip (.exit 0))) (.s (.blk 1 (.s (.r [.mv 13 0,.mv 14 4,.i1 15 3 13 14,.l2 16 3 15,.ex 5 (.alloc [sE,(I 0),sE]),.s1 3 5 16]) (.s (.s (.r [.mv 17 3,.f1 18 0 5,.l1 19 1 18,.c1 20 206 [17,19]]) (.cnd 20 (.s (.s (.r [.f1 21 1 5,.l1 22 1 21,.b1 23 .eql 22 (.i 3)]) (.cnd 23 (.exit 1) .skip)) (.s (.r [.f1 24 1 5,.l1 25 1 24,.b1 26 .eql 25 (.i 4)]) (.cnd 26 (.r [.f1 27 1 5,.nu (.st 1 27 (.i 2))]) .skip))) .skip)) (.r [.mv 28 3,.l2 29 3 5,.ex 30 (.bsl 3 133 [29]),.ex 31 (.app false 3 40 133 28 30),.a1 3 31 3 133])))) (.r [.mv 11 4,.b1 12 .add 11 (.i 1),.mv 4 12])))))) (.s (.r [.mv 32 3,.a1 2 32 3 133]) .ret))))
theorem zbE:compF Tryz.prog [] 228=some (zbD.ac,[(.t 2)],33):=by kernel_rfl
theorem zok {out:List Mark} {m:Mark}:(tidyF out m).length≤out.length+1:=by
 unfold tidyF; split
 ·split<;>simp
 ·simp
theorem zf1 (W0:World) (l:List Mark) (hl:l.length≤1000000):Fn Tryz.prog W0 228 [eMarks l] (.c (eMarks (l.foldl tidyF []))) []:=by
 refine fnX (c:=zbD) mixed zbE (by simp) rfl fun hg=>?_
 refine dr ?_
 refine lp2 (fun (k:Nat) (out:List Mark)=>[(0,.c (eMarks l)),(3,.own 48 out.length),(4,I k)]) (fun _ out=>[(48,.row (out.map eMark) 3 133)]) (fun k out=>k≤l.length∧out=(l.take k).foldl tidyF []∧out.length≤k) (fun k _=>l.length - k) 0 [] ⟨by simp,rfl,by simp⟩ ?_ ?_
 ·refine dr ?_
  trivial
 rintro k out ⟨hk,ho,hle⟩
 refine dr ?_
 refine cP ?_ ?_<;>intro h1
 ·have hk':k < l.length:=by omega
  have hn:(l.take (k+1)).foldl tidyF []=tidyF out l[k]:=by rw [jV hk',← ho]
  have hn2:(tidyF out l[k]).length≤k+1:=by have:=zok (out:=out) (m:=l[k]); omega
  refine dr ?_
  repeat (refine c0 (jr W0 out _) rfl ?_; first | refine dr ?_ | exact dz)
  refine cP ?_ ?_<;>intro h2
  ·refine dr ?_
   refine cP ?_ ?_<;>intro h3
   ·refine dr ?_
    have e:tidyF out l[k]=out:=by rw [tidyF,if_pos h2,if_pos h3]
    refine ⟨k+1,out,⟨by omega,by rw [hn,e],by omega⟩,by omega,?_⟩
    refine dr ?_
    trivial
   ·refine dr ?_
    refine cP ?_ ?_<;>intro h4
    ·refine dr ?_
     repeat ((first | refine oB (by simp; omega) ?_ | refine oB (by simp) ?_); first | refine dr ?_ | exact dz)
     have e:tidyF out l[k]=out++[⟨l[k].path,2,l[k].data⟩]:=by rw [tidyF,if_pos h2,if_neg h3,if_pos h4]
     refine ⟨k+1,out++[⟨l[k].path,2,l[k].data⟩],⟨by omega,by rw [hn,e],by simp; omega⟩,by omega,?_⟩
     refine dr ?_
     repeat (refine oB (by simp<;>rfl) ?_; first | refine dr ?_ | exact dz)
     trivial
    ·refine dr ?_
     repeat ((first | refine oB (by simp; omega) ?_ | refine oB (by simp) ?_); first | refine dr ?_ | exact dz)
     have e:tidyF out l[k]=out++[l[k]]:=by rw [tidyF,if_pos h2,if_neg h3,if_neg h4]
     refine ⟨k+1,out++[l[k]],⟨by omega,by rw [hn,e],by simp; omega⟩,by omega,?_⟩
     refine dr ?_
     repeat (refine oB (by simp<;>rfl) ?_; first | refine dr ?_ | exact dz)
     trivial
  ·refine dr ?_
   repeat ((first | refine oB (by simp; omega) ?_ | refine oB (by simp) ?_); first | refine dr ?_ | exact dz)
   have e:tidyF out l[k]=out++[l[k]]:=by rw [tidyF,if_neg (by simp [h2])]
   refine ⟨k+1,out++[l[k]],⟨by omega,by rw [hn,e],by simp; omega⟩,by omega,?_⟩
   refine dr ?_
   repeat (refine oB (by simp<;>rfl) ?_; first | refine dr ?_ | exact dz)
   trivial
 have hkl:k=l.length:=by omega
 rw [hkl,List.take_length] at ho
 refine dr ?_
 repeat (refine oB (by simp) ?_; first | refine dr ?_ | exact dz)
 rw [ho]; rfl
def zbt:XC:=(.s (.r [.ex 4 (.asn (.k .nil) 3 133)]) (.s (.r [.ex 9 .bsl0,.a1 5 9 3 133]) (.s (.s (.r [.m1 6 (.i 0)]) (.blk 0 (.loop (.s (.s (.r [.mv 10 6,.mv 11 1,.n1 12 11,.b1 13 .lss 10 12]) (.cnd 13 .skip (.exit 0))) (.s (.blk 1 (.s (.r [.mv 16 0,.mv 17 1,.mv 18 6,.i1 19 3 17 18,.f1 20 0 19,.l1 21 1 20,.c1 22 207 [16,21],.ex 23 (.un .not 22),.mv 24 23,.gt 25 (.mv 0) 24,.gt 26 (.mv 1) 24,.gt 27 (.mv 6) 24,.gt 28 (.ia 3 26 27) 24,.gt 29 (.fa 0 28) 24,.gt 30 (.ld false 1 29) 24,.gt 31 (.call 181 [25,30]) 24,.gt 32 (.bin .eql 31 (.i 0)) 24,.ex 33 (.pick 24 32 .n)]) (.cnd 33 (.r [.mv 34 5,.mv 35 1,.mv 36 6,.i1 37 3 35 36,.l2 38 3 37,.c1 39 125 [34,38],.a1 5 39 3 133]) .skip))) (.r [.mv 14 6,.b1 15 .add 14 (.i 1),.mv 6 15])))))) (.s (.s (.r [.m1 7 (.i 0)]) (.blk 2 (.loop (.s (.s (.r [.mv 40 7,.mv 41 0,.n1 42 41,.b1 43 .lss 40 42]) (.cnd 43 .skip (.exit 2))) (.s (.blk 3 (.s (.r [.mv 46 0,.mv 47 7,.i1 48 3 46 47,.l2 49 3 48,.ex 8 (.alloc [sE,(I 0),sE]),.s1 3 8 49]) (.s (.d [.f1 50 1 8,.l1 51 1 50,.mv 52 1,.f1 53 0 8,.l1 54 1 53,.c1 55 181 [52,54],.c1 56 246 [51,55],.f1 57 1 8,.s1 1 57 56]) (.r [.mv 58 5,.l2 59 3 8,.c1 60 125 [58,59],.a1 5 60 3 133])))) (.r [.mv 44 7,.b1 45 .add 44 (.i 1),.mv 7 45])))))) (.s (.r [.mv 61 5,.a1 4 61 3 133]) .ret)))))
theorem zbu:compF Tryz.prog [] 229=some (zbt.ac,[(.t 4)],62):=by kernel_rfl
theorem zfX (W0:World) (a b:List Mark) (hl:a.length+b.length≤1000000):Fn Tryz.prog W0 229 [eMarks a,eMarks b] (.c (eMarks (join0 a b))) []:=by
 refine fnX (c:=zbt) mixed zbu (by simp) rfl fun hg=>?_
 refine dr ?_
 refine lz2 80 (fun (k:Nat) (out:List Mark)=>[(0,.c (eMarks a)),(1,.c (eMarks b)),(5,.c (eMarks out)),(6,I k)]) (fun _ _=>[]) (fun k out=>k≤b.length∧out=((b.take k).filter (joinB a)).foldl lput []∧out.length≤k) (fun k _=>b.length - k) 0 [] ⟨by simp,rfl,by simp⟩ ?_ ?_
 ·refine dr ?_
  trivial
 rintro k out ⟨hk,ho,hle⟩
 refine dr ?_
 refine cP ?_ ?_<;>intro h1
 ·have hk':k < b.length:=by omega
  have no:joinB a b[k]=false→out=((b.take (k+1)).filter (joinB a)).foldl lput []:=fun h=>by rw [jH hk' h,ho]
  have yes:joinB a b[k]=true→lput out b[k]=((b.take (k+1)).filter (joinB a)).foldl lput []:=fun h=>by rw [jI hk' h,List.foldl_append,← ho]; rfl
  refine dEr ?_
  repeat (refine c0 (zfV W0 _ _) rfl ?_; first | refine dEr ?_ | exact dz)
  refine cP ?_ ?_<;>intro h2
  ·refine dEr ?_
   repeat (refine c0 (zfY W0 _ _) rfl ?_; first | refine dEr ?_ | exact dz)
   refine cP ?_ ?_<;>intro h3
   ·have hpl:(lput out b[k]).length≤out.length+1:=yz
    refine dEr ?_
    repeat (refine c0 (jt W0 _ b[k] (by omega)) rfl ?_; first | refine dEr ?_ | exact dz)
    refine ⟨k+1,lput out b[k],⟨by omega,yes (by simp [joinB,h2,h3]),by omega⟩,by omega,?_⟩
    refine dr ?_
    trivial
   ·refine dr ?_
    refine ⟨k+1,out,⟨by omega,no (by simp [joinB,h3]),by omega⟩,by omega,?_⟩
    refine dr ?_
    trivial
  ·refine dr ?_
   refine ⟨k+1,out,⟨by omega,no (by simp [joinB,h2]),by omega⟩,by omega,?_⟩
   refine dr ?_
   trivial
 have hkl:k=b.length:=by omega
 rw [hkl,List.take_length] at ho
 have hj:join0 a b=(a.map (joinM b)).foldl lput out:=by rw [join0,ho]
 rw [hj]
 have hob:out.length≤b.length:=by omega
 clear ho hk hle hj h1 hkl
 generalize hoo:out=o0 at *
 refine dr ?_
 refine lp2 (fun (k:Nat) (out:List Mark)=>[(0,.c (eMarks a)),(1,.c (eMarks b)),(5,.c (eMarks out)),(7,I k)]) (fun _ _=>[]) (fun k out=>k≤a.length∧out=((a.take k).map (joinM b)).foldl lput o0∧out.length≤o0.length+k) (fun k _=>a.length - k) 0 o0 ⟨by simp,rfl,by simp⟩ ?_ ?_
 ·refine dr ?_
  trivial
 clear hoo
 rintro k out ⟨hk,ho,hle⟩
 refine dr ?_
 refine cP ?_ ?_<;>intro h1
 ·have hk':k < a.length:=by omega
  have hn:((a.take (k+1)).map (joinM b)).foldl lput o0=lput out (joinM b a[k]):=by
   rw [List.take_succ_eq_append_getElem hk',List.map_append,List.foldl_append,← ho]; rfl
  have hpl:(lput out (joinM b a[k])).length≤out.length+1:=yz
  refine dEr ?_
  repeat ((first | refine c0 (zfY W0 _ _) rfl ?_ | refine c0 (zfS W0 _ _) rfl ?_ | refine c0 (jt W0 _ (joinM b a[k]) (by omega)) rfl ?_); first | refine dEr ?_ | exact dz)
  refine ⟨k+1,_,⟨by omega,hn.symm,by omega⟩,by omega,?_⟩
  refine dr ?_
  trivial
 have hkl:k=a.length:=by omega
 rw [hkl,List.take_length] at ho
 refine dr ?_
 rw [ho]
def YN:XC:=(.s (.r [.ex 4 (.asn (.k .nil) 3 133),.m1 5 .n]) (.s (.s (.r [.mv 7 0,.c1 8 171 [7],.ex 9 (.un .not 8),.mv 10 9,.gf 11 (.mv 1) 10,.gf 12 (.call 171 [11]) 10,.gf 13 (.un .not 12) 10,.ex 14 (.pick 10 .y 13)]) (.cnd 14 (.s (.r [.ex 15 .bsl0,.a1 4 15 3 133,.m1 5 .n]) .ret) .skip)) (.s (.r [.mv 16 0,.mv 17 1,.c1 18 229 [16,17],.c1 19 228 [18],.a1 6 19 3 133]) (.s (.s (.r [.mv 20 6,.n1 21 20,.b1 22 .gtr 21 (.i 32)]) (.cnd 22 (.s (.r [.ex 23 .bsl0,.a1 4 23 3 133,.m1 5 .n]) .ret) .skip)) (.s (.r [.mv 24 6,.a1 4 24 3 133,.m1 5 .y]) .ret)))))
theorem YO:compF Tryz.prog [] 192=some (YN.ac,[(.t 4),(.t 5)],25):=by kernel_rfl
theorem zgM (W0:World) (a b:List Mark):Fn Tryz.prog W0 192 [eMarks a,eMarks b] (.c (eMarksO (lJoin a b))) []:=by
 refine fnX (c:=YN) mixed YO (by simp) rfl fun hg=>?_
 refine dEr ?_
 repeat (refine c0 (jA W0 _) rfl ?_; first | refine dEr ?_ | exact dz)
 refine cP ?_ ?_<;>intro h1
 ·refine dEr ?_
  rw [lJoin,if_neg (by simp [h1])]; rfl
 refine dEr ?_
 repeat (refine c0 (jA W0 _) rfl ?_; first | refine dEr ?_ | exact dz)
 refine cP ?_ ?_<;>intro h2
 ·refine dr ?_
  rw [lJoin,if_neg (by simp [h2])]; rfl
 have ga:=LG.of h1
 have gb:=LG.of h2
 have hla:=(qo.1 h1).1
 have hlb:=(qo.1 h2).1
 have hjl:(join0 a b).length≤1000000:=by
  have e1:(join0 a b).length≤((b.filter (joinB a)).foldl lput []).length+(a.map (joinM b)).length:=jW (key:=Mark.path) (a.map (joinM b)) ((b.filter (joinB a)).foldl lput [])
  have e2:((b.filter (joinB a)).foldl lput []).length≤0+(b.filter (joinB a)).length:=jW (key:=Mark.path) (b.filter (joinB a)) []
  have e3:=List.length_filter_le (joinB a) b
  rw [List.length_map] at e1
  omega
 have hc:=zf1 W0 (join0 a b) hjl
 rw [zop (qm ga gb)] at hc
 have e:lJoin a b=if (joinL a b).length≤32 then some (joinL a b) else none:=by rw [lJoin,if_pos (by simp [h1,h2])]
 rw [e]
 unfold joinL at *
 refine dr ?_
 repeat ((first | refine c0 (zfX W0 _ _ (by omega)) rfl ?_ | refine c0 hc rfl ?_); first | refine dr ?_ | exact dz)
 intro hg3 hg4
 refine dr ?_
 refine cP ?_ ?_<;>intro h3
 ·refine dr ?_
  rw [if_neg (by omega)]; rfl
 ·refine dr ?_
  rw [if_pos (by omega)]; rfl
end Go.Proofs.YteheahbjaddooaaGreatDoor

namespace Go.Proofs.YteheahbjaddooaaGreatDoor
set_option linter.unusedSimpArgs false
set_option linter.unusedVariables false
open Go Go.RowKit
theorem aCode {k:Int} {s:Str} {K:CV→Prop} (h1:0≤k) (h2:k < s.length) (h:∀ n:Int,0≤n→n≤255→K (CU n)):AtX k (s.map fun b=>CU b.toNat) K:=by
 have hk:k.toNat < s.length:=by omega
 refine ⟨k.toNat,by omega,_,?_,h (s[k.toNat].toNat:Int) (by omega) ?_⟩
 ·rw [List.getElem?_map,List.getElem?_eq_getElem hk]; rfl
 ·have:=UInt8.toNat_lt s[k.toNat]; omega
theorem aX {α:Type} {f:α→CV} {L:List α} {k:Int} {K:CV→Prop} (h1:0≤k) (h2:k < L.length) (h:∀ x∈L,K (f x)):AtX k (L.map f) K:=by
 have hk:k.toNat < L.length:=by omega
 exact ⟨k.toNat,by omega,_,by rw [List.getElem?_map,List.getElem?_eq_getElem hk]; rfl,h _ (List.getElem_mem hk)⟩
theorem zpi {a b:Int} (ha:0≤a) (ha2:a < 4611686018427387904) (hb:0≤b) (hb2:b < 4611686018427387904):0≤IntKind.wrap .i64 ((BitVec.ofInt (IntKind.bits .i64) a ^^^ BitVec.ofInt (IntKind.bits .i64) b).toNat:Int):=by
 have e:∀ x:Int,0≤x→x < 4611686018427387904→(BitVec.ofInt 64 x).toNat=x.toNat:=fun x h1 h2=>by
  rw [BitVec.toNat_ofInt]; omega
 show 0≤IntKind.wrap .i64 ((BitVec.ofInt 64 a ^^^ BitVec.ofInt 64 b).toNat:Int)
 rw [BitVec.toNat_xor,e a ha ha2,e b hb hb2]
 have h:a.toNat ^^^ b.toNat < 2 ^ 62:=Nat.xor_lt_two_pow (by omega) (by omega)
 rw [zpf (by omega)]
 omega
theorem lset {α:Type} {f:α→CV} {t:List α} {k:Nat} {x:CV}:((t.map f).set k x).length=t.length:=by simp
theorem rset {α:Type} {f:α→CV} {t:List α} {k:Nat} {x:α} {y:CV} (e:f x=y:=by rfl):PV.c (.row ((t.map f).set k y)) = .c (.row ((t.set k x).map f)):=by rw [List.map_set,e]
theorem lapp {α:Type} {f:α→CV} {t:List α} {x:CV}:(t.map f++[x]).length=t.length+1:=by simp
theorem rapp {α:Type} {f:α→CV} {t:List α} {x:α}:PV.c (.row (t.map f++[f x])) = .c (.row ((t++[x]).map f)):=by rw [List.map_append]; rfl
theorem retI {k0:List Nat} {m:XM} {ok:Int→Prop} {M:Int→XM} {x:Int} (h:ok x) (hk:KeepX k0 none [(0,.c (CI x))] m [(0,.c (CI x))] (M x)):RetX k0 (.c (CI x)) m (fun r mx=>∃ a,ok a∧r = .c (CI a)∧mx=M a):=⟨none,_,_,hk,x,h,rfl,rfl⟩
theorem cutp2 {k0:List Nat} {a:(Fr→XM→Prop)→Fr→XM→Prop} {b:Fr→XM→Prop} {F:Fr} {m:XM} {α β:Type} (fr:α→β→Fr) (mm:α→β→XM) (inv:α→β→Prop)
  (ha:a (fun F' m'=>∃ x y,inv x y∧KeepX k0 none F' m' (fr x y) (mm x y)) F m) (hb:∀ x y,inv x y→b (fr x y) (mm x y)):CutX k0 a b F m :=
 ⟨α × β,fun x=>fr x.1 x.2,fun x=>mm x.1 x.2,fun x=>inv x.1 x.2,none,fun F' m'=>∃ x y,inv x y∧KeepX k0 none F' m' (fr x y) (mm x y),ha,fun _ _ ⟨x,y,h⟩=>⟨(x,y),h⟩,fun x h=>hb x.1 x.2 h⟩
theorem lz3 {k0:List Nat} {body:(Fr→XM→Prop)→Fr→XM→Prop} {F:Fr} {m:XM} {α β γ:Type} (z:Nat) (fr:α→β→γ→Fr) (mm:α→β→γ→XM) (inv:α→β→γ→Prop) (me:α→β→γ→Nat) (a0:α) (b0:β) (c0:γ) (h0:inv a0 b0 c0) (hk:KeepX k0 (some z) F m (fr a0 b0 c0) (mm a0 b0 c0))
  (hb:∀ a b c,inv a b c→body (fun F' m'=>∃ a' b' c',inv a' b' c'∧me a' b' c' < me a b c∧KeepX k0 none F' m' (fr a' b' c') (mm a' b' c')) (fr a b c) (mm a b c)):LoopX k0 body F m :=
 ⟨α × β × γ,fun x=>fr x.1 x.2.1 x.2.2,fun x=>mm x.1 x.2.1 x.2.2,fun x=>inv x.1 x.2.1 x.2.2,fun x=>me x.1 x.2.1 x.2.2,some z,none,fun x F' m'=>∃ a' b' c',inv a' b' c'∧me a' b' c' < me x.1 x.2.1 x.2.2∧KeepX k0 none F' m' (fr a' b' c') (mm a' b' c'),
  ⟨(a0,b0,c0),h0,hk⟩,fun _ _ _ ⟨a,b,c,h⟩=>⟨(a,b,c),h⟩,fun x h=>hb x.1 x.2.1 x.2.2 h⟩
abbrev Rd (s:Str) (p:Int):XM:=[(1,.box [.c (eCode s),.c (CI p)])]
def YF:XC:=(.s (.r [.m1 4 (.i 0)]) (.s (.r [.mv 7 0,.mv 8 0,.ex 9 (.nck 8),.f1 10 1 9,.l1 11 1 10,.b1 12 .add 11 (.i 1),.ex 13 (.nck 7),.f1 14 1 13,.s1 1 14 12]) (.s (.s (.r [.mv 15 1,.b1 16 .lss 15 (.i 1),.mv 17 16,.gf 18 (.mv 0) 17,.gf 19 (.nck 18) 17,.gf 20 (.fa 0 19) 17,.gf 21 (.ld false 1 20) 17,.gf 22 (.len false 21) 17,.gf 23 (.bin .eql 22 (.i 0)) 17,.ex 24 (.pick 17 .y 23)]) (.cnd 24 (.s (.r [.m1 4 (.i 0)]) .ret) .skip)) (.s (.r [.mv 25 0,.ex 26 (.nck 25),.f1 27 1 26,.l1 28 1 27,.b1 29 .sub 28 (.i 1),.mv 5 29]) (.s (.s (.r [.mv 30 5,.mv 31 0,.ex 32 (.nck 31),.f1 33 0 32,.l1 34 1 33,.n1 35 34,.b1 36 .lss 30 35]) (.cnd 36 (.s (.r [.mv 37 0,.ex 38 (.nck 37),.f1 39 0 38,.l1 40 1 39,.mv 41 5,.i1 42 1 40 41,.l1 43 1 42,.ex 44 (.conv .i64 43),.mv 45 1,.b1 46 .rem 44 45,.mv 4 46]) .ret) .skip)) (.s (.d [.mv 47 0,.ex 48 (.nck 47),.f1 49 0 48,.l1 50 1 49,.mv 51 5,.mv 52 0,.ex 53 (.nck 52),.f1 54 0 53,.l1 55 1 54,.n1 56 55,.b1 57 .rem 51 56,.i1 58 1 50 57,.l1 59 1 58,.ex 60 (.conv .i64 59),.b1 61 .mul 60 (.i 131),.mv 62 0,.ex 63 (.nck 62),.f1 64 0 63,.l1 65 1 64,.mv 66 5,.b1 67 .mul 66 (.i 7),.b1 68 .add 67 (.i 3),.mv 69 0,.ex 70 (.nck 69),.f1 71 0 70,.l1 72 1 71,.n1 73 72,.b1 74 .rem 68 73,.i1 75 1 65 74,.l1 76 1 75,.ex 77 (.conv .i64 76),.b1 78 .mul 77 (.i 1117),.b1 79 .add 61 78,.mv 80 5,.b1 81 .mul 80 (.i 29),.b1 82 .add 79 81,.mv 83 5,.mv 84 0,.ex 85 (.nck 84),.f1 86 0 85,.l1 87 1 86,.n1 88 87,.b1 89 .quo 83 88,.b1 90 .mul 89 (.i 53),.b1 91 .add 82 90,.mv 6 91]) (.s (.r [.mv 92 6,.mv 93 6,.b1 94 .quo 93 (.i 64),.b1 95 .xor 92 94,.mv 6 95]) (.s (.r [.mv 96 6,.mv 97 1,.b1 98 .rem 96 97,.mv 4 98]) .ret))))))))
theorem YG:compF Tryz.prog [] 38=some (YF.ac,[(.t 4)],99):=by kernel_rfl
theorem jy (W0:World) (s:Str) (p n:Int) (hs:s.length≤2000) (hp:0≤p∧p≤1000000) (hn:n≤1000000) :
  FunW Tryz.prog W0 38 [.ptr 1 0,.c (CI n)] (Rd s p) (fun k:Int=>0≤k∧(1≤n→k < n)) (fun k => .c (CI k)) (fun _=>Rd s (p+1)):=by
 refine funW (c:=YF) mixed YG (by simp) rfl rfl fun hg=>?_
 refine dr ?_
 refine cP ?_ ?_<;>intro h1
 ·refine dr ?_
  refine retI (x:=0) ⟨by omega,by omega⟩ ?_
  refine dr ?_
  trivial
 refine dr ?_
 refine cP ?_ ?_<;>intro h2
 ·refine dr ?_
  refine retI (x:=0) ⟨by omega,by omega⟩ ?_
  refine dr ?_
  trivial
 have fin:∀ x:Int,0≤x % n∧(1≤n→x % n < n):=fun x=>⟨Int.emod_nonneg _ (by omega),fun _=>Int.emod_lt_of_pos _ (by omega)⟩
 have hl:0 < (s.length:Int):=by omega
 have hq:0≤(p+1 - 1) / (s.length:Int)∧(p+1 - 1) / (s.length:Int)≤p+1 - 1:=⟨Int.ediv_nonneg (by omega) (by omega),Int.ediv_le_self _ (by omega)⟩
 refine dr ?_
 refine cP ?_ ?_<;>intro h3
 ·refine dr ?_
  repeat (refine aCode (by omega) (by omega) fun v hv0 hv1=>?_; first | refine dr ?_ | exact dz)
  refine retI (fin v) ?_
  refine dr ?_
  trivial
 ·refine dr ?_
  repeat ((first | refine aCode (Int.emod_nonneg _ (by omega)) (Int.emod_lt_of_pos _ (by omega)) fun v hv0 hv1=>?_ | refine oB ⟨zpi (by omega) (by omega) (by omega) (by omega),by omega,by omega⟩ ?_); first | refine dr ?_ | exact dz)
  refine retI (fin _) ?_
  refine dr ?_
  trivial
def zan:XC:=(.s (.r [.ex 2 (.mv (.k .np))]) (.s (.s (.r [.mv 3 0,.n1 4 3,.b1 5 .gtr 4 (.i 2000)]) (.cnd 5 (.r [.mv 6 0,.ex 7 (.slr 1 6 .none (.some (.i 2000))),.a1 0 7 1 5]) .skip)) (.s (.r [.mv 8 0,.ex 9 (.build [.nil,(I 0)] [(0,(1,8))]),.ex 10 (.box 9),.mv 2 10]) .ret)))
theorem zao:compF Tryz.prog [] 33=some (zan.ac,[(.t 2)],11):=by kernel_rfl
theorem zfu (W0:World) (s:Str):FunW Tryz.prog W0 33 [.c (eCode s)] [] (fun x:Str=>x.length≤2000) (fun _ => .ptr 160 0) (fun x=>[(160,.box [.c (eCode x),.c (CI 0)])]):=by
 refine funW (c:=zan) mixed zao (by simp) rfl rfl fun hg=>?_
 refine dr ?_
 refine cP ?_ ?_<;>intro h1
 ·refine dr ?_
  repeat (refine sHiM 2000 rfl (by omega) ?_; first | refine dr ?_ | exact dz)
  refine ⟨none,_,_,?_,s.take 2000,by simp; omega,rfl,rfl⟩
  refine dr ?_
  trivial
 ·refine dr ?_
  refine ⟨none,_,_,?_,s,by omega,rfl,rfl⟩
  refine dr ?_
  trivial
theorem zft (W0:World) (s:Str):FunW Tryz.prog W0 33 [.c (eCode s)] [] (fun x:Str=>x.length≤2000) (fun _ => .ptr 1 0) (fun x=>Rd x 0):=(zfu W0 s).swp 160 1
def YH:XC:=(.s (.r [.m1 4 (.i 0)]) (.s (.r [.mv 5 1,.mv 6 0,.mv 7 1,.n1 8 7,.o1 9 38 [6,8],.i1 10 1 5 9,.l1 11 1 10,.mv 4 11]) .ret))
theorem YI:compF Tryz.prog [38] 36=some (YH.ac,[(.t 4)],12):=by kernel_rfl
theorem jx (W0:World) (s:Str) (p:Int) (l:List Int) (hs:s.length≤2000) (hp:0≤p∧p≤1000000) (hl:1≤l.length∧l.length≤1000) :
  FunW Tryz.prog W0 36 [.ptr 1 0,.c (eInts l)] (Rd s p) (fun x:Int=>x∈l) (fun x => .c (CI x)) (fun _=>Rd s (p+1)):=by
 refine funW (c:=YH) mixed YI (by simp) rfl rfl fun hg=>?_
 refine dr ?_
 refine oW (jy W0 s p l.length hs hp (by omega)) rfl ⟨rfl,trivial⟩ rfl rfl ⟨0,by omega,by omega⟩ fun k hk=>⟨rfl,?_⟩
 refine dr ?_
 refine aX hk.1 (hk.2 (by omega)) fun x hx=>?_
 refine dEr ?_
 refine ⟨none,_,_,?_,x,hx,rfl,rfl⟩
 refine dr ?_
 trivial
def YJ:XC:=(.s (.r [.ex 4 (.mv (.s []))]) (.s (.r [.mv 5 1,.mv 6 0,.mv 7 1,.n1 8 7,.o1 9 38 [6,8],.i1 10 1 5 9,.l1 11 1 10,.mv 4 11]) .ret))
theorem YK:compF Tryz.prog [38] 95=some (YJ.ac,[(.t 4)],12):=by kernel_rfl
theorem f_of (W0:World) (s:Str) (p:Int) (l:List Str) (hs:s.length≤2000) (hp:0≤p∧p≤1000000) (hl:1≤l.length∧l.length≤1000) :
  FunW Tryz.prog W0 95 [.ptr 1 0,.c (eStrs l)] (Rd s p) (fun x:Str=>x∈l) (fun x => .c (CS x)) (fun _=>Rd s (p+1)):=by
 refine funW (c:=YJ) mixed YK (by simp) rfl rfl fun hg=>?_
 refine dr ?_
 refine oW (jy W0 s p l.length hs hp (by omega)) rfl ⟨rfl,trivial⟩ rfl rfl ⟨0,by omega,by omega⟩ fun k hk=>⟨rfl,?_⟩
 refine dr ?_
 refine aX hk.1 (hk.2 (by omega)) fun x hx=>?_
 refine dEr ?_
 refine ⟨none,_,_,?_,x,hx,rfl,rfl⟩
 refine dr ?_
 trivial
def drawnPaths:List Str:=[[47,97],[47,98],[47,97,47,98],[47,97,47,99],[47,98,47,97],[47,97,98],[47,97,47,98,47,99],[47,97,47,98,47,97],[47,98,47,98],[47,99]]
def drawnData:List Str:=[[],[120],[121],[49,50],[97,98,99],[122,57]]
def zav:XC:=(.s (.r [.ex 2 (.mv (.s []))]) (.s (.r [.mv 3 0,.ex 4 (.bsl 1 9 [(.s [47,97]),(.s [47,98]),(.s [47,97,47,98]),(.s [47,97,47,99]),(.s [47,98,47,97]),(.s [47,97,98]),(.s [47,97,47,98,47,99]),(.s [47,97,47,98,47,97]),(.s [47,98,47,98]),(.s [47,99])]),.o1 5 95 [3,4],.mv 2 5]) .ret))
theorem zaw:compF Tryz.prog [95] 92=some (zav.ac,[(.t 2)],6):=by kernel_rfl
theorem zfy (W0:World) (s:Str) (p:Int) (hs:s.length≤2000) (hp:0≤p∧p≤1000000) :
  FunW Tryz.prog W0 92 [.ptr 1 0] (Rd s p) (fun x:Str=>x∈drawnPaths) (fun x => .c (CS x)) (fun _=>Rd s (p+1)):=by
 refine funW (c:=zav) mixed zaw (by simp) rfl rfl fun hg=>?_
 refine dr ?_
 refine oW (f_of W0 s p drawnPaths hs hp (by decide)) rfl ⟨rfl,trivial⟩ rfl rfl ⟨_,List.mem_cons_self⟩ fun x hx=>⟨rfl,?_⟩
 refine dEr ?_
 refine ⟨none,_,_,?_,x,hx,rfl,rfl⟩
 refine dr ?_
 trivial
def za7:XC:=(.s (.r [.ex 2 (.mv (.s []))]) (.s (.r [.mv 3 0,.ex 4 (.bsl 1 9 [(.s []),(.s [120]),(.s [121]),(.s [49,50]),(.s [97,98,99]),(.s [122,57])]),.o1 5 95 [3,4],.mv 2 5]) .ret))
theorem za8:compF Tryz.prog [95] 173=some (za7.ac,[(.t 2)],6):=by kernel_rfl
theorem zfO (W0:World) (s:Str) (p:Int) (hs:s.length≤2000) (hp:0≤p∧p≤1000000) :
  FunW Tryz.prog W0 173 [.ptr 1 0] (Rd s p) (fun x:Str=>x∈drawnData) (fun x => .c (CS x)) (fun _=>Rd s (p+1)):=by
 refine funW (c:=za7) mixed za8 (by simp) rfl rfl fun hg=>?_
 refine dr ?_
 refine oW (f_of W0 s p drawnData hs hp (by decide)) rfl ⟨rfl,trivial⟩ rfl rfl ⟨_,List.mem_cons_self⟩ fun x hx=>⟨rfl,?_⟩
 refine dEr ?_
 refine ⟨none,_,_,?_,x,hx,rfl,rfl⟩
 refine dr ?_
 trivial
end Go.Proofs.YteheahbjaddooaaGreatDoor

namespace Go.Proofs.YteheahbjaddooaaGreatDoor
set_option linter.unusedSimpArgs false
set_option linter.unusedVariables false
open Go Go.RowKit
theorem lq {k0:List Nat} {body:(Fr→XM→Prop)→Fr→XM→Prop} {F:Fr} {m:XM} {σ:Type} (fr:σ→Fr) (mm:σ→XM) (inv:σ→Prop) (me:σ→Nat) (x0:σ) (h0:inv x0) (hk:KeepX k0 (some 3) F m (fr x0) (mm x0))
  (hb:∀ x,inv x→body (fun F' m'=>∃ x',inv x'∧me x' < me x∧KeepX k0 (some 3) F' m' (fr x') (mm x')) (fr x) (mm x)):LoopX k0 body F m :=
 ⟨σ,fr,mm,inv,me,some 3,some 3,_,⟨x0,h0,hk⟩,fun _ _ _ h=>h,hb⟩
theorem lq3 {k0:List Nat} {body:(Fr→XM→Prop)→Fr→XM→Prop} {F:Fr} {m:XM} {α β γ:Type} (fr:α→β→γ→Fr) (mm:α→β→γ→XM) (inv:α→β→γ→Prop) (me:α→β→γ→Nat) (a0:α) (b0:β) (c0:γ) (h0:inv a0 b0 c0) (hk:KeepX k0 (some 3) F m (fr a0 b0 c0) (mm a0 b0 c0))
  (hb:∀ a b c,inv a b c→body (fun F' m'=>∃ a' b' c',inv a' b' c'∧me a' b' c' < me a b c∧KeepX k0 (some 3) F' m' (fr a' b' c') (mm a' b' c')) (fr a b c) (mm a b c)):LoopX k0 body F m :=
 ⟨α × β × γ,fun x=>fr x.1 x.2.1 x.2.2,fun x=>mm x.1 x.2.1 x.2.2,fun x=>inv x.1 x.2.1 x.2.2,fun x=>me x.1 x.2.1 x.2.2,some 3,some 3,fun x F' m'=>∃ a' b' c',inv a' b' c'∧me a' b' c' < me x.1 x.2.1 x.2.2∧KeepX k0 (some 3) F' m' (fr a' b' c') (mm a' b' c'),
  ⟨(a0,b0,c0),h0,hk⟩,fun _ _ _ ⟨a,b,c,h⟩=>⟨(a,b,c),h⟩,fun x h=>hb x.1 x.2.1 x.2.2 h⟩
structure OZ (k:Nat) (o:Over):Prop where
 b:o.base.length≤k
 n:o.layers.length≤k
 l:∀ l∈o.layers,l.length≤k
 u:o.upper.length≤k
theorem OS.oz {o:Over} (h:OS o):OZ 32 o:=⟨by have:=h.b; omega,by have:=h.n; omega,h.l,h.u⟩
theorem OZ.mono {o:Over} {n m:Nat} (h:OZ n o) (hm:n≤m):OZ m o:=⟨by have:=h.b; omega,by have:=h.n; omega,fun l hl=>by have:=h.l l hl; omega,by have:=h.u; omega⟩
def zbJ:XC:=(.s (.r [.ex 1 (.box 0),.ex 2 (.alloc [.nil,.nil,.nil])]) (.s (.d [.ex 5 .bsl0,.f1 6 0 1,.l1 7 1 6,.ex 8 (.app true 3 40 39 5 7),.ex 9 .bsl0,.f1 10 2 1,.l1 11 1 10,.ex 12 (.app true 3 40 133 9 11),.ex 13 (.build [.nil,.nil,.nil] [(0,(1,8)),(2,(1,12))]),.ex 3 (.alloc [.nil,.nil,.nil]),.s1 3 3 13]) (.s (.s (.r [.m1 4 (.i 0)]) (.blk 0 (.loop (.s (.s (.r [.mv 14 4,.f1 15 1 1,.l1 16 1 15,.n1 17 16,.b1 18 .lss 14 17]) (.cnd 18 .skip (.exit 0))) (.s (.blk 1 (.d [.f1 21 1 3,.l1 22 1 21,.ex 23 .bsl0,.f1 24 1 1,.l1 25 1 24,.mv 26 4,.i1 27 1 25 26,.l1 28 1 27,.ex 29 (.app true 3 40 133 23 28),.ex 30 (.bsl 1 25 [29]),.ex 31 (.app false 1 24 25 22 30),.f1 32 1 3,.s1 1 32 31])) (.r [.mv 19 4,.b1 20 .add 19 (.i 1),.mv 4 20])))))) (.s (.r [.l2 33 3 3,.s1 3 2 33]) .ret))))
theorem zbK:compF Tryz.prog [] 102=some (zbJ.ac,[(.cell 2 true 3)],34):=by kernel_rfl
theorem zf3 (W0:World) (o:Over) (h:OZ 1000000 o):FunW Tryz.prog W0 102 [.c (eOver o)] [] (fun _:Unit=>True) (fun _ => .agg [.c (eEnts o.base),.own 4 o.layers.length,.c (eMarks o.upper)]) (fun _=>[(4,.row (o.layers.map eMarks) 1 25)]):=by
 refine funW (c:=zbJ) mixed zbK (by simp) rfl rfl fun hg=>?_
 obtain ⟨z1,z2,z3,z4⟩:=h
 refine dr ?_
 refine lq (σ:=Nat) (fun k=>[(1,.ptr 16 0),(2,.ptr 32 0),(3,.ptr 48 0),(4,I k)]) (fun k=>[(4,.row ((o.layers.take k).map eMarks) 1 25),(16,.box [.c (eEnts o.base),.c (eMarkss o.layers),.c (eMarks o.upper)]),(32,.box [.nil,.nil,.nil]),(48,.box [.c (eEnts o.base),.own 4 k,.c (eMarks o.upper)])]) (fun k=>k≤o.layers.length) (fun k=>o.layers.length - k) 0 (by simp) ?_ ?_
 ·refine KeepX.trans (z:=some 128) (z':=some 3) (F1:=[(1,.ptr 16 0),(2,.ptr 32 0),(3,.ptr 48 0),(4,I 0)]) (m1:=[(16,.box [.c (eEnts o.base),.c (eMarkss o.layers),.c (eMarks o.upper)]),(32,.box [.nil,.nil,.nil]),(48,.box [.c (eEnts o.base),.nil,.own 192 o.upper.length]),(192,.row (o.upper.map eMark) 3 133)]) ?_ ?_
  ·refine dr ?_
   repeat (refine oB (by simp<;>rfl) ?_; first | refine dr ?_ | exact dz)
   trivial
  refine KeepX.trans (z:=some 192) (z':=some 3) (F1:=[(1,.ptr 16 0),(2,.ptr 32 0),(3,.ptr 48 0),(4,I 0)]) (m1:=[(16,.box [.c (eEnts o.base),.c (eMarkss o.layers),.c (eMarks o.upper)]),(32,.box [.nil,.nil,.nil]),(48,.box [.c (eEnts o.base),.nil,.c (eMarks o.upper)])]) ?_ ?_
  ·refine dr ?_
   repeat (refine oB (by simp<;>rfl) ?_; first | refine dr ?_ | exact dz)
   trivial
  ·show KeepS _ _ _ _ _
   exact KeepS.nilB 48 [.c (eEnts o.base),.nil,.c (eMarks o.upper)] [.c (eEnts o.base),.own 4 0,.c (eMarks o.upper)] 4 25 rfl rfl ⟨nr0,nr1,nr0,trivial⟩
 intro k hk
 refine dr ?_
 refine cP ?_ ?_<;>intro h1
 ·have hk':k < o.layers.length:=by omega
  have hz:=z3 _ (List.getElem_mem hk')
  refine dr ?_
  repeat ((first | refine oB (by simp; omega) ?_ | refine oB (by simp) ?_); first | refine dr ?_ | exact dz)
  refine ⟨k+1,by omega,by omega,?_⟩
  rw [List.take_succ_eq_append_getElem hk',List.map_append]
  refine KeepS.push (C:=(o.layers.take k).map eMarks) (L:=o.layers[k].map eMark) 4 464 rfl rfl (by simp) ?_
  refine dr ?_
  trivial
 have hkl:k=o.layers.length:=by omega
 subst hkl
 rw [List.take_length]
 refine dr ?_
 refine ⟨none,_,_,?_,(),trivial,rfl,rfl⟩
 refine dr ?_
 trivial
theorem zf4 (W0:World) (o:Over) (h:OZ 1000000 o):Fn Tryz.prog W0 102 [eOver o] (.c (eOver o)) []:=by
 refine fnX (c:=zbJ) mixed zbK (by simp) rfl fun hg=>?_
 obtain ⟨z1,z2,z3,z4⟩:=h
 refine dr ?_
 refine lq (σ:=Nat) (fun k=>[(1,.ptr 16 0),(2,.ptr 32 0),(3,.ptr 48 0),(4,I k)]) (fun k=>[(4,.row ((o.layers.take k).map eMarks) 1 25),(16,.box [.c (eEnts o.base),.c (eMarkss o.layers),.c (eMarks o.upper)]),(32,.box [.nil,.nil,.nil]),(48,.box [.c (eEnts o.base),.own 4 k,.c (eMarks o.upper)])]) (fun k=>k≤o.layers.length) (fun k=>o.layers.length - k) 0 (by simp) ?_ ?_
 ·refine KeepX.trans (z:=some 128) (z':=some 3) (F1:=[(1,.ptr 16 0),(2,.ptr 32 0),(3,.ptr 48 0),(4,I 0)]) (m1:=[(16,.box [.c (eEnts o.base),.c (eMarkss o.layers),.c (eMarks o.upper)]),(32,.box [.nil,.nil,.nil]),(48,.box [.c (eEnts o.base),.nil,.own 192 o.upper.length]),(192,.row (o.upper.map eMark) 3 133)]) ?_ ?_
  ·refine dr ?_
   repeat (refine oB (by simp<;>rfl) ?_; first | refine dr ?_ | exact dz)
   trivial
  refine KeepX.trans (z:=some 192) (z':=some 3) (F1:=[(1,.ptr 16 0),(2,.ptr 32 0),(3,.ptr 48 0),(4,I 0)]) (m1:=[(16,.box [.c (eEnts o.base),.c (eMarkss o.layers),.c (eMarks o.upper)]),(32,.box [.nil,.nil,.nil]),(48,.box [.c (eEnts o.base),.nil,.c (eMarks o.upper)])]) ?_ ?_
  ·refine dr ?_
   repeat (refine oB (by simp<;>rfl) ?_; first | refine dr ?_ | exact dz)
   trivial
  ·show KeepS _ _ _ _ _
   exact KeepS.nilB 48 [.c (eEnts o.base),.nil,.c (eMarks o.upper)] [.c (eEnts o.base),.own 4 0,.c (eMarks o.upper)] 4 25 rfl rfl ⟨nr0,nr1,nr0,trivial⟩
 intro k hk
 refine dr ?_
 refine cP ?_ ?_<;>intro h1
 ·have hk':k < o.layers.length:=by omega
  have hz:=z3 _ (List.getElem_mem hk')
  refine dr ?_
  repeat ((first | refine oB (by simp; omega) ?_ | refine oB (by simp) ?_); first | refine dr ?_ | exact dz)
  refine ⟨k+1,by omega,by omega,?_⟩
  rw [List.take_succ_eq_append_getElem hk',List.map_append]
  refine KeepS.push (C:=(o.layers.take k).map eMarks) (L:=o.layers[k].map eMark) 4 464 rfl rfl (by simp) ?_
  refine dr ?_
  trivial
 have hkl:k=o.layers.length:=by omega
 subst hkl
 rw [List.take_length]
 refine dr ?_
 rfl
def zbT:XC:=(.s (.r [.ex 2 (.box 0),.ex 4 (.alloc [.nil,.nil,.nil])]) (.s (.r [.l2 8 3 2,.c1 9 74 [8],.mv 7 9,.e1 10 7 0,.e1 11 7 1,.a1 5 10 3 39,.mv 6 11]) (.s (.r [.mv 12 5,.mv 13 1,.c1 14 76 [12,13],.f1 15 2 2,.s1 1 15 14]) (.s (.r [.l2 16 3 2,.s1 3 4 16]) .ret))))
theorem zbU:compF Tryz.prog [] 149=some (zbT.ac,[(.cell 4 true 3)],17):=by kernel_rfl
theorem zf8 (W0:World) (o:Over) (t x:List Ent) (h1:lower4 o=some t) (ht:tOk t=true) (hx:tOk x=true):Fn Tryz.prog W0 149 [eOver o,eEnts x] (.c (eOver ⟨o.base,o.layers,diff t x⟩)) []:=by
 refine fnX (c:=zbT) mixed zbU (by simp) rfl fun hg=>?_
 have q:=zf5 W0 o
 rw [h1] at q
 refine dEr ?_
 repeat ((first | refine c0 q rfl ?_ | refine c0 (zfT W0 t x ht hx) rfl ?_); first | refine dEr ?_ | exact dz)
 rfl
def YX:XC:=(.s (.r [.ex 2 (.box 0),.ex 3 (.box 1),.ex 4 (.alloc [.nil,.nil,.nil]),.m1 5 (.i 0)]) (.s (.s (.r [.l2 10 3 2,.c1 11 25 [10],.ex 12 (.un .not 11)]) (.cnd 12 (.s (.r [.ex 13 (.build [.nil,.nil,.nil] []),.s1 3 4 13,.m1 5 (.i 1)]) .ret) .skip)) (.s (.r [.l2 15 3 2,.c1 16 69 [15],.mv 14 16,.e1 17 14 0,.e1 18 14 1,.a1 6 17 3 39,.mv 7 18]) (.s (.r [.mv 20 6,.l2 21 4 3,.c1 22 107 [20,21],.mv 19 22,.e1 23 19 0,.e1 24 19 1,.a1 8 23 3 39,.mv 9 24]) (.s (.s (.r [.mv 25 9,.b1 26 .neq 25 (.i 0)]) (.cnd 26 (.s (.r [.l2 27 3 2,.c1 28 102 [27],.mv 29 9,.s1 3 4 28,.mv 5 29]) .ret) .skip)) (.s (.r [.l2 30 3 2,.c1 31 102 [30],.mv 32 8,.c1 33 149 [31,32],.mv 34 9,.s1 3 4 33,.mv 5 34]) .ret))))))
theorem YY:compF Tryz.prog [] 93=some (YX.ac,[(.cell 4 true 3),(.t 5)],35):=by kernel_rfl
theorem zgQ (W0:World) (o:Over) (op:Op):Fn Tryz.prog W0 93 [eOver o,eOp op] (.c (eOC (oDo o op))) []:=by
 refine fnX (c:=YX) mixed YY (by simp) rfl fun hg=>?_
 refine dEr ?_
 repeat (refine c0 (jB W0 o) rfl ?_; first | refine dEr ?_ | exact dz)
 refine cP ?_ ?_<;>intro h1
 ·refine dr ?_
  rw [oDo,if_neg (by simp [h1])]<;>rfl
 obtain ⟨t,x,g⟩:=OG.of h1
 rw [g.doEq]
 have q1:=jv W0 o
 rw [g.vw] at q1
 have q2:=jE W0 x op
 have q3:=zf4 W0 o (g.os.oz.mono (by omega))
 have q4:=(y7 g.gx (op:=op))
 generalize treeDo x op=r at *
 obtain ⟨y,c⟩:=r
 refine dEr ?_
 repeat ((first | refine c0 q1 rfl ?_ | refine c0 q2 rfl ?_); first | refine dEr ?_ | exact dz)
 refine cP ?_ ?_<;>intro h2
 ·refine dEr ?_
  repeat (refine c0 q3 rfl ?_; first | refine dEr ?_ | exact dz)
  rw [if_neg h2]<;>rfl
 ·obtain ⟨_,_,k1,k2⟩:=q4 h2
  simp only at k1
  have q5:=zf8 W0 o t y g.low g.gt (by rw [k1]; exact k2)
  refine dEr ?_
  repeat ((first | refine c0 q3 rfl ?_ | refine c0 q5 rfl ?_); first | refine dEr ?_ | exact dz)
  rw [if_pos h2,h2]<;>rfl
def Y3:XC:=(.s (.r [.ex 1 (.box 0),.ex 2 (.alloc [.nil,.nil,.nil]),.m1 3 .n]) (.s (.s (.r [.l2 5 3 1,.c1 6 25 [5],.ex 7 (.un .not 6)]) (.cnd 7 (.s (.r [.ex 8 (.build [.nil,.nil,.nil] []),.s1 3 2 8,.m1 3 .n]) .ret) .skip)) (.s (.r [.l2 9 3 1,.o1 10 102 [9],.ex 4 (.alloc [.nil,.nil,.nil]),.s1 3 4 10]) (.s (.s (.r [.f1 11 1 1,.l1 12 1 11,.n1 13 12,.b1 14 .geq 13 (.i 4)]) (.cnd 14 (.s (.r [.l2 15 3 4,.s1 3 2 15,.m1 3 .n]) .ret) .skip)) (.s (.r [.f1 16 1 4,.l1 17 1 16,.f1 18 2 4,.l1 19 1 18,.ex 20 (.bsl 1 25 [19]),.ex 21 (.app false 1 24 25 17 20),.f1 22 1 4,.s1 1 22 21]) (.s (.r [.ex 23 .bsl0,.f1 24 2 4,.s1 1 24 23]) (.s (.r [.l2 25 3 4,.s1 3 2 25,.m1 3 .y]) .ret)))))))
theorem Y4:compF Tryz.prog [102] 152=some (Y3.ac,[(.cell 2 true 3),(.t 3)],26):=by kernel_rfl
theorem zgS (W0:World) (o:Over):Fn Tryz.prog W0 152 [eOver o] (.c (eOB (oPush o))) []:=by
 refine fnX (c:=Y3) mixed Y4 (by simp) rfl fun hg=>?_
 refine dEr ?_
 repeat (refine c0 (jB W0 o) rfl ?_; first | refine dEr ?_ | exact dz)
 refine cP ?_ ?_<;>intro h1
 ·refine dr ?_
  rw [oPush,if_neg (by simp [h1])]<;>rfl
 have hz:=OS.ok h1
 rw [oPush,if_pos h1]
 refine dr ?_
 refine oW (zf3 W0 o (hz.oz.mono (by omega))) rfl trivial rfl rfl ⟨(),trivial⟩ fun _ _=>⟨rfl,?_⟩
 refine dEr ?_
 refine cP ?_ ?_<;>intro h2
 ·refine dr ?_
  repeat (refine oB (by simp) ?_; first | refine dr ?_ | exact dz)
  rw [if_pos (by omega)]<;>rfl
 ·have:=hz.n
  refine dr ?_
  repeat ((first | refine oB (by simp; omega) ?_ | refine oB (by simp) ?_); first | refine dr ?_ | exact dz)
  rw [if_neg (by omega)]
  exact congrArg (fun y=>CV.tup [.agg [eEnts o.base,y,eMarks []],CB true]) (by simp [eMarkss])
def YZ:XC:=(.s (.r [.ex 1 (.box 0),.ex 2 (.alloc [.nil,.nil,.nil]),.m1 3 .n]) (.s (.s (.r [.l2 8 3 1,.c1 9 25 [8],.ex 10 (.un .not 9)]) (.cnd 10 (.s (.r [.ex 11 (.build [.nil,.nil,.nil] []),.s1 3 2 11,.m1 3 .n]) .ret) .skip)) (.s (.r [.l2 12 3 1,.c1 13 102 [12],.ex 4 (.alloc [.nil,.nil,.nil]),.s1 3 4 13]) (.s (.s (.r [.f1 14 1 4,.l1 15 1 14,.n1 16 15,.b1 17 .lss 16 (.i 2)]) (.cnd 17 (.s (.r [.l2 18 3 4,.s1 3 2 18,.m1 3 .n]) .ret) .skip)) (.s (.r [.f1 19 1 4,.l1 20 1 19,.ex 21 (.ia 1 20 (.i 0)),.l1 22 1 21,.a1 5 22 3 133]) (.s (.s (.r [.m1 6 (.i 1)]) (.blk 0 (.loop (.s (.s (.r [.mv 23 6,.f1 24 1 4,.l1 25 1 24,.n1 26 25,.b1 27 .lss 23 26]) (.cnd 27 .skip (.exit 0))) (.s (.blk 1 (.s (.r [.m1 7 .n]) (.s (.r [.f1 31 1 4,.l1 32 1 31,.mv 33 6,.i1 34 1 32 33,.l1 35 1 34,.mv 36 5,.c1 37 192 [35,36],.mv 30 37,.e1 38 30 0,.e1 39 30 1,.a1 5 38 3 133,.mv 7 39]) (.s (.r [.mv 40 7,.ex 41 (.un .not 40)]) (.cnd 41 (.s (.r [.l2 42 3 4,.s1 3 2 42,.m1 3 .n]) .ret) .skip))))) (.r [.mv 28 6,.b1 29 .add 28 (.i 1),.mv 6 29])))))) (.s (.r [.mv 43 5,.ex 44 (.bsl 1 25 [43]),.f1 45 1 4,.s1 1 45 44]) (.s (.r [.l2 46 3 4,.s1 3 2 46,.m1 3 .y]) .ret))))))))
theorem Y0:compF Tryz.prog [] 153=some (YZ.ac,[(.cell 2 true 3),(.t 3)],47):=by kernel_rfl
theorem zhk {one l:List Mark} {r:List (List Mark)}:flatA one (l::r)=match lJoin l one with
  | some j=>flatA j r
  | none=>none:=by rw [flatA]; cases lJoin l one<;>rfl
theorem zgR (W0:World) (o:Over):Fn Tryz.prog W0 153 [eOver o] (.c (eOB (oFlat o))) []:=by
 refine fnX (c:=YZ) mixed Y0 (by simp) rfl fun hg=>?_
 refine dEr ?_
 repeat (refine c0 (jB W0 o) rfl ?_; first | refine dEr ?_ | exact dz)
 refine cP ?_ ?_<;>intro h1
 ·refine dr ?_
  rw [oFlat,if_neg (by simp [h1])]<;>rfl
 have hz:=OS.ok h1
 rw [oFlat,if_pos h1]
 refine dEr ?_
 repeat (refine c0 (zf4 W0 o (hz.oz.mono (by omega))) rfl ?_; first | refine dEr ?_ | exact dz)
 refine cP ?_ ?_<;>intro h2
 ·refine dr ?_
  have e:flatO o=none:=by
   unfold flatO
   split
   ·rename_i a b r he; rw [he] at h2; simp at h2; omega
   ·rfl
  rw [e]<;>rfl
 have h0:0 < o.layers.length:=by omega
 obtain ⟨a,b,r,hl⟩:∃ a b r,o.layers=a::b::r:=by
  cases hl:o.layers with
  | nil=>rw [hl] at h0; simp at h0
  | cons a s=>cases s with
   | nil=>rw [hl] at h2; simp at h2
   | cons b r=>exact ⟨a,b,r,rfl⟩
 have e0:flatO o=flatA o.layers[0] (o.layers.drop 1):=by
  have e:o.layers[0]=a:=by simp [hl]
  rw [e]
  unfold flatO
  rw [hl]; rfl
 rw [e0]
 have hn4:=hz.n
 refine dr ?_
 repeat (refine aM (j:=0) rfl (by omega) ?_; first | refine dr ?_ | exact dz)
 refine lp2 (fun (k:Nat) (one:List Mark)=>[(2,.ptr 32 0),(4,.ptr 64 0),(5,.c (eMarks one)),(6,I k)]) (fun _ _=>[(32,.box [.nil,.nil,.nil]),(64,.box [.c (eEnts o.base),.c (eMarkss o.layers),.c (eMarks o.upper)])]) (fun k one=>1≤k∧k≤o.layers.length∧flatA one (o.layers.drop k)=flatA o.layers[0] (o.layers.drop 1)) (fun k _=>o.layers.length - k) 1 o.layers[0] ⟨by omega,by omega,rfl⟩ ?_ ?_
 ·refine dr ?_
  trivial
 rintro k one ⟨k1,k2,k3⟩
 refine dr ?_
 refine cP ?_ ?_<;>intro h3
 ·have hk':k < o.layers.length:=by omega
  rw [List.drop_eq_getElem_cons hk',zhk] at k3
  have q:=zgM W0 o.layers[k] one
  cases hj:lJoin o.layers[k] one with
  | none =>
   rw [hj] at q k3
   refine dEr ?_
   repeat (refine c0 q rfl ?_; first | refine dEr ?_ | exact dz)
   rw [← k3]<;>rfl
  | some j =>
   rw [hj] at q k3
   refine dEr ?_
   repeat (refine c0 q rfl ?_; first | refine dEr ?_ | exact dz)
   refine ⟨k+1,j,⟨by omega,by omega,k3⟩,by omega,?_⟩
   refine dr ?_
   trivial
 ·have hkl:k=o.layers.length:=by omega
  rw [hkl,List.drop_length,flatA] at k3
  refine dr ?_
  rw [← k3]<;>rfl
end Go.Proofs.YteheahbjaddooaaGreatDoor

namespace Go.Proofs.YteheahbjaddooaaGreatDoor
set_option linter.unusedSimpArgs false
set_option linter.unusedVariables false
open Go Go.RowKit
abbrev wCs (w:Wld):List PV:=[.c (eEnts w.over.base),.c (eMarkss w.over.layers),.c (eMarks w.over.upper),I w.clock,I w.count,.c (eLeases w.leases),.c (eHoldss w.holds),.c (eInts w.floors),.c (eMsgs w.net),B w.waits,I w.op.kind,.c (CS w.op.path),.c (CS w.op.dest),.c (CS w.op.data)]
abbrev wBx (w:Wld):XB := .box (wCs w)
abbrev hCs (h:Hold):List PV:=[.c (CS h.path),B h.has,.c (CS h.ent.path),B h.ent.dir,.c (CS h.ent.data),I h.num,I h.til]
abbrev mCs (m:Msg):List PV:=[I m.kind,I m.who,.c (CS m.hold.path),B m.hold.has,.c (CS m.hold.ent.path),B m.hold.ent.dir,.c (CS m.hold.ent.data),I m.hold.num,I m.hold.til]
theorem aHd {w:Wld} {who:Int} (hw:isW who) (hl:w.holds.length=3) {K:CV→Prop} (h:K (eHolds (hdW w who))):AtX who (w.holds.map eHolds) K:=by
 have:=hw.1; have:=hw.2
 have hk:who.toNat < w.holds.length:=by omega
 refine ⟨who.toNat,by omega,_,by rw [List.getElem?_map,List.getElem?_eq_getElem hk]; rfl,?_⟩
 have e:hdW w who=w.holds[who.toNat]:=by unfold hdW; rw [List.getD_eq_getElem?_getD,List.getElem?_eq_getElem hk]; rfl
 rw [← e]; exact h
theorem aFl {w:Wld} {who:Int} (hw:isW who) (hl:w.floors.length=3) {K:CV→Prop} (h:K (CI (flW w who))):AtX who (w.floors.map CI) K:=by
 have:=hw.1; have:=hw.2
 have hk:who.toNat < w.floors.length:=by omega
 refine ⟨who.toNat,by omega,_,by rw [List.getElem?_map,List.getElem?_eq_getElem hk]; rfl,?_⟩
 have e:flW w who=w.floors[who.toNat]:=by unfold flW; rw [List.getD_eq_getElem?_getD,List.getElem?_eq_getElem hk]; rfl
 rw [← e]; exact h
theorem zoh {a b:Int}:leI a b=tb (a≤b):=by rw [Bool.eq_iff_iff,zjy,tb_i]
theorem zoi {a b:Int}:ltI a b=tb (a < b):=by rw [Bool.eq_iff_iff,zjX,tb_i]
def zcp:XC:=(.s (.r [.m1 2 .n]) (.s (.r [.mv 3 0,.b1 4 .geq 3 (.i 0),.mv 5 4,.gt 6 (.mv 0) 5,.gt 7 (.bin .lss 6 (.i 3)) 5,.ex 8 (.pick 5 7 .n),.mv 2 8]) .ret))
theorem zcq:compF Tryz.prog [] 37=some (zcp.ac,[(.t 2)],9):=by kernel_rfl
theorem zgq (W0:World) (who:Int):Fn Tryz.prog W0 37 [CI who] (.c (CB (tb (isW who)))) []:=by
 refine fnX (c:=zcp) mixed zcq (by simp) rfl fun hg=>?_
 refine dr ?_
 refine cP ?_ ?_<;>intro h1
 ·refine dr ?_
  rw [zoi]
  exact congrArg CB (tb_c ⟨fun h=>⟨h1,h⟩,fun h=>h.2⟩)
 ·refine dr ?_
  exact pF fun h=>by have:=h.1; omega
def noL:Lease:=⟨0,[],0,0⟩
theorem zm4 {w:Wld} {t:List Ent} {who:Int} {h:Hold} (ha:w.clock < h.til):So w t who h↔((get t h.path).isSome=h.has∧(get t h.path).getD noE=h.ent∧(lfind w.leases who h.path).isSome=true ∧
  w.clock < ((lfind w.leases who h.path).getD noL).til∧h.num≤((lfind w.leases who h.path).getD noL).num∧h.til≤((lfind w.leases who h.path).getD noL).til):=by
 constructor
 ·intro hs
  obtain ⟨l,h1,h2,h3,h4,h5,h6⟩:=hs ha
  rw [h1]
  exact ⟨h2,h3,rfl,h4,h5,h6⟩
 ·rintro ⟨h2,h3,h1,h4,h5,h6⟩ _
  obtain ⟨l,hl⟩:=Option.isSome_iff_exists.1 h1
  rw [hl] at h4 h5 h6
  exact ⟨l,hl,h2,h3,h4,h5,h6⟩
end Go.Proofs.YteheahbjaddooaaGreatDoor

namespace Go.Proofs.YteheahbjaddooaaGreatDoor
set_option linter.unusedSimpArgs false
set_option linter.unusedVariables false
open Go Go.RowKit
section
variable {w:Wld}
theorem ziD {who:Int} {p:Str}:(grantW w who p).over=w.over∧(grantW w who p).clock=w.clock∧(grantW w who p).holds=w.holds∧(grantW w who p).floors=w.floors∧(grantW w who p).waits=w.waits∧(grantW w who p).op=w.op:=by
 rw [ziC]
 split
 ·exact ⟨rfl,rfl,rfl,rfl,rfl,rfl⟩
 ·obtain ⟨a,b,_,_,c,d,e,f⟩:=@yJ (grantL w who p) (grantM w who p)
  exact ⟨a,b,c,d,e,f⟩
theorem zdr {m:Msg}:(comeW w m).over=w.over∧(comeW w m).clock=w.clock∧(comeW w m).waits=w.waits∧(comeW w m).op=w.op:=by
 unfold comeW
 split
 ·obtain ⟨a,b,_,_,c,d⟩:=@ziD w m.who m.hold.path; exact ⟨a,b,c,d⟩
 ·split
  ·split<;>exact ⟨rfl,rfl,rfl,rfl⟩
  ·split
   ·obtain ⟨a,b,_,_,_,_,c,d⟩:=@yJ { w with holds:=w.holds.set m.who.toNat (leaveH (hdW w m.who) m.hold.path m.hold.num),floors:=w.floors.set m.who.toNat (maxI (flW w m.who) m.hold.num) } ⟨4,m.who,m.hold⟩
    exact ⟨a,b,c,d⟩
   ·split<;>exact ⟨rfl,rfl,rfl,rfl⟩
theorem zky (ev:Ev):(netW w ev).1.over=w.over∧(netW w ev).1.clock=w.clock∧(netW w ev).1.waits=w.waits∧(netW w ev).1.op=w.op:=by
 unfold netW
 split
 ·exact ⟨rfl,rfl,rfl,rfl⟩
 ·split
  ·obtain ⟨a,b,_,_,_,_,c,d⟩:=@yJ w (w.net.getD ev.pos.toNat noMs); exact ⟨a,b,c,d⟩
  ·split
   ·exact @zdr { w with net:=w.net.eraseIdx ev.pos.toNat } (w.net.getD ev.pos.toNat noMs)
   ·exact ⟨rfl,rfl,rfl,rfl⟩
def LsStep (w x:Wld):Prop:=(x.count=w.count∧∀ l∈x.leases,l∈w.leases) ∨
 ∃ who p,x.count=w.count+1∧x.leases=offL w.leases who p (w.count+1)++[⟨who,p,w.count+1,w.clock+5⟩]
theorem LsStep.refl {x:Wld} (h1:x.count=w.count) (h2:x.leases=w.leases):LsStep w x := .inl ⟨h1,fun l hl=>by rw [h2] at hl; exact hl⟩
theorem LsStep.count {x:Wld} (h:LsStep w x):w.count≤x.count∧x.count≤w.count+1:=by
 rcases h with ⟨h,_⟩ | ⟨_,_,h,_⟩<;>omega
theorem LsStep.fresh {x:Wld} (h:LsStep w x) (hw:WG w):((x.leases.filter fun l=>decide (w.count < l.num)).length:Int)=x.count - w.count:=by
 have hf:∀ l∈w.leases,¬ decide (w.count < l.num)=true:=fun l hl=>by have:=(hw.ls.g l hl).2.2.2.1; simp; omega
 rcases h with ⟨h1,h2⟩ | ⟨who,p,h1,h2⟩
 ·have:x.leases.filter (fun l=>decide (w.count < l.num))=[]:=List.filter_eq_nil_iff.2 fun l hl=>hf l (h2 l hl)
  rw [this,h1]; simp
 ·rw [h2,List.filter_append]
  have:(offL w.leases who p (w.count+1)).filter (fun l=>decide (w.count < l.num))=[]:=List.filter_eq_nil_iff.2 fun l hl=>hf l (yg.1 hl).1
  rw [this]
  rw [List.filter_cons,if_pos (by simp only [decide_eq_true_eq]; omega)]
  rw [h1]; simp; omega
theorem ZP {op:Op} (h:barsW w op≠[]):(treeDo (vwG w.over) op).2=0:=by
 refine Classical.byContradiction fun hc=>h ?_
 unfold barsW turnsW
 rw [if_neg hc]
 rw [List.filter_eq_nil_iff]
 intro l _
 simp
theorem zpg {op:Op}:(w.waits=true∧writeW w op=(w,21))∨(w.waits=false∧(treeDo (vwG w.over) op).2≠0∧barsW w op=[]∧writeW w op=(w,(treeDo (vwG w.over) op).2)) ∨
  (w.waits=false∧(treeDo (vwG w.over) op).2=0∧barsW w op≠[]∧writeW w op=(recallW { w with waits:=true,op:=op } (barsW w op),20)) ∨
  (w.waits=false∧(treeDo (vwG w.over) op).2=0∧barsW w op=[]∧writeW w op=({ w with over:=(oDo w.over op).1 },0)):=by
 unfold writeW
 cases hw:w.waits with
 | true=>left; exact ⟨rfl,by rw [if_pos rfl]⟩
 | false =>
  right
  rw [if_neg (by simp)]
  by_cases hc:(treeDo (vwG w.over) op).2=0
  ·right
   rw [if_neg (by simp [hc])]
   by_cases hb:barsW w op=[]
   ·right; rw [if_neg (by simp [hb])]; exact ⟨rfl,hc,hb,rfl⟩
   ·left; rw [if_pos hb]; exact ⟨rfl,hc,hb,rfl⟩
  ·left
   rw [if_pos hc]
   refine ⟨rfl,hc,?_,rfl⟩
   exact Classical.byContradiction fun hb=>hc (ZP hb)
theorem zoA:(w.waits=false∧tryW w=(w,22))∨(w.waits=true∧barsW w w.op≠[]∧tryW w=(recallW w (barsW w w.op),20)) ∨
  (w.waits=true∧barsW w w.op=[]∧tryW w=({ w with over:=(oDo w.over w.op).1,waits:=false,op:=noOp },0)):=by
 unfold tryW
 cases hw:w.waits with
 | false=>left; exact ⟨rfl,by rw [if_pos rfl]⟩
 | true =>
  right
  rw [if_neg (by simp)]
  by_cases hb:barsW w w.op=[]
  ·right; rw [if_neg (by simp [hb])]; exact ⟨rfl,hb,rfl⟩
  ·left; rw [if_pos hb]; exact ⟨rfl,hb,rfl⟩
theorem zo0 (h:WG w) (op:Op):vwG (oDo w.over op).1=(treeDo (vwG w.over) op).1:=by
 obtain ⟨t,ht⟩:=h.og
 exact (ht.do op).1.vwG
end
end Go.Proofs.YteheahbjaddooaaGreatDoor

namespace Go.Proofs.YteheahbjaddooaaGreatDoor
set_option linter.unusedSimpArgs false
set_option linter.unusedVariables false
open Go Go.RowKit
def za1:XC:=(.s (.r [.ex 4 (.alloc [(I 0),sE,sE,sE])]) (.s (.r [.mv 6 0,.ex 7 (.bsl 1 3 [(.i 1),(.i 2),(.i 2),(.i 3),(.i 4),(.i 5),(.i 1),(.i 5)]),.o1 8 36 [6,7],.mv 9 0,.o1 10 92 [9],.ex 11 (.build [(I 0),sE,sE,sE] [(0,(1,8)),(1,(1,10))]),.ex 5 (.alloc [(I 0),sE,sE,sE]),.s1 4 5 11]) (.cut (.s (.r [.mv 12 1,.n1 13 12,.b1 14 .gtr 13 (.i 0),.mv 15 14,.gt 16 (.fa 0 5) 15,.gt 17 (.ld false 1 16) 15,.gt 18 (.bin .gtr 17 (.i 2)) 15,.ex 19 (.pick 15 18 .n),.mv 20 19,.gt 21 (.mv 0) 20,.gt 22 (.opn 38 [21,(.i 4)]) 20,.gt 23 (.bin .gtr 22 (.i 0)) 20,.ex 24 (.pick 20 23 .n)]) (.cnd 24 (.r [.mv 25 1,.mv 26 0,.mv 27 1,.n1 28 27,.o1 29 38 [26,28],.i1 30 3 25 29,.f1 31 0 30,.l1 32 1 31,.f1 33 1 5,.s1 1 33 32]) .skip)) (.cut (.s (.r [.f1 34 0 5,.l1 35 1 34,.b1 36 .eql 35 (.i 2)]) (.cnd 36 (.r [.mv 37 0,.o1 38 173 [37],.f1 39 3 5,.s1 1 39 38]) .skip)) (.cut (.s (.r [.f1 40 0 5,.l1 41 1 40,.b1 42 .eql 41 (.i 5)]) (.cnd 42 (.r [.mv 43 0,.o1 44 92 [43],.f1 45 2 5,.s1 1 45 44]) .skip)) (.cut (.s (.r [.mv 46 0,.o1 47 38 [46,(.i 50)]]) (.blk 0 (.s (.r [.b1 49 .eql 47 (.i 0),.mv 48 49]) (.cnd 48 (.r [.mv 50 0,.ex 51 (.bsl 1 3 [(.i 0),(.i 6),(.k (.c (.sc (.int .i64 (.negSucc 0))))),(.i 1)]),.o1 52 36 [50,51],.f1 53 0 5,.s1 1 53 52]) (.s (.r [.b1 55 .eql 47 (.i 1),.mv 54 55]) (.cnd 54 (.r [.mv 56 0,.ex 57 (.bsl 1 9 [(.s [47]),(.s []),(.s [47,65]),(.s [47,97,47,98,47,99,47,100])]),.o1 58 95 [56,57],.f1 59 1 5,.s1 1 59 58]) (.s (.r [.b1 61 .eql 47 (.i 2),.mv 60 61]) (.cnd 60 (.r [.mv 62 0,.ex 63 (.bsl 1 9 [(.s [47]),(.s [47,97]),(.s [47,99,47,99,47,99]),(.s [])]),.o1 64 95 [62,63],.f1 65 2 5,.s1 1 65 64]) (.s (.r [.b1 67 .eql 47 (.i 3),.mv 66 67]) (.cnd 66 (.r [.mv 68 0,.ex 69 (.bsl 1 9 [(.s [113]),(.s [65]),(.s [97,98,99,100,101,102,103]),(.s [97,98,99,100,101,102])]),.o1 70 95 [68,69],.f1 71 3 5,.s1 1 71 70]) .skip)))))))))) (.s (.r [.l2 72 4 5,.s1 4 4 72]) .ret)))))))
theorem za2:compF Tryz.prog [38,36,95,92,173] 112=some (za1.ac,[(.cell 4 true 4)],73):=by kernel_rfl
theorem zfM (W0:World) (s:Str) (p:Int) (t:List Ent) (hs:s.length≤2000) (hp:0≤p∧p≤100000) (ht:t.length≤100000) :
  FunW Tryz.prog W0 112 [.ptr 1 0,.c (eEnts t)] (Rd s p) (fun x:Op × Int=>p≤x.2∧x.2≤p+8) (fun x => .c (eOp x.1)) (fun x=>Rd s x.2):=by
 refine funW (c:=za1) mixed za2 (by simp) rfl rfl fun hg=>?_
 refine dr ?_
 refine oW (jx W0 s p [1,2,2,3,4,5,1,5] hs (by omega) (by decide)) rfl ⟨rfl,trivial⟩ rfl rfl ⟨1,by decide⟩ fun k hk=>⟨rfl,?_⟩
 refine dr ?_
 refine oW (zfy W0 s (p+1) hs (by omega)) rfl ⟨rfl,trivial⟩ rfl rfl ⟨_,List.mem_cons_self⟩ fun x hx=>⟨rfl,?_⟩
 refine dEr ?_
 refine cutp2 (fun (o:Op) (q:Int)=>[(0,.ptr 1 0),(4,.ptr 64 0),(5,.ptr 80 0)]) (fun o q=>[(1,.box [.c (eCode s),.c (CI q)]),(64,.box [.c (CI 0),.c (CS []),.c (CS []),.c (CS [])]),(80,.box [.c (CI o.kind),.c (CS o.path),.c (CS o.dest),.c (CS o.data)])]) (fun o q=>p≤q∧q≤p+4) ?_ ?_
 ·refine dr ?_
  refine cP ?_ ?_<;>intro h1
  ·refine dr ?_
   refine cP ?_ ?_<;>intro h2
   ·refine dr ?_
    refine oW (jy W0 s (p+1+1) 4 hs (by omega) (by omega)) rfl ⟨rfl,trivial⟩ rfl rfl ⟨0,by omega,by omega⟩ fun k1 hk1=>⟨rfl,?_⟩
    refine dEr ?_
    refine cP ?_ ?_<;>intro h3
    ·refine dEr ?_
     refine oW (jy W0 s (p+1+1+1) t.length hs (by omega) (by omega)) rfl ⟨rfl,trivial⟩ rfl rfl ⟨0,by omega,by omega⟩ fun k2 hk2=>⟨rfl,?_⟩
     refine dEr ?_
     repeat (refine aX hk2.1 (hk2.2 (by omega)) fun e he=>?_; first | refine dEr ?_ | exact dz)
     refine ⟨⟨k,e.path,[],[]⟩,p+1+1+1+1,⟨by omega,by omega⟩,?_⟩
     refine dr ?_
     trivial
    ·refine dEr ?_
     refine ⟨⟨k,x,[],[]⟩,p+1+1+1,⟨by omega,by omega⟩,?_⟩
     refine dr ?_
     trivial
   ·refine dr ?_
    refine ⟨⟨k,x,[],[]⟩,p+1+1,⟨by omega,by omega⟩,?_⟩
    refine dr ?_
    trivial
  ·refine dr ?_
   refine ⟨⟨k,x,[],[]⟩,p+1+1,⟨by omega,by omega⟩,?_⟩
   refine dr ?_
   trivial
 rintro o q ⟨hq1,hq2⟩
 refine dr ?_
 refine cutp2 (fun (o:Op) (q:Int)=>[(0,.ptr 1 0),(4,.ptr 64 0),(5,.ptr 80 0)]) (fun o q=>[(1,.box [.c (eCode s),.c (CI q)]),(64,.box [.c (CI 0),.c (CS []),.c (CS []),.c (CS [])]),(80,.box [.c (CI o.kind),.c (CS o.path),.c (CS o.dest),.c (CS o.data)])]) (fun o q=>p≤q∧q≤p+5) ?_ ?_
 ·refine dr ?_
  refine cP ?_ ?_<;>intro h1
  ·refine dr ?_
   refine oW (zfO W0 s q hs (by omega)) rfl ⟨rfl,trivial⟩ rfl rfl ⟨_,List.mem_cons_self⟩ fun y hy=>⟨rfl,?_⟩
   refine dEr ?_
   refine ⟨⟨o.kind,o.path,o.dest,y⟩,q+1,⟨by omega,by omega⟩,?_⟩
   refine dr ?_
   trivial
  ·refine dr ?_
   refine ⟨o,q,⟨by omega,by omega⟩,?_⟩
   refine dr ?_
   trivial
 rintro o q ⟨hq1,hq2⟩
 refine dr ?_
 refine cutp2 (fun (o:Op) (q:Int)=>[(0,.ptr 1 0),(4,.ptr 64 0),(5,.ptr 80 0)]) (fun o q=>[(1,.box [.c (eCode s),.c (CI q)]),(64,.box [.c (CI 0),.c (CS []),.c (CS []),.c (CS [])]),(80,.box [.c (CI o.kind),.c (CS o.path),.c (CS o.dest),.c (CS o.data)])]) (fun o q=>p≤q∧q≤p+6) ?_ ?_
 ·refine dr ?_
  refine cP ?_ ?_<;>intro h1
  ·refine dr ?_
   refine oW (zfy W0 s q hs (by omega)) rfl ⟨rfl,trivial⟩ rfl rfl ⟨_,List.mem_cons_self⟩ fun y hy=>⟨rfl,?_⟩
   refine dEr ?_
   refine ⟨⟨o.kind,o.path,y,o.data⟩,q+1,⟨by omega,by omega⟩,?_⟩
   refine dr ?_
   trivial
  ·refine dr ?_
   refine ⟨o,q,⟨by omega,by omega⟩,?_⟩
   refine dr ?_
   trivial
 rintro o q ⟨hq1,hq2⟩
 refine dr ?_
 refine cutp2 (fun (o:Op) (q:Int)=>[(0,.ptr 1 0),(4,.ptr 64 0),(5,.ptr 80 0)]) (fun o q=>[(1,.box [.c (eCode s),.c (CI q)]),(64,.box [.c (CI 0),.c (CS []),.c (CS []),.c (CS [])]),(80,.box [.c (CI o.kind),.c (CS o.path),.c (CS o.dest),.c (CS o.data)])]) (fun o q=>p≤q∧q≤p+8) ?_ ?_
 ·refine dr ?_
  refine oW (jy W0 s q 50 hs (by omega) (by omega)) rfl ⟨rfl,trivial⟩ rfl rfl ⟨0,by omega,by omega⟩ fun v hv=>⟨rfl,?_⟩
  refine dEr ?_
  refine cP ?_ ?_<;>intro h1
  ·refine dr ?_
   refine oW (jx W0 s (q+1) [0,6,-1,1] hs (by omega) (by decide)) rfl ⟨rfl,trivial⟩ rfl rfl ⟨0,by decide⟩ fun y hy=>⟨rfl,?_⟩
   refine dEr ?_
   refine ⟨⟨y,o.path,o.dest,o.data⟩,q+1+1,⟨by omega,by omega⟩,?_⟩
   refine dr ?_
   trivial
  refine dr ?_
  refine cP ?_ ?_<;>intro h2
  ·refine dr ?_
   refine oW (f_of W0 s (q+1) [[47],[],[47,65],[47,97,47,98,47,99,47,100]] hs (by omega) (by decide)) rfl ⟨rfl,trivial⟩ rfl rfl ⟨_,List.mem_cons_self⟩ fun y hy=>⟨rfl,?_⟩
   refine dEr ?_
   refine ⟨⟨o.kind,y,o.dest,o.data⟩,q+1+1,⟨by omega,by omega⟩,?_⟩
   refine dr ?_
   trivial
  refine dr ?_
  refine cP ?_ ?_<;>intro h3
  ·refine dr ?_
   refine oW (f_of W0 s (q+1) [[47],[47,97],[47,99,47,99,47,99],[]] hs (by omega) (by decide)) rfl ⟨rfl,trivial⟩ rfl rfl ⟨_,List.mem_cons_self⟩ fun y hy=>⟨rfl,?_⟩
   refine dEr ?_
   refine ⟨⟨o.kind,o.path,y,o.data⟩,q+1+1,⟨by omega,by omega⟩,?_⟩
   refine dr ?_
   trivial
  refine dr ?_
  refine cP ?_ ?_<;>intro h4
  ·refine dr ?_
   refine oW (f_of W0 s (q+1) [[113],[65],[97,98,99,100,101,102,103],[97,98,99,100,101,102]] hs (by omega) (by decide)) rfl ⟨rfl,trivial⟩ rfl rfl ⟨_,List.mem_cons_self⟩ fun y hy=>⟨rfl,?_⟩
   refine dEr ?_
   refine ⟨⟨o.kind,o.path,o.dest,y⟩,q+1+1,⟨by omega,by omega⟩,?_⟩
   refine dr ?_
   trivial
  refine dr ?_
  refine ⟨o,q+1,⟨by omega,by omega⟩,?_⟩
  refine dr ?_
  trivial
 rintro o q ⟨hq1,hq2⟩
 refine dr ?_
 refine ⟨none,_,_,?_,(o,q),⟨by omega,by omega⟩,rfl,rfl⟩
 refine dr ?_
 trivial
def za9:XC:=(.s (.r [.ex 2 (.asn (.k .nil) 3 39)]) (.s (.r [.ex 6 .bsl0,.a1 3 6 3 39]) (.s (.s (.r [.mv 7 0,.ex 8 (.bsl 1 3 [(.i 6),(.i 12),(.i 18),(.i 24),(.i 30),(.i 3),(.i 0)]),.o1 9 36 [7,8],.mv 4 9]) (.blk 0 (.loop (.s (.s (.r [.mv 10 4,.b1 11 .gtr 10 (.i 0)]) (.cnd 11 .skip (.exit 0))) (.s (.blk 1 (.r [.mv 15 3,.mv 16 0,.mv 17 3,.o1 18 112 [16,17],.c1 19 107 [15,18],.mv 14 19,.e1 20 14 0,.e1 21 14 1,.a1 3 20 3 39])) (.r [.mv 12 4,.b1 13 .sub 12 (.i 1),.mv 4 13])))))) (.s (.s (.r [.mv 22 0,.o1 23 38 [22,(.i 20)],.b1 24 .eql 23 (.i 0)]) (.cnd 24 (.s (.r [.m1 5 (.i 0)]) (.blk 2 (.loop (.s (.s (.r [.mv 25 5,.b1 26 .lss 25 (.i 26),.mv 27 26,.gt 28 (.mv 3) 27,.gt 29 (.len false 28) 27,.gt 30 (.bin .lss 29 (.i 16)) 27,.ex 31 (.pick 27 30 .n)]) (.cnd 31 .skip (.exit 2))) (.s (.blk 3 (.r [.mv 35 3,.mv 36 5,.b1 37 .add (.i 97) 36,.ex 38 (.conv .u8 37),.ex 39 (.bsl 1 5 [38]),.ex 40 (.b2s 39),.ex 41 (.bin .add (.s [47,122]) 40),.ex 42 (.build [(I 0),sE,sE,sE] [(0,(1,(.i 2))),(1,(1,41))]),.c1 43 107 [35,42],.mv 34 43,.e1 44 34 0,.e1 45 34 1,.a1 3 44 3 39])) (.r [.mv 32 5,.b1 33 .add 32 (.i 1),.mv 5 33])))))) .skip)) (.s (.r [.mv 46 3,.a1 2 46 3 39]) .ret)))))
theorem zba:compF Tryz.prog [112,38,36] 150=some (za9.ac,[(.t 2)],47):=by kernel_rfl
theorem zfP (W0:World) (s:Str) (p:Int) (hs:s.length≤2000) (hp:0≤p∧p≤50000) :
  FunW Tryz.prog W0 150 [.ptr 1 0] (Rd s p) (fun x:List Ent × Int=>x.1.length≤17∧p≤x.2∧x.2≤p+242) (fun x => .c (eEnts x.1)) (fun x=>Rd s x.2):=by
 refine funW (c:=za9) mixed zba (by simp) rfl rfl fun hg=>?_
 refine dr ?_
 refine oW (jx W0 s p [6,12,18,24,30,3,0] hs (by omega) (by decide)) rfl ⟨rfl,trivial⟩ rfl rfl ⟨0,by decide⟩ fun k hk=>⟨rfl,?_⟩
 have hk2:0≤k∧k≤30:=by
  have:∀ x∈([6,12,18,24,30,3,0]:List Int),0≤x∧x≤30:=by decide
  exact this k hk
 refine dEr ?_
 refine lz3 48 (fun (t:List Ent) (i q:Int)=>[(0,.ptr 1 0),(3,.c (eEnts t)),(4,.c (CI i))]) (fun _ _ q=>[(1,.box [.c (eCode s),.c (CI q)])]) (fun t i q=>t.length≤17∧0≤i∧i≤30∧p≤q∧q≤p+1+8 * (30 - i)) (fun _ i _=>i.toNat) [] k (p+1) ⟨by simp,by omega,by omega,by omega,by omega⟩ ?_ ?_
 ·refine dr ?_
  trivial
 rintro t i q ⟨h1,h2,h3,h4,h5⟩
 refine dr ?_
 refine cP ?_ ?_<;>intro h6
 ·refine dr ?_
  refine oW (zfM W0 s q t hs (by omega) (by omega)) rfl ⟨rfl,trivial⟩ rfl rfl ⟨(⟨0,[],[],[]⟩,q),by omega,by omega⟩ fun x hx=>⟨rfl,?_⟩
  obtain ⟨o,q2⟩:=x
  have hx1:q≤q2:=hx.1
  have hx2:q2≤q+8:=hx.2
  refine dEr ?_
  repeat (refine c0 (jE W0 t o) rfl ?_; first | refine dEr ?_ | exact dz)
  refine ⟨(treeDo t o).1,i - 1,q2,⟨zow,by omega,by omega,by omega,by omega⟩,by omega,?_⟩
  refine dr ?_
  trivial
 refine dr ?_
 refine oW (jy W0 s q 20 hs (by omega) (by omega)) rfl ⟨rfl,trivial⟩ rfl rfl ⟨0,by omega,by omega⟩ fun v hv=>⟨rfl,?_⟩
 refine dEr ?_
 refine cP ?_ ?_<;>intro h7
 ·refine dr ?_
  refine lp2 (fun (t:List Ent) (j:Nat)=>[(0,.ptr 1 0),(3,.c (eEnts t)),(5,I j)]) (fun _ _=>[(1,.box [.c (eCode s),.c (CI (q+1))])]) (fun t j=>t.length≤17∧j≤26) (fun _ j=>26 - j) t 0 ⟨by omega,by omega⟩ ?_ ?_
  ·refine dr ?_
   trivial
  rintro t j ⟨g1,g2⟩
  refine dr ?_
  refine cP ?_ ?_<;>intro h8
  ·refine dr ?_
   refine cP ?_ ?_<;>intro h9
   ·refine dEr ?_
    repeat ((first | refine c0 (jE W0 t ⟨2,_,[],[]⟩) rfl ?_ | refine oB (by simp) ?_); first | refine dEr ?_ | exact dz)
    refine ⟨(treeDo t ⟨2,[47,122]++[UInt8.ofNat (97+(j:Int)).toNat],[],[]⟩).1,j+1,⟨zow,by omega⟩,by omega,?_⟩
    refine dr ?_
    trivial
   ·refine dr ?_
    refine ⟨none,_,_,?_,(t,q+1),⟨by omega,by omega,by omega⟩,rfl,rfl⟩
    refine dr ?_
    trivial
  ·refine dr ?_
   refine ⟨none,_,_,?_,(t,q+1),⟨by omega,by omega,by omega⟩,rfl,rfl⟩
   refine dr ?_
   trivial
 ·refine dr ?_
  refine ⟨none,_,_,?_,(t,q+1),⟨by omega,by omega,by omega⟩,rfl,rfl⟩
  refine dr ?_
  trivial
def zaB:XC:=(.s (.r [.ex 4 (.asn (.k .nil) 3 39)]) (.s (.r [.ex 8 .bsl0,.mv 9 1,.ex 10 (.app true 3 40 39 8 9),.a1 5 10 3 39]) (.s (.r [.mv 11 5,.n1 12 11,.mv 6 12]) (.s (.s (.r [.mv 13 6,.b1 14 .eql 13 (.i 0)]) (.cnd 14 (.s (.r [.mv 15 5,.a1 4 15 3 39]) .ret) .skip)) (.s (.r [.mv 16 0,.mv 17 6,.o1 18 38 [16,17],.mv 7 18]) (.s (.s (.r [.mv 19 0,.o1 20 38 [19,(.i 50)]]) (.blk 0 (.s (.r [.b1 22 .eql 20 (.i 0),.mv 21 22]) (.cnd 21 (.s (.r [.mv 23 5,.mv 24 5,.mv 25 7,.i1 26 3 24 25,.l2 27 3 26,.ex 28 (.bsl 3 39 [27]),.ex 29 (.app false 3 40 39 23 28),.a1 4 29 3 39]) .ret) (.s (.r [.b1 31 .eql 20 (.i 1),.mv 30 31]) (.cnd 30 (.r [.mv 32 5,.mv 33 7,.mv 34 0,.ex 35 (.bsl 1 9 [(.s [47]),(.s [47,97,47,98,47,99,47,100]),(.s [47,65]),(.s [47,99,47,99])]),.o1 36 95 [34,35],.i1 37 3 32 33,.f1 38 0 37,.s1 1 38 36]) (.s (.r [.b1 40 .eql 20 (.i 2),.mv 39 40]) (.cnd 39 (.r [.mv 41 5,.mv 42 7,.mv 43 5,.mv 44 7,.i1 45 3 43 44,.f1 46 1 45,.l1 47 1 46,.ex 48 (.un .not 47),.i1 49 3 41 42,.f1 50 1 49,.s1 1 50 48]) (.s (.r [.b1 52 .eql 20 (.i 3),.mv 51 52]) (.cnd 51 (.r [.mv 53 5,.mv 54 7,.mv 55 0,.ex 56 (.bsl 1 9 [(.s [113]),(.s [65]),(.s [97,98,99,100,101,102,103])]),.o1 57 95 [55,56],.i1 58 3 53 54,.f1 59 2 58,.s1 1 59 57]) (.cut (.r [.b1 61 .eql 20 (.i 4),.mv 60 61]) (.cnd 60 (.s (.r [.mv 62 5,.ex 63 (.slr 3 62 (.some (.i 1)) .none),.a1 4 63 3 39]) .ret) .skip)))))))))))) (.s (.r [.mv 64 5,.a1 4 64 3 39]) .ret)))))))
theorem zaC:compF Tryz.prog [38,95] 169=some (zaB.ac,[(.t 4)],65):=by kernel_rfl
theorem zfB (W0:World) (s:Str) (p:Int) (t:List Ent) (hs:s.length≤2000) (hp:0≤p∧p≤100000) (ht:t.length≤100000) :
  FunW Tryz.prog W0 169 [.ptr 1 0,.c (eEnts t)] (Rd s p) (fun x:List Ent × Int=>x.1.length≤t.length+1∧p≤x.2∧x.2≤p+3) (fun x => .c (eEnts x.1)) (fun x=>Rd s x.2):=by
 refine funW (c:=zaB) mixed zaC (by simp) rfl rfl fun hg=>?_
 refine dr ?_
 repeat ((first | refine oB (by simp; omega) ?_ | refine oB (by simp) ?_); first | refine dr ?_ | exact dz)
 refine cP ?_ ?_<;>intro h1
 ·refine dr ?_
  refine ⟨some 160,_,_,?_,(t,p),⟨by simp,by omega,by omega⟩,rfl,rfl⟩
  refine dr ?_
  repeat (refine oB (by simp<;>rfl) ?_; first | refine dr ?_ | exact dz)
  trivial
 have ht0:0 < t.length:=by omega
 refine dr ?_
 refine oW (jy W0 s p t.length hs (by omega) (by omega)) rfl ⟨rfl,trivial⟩ rfl rfl ⟨0,by omega,by omega⟩ fun k hk=>⟨rfl,?_⟩
 obtain ⟨k,rfl⟩:∃ j:Nat,k=j:=⟨k.toNat,by omega⟩
 have hk':k < t.length:=by have:=hk.2 (by omega); omega
 refine dEr ?_
 refine oW (jy W0 s (p+1) 50 hs (by omega) (by omega)) rfl ⟨rfl,trivial⟩ rfl rfl ⟨0,by omega,by omega⟩ fun v hv=>⟨rfl,?_⟩
 refine dEr ?_
 refine cP ?_ ?_<;>intro h2
 ·refine dr ?_
  repeat ((first | refine oB (by simp; omega) ?_ | refine oB (by simp) ?_); first | refine dr ?_ | exact dz)
  refine ⟨some 160,_,_,?_,(t++[t[k]],p+1+1),⟨by simp,by omega,by omega⟩,rfl,rfl⟩
  refine dr ?_
  repeat ((first | refine oB lapp ?_ | refine oB rapp ?_); first | refine dr ?_ | exact dz)
  trivial
 refine dr ?_
 refine cP ?_ ?_<;>intro h3
 ·refine dr ?_
  refine oW (f_of W0 s (p+1+1) [[47],[47,97,47,98,47,99,47,100],[47,65],[47,99,47,99]] hs (by omega) (by decide)) rfl ⟨rfl,trivial⟩ rfl rfl ⟨_,List.mem_cons_self⟩ fun y hy=>⟨rfl,?_⟩
  refine dEr ?_
  repeat (refine oB (by simp) ?_; first | refine dEr ?_ | exact dz)
  refine ⟨some 160,_,_,?_,(t.set k ⟨y,t[k].dir,t[k].data⟩,p+1+1+1),⟨by simp,by omega,by omega⟩,rfl,rfl⟩
  refine dr ?_
  repeat ((first | refine oB lset ?_ | refine oB rset ?_); first | refine dr ?_ | exact dz)
  trivial
 refine dr ?_
 refine cP ?_ ?_<;>intro h4
 ·refine dr ?_
  repeat (refine oB (by simp) ?_; first | refine dr ?_ | exact dz)
  refine ⟨some 160,_,_,?_,(t.set k ⟨t[k].path,!t[k].dir,t[k].data⟩,p+1+1),⟨by simp,by omega,by omega⟩,rfl,rfl⟩
  refine dr ?_
  repeat ((first | refine oB lset ?_ | refine oB rset ?_); first | refine dr ?_ | exact dz)
  trivial
 refine dr ?_
 refine cP ?_ ?_<;>intro h5
 ·refine dr ?_
  refine oW (f_of W0 s (p+1+1) [[113],[65],[97,98,99,100,101,102,103]] hs (by omega) (by decide)) rfl ⟨rfl,trivial⟩ rfl rfl ⟨_,List.mem_cons_self⟩ fun y hy=>⟨rfl,?_⟩
  refine dEr ?_
  repeat (refine oB (by simp) ?_; first | refine dEr ?_ | exact dz)
  refine ⟨some 160,_,_,?_,(t.set k ⟨t[k].path,t[k].dir,y⟩,p+1+1+1),⟨by simp,by omega,by omega⟩,rfl,rfl⟩
  refine dr ?_
  repeat ((first | refine oB lset ?_ | refine oB rset ?_); first | refine dr ?_ | exact dz)
  trivial
 refine dr ?_
 refine cutz (σ:=Bool) 160 (fun b=>[(5,.c (eEnts t)),(60,.c (CB b))]) (fun _=>[(1,.box [.c (eCode s),.c (CI (p+1+1))])]) (fun _=>True) ?_ fun b _=>?_
 ·refine dr ?_
  refine ⟨eqI v 4,trivial,?_⟩
  refine dr ?_
  repeat (refine oB (by simp<;>rfl) ?_; first | refine dr ?_ | exact dz)
  trivial
 refine dr ?_
 refine cP ?_ ?_<;>intro h6
 ·refine dr ?_
  repeat (refine sLoM 1 rfl (by omega) ?_; first | refine dr ?_ | exact dz)
  refine ⟨none,_,_,?_,(t.drop 1,p+1+1),⟨by simp; omega,by omega,by omega⟩,rfl,rfl⟩
  refine dr ?_
  trivial
 ·refine dr ?_
  refine ⟨none,_,_,?_,(t,p+1+1),⟨by simp,by omega,by omega⟩,rfl,rfl⟩
  refine dr ?_
  trivial
end Go.Proofs.YteheahbjaddooaaGreatDoor

namespace Go.Proofs.YteheahbjaddooaaGreatDoor
set_option linter.unusedSimpArgs false
set_option linter.unusedVariables false
open Go Go.RowKit
def zbx:XC:=(.s (.r [.ex 2 (.asn (.k .nil) 3 133)]) (.s (.r [.ex 7 .bsl0,.a1 3 7 3 133]) (.s (.s (.r [.mv 8 0,.ex 9 (.bsl 1 3 [(.i 3),(.i 5),(.i 8),(.i 2),(.i 1),(.i 0),(.i 12)]),.o1 10 36 [8,9],.mv 4 10]) (.blk 0 (.loop (.s (.s (.r [.mv 11 4,.b1 12 .gtr 11 (.i 0)]) (.cnd 12 .skip (.exit 0))) (.s (.blk 1 (.s (.r [.mv 15 0,.o1 16 92 [15],.mv 17 0,.ex 18 (.bsl 1 3 [(.i 1),(.i 2),(.i 3),(.i 4),(.i 1),(.i 3)]),.o1 19 36 [17,18],.ex 20 (.build [sE,(I 0),sE] [(0,(1,16)),(1,(1,19))]),.ex 5 (.alloc [sE,(I 0),sE]),.s1 3 5 20]) (.cut (.s (.r [.f1 21 1 5,.l1 22 1 21,.b1 23 .eql 22 (.i 1)]) (.cnd 23 (.r [.mv 24 0,.o1 25 173 [24],.f1 26 2 5,.s1 1 26 25]) .skip)) (.s (.r [.mv 27 3,.l2 28 3 5,.c1 29 125 [27,28],.a1 6 29 3 133]) (.s (.s (.r [.mv 30 6,.c1 31 171 [30]]) (.cnd 31 (.s (.r [.mv 32 6,.a1 3 32 3 133]) (.exit 1)) .skip)) (.s (.r [.mv 33 6,.f1 34 0 5,.l1 35 1 34,.c1 36 124 [33,35],.a1 6 36 3 133]) (.s (.r [.mv 37 6,.c1 38 171 [37]]) (.cnd 38 (.r [.mv 39 6,.a1 3 39 3 133]) .skip)))))))) (.r [.mv 13 4,.b1 14 .sub 13 (.i 1),.mv 4 14])))))) (.s (.r [.mv 40 3,.a1 2 40 3 133]) .ret))))
theorem zby:compF Tryz.prog [36,92,173] 151=some (zbx.ac,[(.t 2)],41):=by kernel_rfl
theorem zd0:∀ x∈drawnPaths,pOk x=true:=by decide
theorem zfZ (W0:World) (s:Str) (p:Int) (hs:s.length≤2000) (hp:0≤p∧p≤50000) :
  FunW Tryz.prog W0 151 [.ptr 1 0] (Rd s p) (fun x:List Mark × Int=>x.1.length≤32∧p≤x.2∧x.2≤p+37) (fun x => .c (eMarks x.1)) (fun x=>Rd s x.2):=by
 refine funW (c:=zbx) mixed zby (by simp) rfl rfl fun hg=>?_
 refine dr ?_
 refine oW (jx W0 s p [3,5,8,2,1,0,12] hs (by omega) (by decide)) rfl ⟨rfl,trivial⟩ rfl rfl ⟨0,by decide⟩ fun k hk=>⟨rfl,?_⟩
 have hk2:0≤k∧k≤12:=by
  have:∀ x∈([3,5,8,2,1,0,12]:List Int),0≤x∧x≤12:=by decide
  exact this k hk
 refine dEr ?_
 refine lz3 48 (fun (t:List Mark) (i q:Int)=>[(0,.ptr 1 0),(3,.c (eMarks t)),(4,.c (CI i))]) (fun _ _ q=>[(1,.box [.c (eCode s),.c (CI q)])]) (fun t i q=>t.length≤32∧0≤i∧i≤12∧p≤q∧q≤p+1+3 * (12 - i)) (fun _ i _=>i.toNat) [] k (p+1) ⟨by simp,by omega,by omega,by omega,by omega⟩ ?_ ?_
 ·refine dr ?_
  trivial
 rintro t i q ⟨h1,h2,h3,h4,h5⟩
 refine dr ?_
 refine cP ?_ ?_<;>intro h6
 rotate_left
 ·refine dr ?_
  refine ⟨none,_,_,?_,(t,q),⟨by omega,by omega,by omega⟩,rfl,rfl⟩
  refine dr ?_
  trivial
 refine dr ?_
 refine oW (zfy W0 s q hs (by omega)) rfl ⟨rfl,trivial⟩ rfl rfl ⟨_,List.mem_cons_self⟩ fun x hx=>⟨rfl,?_⟩
 have hx1:=zd0 x hx
 refine dr ?_
 refine oW (jx W0 s (q+1) [1,2,3,4,1,3] hs (by omega) (by decide)) rfl ⟨rfl,trivial⟩ rfl rfl ⟨1,by decide⟩ fun v hv=>⟨rfl,?_⟩
 refine dEr ?_
 refine cutp2 (fun (m:Mark) (r:Int)=>[(0,.ptr 1 0),(3,.c (eMarks t)),(4,.c (CI i)),(5,.ptr 80 0)]) (fun m r=>[(1,.box [.c (eCode s),.c (CI r)]),(80,.box [.c (CS m.path),.c (CI m.kind),.c (CS m.data)])]) (fun m r=>pOk m.path=true∧q≤r∧r≤q+3) ?_ ?_
 ·refine dr ?_
  refine cP ?_ ?_<;>intro h7
  ·refine dr ?_
   refine oW (zfO W0 s (q+1+1) hs (by omega)) rfl ⟨rfl,trivial⟩ rfl rfl ⟨_,List.mem_cons_self⟩ fun y hy=>⟨rfl,?_⟩
   refine dEr ?_
   refine ⟨⟨x,v,y⟩,q+1+1+1,⟨hx1,by omega,by omega⟩,?_⟩
   refine dr ?_
   trivial
  ·refine dr ?_
   refine ⟨⟨x,v,[]⟩,q+1+1,⟨hx1,by omega,by omega⟩,?_⟩
   refine dr ?_
   trivial
 rintro m r ⟨g1,g2,g3⟩
 have hpl:(lput t m).length≤t.length+1:=yz
 have hu:=ju W0 3 (lput t m) m.path g1 (yr g1).1.2 (by omega)
 refine dEr ?_
 repeat ((first | refine c0 (jt W0 t m (by omega)) rfl ?_ | refine c0 (jA W0 _) rfl ?_); first | refine dEr ?_ | exact dz)
 refine cP ?_ ?_<;>intro h7
 ·refine dr ?_
  refine ⟨lput t m,i - 1,r,⟨(qo.1 h7).1,by omega,by omega,by omega,by omega⟩,by omega,?_⟩
  refine dr ?_
  trivial
 ·refine dEr ?_
  repeat ((first | refine c0 hu rfl ?_ | refine c0 (jA W0 _) rfl ?_); first | refine dEr ?_ | exact dz)
  refine cP ?_ ?_<;>intro h8
  ·refine dr ?_
   refine ⟨_,i - 1,r,⟨(qo.1 h8).1,by omega,by omega,by omega,by omega⟩,by omega,?_⟩
   refine dr ?_
   trivial
  ·refine dr ?_
   refine ⟨t,i - 1,r,⟨by omega,by omega,by omega,by omega,by omega⟩,by omega,?_⟩
   refine dr ?_
   trivial
def zbh:XC:=(.s (.r [.ex 4 (.asn (.k .nil) 3 133)]) (.s (.r [.ex 8 .bsl0,.mv 9 1,.ex 10 (.app true 3 40 133 8 9),.a1 5 10 3 133]) (.s (.r [.mv 11 5,.n1 12 11,.mv 6 12]) (.s (.s (.r [.mv 13 6,.b1 14 .eql 13 (.i 0)]) (.cnd 14 (.s (.r [.mv 15 5,.a1 4 15 3 133]) .ret) .skip)) (.s (.r [.mv 16 0,.mv 17 6,.o1 18 38 [16,17],.mv 7 18]) (.s (.s (.r [.mv 19 0,.o1 20 38 [19,(.i 60)]]) (.blk 0 (.s (.r [.b1 22 .eql 20 (.i 0),.mv 21 22]) (.cnd 21 (.r [.mv 23 5,.mv 24 7,.mv 25 0,.ex 26 (.bsl 1 3 [(.i 0),(.i 5),(.k (.c (.sc (.int .i64 (.negSucc 0))))),(.i 3),(.i 4)]),.o1 27 36 [25,26],.i1 28 3 23 24,.f1 29 1 28,.s1 1 29 27]) (.s (.r [.b1 31 .eql 20 (.i 1),.mv 30 31]) (.cnd 30 (.r [.mv 32 5,.mv 33 7,.mv 34 0,.ex 35 (.bsl 1 9 [(.s [47]),(.s [47,65]),(.s [47,99,47,99]),(.s [47,97,47,98,47,99,47,100])]),.o1 36 95 [34,35],.i1 37 3 32 33,.f1 38 0 37,.s1 1 38 36]) (.s (.r [.b1 40 .eql 20 (.i 2),.mv 39 40]) (.cnd 39 (.r [.mv 41 5,.mv 42 7,.mv 43 0,.ex 44 (.bsl 1 9 [(.s [113]),(.s [65]),(.s [97,98,99,100,101,102,103])]),.o1 45 95 [43,44],.i1 46 3 41 42,.f1 47 2 46,.s1 1 47 45]) (.s (.r [.b1 49 .eql 20 (.i 3),.mv 48 49]) (.cnd 48 (.s (.r [.mv 50 5,.mv 51 5,.mv 52 7,.i1 53 3 51 52,.l2 54 3 53,.ex 55 (.bsl 3 133 [54]),.ex 56 (.app false 3 40 133 50 55),.a1 4 56 3 133]) .ret) (.cut (.r [.b1 58 .eql 20 (.i 4),.mv 57 58]) (.cnd 57 (.s (.r [.mv 59 5,.ex 60 (.slr 3 59 (.some (.i 1)) .none),.a1 4 60 3 133]) .ret) (.s (.r [.b1 62 .eql 20 (.i 5),.mv 61 62]) (.cnd 61 (.s (.r [.mv 63 5,.ex 64 (.build [sE,(I 0),sE] [(0,(1,(.s [47,122,122,47,122]))),(1,(1,(.i 1)))]),.ex 65 (.bsl 3 133 [64]),.ex 66 (.app false 3 40 133 63 65),.a1 4 66 3 133]) .ret) .skip)))))))))))))) (.s (.r [.mv 67 5,.a1 4 67 3 133]) .ret)))))))
theorem zbi:compF Tryz.prog [38,95,36] 170=some (zbh.ac,[(.t 4)],68):=by kernel_rfl
theorem js (W0:World) (s:Str) (p:Int) (t:List Mark) (hs:s.length≤2000) (hp:0≤p∧p≤100000) (ht:t.length≤100000) :
  FunW Tryz.prog W0 170 [.ptr 1 0,.c (eMarks t)] (Rd s p) (fun x:List Mark × Int=>x.1.length≤t.length+1∧p≤x.2∧x.2≤p+3) (fun x => .c (eMarks x.1)) (fun x=>Rd s x.2):=by
 refine funW (c:=zbh) mixed zbi (by simp) rfl rfl fun hg=>?_
 refine dr ?_
 repeat ((first | refine oB (by simp; omega) ?_ | refine oB (by simp) ?_); first | refine dr ?_ | exact dz)
 refine cP ?_ ?_<;>intro h1
 ·refine dr ?_
  refine ⟨some 160,_,_,?_,(t,p),⟨by simp,by omega,by omega⟩,rfl,rfl⟩
  refine dr ?_
  repeat (refine oB (by simp<;>rfl) ?_; first | refine dr ?_ | exact dz)
  trivial
 have ht0:0 < t.length:=by omega
 refine dr ?_
 refine oW (jy W0 s p t.length hs (by omega) (by omega)) rfl ⟨rfl,trivial⟩ rfl rfl ⟨0,by omega,by omega⟩ fun k hk=>⟨rfl,?_⟩
 obtain ⟨k,rfl⟩:∃ j:Nat,k=j:=⟨k.toNat,by omega⟩
 have hk':k < t.length:=by have:=hk.2 (by omega); omega
 refine dEr ?_
 refine oW (jy W0 s (p+1) 60 hs (by omega) (by omega)) rfl ⟨rfl,trivial⟩ rfl rfl ⟨0,by omega,by omega⟩ fun v hv=>⟨rfl,?_⟩
 refine dEr ?_
 refine cP ?_ ?_<;>intro h2
 ·refine dr ?_
  refine oW (jx W0 s (p+1+1) [0,5,-1,3,4] hs (by omega) (by decide)) rfl ⟨rfl,trivial⟩ rfl rfl ⟨0,by decide⟩ fun y hy=>⟨rfl,?_⟩
  refine dEr ?_
  repeat (refine oB lset ?_; first | refine dEr ?_ | exact dz)
  refine ⟨some 160,_,_,?_,(t.set k ⟨t[k].path,y,t[k].data⟩,p+1+1+1),⟨by simp,by omega,by omega⟩,rfl,rfl⟩
  refine dr ?_
  repeat ((first | refine oB lset ?_ | refine oB rset ?_); first | refine dr ?_ | exact dz)
  trivial
 refine dr ?_
 refine cP ?_ ?_<;>intro h3
 ·refine dr ?_
  refine oW (f_of W0 s (p+1+1) [[47],[47,65],[47,99,47,99],[47,97,47,98,47,99,47,100]] hs (by omega) (by decide)) rfl ⟨rfl,trivial⟩ rfl rfl ⟨_,List.mem_cons_self⟩ fun y hy=>⟨rfl,?_⟩
  refine dEr ?_
  repeat (refine oB lset ?_; first | refine dEr ?_ | exact dz)
  refine ⟨some 160,_,_,?_,(t.set k ⟨y,t[k].kind,t[k].data⟩,p+1+1+1),⟨by simp,by omega,by omega⟩,rfl,rfl⟩
  refine dr ?_
  repeat ((first | refine oB lset ?_ | refine oB rset ?_); first | refine dr ?_ | exact dz)
  trivial
 refine dr ?_
 refine cP ?_ ?_<;>intro h4
 ·refine dr ?_
  refine oW (f_of W0 s (p+1+1) [[113],[65],[97,98,99,100,101,102,103]] hs (by omega) (by decide)) rfl ⟨rfl,trivial⟩ rfl rfl ⟨_,List.mem_cons_self⟩ fun y hy=>⟨rfl,?_⟩
  refine dEr ?_
  repeat (refine oB lset ?_; first | refine dEr ?_ | exact dz)
  refine ⟨some 160,_,_,?_,(t.set k ⟨t[k].path,t[k].kind,y⟩,p+1+1+1),⟨by simp,by omega,by omega⟩,rfl,rfl⟩
  refine dr ?_
  repeat ((first | refine oB lset ?_ | refine oB rset ?_); first | refine dr ?_ | exact dz)
  trivial
 refine dr ?_
 refine cP ?_ ?_<;>intro h5
 ·refine dr ?_
  repeat ((first | refine oB (by simp; omega) ?_ | refine oB (by simp) ?_); first | refine dr ?_ | exact dz)
  refine ⟨some 160,_,_,?_,(t++[t[k]],p+1+1),⟨by simp,by omega,by omega⟩,rfl,rfl⟩
  refine dr ?_
  repeat ((first | refine oB lapp ?_ | refine oB rapp ?_); first | refine dr ?_ | exact dz)
  trivial
 refine dr ?_
 by_cases hv4:v=4
 ·refine cutz (σ:=Unit) 160 (fun _=>[(5,.c (eMarks t)),(57,.c (CB (eqI v 4)))]) (fun _=>[(1,.box [.c (eCode s),.c (CI (p+1+1))])]) (fun _=>True) ?_ fun b _=>?_
  ·refine dr ?_
   refine ⟨(),trivial,?_⟩
   refine dr ?_
   repeat (refine oB (by simp<;>rfl) ?_; first | refine dr ?_ | exact dz)
   trivial
  refine dr ?_
  refine cP ?_ ?_<;>intro h6
  ·refine dr ?_
   repeat (refine sLoM 1 rfl (by omega) ?_; first | refine dr ?_ | exact dz)
   refine ⟨none,_,_,?_,(t.drop 1,p+1+1),⟨by simp; omega,by omega,by omega⟩,rfl,rfl⟩
   refine dr ?_
   trivial
  ·exact absurd hv4 h6
 ·refine cutp (σ:=Unit) (fun _=>[(5,.own 160 t.length),(20,.c (CI v)),(57,.c (CB (eqI v 4)))]) (fun _=>[(1,.box [.c (eCode s),.c (CI (p+1+1))]),(160,.row (t.map eMark) 3 133)]) (fun _=>True) ?_ fun b _=>?_
  ·refine dr ?_
   refine ⟨(),trivial,?_⟩
   refine dr ?_
   trivial
  refine dr ?_
  refine cP ?_ ?_<;>intro h6
  ·exact absurd h6 hv4
  refine dr ?_
  refine cP ?_ ?_<;>intro h7
  ·refine dr ?_
   repeat ((first | refine oB (by simp; omega) ?_ | refine oB (by simp) ?_); first | refine dr ?_ | exact dz)
   refine ⟨some 160,_,_,?_,(t++[⟨[47,122,122,47,122],1,[]⟩],p+1+1),⟨by simp,by omega,by omega⟩,rfl,rfl⟩
   refine dr ?_
   repeat ((first | refine oB lapp ?_ | refine oB (rapp (f:=eMark) (x:=⟨[47,122,122,47,122],1,[]⟩)) ?_); first | refine dr ?_ | exact dz)
   trivial
  ·refine dr ?_
   refine ⟨some 160,_,_,?_,(t,p+1+1),⟨by simp,by omega,by omega⟩,rfl,rfl⟩
   refine dr ?_
   repeat (refine oB (by simp<;>rfl) ?_; first | refine dr ?_ | exact dz)
   trivial
end Go.Proofs.YteheahbjaddooaaGreatDoor

namespace Go.Proofs.YteheahbjaddooaaGreatDoor
set_option linter.unusedSimpArgs false
set_option linter.unusedVariables false
open Go Go.RowKit
def NC (x y:PV):Prop:=y=x∨(x = .nil∧y = .c (.row []))
theorem NC.rep {κ:Kap} {m:Mem} {w:World} {x y:PV} {v:Value} (h:NC x y) (hr:Rep1 κ m w x v):Rep1 κ m w y v:=by
 rcases h with rfl | ⟨rfl,rfl⟩
 ·exact hr
 ·obtain ⟨o,rfl⟩:=hr
  exact .nil (Nat.zero_le _)
theorem KeepS.nilC {k0:List Nat} {A:Fr} {m:XM} (bx:Nat) (cs cs':List PV) (hb:lkX m bx=some (.box cs)) (hc:All2 NC cs cs'):KeepS k0 A m A (updX m bx (.box cs')):=fun W0 F K hA hK=>by
 intro w0 κ0 m0 N κ act w hk0 hr
 have hmw:=hr.mw
 have hW:=hr.big
 have hb':lk (Go.Proofs.YteheahbjaddooaaGreatDoor.er m) bx=some (.box cs):=by rw [qz,hb]; rfl
 have all2:∀ {cs cs':List PV} {vs:List Value} {κ:Kap} {m:Mem},All2 NC cs cs'→All2 (Rep1 κ m w) cs vs→All2 (Rep1 κ m w) cs' vs:=by
  intro cs
  induction cs with
  | nil=>intro cs' vs κ m h1 h2; cases cs' with | nil=>(cases vs with | nil=>trivial | cons=>exact h2.elim) | cons=>exact h1.elim
  | cons c cs ih =>
   intro cs' vs κ m h1 h2
   cases cs' with
   | nil=>exact h1.elim
   | cons d ds=>cases vs with
    | nil=>exact h2.elim
    | cons v vs=>exact ⟨NC.rep h1.1 h2.1,ih h1.2 h2.2⟩
 obtain ⟨g1,g2⟩:=hmw.turn (κ':=κ) (w':=w) (x := .box cs') hW hb' rfl rfl rfl (Nat.le_refl _) rfl (fun _ _=>rfl) (fun _ _ _=>rfl) (.inl rfl) (fun _ h=>⟨⟨cs',rfl⟩,rfl⟩) (fun _ _ _ h=>by cases h) (fun hp=>by
  obtain ⟨g,vs,e,q1,q2,q3⟩:=hmw.mem.blk bx _ hb'
  exact ⟨g,vs,e,q1,q2,all2 hc (q3.imp fun _ _=>Rep1.pres hp)⟩) (.inl fun _ _ _ h=>by cases h)
 refine ⟨κ,A,_,⟨g1,hr.start,hr.low0,hr.s0,hr.size,hr.defers,fun t x hx=>?_⟩,?_⟩
 ·obtain ⟨q1,q2⟩:=hr.tmps t x (by rw [← hA t]; exact hx)
  exact ⟨q1,Rep.pres g2 q2⟩
 ·rw [Zg] at hK; exact hK
theorem nc0 {x:PV}:NC x x := .inl rfl
theorem nc1:NC .nil (.c (.row [])) := .inr ⟨rfl,rfl⟩
theorem ovE {b:List Ent} {ls:List (List Mark)} {u:List Mark} {L:List CV} (h:L=ls.map eMarks):PV.c (.agg [eEnts b,.row L,eMarks u]) = .c (eOver ⟨b,ls,u⟩):=by rw [h]; rfl
theorem app1 {α:Type} {f:α→CV} {t:List α} {x:α}:t.map f++[f x]=(t++[x]).map f:=by rw [List.map_append]; rfl
theorem set1 {α:Type} {f:α→CV} {t:List α} {k:Nat} {x:α}:(t.map f).set k (f x)=(t.set k x).map f:=List.map_set.symm
abbrev ovB (o:Over):XB := .box [.c (eEnts o.base),.c (eMarkss o.layers),.c (eMarks o.upper)]
abbrev ni3:XB := .box [.nil,.nil,.nil]
abbrev rdB (s:Str) (q:Int):XB := .box [.c (eCode s),.c (CI q)]
def zbN:XC:=(.s (.r [.ex 2 (.alloc [.nil,.nil,.nil])]) (.s (.r [.mv 9 0,.o1 10 150 [9],.ex 11 (.build [.nil,.nil,.nil] [(0,(1,10))]),.ex 3 (.alloc [.nil,.nil,.nil]),.s1 3 3 11]) (.s (.s (.r [.mv 12 0,.o1 13 38 [12,(.i 3)],.mv 4 13]) (.blk 0 (.loop (.s (.s (.r [.mv 14 4,.b1 15 .gtr 14 (.i 0)]) (.cnd 15 .skip (.exit 0))) (.s (.blk 1 (.s (.r [.l2 18 3 3,.o1 19 102 [18],.ex 5 (.alloc [.nil,.nil,.nil]),.s1 3 5 19]) (.s (.d [.f1 20 1 5,.exl 21 (.ld false 1 20),.mv 22 0,.exl 23 (.opn 151 [22]),.exl 24 (.bsl 1 25 [23]),.ex 25 (.app false 1 24 25 21 24),.f1 26 1 5,.s1 1 26 25]) (.s (.r [.l2 27 3 5,.c1 28 25 [27]]) (.cnd 28 (.r [.l2 29 3 5,.s1 3 3 29]) .skip))))) (.r [.mv 16 4,.b1 17 .sub 16 (.i 1),.mv 4 17])))))) (.s (.s (.r [.mv 30 0,.o1 31 38 [30,(.i 12)],.mv 6 31]) (.blk 2 (.loop (.s (.s (.r [.mv 32 6,.b1 33 .gtr 32 (.i 0)]) (.cnd 33 .skip (.exit 2))) (.s (.blk 3 (.s (.r [.l2 37 3 3,.c1 38 69 [37],.mv 36 38,.e1 39 36 0,.e1 40 36 1,.a1 7 39 3 39,.mv 8 40]) (.s (.r [.mv 41 0,.o1 42 38 [41,(.i 8)]]) (.blk 4 (.s (.r [.b1 52 .eql 42 (.i 0),.mv 51 52]) (.cnd 51 (.r [.l2 54 3 3,.c1 55 152 [54],.mv 53 55,.e1 56 53 0,.e1 57 53 1,.s1 3 3 56]) (.s (.r [.b1 59 .eql 42 (.i 1),.mv 58 59]) (.cnd 58 (.s (.r [.mv 60 0,.o1 61 38 [60,(.i 3)],.b1 62 .eql 61 (.i 0)]) (.cnd 62 (.r [.l2 64 3 3,.c1 65 153 [64],.mv 63 65,.e1 66 63 0,.e1 67 63 1,.s1 3 3 66]) .skip)) (.d [.exl 44 (.ld true 3 3),.mv 45 0,.mv 46 7,.exl 47 (.opn 112 [45,46]),.c1 48 93 [44,47],.mv 43 48,.e1 49 43 0,.e1 50 43 1,.s1 3 3 49]))))))))) (.r [.mv 34 6,.b1 35 .sub 34 (.i 1),.mv 6 35])))))) (.s (.r [.l2 68 3 3,.o1 69 102 [68],.s1 3 2 69]) .ret)))))
theorem zbO:compF Tryz.prog [150,38,102,151,112] 94=some (zbN.ac,[(.cell 2 true 3)],70):=by kernel_rfl
theorem zf6 (W0:World) (s:Str) (p:Int) (hs:s.length≤2000) (hp:0≤p∧p≤20000) :
  FunW Tryz.prog W0 94 [.ptr 1 0] (Rd s p) (fun x:Over × Int=>OS x.1∧p≤x.2∧x.2≤p+600) (fun x => .c (eOver x.1)) (fun x=>Rd s x.2):=by
 refine funW (c:=zbN) mixed zbO (by simp) rfl rfl fun hg=>?_
 refine dr ?_
 refine oW (zfP W0 s p hs (by omega)) rfl ⟨rfl,trivial⟩ rfl rfl ⟨([],p),by simp; omega⟩ fun x hx=>⟨rfl,?_⟩
 obtain ⟨b,q0⟩:=x
 obtain ⟨hb,hq1,hq2⟩:b.length≤17∧p≤q0∧q0≤p+242:=hx
 refine dEr ?_
 refine oW (jy W0 s q0 3 hs (by omega) (by omega)) rfl ⟨rfl,trivial⟩ rfl rfl ⟨0,by omega,by omega⟩ fun n hn=>⟨rfl,?_⟩
 have hn2:=hn.2 (by omega)
 have hn1:=hn.1
 refine dEr ?_
 refine lq3 (fun (o:Over) (i q:Int)=>[(0,.ptr 1 0),(2,.ptr 32 0),(3,.ptr 48 0),(4,.c (CI i))]) (fun o _ q=>[(1,rdB s q),(32,ni3),(48,ovB o)]) (fun o i q=>OS o∧0≤i∧i≤2∧p≤q∧q≤p+243+37 * (2 - i)) (fun _ i _=>i.toNat) ⟨b,[],[]⟩ n (q0+1) ⟨⟨hb,by simp,by simp,by simp⟩,by omega,by omega,by omega,by omega⟩ ?_ ?_
 ·refine KeepS.trans (F1:=_) (m1:=_) (KeepS.nilC 48 [.c (eEnts b),.nil,.nil] [.c (eEnts b),.c (.row []),.c (.row [])] rfl ⟨nc0,nc1,nc1,trivial⟩) (z:=none) ?_
  refine dr ?_
  trivial
 rintro o i q ⟨ho,hi1,hi2,hq3,hq4⟩
 refine dr ?_
 refine cP ?_ ?_<;>intro h1
 ·refine dr ?_
  refine oW (zf3 W0 o (ho.oz.mono (by omega))) rfl trivial rfl rfl ⟨(),trivial⟩ fun _ _=>⟨rfl,?_⟩
  refine dEr ?_
  refine oW (zfZ W0 s q hs (by omega)) rfl ⟨rfl,trivial⟩ rfl rfl ⟨([],q),by simp; omega⟩ fun x hx=>⟨rfl,?_⟩
  obtain ⟨l,q2⟩:=x
  obtain ⟨hl,hr1,hr2⟩:l.length≤32∧q≤q2∧q2≤q+37:=hx
  have hn:=ho.n
  have q9:=jB W0 ⟨o.base,o.layers++[l],o.upper⟩
  rw [show eOver ⟨o.base,o.layers++[l],o.upper⟩ = .agg [eEnts o.base,.row (o.layers.map eMarks++[eMarks l]),eMarks o.upper] by rw [app1]; rfl] at q9
  refine dEr ?_
  repeat ((first | refine oB (by simp; omega) ?_ | refine oB (by simp) ?_ | refine c0 q9 rfl ?_); first | refine dEr ?_ | exact dz)
  refine cP ?_ ?_<;>intro h2
  ·refine dr ?_
   refine ⟨⟨o.base,o.layers++[l],o.upper⟩,i - 1,q2,⟨OS.ok h2,by omega,by omega,by omega,by omega⟩,by omega,?_⟩
   refine KeepX.s (z:=some 4) ?_
   refine dr ?_
   repeat ((first | refine oB (congrArg (fun L=>XB.box [.c (eEnts o.base),.c (.row L),.c (eMarks o.upper)]) app1) ?_ | refine oB (by simp) ?_); first | refine dr ?_ | exact dz)
   trivial
  ·refine dr ?_
   refine ⟨o,i - 1,q2,⟨ho,by omega,by omega,by omega,by omega⟩,by omega,?_⟩
   refine KeepX.s (z:=none) ?_
   refine dr ?_
   trivial
 refine dr ?_
 refine oW (jy W0 s q 12 hs (by omega) (by omega)) rfl ⟨rfl,trivial⟩ rfl rfl ⟨0,by omega,by omega⟩ fun n hn=>⟨rfl,?_⟩
 have hn2:=hn.2 (by omega)
 have hn1:=hn.1
 clear h1
 refine dEr ?_
 refine lp3 (fun (o:Over) (i r:Int)=>[(0,.ptr 1 0),(2,.ptr 32 0),(3,.ptr 48 0),(6,.c (CI i))]) (fun o _ r=>[(1,rdB s r),(32,ni3),(48,ovB o)]) (fun o i r=>OS o∧0≤i∧i≤11∧p≤r∧r≤p+320+10 * (11 - i)) (fun _ i _=>i.toNat) o n (q+1) ⟨ho,by omega,by omega,by omega,by omega⟩ ?_ ?_
 ·refine dr ?_
  trivial
 clear hq3 hq4 ho
 rintro o i q ⟨ho,hi1,hi2,hq3,hq4⟩
 refine dr ?_
 refine cP ?_ ?_<;>intro h1
 ·have hv:=jv W0 o
  have hvl:((view4 o).getD []).length≤16:=by
   cases hx:view4 o with
   | none=>simp
   | some x=>exact (yZ (Zh hx)).1
  rw [zd1] at hv
  generalize (view4 o).getD []=t at *
  refine dEr ?_
  repeat (refine c0 hv rfl ?_; first | refine dEr ?_ | exact dz)
  refine oW (jy W0 s q 8 hs (by omega) (by omega)) rfl ⟨rfl,trivial⟩ rfl rfl ⟨0,by omega,by omega⟩ fun v hv=>⟨rfl,?_⟩
  refine dEr ?_
  refine cP ?_ ?_<;>intro h2
  ·refine dEr ?_
   repeat (refine c0 (zgS W0 o) rfl ?_; first | refine dEr ?_ | exact dz)
   refine ⟨(oPush o).1,i - 1,q+1,⟨OS.push,by omega,by omega,by omega,by omega⟩,by omega,?_⟩
   refine dr ?_
   trivial
  refine dr ?_
  refine cP ?_ ?_<;>intro h3
  ·refine dr ?_
   refine oW (jy W0 s (q+1) 3 hs (by omega) (by omega)) rfl ⟨rfl,trivial⟩ rfl rfl ⟨0,by omega,by omega⟩ fun v hv=>⟨rfl,?_⟩
   refine dEr ?_
   refine cP ?_ ?_<;>intro h4
   ·refine dEr ?_
    repeat (refine c0 (zgR W0 o) rfl ?_; first | refine dEr ?_ | exact dz)
    refine ⟨(oFlat o).1,i - 1,q+1+1,⟨OS.flat,by omega,by omega,by omega,by omega⟩,by omega,?_⟩
    refine dr ?_
    trivial
   ·refine dr ?_
    refine ⟨o,i - 1,q+1+1,⟨ho,by omega,by omega,by omega,by omega⟩,by omega,?_⟩
    refine dr ?_
    trivial
  ·refine dr ?_
   refine oW (zfM W0 s (q+1) t hs (by omega) (by omega)) rfl ⟨rfl,trivial⟩ rfl rfl ⟨((⟨0,[],[],[]⟩,q+1):Op × Int),by omega,by omega⟩ fun x hx=>⟨rfl,?_⟩
   obtain ⟨op,r⟩:=x
   obtain ⟨hr1,hr2⟩:q+1≤r∧r≤q+1+8:=hx
   refine dEr ?_
   repeat (refine c0 (zgQ W0 o op) rfl ?_; first | refine dEr ?_ | exact dz)
   refine ⟨(oDo o op).1,i - 1,r,⟨OS.do op,by omega,by omega,by omega,by omega⟩,by omega,?_⟩
   refine dr ?_
   trivial
 ·refine dr ?_
  refine oW (zf3 W0 o (ho.oz.mono (by omega))) rfl trivial rfl rfl ⟨(),trivial⟩ fun _ _=>⟨rfl,?_⟩
  refine dEr ?_
  refine ⟨some 4,_,_,?_,(o,q),⟨ho,by omega,by omega⟩,rfl,rfl⟩
  refine dr ?_
  repeat (refine oB (by simp) ?_; first | refine dr ?_ | exact dz)
  trivial
def zbH:XC:=(.s (.r [.ex 3 (.box 1),.ex 4 (.alloc [.nil,.nil,.nil])]) (.s (.r [.l2 8 3 3,.o1 9 102 [8],.ex 5 (.alloc [.nil,.nil,.nil]),.s1 3 5 9]) (.s (.r [.f1 10 1 5,.l1 11 1 10,.n1 12 11,.mv 6 12]) (.s (.s (.r [.mv 13 0,.o1 14 38 [13,(.i 60)]]) (.blk 0 (.s (.r [.b1 16 .eql 14 (.i 0),.mv 15 16]) (.cnd 15 (.r [.mv 17 0,.mv 18 0,.mv 19 0,.mv 20 0,.f1 21 0 5,.l1 22 1 21,.o1 23 169 [20,22],.o1 24 169 [19,23],.o1 25 169 [18,24],.o1 26 169 [17,25],.f1 27 0 5,.s1 1 27 26]) (.s (.r [.b1 29 .eql 14 (.i 1),.mv 28 29]) (.cnd 28 (.s (.r [.mv 30 6,.b1 31 .gtr 30 (.i 0)]) (.cnd 31 (.s (.r [.mv 32 0,.mv 33 6,.o1 34 38 [32,33],.mv 7 34]) (.d [.f1 35 1 5,.exl 36 (.ld false 1 35),.mv 37 7,.mv 38 0,.mv 39 0,.mv 40 0,.mv 41 0,.f1 42 1 5,.exl 43 (.ld false 1 42),.mv 44 7,.exl 45 (.ia 1 43 44),.exl 46 (.ld false 1 45),.exl 47 (.opn 170 [41,46]),.exl 48 (.opn 170 [40,47]),.exl 49 (.opn 170 [39,48]),.exl 50 (.opn 170 [38,49]),.exl 51 (.ia 1 36 37),.s1 1 51 50])) .skip)) (.s (.r [.b1 53 .eql 14 (.i 2),.mv 52 53]) (.cnd 52 (.r [.mv 54 0,.mv 55 0,.mv 56 0,.mv 57 0,.f1 58 2 5,.l1 59 1 58,.o1 60 170 [57,59],.o1 61 170 [56,60],.o1 62 170 [55,61],.o1 63 170 [54,62],.f1 64 2 5,.s1 1 64 63]) (.s (.r [.b1 66 .eql 14 (.i 3),.mv 65 66]) (.cnd 65 (.r [.mv 67 0,.o1 68 151 [67],.f1 69 2 5,.s1 1 69 68]) (.s (.r [.b1 71 .eql 14 (.i 4),.mv 70 71]) (.cnd 70 (.blk 1 (.loop (.s (.s (.r [.f1 72 1 5,.l1 73 1 72,.n1 74 73,.b1 75 .leq 74 (.i 4)]) (.cnd 75 .skip (.exit 1))) (.blk 2 (.r [.f1 76 1 5,.l1 77 1 76,.ex 78 .bsl0,.ex 79 (.bsl 1 25 [78]),.ex 80 (.app false 1 24 25 77 79),.f1 81 1 5,.s1 1 81 80]))))) (.s (.r [.b1 83 .eql 14 (.i 5),.mv 82 83]) (.cnd 82 (.d [.f1 84 1 5,.exl 85 (.ld false 1 84),.mv 86 0,.exl 87 (.opn 151 [86]),.exl 88 (.bsl 1 25 [87]),.ex 89 (.app false 1 24 25 85 88),.f1 90 1 5,.s1 1 90 89]) .skip)))))))))))))) (.s (.r [.l2 91 3 5,.s1 3 4 91]) .ret)))))
theorem zbI:compF Tryz.prog [102,38,169,170,151] 110=some (zbH.ac,[(.cell 4 true 3)],92):=by kernel_rfl
theorem OZ.put {o:Over} {n:Nat} (h:OZ n o) {ls:List (List Mark)} {m:Nat} (h1:ls.length≤m) (h2:∀ l∈ls,l.length≤m) (hm:n≤m):OZ m ⟨o.base,ls,o.upper⟩:=⟨by have:=h.b; simp only; omega,h1,h2,by have:=h.u; simp only; omega⟩
set_option maxHeartbeats 4000000 in
theorem zf2 (W0:World) (s:Str) (p:Int) (o:Over) (n:Nat) (hs:s.length≤2000) (hp:0≤p∧p≤40000) (h:OZ n o) (hn:n≤50000) :
  FunW Tryz.prog W0 110 [.ptr 1 0,.c (eOver o)] (Rd s p) (fun x:Over × Int=>OZ (n+40) x.1∧p≤x.2∧x.2≤p+40) (fun x => .c (eOver x.1)) (fun x=>Rd s x.2):=by
 refine funW (c:=zbH) mixed zbI (by simp) rfl rfl fun hg=>?_
 obtain ⟨z1,z2,z3,z4⟩:=h
 have hz:OZ n o:=⟨z1,z2,z3,z4⟩
 have hz':OZ (n+40) o:=hz.mono (by omega)
 refine dr ?_
 refine oW (zf3 W0 o (hz.mono (by omega))) rfl trivial rfl rfl ⟨(),trivial⟩ fun _ _=>⟨rfl,?_⟩
 refine dEr ?_
 refine oW (jy W0 s p 60 hs (by omega) (by omega)) rfl ⟨rfl,trivial⟩ rfl rfl ⟨0,by omega,by omega⟩ fun v hv=>⟨rfl,?_⟩
 refine dEr ?_
 refine cP ?_ ?_<;>intro h0
 ·refine dr ?_
  refine oW (zfB W0 s (p+1) o.base hs (by omega) (by omega)) rfl ⟨rfl,trivial⟩ rfl rfl ⟨([],p+1),by simp; omega⟩ fun x hx=>⟨rfl,?_⟩
  obtain ⟨b1,q1⟩:=x
  obtain ⟨a1,a2,a3⟩:b1.length≤o.base.length+1∧p+1≤q1∧q1≤p+1+3:=hx
  refine dr ?_
  refine oW (zfB W0 s q1 b1 hs (by omega) (by omega)) rfl ⟨rfl,trivial⟩ rfl rfl ⟨([],q1),by simp; omega⟩ fun x hx=>⟨rfl,?_⟩
  obtain ⟨b2,q2⟩:=x
  obtain ⟨c1,c2,c3⟩:b2.length≤b1.length+1∧q1≤q2∧q2≤q1+3:=hx
  refine dr ?_
  refine oW (zfB W0 s q2 b2 hs (by omega) (by omega)) rfl ⟨rfl,trivial⟩ rfl rfl ⟨([],q2),by simp; omega⟩ fun x hx=>⟨rfl,?_⟩
  obtain ⟨b3,q3⟩:=x
  obtain ⟨d1,d2,d3⟩:b3.length≤b2.length+1∧q2≤q3∧q3≤q2+3:=hx
  refine dr ?_
  refine oW (zfB W0 s q3 b3 hs (by omega) (by omega)) rfl ⟨rfl,trivial⟩ rfl rfl ⟨([],q3),by simp; omega⟩ fun x hx=>⟨rfl,?_⟩
  obtain ⟨b4,q4⟩:=x
  obtain ⟨e1,e2,e3⟩:b4.length≤b3.length+1∧q3≤q4∧q4≤q3+3:=hx
  refine dEr ?_
  refine ⟨some 4,_,_,?_,(⟨b4,o.layers,o.upper⟩,q4),⟨⟨by simp only; omega,by simp only; omega,fun l hl=>by have:=z3 l hl; omega,by simp only; omega⟩,by omega,by omega⟩,rfl,rfl⟩
  refine dr ?_
  repeat ((first | refine oB (ovE rfl) ?_ | refine oB (by simp) ?_); first | refine dr ?_ | exact dz)
  trivial
 refine dr ?_
 refine cP ?_ ?_<;>intro h1
 ·refine dr ?_
  refine cP ?_ ?_<;>intro h2
  ·refine dr ?_
   refine oW (jy W0 s (p+1) o.layers.length hs (by omega) (by omega)) rfl ⟨rfl,trivial⟩ rfl rfl ⟨0,by omega,by omega⟩ fun k hk=>⟨rfl,?_⟩
   obtain ⟨k,rfl⟩:∃ j:Nat,k=j:=⟨k.toNat,by omega⟩
   have hk':k < o.layers.length:=by have:=hk.2 (by omega); omega
   have hzk:=z3 _ (List.getElem_mem hk')
   refine dEr ?_
   refine oW (js W0 s (p+1+1) o.layers[k] hs (by omega) (by omega)) rfl ⟨rfl,trivial⟩ rfl rfl ⟨([],p+1+1),by simp; omega⟩ fun x hx=>⟨rfl,?_⟩
   obtain ⟨b1,q1⟩:=x
   obtain ⟨a1,a2,a3⟩:b1.length≤o.layers[k].length+1∧p+1+1≤q1∧q1≤p+1+1+3:=hx
   refine dr ?_
   refine oW (js W0 s q1 b1 hs (by omega) (by omega)) rfl ⟨rfl,trivial⟩ rfl rfl ⟨([],q1),by simp; omega⟩ fun x hx=>⟨rfl,?_⟩
   obtain ⟨b2,q2⟩:=x
   obtain ⟨c1,c2,c3⟩:b2.length≤b1.length+1∧q1≤q2∧q2≤q1+3:=hx
   refine dr ?_
   refine oW (js W0 s q2 b2 hs (by omega) (by omega)) rfl ⟨rfl,trivial⟩ rfl rfl ⟨([],q2),by simp; omega⟩ fun x hx=>⟨rfl,?_⟩
   obtain ⟨b3,q3⟩:=x
   obtain ⟨d1,d2,d3⟩:b3.length≤b2.length+1∧q2≤q3∧q3≤q2+3:=hx
   refine dr ?_
   refine oW (js W0 s q3 b3 hs (by omega) (by omega)) rfl ⟨rfl,trivial⟩ rfl rfl ⟨([],q3),by simp; omega⟩ fun x hx=>⟨rfl,?_⟩
   obtain ⟨b4,q4⟩:=x
   obtain ⟨e1,e2,e3⟩:b4.length≤b3.length+1∧q3≤q4∧q4≤q3+3:=hx
   refine dEr ?_
   refine ⟨some 4,_,_,?_,(⟨o.base,o.layers.set k b4,o.upper⟩,q4),⟨hz.put (by simp; omega) (fun l hl=>?_) (by omega),by omega,by omega⟩,rfl,rfl⟩
   ·refine dr ?_
    repeat ((first | refine oB (ovE set1) ?_ | refine oB (by simp) ?_); first | refine dr ?_ | exact dz)
    trivial
   ·rcases List.mem_or_eq_of_mem_set hl with h | h
    ·have:=z3 l h; omega
    ·subst h; omega
  ·refine dr ?_
   refine ⟨some 4,_,_,?_,(o,p+1),⟨hz',by omega,by omega⟩,rfl,rfl⟩
   refine dr ?_
   repeat ((first | refine oB (ovE rfl) ?_ | refine oB (by simp) ?_); first | refine dr ?_ | exact dz)
   trivial
 refine dr ?_
 refine cP ?_ ?_<;>intro h2
 ·refine dr ?_
  refine oW (js W0 s (p+1) o.upper hs (by omega) (by omega)) rfl ⟨rfl,trivial⟩ rfl rfl ⟨([],p+1),by simp; omega⟩ fun x hx=>⟨rfl,?_⟩
  obtain ⟨b1,q1⟩:=x
  obtain ⟨a1,a2,a3⟩:b1.length≤o.upper.length+1∧p+1≤q1∧q1≤p+1+3:=hx
  refine dr ?_
  refine oW (js W0 s q1 b1 hs (by omega) (by omega)) rfl ⟨rfl,trivial⟩ rfl rfl ⟨([],q1),by simp; omega⟩ fun x hx=>⟨rfl,?_⟩
  obtain ⟨b2,q2⟩:=x
  obtain ⟨c1,c2,c3⟩:b2.length≤b1.length+1∧q1≤q2∧q2≤q1+3:=hx
  refine dr ?_
  refine oW (js W0 s q2 b2 hs (by omega) (by omega)) rfl ⟨rfl,trivial⟩ rfl rfl ⟨([],q2),by simp; omega⟩ fun x hx=>⟨rfl,?_⟩
  obtain ⟨b3,q3⟩:=x
  obtain ⟨d1,d2,d3⟩:b3.length≤b2.length+1∧q2≤q3∧q3≤q2+3:=hx
  refine dr ?_
  refine oW (js W0 s q3 b3 hs (by omega) (by omega)) rfl ⟨rfl,trivial⟩ rfl rfl ⟨([],q3),by simp; omega⟩ fun x hx=>⟨rfl,?_⟩
  obtain ⟨b4,q4⟩:=x
  obtain ⟨e1,e2,e3⟩:b4.length≤b3.length+1∧q3≤q4∧q4≤q3+3:=hx
  refine dEr ?_
  refine ⟨some 4,_,_,?_,(⟨o.base,o.layers,b4⟩,q4),⟨⟨by simp only; omega,by simp only; omega,fun l hl=>by have:=z3 l hl; omega,by simp only; omega⟩,by omega,by omega⟩,rfl,rfl⟩
  refine dr ?_
  repeat ((first | refine oB (ovE rfl) ?_ | refine oB (by simp) ?_); first | refine dr ?_ | exact dz)
  trivial
 refine dr ?_
 refine cP ?_ ?_<;>intro h3
 ·refine dr ?_
  refine oW (zfZ W0 s (p+1) hs (by omega)) rfl ⟨rfl,trivial⟩ rfl rfl ⟨([],p+1),by simp; omega⟩ fun x hx=>⟨rfl,?_⟩
  obtain ⟨l,q1⟩:=x
  obtain ⟨a1,a2,a3⟩:l.length≤32∧p+1≤q1∧q1≤p+1+37:=hx
  refine dEr ?_
  refine ⟨some 4,_,_,?_,(⟨o.base,o.layers,l⟩,q1),⟨⟨by simp only; omega,by simp only; omega,fun l hl=>by have:=z3 l hl; omega,by simp only; omega⟩,by omega,by omega⟩,rfl,rfl⟩
  refine dr ?_
  repeat ((first | refine oB (ovE rfl) ?_ | refine oB (by simp) ?_); first | refine dr ?_ | exact dz)
  trivial
 refine dr ?_
 refine cP ?_ ?_<;>intro h4
 ·refine dr ?_
  refine lp (σ:=List (List Mark)) (fun L=>[(0,.ptr 1 0),(4,.ptr 64 0),(5,.ptr 80 0)]) (fun L=>[(1,rdB s (p+1)),(64,ni3),(80,.box [.c (eEnts o.base),.own 4 L.length,.c (eMarks o.upper)]),(4,.row (L.map eMarks) 1 25)]) (fun L=>L.length≤n+5∧∀ l∈L,l.length≤n) (fun L=>6 - L.length) o.layers ⟨by omega,z3⟩ ?_ ?_
  ·refine dr ?_
   trivial
  rintro L ⟨g1,g2⟩
  refine dr ?_
  refine cP ?_ ?_<;>intro h5
  ·refine dr ?_
   repeat (refine oB (by simp; omega) ?_; first | refine dr ?_ | exact dz)
   refine ⟨L++[[]],⟨by simp; omega,fun l hl=>?_⟩,by simp; omega,?_⟩
   ·rcases List.mem_append.1 hl with h | h
    ·exact g2 l h
    ·simp only [List.mem_singleton] at h; subst h; simp
   ·refine dr ?_
    repeat ((first | refine oB (congrArg (fun L=>XB.row L 1 25) (app1 (f:=eMarks) (x:=[]))) ?_ | refine oB (by simp) ?_); first | refine dr ?_ | exact dz)
    trivial
  ·refine dr ?_
   refine ⟨some 4,_,_,?_,(⟨o.base,L,o.upper⟩,p+1),⟨hz.put (by omega) (fun l hl=>by have:=g2 l hl; omega) (by omega),by omega,by omega⟩,rfl,rfl⟩
   refine dr ?_
   repeat ((first | refine oB (ovE rfl) ?_ | refine oB (by simp) ?_); first | refine dr ?_ | exact dz)
   trivial
 refine dr ?_
 refine cP ?_ ?_<;>intro h5
 ·refine dr ?_
  refine oW (zfZ W0 s (p+1) hs (by omega)) rfl ⟨rfl,trivial⟩ rfl rfl ⟨([],p+1),by simp; omega⟩ fun x hx=>⟨rfl,?_⟩
  obtain ⟨l,q1⟩:=x
  obtain ⟨a1,a2,a3⟩:l.length≤32∧p+1≤q1∧q1≤p+1+37:=hx
  refine dEr ?_
  repeat ((first | refine oB (by simp; omega) ?_ | refine oB (by simp) ?_); first | refine dEr ?_ | exact dz)
  refine ⟨some 4,_,_,?_,(⟨o.base,o.layers++[l],o.upper⟩,q1),⟨hz.put (by simp; omega) (fun x hx=>?_) (by omega),by omega,by omega⟩,rfl,rfl⟩
  ·refine dr ?_
   repeat ((first | refine oB (ovE app1) ?_ | refine oB (by simp) ?_); first | refine dr ?_ | exact dz)
   trivial
  ·rcases List.mem_append.1 hx with h | h
   ·have:=z3 x h; omega
   ·simp only [List.mem_singleton] at h; subst h; omega
 ·refine dr ?_
  refine ⟨some 4,_,_,?_,(o,p+1),⟨hz',by omega,by omega⟩,rfl,rfl⟩
  refine dr ?_
  repeat ((first | refine oB (ovE rfl) ?_ | refine oB (by simp) ?_); first | refine dr ?_ | exact dz)
  trivial
def zbP:XC:=(.s (.r [.ex 2 (.alloc [.nil,.nil,.nil])]) (.s (.r [.mv 3 0,.mv 4 0,.o1 5 94 [4],.o1 6 110 [3,5],.s1 3 2 6]) .ret))
theorem zbQ:compF Tryz.prog [94,110] 68=some (zbP.ac,[(.cell 2 true 3)],7):=by kernel_rfl
theorem zf7 (W0:World) (s:Str) (p:Int) (hs:s.length≤2000) (hp:0≤p∧p≤20000) :
  FunW Tryz.prog W0 68 [.ptr 1 0] (Rd s p) (fun x:Over × Int=>OZ 80 x.1∧p≤x.2∧x.2≤p+640) (fun x => .c (eOver x.1)) (fun x=>Rd s x.2):=by
 refine funW (c:=zbP) mixed zbQ (by simp) rfl rfl fun hg=>?_
 refine dr ?_
 refine oW (zf6 W0 s p hs hp) rfl ⟨rfl,trivial⟩ rfl rfl ⟨(noO,p),OS.no,by simp,by simp; omega⟩ fun x hx=>⟨rfl,?_⟩
 obtain ⟨o,q⟩:=x
 obtain ⟨a1,a2,a3⟩:OS o∧p≤q∧q≤p+600:=hx
 refine dEr ?_
 refine oW (zf2 W0 s q o 32 hs (by omega) a1.oz (by omega)) rfl ⟨rfl,trivial⟩ rfl rfl ⟨(noO,q),OS.no.oz.mono (by omega),by simp,by simp; omega⟩ fun x hx=>⟨rfl,?_⟩
 obtain ⟨x,r⟩:=x
 obtain ⟨b1,b2,b3⟩:OZ (32+40) x∧q≤r∧r≤q+40:=hx
 refine dEr ?_
 refine ⟨none,_,_,?_,(x,r),⟨b1.mono (by omega),by omega,by omega⟩,rfl,rfl⟩
 refine dr ?_
 trivial
theorem zo1 {o:Over}:((view4 o).getD []).length≤16:=by
 cases hx:view4 o with
 | none=>simp
 | some x=>exact (yZ (Zh hx)).1
end Go.Proofs.YteheahbjaddooaaGreatDoor

namespace Go.Proofs.YteheahbjaddooaaGreatDoor
set_option linter.unusedSimpArgs false
set_option linter.unusedVariables false
open Go Go.RowKit
abbrev wCo (n:Nat) (w:Wld):List PV:=[.c (eEnts w.over.base),.c (eMarkss w.over.layers),.c (eMarks w.over.upper),I w.clock,I w.count,.c (eLeases w.leases),.own 4 w.holds.length,.own 5 w.floors.length,.own n w.net.length,B w.waits,I w.op.kind,.c (CS w.op.path),.c (CS w.op.dest),.c (CS w.op.data)]
abbrev wAn (n:Nat) (w:Wld):PV := .agg (wCo n w)
abbrev wMn (n:Nat) (w:Wld):XM:=[(4,.row (w.holds.map eHolds) 1 56),(5,.row (w.floors.map CI) 1 3),(n,.row (w.net.map eMsg) 9 55)]
abbrev zWB:XB := .box [.nil,.nil,.nil,I 0,I 0,.nil,.nil,.nil,.nil,B false,I 0,.c (CS []),.c (CS []),.c (CS [])]
theorem KeepS.nilF {k0:List Nat} {m:XM} (A:Fr) (t0:Nat) (h0:lkX A t0=some .nil):KeepS k0 A m ((t0,.c (.row []))::A) m:=fun W0 F K hA hK=>by
 intro w0 κ0 m0 N κ act w hk0 hr
 refine ⟨κ,_,_,⟨hr.mw,hr.start,hr.low0,hr.s0,hr.size,hr.defers,fun t x hx=>?_⟩,hK⟩
 rw [qy] at hx
 split at hx
 ·rename_i h
  subst h
  cases hx
  have h1:lk F t=some .nil:=by rw [← hA t,← qw]; exact h0
  obtain ⟨q1,q2⟩:=hr.tmps t _ h1
  obtain ⟨o,ho⟩:=(show Rep1 κ (Go.Proofs.YteheahbjaddooaaGreatDoor.er m) w .nil (act.tmps.getD t undef) from q2)
  exact ⟨q1,by rw [ho]; exact RepC.nil (Nat.zero_le _)⟩
 ·exact hr.tmps t x (by rw [← hA t]; exact hx)
theorem zmC {w:Wld} {m:Msg} (h:w.net.length < 12):sendW w m={ w with net:=w.net++[m] }:=by unfold sendW; rw [if_pos h]
theorem zmA {w:Wld} {m:Msg} (h:12≤w.net.length):sendW w m=w:=by unfold sendW; rw [if_neg (by omega)]
theorem zmB {w:Wld} {m:Msg} (h:w.net.length≤1000):(sendW w m).net.length≤1000:=by
 unfold sendW; split
 ·simp; omega
 ·exact h
theorem xrow1 {α:Type} {f:α→CV} {t:List α} {x:α} {n e:Nat}:XB.row (t.map f++[f x]) n e = .row ((t++[x]).map f) n e:=by rw [List.map_append]; rfl
theorem xown1 {α:Type} {t:List α} {x:α} {n:Nat}:PV.own n (t.length+1) = .own n (t++[x]).length:=by simp
def zcf:XC:=(.s (.r [.ex 2 (.box 0),.ex 3 (.box 1),.ex 4 (.alloc [.nil,.nil,.nil,(I 0),(I 0),.nil,.nil,.nil,.nil,(B false),(I 0),sE,sE,sE])]) (.s (.s (.r [.f1 5 8 2,.l1 6 1 5,.n1 7 6,.b1 8 .lss 7 (.i 12)]) (.cnd 8 (.r [.f1 9 8 2,.l1 10 1 9,.l2 11 9 3,.ex 12 (.bsl 9 55 [11]),.ex 13 (.app false 9 96 55 10 12),.f1 14 8 2,.s1 1 14 13]) .skip)) (.s (.r [.l2 15 14 2,.s1 14 4 15]) .ret)))
theorem zcg:compF Tryz.prog [] 114=some (zcf.ac,[(.cell 4 true 14)],16):=by kernel_rfl
theorem jw (W0:World) (w:Wld) (m:Msg) (h:w.net.length≤1000):FunW Tryz.prog W0 114 [wAn 6 w,.c (eMsg m)] (wMn 6 w) (fun _:Unit=>True) (fun _=>wAn 6 (sendW w m)) (fun _=>wMn 6 (sendW w m)):=by
 refine funW (c:=zcf) mixed zcg (by simp) rfl rfl fun hg=>?_
 refine dr ?_
 refine cP ?_ ?_<;>intro h1
 ·rw [zmC (by omega)]
  refine dr ?_
  repeat ((first | refine oB (by simp) ?_ | refine oB (by simp; omega) ?_); first | refine dr ?_ | exact dz)
  refine ⟨none,_,_,?_,(),trivial,rfl,rfl⟩
  refine dr ?_
  repeat ((first | refine oB (congrArg (fun y=>PV.agg [.c (eEnts w.over.base),.c (eMarkss w.over.layers),.c (eMarks w.over.upper),I w.clock,I w.count,.c (eLeases w.leases),.own 4 w.holds.length,.own 5 w.floors.length,y,B w.waits,I w.op.kind,.c (CS w.op.path),.c (CS w.op.dest),.c (CS w.op.data)]) xown1) ?_ | refine oB xrow1 ?_); first | refine dr ?_ | exact dz)
  trivial
 ·rw [zmA (by omega)]
  refine dr ?_
  repeat (refine oB (by simp) ?_; first | refine dr ?_ | exact dz)
  refine ⟨none,_,_,?_,(),trivial,rfl,rfl⟩
  refine dr ?_
  repeat (refine oB (by simp) ?_; first | refine dr ?_ | exact dz)
  trivial
def zcd:XC:=(.s (.r [.ex 2 (.box 0),.ex 4 (.alloc [.nil,.nil,.nil,(I 0),(I 0),.nil,.nil,.nil,.nil,(B false),(I 0),sE,sE,sE])]) (.s (.s (.r [.m1 5 (.i 0)]) (.blk 0 (.loop (.s (.s (.r [.mv 6 5,.mv 7 1,.n1 8 7,.b1 9 .lss 6 8]) (.cnd 9 .skip (.exit 0))) (.s (.blk 1 (.d [.l2 12 14 2,.mv 13 1,.mv 14 5,.i1 15 4 13 14,.f1 16 0 15,.l1 17 1 16,.mv 18 1,.mv 19 5,.i1 20 4 18 19,.f1 21 1 20,.l1 22 1 21,.f1 23 4 2,.l1 24 1 23,.ex 25 (.build [sE,(B false),sE,(B false),sE,(I 0),(I 0)] [(0,(1,22)),(5,(1,24))]),.ex 26 (.build [(I 0),(I 0),sE,(B false),sE,(B false),sE,(I 0),(I 0)] [(0,(1,(.i 3))),(1,(1,17)),(2,(7,25))]),.o1 27 114 [12,26],.s1 14 2 27])) (.r [.mv 10 5,.b1 11 .add 10 (.i 1),.mv 5 11])))))) (.s (.r [.l2 28 14 2,.s1 14 4 28]) .ret)))
theorem zce:compF Tryz.prog [114] 175=some (zcd.ac,[(.cell 4 true 14)],29):=by kernel_rfl
theorem zlR {w:Wld} {b:List Lease} {k:Nat} (h:k < b.length):recallW w (b.take (k+1))=sendW (recallW w (b.take k)) (rclM w.count b[k]):=by
 have e:(recallW w (b.take k)).count=w.count:=yB.2.2.1
 unfold recallW at e ⊢
 rw [jV h,e]
theorem zgl (W0:World) (w:Wld) (b:List Lease) (h:w.net.length≤1000) (hb:b.length≤1000000):FunW Tryz.prog W0 175 [wAn 6 w,.c (eLeases b)] (wMn 6 w) (fun _:Unit=>True) (fun _=>wAn 6 (recallW w b)) (fun _=>wMn 6 (recallW w b)):=by
 refine funW (c:=zcd) mixed zce (by simp) rfl rfl fun hg=>?_
 refine dr ?_
 refine lp2 (fun (k:Nat) (x:Wld)=>[(1,.c (eLeases b)),(2,.ptr 32 0),(4,.ptr 64 0),(5,I k)]) (fun _ x=>[(32,.box (wCo 6 x)),(64,zWB)]++wMn 6 x) (fun k x=>k≤b.length∧x=recallW w (b.take k)∧x.net.length≤1000) (fun k _=>b.length - k) 0 w ⟨by omega,rfl,h⟩ ?_ ?_
 ·refine dr ?_
  trivial
 rintro k x ⟨hk,hx,hn⟩
 refine dr ?_
 refine cP ?_ ?_<;>intro h1
 ·have hk':k < b.length:=by omega
  have hc:x.count=w.count:=by rw [hx]; exact yB.2.2.1
  refine dr ?_
  refine oW (jw W0 x (rclM x.count b[k]) hn) rfl ⟨rfl,rfl,rfl,trivial⟩ rfl rfl ⟨(),trivial⟩ fun _ _=>⟨rfl,?_⟩
  refine dEr ?_
  refine ⟨k+1,sendW x (rclM x.count b[k]),⟨by omega,by rw [zlR hk',← hx,hc],zmB hn⟩,by omega,?_⟩
  refine dr ?_
  trivial
 ·have hkl:k=b.length:=by omega
  rw [hkl,List.take_length] at hx
  rw [← hx]
  refine dr ?_
  refine ⟨none,_,_,?_,(),trivial,rfl,rfl⟩
  refine dr ?_
  trivial
def zb5:XC:=(.s (.r [.m1 4 .n]) (.s (.s (.r [.m1 5 (.i 0)]) (.blk 0 (.loop (.s (.s (.r [.mv 6 5,.mv 7 0,.n1 8 7,.b1 9 .lss 6 8]) (.cnd 9 .skip (.exit 0))) (.s (.blk 1 (.s (.r [.mv 12 0,.mv 13 5,.i1 14 1 12 13,.l1 15 1 14,.mv 16 1,.b1 17 .eql 15 16]) (.cnd 17 (.s (.r [.m1 4 .y]) .ret) .skip))) (.r [.mv 10 5,.b1 11 .add 10 (.i 1),.mv 5 11])))))) (.s (.r [.m1 4 .n]) .ret)))
theorem zb6:compF Tryz.prog [] 209=some (zb5.ac,[(.t 4)],18):=by kernel_rfl
theorem zgf (W0:World) (l:List Str) (p:Str) (hl:l.length≤1000000):Fn Tryz.prog W0 209 [eStrs l,CS p] (.c (CB (l.contains p))) []:=by
 refine fnX (c:=zb5) mixed zb6 (by simp) rfl fun hg=>?_
 refine dr ?_
 refine lp (σ:=Nat) (fun k=>[(0,.c (eStrs l)),(1,.c (CS p)),(5,I k)]) (fun _=>[]) (fun k=>k≤l.length∧p ∉ l.take k) (fun k=>l.length - k) 0 ⟨by omega,by simp⟩ ?_ ?_
 ·refine dr ?_
  trivial
 rintro k ⟨hk,hA⟩
 refine dr ?_
 refine cP ?_ ?_<;>intro h1
 ·have hk':k < l.length:=by omega
  refine dr ?_
  refine cP ?_ ?_<;>intro h2
  ·refine dr ?_
   exact bT (by rw [List.contains_eq_mem,decide_eq_true_iff,← h2]; exact List.getElem_mem hk')
  ·refine dr ?_
   refine ⟨k+1,⟨by omega,fun hl=>?_⟩,by omega,?_⟩
   ·rw [List.take_succ_eq_append_getElem hk'] at hl
    rcases List.mem_append.1 hl with h' | h'
    ·exact hA h'
    ·rw [List.mem_singleton] at h'; exact h2 h'.symm
   refine dr ?_
   trivial
 ·have hkl:k=l.length:=by omega
  rw [hkl,List.take_length] at hA
  refine dr ?_
  exact bF (by rw [List.contains_eq_mem,decide_eq_false_iff_not]; exact hA)
theorem zoF {w:Wld} {op:Op}:(turnsW w op).length≤1000:=by
 unfold turnsW
 split
 ·refine Nat.le_trans zoB ?_
  have h1:=@zo1 w.over
  have h2:=@zow (vwG w.over) op
  have h3:(vwG w.over).length≤16:=h1
  omega
 ·simp
def zcn:XC:=(.s (.r [.ex 2 (.box 0),.ex 3 (.box 1),.ex 4 (.asn (.k .nil) 1 9)]) (.s (.r [.f1 10 0 2,.l2 11 3 10,.c1 12 69 [11],.mv 9 12,.e1 13 9 0,.e1 14 9 1,.a1 5 13 3 39,.mv 6 14]) (.s (.r [.mv 16 5,.l2 17 4 3,.c1 18 107 [16,17],.mv 15 18,.e1 19 15 0,.e1 20 15 1,.a1 7 19 3 39,.mv 8 20]) (.s (.s (.r [.mv 21 8,.b1 22 .neq 21 (.i 0)]) (.cnd 22 (.s (.r [.ex 23 .bsl0,.a1 4 23 1 9]) .ret) .skip)) (.s (.r [.mv 24 5,.mv 25 7,.c1 26 120 [24,25],.a1 4 26 1 9]) .ret)))))
theorem zco:compF Tryz.prog [] 208=some (zcn.ac,[(.t 4)],27):=by kernel_rfl
theorem zgp (W0:World) (w:Wld) (op:Op):FunW Tryz.prog W0 208 [wAn 6 w,.c (eOp op)] (wMn 6 w) (fun _:Unit=>True) (fun _ => .c (eStrs (turnsW w op))) (fun _=>wMn 6 w):=by
 refine funW (c:=zcn) mixed zco (by simp) rfl rfl fun hg=>?_
 have hv:=jv W0 w.over
 rw [zd1] at hv
 have hvl:=@zo1 w.over
 have e:turnsW w op=if (treeDo ((view4 w.over).getD []) op).2=0 then turned ((view4 w.over).getD []) (treeDo ((view4 w.over).getD []) op).1 else []:=rfl
 rw [e]
 clear e
 generalize (view4 w.over).getD []=t at *
 have hd:=jE W0 t op
 have hdl:=@zow t op
 have ht:=zfQ W0 t (treeDo t op).1 (by omega)
 generalize treeDo t op=r at *
 refine dEr ?_
 repeat ((first | refine c0 hv rfl ?_ | refine c0 hd rfl ?_); first | refine dEr ?_ | exact dz)
 refine cP ?_ ?_<;>intro h1
 ·rw [if_neg h1]
  refine dr ?_
  repeat (refine oB (by simp) ?_; first | refine dr ?_ | exact dz)
  refine ⟨some 3,_,_,?_,(),trivial,rfl,rfl⟩
  refine KeepS.trans (z:=none) (KeepS.nilF _ 0 rfl) ?_
  refine dr ?_
  repeat (refine oB (by simp) ?_; first | refine dr ?_ | exact dz)
  trivial
 ·rw [if_pos h1]
  refine dEr ?_
  repeat (refine c0 ht rfl ?_; first | refine dEr ?_ | exact dz)
  refine ⟨none,_,_,?_,(),trivial,rfl,rfl⟩
  refine dr ?_
  repeat (refine oB (by simp) ?_; first | refine dr ?_ | exact dz)
  trivial
theorem ZO {w:Wld} {op:Op}:barsW w op=w.leases.filter (fun l=>decide (w.clock < l.til)&&(turnsW w op).contains l.path):=rfl
def Yt:XC:=(.s (.r [.ex 2 (.box 0),.ex 3 (.box 1),.ex 4 (.asn (.k .nil) 4 72)]) (.s (.r [.ex 8 .bsl0,.a1 5 8 4 72]) (.s (.r [.l2 9 14 2,.l2 10 4 3,.o1 11 208 [9,10],.a1 6 11 1 9]) (.s (.s (.r [.m1 7 (.i 0)]) (.blk 0 (.loop (.s (.s (.r [.mv 12 7,.f1 13 5 2,.l1 14 1 13,.n1 15 14,.b1 16 .lss 12 15]) (.cnd 16 .skip (.exit 0))) (.s (.blk 1 (.s (.d [.f1 19 3 2,.l1 20 1 19,.f1 21 5 2,.l1 22 1 21,.mv 23 7,.i1 24 4 22 23,.f1 25 3 24,.l1 26 1 25,.b1 27 .lss 20 26,.mv 28 27,.gt 29 (.mv 6) 28,.gt 30 (.fa 5 2) 28,.gt 31 (.ld false 1 30) 28,.gt 32 (.mv 7) 28,.gt 33 (.ia 4 31 32) 28,.gt 34 (.fa 1 33) 28,.gt 35 (.ld false 1 34) 28,.gt 36 (.call 209 [29,35]) 28,.ex 37 (.pick 28 36 .n)]) (.cnd 37 (.r [.mv 38 5,.f1 39 5 2,.l1 40 1 39,.mv 41 7,.i1 42 4 40 41,.l2 43 4 42,.ex 44 (.bsl 4 72 [43]),.ex 45 (.app false 4 40 72 38 44),.a1 5 45 4 72]) .skip))) (.r [.mv 17 7,.b1 18 .add 17 (.i 1),.mv 7 18])))))) (.s (.r [.mv 46 5,.a1 4 46 4 72]) .ret)))))
theorem Yu:compF Tryz.prog [208] 174=some (Yt.ac,[(.t 4)],47):=by kernel_rfl
theorem zf9 (W0:World) (w:Wld) (op:Op) (hl:w.leases.length≤1000000):FunW Tryz.prog W0 174 [wAn 6 w,.c (eOp op)] (wMn 6 w) (fun _:Unit=>True) (fun _ => .c (eLeases (barsW w op))) (fun _=>wMn 6 w):=by
 refine funW (c:=Yt) mixed Yu (by simp) rfl rfl fun hg=>?_
 have ht:=zgp W0 w op
 have htl:=@zoF w op
 rw [ZO]
 generalize turnsW w op=ts at *
 refine dr ?_
 refine oW ht rfl ⟨rfl,rfl,rfl,trivial⟩ rfl rfl ⟨(),trivial⟩ fun _ _=>⟨rfl,?_⟩
 refine dEr ?_
 refine lp2 (fun (k:Nat) (out:List Lease)=>[(2,.ptr 32 0),(5,.own 80 out.length),(6,.c (eStrs ts)),(7,I k)]) (fun _ out=>[(32,.box (wCo 6 w)),(80,.row (out.map eLease) 4 72)]++wMn 6 w) (fun k out=>k≤w.leases.length∧out=(w.leases.take k).filter (fun l=>decide (w.clock < l.til)&&ts.contains l.path)∧out.length≤k) (fun k _=>w.leases.length - k) 0 [] ⟨by simp,rfl,by simp⟩ ?_ ?_
 ·refine dr ?_
  trivial
 rintro k out ⟨hk,ho,hle⟩
 refine dr ?_
 refine cP ?_ ?_<;>intro h1
 ·have hk':k < w.leases.length:=by omega
  refine dr ?_
  refine cP ?_ ?_<;>intro h2
  ·refine dEr ?_
   repeat (refine c0 (zgf W0 ts _ (by omega)) rfl ?_; first | refine dEr ?_ | exact dz)
   refine cP ?_ ?_<;>intro h3
   ·refine dr ?_
    repeat ((first | refine oB (by simp; omega) ?_ | refine oB (by simp) ?_); first | refine dr ?_ | exact dz)
    refine ⟨k+1,out++[w.leases[k]],⟨by omega,by rw [jI hk' (by rw [decide_eq_true h2,h3]<;>rfl),ho],by simp; omega⟩,by omega,?_⟩
    refine dr ?_
    repeat (refine oB (by simp<;>rfl) ?_; first | refine dr ?_ | exact dz)
    trivial
   ·refine dr ?_
    refine ⟨k+1,out,⟨by omega,by rw [jH hk' (by rw [h3,Bool.and_false]),ho],by omega⟩,by omega,?_⟩
    refine dr ?_
    trivial
  ·refine dr ?_
   refine ⟨k+1,out,⟨by omega,by rw [jH hk' (by rw [decide_eq_false (by omega),Bool.false_and]),ho],by omega⟩,by omega,?_⟩
   refine dr ?_
   trivial
 have hkl:k=w.leases.length:=by omega
 rw [hkl,List.take_length] at ho
 rw [← ho]
 refine dr ?_
 repeat (refine oB (by simp) ?_; first | refine dr ?_ | exact dz)
 refine ⟨some 80,_,_,?_,(),trivial,rfl,rfl⟩
 refine dr ?_
 repeat (refine oB (by simp<;>rfl) ?_; first | refine dr ?_ | exact dz)
 trivial
end Go.Proofs.YteheahbjaddooaaGreatDoor

namespace Go.Proofs.YteheahbjaddooaaGreatDoor
set_option linter.unusedSimpArgs false
set_option linter.unusedVariables false
open Go Go.RowKit
def zcr:XC:=(.s (.r [.ex 2 (.box 0),.ex 3 (.box 1),.ex 4 (.alloc [.nil,.nil,.nil,(I 0),(I 0),.nil,.nil,.nil,.nil,(B false),(I 0),sE,sE,sE]),.m1 5 (.i 0)]) (.s (.r [.f1 12 0 2,.l2 13 3 12,.c1 14 69 [13],.mv 11 14,.e1 15 11 0,.e1 16 11 1,.a1 6 15 3 39,.mv 7 16]) (.s (.r [.mv 18 6,.l2 19 4 3,.c1 20 107 [18,19],.mv 17 20,.e1 21 17 0,.e1 22 17 1,.a1 8 21 3 39,.mv 9 22]) (.s (.s (.r [.f1 23 9 2,.l1 24 1 23]) (.cnd 24 (.s (.r [.l2 25 14 2,.s1 14 4 25,.m1 5 (.i 21)]) .ret) .skip)) (.s (.s (.r [.mv 26 9,.b1 27 .neq 26 (.i 0)]) (.cnd 27 (.s (.r [.l2 28 14 2,.mv 29 9,.s1 14 4 28,.mv 5 29]) .ret) .skip)) (.s (.r [.l2 30 14 2,.l2 31 4 3,.o1 32 174 [30,31],.a1 10 32 4 72]) (.s (.s (.r [.mv 33 10,.n1 34 33,.b1 35 .gtr 34 (.i 0)]) (.cnd 35 (.s (.r [.f1 36 9 2,.nu (.st 1 36 .y)]) (.s (.r [.l2 37 4 3,.f1 38 10 2,.s1 4 38 37]) (.s (.r [.l2 39 14 2,.mv 40 10,.o1 41 175 [39,40],.s1 14 4 41,.m1 5 (.i 20)]) .ret))) .skip)) (.s (.r [.f1 43 0 2,.l2 44 3 43,.l2 45 4 3,.c1 46 93 [44,45],.mv 42 46,.e1 47 42 0,.e1 48 42 1,.f1 49 0 2,.s1 3 49 47]) (.s (.r [.l2 50 14 2,.s1 14 4 50,.m1 5 (.i 0)]) .ret)))))))))
theorem zcs:compF Tryz.prog [174,175] 115=some (zcr.ac,[(.cell 4 true 14),(.t 5)],51):=by kernel_rfl
theorem zo3 {w:Wld} (h:WG w):view4 w.over=some (vwG w.over):=by
 obtain ⟨t,g⟩:=h.og
 exact g.vw
theorem zgr (W0:World) (w:Wld) (op:Op) (h:WG w) (hl:w.leases.length≤1000000):FunW Tryz.prog W0 115 [wAn 6 w,.c (eOp op)] (wMn 6 w) (fun _:Unit=>True) (fun _ => .tup [wAn 6 (writeW w op).1,.c (CI (writeW w op).2)]) (fun _=>wMn 6 (writeW w op).1):=by
 refine funW (c:=zcr) mixed zcs (by simp) rfl rfl fun hg=>?_
 have hv:=jv W0 w.over
 rw [zo3 h] at hv
 have hd:=jE W0 (vwG w.over) op
 have hn:w.net.length≤1000:=by have:=h.pl.nl; omega
 have hb:=zf9 W0 w op hl
 have hbl:(barsW w op).length≤1000000:=Nat.le_trans (List.length_filter_le _ _) hl
 have ho:=zgQ W0 w.over op
 have hw:writeW w op=if w.waits=true then (w,21) else if (treeDo (vwG w.over) op).2≠0 then (w,(treeDo (vwG w.over) op).2)
  else if barsW w op≠[] then (recallW { w with waits:=true,op:=op } (barsW w op),20)
  else ({ w with over:=(oDo w.over op).1 },0):=rfl
 rw [hw]
 generalize hb2:barsW w op=b at *
 generalize treeDo (vwG w.over) op=r at *
 generalize oDo w.over op=o2 at *
 refine dEr ?_
 repeat ((first | refine c0 hv rfl ?_ | refine c0 hd rfl ?_); first | refine dEr ?_ | exact dz)
 refine cP ?_ ?_<;>intro h1
 ·rw [if_pos h1]
  refine dr ?_
  refine ⟨none,_,_,?_,(),trivial,rfl,rfl⟩
  refine dr ?_
  trivial
 rw [if_neg (by simp [h1])]
 refine dr ?_
 refine cP ?_ ?_<;>intro h2
 ·rw [if_pos h2]
  refine dr ?_
  refine ⟨none,_,_,?_,(),trivial,rfl,rfl⟩
  refine dr ?_
  trivial
 rw [if_neg (fun hh=>hh h2)]
 refine dr ?_
 refine oW hb rfl ⟨rfl,rfl,rfl,trivial⟩ rfl rfl ⟨(),trivial⟩ fun _ _=>⟨rfl,?_⟩
 refine dEr ?_
 refine cP ?_ ?_<;>intro h3
 ·rw [if_pos (by rintro rfl; simp at h3)]
  refine dr ?_
  refine oW (zgl W0 { w with waits:=true,op:=op } b hn hbl) rfl ⟨rfl,rfl,rfl,trivial⟩ rfl rfl ⟨(),trivial⟩ fun _ _=>⟨rfl,?_⟩
  refine dEr ?_
  refine ⟨none,_,_,?_,(),trivial,rfl,rfl⟩
  refine dr ?_
  trivial
 ·have hb0:b=[]:=List.eq_nil_of_length_eq_zero (by omega)
  rw [if_neg (by simp [hb0])]
  refine dEr ?_
  repeat (refine c0 ho rfl ?_; first | refine dEr ?_ | exact dz)
  refine ⟨none,_,_,?_,(),trivial,rfl,rfl⟩
  refine dr ?_
  trivial
def zcl:XC:=(.s (.r [.ex 1 (.box 0),.ex 2 (.alloc [.nil,.nil,.nil,(I 0),(I 0),.nil,.nil,.nil,.nil,(B false),(I 0),sE,sE,sE]),.m1 3 (.i 0)]) (.s (.s (.r [.f1 5 9 1,.l1 6 1 5,.ex 7 (.un .not 6)]) (.cnd 7 (.s (.r [.l2 8 14 1,.s1 14 2 8,.m1 3 (.i 22)]) .ret) .skip)) (.s (.r [.l2 9 14 1,.f1 10 10 1,.l2 11 4 10,.o1 12 174 [9,11],.a1 4 12 4 72]) (.s (.s (.r [.mv 13 4,.n1 14 13,.b1 15 .gtr 14 (.i 0)]) (.cnd 15 (.s (.r [.l2 16 14 1,.mv 17 4,.o1 18 175 [16,17],.s1 14 2 18,.m1 3 (.i 20)]) .ret) .skip)) (.s (.r [.f1 20 0 1,.l2 21 3 20,.f1 22 10 1,.l2 23 4 22,.c1 24 93 [21,23],.mv 19 24,.e1 25 19 0,.e1 26 19 1,.f1 27 0 1,.s1 3 27 25]) (.s (.r [.f1 28 9 1,.nu (.st 1 28 .n)]) (.s (.r [.ex 29 (.build [(I 0),sE,sE,sE] []),.f1 30 10 1,.s1 4 30 29]) (.s (.r [.l2 31 14 1,.s1 14 2 31,.m1 3 (.i 0)]) .ret))))))))
theorem zcm:compF Tryz.prog [174,175] 116=some (zcl.ac,[(.cell 2 true 14),(.t 3)],32):=by kernel_rfl
theorem zgo (W0:World) (w:Wld) (h:WG w) (hl:w.leases.length≤1000000):FunW Tryz.prog W0 116 [wAn 6 w] (wMn 6 w) (fun _:Unit=>True) (fun _ => .tup [wAn 6 (tryW w).1,.c (CI (tryW w).2)]) (fun _=>wMn 6 (tryW w).1):=by
 refine funW (c:=zcl) mixed zcm (by simp) rfl rfl fun hg=>?_
 have hn:w.net.length≤1000:=by have:=h.pl.nl; omega
 have hb:=zf9 W0 w w.op hl
 have hbl:(barsW w w.op).length≤1000000:=Nat.le_trans (List.length_filter_le _ _) hl
 have ho:=zgQ W0 w.over w.op
 have hw:tryW w=if w.waits=false then (w,22) else if barsW w w.op≠[] then (recallW w (barsW w w.op),20)
  else ({ w with over:=(oDo w.over w.op).1,waits:=false,op:=noOp },0):=rfl
 rw [hw]
 generalize hb2:barsW w w.op=b at *
 generalize oDo w.over w.op=o2 at *
 refine dr ?_
 refine cP ?_ ?_<;>intro h1
 ·rw [if_pos h1]
  refine dr ?_
  refine ⟨none,_,_,?_,(),trivial,rfl,rfl⟩
  refine dr ?_
  trivial
 rw [if_neg (by simp [h1])]
 refine dr ?_
 refine oW hb rfl ⟨rfl,rfl,rfl,trivial⟩ rfl rfl ⟨(),trivial⟩ fun _ _=>⟨rfl,?_⟩
 refine dEr ?_
 refine cP ?_ ?_<;>intro h3
 ·rw [if_pos (by rintro rfl; simp at h3)]
  refine dr ?_
  refine oW (zgl W0 w b hn hbl) rfl ⟨rfl,rfl,rfl,trivial⟩ rfl rfl ⟨(),trivial⟩ fun _ _=>⟨rfl,?_⟩
  refine dEr ?_
  refine ⟨none,_,_,?_,(),trivial,rfl,rfl⟩
  refine dr ?_
  trivial
 ·have hb0:b=[]:=List.eq_nil_of_length_eq_zero (by omega)
  rw [if_neg (by simp [hb0])]
  refine dEr ?_
  repeat (refine c0 ho rfl ?_; first | refine dEr ?_ | exact dz)
  refine ⟨none,_,_,?_,(),trivial,rfl,rfl⟩
  refine dr ?_
  trivial
theorem zkM {l:List Lease} {who:Int} {p:Str} {num:Int}:offL l who p num=l.filter fun x=>!(x.who==who&&(x.path==p&&decide (x.num≤num))):=rfl
def zcb:XC:=(.s (.r [.ex 8 (.asn (.k .nil) 4 72)]) (.s (.r [.ex 11 .bsl0,.a1 9 11 4 72]) (.s (.s (.r [.m1 10 (.i 0)]) (.blk 0 (.loop (.s (.s (.r [.mv 12 10,.mv 13 0,.n1 14 13,.b1 15 .lss 12 14]) (.cnd 15 .skip (.exit 0))) (.s (.blk 1 (.s (.r [.mv 18 0,.mv 19 10,.i1 20 4 18 19,.f1 21 0 20,.l1 22 1 21,.mv 23 1,.b1 24 .neq 22 23,.mv 25 24,.gf 26 (.mv 0) 25,.gf 27 (.mv 10) 25,.gf 28 (.ia 4 26 27) 25,.gf 29 (.fa 1 28) 25,.gf 30 (.ld false 1 29) 25,.gf 31 (.mv 2) 25,.gf 32 (.bin .neq 30 31) 25,.ex 33 (.pick 25 .y 32),.mv 34 33,.gf 35 (.mv 0) 34,.gf 36 (.mv 10) 34,.gf 37 (.ia 4 35 36) 34,.gf 38 (.fa 2 37) 34,.gf 39 (.ld false 1 38) 34,.gf 40 (.mv 3) 34,.gf 41 (.bin .gtr 39 40) 34,.ex 42 (.pick 34 .y 41)]) (.cnd 42 (.r [.mv 43 9,.mv 44 0,.mv 45 10,.i1 46 4 44 45,.l2 47 4 46,.ex 48 (.bsl 4 72 [47]),.ex 49 (.app false 4 40 72 43 48),.a1 9 49 4 72]) .skip))) (.r [.mv 16 10,.b1 17 .add 16 (.i 1),.mv 10 17])))))) (.s (.r [.mv 50 9,.a1 8 50 4 72]) .ret))))
theorem zcc:compF Tryz.prog [] 213=some (zcb.ac,[(.t 8)],51):=by kernel_rfl
theorem zgi (W0:World) (l:List Lease) (who:Int) (p:Str) (num:Int) (hl:l.length≤1000000):Fn Tryz.prog W0 213 [eLeases l,CI who,CS p,CI num] (.c (eLeases (offL l who p num))) []:=by
 refine fnX (c:=zcb) mixed zcc (by simp) rfl fun hg=>?_
 refine dr ?_
 refine lp2 (fun (k:Nat) (out:List Lease)=>[(0,.c (eLeases l)),(1,.c (CI who)),(2,.c (CS p)),(3,.c (CI num)),(9,.own 144 out.length),(10,I k)]) (fun _ out=>[(144,.row (out.map eLease) 4 72)]) (fun k out=>k≤l.length∧out=(l.take k).filter (fun x=>!(x.who==who&&(x.path==p&&decide (x.num≤num))))∧out.length≤k) (fun k _=>l.length - k) 0 [] ⟨by simp,rfl,by simp⟩ ?_ ?_
 ·refine dr ?_
  trivial
 rintro k out ⟨hk,ho,hle⟩
 refine dr ?_
 refine cP ?_ ?_<;>intro h1
 ·have hk':k < l.length:=by omega
  have keep:(!(l[k].who==who&&(l[k].path==p&&decide (l[k].num≤num))))=true→out++[l[k]]=(l.take (k+1)).filter (fun x=>!(x.who==who&&(x.path==p&&decide (x.num≤num)))):=fun h=>by rw [jI hk' h,ho]
  refine dr ?_
  refine cP ?_ ?_<;>intro h2
  ·refine dr ?_
   repeat ((first | refine oB (by simp; omega) ?_ | refine oB (by simp) ?_); first | refine dr ?_ | exact dz)
   refine ⟨k+1,out++[l[k]],⟨by omega,keep (by simp [h2]),by simp; omega⟩,by omega,?_⟩
   refine dr ?_
   repeat (refine oB (by simp<;>rfl) ?_; first | refine dr ?_ | exact dz)
   trivial
  refine dr ?_
  refine cP ?_ ?_<;>intro h3
  ·refine dr ?_
   repeat ((first | refine oB (by simp; omega) ?_ | refine oB (by simp) ?_); first | refine dr ?_ | exact dz)
   refine ⟨k+1,out++[l[k]],⟨by omega,keep (by simp [h3]),by simp; omega⟩,by omega,?_⟩
   refine dr ?_
   repeat (refine oB (by simp<;>rfl) ?_; first | refine dr ?_ | exact dz)
   trivial
  refine dr ?_
  refine cP ?_ ?_<;>intro h4
  ·refine dr ?_
   repeat ((first | refine oB (by simp; omega) ?_ | refine oB (by simp) ?_); first | refine dr ?_ | exact dz)
   refine ⟨k+1,out++[l[k]],⟨by omega,keep (by simp; omega),by simp; omega⟩,by omega,?_⟩
   refine dr ?_
   repeat (refine oB (by simp<;>rfl) ?_; first | refine dr ?_ | exact dz)
   trivial
  ·refine dr ?_
   refine ⟨k+1,out,⟨by omega,by rw [jH hk' (by simp [h2,h3]; omega),ho],by omega⟩,by omega,?_⟩
   refine dr ?_
   trivial
 have hkl:k=l.length:=by omega
 rw [hkl,List.take_length] at ho
 rw [zkM,← ho]
 refine dr ?_
 repeat (refine oB (by simp) ?_; first | refine dr ?_ | exact dz)
 rfl
theorem zgk (W0:World) (l:List Lease) (who:Int) (p:Str) (num:Int) (hl:l.length≤1000000):FunW Tryz.prog W0 213 [.c (eLeases l),.c (CI who),.c (CS p),.c (CI num)] [] (fun _:Unit=>True) (fun _ => .own 144 (offL l who p num).length) (fun _=>[(144,.row ((offL l who p num).map eLease) 4 72)]):=by
 refine funW (c:=zcb) mixed zcc (by simp) rfl rfl fun hg=>?_
 refine dr ?_
 refine lp2 (fun (k:Nat) (out:List Lease)=>[(0,.c (eLeases l)),(1,.c (CI who)),(2,.c (CS p)),(3,.c (CI num)),(9,.own 144 out.length),(10,I k)]) (fun _ out=>[(144,.row (out.map eLease) 4 72)]) (fun k out=>k≤l.length∧out=(l.take k).filter (fun x=>!(x.who==who&&(x.path==p&&decide (x.num≤num))))∧out.length≤k) (fun k _=>l.length - k) 0 [] ⟨by simp,rfl,by simp⟩ ?_ ?_
 ·refine dr ?_
  trivial
 rintro k out ⟨hk,ho,hle⟩
 refine dr ?_
 refine cP ?_ ?_<;>intro h1
 ·have hk':k < l.length:=by omega
  have keep:(!(l[k].who==who&&(l[k].path==p&&decide (l[k].num≤num))))=true→out++[l[k]]=(l.take (k+1)).filter (fun x=>!(x.who==who&&(x.path==p&&decide (x.num≤num)))):=fun h=>by rw [jI hk' h,ho]
  refine dr ?_
  refine cP ?_ ?_<;>intro h2
  ·refine dr ?_
   repeat ((first | refine oB (by simp; omega) ?_ | refine oB (by simp) ?_); first | refine dr ?_ | exact dz)
   refine ⟨k+1,out++[l[k]],⟨by omega,keep (by simp [h2]),by simp; omega⟩,by omega,?_⟩
   refine dr ?_
   repeat (refine oB (by simp<;>rfl) ?_; first | refine dr ?_ | exact dz)
   trivial
  refine dr ?_
  refine cP ?_ ?_<;>intro h3
  ·refine dr ?_
   repeat ((first | refine oB (by simp; omega) ?_ | refine oB (by simp) ?_); first | refine dr ?_ | exact dz)
   refine ⟨k+1,out++[l[k]],⟨by omega,keep (by simp [h3]),by simp; omega⟩,by omega,?_⟩
   refine dr ?_
   repeat (refine oB (by simp<;>rfl) ?_; first | refine dr ?_ | exact dz)
   trivial
  refine dr ?_
  refine cP ?_ ?_<;>intro h4
  ·refine dr ?_
   repeat ((first | refine oB (by simp; omega) ?_ | refine oB (by simp) ?_); first | refine dr ?_ | exact dz)
   refine ⟨k+1,out++[l[k]],⟨by omega,keep (by simp; omega),by simp; omega⟩,by omega,?_⟩
   refine dr ?_
   repeat (refine oB (by simp<;>rfl) ?_; first | refine dr ?_ | exact dz)
   trivial
  ·refine dr ?_
   refine ⟨k+1,out,⟨by omega,by rw [jH hk' (by simp [h2,h3]; omega),ho],by omega⟩,by omega,?_⟩
   refine dr ?_
   trivial
 have hkl:k=l.length:=by omega
 rw [hkl,List.take_length] at ho
 rw [zkM,← ho]
 refine dr ?_
 refine ⟨none,_,_,?_,(),trivial,rfl,rfl⟩
 refine dr ?_
 trivial
theorem zgj (W0:World) (l:List Lease) (who:Int) (p:Str) (num:Int) (hl:l.length≤1000000):FunW Tryz.prog W0 213 [.c (eLeases l),.c (CI who),.c (CS p),.c (CI num)] [] (fun _:Unit=>True) (fun _ => .own 7 (offL l who p num).length) (fun _=>[(7,.row ((offL l who p num).map eLease) 4 72)]):=(zgk W0 l who p num hl).swp 144 7
def zcj:XC:=(.s (.r [.ex 1 (.box 0),.ex 2 (.alloc [.nil,.nil,.nil,(I 0),(I 0),.nil,.nil,.nil,.nil,(B false),(I 0),sE,sE,sE])]) (.s (.s (.r [.f1 5 3 1,.l1 6 1 5,.b1 7 .lss 6 (.i 10000)]) (.cnd 7 (.r [.f1 8 3 1,.l1 9 1 8,.b1 10 .add 9 (.i 1),.f1 11 3 1,.s1 1 11 10]) .skip)) (.s (.r [.ex 12 .bsl0,.a1 3 12 4 72]) (.s (.s (.r [.m1 4 (.i 0)]) (.blk 0 (.loop (.s (.s (.r [.mv 13 4,.f1 14 5 1,.l1 15 1 14,.n1 16 15,.b1 17 .lss 13 16]) (.cnd 17 .skip (.exit 0))) (.s (.blk 1 (.s (.d [.f1 20 3 1,.l1 21 1 20,.f1 22 5 1,.l1 23 1 22,.mv 24 4,.i1 25 4 23 24,.f1 26 3 25,.l1 27 1 26,.b1 28 .lss 21 27]) (.cnd 28 (.r [.mv 29 3,.f1 30 5 1,.l1 31 1 30,.mv 32 4,.i1 33 4 31 32,.l2 34 4 33,.ex 35 (.bsl 4 72 [34]),.ex 36 (.app false 4 40 72 29 35),.a1 3 36 4 72]) .skip))) (.r [.mv 18 4,.b1 19 .add 18 (.i 1),.mv 4 19])))))) (.s (.r [.mv 37 3,.f1 38 5 1,.s1 1 38 37]) (.s (.r [.l2 39 14 1,.s1 14 2 39]) .ret))))))
theorem zck:compF Tryz.prog [] 117=some (zcj.ac,[(.cell 2 true 14)],40):=by kernel_rfl
theorem zgn (W0:World) (w:Wld) (h:WG w) (hl:w.leases.length≤1000000):FunW Tryz.prog W0 117 [wAn 6 w] (wMn 6 w) (fun _:Unit=>True) (fun _=>wAn 6 (tickW w)) (fun _=>wMn 6 (tickW w)):=by
 refine funW (c:=zcj) mixed zck (by simp) rfl rfl fun hg=>?_
 have hc:=h.pl.ck
 have e0:tickW w={ w with clock:=tickC w,leases:=w.leases.filter fun l=>decide (tickC w < l.til) }:=rfl
 refine dr ?_
 refine cP ?_ ?_<;>intro h1
 ·have e1:tickC w=w.clock+1:=by unfold tickC; rw [if_pos (by omega)]
  rw [e0,e1]
  clear e0 e1
  refine dr ?_
  refine lp2 (fun (k:Nat) (out:List Lease)=>[(1,.ptr 16 0),(2,.ptr 32 0),(3,.own 48 out.length),(4,I k)]) (fun _ out=>[(16,.box (wCo 6 { w with clock:=w.clock+1 })),(32,zWB),(48,.row (out.map eLease) 4 72)]++wMn 6 w) (fun k out=>k≤w.leases.length∧out=(w.leases.take k).filter (fun l=>decide (w.clock+1 < l.til))∧out.length≤k) (fun k _=>w.leases.length - k) 0 [] ⟨by simp,rfl,by simp⟩ ?_ ?_
  ·refine dr ?_
   trivial
  rintro k out ⟨hk,ho,hle⟩
  refine dr ?_
  refine cP ?_ ?_<;>intro h2
  ·have hk':k < w.leases.length:=by have:(k:Int) < (w.leases.length:Int):=h2; omega
   refine dr ?_
   refine cP ?_ ?_<;>intro h3
   ·refine dr ?_
    repeat ((first | refine oB (by simp; omega) ?_ | refine oB (by simp) ?_); first | refine dr ?_ | exact dz)
    refine ⟨k+1,out++[w.leases[k]],⟨by omega,by rw [jI hk' (decide_eq_true h3),ho],by simp; omega⟩,by omega,?_⟩
    refine dr ?_
    repeat (refine oB (by simp<;>rfl) ?_; first | refine dr ?_ | exact dz)
    trivial
   ·refine dr ?_
    refine ⟨k+1,out,⟨by omega,by rw [jH hk' (decide_eq_false (Int.not_lt.2 h3)),ho],by omega⟩,by omega,?_⟩
    refine dr ?_
    trivial
  have hkl:k=w.leases.length:=by have:(w.leases.length:Int)≤(k:Int):=h2; omega
  rw [hkl,List.take_length] at ho
  rw [← ho]
  refine dr ?_
  refine ⟨some 48,_,_,?_,(),trivial,rfl,rfl⟩
  refine dr ?_
  repeat (refine oB (by simp<;>rfl) ?_; first | refine dr ?_ | exact dz)
  trivial
 ·have e1:tickC w=w.clock:=by unfold tickC; rw [if_neg (by omega)]
  rw [e0,e1]
  clear e0 e1
  refine dr ?_
  refine lp2 (fun (k:Nat) (out:List Lease)=>[(1,.ptr 16 0),(2,.ptr 32 0),(3,.own 48 out.length),(4,I k)]) (fun _ out=>[(16,.box (wCo 6 w)),(32,zWB),(48,.row (out.map eLease) 4 72)]++wMn 6 w) (fun k out=>k≤w.leases.length∧out=(w.leases.take k).filter (fun l=>decide (w.clock < l.til))∧out.length≤k) (fun k _=>w.leases.length - k) 0 [] ⟨by simp,rfl,by simp⟩ ?_ ?_
  ·refine dr ?_
   trivial
  rintro k out ⟨hk,ho,hle⟩
  refine dr ?_
  refine cP ?_ ?_<;>intro h2
  ·have hk':k < w.leases.length:=by have:(k:Int) < (w.leases.length:Int):=h2; omega
   refine dr ?_
   refine cP ?_ ?_<;>intro h3
   ·refine dr ?_
    repeat ((first | refine oB (by simp; omega) ?_ | refine oB (by simp) ?_); first | refine dr ?_ | exact dz)
    refine ⟨k+1,out++[w.leases[k]],⟨by omega,by rw [jI hk' (decide_eq_true h3),ho],by simp; omega⟩,by omega,?_⟩
    refine dr ?_
    repeat (refine oB (by simp<;>rfl) ?_; first | refine dr ?_ | exact dz)
    trivial
   ·refine dr ?_
    refine ⟨k+1,out,⟨by omega,by rw [jH hk' (decide_eq_false (Int.not_lt.2 h3)),ho],by omega⟩,by omega,?_⟩
    refine dr ?_
    trivial
  have hkl:k=w.leases.length:=by have:(w.leases.length:Int)≤(k:Int):=h2; omega
  rw [hkl,List.take_length] at ho
  rw [← ho]
  refine dr ?_
  refine ⟨some 48,_,_,?_,(),trivial,rfl,rfl⟩
  refine dr ?_
  repeat (refine oB (by simp<;>rfl) ?_; first | refine dr ?_ | exact dz)
  trivial
def zch:XC:=(.s (.r [.ex 3 (.box 1),.ex 4 (.asn (.k .nil) 7 53)]) (.s (.r [.ex 7 .bsl0,.a1 5 7 7 53]) (.s (.s (.r [.m1 6 (.i 0)]) (.blk 0 (.loop (.s (.s (.r [.mv 8 6,.mv 9 0,.n1 10 9,.b1 11 .lss 8 10]) (.cnd 11 .skip (.exit 0))) (.s (.blk 1 (.s (.s (.d [.mv 14 0,.mv 15 6,.i1 16 7 14 15,.f1 17 0 16,.l1 18 1 17,.f1 19 0 3,.l1 20 1 19,.b1 21 .eql 18 20,.mv 22 21,.gt 23 (.mv 0) 22,.gt 24 (.mv 6) 22,.gt 25 (.ia 7 23 24) 22,.gt 26 (.fa 5 25) 22,.gt 27 (.ld false 1 26) 22,.gt 28 (.fa 5 3) 22,.gt 29 (.ld false 1 28) 22,.gt 30 (.bin .geq 27 29) 22,.ex 31 (.pick 22 30 .n)]) (.cnd 31 (.s (.r [.mv 32 0,.a1 4 32 7 53]) .ret) .skip)) (.s (.d [.mv 33 0,.mv 34 6,.i1 35 7 33 34,.f1 36 0 35,.l1 37 1 36,.f1 38 0 3,.l1 39 1 38,.b1 40 .neq 37 39]) (.cnd 40 (.r [.mv 41 5,.mv 42 0,.mv 43 6,.i1 44 7 42 43,.l2 45 7 44,.ex 46 (.bsl 7 53 [45]),.ex 47 (.app false 7 80 53 41 46),.a1 5 47 7 53]) .skip)))) (.r [.mv 12 6,.b1 13 .add 12 (.i 1),.mv 6 13])))))) (.s (.r [.mv 48 5,.l2 49 7 3,.ex 50 (.bsl 7 53 [49]),.ex 51 (.app false 7 80 53 48 50),.a1 4 51 7 53]) .ret))))
theorem zci:compF Tryz.prog [] 211=some (zch.ac,[(.t 4)],52):=by kernel_rfl
theorem zoe {l:List Hold} {h:Hold} {k:Nat} (hk:k < l.length) (h1:l[k].path=h.path) (h2:h.num≤l[k].num):takeH l h=l:=by
 unfold takeH
 rw [if_pos]
 rw [List.any_eq_true]
 exact ⟨l[k],List.getElem_mem hk,by simp [h1,h2]⟩
theorem zod {l:List Hold} {h:Hold} (hn:∀ x∈l,¬ (x.path=h.path∧h.num≤x.num)):takeH l h=(l.filter fun x=>x.path != h.path)++[h]:=by
 unfold takeH
 rw [if_neg]
 rw [List.any_eq_true]
 rintro ⟨x,hx,h2⟩
 simp only [Bool.and_eq_true,beq_iff_eq,decide_eq_true_eq] at h2
 exact hn x hx h2
theorem zgm (W0:World) (l:List Hold) (h:Hold) (hl:l.length≤1000000):Fn Tryz.prog W0 211 [eHolds l,eHold h] (.c (eHolds (takeH l h))) []:=by
 refine fnX (c:=zch) mixed zci (by simp) rfl fun hg=>?_
 refine dr ?_
 refine lp2 (fun (k:Nat) (out:List Hold)=>[(0,.c (eHolds l)),(3,.ptr 48 0),(5,.own 80 out.length),(6,I k)]) (fun _ out=>[(48,.box (hCs h)),(80,.row (out.map eHold) 7 53)]) (fun k out=>k≤l.length∧out=(l.take k).filter (fun x=>x.path != h.path)∧out.length≤k∧∀ x∈l.take k,¬ (x.path=h.path∧h.num≤x.num)) (fun k _=>l.length - k) 0 [] ⟨by simp,rfl,by simp,by simp⟩ ?_ ?_
 ·refine dr ?_
  trivial
 rintro k out ⟨hk,ho,hle,hA⟩
 refine dr ?_
 refine cP ?_ ?_<;>intro h1
 ·have hk':k < l.length:=by omega
  have next:¬ (l[k].path=h.path∧h.num≤l[k].num)→∀ x∈l.take (k+1),¬ (x.path=h.path∧h.num≤x.num):=fun hh x hx=>by
   rw [List.take_succ_eq_append_getElem hk'] at hx
   rcases List.mem_append.1 hx with h' | h'
   ·exact hA x h'
   ·rw [List.mem_singleton.1 h']; exact hh
  refine dr ?_
  refine cP ?_ ?_<;>intro h2
  ·refine dr ?_
   refine cP ?_ ?_<;>intro h3
   ·refine dr ?_
    rw [zoe hk' h2 h3]<;>rfl
   refine dr ?_
   refine cP ?_ ?_<;>intro h4
   ·exact absurd h2 h4
   refine dr ?_
   refine ⟨k+1,out,⟨by omega,by rw [jH hk' (by simp [h2]),ho],by omega,next (by omega)⟩,by omega,?_⟩
   refine dr ?_
   trivial
  refine dr ?_
  refine cP ?_ ?_<;>intro h4
  ·refine dr ?_
   repeat ((first | refine oB (by simp; omega) ?_ | refine oB (by simp) ?_); first | refine dr ?_ | exact dz)
   refine ⟨k+1,out++[l[k]],⟨by omega,by rw [jI hk' (by simp [h2]),ho],by simp; omega,next fun hh=>h2 hh.1⟩,by omega,?_⟩
   refine dr ?_
   repeat (refine oB (by simp<;>rfl) ?_; first | refine dr ?_ | exact dz)
   trivial
  ·exact absurd h4 h2
 have hkl:k=l.length:=by omega
 rw [hkl,List.take_length] at ho hA
 rw [zod hA,← ho]
 refine dr ?_
 repeat ((first | refine oB (by simp; omega) ?_ | refine oB (by simp) ?_); first | refine dr ?_ | exact dz)
 simp [eHolds]
 rfl
def zb7:XC:=(.s (.r [.ex 6 (.asn (.k .nil) 7 53)]) (.s (.r [.ex 9 .bsl0,.a1 7 9 7 53]) (.s (.s (.r [.m1 8 (.i 0)]) (.blk 0 (.loop (.s (.s (.r [.mv 10 8,.mv 11 0,.n1 12 11,.b1 13 .lss 10 12]) (.cnd 13 .skip (.exit 0))) (.s (.blk 1 (.s (.r [.mv 16 0,.mv 17 8,.i1 18 7 16 17,.f1 19 0 18,.l1 20 1 19,.mv 21 1,.b1 22 .neq 20 21,.mv 23 22,.gf 24 (.mv 0) 23,.gf 25 (.mv 8) 23,.gf 26 (.ia 7 24 25) 23,.gf 27 (.fa 5 26) 23,.gf 28 (.ld false 1 27) 23,.gf 29 (.mv 2) 23,.gf 30 (.bin .gtr 28 29) 23,.ex 31 (.pick 23 .y 30)]) (.cnd 31 (.r [.mv 32 7,.mv 33 0,.mv 34 8,.i1 35 7 33 34,.l2 36 7 35,.ex 37 (.bsl 7 53 [36]),.ex 38 (.app false 7 80 53 32 37),.a1 7 38 7 53]) .skip))) (.r [.mv 14 8,.b1 15 .add 14 (.i 1),.mv 8 15])))))) (.s (.r [.mv 39 7,.a1 6 39 7 53]) .ret))))
theorem zb8:compF Tryz.prog [] 212=some (zb7.ac,[(.t 6)],40):=by kernel_rfl
theorem zjB {l:List Hold} {p:Str} {n:Int}:leaveH l p n=l.filter fun x=>!(x.path==p&&decide (x.num≤n)):=rfl
theorem zgg (W0:World) (l:List Hold) (p:Str) (n:Int) (hl:l.length≤1000000):Fn Tryz.prog W0 212 [eHolds l,CS p,CI n] (.c (eHolds (leaveH l p n))) []:=by
 refine fnX (c:=zb7) mixed zb8 (by simp) rfl fun hg=>?_
 refine dr ?_
 refine lp2 (fun (k:Nat) (out:List Hold)=>[(0,.c (eHolds l)),(1,.c (CS p)),(2,.c (CI n)),(7,.own 112 out.length),(8,I k)]) (fun _ out=>[(112,.row (out.map eHold) 7 53)]) (fun k out=>k≤l.length∧out=(l.take k).filter (fun x=>!(x.path==p&&decide (x.num≤n)))∧out.length≤k) (fun k _=>l.length - k) 0 [] ⟨by simp,rfl,by simp⟩ ?_ ?_
 ·refine dr ?_
  trivial
 rintro k out ⟨hk,ho,hle⟩
 refine dr ?_
 refine cP ?_ ?_<;>intro h1
 ·have hk':k < l.length:=by omega
  have keep:(!(l[k].path==p&&decide (l[k].num≤n)))=true→out++[l[k]]=(l.take (k+1)).filter (fun x=>!(x.path==p&&decide (x.num≤n))):=fun h=>by rw [jI hk' h,ho]
  refine dr ?_
  refine cP ?_ ?_<;>intro h2
  ·refine dr ?_
   repeat ((first | refine oB (by simp; omega) ?_ | refine oB (by simp) ?_); first | refine dr ?_ | exact dz)
   refine ⟨k+1,out++[l[k]],⟨by omega,keep (by simp [h2]),by simp; omega⟩,by omega,?_⟩
   refine dr ?_
   repeat (refine oB (by simp<;>rfl) ?_; first | refine dr ?_ | exact dz)
   trivial
  refine dr ?_
  refine cP ?_ ?_<;>intro h3
  ·refine dr ?_
   repeat ((first | refine oB (by simp; omega) ?_ | refine oB (by simp) ?_); first | refine dr ?_ | exact dz)
   refine ⟨k+1,out++[l[k]],⟨by omega,keep (by simp; omega),by simp; omega⟩,by omega,?_⟩
   refine dr ?_
   repeat (refine oB (by simp<;>rfl) ?_; first | refine dr ?_ | exact dz)
   trivial
  ·refine dr ?_
   refine ⟨k+1,out,⟨by omega,by rw [jH hk' (by simp [h2]; omega),ho],by omega⟩,by omega,?_⟩
   refine dr ?_
   trivial
 have hkl:k=l.length:=by omega
 rw [hkl,List.take_length] at ho
 rw [zjB,← ho]
 refine dr ?_
 repeat (refine oB (by simp) ?_; first | refine dr ?_ | exact dz)
 rfl
def zap:XC:=(.s (.r [.m1 4 (.i 0)]) (.s (.s (.r [.mv 5 0,.mv 6 1,.b1 7 .gtr 5 6]) (.cnd 7 (.s (.r [.mv 8 0,.mv 4 8]) .ret) .skip)) (.s (.r [.mv 9 1,.mv 4 9]) .ret)))
theorem zaq:compF Tryz.prog [] 113=some (zap.ac,[(.t 4)],10):=by kernel_rfl
theorem zfv (W0:World) (a b:Int):Fn Tryz.prog W0 113 [CI a,CI b] (.c (CI (maxI a b))) []:=by
 refine fnX (c:=zap) mixed zaq (by simp) rfl fun hg=>?_
 refine dr ?_
 refine cP ?_ ?_<;>intro h1
 ·refine dr ?_
  unfold maxI; rw [if_pos (by omega)]
 ·refine dr ?_
  unfold maxI; rw [if_neg (by omega)]
end Go.Proofs.YteheahbjaddooaaGreatDoor

namespace Go.Proofs.YteheahbjaddooaaGreatDoor
set_option linter.unusedSimpArgs false
set_option linter.unusedVariables false
open Go Go.RowKit
section
variable {w x:Wld}
theorem zpb {who:Int} {p:Str} {r:Ent × Bool} (h:wRead w who p=some r):WG w∧isW who∧pOk p=true∧(get (vwG w.over) p).getD noE=r.1∧(get (vwG w.over) p).isSome=r.2:=by
 unfold wRead at h
 split at h
 ·rename_i hh
  obtain ⟨hw,hi⟩:=hh
  obtain ⟨y,hy,rfl⟩:=Option.map_eq_some_iff.1 h
  have h1:=List.find?_some hy
  simp only [Bool.and_eq_true,beq_iff_eq,decide_eq_true_eq] at h1
  have h2:=List.mem_of_find?_eq_some hy
  obtain ⟨i,hi3,hiw⟩:=ql hi
  rw [hiw] at h2
  obtain ⟨a,_,_,d⟩:=(hw.hd i hi3).g y h2
  obtain ⟨_,_,e,f,_⟩:=d h1.2
  rw [h1.1] at a e f
  exact ⟨hw,hi,a,f,e⟩
 ·cases h
theorem zlA:∀ {a b:List Ev} {w:Wld},playA w (a++b)=((playA (playA w a).1 b).1,(playA w a).2++(playA (playA w a).1 b).2)
 | [],_,_=>rfl
 | e::a,b,w=>by
  rw [List.cons_append,playA,playA,zlA (a:=a)]; rfl
theorem yv:∀ {l:List Ev} {w:Wld},(playA w l).2.length=l.length
 | [],_=>rfl
 | e::l,w=>by rw [playA]; simp [yv (l:=l)]
theorem yw {l:List Ev} {k:Nat} (h:k < l.length):playA w (l.take (k+1))=((evW (playA w (l.take k)).1 l[k]).1,(playA w (l.take k)).2++[(evW (playA w (l.take k)).1 l[k]).2]):=by
 rw [List.take_succ_eq_append_getElem h,zlA]; rfl
theorem zlB {l:List Ev} {k:Nat} (h:k < l.length):(playA w l).2[k]? = some (evW (playA w (l.take k)).1 l[k]).2:=by
 have hl:((playA w (l.take (k+1))).2).length=k+1:=by rw [yv]; simp; omega
 have e:(playA w l).2=(playA w (l.take (k+1))).2++(playA (playA w (l.take (k+1))).1 (l.drop (k+1))).2:=by
  conv=>lhs; rw [← List.take_append_drop (k+1) l,zlA]
 rw [e,List.getElem?_append_left (by rw [hl]; omega),yw h,List.getElem?_append_right (by rw [yv]; simp; omega)]
 have:k - ((playA w (l.take k)).2).length=0:=by rw [yv]; simp; omega
 rw [this]; rfl
theorem take_take {l:List Hold} {h:Hold}:takeH (takeH l h) h=takeH l h:=by
 have:(takeH l h).any (fun x=>x.path==h.path&&decide (h.num≤x.num))=true:=by
  unfold takeH
  split
  ·assumption
  ·simp
 generalize takeH l h=l' at *
 unfold takeH
 rw [if_pos this]
theorem ziG {w:Wld} {L:List (List Hold)} {f:List Int} {n:List Msg} {ls:List Lease} {k:Int} {a:List Hold} (hk:isW k) (hl:w.holds.length=3) (e:L=w.holds.set k.toNat a):hdW { w with holds:=L,floors:=f,net:=n,leases:=ls } k=a:=by
 unfold hdW
 subst e
 have:=hk.1; have:=hk.2
 simp only [List.getD,List.getElem?_set]
 rw [if_pos trivial,if_pos (by omega)]; rfl
theorem zhg {w:Wld} {L:List (List Hold)} {f:List Int} {n:List Msg} {k:Int} {a:Int} (hk:isW k) (hl:w.floors.length=3) (e:f=w.floors.set k.toNat a):flW { w with holds:=L,floors:=f,net:=n } k=a:=by
 unfold flW
 subst e
 have:=hk.1; have:=hk.2
 simp only [List.getD,List.getElem?_set]
 rw [if_pos trivial,if_pos (by omega)]; rfl
structure Later (w x:Wld):Prop where
 g:WG x
 o:x.over=w.over
 wt:x.waits=w.waits
 op:x.op=w.op
 h:x.holds=w.holds
 l:∀ l∈x.leases,l∈w.leases∧(x.clock=w.clock∨x.clock < l.til)
theorem Later.refl (h:WG w):Later w w:=⟨h,rfl,rfl,rfl,rfl,fun l hl=>⟨hl,.inl rfl⟩⟩
theorem Later.tick (h:Later w x):Later w (tickW x) :=
 ⟨h.g.tick,h.o,h.wt,h.op,h.h,fun l hl=>⟨(h.l l (List.mem_filter.1 hl).1).1,.inr (of_decide_eq_true (List.mem_filter.1 hl).2)⟩⟩
theorem Later.bars (h:Later w x) {op:Op}:∀ l∈barsW x op,l∈barsW w op∨w.clock < x.clock∨x.clock < w.clock:=fun l hl=>by
 obtain ⟨h1,h2,h3⟩:=zj.1 hl
 by_cases hc:x.clock=w.clock
 ·left
  refine zj.2 ⟨(h.l l h1).1,by omega,?_⟩
  unfold turnsW at h3 ⊢; rw [h.o] at h3; exact h3
 ·right; omega
theorem Later.none (h:Later w x) {late:Int} (h1:∀ l∈barsW w w.op,l.til≤late) (h2:x.clock=late) (h3:w.clock≤late):barsW x x.op=[]:=by
 cases hb:barsW x x.op with
 | nil=>rfl
 | cons l r =>
  exfalso
  obtain ⟨g1,g2,g3⟩:=zj.1 (show l∈barsW x x.op by rw [hb]; simp)
  have hm:=(h.l l g1).1
  have:l∈barsW w w.op:=by
   refine zj.2 ⟨hm,by omega,?_⟩
   unfold turnsW at g3 ⊢; rw [h.o,h.op] at g3; exact g3
  have:=h1 l this
  omega
end
end Go.Proofs.YteheahbjaddooaaGreatDoor

namespace Go.Proofs.YteheahbjaddooaaGreatDoor
set_option linter.unusedSimpArgs false
set_option linter.unusedVariables false
open Go Go.RowKit
def giveE (k:Int):Ev:=⟨5,0,[],noOp,k⟩
def copyE (k:Int):Ev:=⟨7,0,[],noOp,k⟩
section
variable {w:Wld}
theorem zmD {m:Msg} (h:w.net.length < 12):sendW w m={ w with net:=w.net++[m] }:=by unfold sendW; rw [if_pos h]
theorem zif {k:Nat} (h:k < w.net.length):evW w (giveE k)=(comeW { w with net:=w.net.eraseIdx k } (w.net.getD k noMs),0):=by
 unfold evW giveE
 rw [if_neg (by simp),if_neg (by simp),if_neg (by simp),if_neg (by simp),if_pos (by simp)]
 unfold netW
 rw [if_neg (by simp; omega),if_neg (by simp),if_pos rfl]
 simp
theorem zdx {k:Nat} (h:k < w.net.length) (h2:w.net.length < 12):evW w (copyE k)=({ w with net:=w.net++[w.net.getD k noMs] },0):=by
 unfold evW copyE
 rw [if_neg (by simp),if_neg (by simp),if_neg (by simp),if_neg (by simp),if_pos (by simp)]
 unfold netW
 rw [if_neg (by simp; omega),if_pos rfl]
 simp only
 rw [zmD h2]; simp
theorem ZJ {a:List Msg} {m:Msg} {r:List Msg}:(a++m::r).getD a.length noMs=m∧(a++m::r).eraseIdx a.length=a++r:=by
 constructor
 ·simp [List.getD]
 ·rw [List.eraseIdx_append_of_length_le (Nat.le_refl _)]; simp
def heldW (w:Wld) (who:Int) (p:Str):Wld:=comeW (grantL w who p) (grantM w who p)
structure GO (w:Wld) (who:Int) (p:Str):Prop where
 g:WG w
 iw:isW who
 pth:pOk p=true
 wt:w.waits=false
 ct:w.count < 10000
variable {who:Int} {p:Str}
theorem ziF {x:Wld} {L:List (List Hold)} {k:Int} {a:List Hold} (hk:isW k) (hl:L.length=3) (e:x.holds=L.set k.toNat a):hdW x k=a:=by
 unfold hdW
 rw [e]
 have:=hk.1; have:=hk.2
 simp only [List.getD,List.getElem?_set]
 rw [if_pos trivial,if_pos (by omega)]; rfl
theorem GO.take (h:GO w who p):heldW w who p={ grantL w who p with holds:=w.holds.set who.toNat (takeH (hdW w who) (grantM w who p).hold) }:=by
 unfold heldW comeW
 rw [if_neg (by simp [grantM]),if_pos (show (grantM w who p).kind=2 from rfl)]
 have hf:=h.g.pl.fr _ (zhh h.iw h.g.pl.fl)
 rw [if_pos]
 ·rfl
 ·refine ⟨by show w.clock < w.clock+5; omega,?_⟩
  show flW w who < w.count+1
  omega
theorem GO.hd (h:GO w who p):hdW (heldW w who p) who=takeH (hdW w who) (grantM w who p).hold:=by
 rw [h.take]
 exact ziF h.iw h.g.pl.hl rfl
theorem zds {m:Msg} {n:List Msg} (hk:m.kind=2):comeW { w with net:=n } m={ comeW w m with net:=n }:=by
 unfold comeW
 rw [if_neg (show ¬ m.kind=1 by omega),if_neg (show ¬ m.kind=1 by omega),if_pos hk,if_pos hk]
 show (if w.clock < m.hold.til∧flW w m.who < m.hold.num then _ else _)=_
 by_cases hc:w.clock < m.hold.til∧flW w m.who < m.hold.num
 ·rw [if_pos hc,if_pos hc]; rfl
 ·rw [if_neg hc,if_neg hc]
theorem GO.late (h:GO w who p) (hn:w.net.length≤8) :
  evW { grantL w who p with net:=w.net++[grantM w who p] } (copyE w.net.length)=({ grantL w who p with net:=w.net++[grantM w who p,grantM w who p] },0) ∧
  evW { grantL w who p with net:=w.net++[grantM w who p,grantM w who p] } (giveE w.net.length)=({ heldW w who p with net:=w.net++[grantM w who p] },0):=by
 constructor
 ·rw [zdx (by simp) (by simp; omega)]
  obtain ⟨e1,_⟩:=@ZJ w.net (grantM w who p) []
  simp only [e1,List.append_assoc,List.singleton_append]
 ·rw [zif (by simp)]
  obtain ⟨e1,e2⟩:=@ZJ w.net (grantM w who p) [grantM w who p]
  simp only [e1,e2]
  refine congrArg (·,0) ?_
  exact zds (w:=grantL w who p) rfl
theorem zo9 {who:Int} {p:Str} (h:∀ x∈hdW w who,x.path≠p):wRead w who p=none:=by
 unfold wRead
 split
 ·rw [List.find?_eq_none.2]
  ·rfl
  ·intro x hx
   simp [h x hx]
 ·rfl
theorem gone {x:Wld} {who:Int} {p:Str} {m g:Msg} {k n:Nat} (hx:WG x) (hw:isW who) (hk:k < x.net.length) (hm:x.net.getD k noMs=m) (h1:m.kind=3) (h2:m.who=who) (h3:m.hold.path=p) (h4:m.hold.num=x.count)
  (hn:n < k) (hg:x.net.getD n noMs=g) (g1:g.kind=2) (g2:g.who=who) (g3:g.hold.num≤x.count) :
  wRead (evW x (giveE k)).1 who p=none∧wRead (evW (evW x (giveE k)).1 (giveE n)).1 who p=none:=by
 have hmm:m∈x.net:=by rw [← hm]; exact zid hk
 have hms:=hx.ms m hmm
 obtain ⟨i,hi,hiw⟩:=ql hw
 rw [zif hk,hm]
 simp only
 have e:comeW { x with net:=x.net.eraseIdx k } m=sendW { x with net:=x.net.eraseIdx k,holds:=x.holds.set m.who.toNat (leaveH (hdW x m.who) m.hold.path m.hold.num),floors:=x.floors.set m.who.toNat (maxI (flW x m.who) m.hold.num) } ⟨4,m.who,m.hold⟩:=by
  unfold comeW; rw [if_neg (by omega),if_neg (by omega),if_pos h1]; rfl
 obtain ⟨s1,s2,s3,s4,s5,s6,s7,s8⟩:=@yJ { x with net:=x.net.eraseIdx k,holds:=x.holds.set m.who.toNat (leaveH (hdW x m.who) m.hold.path m.hold.num),floors:=x.floors.set m.who.toNat (maxI (flW x m.who) m.hold.num) } ⟨4,m.who,m.hold⟩
 rw [← e] at s1 s2 s3 s4 s5 s6 s7 s8
 have hnet:(comeW { x with net:=x.net.eraseIdx k } m).net.getD n noMs=g∧n < (comeW { x with net:=x.net.eraseIdx k } m).net.length:=by
  have hl:n < (x.net.eraseIdx k).length:=by rw [List.length_eraseIdx,if_pos hk]; omega
  have hq:(x.net.eraseIdx k).getD n noMs=g:=by
   rw [← hg]
   simp only [List.getD]
   rw [List.getElem?_eraseIdx,if_pos hn]
  rw [e]
  unfold sendW
  split
  ·refine ⟨?_,by simp; omega⟩
   simp only [List.getD] at hq ⊢
   rw [List.getElem?_append_left hl]; exact hq
  ·exact ⟨hq,hl⟩
 generalize hy:comeW { x with net:=x.net.eraseIdx k } m=y at *
 have hh:hdW y who=leaveH (hdW x who) p x.count:=by
  have:=ziG (w:=x) (f:=x.floors) (n:=x.net) (ls:=x.leases) (L:=y.holds) (a:=leaveH (hdW x m.who) m.hold.path m.hold.num) hms.who hx.pl.hl s5
  rw [h2,h3,h4] at this
  unfold hdW at this ⊢; exact this
 have hf:flW y who=maxI (flW x who) x.count:=by
  have:=zhg (w:=x) (n:=x.net) (L:=x.holds) (f:=y.floors) (a:=maxI (flW x m.who) m.hold.num) hms.who hx.pl.fl s6
  rw [h2,h4] at this
  unfold flW at this ⊢; exact this
 have hno:∀ z∈hdW y who,z.path≠p:=fun z hz hp=>by
  rw [hh] at hz
  obtain ⟨z1,z2⟩:=zka.1 hz
  have:=z2 hp
  rw [hiw] at z1
  have:=((hx.hd i hi).g z z1).2.2.1
  omega
 refine ⟨zo9 hno,?_⟩
 rw [zif hnet.2,hnet.1]
 have e2:comeW { y with net:=y.net.eraseIdx n } g={ y with net:=y.net.eraseIdx n }:=by
  unfold comeW
  rw [if_neg (by omega),if_pos g1,if_neg]
  rintro ⟨_,hc⟩
  have e3:flW { y with net:=y.net.eraseIdx n } g.who=maxI (flW x who) x.count:=by rw [g2,← hf]; rfl
  rw [e3] at hc
  have:x.count≤maxI (flW x who) x.count:=by unfold maxI; split<;>omega
  omega
 simp only [e2]
 exact zo9 hno
end
end Go.Proofs.YteheahbjaddooaaGreatDoor

namespace Go.Proofs.YteheahbjaddooaaGreatDoor
set_option linter.unusedSimpArgs false
set_option linter.unusedVariables false
open Go Go.RowKit
theorem cuts {k0:List Nat} {a:(Fr→XM→Prop)→Fr→XM→Prop} {b:Fr→XM→Prop} {F:Fr} {m:XM} {σ:Type} (fr:σ→Fr) (mm:σ→XM) (inv:σ→Prop)
  (ha:a (fun F' m'=>∃ x,inv x∧KeepX k0 (some 3) F' m' (fr x) (mm x)) F m) (hb:∀ x,inv x→b (fr x) (mm x)):CutX k0 a b F m:=⟨σ,fr,mm,inv,some 3,_,ha,fun _ _ h=>h,hb⟩
def zb3:XC:=(.s (.r [.ex 3 (.box 0),.ex 6 (.alloc [.nil,.nil,.nil,(I 0),(I 0),.nil,.nil,.nil,.nil,(B false),(I 0),sE,sE,sE])]) (.s (.s (.r [.f1 12 9 3,.l1 13 1 12,.mv 14 13,.gt 15 (.ld true 14 3) 14,.gt 16 (.fa 10 3) 14,.gt 17 (.ld true 4 16) 14,.gt 18 (.opn 208 [15,17]) 14,.gt 19 (.mv 2) 14,.gt 20 (.call 209 [18,19]) 14,.ex 21 (.pick 14 20 .n),.mv 22 21,.gf 23 (.fa 4 3) 22,.gf 24 (.ld false 1 23) 22,.gf 25 (.bin .geq 24 (.i 10000)) 22,.ex 26 (.pick 22 .y 25)]) (.cnd 26 (.s (.r [.l2 27 14 3,.s1 14 6 27]) .ret) .skip)) (.s (.r [.f1 29 0 3,.l2 30 3 29,.c1 31 69 [30],.mv 28 31,.e1 32 28 0,.e1 33 28 1,.a1 7 32 3 39,.mv 8 33]) (.s (.r [.mv 35 7,.mv 36 2,.c1 37 121 [35,36],.mv 34 37,.e1 38 34 0,.e1 39 34 1,.ex 9 (.alloc [sE,(B false),sE]),.s1 3 9 38,.mv 10 39]) (.s (.r [.f1 40 4 3,.l1 41 1 40,.b1 42 .add 41 (.i 1),.f1 43 4 3,.s1 1 43 42]) (.s (.r [.f1 44 3 3,.l1 45 1 44,.b1 46 .add 45 (.i 5),.mv 11 46]) (.cut (.d [.f1 47 5 3,.exo [7] 48 (.ld false 1 47),.mv 49 1,.mv 50 2,.f1 51 4 3,.exo [7] 52 (.ld false 1 51),.exo [7] 53 (.opn 213 [48,49,50,52]),.mv 54 1,.mv 55 2,.f1 56 4 3,.exo [7] 57 (.ld false 1 56),.mv 58 11,.ex 59 (.build [(I 0),sE,(I 0),(I 0)] [(0,(1,54)),(1,(1,55)),(2,(1,57)),(3,(1,58))]),.exo [7] 60 (.bsl 4 72 [59]),.ex 61 (.app false 4 40 72 53 60),.f1 62 5 3,.s1 1 62 61]) (.s (.r [.l2 63 14 3,.mv 64 1,.mv 65 2,.mv 66 10,.l2 67 3 9,.f1 68 4 3,.l1 69 1 68,.mv 70 11,.ex 71 (.build [sE,(B false),sE,(B false),sE,(I 0),(I 0)] [(0,(1,65)),(1,(1,66)),(2,(3,67)),(5,(1,69)),(6,(1,70))]),.ex 72 (.build [(I 0),(I 0),sE,(B false),sE,(B false),sE,(I 0),(I 0)] [(0,(1,(.i 2))),(1,(1,64)),(2,(7,71))]),.o1 73 114 [63,72],.s1 14 6 73]) .ret))))))))
theorem zb4:compF Tryz.prog [208,213,114,1000007] 210=some (zb3.ac,[(.cell 6 true 14)],74):=by kernel_rfl
theorem zge (W0:World) (w:Wld) (who:Int) (p:Str) (h:WG w) (hl:w.leases.length≤1000000):FunW Tryz.prog W0 210 [wAn 6 w,.c (CI who),.c (CS p)] (wMn 6 w) (fun _:Unit=>True) (fun _=>wAn 6 (grantW w who p)) (fun _=>wMn 6 (grantW w who p)):=by
 refine funW (c:=zb3) mixed zb4 (by simp) rfl rfl fun hg=>?_
 have hv:=jv W0 w.over
 rw [zo3 h] at hv
 have ht:=zgp W0 w w.op
 have htl:=@zoF w w.op
 have hc:=h.pl.ck
 have hct:=h.pl.ct
 have hn:w.net.length≤1000:=by have:=h.pl.nl; omega
 rw [ziC]
 generalize hts:turnsW w w.op=ts at *
 have hget:=jp W0 (vwG w.over) p
 rw [zJ] at hget
 have hofl:(offL w.leases who p (w.count+1)).length≤1000000:=Nat.le_trans (List.length_filter_le _ _) hl
 refine dr ?_
 refine cP ?_ ?_<;>intro h1
 ·refine dr ?_
  refine oW ht rfl ⟨rfl,rfl,rfl,trivial⟩ rfl rfl ⟨(),trivial⟩ fun _ _=>⟨rfl,?_⟩
  refine dEr ?_
  repeat (refine c0 (zgf W0 ts p (by omega)) rfl ?_; first | refine dEr ?_ | exact dz)
  refine cP ?_ ?_<;>intro h2
  ·rw [if_pos (.inl ⟨h1,by rw [List.contains_eq_mem,decide_eq_true_iff] at h2; exact h2⟩)]
   refine dEr ?_
   refine ⟨none,_,_,?_,(),trivial,rfl,rfl⟩
   refine dr ?_
   trivial
  have h2':p ∉ ts:=by rw [List.contains_eq_mem,decide_eq_false_iff_not] at h2; exact h2
  refine dEr ?_
  refine cP ?_ ?_<;>intro h3
  ·rw [if_pos (.inr h3)]
   refine dEr ?_
   refine ⟨none,_,_,?_,(),trivial,rfl,rfl⟩
   refine dr ?_
   trivial
  rw [if_neg (by rintro (⟨_,h⟩ | h); exact h2' h; omega)]
  refine dEr ?_
  repeat ((first | refine c0 hv rfl ?_ | refine c0 hget rfl ?_); first | refine dEr ?_ | exact dz)
  refine cuts (σ:=List Lease) (fun _=>[(1,.c (CI who)),(2,.c (CS p)),(3,.ptr 48 0),(6,.ptr 96 0),(9,.ptr 144 0),(10,.c (CB (get (vwG w.over) p).isSome)),(11,I (w.clock+5))])
   (fun L=>[(48,.box [.c (eEnts w.over.base),.c (eMarkss w.over.layers),.c (eMarks w.over.upper),I w.clock,I (w.count+1),.c (eLeases L),.own 4 w.holds.length,.own 5 w.floors.length,.own 6 w.net.length,B w.waits,I w.op.kind,.c (CS w.op.path),.c (CS w.op.dest),.c (CS w.op.data)]),(96,zWB),(144,.box [.c (CS ((get (vwG w.over) p).getD noE).path),B ((get (vwG w.over) p).getD noE).dir,.c (CS ((get (vwG w.over) p).getD noE).data)])]++wMn 6 w) (fun L=>L=(grantL w who p).leases) ?_ ?_
  ·refine dr ?_
   refine oW (zgj W0 w.leases who p (w.count+1) hl) rfl trivial rfl rfl ⟨(),trivial⟩ fun _ _=>⟨rfl,?_⟩
   refine dEr ?_
   repeat ((first | refine oB (by simp; omega) ?_ | refine oB (by simp) ?_); first | refine dEr ?_ | exact dz)
   refine ⟨_,rfl,?_⟩
   refine KeepX.s (z:=some 7) ?_
   refine dr ?_
   repeat ((first | refine oB (by simp [grantL,eLeases]<;>rfl) ?_ | refine oB (by simp) ?_); first | refine dr ?_ | exact dz)
   trivial
  rintro L hL
  refine dr ?_
  refine oW (jw W0 ⟨w.over,w.clock,w.count+1,L,w.holds,w.floors,w.net,w.waits,w.op⟩ (grantM w who p) hn) rfl ⟨rfl,rfl,rfl,trivial⟩ rfl rfl ⟨(),trivial⟩ fun _ _=>⟨rfl,?_⟩
  rw [show (⟨w.over,w.clock,w.count+1,L,w.holds,w.floors,w.net,w.waits,w.op⟩:Wld)=grantL w who p by rw [hL]<;>rfl]
  refine dEr ?_
  refine ⟨none,_,_,?_,(),trivial,rfl,rfl⟩
  refine dr ?_
  trivial
 ·refine dr ?_
  refine cP ?_ ?_<;>intro h3
  ·rw [if_pos (.inr h3)]
   refine dr ?_
   refine ⟨none,_,_,?_,(),trivial,rfl,rfl⟩
   refine dr ?_
   trivial
  rw [if_neg (by rintro (⟨h,_⟩ | h); rw [h] at h1; cases h1; omega)]
  refine dEr ?_
  repeat ((first | refine c0 hv rfl ?_ | refine c0 hget rfl ?_); first | refine dEr ?_ | exact dz)
  refine cuts (σ:=List Lease) (fun _=>[(1,.c (CI who)),(2,.c (CS p)),(3,.ptr 48 0),(6,.ptr 96 0),(9,.ptr 144 0),(10,.c (CB (get (vwG w.over) p).isSome)),(11,I (w.clock+5))])
   (fun L=>[(48,.box [.c (eEnts w.over.base),.c (eMarkss w.over.layers),.c (eMarks w.over.upper),I w.clock,I (w.count+1),.c (eLeases L),.own 4 w.holds.length,.own 5 w.floors.length,.own 6 w.net.length,B w.waits,I w.op.kind,.c (CS w.op.path),.c (CS w.op.dest),.c (CS w.op.data)]),(96,zWB),(144,.box [.c (CS ((get (vwG w.over) p).getD noE).path),B ((get (vwG w.over) p).getD noE).dir,.c (CS ((get (vwG w.over) p).getD noE).data)])]++wMn 6 w) (fun L=>L=(grantL w who p).leases) ?_ ?_
  ·refine dr ?_
   refine oW (zgj W0 w.leases who p (w.count+1) hl) rfl trivial rfl rfl ⟨(),trivial⟩ fun _ _=>⟨rfl,?_⟩
   refine dEr ?_
   repeat ((first | refine oB (by simp; omega) ?_ | refine oB (by simp) ?_); first | refine dEr ?_ | exact dz)
   refine ⟨_,rfl,?_⟩
   refine KeepX.s (z:=some 7) ?_
   refine dr ?_
   repeat ((first | refine oB (by simp [grantL,eLeases]<;>rfl) ?_ | refine oB (by simp) ?_); first | refine dr ?_ | exact dz)
   trivial
  rintro L hL
  refine dr ?_
  refine oW (jw W0 ⟨w.over,w.clock,w.count+1,L,w.holds,w.floors,w.net,w.waits,w.op⟩ (grantM w who p) hn) rfl ⟨rfl,rfl,rfl,trivial⟩ rfl rfl ⟨(),trivial⟩ fun _ _=>⟨rfl,?_⟩
  rw [show (⟨w.over,w.clock,w.count+1,L,w.holds,w.floors,w.net,w.waits,w.op⟩:Wld)=grantL w who p by rw [hL]<;>rfl]
  refine dEr ?_
  refine ⟨none,_,_,?_,(),trivial,rfl,rfl⟩
  refine dr ?_
  trivial
def zbV:XC:=(.s (.r [.ex 2 (.box 0),.ex 3 (.box 1),.ex 4 (.alloc [.nil,.nil,.nil,(I 0),(I 0),.nil,.nil,.nil,.nil,(B false),(I 0),sE,sE,sE])]) (.s (.r [.f1 6 2 3,.l2 7 7 6,.ex 5 (.alloc [sE,(B false),sE,(B false),sE,(I 0),(I 0)]),.s1 7 5 7]) (.s (.s (.r [.f1 8 0 3,.l1 9 1 8]) (.blk 0 (.s (.r [.b1 11 .eql 9 (.i 1),.mv 10 11]) (.cnd 10 (.s (.r [.l2 12 14 2,.f1 13 1 3,.l1 14 1 13,.f1 15 0 5,.l1 16 1 15,.o1 17 210 [12,14,16],.s1 14 4 17]) .ret) (.s (.r [.b1 19 .eql 9 (.i 2),.mv 18 19]) (.cnd 18 (.s (.d [.f1 20 3 2,.l1 21 1 20,.f1 22 6 5,.l1 23 1 22,.b1 24 .lss 21 23,.mv 25 24,.gt 26 (.fa 5 5) 25,.gt 27 (.ld false 1 26) 25,.gt 28 (.fa 7 2) 25,.gt 29 (.ld false 1 28) 25,.gt 30 (.fa 1 3) 25,.gt 31 (.ld false 1 30) 25,.gt 32 (.ia 1 29 31) 25,.gt 33 (.ld false 1 32) 25,.gt 34 (.bin .gtr 27 33) 25,.ex 35 (.pick 25 34 .n)]) (.cnd 35 (.d [.f1 36 6 2,.l1 37 1 36,.f1 38 1 3,.l1 39 1 38,.f1 40 6 2,.l1 41 1 40,.f1 42 1 3,.l1 43 1 42,.i1 44 1 41 43,.l1 45 1 44,.l2 46 7 5,.c1 47 211 [45,46],.i1 48 1 37 39,.s1 1 48 47]) .skip)) (.s (.r [.b1 50 .eql 9 (.i 3),.mv 49 50]) (.cnd 49 (.s (.d [.f1 51 6 2,.l1 52 1 51,.f1 53 1 3,.l1 54 1 53,.f1 55 6 2,.l1 56 1 55,.f1 57 1 3,.l1 58 1 57,.i1 59 1 56 58,.l1 60 1 59,.f1 61 0 5,.l1 62 1 61,.f1 63 5 5,.l1 64 1 63,.c1 65 212 [60,62,64],.i1 66 1 52 54,.s1 1 66 65]) (.s (.d [.f1 67 7 2,.l1 68 1 67,.f1 69 1 3,.l1 70 1 69,.f1 71 7 2,.l1 72 1 71,.f1 73 1 3,.l1 74 1 73,.i1 75 1 72 74,.l1 76 1 75,.f1 77 5 5,.l1 78 1 77,.c1 79 113 [76,78],.i1 80 1 68 70,.s1 1 80 79]) (.s (.r [.l2 81 14 2,.f1 82 1 3,.l1 83 1 82,.l2 84 7 5,.ex 85 (.build [(I 0),(I 0),sE,(B false),sE,(B false),sE,(I 0),(I 0)] [(0,(1,(.i 4))),(1,(1,83)),(2,(7,84))]),.o1 86 114 [81,85],.s1 14 4 86]) .ret))) (.s (.r [.b1 88 .eql 9 (.i 4),.mv 87 88]) (.cnd 87 (.r [.f1 89 5 2,.l1 90 1 89,.f1 91 1 3,.l1 92 1 91,.f1 93 0 5,.l1 94 1 93,.f1 95 5 5,.l1 96 1 95,.c1 97 213 [90,92,94,96],.f1 98 5 2,.s1 1 98 97]) .skip)))))))))) (.s (.r [.l2 99 14 2,.s1 14 4 99]) .ret))))
theorem zbW:compF Tryz.prog [210,114] 176=some (zbV.ac,[(.cell 4 true 14)],100):=by kernel_rfl
theorem zhj {w:Wld} {i:Nat} (h:i < w.floors.length):flW w (i:Int)=w.floors[i]:=by
 unfold flW; simp [h]
theorem ziI {w:Wld} {i:Nat} (h:i < w.holds.length):hdW w (i:Int)=w.holds[i]:=by
 unfold hdW; simp [h]
structure HZ (n:Nat) (w:Wld):Prop where
 l:w.leases.length≤n
 h:∀ x∈w.holds,x.length≤n
theorem zga (W0:World) (w:Wld) (m:Msg) (h:WG w) (hz:HZ 1000000 w) (hw:isW m.who):FunW Tryz.prog W0 176 [wAn 6 w,.c (eMsg m)] (wMn 6 w) (fun _:Unit=>True) (fun _=>wAn 6 (comeW w m)) (fun _=>wMn 6 (comeW w m)):=by
 refine funW (c:=zbV) mixed zbW (by simp) rfl rfl fun hg=>?_
 have hl:=hz.l
 have hn:w.net.length≤1000:=by have:=h.pl.nl; omega
 have h3:=h.pl.hl
 have f3:=h.pl.fl
 obtain ⟨i,hi,hwi⟩:=ql hw
 obtain ⟨mk,mw,mh⟩:=m
 simp only at hwi
 subst hwi
 have hi':i < w.holds.length:=by omega
 have hi'':i < w.floors.length:=by omega
 have hzi:=hz.h _ (List.getElem_mem hi')
 refine dr ?_
 refine cP ?_ ?_<;>intro k1
 ·have e:comeW w ⟨mk,i,mh⟩=grantW w i mh.path:=by unfold comeW; rw [if_pos k1]
  rw [e]
  refine dr ?_
  refine oW (zge W0 w i mh.path h hl) rfl ⟨rfl,rfl,rfl,trivial⟩ rfl rfl ⟨(),trivial⟩ fun _ _=>⟨rfl,?_⟩
  refine dEr ?_
  refine ⟨none,_,_,?_,(),trivial,rfl,rfl⟩
  refine dr ?_
  trivial
 refine dr ?_
 refine cP ?_ ?_<;>intro k2
 ·have e:comeW w ⟨mk,i,mh⟩=if w.clock < mh.til∧w.floors[i] < mh.num then { w with holds:=w.holds.set i (takeH w.holds[i] mh) } else w:=by
   unfold comeW; rw [if_neg k1,if_pos k2]; simp only [zhj hi'',ziI hi',Int.toNat_natCast]
  rw [e]
  refine dr ?_
  refine cP ?_ ?_<;>intro k3
  ·refine dr ?_
   refine cP ?_ ?_<;>intro k4
   ·rw [if_pos ⟨k3,k4⟩]
    refine dEr ?_
    repeat (refine c0 (zgm W0 _ _ hzi) rfl ?_; first | refine dEr ?_ | exact dz)
    refine ⟨none,_,_,?_,(),trivial,rfl,rfl⟩
    refine dr ?_
    repeat ((first | refine oB (by simp) ?_ | refine oB (congrArg (fun L=>XB.row L 1 56) set1) ?_); first | refine dr ?_ | exact dz)
    trivial
   ·rw [if_neg (fun hh=>absurd hh.2 (Int.not_lt.2 k4))]
    refine dr ?_
    refine ⟨none,_,_,?_,(),trivial,rfl,rfl⟩
    refine dr ?_
    trivial
  ·rw [if_neg (fun hh=>absurd hh.1 (Int.not_lt.2 k3))]
   refine dr ?_
   refine ⟨none,_,_,?_,(),trivial,rfl,rfl⟩
   refine dr ?_
   trivial
 refine dr ?_
 refine cP ?_ ?_<;>intro k3
 ·have e:comeW w ⟨mk,i,mh⟩=sendW { w with holds:=w.holds.set i (leaveH w.holds[i] mh.path mh.num),floors:=w.floors.set i (maxI w.floors[i] mh.num) } ⟨4,i,mh⟩:=by
   unfold comeW; rw [if_neg k1,if_neg k2,if_pos k3]; simp only [zhj hi'',ziI hi',Int.toNat_natCast]
  rw [e]
  refine dEr ?_
  repeat ((first | refine c0 (zgg W0 _ _ _ hzi) rfl ?_ | refine c0 (zfv W0 _ _) rfl ?_); first | refine dEr ?_ | exact dz)
  refine oW (jw W0 { w with holds:=w.holds.set i (leaveH w.holds[i] mh.path mh.num),floors:=w.floors.set i (maxI w.floors[i] mh.num) } ⟨4,i,mh⟩ hn) (by simp<;>rfl) ⟨congrArg some (congrArg (fun L=>XB.row L 1 56) set1),congrArg some (congrArg (fun L=>XB.row L 1 3) set1),rfl,trivial⟩ rfl rfl ⟨(),trivial⟩ fun _ _=>⟨rfl,?_⟩
  refine dEr ?_
  refine ⟨none,_,_,?_,(),trivial,rfl,rfl⟩
  refine dr ?_
  trivial
 refine dr ?_
 refine cP ?_ ?_<;>intro k4
 ·have e:comeW w ⟨mk,i,mh⟩={ w with leases:=offL w.leases i mh.path mh.num }:=by unfold comeW; rw [if_neg k1,if_neg k2,if_neg k3,if_pos k4]
  rw [e]
  refine dEr ?_
  repeat (refine c0 (zgi W0 _ _ _ _ hl) rfl ?_; first | refine dEr ?_ | exact dz)
  refine ⟨none,_,_,?_,(),trivial,rfl,rfl⟩
  refine dr ?_
  trivial
 ·have e:comeW w ⟨mk,i,mh⟩=w:=by unfold comeW; rw [if_neg k1,if_neg k2,if_neg k3,if_neg k4]
  rw [e]
  refine dr ?_
  refine ⟨none,_,_,?_,(),trivial,rfl,rfl⟩
  refine dr ?_
  trivial
def zb9:XC:=(.s (.r [.ex 2 (.box 0),.ex 3 (.box 1),.ex 4 (.alloc [.nil,.nil,.nil,(I 0),(I 0),.nil,.nil,.nil,.nil,(B false),(I 0),sE,sE,sE]),.m1 5 (.i 0)]) (.s (.s (.r [.f1 7 7 3,.l1 8 1 7,.b1 9 .lss 8 (.i 0),.mv 10 9,.gf 11 (.fa 7 3) 10,.gf 12 (.ld false 1 11) 10,.gf 13 (.fa 8 2) 10,.gf 14 (.ld false 1 13) 10,.gf 15 (.len false 14) 10,.gf 16 (.bin .geq 12 15) 10,.ex 17 (.pick 10 .y 16)]) (.cnd 17 (.s (.r [.l2 18 14 2,.s1 14 4 18,.m1 5 (.i 22)]) .ret) .skip)) (.s (.r [.f1 19 8 2,.l1 20 1 19,.f1 21 7 3,.l1 22 1 21,.i1 23 9 20 22,.l2 24 9 23,.ex 6 (.alloc [(I 0),(I 0),sE,(B false),sE,(B false),sE,(I 0),(I 0)]),.s1 9 6 24]) (.cut (.s (.r [.f1 25 0 3,.l1 26 1 25,.b1 27 .eql 26 (.i 7)]) (.cnd 27 (.s (.r [.l2 28 14 2,.l2 29 9 6,.o1 30 114 [28,29],.s1 14 4 30,.m1 5 (.i 0)]) .ret) .skip)) (.s (.d [.ex 31 .bsl0,.f1 32 8 2,.l1 33 1 32,.f1 34 7 3,.l1 35 1 34,.ex 36 (.slr 9 33 .none (.some 35)),.ex 37 (.app true 9 96 55 31 36),.f1 38 8 2,.l1 39 1 38,.f1 40 7 3,.l1 41 1 40,.b1 42 .add 41 (.i 1),.ex 43 (.slr 9 39 (.some 42) .none),.ex 44 (.app false 9 96 55 37 43),.f1 45 8 2,.s1 1 45 44]) (.s (.s (.r [.f1 46 0 3,.l1 47 1 46,.b1 48 .eql 47 (.i 5)]) (.cnd 48 (.r [.l2 49 14 2,.l2 50 9 6,.o1 51 176 [49,50],.s1 14 2 51]) .skip)) (.s (.r [.l2 52 14 2,.s1 14 4 52,.m1 5 (.i 0)]) .ret)))))))
theorem zca:compF Tryz.prog [114,176] 118=some (zb9.ac,[(.cell 4 true 14),(.t 5)],53):=by kernel_rfl
abbrev nbN (b:Bool):Nat:=match b with
 | true=>592
 | false=>6
abbrev wMb (b:Bool) (w:Wld):XM:=match b with
 | true=>(6,.dead 9 55)::wMn 592 w
 | false=>wMn 6 w
theorem zel {α β:Type} {f:α→β} {l:List α} {k:Nat}:(l.take k).map f++(l.drop (k+1)).map f=(l.eraseIdx k).map f:=by
 rw [List.eraseIdx_eq_take_drop_succ,List.map_append]
theorem zek {α:Type} {l:List α} {k:Nat}:(l.take k).length+(l.drop (k+1)).length=(l.eraseIdx k).length:=by
 rw [List.eraseIdx_eq_take_drop_succ,List.length_append]
theorem zo4 {w:Wld} {n L:Nat} (e:L=w.net.length):PV.agg [.c (eEnts w.over.base),.c (eMarkss w.over.layers),.c (eMarks w.over.upper),I w.clock,I w.count,.c (eLeases w.leases),.own 4 w.holds.length,.own 5 w.floors.length,.own n L,B w.waits,I w.op.kind,.c (CS w.op.path),.c (CS w.op.dest),.c (CS w.op.data)]=wAn n w:=by rw [e]
theorem zgh (W0:World) (w:Wld) (ev:Ev) (h:WG w) (hz:HZ 1000000 w):FunW Tryz.prog W0 118 [wAn 6 w,.c (eEv ev)] (wMn 6 w) (fun _:Bool=>True) (fun b => .tup [wAn (nbN b) (netW w ev).1,.c (CI (netW w ev).2)]) (fun b=>wMb b (netW w ev).1):=by
 obtain ⟨ek,ew,ep,eo,pos⟩:=ev
 show FunW _ _ _ [wAn 6 w,.c (.agg [CI ek,CI ew,CS ep,CI eo.kind,CS eo.path,CS eo.dest,CS eo.data,CI pos])] _ _ _ _
 refine funW (c:=zb9) mixed zca (by simp) rfl rfl fun hg=>?_
 have hn:w.net.length≤1000:=by have:=h.pl.nl; omega
 have hw:netW w ⟨ek,ew,ep,eo,pos⟩=if pos < 0∨(w.net.length:Int)≤pos then (w,22)
  else if ek=7 then (sendW w (w.net.getD pos.toNat noMs),0)
  else if ek=5 then (comeW { w with net:=w.net.eraseIdx pos.toNat } (w.net.getD pos.toNat noMs),0)
  else ({ w with net:=w.net.eraseIdx pos.toNat },0):=rfl
 rw [hw]
 refine dr ?_
 refine cP ?_ ?_<;>intro h1
 ·rw [if_pos (.inl h1)]
  refine dr ?_
  refine ⟨none,_,_,?_,false,trivial,rfl,rfl⟩
  refine dr ?_
  trivial
 refine dr ?_
 refine cP ?_ ?_<;>intro h2
 ·rw [if_pos (.inr h2)]
  refine dr ?_
  refine ⟨none,_,_,?_,false,trivial,rfl,rfl⟩
  refine dr ?_
  trivial
 have h1':0≤pos:=h1
 have h2':pos < (w.net.length:Int):=h2
 rw [if_neg (by omega)]
 obtain ⟨k,rfl⟩:∃ k:Nat,pos=(k:Int):=⟨pos.toNat,by omega⟩
 have hk:k < w.net.length:=by omega
 have hgd:w.net.getD (k:Int).toNat noMs=w.net[k]:=by rw [Int.toNat_natCast,List.getD_eq_getElem?_getD,List.getElem?_eq_getElem hk]; rfl
 rw [hgd]
 have hms:=h.ms _ (List.getElem_mem hk)
 rw [Int.toNat_natCast]
 refine dr ?_
 refine cuts (σ:=Unit) (fun _=>[(2,.ptr 32 0),(3,.ptr 48 0),(4,.ptr 64 0),(6,.ptr 96 0)])
  (fun _=>(6,.dead 9 55)::[(32,.box [.c (eEnts w.over.base),.c (eMarkss w.over.layers),.c (eMarks w.over.upper),I w.clock,I w.count,.c (eLeases w.leases),.own 4 w.holds.length,.own 5 w.floors.length,.c (eMsgs w.net),B w.waits,I w.op.kind,.c (CS w.op.path),.c (CS w.op.dest),.c (CS w.op.data)]),
   (48,.box [I ek,I ew,.c (CS ep),I eo.kind,.c (CS eo.path),.c (CS eo.dest),.c (CS eo.data),I (k:Int)]),(64,zWB),(96,.box (mCs w.net[k])),(4,.row (w.holds.map eHolds) 1 56),(5,.row (w.floors.map CI) 1 3)]) (fun _=>ek≠7) ?_ ?_
 ·refine dr ?_
  refine cP ?_ ?_<;>intro h3
  ·have h3':ek=7:=h3
   rw [if_pos h3']
   refine dr ?_
   refine oW (jw W0 w w.net[k] hn) rfl ⟨rfl,rfl,rfl,trivial⟩ rfl rfl ⟨(),trivial⟩ fun _ _=>⟨rfl,?_⟩
   refine dEr ?_
   refine ⟨none,_,_,?_,false,trivial,rfl,rfl⟩
   refine dr ?_
   trivial
  ·refine dr ?_
   refine ⟨(),h3,?_⟩
   refine KeepS.give (L:=w.net.map eMsg) 6 rfl ?_
   refine dr ?_
   repeat ((first | refine oB (by simp; omega) ?_ | refine oB (by simp) ?_); first | refine dr ?_ | exact dz)
   trivial
 rintro _ h3
 rw [if_neg h3]
 refine dr ?_
 repeat ((first | refine sHiM k rfl (by omega) ?_ | refine sLoM (k+1) (by omega) (by omega) ?_ | refine oB (by simp; omega) ?_ | refine oB (by simp) ?_); first | refine dr ?_ | exact dz)
 refine cP ?_ ?_<;>intro h4
 ·have h4':ek=5:=h4
  rw [if_pos h4']
  have hc:=(zga W0 { w with net:=w.net.eraseIdx k } w.net[k] (h.lose k) ⟨hz.l,hz.h⟩ hms.who).swp 6 592
  refine dr ?_
  refine oW hc (congrArg (fun x=>[x,PV.c (eMsg w.net[k])]) (zo4 (w:={ w with net:=w.net.eraseIdx k }) zek)) ⟨rfl,rfl,congrArg some (congrArg (fun L=>XB.row L 9 55) zel),trivial⟩ rfl rfl ⟨(),trivial⟩ fun _ _=>⟨rfl,?_⟩
  refine dEr ?_
  refine ⟨none,_,_,?_,true,trivial,rfl,rfl⟩
  refine dr ?_
  trivial
 ·have h4':ek≠5:=h4
  rw [if_neg h4']
  refine dr ?_
  refine ⟨none,_,_,?_,true,trivial,rfl,rfl⟩
  refine dr ?_
  repeat ((first | refine oB (congrArg (fun x=>PV.tup [x,I 0]) (zo4 (w:={ w with net:=w.net.eraseIdx k }) zek)) ?_ | refine oB (congrArg (fun L=>XB.row L 9 55) zel) ?_); first | refine dr ?_ | exact dz)
  trivial
end Go.Proofs.YteheahbjaddooaaGreatDoor

namespace Go.Proofs.YteheahbjaddooaaGreatDoor
set_option linter.unusedSimpArgs false
set_option linter.unusedVariables false
open Go Go.RowKit
theorem HZ.mono {n m:Nat} {w:Wld} (h:HZ n w) (hm:n≤m):HZ m w:=⟨by have:=h.l; omega,fun x hx=>by have:=h.h x hx; omega⟩
theorem zoc {l:List Hold} {h:Hold}:(takeH l h).length≤l.length+1:=by
 unfold takeH
 split
 ·omega
 ·have:=List.length_filter_le (fun x:Hold=>x.path != h.path) l
  simp; omega
theorem HZ.set {n:Nat} {w:Wld} {k:Nat} {L:List Hold} (h:HZ n w) (hL:L.length≤n+1):∀ x∈w.holds.set k L,x.length≤n+1:=fun x hx=>by
 rcases List.mem_or_eq_of_mem_set hx with h' | h'
 ·have:=h.h x h'; omega
 ·rw [h']; exact hL
theorem qf {n:Nat} {w:Wld} (h:HZ n w) (k:Int):(hdW w k).length≤n:=by
 unfold hdW
 rw [List.getD_eq_getElem?_getD]
 by_cases hk:k.toNat < w.holds.length
 ·rw [List.getElem?_eq_getElem hk]; exact h.h _ (List.getElem_mem hk)
 ·rw [List.getElem?_eq_none (by omega)]; simp
theorem HZ.of_eq {n:Nat} {w x:Wld} (h:HZ n w) (h1:x.leases=w.leases) (h2:x.holds=w.holds):HZ (n+1) x:=⟨by rw [h1]; have:=h.l; omega,fun y hy=>by rw [h2] at hy; have:=h.h y hy; omega⟩
theorem HZ.come {n:Nat} {w:Wld} (h:HZ n w) (m:Msg):HZ (n+1) (comeW w m):=by
 have hl:=h.l
 unfold comeW
 split
 ·unfold grantW
  split
  ·exact h.mono (by omega)
  ·refine ⟨?_,fun y hy=>?_⟩
   ·rw [yJ.2.2.2.1]
    have:=List.length_filter_le (fun x:Lease=>!(x.who==m.who&&(x.path==m.hold.path&&decide (x.num≤w.count+1)))) w.leases
    show (offL w.leases m.who m.hold.path (w.count+1)++_).length≤n+1
    rw [List.length_append,zkM]
    simp only [List.length_cons,List.length_nil]; omega
   ·rw [yJ.2.2.2.2.1] at hy
    have:=h.h y hy; omega
 ·split
  ·split
   ·exact ⟨by show w.leases.length≤n+1; omega,h.set (by have:=@zoc (hdW w m.who) m.hold; have:=qf h m.who; omega)⟩
   ·exact h.mono (by omega)
  ·split
   ·refine ⟨?_,fun y hy=>?_⟩
    ·rw [yJ.2.2.2.1]; show w.leases.length≤n+1; omega
    ·rw [yJ.2.2.2.2.1] at hy
     exact h.set (by have:=List.length_filter_le (fun x:Hold=>!(x.path==m.hold.path&&decide (x.num≤m.hold.num))) (hdW w m.who); have:=qf h m.who; rw [zjB]; omega) y hy
   ·split
    ·refine ⟨?_,fun y hy=>by have:=h.h y hy; omega⟩
     have:=List.length_filter_le (fun x:Lease=>!(x.who==m.who&&(x.path==m.hold.path&&decide (x.num≤m.hold.num)))) w.leases
     show (offL w.leases m.who m.hold.path m.hold.num).length≤n+1
     rw [zkM]; omega
    ·exact h.mono (by omega)
theorem HZ.ev {n:Nat} {w:Wld} (h:HZ n w) (e:Ev):HZ (n+1) (evW w e).1:=by
 have hl:=h.l
 have id1:HZ (n+1) w:=h.mono (by omega)
 unfold evW
 split
 ·split
  ·exact h.of_eq yJ.2.2.2.1 yJ.2.2.2.2.1
  ·exact id1
 ·split
  ·unfold writeW
   split
   ·exact id1
   ·split
    ·exact id1
    ·split
     ·exact h.of_eq yB.2.2.2.1 yB.2.2.2.2.1
     ·exact h.of_eq rfl rfl
  ·split
   ·unfold tryW
    split
    ·exact id1
    ·split
     ·exact h.of_eq yB.2.2.2.1 yB.2.2.2.2.1
     ·exact h.of_eq rfl rfl
   ·split
    ·refine ⟨?_,fun y hy=>by have:=h.h y hy; omega⟩
     have:=List.length_filter_le (fun l:Lease=>decide (tickC w < l.til)) w.leases
     show (w.leases.filter fun l=>decide (tickC w < l.til)).length≤n+1
     omega
    ·split
     ·unfold netW
      split
      ·exact id1
      ·split
       ·exact h.of_eq yJ.2.2.2.1 yJ.2.2.2.2.1
       ·split
        ·exact HZ.come (w:={ w with net:=w.net.eraseIdx e.pos.toNat }) ⟨h.l,h.h⟩ _
        ·exact h.of_eq rfl rfl
     ·exact id1
theorem HZ.new {o:Over}:HZ 0 (newW o):=⟨by simp [newW],by simp [newW]⟩
def zbZ:XC:=(.s (.r [.ex 2 (.box 0),.ex 3 (.box 1),.ex 4 (.alloc [.nil,.nil,.nil,(I 0),(I 0),.nil,.nil,.nil,.nil,(B false),(I 0),sE,sE,sE]),.m1 5 (.i 0)]) (.s (.s (.r [.f1 6 0 3,.l1 7 1 6]) (.blk 0 (.s (.r [.b1 9 .eql 7 (.i 1),.mv 8 9]) (.cnd 8 (.s (.s (.r [.f1 10 1 3,.l1 11 1 10,.c1 12 37 [11],.ex 13 (.un .not 12),.mv 14 13,.gf 15 (.fa 2 3) 14,.gf 16 (.ld false 1 15) 14,.gf 17 (.call 106 [16]) 14,.gf 18 (.un .not 17) 14,.ex 19 (.pick 14 .y 18)]) (.cnd 19 (.s (.r [.l2 20 14 2,.s1 14 4 20,.m1 5 (.i 1)]) .ret) .skip)) (.s (.r [.l2 21 14 2,.f1 22 1 3,.l1 23 1 22,.f1 24 2 3,.l1 25 1 24,.ex 26 (.build [sE,(B false),sE,(B false),sE,(I 0),(I 0)] [(0,(1,25))]),.ex 27 (.build [(I 0),(I 0),sE,(B false),sE,(B false),sE,(I 0),(I 0)] [(0,(1,(.i 1))),(1,(1,23)),(2,(7,26))]),.o1 28 114 [21,27],.s1 14 4 28,.m1 5 (.i 0)]) .ret)) (.s (.r [.b1 30 .eql 7 (.i 2),.mv 29 30]) (.cnd 29 (.s (.r [.l2 31 14 2,.f1 32 3 3,.l2 33 4 32,.o1 34 115 [31,33],.e1 35 34 0,.e1 36 34 1,.s1 14 4 35,.mv 5 36]) .ret) (.s (.r [.b1 38 .eql 7 (.i 3),.mv 37 38]) (.cnd 37 (.s (.r [.l2 39 14 2,.o1 40 116 [39],.e1 41 40 0,.e1 42 40 1,.s1 14 4 41,.mv 5 42]) .ret) (.s (.r [.b1 44 .eql 7 (.i 4),.mv 43 44]) (.cnd 43 (.s (.r [.l2 45 14 2,.o1 46 117 [45],.s1 14 4 46,.m1 5 (.i 0)]) .ret) (.s (.s (.r [.b1 48 .eql 7 (.i 5),.mv 47 48]) (.cnd 47 .skip (.s (.r [.b1 49 .eql 7 (.i 6),.mv 47 49]) (.cnd 47 .skip (.r [.b1 50 .eql 7 (.i 7),.mv 47 50]))))) (.cnd 47 (.s (.r [.l2 51 14 2,.l2 52 8 3,.o1 53 118 [51,52],.e1 54 53 0,.e1 55 53 1,.s1 14 4 54,.mv 5 55]) .ret) .skip)))))))))))) (.s (.r [.l2 56 14 2,.s1 14 4 56,.m1 5 (.i 1)]) .ret)))
theorem zb0:compF Tryz.prog [114,115,116,117,118] 73=some (zbZ.ac,[(.cell 4 true 14),(.t 5)],57):=by kernel_rfl
theorem zgc (W0:World) (w:Wld) (ev:Ev) (h:WG w) (hz:HZ 1000000 w):FunW Tryz.prog W0 73 [wAn 6 w,.c (eEv ev)] (wMn 6 w) (fun _:Bool=>True) (fun b => .tup [wAn (nbN b) (evW w ev).1,.c (CI (evW w ev).2)]) (fun b=>wMb b (evW w ev).1):=by
 obtain ⟨ek,ew,ep,eo,pos⟩:=ev
 show FunW _ _ _ [wAn 6 w,.c (.agg [CI ek,CI ew,CS ep,CI eo.kind,CS eo.path,CS eo.dest,CS eo.data,CI pos])] _ _ _ _
 refine funW (c:=zbZ) mixed zb0 (by simp) rfl rfl fun hg=>?_
 have hn:w.net.length≤1000:=by have:=h.pl.nl; omega
 have ww:=zgr W0 w eo h hz.l
 have wt:=zgo W0 w h hz.l
 have wk:=zgn W0 w h hz.l
 have wn:=zgh W0 w ⟨ek,ew,ep,eo,pos⟩ h hz
 refine dr ?_
 refine cP ?_ ?_<;>intro k1
 ·by_cases a:isW ew∧pOk ep=true
  ·have e:evW w ⟨ek,ew,ep,eo,pos⟩=(sendW w ⟨1,ew,⟨ep,false,noE,0,0⟩⟩,0):=by
    unfold evW; rw [if_pos k1,if_pos a]
   rw [e]
   refine dEr ?_
   repeat (refine c0 (zgq W0 _) rfl ?_; first | refine dEr ?_ | exact dz)
   refine cP ?_ ?_<;>intro k2
   ·exact absurd a.1 k2
   refine dEr ?_
   repeat (refine c0 (jC W0 _) rfl ?_; first | refine dEr ?_ | exact dz)
   refine cP ?_ ?_<;>intro k3
   ·rw [a.2] at k3; cases k3
   refine dr ?_
   refine oW (jw W0 w ⟨1,ew,⟨ep,false,noE,0,0⟩⟩ hn) rfl ⟨rfl,rfl,rfl,trivial⟩ rfl rfl ⟨(),trivial⟩ fun _ _=>⟨rfl,?_⟩
   refine dEr ?_
   refine ⟨none,_,_,?_,false,trivial,rfl,rfl⟩
   refine dr ?_
   trivial
  ·have e:evW w ⟨ek,ew,ep,eo,pos⟩=(w,1):=by
    unfold evW; rw [if_pos k1,if_neg a]
   rw [e]
   refine dEr ?_
   repeat (refine c0 (zgq W0 _) rfl ?_; first | refine dEr ?_ | exact dz)
   refine cP ?_ ?_<;>intro k2
   ·refine dEr ?_
    refine ⟨none,_,_,?_,false,trivial,rfl,rfl⟩
    refine dr ?_
    trivial
   refine dEr ?_
   repeat (refine c0 (jC W0 _) rfl ?_; first | refine dEr ?_ | exact dz)
   refine cP ?_ ?_<;>intro k3
   ·refine dEr ?_
    refine ⟨none,_,_,?_,false,trivial,rfl,rfl⟩
    refine dr ?_
    trivial
   ·exact absurd ⟨k2,k3⟩ a
 refine dr ?_
 refine cP ?_ ?_<;>intro k2
 ·have e:evW w ⟨ek,ew,ep,eo,pos⟩=writeW w eo:=by unfold evW; rw [if_neg k1,if_pos k2]
  rw [e]
  refine dr ?_
  refine oW ww rfl ⟨rfl,rfl,rfl,trivial⟩ rfl rfl ⟨(),trivial⟩ fun _ _=>⟨rfl,?_⟩
  refine dEr ?_
  refine ⟨none,_,_,?_,false,trivial,rfl,rfl⟩
  refine dr ?_
  trivial
 refine dr ?_
 refine cP ?_ ?_<;>intro k3
 ·have e:evW w ⟨ek,ew,ep,eo,pos⟩=tryW w:=by unfold evW; rw [if_neg k1,if_neg k2,if_pos k3]
  rw [e]
  refine dr ?_
  refine oW wt rfl ⟨rfl,rfl,rfl,trivial⟩ rfl rfl ⟨(),trivial⟩ fun _ _=>⟨rfl,?_⟩
  refine dEr ?_
  refine ⟨none,_,_,?_,false,trivial,rfl,rfl⟩
  refine dr ?_
  trivial
 refine dr ?_
 refine cP ?_ ?_<;>intro k4
 ·have e:evW w ⟨ek,ew,ep,eo,pos⟩=(tickW w,0):=by unfold evW; rw [if_neg k1,if_neg k2,if_neg k3,if_pos k4]
  rw [e]
  refine dr ?_
  refine oW wk rfl ⟨rfl,rfl,rfl,trivial⟩ rfl rfl ⟨(),trivial⟩ fun _ _=>⟨rfl,?_⟩
  refine dEr ?_
  refine ⟨none,_,_,?_,false,trivial,rfl,rfl⟩
  refine dr ?_
  trivial
 by_cases a:5≤ek∧ek≤7
 ·have e:evW w ⟨ek,ew,ep,eo,pos⟩=netW w ⟨ek,ew,ep,eo,pos⟩:=by
   have a':5≤(⟨ek,ew,ep,eo,pos⟩:Ev).kind∧(⟨ek,ew,ep,eo,pos⟩:Ev).kind≤7:=a
   unfold evW; rw [if_neg k1,if_neg k2,if_neg k3,if_neg k4,if_pos a']
  rw [e]
  refine dr ?_
  refine cP ?_ ?_<;>intro k5
  ·refine dr ?_
   refine cP ?_ ?_<;>intro j5
   rotate_left
   ·exact absurd k5 j5
   refine dr ?_
   refine oW wn rfl ⟨rfl,rfl,rfl,trivial⟩ rfl rfl ⟨false,trivial⟩ fun b _=>?_
   cases b with
   | true =>
    refine ⟨rfl,?_⟩
    refine dEr ?_
    refine ⟨none,_,_,?_,true,trivial,rfl,rfl⟩
    refine dr ?_
    trivial
   | false =>
    refine ⟨rfl,?_⟩
    refine dEr ?_
    refine ⟨none,_,_,?_,false,trivial,rfl,rfl⟩
    refine dr ?_
    trivial
  refine dr ?_
  refine cP ?_ ?_<;>intro k6
  ·refine dr ?_
   refine cP ?_ ?_<;>intro j6
   rotate_left
   ·exact absurd k6 j6
   refine dr ?_
   refine oW wn rfl ⟨rfl,rfl,rfl,trivial⟩ rfl rfl ⟨false,trivial⟩ fun b _=>?_
   cases b with
   | true =>
    refine ⟨rfl,?_⟩
    refine dEr ?_
    refine ⟨none,_,_,?_,true,trivial,rfl,rfl⟩
    refine dr ?_
    trivial
   | false =>
    refine ⟨rfl,?_⟩
    refine dEr ?_
    refine ⟨none,_,_,?_,false,trivial,rfl,rfl⟩
    refine dr ?_
    trivial
  refine dr ?_
  refine cP ?_ ?_<;>intro k7
  ·refine dr ?_
   refine oW wn rfl ⟨rfl,rfl,rfl,trivial⟩ rfl rfl ⟨false,trivial⟩ fun b _=>?_
   cases b with
   | true =>
    refine ⟨rfl,?_⟩
    refine dEr ?_
    refine ⟨none,_,_,?_,true,trivial,rfl,rfl⟩
    refine dr ?_
    trivial
   | false =>
    refine ⟨rfl,?_⟩
    refine dEr ?_
    refine ⟨none,_,_,?_,false,trivial,rfl,rfl⟩
    refine dr ?_
    trivial
  ·omega
 ·have e:evW w ⟨ek,ew,ep,eo,pos⟩=(w,1):=by
   have a':¬ (5≤(⟨ek,ew,ep,eo,pos⟩:Ev).kind∧(⟨ek,ew,ep,eo,pos⟩:Ev).kind≤7):=a
   unfold evW; rw [if_neg k1,if_neg k2,if_neg k3,if_neg k4,if_neg a']
  rw [e]
  refine dr ?_
  refine cP ?_ ?_<;>intro k5
  ·exact absurd ⟨by omega,by omega⟩ a
  refine dr ?_
  refine cP ?_ ?_<;>intro k6
  ·exact absurd ⟨by omega,by omega⟩ a
  refine dr ?_
  refine cP ?_ ?_<;>intro k7
  ·exact absurd ⟨by omega,by omega⟩ a
  ·refine dr ?_
   refine ⟨none,_,_,?_,false,trivial,rfl,rfl⟩
   refine dr ?_
   trivial
end Go.Proofs.YteheahbjaddooaaGreatDoor

namespace Go.Proofs.YteheahbjaddooaaGreatDoor
set_option linter.unusedSimpArgs false
set_option linter.unusedVariables false
open Go Go.RowKit
structure WZ (n:Nat) (w:Wld):Prop where
 o:OZ n w.over
 z:HZ n w
 h:w.holds.length≤n
 f:w.floors.length≤n
 t:w.net.length≤n
theorem WG.wz {n:Nat} {w:Wld} (h:WG w) (hz:HZ n w) (hn:32≤n):WZ n w:=by
 obtain ⟨t,g⟩:=h.og
 exact ⟨g.os.oz.mono hn,hz,by have:=h.pl.hl; omega,by have:=h.pl.fl; omega,by have:=h.pl.nl; omega⟩
theorem KeepS.nilS {k0:List Nat} {A:Fr} {m:XM} (bx:Nat) (cs cs':List PV) (id sz:Nat) (e:TypeId) (h0:0 < sz) (hb:lkX m bx=some (.box cs)) (hid:lkX m id=none) (hc:All2 (NR1 id) cs cs') :
  KeepS k0 A m A ((id,.row [] sz e)::updX m bx (.box cs')):=fun W0 F K hA hK=>by
 have hb':lk (Go.Proofs.YteheahbjaddooaaGreatDoor.er m) bx=some (.box cs):=by rw [qz,hb]; rfl
 have hup:Go.Proofs.YteheahbjaddooaaGreatDoor.er (updX m bx (.box cs'))=upd (Go.Proofs.YteheahbjaddooaaGreatDoor.er m) bx (.box cs'):=Zg
 refine KeepG.nil (F2:=A) (m2:=upd (Go.Proofs.YteheahbjaddooaaGreatDoor.er m) bx (.box cs')) id sz e (by rw [qz,hid]; rfl) h0 (fun t x hx=>⟨x,by rw [← hA t]; exact hx,.inl (.inl rfl)⟩) (fun i b hi=>?_) (fun i hi=>by rw [qk]; exact hi) ?_
 ·by_cases h:i=bx
  ·subst h
   rw [qG hb'] at hi
   cases hi
   exact ⟨_,hb',.inr ⟨cs,cs',rfl,rfl,hc⟩⟩
  ·rw [qF h] at hi
   exact ⟨b,hi,.inl rfl⟩
 ·have:Go.Proofs.YteheahbjaddooaaGreatDoor.er ((id,XB.row [] sz e)::updX m bx (.box cs'))=(id,.row [] sz e)::upd (Go.Proofs.YteheahbjaddooaaGreatDoor.er m) bx (.box cs'):=by simp only [Go.Proofs.YteheahbjaddooaaGreatDoor.er,XB.er,hup]; rfl
  rw [this] at hK; exact hK
def zbX:XC:=(.s (.r [.ex 1 (.box 0),.ex 2 (.alloc [.nil,.nil,.nil,(I 0),(I 0),.nil,.nil,.nil,.nil,(B false),(I 0),sE,sE,sE])]) (.s (.r [.l2 5 14 1,.ex 3 (.alloc [.nil,.nil,.nil,(I 0),(I 0),.nil,.nil,.nil,.nil,(B false),(I 0),sE,sE,sE]),.s1 14 3 5]) (.s (.r [.f1 6 0 1,.l2 7 3 6,.c1 8 102 [7],.f1 9 0 3,.s1 3 9 8]) (.s (.r [.ex 10 .bsl0,.f1 11 5 1,.l1 12 1 11,.ex 13 (.app true 4 40 72 10 12),.f1 14 5 3,.s1 1 14 13]) (.s (.r [.ex 15 .bsl0,.f1 16 6 3,.s1 1 16 15]) (.s (.s (.r [.m1 4 (.i 0)]) (.blk 0 (.loop (.s (.s (.r [.mv 17 4,.f1 18 6 1,.l1 19 1 18,.n1 20 19,.b1 21 .lss 17 20]) (.cnd 21 .skip (.exit 0))) (.s (.blk 1 (.d [.f1 24 6 3,.l1 25 1 24,.ex 26 .bsl0,.f1 27 6 1,.l1 28 1 27,.mv 29 4,.i1 30 1 28 29,.l1 31 1 30,.ex 32 (.app true 7 80 53 26 31),.ex 33 (.bsl 1 56 [32]),.ex 34 (.app false 1 24 56 25 33),.f1 35 6 3,.s1 1 35 34])) (.r [.mv 22 4,.b1 23 .add 22 (.i 1),.mv 4 23])))))) (.s (.r [.ex 36 .bsl0,.f1 37 7 1,.l1 38 1 37,.ex 39 (.app true 1 8 3 36 38),.f1 40 7 3,.s1 1 40 39]) (.s (.r [.ex 41 .bsl0,.f1 42 8 1,.l1 43 1 42,.ex 44 (.app true 9 96 55 41 43),.f1 45 8 3,.s1 1 45 44]) (.s (.r [.l2 46 14 3,.s1 14 2 46]) .ret)))))))))
theorem zbY:compF Tryz.prog [] 45=some (zbX.ac,[(.cell 2 true 14)],47):=by kernel_rfl
theorem zgb (W0:World) (w:Wld) (hz:WZ 1000000 w):FunW Tryz.prog W0 45 [wAn 6 w] (wMn 6 w) (fun _:Unit=>True) (fun _ => .c (eWld w)) (fun _=>wMn 6 w):=by
 refine funW (c:=zbX) mixed zbY (by simp) rfl rfl fun hg=>?_
 obtain ⟨hzo,⟨hzl,hzh⟩,hh,hf,hn⟩:=hz
 refine dEr ?_
 repeat ((first | refine c0 (zf4 W0 _ (hzo.mono (by omega))) rfl ?_ | refine oB (by simp; omega) ?_ | refine oB (by simp) ?_); first | refine dEr ?_ | exact dz)
 refine lq (σ:=Nat) (fun k=>[(1,.ptr 16 0),(2,.ptr 32 0),(3,.ptr 48 0),(4,I k)]) (fun k=>[(14,.row ((w.holds.take k).map eHolds) 1 56),(16,.box (wCo 6 w)),(32,zWB),(48,.box [.c (eEnts w.over.base),.c (eMarkss w.over.layers),.c (eMarks w.over.upper),I w.clock,I w.count,.c (eLeases w.leases),.own 14 k,.own 5 w.floors.length,.own 6 w.net.length,B w.waits,I w.op.kind,.c (CS w.op.path),.c (CS w.op.dest),.c (CS w.op.data)])]++wMn 6 w) (fun k=>k≤w.holds.length) (fun k=>w.holds.length - k) 0 (by simp) ?_ ?_
 ·refine KeepX.trans (z:=some 208) (z':=some 3) (F1:=[(1,.ptr 16 0),(2,.ptr 32 0),(3,.ptr 48 0),(4,I 0)]) (m1:=[(16,.box (wCo 6 w)),(32,zWB),(48,.box [.c (eEnts w.over.base),.c (eMarkss w.over.layers),.c (eMarks w.over.upper),I w.clock,I w.count,.c (eLeases w.leases),.nil,.own 5 w.floors.length,.own 6 w.net.length,B w.waits,I w.op.kind,.c (CS w.op.path),.c (CS w.op.dest),.c (CS w.op.data)])]++wMn 6 w) ?_ ?_
  ·refine dr ?_
   repeat (refine oB (by simp<;>rfl) ?_; first | refine dr ?_ | exact dz)
   trivial
  ·show KeepS _ _ _ _ _
   exact KeepS.nilB 48 [.c (eEnts w.over.base),.c (eMarkss w.over.layers),.c (eMarks w.over.upper),I w.clock,I w.count,.c (eLeases w.leases),.nil,.own 5 w.floors.length,.own 6 w.net.length,B w.waits,I w.op.kind,.c (CS w.op.path),.c (CS w.op.dest),.c (CS w.op.data)] [.c (eEnts w.over.base),.c (eMarkss w.over.layers),.c (eMarks w.over.upper),I w.clock,I w.count,.c (eLeases w.leases),.own 14 0,.own 5 w.floors.length,.own 6 w.net.length,B w.waits,I w.op.kind,.c (CS w.op.path),.c (CS w.op.dest),.c (CS w.op.data)] 14 56 rfl rfl ⟨nr0,nr0,nr0,nr0,nr0,nr0,nr1,nr0,nr0,nr0,nr0,nr0,nr0,nr0,trivial⟩
 intro k hk
 refine dr ?_
 refine cP ?_ ?_<;>intro h1
 ·have hk':k < w.holds.length:=by omega
  have hzk:=hzh _ (List.getElem_mem hk')
  refine dr ?_
  repeat ((first | refine oB (by simp; omega) ?_ | refine oB (by simp) ?_); first | refine dr ?_ | exact dz)
  refine ⟨k+1,by omega,by omega,?_⟩
  rw [List.take_succ_eq_append_getElem hk',List.map_append]
  refine KeepS.push (C:=(w.holds.take k).map eHolds) (L:=w.holds[k].map eHold) 14 512 rfl rfl (by simp) ?_
  refine dr ?_
  trivial
 have hkl:k=w.holds.length:=by omega
 subst hkl
 rw [List.take_length]
 refine dr ?_
 repeat ((first | refine oB (by simp; omega) ?_ | refine oB (by simp) ?_); first | refine dr ?_ | exact dz)
 refine ⟨some 3,_,_,?_,(),trivial,rfl,rfl⟩
 refine KeepX.trans (z:=some 14) (z':=some 3) (F1:=[(0,.agg [.c (eEnts w.over.base),.c (eMarkss w.over.layers),.c (eMarks w.over.upper),I w.clock,I w.count,.c (eLeases w.leases),.c (eHoldss w.holds),.own 624 w.floors.length,.own 704 w.net.length,B w.waits,I w.op.kind,.c (CS w.op.path),.c (CS w.op.dest),.c (CS w.op.data)])]) (m1:=[(624,.row (w.floors.map CI) 1 3),(704,.row (w.net.map eMsg) 9 55)]++wMn 6 w) ?_ ?_
 ·refine dr ?_
  repeat ((first | refine oB (by simp<;>rfl) ?_ | refine oB (by simp) ?_); first | refine dr ?_ | exact dz)
  trivial
 refine KeepX.trans (z:=some 624) (z':=some 704) (F1:=[(0,.agg [.c (eEnts w.over.base),.c (eMarkss w.over.layers),.c (eMarks w.over.upper),I w.clock,I w.count,.c (eLeases w.leases),.c (eHoldss w.holds),.c (eInts w.floors),.own 704 w.net.length,B w.waits,I w.op.kind,.c (CS w.op.path),.c (CS w.op.dest),.c (CS w.op.data)])]) (m1:=[(704,.row (w.net.map eMsg) 9 55)]++wMn 6 w) ?_ ?_
 ·refine dr ?_
  repeat ((first | refine oB (by simp<;>rfl) ?_ | refine oB (by simp) ?_); first | refine dr ?_ | exact dz)
  trivial
 ·refine dr ?_
  repeat ((first | refine oB (by simp<;>rfl) ?_ | refine oB (by simp) ?_); first | refine dr ?_ | exact dz)
  trivial
end Go.Proofs.YteheahbjaddooaaGreatDoor

namespace Go.Proofs.YteheahbjaddooaaGreatDoor
set_option linter.unusedSimpArgs false
set_option linter.unusedVariables false
open Go Go.RowKit
def zah:XC:=(.s (.r [.ex 1 (.box 0),.ex 2 (.alloc [.nil,.nil,.nil,(I 0),(I 0),.nil,.nil,.nil,.nil,(B false),(I 0),sE,sE,sE])]) (.s (.d [.l2 3 3 1,.c1 4 102 [3],.ex 5 (.mks 1 24 56 (.c (.row [])) (.i 3)),.ex 6 (.mks 1 8 3 (I 0) (.i 3)),.ex 7 (.build [.nil,.nil,.nil,(I 0),(I 0),.nil,.nil,.nil,.nil,(B false),(I 0),sE,sE,sE] [(0,(3,4)),(6,(1,5)),(7,(1,6))]),.s1 14 2 7]) .ret))
theorem zai:compF Tryz.prog [] 72=some (zah.ac,[(.cell 2 true 14)],8):=by kernel_rfl
theorem zgX (W0:World) (o:Over) (h:OZ 1000000 o):FunW Tryz.prog W0 72 [.c (eOver o)] [] (fun _:Unit=>True) (fun _ => .agg [.c (eEnts o.base),.c (eMarkss o.layers),.c (eMarks o.upper),I 0,I 0,.nil,.own 80 3,.own 96 3,.nil,B false,I 0,.c (CS []),.c (CS []),.c (CS [])])
  (fun _=>[(80,.row (([[],[],[]]:List (List Hold)).map eHolds) 1 56),(96,.row (([0,0,0]:List Int).map CI) 1 3)]):=by
 refine funW (c:=zah) mixed zai (by simp) rfl rfl fun hg=>?_
 refine dEr ?_
 repeat ((first | refine c0 (zf4 W0 o h) rfl ?_ | refine nE (j:=3) rfl ?_ | refine oB (by simp) ?_); first | refine dEr ?_ | exact dz)
 refine ⟨none,_,_,?_,(),trivial,rfl,rfl⟩
 refine dr ?_
 repeat (refine oB (by simp) ?_; first | refine dr ?_ | exact dz)
 trivial
theorem zgW (W0:World) (o:Over) (h:OZ 1000000 o):FunW Tryz.prog W0 72 [.c (eOver o)] [] (fun _:Unit=>True) (fun _ => .agg [.c (eEnts o.base),.c (eMarkss o.layers),.c (eMarks o.upper),I 0,I 0,.nil,.own 4 3,.own 5 3,.nil,B false,I 0,.c (CS []),.c (CS []),.c (CS [])])
  (fun _=>[(4,.row (([[],[],[]]:List (List Hold)).map eHolds) 1 56),(5,.row (([0,0,0]:List Int).map CI) 1 3)]):=((zgX W0 o h).swp 80 4).swp 96 5
theorem KeepS.newB {k0:List Nat} {A:Fr} {m:XM} (bx:Nat) (o:Over) (hb:lkX m bx=some (.box [.c (eEnts o.base),.c (eMarkss o.layers),.c (eMarks o.upper),I 0,I 0,.nil,.own 4 3,.own 5 3,.nil,B false,I 0,.c (CS []),.c (CS []),.c (CS [])])) (h6:lkX m 6=none) (hne:bx≠6)
  {F2:Fr} {m2:XM} {z:Option Nat} (h:KeepX k0 z A ((6,.row [] 9 55)::updX (updX m bx (.box [.c (eEnts o.base),.c (eMarkss o.layers),.c (eMarks o.upper),I 0,I 0,.c (.row []),.own 4 3,.own 5 3,.nil,B false,I 0,.c (CS []),.c (CS []),.c (CS [])])) bx (.box [.c (eEnts o.base),.c (eMarkss o.layers),.c (eMarks o.upper),I 0,I 0,.c (.row []),.own 4 3,.own 5 3,.own 6 0,B false,I 0,.c (CS []),.c (CS []),.c (CS [])])) F2 m2):KeepX k0 (some 3) A m F2 m2:=by
 refine KeepS.trans (z:=some 3) (KeepS.nilC bx _ [.c (eEnts o.base),.c (eMarkss o.layers),.c (eMarks o.upper),I 0,I 0,.c (.row []),.own 4 3,.own 5 3,.nil,B false,I 0,.c (CS []),.c (CS []),.c (CS [])] hb ⟨nc0,nc0,nc0,nc0,nc0,nc1,nc0,nc0,nc0,nc0,nc0,nc0,nc0,nc0,trivial⟩) ?_
 have key:∀ {m:XM} {b b':XB},lkX m bx=some b→lkX (updX m bx b') bx=some b':=by
  intro m b b' hm
  induction m with
  | nil=>cases hm
  | cons p l ih =>
   obtain ⟨k,x⟩:=p
   rw [lkX] at hm
   rw [updX]
   cases hk:Nat.beq k bx with
   | true=>simp only [lkX]; rw [Nat.eq_of_beq_eq_true hk]; simp
   | false =>
    have hk':Nat.beq bx k=false:=by
     cases h':Nat.beq bx k with
     | false=>rfl
     | true=>rw [Nat.eq_of_beq_eq_true h'] at hk; simp at hk
    rw [hk'] at hm
    simp only [lkX,hk']
    exact ih hm
 have key2:∀ {m:XM} {b':XB},lkX m 6=none→lkX (updX m bx b') 6=none:=by
  intro m b' hm
  induction m with
  | nil=>rfl
  | cons p l ih =>
   obtain ⟨k,x⟩:=p
   rw [lkX] at hm
   rw [updX]
   cases hk6:Nat.beq 6 k with
   | true=>rw [hk6] at hm; cases hm
   | false =>
    rw [hk6] at hm
    cases hk:Nat.beq k bx with
    | true=>simp only [lkX,hk6]; exact hm
    | false=>simp only [lkX,hk6]; exact ih hm
 exact KeepS.trans (KeepS.nilS bx _ [.c (eEnts o.base),.c (eMarkss o.layers),.c (eMarks o.upper),I 0,I 0,.c (.row []),.own 4 3,.own 5 3,.own 6 0,B false,I 0,.c (CS []),.c (CS []),.c (CS [])] 6 9 55 (by omega) (key hb) (key2 h6) ⟨nr0,nr0,nr0,nr0,nr0,nr0,nr0,nr0,nr1,nr0,nr0,nr0,nr0,nr0,trivial⟩) h
def zaj:XC:=(.s (.r [.ex 2 (.box 0),.ex 4 (.alloc [.nil,.nil,.nil,(I 0),(I 0),.nil,.nil,.nil,.nil,(B false),(I 0),sE,sE,sE]),.ex 5 (.asn (.k .nil) 1 3)]) (.s (.r [.ex 10 .bsl0,.a1 6 10 1 3]) (.s (.s (.r [.l2 11 3 2,.c1 12 25 [11],.ex 13 (.un .not 12),.mv 14 13,.gf 15 (.mv 1) 14,.gf 16 (.len false 15) 14,.gf 17 (.bin .gtr 16 (.i 80)) 14,.ex 18 (.pick 14 .y 17)]) (.cnd 18 (.s (.r [.ex 19 (.build [.nil,.nil,.nil,(I 0),(I 0),.nil,.nil,.nil,.nil,(B false),(I 0),sE,sE,sE] []),.mv 20 6,.s1 14 4 19,.a1 5 20 1 3]) .ret) .skip)) (.s (.r [.l2 21 3 2,.o1 22 72 [21],.ex 7 (.alloc [.nil,.nil,.nil,(I 0),(I 0),.nil,.nil,.nil,.nil,(B false),(I 0),sE,sE,sE]),.s1 14 7 22]) (.s (.s (.r [.m1 8 (.i 0)]) (.blk 0 (.loop (.s (.s (.r [.mv 23 8,.mv 24 1,.n1 25 24,.b1 26 .lss 23 25]) (.cnd 26 .skip (.exit 0))) (.s (.blk 1 (.s (.r [.m1 9 (.i 0)]) (.s (.d [.l2 30 14 7,.mv 31 1,.mv 32 8,.i1 33 8 31 32,.l2 34 8 33,.o1 35 73 [30,34],.mv 29 35,.e1 36 29 0,.e1 37 29 1,.s1 14 7 36,.mv 9 37]) (.r [.mv 38 6,.mv 39 9,.ex 40 (.bsl 1 3 [39]),.ex 41 (.app false 1 8 3 38 40),.a1 6 41 1 3])))) (.r [.mv 27 8,.b1 28 .add 27 (.i 1),.mv 8 28])))))) (.s (.r [.l2 42 14 7,.o1 43 45 [42],.mv 44 6,.s1 14 4 43,.a1 5 44 1 3]) .ret))))))
theorem zak:compF Tryz.prog [72,73,45] 24=some (zaj.ac,[(.cell 4 true 14),(.t 5)],45):=by kernel_rfl
def ePlay (x:Wld × List Int):CV := .tup [eWld x.1,eInts x.2]
theorem Zj {o:Over} {evs:List Ev} (h:¬ (oOk o=true∧evs.length≤80)):wPlay o evs=(noW,[]):=by unfold wPlay; rw [if_neg h]
theorem Zk {o:Over} {evs:List Ev} (h:oOk o=true) (h2:evs.length≤80):wPlay o evs=playA (newW o) evs:=by unfold wPlay; rw [if_pos ⟨h,h2⟩]
theorem zlz {w:Wld}:playA w []=(w,[]):=by rw [playA]
theorem HZ.play {w:Wld}:∀ {l:List Ev} {w:Wld} {n:Nat},HZ n w→HZ (n+l.length) (playA w l).1
 | [],w,n,h=>by rw [playA]; exact h
 | e::l,w,n,h=>by
  rw [playA]
  have:=HZ.play (w:=w) (l:=l) (h.ev e)
  exact this.mono (by simp; omega)
theorem zgY (W0:World) (o:Over) (evs:List Ev):Fn Tryz.prog W0 24 [eOver o,eEvs evs] (.c (ePlay (wPlay o evs))) []:=by
 refine fnX (c:=zaj) mixed zak (by simp) rfl fun hg=>?_
 have g1:evs.length≤9223372036854775807:=goodRow (hg _ (by simp:eEvs evs∈_))
 refine dEr ?_
 repeat (refine c0 (jB W0 o) rfl ?_; first | refine dEr ?_ | exact dz)
 refine cP ?_ ?_<;>intro h1
 ·refine dr ?_
  repeat (refine oB (by simp) ?_; first | refine dr ?_ | exact dz)
  rw [Zj (fun hh=>by rw [hh.1] at h1; cases h1)]<;>rfl
 refine dr ?_
 refine cP ?_ ?_<;>intro h2
 ·refine dr ?_
  repeat (refine oB (by simp) ?_; first | refine dr ?_ | exact dz)
  rw [Zj (fun hh=>by omega)]<;>rfl
 have h2':evs.length≤80:=by omega
 rw [Zk h1 h2']
 have hs:=OS.ok h1
 have g0:WG (newW o):=WG.new h1
 refine dr ?_
 refine oW (zgW W0 o (hs.oz.mono (by omega))) rfl trivial rfl rfl ⟨(),trivial⟩ fun _ _=>⟨rfl,?_⟩
 refine dEr ?_
 refine lq3 (fun (k:Nat) (x:Wld) (cs:List Int)=>[(1,.c (eEvs evs)),(2,.ptr 32 0),(4,.ptr 64 0),(6,.own 96 cs.length),(7,.ptr 112 0),(8,I k)]) (fun _ x cs=>[(32,.box [.c (eEnts o.base),.c (eMarkss o.layers),.c (eMarks o.upper)]),(64,zWB),(96,.row (cs.map CI) 1 3),(112,.box (wCo 6 x))]++wMn 6 x)
  (fun k x cs=>k≤evs.length∧playA (newW o) (evs.take k)=(x,cs)∧WG x∧HZ k x∧cs.length=k) (fun k _ _=>evs.length - k) 0 (newW o) [] ⟨by omega,by rw [List.take_zero,zlz],g0,HZ.new,rfl⟩ ?_ ?_
 ·refine KeepS.newB 112 o rfl rfl (by decide) (z:=none) ?_
  refine dr ?_
  repeat (refine oB (by simp) ?_; first | refine dr ?_ | exact dz)
  trivial
 rintro k x cs ⟨hk,hp,hx,hz,hcl⟩
 refine dr ?_
 refine cP ?_ ?_<;>intro h3
 ·have hk':k < evs.length:=by omega
  have hn:=yw (w:=newW o) hk'
  rw [hp] at hn
  have hx':=hx.ev evs[k]
  have hz':=hz.ev evs[k]
  refine dr ?_
  refine oW (zgc W0 x evs[k] hx (hz.mono (by omega))) rfl ⟨rfl,rfl,rfl,trivial⟩ rfl rfl ⟨false,trivial⟩ fun b _=>?_
  generalize evW x evs[k]=r at *
  obtain ⟨x',c⟩:=r
  cases b with
  | true =>
   refine ⟨rfl,?_⟩
   refine dEr ?_
   repeat ((first | refine oB (by simp; omega) ?_ | refine oB (by simp) ?_); first | refine dEr ?_ | exact dz)
   refine ⟨k+1,x',cs++[c],⟨by omega,hn,hx',hz',by simp; omega⟩,by omega,?_⟩
   refine KeepS.ren 6 592 rfl rfl (z:=none) ?_
   refine dr ?_
   repeat ((first | refine oB xown1 ?_ | refine oB xrow1 ?_ | refine oB (by simp) ?_); first | refine dr ?_ | exact dz)
   trivial
  | false =>
   refine ⟨rfl,?_⟩
   refine dEr ?_
   repeat ((first | refine oB (by simp; omega) ?_ | refine oB (by simp) ?_); first | refine dEr ?_ | exact dz)
   refine ⟨k+1,x',cs++[c],⟨by omega,hn,hx',hz',by simp; omega⟩,by omega,?_⟩
   refine KeepX.s (z:=none) ?_
   refine dr ?_
   repeat ((first | refine oB xown1 ?_ | refine oB xrow1 ?_ | refine oB (by simp) ?_); first | refine dr ?_ | exact dz)
   trivial
 have hkl:k=evs.length:=by omega
 rw [hkl,List.take_length] at hp
 rw [hp]
 refine dr ?_
 refine oW (zgb W0 x (hx.wz (hz.mono (by omega)) (by omega))) rfl ⟨rfl,rfl,rfl,trivial⟩ rfl rfl ⟨(),trivial⟩ fun _ _=>⟨rfl,?_⟩
 refine dEr ?_
 repeat (refine oB (by simp) ?_; first | refine dEr ?_ | exact dz)
 rfl
def eWR (r:Option (Ent × Bool)):CV := .tup [eEnt (r.getD (noE,false)).1,CB (r.getD (noE,false)).2,CB r.isSome]
theorem zpa {w:Wld} {who:Int} {p:Str} (h:¬ (WG w∧isW who)):wRead w who p=none:=by unfold wRead; rw [if_neg h]
theorem zpc {w:Wld} {who:Int} {p:Str} (h:WG w) (h2:isW who):wRead w who p=((hdW w who).find? fun h=>h.path==p&&decide (w.clock < h.til)).map fun h=>(h.ent,h.has):=by unfold wRead; rw [if_pos ⟨h,h2⟩]
theorem zhe {α:Type} {q:α→Bool} {l:List α} {k:Nat} (h:k < l.length) (hn:∀ x∈l.take k,q x=false) (h1:q l[k]=true):l.find? q=some l[k]:=by
 have e:l.find? q=(l.take k++(l[k]::l.drop (k+1))).find? q:=by rw [← List.drop_eq_getElem_cons h,List.take_append_drop]
 have e2:(l.take k).find? q=none:=List.find?_eq_none.2 fun x hx=>by rw [hn x hx]; simp
 rw [e,List.find?_append,e2,List.find?_cons,h1]; rfl
theorem zhf {α:Type} {q:α→Bool} {l:List α} (hn:∀ x∈l,q x=false):l.find? q=none:=List.find?_eq_none.2 fun x hx=>by rw [hn x hx]; simp
theorem zkE {α:Type} {q:α→Bool} {l:List α} {k:Nat} (h:k < l.length) (hn:∀ x∈l.take k,q x=false) (h1:q l[k]=false):∀ x∈l.take (k+1),q x=false:=fun x hx=>by
 rw [List.take_succ_eq_append_getElem h] at hx
 rcases List.mem_append.1 hx with h' | h'
 ·exact hn x h'
 ·rw [List.mem_singleton.1 h']; exact h1
end Go.Proofs.YteheahbjaddooaaGreatDoor

namespace Go.Proofs
open Go.Shelf
def Tryz.lays156_ren:Go.Shelf.Ren:=⟨fun | 156=>195 | 165=>230 | 166=>231 | 169=>232 | 240=>247 | 241=>248 | 276=>263 | 277=>264 | n=>n,fun | 31=>119 | 9=>9 | 3=>3 | 4=>4 | 0=>0 | 20=>20 | 72=>217 | 76=>221 | 70=>215 | 37=>22 | 75=>220 | 127=>233 | 164=>245 | 5=>5 | 80=>223 | n=>n,fun | n=>n⟩
theorem Tryz.lays156:Go.Proofs.Lays.n156 Tryz.prog Tryz.lays156_ren:={
 mixed:=by kernel_rfl
 f156:=Tryz.func195.trans (congrArg some (by kernel_rfl))
 f165:=Tryz.func230.trans (congrArg some (by kernel_rfl))
 f166:=Tryz.func231.trans (congrArg some (by kernel_rfl))
 f169:=Tryz.func232.trans (congrArg some (by kernel_rfl))
 f240:=Tryz.func247.trans (congrArg some (by kernel_rfl))
 f241:=Tryz.func248.trans (congrArg some (by kernel_rfl))
 f276:=Tryz.func263.trans (congrArg some (by kernel_rfl))
 f277:=Tryz.func264.trans (congrArg some (by kernel_rfl))
 t0:=Tryz.underlying0
 a0:=Tryz.isAgg0
 z0:=Tryz.sizeOf0
 v0:=Tryz.zeroValue0
 t3:=Tryz.underlying3
 a3:=Tryz.isAgg3
 z3:=Tryz.sizeOf3
 v3:=Tryz.zeroValue3
 t4:=Tryz.underlying4
 a4:=Tryz.isAgg4
 z4:=Tryz.sizeOf4
 v4:=Tryz.zeroValue4
 t9:=Tryz.underlying9
 a9:=Tryz.isAgg9
 z9:=Tryz.sizeOf9
 v9:=Tryz.zeroValue9
 t20:=Tryz.underlying20
 a20:=Tryz.isAgg20
 z20:=Tryz.sizeOf20
 v20:=Tryz.zeroValue20
 t31:=Tryz.underlying119
 a31:=Tryz.isAgg119
 z31:=Tryz.sizeOf119
 v31:=Tryz.zeroValue119
 t37:=Tryz.underlying22
 a37:=Tryz.isAgg22
 z37:=Tryz.sizeOf22
 v37:=Tryz.zeroValue22
 t70:=Tryz.underlying215
 a70:=Tryz.isAgg215
 z70:=Tryz.sizeOf215
 v70:=Tryz.zeroValue215
 t72:=Tryz.underlying217
 a72:=Tryz.isAgg217
 z72:=Tryz.sizeOf217
 v72:=Tryz.zeroValue217
 t75:=Tryz.underlying220
 a75:=Tryz.isAgg220
 z75:=Tryz.sizeOf220
 v75:=Tryz.zeroValue220
 t76:=Tryz.underlying221
 a76:=Tryz.isAgg221
 z76:=Tryz.sizeOf221
 v76:=Tryz.zeroValue221
 t127:=Tryz.underlying233
 a127:=Tryz.isAgg233
 z127:=Tryz.sizeOf233
 v127:=Tryz.zeroValue233
 t164:=Tryz.underlying245
 a164:=Tryz.isAgg245
 z164:=Tryz.sizeOf245
 v164:=Tryz.zeroValue245 }
theorem Tryz.Builder_Extra_156:Builder.Extra Tryz.prog Tryz.lays156_ren:={
 sizeBuilder:=by kernel_rfl
 liesBuilder:=by kernel_rfl
 t5:=Tryz.underlying5
 a5:=Tryz.isAgg5
 z5:=Tryz.sizeOf5
 v5:=Tryz.zeroValue5
 infoByte:=by kernel_rfl
 cellsByte:=by kernel_rfl
 sizeByte:=by kernel_rfl
 neB5:=by decide }
open Go.RowKit in
theorem Tryz.strings_Join_none (a:Option Addr) (c:Nat) (sep:ByteArray) (w:World) :
  Calls Tryz.prog 195 #[.slice a 0 c,.string sep] w fun e w'=>e = .returned (.string ⟨#[]⟩)∧w'=w:=Any.strings_Join_none Tryz.lays156 Tryz.Builder_Extra_156 a c sep w
open Go.RowKit in
theorem Tryz.strings_Join (bk o c:Nat) (xs:List ByteArray) (sep:ByteArray) (w:World) (hcells:∀ (j:Nat) x,xs[j]? = some x→w.cell? ⟨bk,o+j,none⟩=some (.string x)) (hbk:bk < w.heap.size) (hN:xs.length≤140737488355328) (hcap:xs.length≤c) (hlen:(Lib.join (xs.map (·.data.toList)) sep.data.toList).length≤140737488355328) :
  Calls Tryz.prog 195 #[.slice (some ⟨bk,o,none⟩) xs.length c,.string sep] w fun e w'=>e = .returned (.string ⟨(Lib.join (xs.map (·.data.toList)) sep.data.toList).toArray⟩)∧Below w.heap.size w w':=Any.strings_Join Tryz.lays156 Tryz.Builder_Extra_156 bk o c xs sep w hcells hbk hN hcap hlen
def Tryz.lays146_ren:Go.Shelf.Ren:=⟨fun | 146=>182 | 221=>215 | 268=>238 | 138=>239 | 143=>240 | 195=>258 | 197=>259 | 218=>260 | 219=>261 | 260=>268 | 217=>269 | 225=>270 | 224=>271 | 267=>272 | 266=>274 | 314=>275 | n=>n,fun | 9=>9 | 31=>119 | 3=>3 | 4=>4 | 0=>0 | 105=>239 | 21=>21 | 5=>5 | 46=>186 | 119=>251 | 139=>254 | 138=>253 | 146=>255 | 51=>211 | n=>n,fun | 1=>0 | 3=>1 | 4=>2 | n=>n⟩
theorem Tryz.lays146:Go.Proofs.Lays.n146 Tryz.prog Tryz.lays146_ren:={
 mixed:=by kernel_rfl
 f138:=Tryz.func239.trans (congrArg some (by kernel_rfl))
 f143:=Tryz.func240.trans (congrArg some (by kernel_rfl))
 f146:=Tryz.func182.trans (congrArg some (by kernel_rfl))
 f195:=Tryz.func258.trans (congrArg some (by kernel_rfl))
 f197:=Tryz.func259.trans (congrArg some (by kernel_rfl))
 f217:=Tryz.func269.trans (congrArg some (by kernel_rfl))
 f218:=Tryz.func260.trans (congrArg some (by kernel_rfl))
 f219:=Tryz.func261.trans (congrArg some (by kernel_rfl))
 f221:=Tryz.func215.trans (congrArg some (by kernel_rfl))
 f224:=Tryz.func271.trans (congrArg some (by kernel_rfl))
 f225:=Tryz.func270.trans (congrArg some (by kernel_rfl))
 f260:=Tryz.func268.trans (congrArg some (by kernel_rfl))
 f266:=Tryz.func274.trans (congrArg some (by kernel_rfl))
 f267:=Tryz.func272.trans (congrArg some (by kernel_rfl))
 f268:=Tryz.func238.trans (congrArg some (by kernel_rfl))
 f314:=Tryz.func275.trans (congrArg some (by kernel_rfl))
 t0:=Tryz.underlying0
 a0:=Tryz.isAgg0
 z0:=Tryz.sizeOf0
 v0:=Tryz.zeroValue0
 t3:=Tryz.underlying3
 a3:=Tryz.isAgg3
 z3:=Tryz.sizeOf3
 v3:=Tryz.zeroValue3
 t4:=Tryz.underlying4
 a4:=Tryz.isAgg4
 z4:=Tryz.sizeOf4
 v4:=Tryz.zeroValue4
 t5:=Tryz.underlying5
 a5:=Tryz.isAgg5
 z5:=Tryz.sizeOf5
 v5:=Tryz.zeroValue5
 t9:=Tryz.underlying9
 a9:=Tryz.isAgg9
 z9:=Tryz.sizeOf9
 v9:=Tryz.zeroValue9
 t21:=Tryz.underlying21
 a21:=Tryz.isAgg21
 z21:=Tryz.sizeOf21
 v21:=Tryz.zeroValue21
 t31:=Tryz.underlying119
 a31:=Tryz.isAgg119
 z31:=Tryz.sizeOf119
 v31:=Tryz.zeroValue119
 t46:=Tryz.underlying186
 a46:=Tryz.isAgg186
 z46:=Tryz.sizeOf186
 v46:=Tryz.zeroValue186
 t51:=Tryz.underlying211
 a51:=Tryz.isAgg211
 z51:=Tryz.sizeOf211
 v51:=Tryz.zeroValue211
 t105:=Tryz.underlying239
 a105:=Tryz.isAgg239
 z105:=Tryz.sizeOf239
 v105:=Tryz.zeroValue239
 t119:=Tryz.underlying251
 a119:=Tryz.isAgg251
 z119:=Tryz.sizeOf251
 t138:=Tryz.underlying253
 a138:=Tryz.isAgg253
 z138:=Tryz.sizeOf253
 v138:=Tryz.zeroValue253
 t139:=Tryz.underlying254
 a139:=Tryz.isAgg254
 z139:=Tryz.sizeOf254
 v139:=Tryz.zeroValue254
 t146:=Tryz.underlying255
 a146:=Tryz.isAgg255
 z146:=Tryz.sizeOf255
 v146:=Tryz.zeroValue255
 g1:=by kernel_rfl
 g3:=by kernel_rfl
 g4:=by kernel_rfl }
open Go.RowKit Go.Lib in
theorem Tryz.strings_Split (s sep:ByteArray) (m:Int) (w:World) (hs:s.size < 4294967281) (hm:w.cell? ⟨0,0,none⟩=some (.int .i64 m)) (h1:1≤sep.size) :
  Calls Tryz.prog 182 #[.string s,.string sep] w fun e w' =>
   e = .returned (.slice (some ⟨w.heap.size,0,none⟩) (Lib.countB s sep+1) (Lib.countB s sep+1))∧w'=w.alloc (.cells ((Lib.splitB sep 0 (Lib.countB s sep) s).map Value.string).toArray 9):=Any.strings_Split Tryz.lays146 (by kernel_rfl) s sep m w hs hm h1
def Tryz.sortE_ren:Go.Shelf.Ren:=⟨fun | 6=>146 | 15=>190 | 14=>189 | 28=>226 | 29=>227 | 20=>218 | 21=>219 | 22=>220 | 23=>221 | 24=>222 | 25=>223 | 26=>224 | 27=>225 | 46=>241 | 47=>242 | 48=>243 | 49=>244 | 50=>245 | 57=>262 | n=>n,fun | 22=>23 | 24=>39 | 25=>155 | 3=>3 | 39=>186 | 0=>0 | 53=>211 | 55=>213 | 4=>4 | 46=>204 | 45=>203 | 50=>208 | 5=>5 | 9=>9 | 66=>227 | 70=>231 | 76=>242 | 77=>243 | n=>n,fun | n=>n⟩
theorem Tryz.sortE:Go.Proofs.SlLaysF0.n6 Tryz.prog Tryz.sortE_ren:={
 mixed:=by kernel_rfl
 f6:=⟨Tryz.f146.name,by decide,Tryz.func146.trans (congrArg some (by kernel_rfl))⟩
 f14:=⟨Tryz.f189.name,by decide,Tryz.func189.trans (congrArg some (by kernel_rfl))⟩
 f15:=Tryz.func190.trans (congrArg some (by kernel_rfl))
 f20:=⟨Tryz.f218.name,by decide,Tryz.func218.trans (congrArg some (by kernel_rfl))⟩
 f21:=⟨Tryz.f219.name,by decide,Tryz.func219.trans (congrArg some (by kernel_rfl))⟩
 f22:=⟨Tryz.f220.name,by decide,Tryz.func220.trans (congrArg some (by kernel_rfl))⟩
 f23:=⟨Tryz.f221.name,by decide,Tryz.func221.trans (congrArg some (by kernel_rfl))⟩
 f24:=⟨Tryz.f222.name,by decide,Tryz.func222.trans (congrArg some (by kernel_rfl))⟩
 f25:=⟨Tryz.f223.name,by decide,Tryz.func223.trans (congrArg some (by kernel_rfl))⟩
 f26:=⟨Tryz.f224.name,by decide,Tryz.func224.trans (congrArg some (by kernel_rfl))⟩
 f27:=⟨Tryz.f225.name,by decide,Tryz.func225.trans (congrArg some (by kernel_rfl))⟩
 f28:=Tryz.func226.trans (congrArg some (by kernel_rfl))
 f29:=Tryz.func227.trans (congrArg some (by kernel_rfl))
 f46:=⟨Tryz.f241.name,by decide,Tryz.func241.trans (congrArg some (by kernel_rfl))⟩
 f47:=Tryz.func242.trans (congrArg some (by kernel_rfl))
 f48:=Tryz.func243.trans (congrArg some (by kernel_rfl))
 f49:=⟨Tryz.f244.name,by decide,Tryz.func244.trans (congrArg some (by kernel_rfl))⟩
 f50:=⟨Tryz.f245.name,by decide,Tryz.func245.trans (congrArg some (by kernel_rfl))⟩
 f57:=⟨Tryz.f262.name,by decide,Tryz.func262.trans (congrArg some (by kernel_rfl))⟩
 t0:=Tryz.underlying0
 a0:=Tryz.isAgg0
 z0:=Tryz.sizeOf0
 v0:=Tryz.zeroValue0
 t3:=Tryz.underlying3
 a3:=Tryz.isAgg3
 z3:=Tryz.sizeOf3
 v3:=Tryz.zeroValue3
 t4:=Tryz.underlying4
 a4:=Tryz.isAgg4
 z4:=Tryz.sizeOf4
 v4:=Tryz.zeroValue4
 t5:=Tryz.underlying5
 a5:=Tryz.isAgg5
 z5:=Tryz.sizeOf5
 v5:=Tryz.zeroValue5
 t9:=Tryz.underlying9
 a9:=Tryz.isAgg9
 z9:=Tryz.sizeOf9
 v9:=Tryz.zeroValue9
 t22:=Tryz.underlying23
 a22:=Tryz.isAgg23
 z22:=Tryz.sizeOf23
 v22:=Tryz.zeroValue23
 t25:=Tryz.underlying155
 a25:=Tryz.isAgg155
 z25:=Tryz.sizeOf155
 v25:=Tryz.zeroValue155
 t39:=Tryz.underlying186
 a39:=Tryz.isAgg186
 z39:=Tryz.sizeOf186
 v39:=Tryz.zeroValue186
 t45:=Tryz.underlying203
 a45:=Tryz.isAgg203
 z45:=Tryz.sizeOf203
 v45:=Tryz.zeroValue203
 t46:=Tryz.underlying204
 a46:=Tryz.isAgg204
 z46:=Tryz.sizeOf204
 v46:=Tryz.zeroValue204
 t50:=Tryz.underlying208
 a50:=Tryz.isAgg208
 z50:=Tryz.sizeOf208
 v50:=Tryz.zeroValue208
 t53:=Tryz.underlying211
 a53:=Tryz.isAgg211
 z53:=Tryz.sizeOf211
 v53:=Tryz.zeroValue211
 t55:=Tryz.underlying213
 a55:=Tryz.isAgg213
 z55:=Tryz.sizeOf213
 v55:=Tryz.zeroValue213
 t66:=Tryz.underlying227
 a66:=Tryz.isAgg227
 z66:=Tryz.sizeOf227
 v66:=Tryz.zeroValue227
 t70:=Tryz.underlying231
 a70:=Tryz.isAgg231
 z70:=Tryz.sizeOf231
 v70:=Tryz.zeroValue231
 t76:=Tryz.underlying242
 a76:=Tryz.isAgg242
 z76:=Tryz.sizeOf242
 v76:=Tryz.zeroValue242
 t77:=Tryz.underlying243
 a77:=Tryz.isAgg243
 z77:=Tryz.sizeOf243
 v77:=Tryz.zeroValue243 }
def Tryz.sortM_ren:Go.Shelf.Ren:=⟨fun | 6=>196 | 15=>190 | 14=>233 | 28=>226 | 29=>227 | 20=>249 | 21=>250 | 22=>251 | 23=>252 | 24=>253 | 25=>254 | 26=>255 | 27=>256 | 46=>265 | 47=>242 | 48=>243 | 49=>266 | 50=>267 | 57=>273 | n=>n,fun | 22=>25 | 24=>133 | 25=>192 | 3=>3 | 39=>186 | 0=>0 | 53=>211 | 55=>213 | 4=>4 | 46=>204 | 45=>203 | 50=>208 | 5=>5 | 9=>9 | 66=>227 | 70=>231 | 76=>242 | 77=>243 | n=>n,fun | n=>n⟩
theorem Tryz.sortM:Go.Proofs.SlLaysF0.n6 Tryz.prog Tryz.sortM_ren:={
 mixed:=by kernel_rfl
 f6:=⟨Tryz.f196.name,by decide,Tryz.func196.trans (congrArg some (by kernel_rfl))⟩
 f14:=⟨Tryz.f233.name,by decide,Tryz.func233.trans (congrArg some (by kernel_rfl))⟩
 f15:=Tryz.func190.trans (congrArg some (by kernel_rfl))
 f20:=⟨Tryz.f249.name,by decide,Tryz.func249.trans (congrArg some (by kernel_rfl))⟩
 f21:=⟨Tryz.f250.name,by decide,Tryz.func250.trans (congrArg some (by kernel_rfl))⟩
 f22:=⟨Tryz.f251.name,by decide,Tryz.func251.trans (congrArg some (by kernel_rfl))⟩
 f23:=⟨Tryz.f252.name,by decide,Tryz.func252.trans (congrArg some (by kernel_rfl))⟩
 f24:=⟨Tryz.f253.name,by decide,Tryz.func253.trans (congrArg some (by kernel_rfl))⟩
 f25:=⟨Tryz.f254.name,by decide,Tryz.func254.trans (congrArg some (by kernel_rfl))⟩
 f26:=⟨Tryz.f255.name,by decide,Tryz.func255.trans (congrArg some (by kernel_rfl))⟩
 f27:=⟨Tryz.f256.name,by decide,Tryz.func256.trans (congrArg some (by kernel_rfl))⟩
 f28:=Tryz.func226.trans (congrArg some (by kernel_rfl))
 f29:=Tryz.func227.trans (congrArg some (by kernel_rfl))
 f46:=⟨Tryz.f265.name,by decide,Tryz.func265.trans (congrArg some (by kernel_rfl))⟩
 f47:=Tryz.func242.trans (congrArg some (by kernel_rfl))
 f48:=Tryz.func243.trans (congrArg some (by kernel_rfl))
 f49:=⟨Tryz.f266.name,by decide,Tryz.func266.trans (congrArg some (by kernel_rfl))⟩
 f50:=⟨Tryz.f267.name,by decide,Tryz.func267.trans (congrArg some (by kernel_rfl))⟩
 f57:=⟨Tryz.f273.name,by decide,Tryz.func273.trans (congrArg some (by kernel_rfl))⟩
 t0:=Tryz.underlying0
 a0:=Tryz.isAgg0
 z0:=Tryz.sizeOf0
 v0:=Tryz.zeroValue0
 t3:=Tryz.underlying3
 a3:=Tryz.isAgg3
 z3:=Tryz.sizeOf3
 v3:=Tryz.zeroValue3
 t4:=Tryz.underlying4
 a4:=Tryz.isAgg4
 z4:=Tryz.sizeOf4
 v4:=Tryz.zeroValue4
 t5:=Tryz.underlying5
 a5:=Tryz.isAgg5
 z5:=Tryz.sizeOf5
 v5:=Tryz.zeroValue5
 t9:=Tryz.underlying9
 a9:=Tryz.isAgg9
 z9:=Tryz.sizeOf9
 v9:=Tryz.zeroValue9
 t22:=Tryz.underlying25
 a22:=Tryz.isAgg25
 z22:=Tryz.sizeOf25
 v22:=Tryz.zeroValue25
 t25:=Tryz.underlying192
 a25:=Tryz.isAgg192
 z25:=Tryz.sizeOf192
 v25:=Tryz.zeroValue192
 t39:=Tryz.underlying186
 a39:=Tryz.isAgg186
 z39:=Tryz.sizeOf186
 v39:=Tryz.zeroValue186
 t45:=Tryz.underlying203
 a45:=Tryz.isAgg203
 z45:=Tryz.sizeOf203
 v45:=Tryz.zeroValue203
 t46:=Tryz.underlying204
 a46:=Tryz.isAgg204
 z46:=Tryz.sizeOf204
 v46:=Tryz.zeroValue204
 t50:=Tryz.underlying208
 a50:=Tryz.isAgg208
 z50:=Tryz.sizeOf208
 v50:=Tryz.zeroValue208
 t53:=Tryz.underlying211
 a53:=Tryz.isAgg211
 z53:=Tryz.sizeOf211
 v53:=Tryz.zeroValue211
 t55:=Tryz.underlying213
 a55:=Tryz.isAgg213
 z55:=Tryz.sizeOf213
 v55:=Tryz.zeroValue213
 t66:=Tryz.underlying227
 a66:=Tryz.isAgg227
 z66:=Tryz.sizeOf227
 v66:=Tryz.zeroValue227
 t70:=Tryz.underlying231
 a70:=Tryz.isAgg231
 z70:=Tryz.sizeOf231
 v70:=Tryz.zeroValue231
 t76:=Tryz.underlying242
 a76:=Tryz.isAgg242
 z76:=Tryz.sizeOf242
 v76:=Tryz.zeroValue242
 t77:=Tryz.underlying243
 a77:=Tryz.isAgg243
 z77:=Tryz.sizeOf243
 v77:=Tryz.zeroValue243 }
def Tryz.delLease_ren:Go.Shelf.Ren:=⟨fun | 45=>186 | n=>n,fun | 22=>28 | 23=>72 | 3=>3 | 4=>4 | 0=>0 | n=>n,fun | n=>n⟩
theorem Tryz.delLease:Go.Proofs.SlLaysE0.n45 Tryz.prog Tryz.delLease_ren:={
 mixed:=by kernel_rfl
 f45:=⟨Tryz.f186.name,by decide,Tryz.func186.trans (congrArg some (by kernel_rfl))⟩
 t0:=Tryz.underlying0
 a0:=Tryz.isAgg0
 z0:=Tryz.sizeOf0
 v0:=Tryz.zeroValue0
 t3:=Tryz.underlying3
 a3:=Tryz.isAgg3
 z3:=Tryz.sizeOf3
 v3:=Tryz.zeroValue3
 t4:=Tryz.underlying4
 a4:=Tryz.isAgg4
 z4:=Tryz.sizeOf4
 v4:=Tryz.zeroValue4
 t22:=Tryz.underlying28
 a22:=Tryz.isAgg28
 z22:=Tryz.sizeOf28
 v22:=Tryz.zeroValue28 }
def Tryz.delHold_ren:Go.Shelf.Ren:=⟨fun | 45=>187 | n=>n,fun | 22=>56 | 23=>53 | 3=>3 | 4=>4 | 0=>0 | n=>n,fun | n=>n⟩
theorem Tryz.delHold:Go.Proofs.SlLaysE0.n45 Tryz.prog Tryz.delHold_ren:={
 mixed:=by kernel_rfl
 f45:=⟨Tryz.f187.name,by decide,Tryz.func187.trans (congrArg some (by kernel_rfl))⟩
 t0:=Tryz.underlying0
 a0:=Tryz.isAgg0
 z0:=Tryz.sizeOf0
 v0:=Tryz.zeroValue0
 t3:=Tryz.underlying3
 a3:=Tryz.isAgg3
 z3:=Tryz.sizeOf3
 v3:=Tryz.zeroValue3
 t4:=Tryz.underlying4
 a4:=Tryz.isAgg4
 z4:=Tryz.sizeOf4
 v4:=Tryz.zeroValue4
 t22:=Tryz.underlying56
 a22:=Tryz.isAgg56
 z22:=Tryz.sizeOf56
 v22:=Tryz.zeroValue56 }
def Tryz.delMsg_ren:Go.Shelf.Ren:=⟨fun | 45=>133 | n=>n,fun | 22=>31 | 23=>55 | 3=>3 | 4=>4 | 0=>0 | n=>n,fun | n=>n⟩
theorem Tryz.delMsg:Go.Proofs.SlLaysE0.n45 Tryz.prog Tryz.delMsg_ren:={
 mixed:=by kernel_rfl
 f45:=⟨Tryz.f133.name,by decide,Tryz.func133.trans (congrArg some (by kernel_rfl))⟩
 t0:=Tryz.underlying0
 a0:=Tryz.isAgg0
 z0:=Tryz.sizeOf0
 v0:=Tryz.zeroValue0
 t3:=Tryz.underlying3
 a3:=Tryz.isAgg3
 z3:=Tryz.sizeOf3
 v3:=Tryz.zeroValue3
 t4:=Tryz.underlying4
 a4:=Tryz.isAgg4
 z4:=Tryz.sizeOf4
 v4:=Tryz.zeroValue4
 t22:=Tryz.underlying31
 a22:=Tryz.isAgg31
 z22:=Tryz.sizeOf31
 v22:=Tryz.zeroValue31 }
def Tryz.idxLease_ren:Go.Shelf.Ren:=⟨fun | 6=>161 | n=>n,fun | 22=>28 | 23=>72 | 25=>146 | 3=>3 | 0=>0 | 4=>4 | n=>n,fun | n=>n⟩
theorem Tryz.idxLease:Go.Proofs.SlLaysH0.n6 Tryz.prog Tryz.idxLease_ren:={
 mixed:=by kernel_rfl
 f6:=⟨Tryz.f161.name,by decide,Tryz.func161.trans (congrArg some (by kernel_rfl))⟩
 t0:=Tryz.underlying0
 a0:=Tryz.isAgg0
 z0:=Tryz.sizeOf0
 v0:=Tryz.zeroValue0
 t3:=Tryz.underlying3
 a3:=Tryz.isAgg3
 z3:=Tryz.sizeOf3
 v3:=Tryz.zeroValue3
 t4:=Tryz.underlying4
 a4:=Tryz.isAgg4
 z4:=Tryz.sizeOf4
 v4:=Tryz.zeroValue4
 t22:=Tryz.underlying28
 a22:=Tryz.isAgg28
 z22:=Tryz.sizeOf28
 v22:=Tryz.zeroValue28
 t25:=Tryz.underlying146
 a25:=Tryz.isAgg146
 z25:=Tryz.sizeOf146
 v25:=Tryz.zeroValue146 }
end Go.Proofs

namespace Go.Proofs.YteheahbjaddooaaGreatDoor
set_option linter.unusedSimpArgs false
set_option linter.unusedVariables false
open Go Go.RowKit
theorem zi6 {c:UInt8}:∀ {a:Str} (b:Str),c ∉ a→Lib.index (a++c::b) [c]=(a.length:Int)
 | [],b,_=>by simp [Lib.index]
 | x::a,b,h=>by
  simp only [List.mem_cons,not_or] at h
  have ih:=zi6 (a:=a) b h.2
  rw [List.cons_append,Lib.index,ih]
  have e:[c].isPrefixOf (x::(a++c::b))=false:=by simp [List.isPrefixOf,h.1]
  rw [e]
  simp
theorem znE {c:UInt8}:∀ (k:Nat) (s:Str),s.count c=k→Lib.splitK [c] 0 k s=cut c s
 | 0,s,h=>by rw [Lib.splitK,zdC (List.count_eq_zero.1 h)]
 | k+1,s,h=>by
  have hm:c∈s:=List.count_pos_iff.1 (by omega)
  obtain ⟨a,b,e,ha⟩:=List.eq_append_cons_of_mem hm
  subst e
  have hb:b.count c=k:=by
   rw [List.count_append,List.count_eq_zero.2 ha,List.count_cons_self] at h; omega
  rw [Lib.splitK,zi6 b ha,if_neg (by simp),zdy b ha]
  have e1:((a.length:Int).toNat+0)=a.length:=by simp
  have e2:((a.length:Int).toNat+[c].length)=a.length+1:=by simp
  rw [e1,e2,List.take_left,List.drop_append,List.drop_of_length_le (by omega)]
  have e3:a.length+1 - a.length=1:=by omega
  rw [e3]
  simp only [List.drop_succ_cons,List.drop_zero,List.nil_append]
  rw [znE k b hb]
theorem zdA (c:UInt8):∀ (s:Str),∀ n∈cut c s,n.length≤s.length
 | [],n,h=>by simp [cut] at h; simp [h]
 | b::t,n,h=>by
  have ih:=zdA c t
  unfold cut at h
  split at h
  ·rcases List.mem_cons.1 h with rfl | h
   ·simp
   ·have:=ih n h; simp; omega
  ·split at h
   ·simp at h; subst h; simp
   ·rename_i x r hc
    rw [hc] at ih
    rcases List.mem_cons.1 h with rfl | h
    ·have:=ih x (by simp); simp; omega
    ·have:=ih n (by simp [h]); simp; omega
def HM (W0:World):Prop:=∃ m,W0.cell? ⟨0,0,none⟩=some (.int .i64 m)
theorem zeK (W0:World) (hM:HM W0) (s:Str) (hs:s.length≤1000000):Fn Tryz.prog W0 182 [CS s,CS [47]] (.c (eStrs (cut 47 s))) []:=by
 intro κ w vs hB hm hr
 obtain ⟨v1,v2,hvs⟩:∃ v1 v2,vs.toList=[v1,v2]:=by
  have:=All2.length hr
  match h:vs.toList with
  | [a,b]=>exact ⟨a,b,rfl⟩
  | [] | [_] | _::_::_::_=>rw [h] at this; simp at this
 rw [hvs] at hr
 obtain ⟨r1,r2,_⟩:=hr
 cases r1 with | sc _=>?_
 cases r2 with | sc _=>?_
 have hv:vs=#[.string ⟨⟨s⟩⟩,.string ⟨⟨[47]⟩⟩]:=by rw [← hvs]
 subst hv
 obtain ⟨m,hc⟩:=hM
 have hc':w.cell? ⟨0,0,none⟩=some (.int .i64 m):=by
  rw [zm (hB.block 0 (zn hc))]; exact hc
 refine (Tryz.strings_Split ⟨⟨s⟩⟩ ⟨⟨[47]⟩⟩ m w (by show s.length < _; omega) hc' (by decide)).mono ?_
 rintro e w' ⟨rfl,rfl⟩
 have hcount:Lib.countB ⟨⟨s⟩⟩ ⟨⟨[47]⟩⟩=s.count 47:=Lib.count_one 47 s
 have hsp:(Lib.splitB ⟨⟨[47]⟩⟩ 0 (Lib.countB ⟨⟨s⟩⟩ ⟨⟨[47]⟩⟩) ⟨⟨s⟩⟩).map (·.data.toList)=cut 47 s:=by
  rw [Lib.splitB_data,hcount]; exact znE _ s rfl
 generalize hL:Lib.splitB ⟨⟨[47]⟩⟩ 0 (Lib.countB ⟨⟨s⟩⟩ ⟨⟨[47]⟩⟩) ⟨⟨s⟩⟩=L at hsp
 have hlen:L.length=Lib.countB ⟨⟨s⟩⟩ ⟨⟨[47]⟩⟩+1:=by rw [← hL]; exact Lib.splitB_all _ (by decide) 0 _ _ rfl
 have hn:L.length=(cut 47 s).length:=by rw [← hsp,List.length_map]
 have hle:s.count 47≤s.length:=List.count_le_length
 refine ⟨_,_,[],κ,rfl,⟨rfl,rfl⟩,hm.below (zk w _),?_⟩
 rw [← hlen,hn]
 have hrow:(eStrs (cut 47 s)) = .row ((cut 47 s).map CS):=rfl
 have hcells:((cut 47 s).map CS).flatMap CV.cells=(cut 47 s).map CS:=by
  generalize cut 47 s=l
  induction l with
  | nil=>rfl
  | cons a l ih=>rw [List.map_cons,List.flatMap_cons,ih]; rfl
 have key:RepC (w.alloc (.cells (L.map Value.string).toArray 9)) (Live κ []) (.row ((cut 47 s).map CS)) (.slice (some ⟨w.heap.size,0,none⟩) ((cut 47 s).map CS).length (cut 47 s).length):=by
  refine .row (sz:=1) (vs:=L.map Value.string) (by simp; exact zdB 47 s) (by omega) (by simp) (by rw [← hn,hlen,hcount]; unfold maxLen; omega) ?_ ?_ ?_ ?_ ?_ ?_
  ·intro h
   have:=hm.mem.live_lt h
   omega
  ·intro x hx
   obtain ⟨a,_,rfl⟩:=List.mem_map.1 hx
   rfl
  ·rw [hcells]; simp [hn]
  ·intro i x v hx hv
   rw [hcells,← hsp,List.map_map,List.getElem?_map] at hx
   rw [List.getElem?_map] at hv
   cases hi:L[i]? with
   | none=>rw [hi] at hx; cases hx
   | some y =>
    rw [hi] at hx hv
    cases hx; cases hv
    refine .sc ?_
    have hmem:y.data.toList∈cut 47 s:=by rw [← hsp]; exact List.mem_map_of_mem (List.mem_of_getElem? hi)
    have:=zdA 47 s _ hmem
    show y.size≤maxLen
    have e:y.size=y.data.toList.length:=by cases y; rfl
    rw [e]; unfold maxLen; omega
  ·intro v hv
   obtain ⟨a,_,rfl⟩:=List.mem_map.1 hv
   rfl
  ·intro j v hj
   rw [zo (qg w rfl _)]
   simpa using hj
 rw [List.length_map] at key
 exact key
theorem zmb {w:World} {S:Nat→Prop} {l:List Str} {v:Value} (h:RepC w S (eStrs l) v):(l=[]∧∃ o cap,v = .slice o 0 cap) ∨
  ∃ b off cap,v = .slice (some ⟨b,off,none⟩) l.length cap∧l.length≤cap∧l≠[]∧∀ (j:Nat) (x:Str),l[j]? = some x→w.cell? ⟨b,off+j,none⟩=some (.string ⟨⟨x⟩⟩):=by
 unfold eStrs at h
 generalize hL:l.map CS=L at h
 cases h with
 | nil _=>left; refine ⟨?_,_,_,rfl⟩; simpa using hL
 | @row L b off cap sz vs hne _ hcap _ _ hsz hlen hr _ hc =>
  right
  subst hL
  have hcells:(l.map CS).flatMap CV.cells=l.map CS:=by
   generalize l=l
   induction l with
   | nil=>rfl
   | cons a l ih=>rw [List.map_cons,List.flatMap_cons,ih]; rfl
  refine ⟨b,off,cap,by simp,by simpa using hcap,by simpa using hne,fun j x hx=>?_⟩
  rw [hcells] at hlen hr
  have hx':(l.map CS)[j]? = some (CS x):=by rw [List.getElem?_map,hx]; rfl
  have hj:j < vs.length:=by
   rw [← hlen,List.length_map]
   exact (List.getElem?_eq_some_iff.1 hx).1
  have hv:=hr j _ vs[j] hx' (List.getElem?_eq_getElem hj)
  have:vs[j] = .string ⟨⟨x⟩⟩:=by
   generalize vs[j]=v at hv
   cases hv; rfl
  rw [hc j _ (List.getElem?_eq_getElem hj),this]
def joinS (l:List Str):Str:=Lib.join l [47]
theorem zjd:∀ {l:List Str},l≠[]→jn l=47::joinS l
 | [],h=>absurd rfl h
 | x::r,_=>by
  unfold joinS
  rw [Lib.join_cons]
  have:Lib.joinTail [47] r=jn r:=by
   unfold Lib.joinTail jn
   rw [List.flatMap_def]; rfl
  rw [this]; rfl
theorem zje {l:List Str}:(joinS l).length≤(jn l).length:=by
 cases l with
 | nil=>simp [joinS,Lib.join_nil]
 | cons x r=>rw [zjd (by simp)]; simp
theorem zeH (W0:World) (l:List Str) (hl:(jn l).length≤1000000):Fn Tryz.prog W0 195 [eStrs l,CS [47]] (.c (CS (joinS l))) []:=by
 intro κ w vs hB hm hr
 obtain ⟨v1,v2,hvs⟩:∃ v1 v2,vs.toList=[v1,v2]:=by
  have:=All2.length hr
  match h:vs.toList with
  | [a,b]=>exact ⟨a,b,rfl⟩
  | [] | [_] | _::_::_::_=>rw [h] at this; simp at this
 rw [hvs] at hr
 obtain ⟨r1,r2,_⟩:=hr
 cases r2 with | sc _=>?_
 have hll:l.length≤(jn l).length:=by
  clear r1 hl hvs
  induction l with
  | nil=>simp
  | cons a l ih=>simp [jn] at ih ⊢; omega
 have fin:∀ r:Str,r.length≤1000000→Rep κ [] w (.c (CS r)) (.string ⟨⟨r⟩⟩):=fun r h=>RepC.sc (by show ByteArray.size _≤maxLen; unfold maxLen; show r.length≤_; omega)
 rcases zmb r1 with ⟨rfl,o,cap,rfl⟩ | ⟨b,off,cap,rfl,hcap,hne,hcells⟩
 ·have hv:vs=#[.slice o 0 cap,.string ⟨⟨[47]⟩⟩]:=by rw [← hvs]
  subst hv
  refine (Tryz.strings_Join_none o cap ⟨⟨[47]⟩⟩ w).mono ?_
  rintro e w' ⟨rfl,rfl⟩
  exact ⟨_,_,[],κ,rfl,⟨rfl,rfl⟩,hm,fin [] (by simp)⟩
 ·have hv:vs=#[.slice (some ⟨b,off,none⟩) l.length cap,.string ⟨⟨[47]⟩⟩]:=by rw [← hvs]
  subst hv
  have hbk:b < w.heap.size:=by
   cases l with
   | nil=>exact absurd rfl hne
   | cons x r=>exact zn (hcells 0 x rfl)
  have hmap:(l.map fun x=>(⟨⟨x⟩⟩:ByteArray)).map (·.data.toList)=l:=by rw [List.map_map]; exact List.map_id l
  have hj:(Lib.join ((l.map fun x=>(⟨⟨x⟩⟩:ByteArray)).map (·.data.toList)) (⟨⟨[47]⟩⟩:ByteArray).data.toList)=joinS l:=by rw [hmap]; rfl
  have hjl:=zje (l:=l)
  have h:=Tryz.strings_Join b off cap (l.map fun x=>⟨⟨x⟩⟩) ⟨⟨[47]⟩⟩ w (fun j x hx=>by
   rw [List.getElem?_map] at hx
   cases hi:l[j]? with
   | none=>rw [hi] at hx; cases hx
   | some y=>rw [hi] at hx; cases hx; exact hcells j y hi) hbk (by simp; omega) (by simpa using hcap) (by rw [hj]; omega)
  rw [hj,List.length_map] at h
  refine h.mono ?_
  rintro e w' ⟨rfl,hw⟩
  exact ⟨_,_,[],κ,rfl,⟨rfl,rfl⟩,hm.below hw,RepC.sc (by show ByteArray.size _≤maxLen; unfold maxLen; show (joinS l).length≤_; omega)⟩
end Go.Proofs.YteheahbjaddooaaGreatDoor

namespace Go.Proofs.YteheahbjaddooaaGreatDoor
set_option linter.unusedSimpArgs false
set_option linter.unusedVariables false
open Go Go.RowKit
def QZ:XC:=(.s (.r [.m1 2 .n]) (.s (.s (.r [.mv 4 0,.ex 5 (.len true 4),.b1 6 .lss 5 (.i 1),.mv 7 6,.gf 8 (.mv 0) 7,.gf 9 (.len true 8) 7,.gf 10 (.bin .gtr 9 (.i 3)) 7,.ex 11 (.pick 7 .y 10)]) (.cnd 11 (.s (.r [.m1 2 .n]) .ret) .skip)) (.s (.s (.r [.m1 3 (.i 0)]) (.blk 0 (.loop (.s (.s (.r [.mv 12 3,.mv 13 0,.ex 14 (.len true 13),.b1 15 .lss 12 14]) (.cnd 15 .skip (.exit 0))) (.s (.blk 1 (.s (.r [.mv 18 0,.mv 19 3,.ex 20 (.idx 18 19),.b1 21 .lss 20 (.u 97),.mv 22 21,.gf 23 (.mv 0) 22,.gf 24 (.mv 3) 22,.gf 25 (.idx 23 24) 22,.gf 26 (.bin .gtr 25 (.u 122)) 22,.ex 27 (.pick 22 .y 26)]) (.cnd 27 (.s (.r [.m1 2 .n]) .ret) .skip))) (.r [.mv 16 3,.b1 17 .add 16 (.i 1),.mv 3 17])))))) (.s (.r [.m1 2 .y]) .ret))))
theorem Q0:compF Tryz.prog [] 183=some (QZ.ac,[(.t 2)],28):=by kernel_rfl
theorem zgz (W0:World) (s:Str):Fn Tryz.prog W0 183 [CS s] (.c (CB (nameOk s))) []:=by
 refine fnX (c:=QZ) mixed Q0 (by simp) rfl fun hg=>?_
 refine dr ?_
 refine cP ?_ ?_<;>intro h1
 ·refine dr ?_
  exact bF (by rw [nameOk]; simp; omega)
 refine dr ?_
 refine cP ?_ ?_<;>intro h2
 ·refine dr ?_
  exact bF (by rw [nameOk]; simp; omega)
 refine dr ?_
 refine lp (σ:=Nat) (fun k=>[(0,.c (CS s)),(3,I k)]) (fun _=>[]) (fun k=>k≤s.length∧(s.take k).all lower=true) (fun k=>s.length - k) 0 ⟨by simp,by simp⟩ ?_ ?_
 ·refine dr ?_
  trivial
 rintro k ⟨hk,ha⟩
 refine dr ?_
 refine cP ?_ ?_<;>intro h3
 ·have hk':k < s.length:=by omega
  have no:lower s[k]=false→CB false=CB (nameOk s):=fun h=>bF (by rw [nameOk,zf hk' h]; rfl)
  refine dr ?_
  refine cP ?_ ?_<;>intro h4
  ·refine dr ?_
   exact no (by simp [lower]; omega)
  ·refine dr ?_
   refine cP ?_ ?_<;>intro h5
   ·refine dr ?_
    exact no (by simp [lower]; omega)
   ·refine dr ?_
    refine ⟨k+1,⟨by omega,y4 hk' ha (by simp [lower]; omega)⟩,by omega,?_⟩
    refine dr ?_
    trivial
 ·have:k=s.length:=by omega
  subst this
  rw [List.take_length] at ha
  refine dr ?_
  exact bT (by rw [nameOk,ha]; simp; omega)
def eNames (s:Str):CV:=if pOk s=true then .tup [eStrs (names s),CB true] else .tup [eStrs [],CB false]
def Q7:XC:=(.s (.r [.ex 2 (.asn (.k .nil) 1 9),.m1 3 .n]) (.s (.s (.r [.mv 7 0,.ex 8 (.bin .eql 7 (.s [])),.mv 9 8,.gf 10 (.mv 0) 9,.gf 11 (.idx 10 (.i 0)) 9,.gf 12 (.bin .neq 11 (.u 47)) 9,.ex 13 (.pick 9 .y 12),.mv 14 13,.gf 15 (.mv 0) 14,.gf 16 (.len true 15) 14,.gf 17 (.bin .gtr 16 (.i 12)) 14,.ex 18 (.pick 14 .y 17)]) (.cnd 18 (.s (.r [.ex 2 (.asn (.k .nil) 1 9),.m1 3 .n]) .ret) .skip)) (.s (.r [.mv 19 0,.ex 20 (.sls 19 (.some (.i 1)) .none),.ex 21 (.call 182 [20,(.s [47])]),.a1 4 21 1 9]) (.s (.s (.r [.mv 22 4,.n1 23 22,.b1 24 .gtr 23 (.i 3)]) (.cnd 24 (.s (.r [.ex 2 (.asn (.k .nil) 1 9),.m1 3 .n]) .ret) .skip)) (.s (.s (.r [.mv 25 4,.n1 26 25,.m1 27 (.i 0)]) (.blk 0 (.loop (.s (.r [.b1 28 .lss 27 26]) (.s (.cnd 28 .skip (.exit 0)) (.s (.blk 1 (.s (.r [.i1 29 1 25 27,.l1 30 1 29,.mv 6 30]) (.s (.r [.mv 31 6,.c1 32 183 [31],.ex 33 (.un .not 32)]) (.cnd 33 (.s (.r [.ex 2 (.asn (.k .nil) 1 9),.m1 3 .n]) .ret) .skip)))) (.r [.b1 34 .add 27 (.i 1),.mv 27 34]))))))) (.s (.r [.mv 35 4,.a1 2 35 1 9,.m1 3 .y]) .ret))))))
theorem Q8:compF Tryz.prog [] 127=some (Q7.ac,[(.t 2),(.t 3)],36):=by kernel_rfl
theorem zgE (W0:World) (hM:HM W0) (s:Str):Fn Tryz.prog W0 127 [CS s] (.c (eNames s)) []:=by
 refine fnX (c:=Q7) mixed Q8 (by simp) rfl fun hg=>?_
 have no:pOk s=false→CV.tup [eStrs [],CB false]=eNames s:=fun h=>by rw [eNames,if_neg (by simp [h])]
 refine dr ?_
 refine cP ?_ ?_<;>intro h1
 ·refine dr ?_
  exact no (by rw [h1]; rfl)
 cases hs:s with
 | nil=>exact absurd hs h1
 | cons b t =>
  rw [← hs]
  have hl:1≤s.length:=by rw [hs]; simp
  refine dr ?_
  refine cP ?_ ?_<;>intro h2
  ·refine dr ?_
   have:s.head? ≠ some 47:=by
    rw [hs]
    intro e
    have:b=47:=by simpa using e
    subst hs; subst this
    exact h2 rfl
   exact no (by
    cases hp:pOk s with
    | false=>rfl
    | true=>exact absurd (yq hp).2.2 this)
  have hb:b=47:=by
   have:(s[0]).toNat=47:=by omega
   subst hs
   exact UInt8.toNat_inj.1 this
  refine dr ?_
  refine cP ?_ ?_<;>intro h3
  ·refine dr ?_
   exact no (by
    cases hp:pOk s with
    | false=>rfl
    | true=>have:=(yq hp).2.1; omega)
  refine dr ?_
  repeat ((first | refine sLo 1 rfl (by omega) ?_ | refine c0 (zeK W0 hM _ (by simp; omega)) rfl ?_); first | refine dr ?_ | exact dz)
  intro hg1
  have hd:s.drop 1=t:=by rw [hs]; rfl
  rw [hd] at hg1 ⊢
  have hp:pOk s=((cut 47 t).all nameOk&&((cut 47 t).length≤3)):=by
   have hne:=zdB 47 t
   have h1c:1≤(cut 47 t).length:=by
    cases hc:cut 47 t with
    | nil=>exact absurd hc hne
    | cons _ _=>simp
   rw [pOk]
   by_cases h2:s.length < 2
   ·have ht:t=[]:=by
     rw [hs] at h2
     cases t with
     | nil=>rfl
     | cons _ _=>simp at h2; omega
    have:names s=[]:=by rw [names,if_pos (.inl h2)]
    rw [this,ht]; simp [cut,nameOk]
   ·have:names s=cut 47 t:=by
     rw [names,if_neg (by rw [hs] at h2 ⊢; simp at h2 ⊢; exact ⟨h2,hb⟩),hs]; rfl
    rw [this,Bool.eq_iff_iff]; simp [h1c,show s.length≤12 by omega]
  have hn:pOk s=true→names s=cut 47 t:=fun h=>by
   have h2:=(yq h)
   rw [names,if_neg (by simp [h2.2.2]; omega),hs]; rfl
  generalize cut 47 t=l at *
  refine dr ?_
  refine cP ?_ ?_<;>intro h4
  ·refine dr ?_
   exact no (by rw [hp]; simp; omega)
  refine dr ?_
  refine lp (σ:=Nat) (fun k=>[(4,.c (eStrs l)),(25,.c (eStrs l)),(26,I l.length),(27,I k)]) (fun _=>[]) (fun k=>k≤l.length∧(l.take k).all nameOk=true) (fun k=>l.length - k) 0 ⟨by simp,by simp⟩ ?_ ?_
  ·refine dr ?_
   trivial
  rintro k ⟨hk,ha⟩
  refine dr ?_
  refine cP ?_ ?_<;>intro h5
  ·have hk':k < l.length:=by omega
   refine dEr ?_
   repeat (refine c0 (zgz W0 _) rfl ?_; first | refine dEr ?_ | exact dz)
   refine cP ?_ ?_<;>intro h6
   ·refine dr ?_
    exact no (by rw [hp,zf hk' h6]; rfl)
   ·refine dr ?_
    refine ⟨k+1,⟨by omega,y4 hk' ha h6⟩,by omega,?_⟩
    refine dr ?_
    trivial
  ·have:k=l.length:=by omega
   subst this
   rw [List.take_length] at ha
   have hy:pOk s=true:=by rw [hp,ha]; simp; omega
   refine dr ?_
   rw [eNames,if_pos hy,hn hy]
def JV:XC:=(.s (.r [.m1 2 .n]) (.s (.r [.mv 6 0,.c1 7 127 [6],.mv 5 7,.e1 8 5 0,.e1 9 5 1,.a1 3 8 1 9,.mv 4 9]) (.s (.r [.mv 10 4,.mv 2 10]) .ret)))
theorem JW:compF Tryz.prog [] 79=some (JV.ac,[(.t 2)],11):=by kernel_rfl
theorem ji (W0:World) (hM:HM W0) (s:Str):Fn Tryz.prog W0 79 [CS s] (.c (CB (pOk s))) []:=by
 refine fnX (c:=JV) mixed JW (by simp) rfl fun hg=>?_
 have hc:=zgE W0 hM s
 unfold eNames at hc
 cases hp:pOk s with
 | true =>
  rw [if_pos hp] at hc
  refine dr ?_
  repeat (refine c0 hc rfl ?_; first | refine dr ?_ | exact dz)
  intro hg1
  exact dz
 | false =>
  rw [if_neg (by simp [hp])] at hc
  refine dr ?_
  repeat (refine c0 hc rfl ?_; first | refine dr ?_ | exact dz)
  intro hg1
  exact dz
def JZ:XC:=(.s (.r [.ex 2 (.mv (.s []))]) (.s (.r [.mv 6 0,.c1 7 127 [6],.mv 5 7,.e1 8 5 0,.e1 9 5 1,.a1 3 8 1 9,.mv 4 9]) (.s (.s (.r [.mv 10 4,.ex 11 (.un .not 10)]) (.cnd 11 (.s (.r [.ex 2 (.mv (.s []))]) .ret) .skip)) (.s (.r [.mv 12 3,.mv 13 3,.n1 14 13,.b1 15 .sub 14 (.i 1),.ex 16 (.slr 1 12 .none (.some 15)),.ex 17 (.call 195 [16,(.s [47])]),.ex 18 (.bin .add (.s [47]) 17),.mv 2 18]) .ret))))
theorem J0:compF Tryz.prog [] 159=some (JZ.ac,[(.t 2)],19):=by kernel_rfl
theorem jk (W0:World) (hM:HM W0) (s:Str):Fn Tryz.prog W0 159 [CS s] (.c (CS (pUp s))) []:=by
 refine fnX (c:=JZ) mixed J0 (by simp) rfl fun hg=>?_
 have hc:=zgE W0 hM s
 unfold eNames at hc
 cases hp:pOk s with
 | true =>
  rw [if_pos hp] at hc
  obtain ⟨⟨h1,h2⟩,h3,h4⟩:=yr hp
  have h12:=(yq hp).2.1
  have hj:(jn ((names s).take ((names s).length - 1))).length≤12:=by
   have:jn (names s)=jn ((names s).take ((names s).length - 1))++jn ((names s).drop ((names s).length - 1)):=by rw [← zi7,List.take_append_drop]
   have e:=congrArg List.length this
   rw [← h4,List.length_append] at e
   omega
  have hjl:=zje (l:=(names s).take ((names s).length - 1))
  refine dr ?_
  repeat (refine c0 hc rfl ?_; first | refine dr ?_ | exact dz)
  intro hg1
  refine dr ?_
  repeat ((first | refine sHiM ((names s).length - 1) (by omega) (by omega) ?_ | refine c0 (zeH W0 ((names s).take ((names s).length - 1)) (by omega)) rfl ?_ | refine oB (by simp; omega) ?_); first | refine dr ?_ | exact dz)
  intro hg2
  refine dr ?_
  rw [pUp,if_pos hp]
  have hdl:(names s).take ((names s).length - 1)=(names s).dropLast:=by rw [List.dropLast_eq_take]
  rw [hdl]
  by_cases hn:(names s).length=1
  ·have:(names s).dropLast=[]:=by
    rw [← List.length_eq_zero_iff,List.length_dropLast]; omega
   rw [if_pos hn,this]; rfl
  ·have:(names s).dropLast≠[]:=by
    intro e; have:=congrArg List.length e; rw [List.length_dropLast] at this; simp at this; omega
   rw [if_neg hn,zjd this]; rfl
 | false =>
  rw [if_neg (by simp [hp])] at hc
  refine dr ?_
  repeat (refine c0 hc rfl ?_; first | refine dr ?_ | exact dz)
  intro hg1
  refine dr ?_
  rw [pUp,if_neg (by simp [hp])]
def Yp:XC:=(.s (.r [.m1 4 .n]) (.s (.r [.mv 5 0,.ex 6 (.len true 5),.mv 7 1,.ex 8 (.len true 7),.b1 9 .geq 6 8,.mv 10 9,.gt 11 (.mv 0) 10,.gt 12 (.mv 1) 10,.gt 13 (.len true 12) 10,.gt 14 (.sls 11 .none (.some 13)) 10,.gt 15 (.mv 1) 10,.gt 16 (.bin .eql 14 15) 10,.ex 17 (.pick 10 16 .n),.mv 4 17]) .ret))
theorem Yq:compF Tryz.prog [] 217=some (Yp.ac,[(.t 4)],18):=by kernel_rfl
theorem zgJ (W0:World) (s p:Str):Fn Tryz.prog W0 217 [CS s,CS p] (.c (CB (p.isPrefixOf s))) []:=by
 refine fnX (c:=Yp) mixed Yq (by simp) rfl fun hg=>?_
 refine dr ?_
 refine cP ?_ ?_<;>intro h1
 ·refine dr ?_
  repeat (refine sHi p.length rfl (by omega) ?_; first | refine dr ?_ | exact dz)
  refine congrArg CB ?_
  rw [Bool.eq_iff_iff,List.isPrefixOf_iff_prefix,List.prefix_iff_eq_take]
  simp [zS]
  exact eq_comm
 ·refine dr ?_
  refine bF ?_
  rw [Bool.eq_false_iff]; intro h
  have:=(List.isPrefixOf_iff_prefix.1 h).length_le
  omega
def zct:XC:=(.s (.r [.m1 4 .n]) (.s (.r [.mv 5 0,.mv 6 1,.c1 7 217 [5,6],.mv 4 7]) .ret))
theorem zcu:compF Tryz.prog [] 188=some (zct.ac,[(.t 4)],8):=by kernel_rfl
theorem zeD (W0:World) (s p:Str):Fn Tryz.prog W0 188 [CS s,CS p] (.c (CB (p.isPrefixOf s))) []:=by
 refine fnX (c:=zct) mixed zcu (by simp) rfl fun hg=>?_
 refine dEr ?_
 repeat (refine c0 (zgJ W0 _ _) rfl ?_; first | refine dEr ?_ | exact dz)
def JX:XC:=(.s (.r [.m1 4 .n]) (.s (.s (.r [.mv 5 0,.c1 6 79 [5],.ex 7 (.un .not 6)]) (.cnd 7 (.s (.r [.m1 4 .n]) .ret) .skip)) (.s (.s (.r [.mv 8 1,.ex 9 (.bin .eql 8 (.s [47]))]) (.cnd 9 (.s (.r [.m1 4 .y]) .ret) .skip)) (.s (.r [.mv 10 1,.c1 11 79 [10],.mv 12 11,.gt 13 (.mv 0) 12,.gt 14 (.mv 1) 12,.gt 15 (.bin .add 14 (.s [47])) 12,.gt 16 (.call 188 [13,15]) 12,.ex 17 (.pick 12 16 .n),.mv 4 17]) .ret))))
theorem JY:compF Tryz.prog [] 145=some (JX.ac,[(.t 4)],18):=by kernel_rfl
def und2 (s d:Str):Bool:=pOk s&&(d==[47]||(pOk d&&(d++[47]).isPrefixOf s))
theorem Zb {s d:Str} (hs:pOk s=true) (hd:pOk d=true):und2 s d=und s d:=by
 unfold und2 und; rw [hs,hd]; simp
theorem jj (W0:World) (hM:HM W0) (s d:Str):Fn Tryz.prog W0 145 [CS s,CS d] (.c (CB (und2 s d))) []:=by
 refine fnX (c:=JX) mixed JY (by simp) rfl fun hg=>?_
 refine dEr ?_
 repeat (refine c0 (ji W0 hM s) rfl ?_; first | refine dEr ?_ | exact dz)
 refine cP ?_ ?_<;>intro h1
 ·refine dr ?_
  exact bF (by simp [und2,h1])
 refine dr ?_
 refine cP ?_ ?_<;>intro h2
 ·refine dr ?_
  exact bT (by simp [und2,h1,h2])
 refine dEr ?_
 repeat (refine c0 (ji W0 hM d) rfl ?_; first | refine dEr ?_ | exact dz)
 refine cP ?_ ?_<;>intro h3
 ·have hl:=(yq h3).2.1
  refine dEr ?_
  repeat ((first | refine c0 (zeD W0 _ _) rfl ?_ | refine oB (by simp; omega) ?_); first | refine dEr ?_ | exact dz)
  refine congrArg CB ?_
  rw [Bool.eq_iff_iff]; simp [und2,h1,h2,h3]
 ·refine dr ?_
  exact bF (by simp [und2,h2,h3])
def Qx:XC:=(.s (.r [.m1 2 .n]) (.s (.s (.r [.mv 6 0,.ex 7 (.len true 6),.b1 8 .gtr 7 (.i 6)]) (.cnd 8 (.s (.r [.m1 2 .n]) .ret) .skip)) (.s (.s (.r [.m1 3 (.i 0)]) (.blk 0 (.loop (.s (.s (.r [.mv 9 3,.mv 10 0,.ex 11 (.len true 10),.b1 12 .lss 9 11]) (.cnd 12 .skip (.exit 0))) (.s (.blk 1 (.s (.r [.mv 15 0,.mv 16 3,.ex 17 (.idx 15 16),.b1 18 .geq 17 (.u 97),.mv 19 18,.gt 20 (.mv 0) 19,.gt 21 (.mv 3) 19,.gt 22 (.idx 20 21) 19,.gt 23 (.bin .leq 22 (.u 122)) 19,.ex 24 (.pick 19 23 .n),.mv 4 24]) (.s (.r [.mv 25 0,.mv 26 3,.ex 27 (.idx 25 26),.b1 28 .geq 27 (.u 48),.mv 29 28,.gt 30 (.mv 0) 29,.gt 31 (.mv 3) 29,.gt 32 (.idx 30 31) 29,.gt 33 (.bin .leq 32 (.u 57)) 29,.ex 34 (.pick 29 33 .n),.mv 5 34]) (.s (.r [.mv 35 4,.ex 36 (.un .not 35),.mv 37 36,.gt 38 (.mv 5) 37,.gt 39 (.un .not 38) 37,.ex 40 (.pick 37 39 .n)]) (.cnd 40 (.s (.r [.m1 2 .n]) .ret) .skip))))) (.r [.mv 13 3,.b1 14 .add 13 (.i 1),.mv 3 14])))))) (.s (.r [.m1 2 .y]) .ret))))
theorem Qy:compF Tryz.prog [] 100=some (Qx.ac,[(.t 2)],41):=by kernel_rfl
theorem zeU (W0:World) (s:Str):Fn Tryz.prog W0 100 [CS s] (.c (CB (dataOk s))) []:=by
 refine fnX (c:=Qx) mixed Qy (by simp) rfl fun hg=>?_
 refine dr ?_
 refine cP ?_ ?_<;>intro h1
 ·refine dr ?_
  exact bF (by rw [dataOk]; simp; omega)
 refine dr ?_
 refine lp (σ:=Nat) (fun k=>[(0,.c (CS s)),(3,I k)]) (fun _=>[]) (fun k=>k≤s.length∧(s.take k).all alnum=true) (fun k=>s.length - k) 0 ⟨by simp,by simp⟩ ?_ ?_
 ·refine dr ?_
  trivial
 rintro k ⟨hk,ha⟩
 refine dr ?_
 refine cP ?_ ?_<;>intro h2
 ·have hk':k < s.length:=by omega
  have no:alnum s[k]=false→CB false=CB (dataOk s):=fun h=>bF (by rw [dataOk,zf hk' h]; rfl)
  have nx:alnum s[k]=true→∃ x',(x'≤s.length∧(s.take x').all alnum=true)∧x'=k+1:=fun h=>⟨k+1,⟨by omega,y4 hk' ha h⟩,rfl⟩
  refine dr ?_
  refine cP ?_ ?_<;>intro h3
  ·refine dr ?_
   refine cP ?_ ?_<;>intro h4
   ·refine dr ?_
    refine cP ?_ ?_<;>intro h5
    ·refine dr ?_
     refine cP ?_ ?_<;>intro h6
     ·refine dr ?_
      exact no (by simp [alnum,lower]; omega)
     ·omega
    ·refine dr ?_
     refine ⟨k+1,⟨by omega,y4 hk' ha (by simp [alnum,lower]; omega)⟩,by omega,?_⟩
     refine dr ?_
     trivial
   ·omega
  ·refine dr ?_
   refine cP ?_ ?_<;>intro h4
   ·refine dr ?_
    refine cP ?_ ?_<;>intro h6
    ·refine dr ?_
     exact no (by simp [alnum,lower]; omega)
    ·refine dr ?_
     refine ⟨k+1,⟨by omega,y4 hk' ha (by simp [alnum,lower]; omega)⟩,by omega,?_⟩
     refine dr ?_
     trivial
   ·refine dr ?_
    exact no (by simp [alnum,lower]; omega)
 ·have:k=s.length:=by omega
  subst this
  rw [List.take_length] at ha
  refine dr ?_
  exact bT (by rw [dataOk,ha]; simp; omega)
end Go.Proofs.YteheahbjaddooaaGreatDoor

namespace Go.Proofs.YteheahbjaddooaaGreatDoor
set_option linter.unusedSimpArgs false
set_option linter.unusedVariables false
open Go Go.RowKit
theorem cmpNaN (x:ByteArray) (W:World):Calls Tryz.prog 191 #[.string x] W fun e w'=>e = .returned (.bool false)∧w'=W:=by
 go_enter Tryz.func191,Tryz.ntmps191
 go_wp2
 go_ret
 exact ⟨rfl,rfl⟩
def cmpS (a b:Str):Int:=if ltS a b=true then -1 else if ltS b a=true then 1 else 0
theorem cmpCompare (x y:Str) (W:World):Calls Tryz.prog 148 #[.string ⟨⟨x⟩⟩,.string ⟨⟨y⟩⟩] W fun e w'=>e = .returned (.int .i64 (cmpS x y))∧w'=W:=by
 go_enter Tryz.func148,Tryz.ntmps148
 go_wp2_with (go_at_call 191; refine (cmpNaN _ _).mono ?_; rintro e w' ⟨rfl,rfl⟩)
 ·have h:Op.bytesLess x y=true:=by assumption
  go_ret
  refine ⟨?_,rfl⟩
  rw [cmpS,qK,if_pos h]; rfl
 ·have h:Op.bytesLess x y=false:=by assumption
  have h2:(!x==y)=true:=by assumption
  go_ret
  refine ⟨?_,rfl⟩
  have h3:ltS y x=true:=by
   rcases zj1 x y with e | e | e
   ·subst e; simp at h2
   ·rw [qK,h] at e; cases e
   ·exact e
  rw [cmpS,qK,if_neg (by simp [h]),if_pos h3]; rfl
 ·have h:Op.bytesLess x y=false:=by assumption
  have h2:(!x==y)=false:=by assumption
  go_ret
  refine ⟨?_,rfl⟩
  have e:x=y:=by simpa using h2
  subst e
  rw [cmpS,qM]; rfl
theorem zdo (a b:Str):decide (cmpS a b < 0)=ltS a b:=by
 unfold cmpS
 cases h:ltS a b with
 | true=>simp
 | false =>
  cases h2:ltS b a with
  | true=>simp
  | false=>simp
def vEnt (x:Ent):List Value:=[.string ⟨⟨x.path⟩⟩,(.bool x.dir),.string ⟨⟨x.data⟩⟩]
theorem zdl (x y:Ent) (W:World):Calls Tryz.prog 147 #[.agg #[.string ⟨⟨x.path⟩⟩,(.bool x.dir),.string ⟨⟨x.data⟩⟩],.agg #[.string ⟨⟨y.path⟩⟩,(.bool y.dir),.string ⟨⟨y.data⟩⟩]] W fun e w'=>e = .returned (.int .i64 (cmpS x.path y.path))∧∃ q os',w'=Sort.grow (W.drewN q) os':=by
 have hcon:=fun W'=>cmpCompare x.path y.path W'
 generalize cmpS x.path y.path=r at hcon ⊢
 go_enter Tryz.func147,Tryz.ntmps147
 go_wp2_with (go_at_call 148; refine (hcon _).mono ?_; rintro e w' ⟨rfl,rfl⟩)
 go_ret
 exact ⟨rfl,0,_,by rw [Sort.alloc_eq_grow,Sort.alloc_eq_grow,Sort.grow_grow]; rfl⟩
def vMark (x:Mark):List Value:=[.string ⟨⟨x.path⟩⟩,(.int .i64 x.kind),.string ⟨⟨x.data⟩⟩]
theorem zdm (x y:Mark) (W:World):Calls Tryz.prog 197 #[.agg #[.string ⟨⟨x.path⟩⟩,(.int .i64 x.kind),.string ⟨⟨x.data⟩⟩],.agg #[.string ⟨⟨y.path⟩⟩,(.int .i64 y.kind),.string ⟨⟨y.data⟩⟩]] W fun e w'=>e = .returned (.int .i64 (cmpS x.path y.path))∧∃ q os',w'=Sort.grow (W.drewN q) os':=by
 have hcon:=fun W'=>cmpCompare x.path y.path W'
 generalize cmpS x.path y.path=r at hcon ⊢
 go_enter Tryz.func197,Tryz.ntmps197
 go_wp2_with (go_at_call 148; refine (hcon _).mono ?_; rintro e w' ⟨rfl,rfl⟩)
 go_ret
 exact ⟨rfl,0,_,by rw [Sort.alloc_eq_grow,Sort.alloc_eq_grow,Sort.grow_grow]; rfl⟩
end Go.Proofs.YteheahbjaddooaaGreatDoor
