/- The texts Pb2, Pb3, Pb8, Pb9, Pb4, Bm2, Pb5, Pb6, Pb7, Db1, Pc1, Pd1, Qb2, Db2, Db3, Dc1, Pd2, Pd3, Qb3, Qb4, Pd4, joined; no condition. -/
import Derived.Test.YteheahbjaddooaaGreatDoorWfC

namespace Go.Proofs.YteheahbjaddooaaGreatDoor
set_option linter.unusedSimpArgs false
set_option linter.unusedVariables false
open Go Go.RowKit
def c_spec_l2Data:XC:=(.s (.r [.m1 2 .n]) (.s (.s (.r [.m1 3 (.i 0)]) (.blk 0 (.loop (.s (.s (.r [.mv 4 3,.mv 5 0,.ex 6 (.len true 5),.b1 7 .lss 4 6]) (.cnd 7 .skip (.exit 0))) (.s (.blk 1 (.s (.r [.mv 10 0,.mv 11 3,.ex 12 (.idx 10 11),.b1 13 .lss 12 (.u 97),.mv 14 13,.gf 15 (.mv 0) 14,.gf 16 (.mv 3) 14,.gf 17 (.idx 15 16) 14,.gf 18 (.bin .gtr 17 (.u 122)) 14,.ex 19 (.pick 14 .y 18),.mv 20 19,.gt 21 (.mv 0) 20,.gt 22 (.mv 3) 20,.gt 23 (.idx 21 22) 20,.gt 24 (.bin .lss 23 (.u 48)) 20,.gt 25 (.mv 24) 20,.gf 26 (.mv 0) 25,.gf 27 (.mv 3) 25,.gf 28 (.idx 26 27) 25,.gf 29 (.bin .gtr 28 (.u 57)) 25,.gt 30 (.pick 25 .y 29) 20,.ex 31 (.pick 20 30 .n)]) (.cnd 31 (.s (.r [.m1 2 .n]) .ret) .skip))) (.r [.mv 8 3,.b1 9 .add 8 (.i 1),.mv 3 9])))))) (.s (.r [.mv 32 0,.ex 33 (.len true 32),.b1 34 .leq 33 (.i 6),.mv 2 34]) .ret)))
theorem c_spec_l2Data_eq:compF Tryz.prog [] 177=some (c_spec_l2Data.ac,[(.t 2)],35):=by kernel_rfl
theorem f_l2Data (W0:World) (s:Str):Fn Tryz.prog W0 177 [CS s] (.c (CB (dataOk s))) []:=by
 refine fnX (c:=c_spec_l2Data) mixed c_spec_l2Data_eq (by simp) rfl fun hg=>?_
 have g1:=goodS (hg _ (by simp:CS s∈_))
 refine dr ?_
 refine lp (σ:=Nat) (fun k=>[(0,.c (CS s)),(3,I k)]) (fun _=>[]) (fun k=>k≤s.length∧(s.take k).all alnum=true) (fun k=>s.length - k) 0 ⟨by simp,by simp⟩ ?_ ?_
 ·refine dr ?_
  trivial
 rintro k ⟨hk,ha⟩
 refine dr ?_
 refine cP (fun h1=>?_) (fun h1=>?_)
 ·have hk':k < s.length:=by omega
  have no:alnum s[k]=false→CB false=CB (dataOk s):=fun h=>bF (by rw [dataOk,all_no hk' h]; rfl)
  have yes:alnum s[k]=true→∃ x',(x'≤s.length∧(s.take x').all alnum=true)∧x'=k+1:=fun h=>⟨k+1,⟨by omega,take_all hk' ha h⟩,rfl⟩
  refine dr ?_
  refine cP (fun h2=>?_) (fun h2=>?_)
  ·refine dr ?_
   refine cP (fun h3=>?_) (fun h3=>?_)
   ·refine dr ?_
    exact no (by simp [alnum,lower]; omega)
   ·refine dr ?_
    refine cP (fun h4=>?_) (fun h4=>?_)
    ·refine dr ?_
     exact no (by simp [alnum,lower]; omega)
    ·refine dr ?_
     refine ⟨k+1,⟨by omega,take_all hk' ha (by simp [alnum,lower]; omega)⟩,by omega,?_⟩
     refine dr ?_
     trivial
  ·refine dr ?_
   refine cP (fun h3=>?_) (fun h3=>?_)
   ·refine dr ?_
    refine cP (fun h4=>?_) (fun h4=>?_)
    ·refine dr ?_
     exact no (by simp [alnum,lower]; omega)
    ·refine dr ?_
     refine cP (fun h5=>?_) (fun h5=>?_)
     ·refine dr ?_
      exact no (by simp [alnum,lower]; omega)
     ·refine dr ?_
      refine ⟨k+1,⟨by omega,take_all hk' ha (by simp [alnum,lower]; omega)⟩,by omega,?_⟩
      refine dr ?_
      trivial
   ·refine dr ?_
    refine ⟨k+1,⟨by omega,take_all hk' ha (by simp [alnum,lower]; omega)⟩,by omega,?_⟩
    refine dr ?_
    trivial
 ·have:k=s.length:=by omega
  subst this
  rw [List.take_length] at ha
  refine dr ?_
  refine congrArg CB ?_
  rw [dataOk,ha,leI_d,Bool.eq_iff_iff]; simp; omega
def c_spec_l2Find:XC:=(.s (.r [.m1 4 (.i 0)]) (.s (.s (.r [.m1 5 (.i 0)]) (.blk 0 (.loop (.s (.s (.r [.mv 6 5,.mv 7 0,.ex 8 (.len false 7),.b1 9 .lss 6 8]) (.cnd 9 .skip (.exit 0))) (.s (.blk 1 (.s (.r [.mv 12 0,.mv 13 5,.ex 14 (.ia 3 12 13),.f1 15 0 14,.l1 16 1 15,.mv 17 1,.b1 18 .eql 16 17]) (.cnd 18 (.s (.r [.mv 19 5,.mv 4 19]) .ret) .skip))) (.r [.mv 10 5,.b1 11 .add 10 (.i 1),.mv 5 11])))))) (.s (.r [.ex 4 (.mv (.k (.c (.sc (.int .i64 (.negSucc 0))))))]) .ret)))
theorem c_spec_l2Find_eq:compF Tryz.prog [] 179=some (c_spec_l2Find.ac,[(.t 4)],20):=by kernel_rfl
theorem f_l2Find (W0:World) (t:List Ent) (p:Str):Fn Tryz.prog W0 179 [eEnts t,CS p] (.c (CI (idx t p))) []:=by
 refine fnX (c:=c_spec_l2Find) mixed c_spec_l2Find_eq (by simp) rfl fun hg=>?_
 have g1:=goodRow (hg _ (by simp:eEnts t∈_))
 refine dr ?_
 refine lp (σ:=Nat) (fun k=>[(0,.c (eEnts t)),(1,.c (CS p)),(5,I k)]) (fun _=>[]) (fun k=>k≤t.length∧∀ i (h':i < t.length),i < k→t[i].path≠p) (fun k=>t.length - k) 0 ⟨by simp,by simp⟩ ?_ ?_
 ·refine dr ?_
  trivial
 rintro k ⟨hk,ha⟩
 refine dr ?_
 refine cP (fun h1=>?_) (fun h1=>?_)
 ·refine dr ?_
  refine cP (fun h2=>?_) (fun h2=>?_)
  ·refine dr ?_
   rw [idx_of_first (by omega) h2 ha]
  ·refine dr ?_
   refine ⟨k+1,⟨by omega,fun i h' hi=>?_⟩,by omega,?_⟩
   ·by_cases e:i=k
    ·subst e; exact h2
    ·exact ha i h' (by omega)
   ·refine dr ?_
    trivial
 ·refine dr ?_
  rw [idx_of_none fun i h'=>ha i h' (by omega)]; rfl
def c_spec_l2Dir:XC:=(.s (.r [.m1 4 .n]) (.s (.s (.r [.mv 6 1,.ex 7 (.bin .eql 6 (.s [47]))]) (.cnd 7 (.s (.r [.m1 4 .y]) .ret) .skip)) (.s (.r [.mv 8 0,.mv 9 1,.c1 10 179 [8,9],.mv 5 10]) (.s (.r [.mv 11 5,.b1 12 .geq 11 (.i 0),.mv 13 12,.gt 14 (.mv 0) 13,.gt 15 (.mv 5) 13,.gt 16 (.ia 3 14 15) 13,.gt 17 (.fa 1 16) 13,.gt 18 (.ld false 1 17) 13,.ex 19 (.pick 13 18 .n),.mv 4 19]) .ret))))
theorem c_spec_l2Dir_eq:compF Tryz.prog [] 122=some (c_spec_l2Dir.ac,[(.t 4)],20):=by kernel_rfl
theorem f_l2Dir (W0:World) (t:List Ent) (p:Str):Fn Tryz.prog W0 122 [eEnts t,CS p] (.c (CB (isDir t p))) []:=by
 refine fnX (c:=c_spec_l2Dir) mixed c_spec_l2Dir_eq (by simp) rfl fun hg=>?_
 refine dr ?_
 refine cP (fun h1=>?_) (fun h1=>?_)
 ·refine dr ?_
  exact bT (by simp [isDir,get,h1,rootE])
 refine dr ?_
 repeat (refine c0 (f_l2Find W0 t p) rfl ?_; first | refine dr ?_ | exact dz)
 intro hg1
 have hd:isDir t p=match find t p with | some e=>e.dir | none=>false:=by unfold isDir get; rw [if_neg h1]; cases find t p<;>rfl
 rw [hd]
 rcases idx_cases t p with ⟨e1,e2,_⟩ | ⟨j,hj,e1,e2,_⟩
 ·rw [e1,e2]
  refine dr ?_
  refine cP (fun h2=>?_) (fun h2=>?_)
  ·omega
  ·exact dz
 ·rw [e1,e2]
  refine dr ?_
  refine cP (fun h2=>?_) (fun h2=>?_)
  ·exact dz
  ·omega
def c_spec_l2Get:XC:=(.s (.r [.ex 4 (.alloc [sE,(B false),sE]),.m1 5 .n]) (.s (.s (.r [.mv 7 1,.ex 8 (.bin .eql 7 (.s [47]))]) (.cnd 8 (.s (.r [.ex 9 (.build [sE,(B false),sE] [(0,(1,(.s [47]))),(1,(1,.y))]),.nu (.st 3 4 9),.m1 5 .y]) .ret) .skip)) (.s (.r [.mv 10 0,.mv 11 1,.c1 12 179 [10,11],.mv 6 12]) (.s (.s (.r [.mv 13 6,.b1 14 .lss 13 (.i 0)]) (.cnd 14 (.s (.r [.ex 15 (.build [sE,(B false),sE] []),.nu (.st 3 4 15),.m1 5 .n]) .ret) .skip)) (.s (.r [.mv 16 0,.mv 17 6,.ex 18 (.ia 3 16 17),.l2 19 3 18,.nu (.st 3 4 19),.m1 5 .y]) .ret)))))
theorem c_spec_l2Get_eq:compF Tryz.prog [] 121=some (c_spec_l2Get.ac,[(.cell 4 true 3),(.t 5)],20):=by kernel_rfl
theorem f_l2Get (W0:World) (t:List Ent) (p:Str):Fn Tryz.prog W0 121 [eEnts t,CS p] (.c (eEntO (get t p))) []:=by
 refine fnX (c:=c_spec_l2Get) mixed c_spec_l2Get_eq (by simp) rfl fun hg=>?_
 refine dr ?_
 refine cP (fun h1=>?_) (fun h1=>?_)
 ·refine dr ?_
  rw [get,if_pos h1]; rfl
 rw [get,if_neg h1]
 refine dr ?_
 repeat (refine c0 (f_l2Find W0 t p) rfl ?_; first | refine dr ?_ | exact dz)
 intro hg1
 rcases idx_cases t p with ⟨e1,e2,_⟩ | ⟨j,hj,e1,e2,_⟩
 ·rw [e1,e2]
  refine dr ?_
  refine cP (fun h2=>?_) (fun h2=>?_)
  ·refine dr ?_
   rfl
  ·omega
 ·rw [e1,e2]
  refine dr ?_
  refine cP (fun h2=>?_) (fun h2=>?_)
  ·omega
  ·refine dr ?_
   rfl
def c_spec_TreeOk:XC:=(.s (.r [.m1 2 .n]) (.s (.s (.r [.mv 5 0,.ex 6 (.len false 5),.b1 7 .gtr 6 (.i 16)]) (.cnd 7 (.s (.r [.m1 2 .n]) .ret) .skip)) (.s (.s (.r [.m1 3 (.i 0)]) (.blk 0 (.loop (.s (.s (.r [.mv 8 3,.mv 9 0,.ex 10 (.len false 9),.b1 11 .lss 8 10]) (.cnd 11 .skip (.exit 0))) (.s (.blk 1 (.s (.r [.mv 14 0,.mv 15 3,.ex 16 (.ia 3 14 15),.l2 17 3 16,.ex 4 (.alloc [sE,(B false),sE]),.nu (.st 3 4 17)]) (.s (.d [.f1 18 0 4,.l1 19 1 18,.c1 20 106 [19],.ex 21 (.un .not 20),.mv 22 21,.gf 23 (.fa 2 4) 22,.gf 24 (.ld false 1 23) 22,.gf 25 (.call 177 [24]) 22,.gf 26 (.un .not 25) 22,.ex 27 (.pick 22 .y 26),.mv 28 27,.gf 29 (.fa 1 4) 28,.gf 30 (.ld false 1 29) 28,.gf 31 (.mv 30) 28,.gt 32 (.fa 2 4) 31,.gt 33 (.ld false 1 32) 31,.gt 34 (.bin .neq 33 (.s [])) 31,.gf 35 (.pick 31 34 .n) 28,.ex 36 (.pick 28 .y 35),.mv 37 36,.gf 38 (.mv 3) 37,.gf 39 (.bin .gtr 38 (.i 0)) 37,.gf 40 (.mv 39) 37,.gt 41 (.mv 0) 40,.gt 42 (.mv 3) 40,.gt 43 (.bin .sub 42 (.i 1)) 40,.gt 44 (.ia 3 41 43) 40,.gt 45 (.fa 0 44) 40,.gt 46 (.ld false 1 45) 40,.gt 47 (.fa 0 4) 40,.gt 48 (.ld false 1 47) 40,.gt 49 (.bin .geq 46 48) 40,.gf 50 (.pick 40 49 .n) 37,.ex 51 (.pick 37 .y 50),.mv 52 51,.gf 53 (.mv 0) 52,.gf 54 (.mv 3) 52,.gf 55 (.slr 3 53 .none (.some 54)) 52,.gf 56 (.fa 0 4) 52,.gf 57 (.ld false 1 56) 52,.gf 58 (.call 123 [57]) 52,.gf 59 (.call 122 [55,58]) 52,.gf 60 (.un .not 59) 52,.ex 61 (.pick 52 .y 60)]) (.cnd 61 (.s (.r [.m1 2 .n]) .ret) .skip)))) (.r [.mv 12 3,.b1 13 .add 12 (.i 1),.mv 3 13])))))) (.s (.r [.m1 2 .y]) .ret))))
theorem c_spec_TreeOk_eq:compF Tryz.prog [] 119=some (c_spec_TreeOk.ac,[(.t 2)],62):=by kernel_rfl
theorem f_spec_TreeOk (W0:World) (t:List Ent):Fn Tryz.prog W0 119 [eEnts t] (.c (CB (tOk t))) []:=by
 refine fnX (c:=c_spec_TreeOk) mixed c_spec_TreeOk_eq (by simp) rfl fun hg=>?_
 have g1:=goodRow (hg _ (by simp:eEnts t∈_))
 refine dr ?_
 refine cP (fun h1=>?_) (fun h1=>?_)
 ·refine dr ?_
  exact bF (by rw [tOk,Bool.and_eq_false_iff]; left; simp; omega)
 have hT:tOk t=okA [] t:=by rw [tOk]; simp; omega
 rw [hT]
 refine dr ?_
 refine lp (σ:=Nat) (fun k=>[(0,.c (eEnts t)),(3,I k)]) (fun _=>[]) (fun k=>k≤t.length∧∀ j (h:j < t.length),j < k→ok1 (t.take j) t[j]=true) (fun k=>t.length - k) 0 ⟨by simp,by simp⟩ ?_ ?_
 ·refine dr ?_
  trivial
 rintro k ⟨hk,ha⟩
 refine dr ?_
 refine cP (fun h2=>?_) (fun h2=>?_)
 rotate_left
 ·refine dr ?_
  exact bT (okA0.2 fun j h=>ha j h (by omega))
 have hk':k < t.length:=by omega
 have no:ok1 (t.take k) t[k]=false→CB false=CB (okA [] t):=fun h=>bF (by
  rw [Bool.eq_false_iff]; intro e
  have:=okA0.1 e k hk'
  rw [h] at this; cases this)
 refine dr ?_
 repeat (refine c0 (f_spec_PathOk W0 _) rfl ?_; first | refine dr ?_ | exact dz)
 refine cP (fun h3=>?_) (fun h3=>?_)
 ·refine dr ?_
  exact no (by simp [ok1,h3])
 refine dr ?_
 repeat (refine c0 (f_l2Data W0 _) rfl ?_; first | refine dr ?_ | exact dz)
 refine cP (fun h4=>?_) (fun h4=>?_)
 ·refine dr ?_
  exact no (by simp [ok1,h4])
 refine dr ?_
 refine cP (fun h5=>?_) (fun h5=>?_)
 ·refine dr ?_
  refine cP (fun h6=>?_) (fun h6=>?_)
  ·refine dr ?_
   exact no (by simp [ok1,h5,h6])
  ·have h56:(!(t[k].dir&&t[k].data != []))=true:=by simp [h6]
   clear h5 h6
   refine dr ?_
   refine cP (fun h7=>?_) (fun h7=>?_)
   ·have hl:(t.take k).getLast? = some t[k - 1]:=by
     rw [List.getLast?_take,if_neg (by omega),List.getElem?_eq_getElem (by omega)]
     rfl
    refine dr ?_
    repeat (refine aM (j:=k - 1) (by omega) (by omega) ?_; first | refine dr ?_ | exact dz)
    cases h8:ltS t[k - 1].path t[k].path
    ·refine dr ?_
     exact no (by simp [ok1,hl,h8])
    ·refine dEr ?_
     repeat ((first | refine sHiM k rfl (by omega) ?_ | refine c0 (f_spec_PathUp W0 _) rfl ?_ | refine c0 (f_l2Dir W0 (t.take k) _) rfl ?_); first | refine dEr ?_ | exact dz)
     refine cP (fun h9=>?_) (fun h9=>?_)
     ·refine dr ?_
      exact no (by simp [ok1,h9])
     ·refine dr ?_
      refine ⟨k+1,⟨by omega,fun j h hj=>?_⟩,by omega,?_⟩
      ·by_cases e:j=k
       ·subst e; rw [ok1,h3,h4,h56,h9,hl]; simp [h8]
       ·exact ha j h (by omega)
      ·refine dr ?_
       trivial
   ·have hk0:k=0:=by omega
    subst hk0
    refine dEr ?_
    repeat ((first | refine sHiM 0 rfl (by omega) ?_ | refine c0 (f_spec_PathUp W0 _) rfl ?_ | refine c0 (f_l2Dir W0 (t.take 0) _) rfl ?_); first | refine dEr ?_ | exact dz)
    refine cP (fun h9=>?_) (fun h9=>?_)
    ·refine dr ?_
     exact no (by simp only [ok1,h9,Bool.and_false])
    ·refine dr ?_
     refine ⟨1,⟨by omega,fun j h hj=>?_⟩,by omega,?_⟩
     ·have e:j=0:=by omega
      subst e
      rw [ok1,h3,h4,h56,h9]; rfl
     ·refine dr ?_
      trivial
 ·have h56:(!(t[k].dir&&t[k].data != []))=true:=by simp [h5]
  clear h5
  refine dr ?_
  refine cP (fun h7=>?_) (fun h7=>?_)
  ·have hl:(t.take k).getLast? = some t[k - 1]:=by
    rw [List.getLast?_take,if_neg (by omega),List.getElem?_eq_getElem (by omega)]
    rfl
   refine dr ?_
   repeat (refine aM (j:=k - 1) (by omega) (by omega) ?_; first | refine dr ?_ | exact dz)
   cases h8:ltS t[k - 1].path t[k].path
   ·refine dr ?_
    exact no (by simp [ok1,hl,h8])
   ·refine dEr ?_
    repeat ((first | refine sHiM k rfl (by omega) ?_ | refine c0 (f_spec_PathUp W0 _) rfl ?_ | refine c0 (f_l2Dir W0 (t.take k) _) rfl ?_); first | refine dEr ?_ | exact dz)
    refine cP (fun h9=>?_) (fun h9=>?_)
    ·refine dr ?_
     exact no (by simp [ok1,h9])
    ·refine dr ?_
     refine ⟨k+1,⟨by omega,fun j h hj=>?_⟩,by omega,?_⟩
     ·by_cases e:j=k
      ·subst e; rw [ok1,h3,h4,h56,h9,hl]; simp [h8]
      ·exact ha j h (by omega)
     ·refine dr ?_
      trivial
  ·have hk0:k=0:=by omega
   subst hk0
   refine dEr ?_
   repeat ((first | refine sHiM 0 rfl (by omega) ?_ | refine c0 (f_spec_PathUp W0 _) rfl ?_ | refine c0 (f_l2Dir W0 (t.take 0) _) rfl ?_); first | refine dEr ?_ | exact dz)
   refine cP (fun h9=>?_) (fun h9=>?_)
   ·refine dr ?_
    exact no (by simp only [ok1,h9,Bool.and_false])
   ·refine dr ?_
    refine ⟨1,⟨by omega,fun j h hj=>?_⟩,by omega,?_⟩
    ·have e:j=0:=by omega
     subst e
     rw [ok1,h3,h4,h56,h9]; rfl
    ·refine dr ?_
     trivial
end Go.Proofs.YteheahbjaddooaaGreatDoor

namespace Go.Proofs.YteheahbjaddooaaGreatDoor
set_option linter.unusedSimpArgs false
set_option linter.unusedVariables false
open Go Go.RowKit
def c_spec_l2Put:XC:=(.s (.r [.ex 3 (.box 1),.ex 4 (.asn (.k .nil) 3 39)]) (.s (.r [.ex 7 .bsl0,.ex 5 (.asn 7 3 39)]) (.s (.r [.m1 6 (.i 0)]) (.s (.blk 0 (.loop (.s (.s (.d [.mv 8 6,.mv 9 0,.ex 10 (.len false 9),.b1 11 .lss 8 10,.mv 12 11,.gt 13 (.mv 0) 12,.gt 14 (.mv 6) 12,.gt 15 (.ia 3 13 14) 12,.gt 16 (.fa 0 15) 12,.gt 17 (.ld false 1 16) 12,.gt 18 (.fa 0 3) 12,.gt 19 (.ld false 1 18) 12,.gt 20 (.bin .lss 17 19) 12,.ex 21 (.pick 12 20 .n)]) (.cnd 21 .skip (.exit 0))) (.blk 1 (.s (.r [.mv 22 5,.mv 23 0,.mv 24 6,.ex 25 (.ia 3 23 24),.l2 26 3 25,.ex 27 (.bsl 3 39 [26]),.ex 28 (.app false 3 40 39 22 27),.ex 5 (.asn 28 3 39)]) (.r [.mv 29 6,.b1 30 .add 29 (.i 1),.mv 6 30])))))) (.s (.r [.mv 31 5,.l2 32 3 3,.ex 33 (.bsl 3 39 [32]),.ex 34 (.app false 3 40 39 31 33),.ex 5 (.asn 34 3 39)]) (.s (.s (.d [.mv 35 6,.mv 36 0,.ex 37 (.len false 36),.b1 38 .lss 35 37,.mv 39 38,.gt 40 (.mv 0) 39,.gt 41 (.mv 6) 39,.gt 42 (.ia 3 40 41) 39,.gt 43 (.fa 0 42) 39,.gt 44 (.ld false 1 43) 39,.gt 45 (.fa 0 3) 39,.gt 46 (.ld false 1 45) 39,.gt 47 (.bin .eql 44 46) 39,.ex 48 (.pick 39 47 .n)]) (.cnd 48 (.r [.mv 49 6,.b1 50 .add 49 (.i 1),.mv 6 50]) .skip)) (.s (.r [.mv 51 5,.mv 52 0,.mv 53 6,.ex 54 (.slr 3 52 (.some 53) .none),.ex 55 (.app false 3 40 39 51 54),.ex 4 (.asn 55 3 39)]) .ret)))))))
theorem c_spec_l2Put_eq:compF Tryz.prog [] 178=some (c_spec_l2Put.ac,[(.t 4)],56):=by kernel_rfl
theorem f_l2Put (W0:World) (t:List Ent) (e:Ent) (ht:t.length≤1000000):Fn Tryz.prog W0 178 [eEnts t,eEnt e] (.c (eEnts (put t e))) []:=by
 refine fnX (c:=c_spec_l2Put) mixed c_spec_l2Put_eq (by simp) rfl fun hg=>?_
 refine dr ?_
 refine lp (σ:=Nat) (fun k=>[(0,.c (eEnts t)),(3,.ptr 48 0),(5,.own 80 k),(6,I k)]) (fun k=>[(48,.box [.c (CS e.path),(.c (CB e.dir)),.c (CS e.data)]),(80,.row ((t.take k).map eEnt) 3 39)]) (fun k=>k≤t.length∧(t.take k).all (fun x=>ltS x.path e.path)=true) (fun k=>t.length - k) 0 ⟨by simp,by simp⟩ ?_ ?_
 ·refine dr ?_
  trivial
 rintro k ⟨hk,ha⟩
 refine dr ?_
 refine cP (fun h1=>?_) (fun h1=>?_)
 ·have hk':k < t.length:=by omega
  refine dr ?_
  refine cP (fun h2=>?_) (fun h2=>?_)
  ·refine dr ?_
   repeat ((first | refine oB (by simp; omega) ?_ | refine oB (by simp) ?_); first | refine dr ?_ | exact dz)
   refine ⟨k+1,⟨by omega,take_all hk' ha h2⟩,by omega,?_⟩
   refine dr ?_
   repeat ((first | refine oB (by simp; omega) ?_ | refine oB (tmn hk') ?_); first | refine dr ?_ | exact dz)
   trivial
  ·refine dr ?_
   repeat ((first | refine oB (by simp; omega) ?_ | refine oB (by simp) ?_); first | refine dr ?_ | exact dz)
   refine cP (fun h3=>?_) (fun h3=>?_)
   rotate_left
   ·omega
   refine dr ?_
   refine cP (fun h4=>?_) (fun h4=>?_)
   ·refine dr ?_
    repeat ((first | refine sLoM (k+1) (by omega) (by omega) ?_ | refine oB (by simp; omega) ?_ | refine oB (by simp) ?_); first | refine dr ?_ | exact dz)
    show _=eEnts (putG _ t e)
    rw [put_at hk' ha h2 h4]; simp [eEnts]; rfl
   ·refine dr ?_
    repeat ((first | refine sLoM k (by omega) (by omega) ?_ | refine oB (by simp; omega) ?_ | refine oB (by simp) ?_); first | refine dr ?_ | exact dz)
    show _=eEnts (putG _ t e)
    rw [put_in hk' ha h2 h4]; simp [eEnts]; rfl
 ·refine dr ?_
  repeat ((first | refine oB (by simp; omega) ?_ | refine oB (by simp) ?_); first | refine dr ?_ | exact dz)
  refine cP (fun h3=>?_) (fun h3=>?_)
  ·omega
  refine dr ?_
  repeat ((first | refine sLoM k (by omega) (by omega) ?_ | refine oB (by simp; omega) ?_ | refine oB (by simp) ?_); first | refine dr ?_ | exact dz)
  show _=eEnts (putG _ t e)
  rw [put_end (by omega) ha]
  have:k=t.length:=by omega
  simp [eEnts,this]; rfl
def c_spec_l3Put:XC:=(.s (.r [.ex 3 (.box 1),.ex 4 (.asn (.k .nil) 3 133)]) (.s (.r [.ex 7 .bsl0,.ex 5 (.asn 7 3 133)]) (.s (.r [.m1 6 (.i 0)]) (.s (.blk 0 (.loop (.s (.s (.d [.mv 8 6,.mv 9 0,.ex 10 (.len false 9),.b1 11 .lss 8 10,.mv 12 11,.gt 13 (.mv 0) 12,.gt 14 (.mv 6) 12,.gt 15 (.ia 3 13 14) 12,.gt 16 (.fa 0 15) 12,.gt 17 (.ld false 1 16) 12,.gt 18 (.fa 0 3) 12,.gt 19 (.ld false 1 18) 12,.gt 20 (.bin .lss 17 19) 12,.ex 21 (.pick 12 20 .n)]) (.cnd 21 .skip (.exit 0))) (.blk 1 (.s (.r [.mv 22 5,.mv 23 0,.mv 24 6,.ex 25 (.ia 3 23 24),.l2 26 3 25,.ex 27 (.bsl 3 133 [26]),.ex 28 (.app false 3 40 133 22 27),.ex 5 (.asn 28 3 133)]) (.r [.mv 29 6,.b1 30 .add 29 (.i 1),.mv 6 30])))))) (.s (.r [.mv 31 5,.l2 32 3 3,.ex 33 (.bsl 3 133 [32]),.ex 34 (.app false 3 40 133 31 33),.ex 5 (.asn 34 3 133)]) (.s (.s (.d [.mv 35 6,.mv 36 0,.ex 37 (.len false 36),.b1 38 .lss 35 37,.mv 39 38,.gt 40 (.mv 0) 39,.gt 41 (.mv 6) 39,.gt 42 (.ia 3 40 41) 39,.gt 43 (.fa 0 42) 39,.gt 44 (.ld false 1 43) 39,.gt 45 (.fa 0 3) 39,.gt 46 (.ld false 1 45) 39,.gt 47 (.bin .eql 44 46) 39,.ex 48 (.pick 39 47 .n)]) (.cnd 48 (.r [.mv 49 6,.b1 50 .add 49 (.i 1),.mv 6 50]) .skip)) (.s (.r [.mv 51 5,.mv 52 0,.mv 53 6,.ex 54 (.slr 3 52 (.some 53) .none),.ex 55 (.app false 3 40 133 51 54),.ex 4 (.asn 55 3 133)]) .ret)))))))
theorem c_spec_l3Put_eq:compF Tryz.prog [] 125=some (c_spec_l3Put.ac,[(.t 4)],56):=by kernel_rfl
theorem f_l3Put (W0:World) (t:List Mark) (e:Mark) (ht:t.length≤1000000):Fn Tryz.prog W0 125 [eMarks t,eMark e] (.c (eMarks (lput t e))) []:=by
 refine fnX (c:=c_spec_l3Put) mixed c_spec_l3Put_eq (by simp) rfl fun hg=>?_
 refine dr ?_
 refine lp (σ:=Nat) (fun k=>[(0,.c (eMarks t)),(3,.ptr 48 0),(5,.own 80 k),(6,I k)]) (fun k=>[(48,.box [.c (CS e.path),(I e.kind),.c (CS e.data)]),(80,.row ((t.take k).map eMark) 3 133)]) (fun k=>k≤t.length∧(t.take k).all (fun x=>ltS x.path e.path)=true) (fun k=>t.length - k) 0 ⟨by simp,by simp⟩ ?_ ?_
 ·refine dr ?_
  trivial
 rintro k ⟨hk,ha⟩
 refine dr ?_
 refine cP (fun h1=>?_) (fun h1=>?_)
 ·have hk':k < t.length:=by omega
  refine dr ?_
  refine cP (fun h2=>?_) (fun h2=>?_)
  ·refine dr ?_
   repeat ((first | refine oB (by simp; omega) ?_ | refine oB (by simp) ?_); first | refine dr ?_ | exact dz)
   refine ⟨k+1,⟨by omega,take_all hk' ha h2⟩,by omega,?_⟩
   refine dr ?_
   repeat ((first | refine oB (by simp; omega) ?_ | refine oB (tmn hk') ?_); first | refine dr ?_ | exact dz)
   trivial
  ·refine dr ?_
   repeat ((first | refine oB (by simp; omega) ?_ | refine oB (by simp) ?_); first | refine dr ?_ | exact dz)
   refine cP (fun h3=>?_) (fun h3=>?_)
   rotate_left
   ·omega
   refine dr ?_
   refine cP (fun h4=>?_) (fun h4=>?_)
   ·refine dr ?_
    repeat ((first | refine sLoM (k+1) (by omega) (by omega) ?_ | refine oB (by simp; omega) ?_ | refine oB (by simp) ?_); first | refine dr ?_ | exact dz)
    show _=eMarks (putG _ t e)
    rw [put_at hk' ha h2 h4]; simp [eMarks]; rfl
   ·refine dr ?_
    repeat ((first | refine sLoM k (by omega) (by omega) ?_ | refine oB (by simp; omega) ?_ | refine oB (by simp) ?_); first | refine dr ?_ | exact dz)
    show _=eMarks (putG _ t e)
    rw [put_in hk' ha h2 h4]; simp [eMarks]; rfl
 ·refine dr ?_
  repeat ((first | refine oB (by simp; omega) ?_ | refine oB (by simp) ?_); first | refine dr ?_ | exact dz)
  refine cP (fun h3=>?_) (fun h3=>?_)
  ·omega
  refine dr ?_
  repeat ((first | refine sLoM k (by omega) (by omega) ?_ | refine oB (by simp; omega) ?_ | refine oB (by simp) ?_); first | refine dr ?_ | exact dz)
  show _=eMarks (putG _ t e)
  rw [put_end (by omega) ha]
  have:k=t.length:=by omega
  simp [eMarks,this]; rfl
def c_spec_l2Turned:XC:=(.s (.r [.ex 4 (.asn (.k .nil) 1 9)]) (.s (.r [.mv 13 0,.ex 5 (.asn 13 3 39)]) (.s (.s (.r [.m1 6 (.i 0)]) (.blk 0 (.loop (.s (.s (.r [.mv 14 6,.mv 15 1,.ex 16 (.len false 15),.b1 17 .lss 14 16]) (.cnd 17 .skip (.exit 0))) (.s (.blk 1 (.r [.mv 20 5,.mv 21 1,.mv 22 6,.ex 23 (.ia 3 21 22),.l2 24 3 23,.c1 25 178 [20,24],.ex 5 (.asn 25 3 39)])) (.r [.mv 18 6,.b1 19 .add 18 (.i 1),.mv 6 19])))))) (.s (.r [.ex 26 .bsl0,.ex 7 (.asn 26 1 9)]) (.s (.s (.r [.m1 8 (.i 0)]) (.blk 2 (.loop (.s (.s (.r [.mv 27 8,.mv 28 5,.ex 29 (.len false 28),.b1 30 .lss 27 29]) (.cnd 30 .skip (.exit 2))) (.s (.blk 3 (.s (.r [.mv 34 0,.mv 35 5,.mv 36 8,.ex 37 (.ia 3 35 36),.f1 38 0 37,.l1 39 1 38,.c1 40 121 [34,39],.mv 33 40,.ex 41 (.ext 33 0),.ex 42 (.ext 33 1),.ex 9 (.alloc [sE,(B false),sE]),.nu (.st 3 9 41),.mv 10 42]) (.s (.r [.mv 44 1,.mv 45 5,.mv 46 8,.ex 47 (.ia 3 45 46),.f1 48 0 47,.l1 49 1 48,.c1 50 121 [44,49],.mv 43 50,.ex 51 (.ext 43 0),.ex 52 (.ext 43 1),.ex 11 (.alloc [sE,(B false),sE]),.nu (.st 3 11 51),.mv 12 52]) (.s (.r [.mv 53 10,.mv 54 12,.ex 55 (.bb true 53 54),.mv 56 55,.gf 57 (.ld true 3 9) 56,.gf 58 (.ld true 3 11) 56,.gf 59 (.beq true [.s,.b,.s] 57 58) 56,.ex 60 (.pick 56 .y 59)]) (.cnd 60 (.r [.mv 61 7,.mv 62 5,.mv 63 8,.ex 64 (.ia 3 62 63),.f1 65 0 64,.l1 66 1 65,.ex 67 (.bsl 1 9 [66]),.ex 68 (.app false 1 16 9 61 67),.ex 7 (.asn 68 1 9)]) .skip))))) (.r [.mv 31 8,.b1 32 .add 31 (.i 1),.mv 8 32])))))) (.s (.r [.mv 69 7,.ex 4 (.asn 69 1 9)]) .ret))))))
theorem c_spec_l2Turned_eq:compF Tryz.prog [] 120=some (c_spec_l2Turned.ac,[(.t 4)],70):=by kernel_rfl
theorem f_l2Turned (W0:World) (a b:List Ent) (ht:a.length+b.length≤1000000):Fn Tryz.prog W0 120 [eEnts a,eEnts b] (.c (eStrs (turned a b))) []:=by
 refine fnX (c:=c_spec_l2Turned) mixed c_spec_l2Turned_eq (by simp) rfl fun hg=>?_
 refine dr ?_
 refine lp (σ:=Nat) (fun k=>[(0,.c (eEnts a)),(1,.c (eEnts b)),(5,.c (eEnts ((b.take k).foldl put a))),(6,I k)]) (fun _=>[]) (fun k=>k≤b.length) (fun k=>b.length - k) 0 (by simp) ?_ ?_
 ·refine dr ?_
  trivial
 intro k hk
 have hlk:((b.take k).foldl put a).length≤a.length+b.length:=fold_put_take b a k
 refine dr ?_
 refine cP (fun h1=>?_) (fun h1=>?_)
 ·have hk':k < b.length:=by omega
  refine dr ?_
  repeat (refine c0 (f_l2Put W0 _ _ (by omega)) rfl ?_; first | refine dr ?_ | exact dz)
  intro hg1
  refine dr ?_
  refine ⟨k+1,by omega,by omega,?_⟩
  refine dr ?_
  repeat (refine oB (by rw [fold_next hk']) ?_; first | refine dr ?_ | exact dz)
  trivial
 have hkl:k=b.length:=by omega
 subst hkl
 rw [List.take_length] at hlk ⊢
 have hB:b.foldl put a=both a b:=rfl
 rw [hB] at hlk ⊢
 generalize hBB:both a b=B at *
 refine dr ?_
 refine lp (σ:=Nat) (fun k=>[(0,.c (eEnts a)),(1,.c (eEnts b)),(5,.c (eEnts B)),(8,I k),(7,.own 112 ((B.take k).filter (tudP a b)).length)]) (fun k=>[(112,.row (((B.take k).filter (tudP a b)).map fun e=>CS e.path) 1 9)]) (fun k=>k≤B.length) (fun k=>B.length - k) 0 (by simp) ?_ ?_
 ·refine dr ?_
  trivial
 intro k hk
 have hfl:=filt_le (q:=tudP a b) (l:=B) (k:=k)
 refine dr ?_
 refine cP (fun h2=>?_) (fun h2=>?_)
 ·have hk':k < B.length:=by omega
  refine dr ?_
  repeat ((first | refine c0 (f_l2Get W0 _ _) rfl ?_ | rw [eEntO_eq]); first | refine dr ?_ | exact dz)
  intro hg1
  refine dr ?_
  repeat ((first | refine c0 (f_l2Get W0 _ _) rfl ?_ | rw [eEntO_eq]); first | refine dr ?_ | exact dz)
  intro hg1
  refine dr ?_
  have hq:tudP a b B[k]=!(decide ((get a B[k].path).isSome=(get b B[k].path).isSome)&&decide ((get a B[k].path).getD noE=(get b B[k].path).getD noE)):=by
   rw [tudP,Bool.eq_iff_iff]; simp [some_ne (d:=noE)]
  refine cP (fun h3=>?_) (fun h3=>?_)
  ·refine dr ?_
   repeat ((first | refine oB (by simp; omega) ?_ | refine oB (by simp) ?_); first | refine dr ?_ | exact dz)
   have hT:tudP a b B[k]=true:=by rw [hq]; simp [h3]
   refine ⟨k+1,by omega,by omega,?_⟩
   refine dr ?_
   repeat (refine oB (by rw [filt_t hk' hT]; simp) ?_; first | refine dr ?_ | exact dz)
   trivial
  ·refine dr ?_
   refine cP (fun h4=>?_) (fun h4=>?_)
   ·refine dr ?_
    repeat ((first | refine oB (by simp; omega) ?_ | refine oB (by simp) ?_); first | refine dr ?_ | exact dz)
    have hT:tudP a b B[k]=true:=by rw [hq,← bqEnt,h4]; simp
    refine ⟨k+1,by omega,by omega,?_⟩
    refine dr ?_
    repeat (refine oB (by rw [filt_t hk' hT]; simp) ?_; first | refine dr ?_ | exact dz)
    trivial
   ·refine dr ?_
    have hT:tudP a b B[k]=false:=by rw [hq,← bqEnt,h4]; simp [h3]
    refine ⟨k+1,by omega,by omega,?_⟩
    refine dr ?_
    repeat (refine oB (by rw [filt_f hk' hT]) ?_; first | refine dr ?_ | exact dz)
    trivial
 have hkl:k=B.length:=by omega
 refine dr ?_
 repeat (refine oB (by simp) ?_; first | refine dr ?_ | exact dz)
 rw [turned,hBB,hkl,List.take_length]
 simp [eStrs]
end Go.Proofs.YteheahbjaddooaaGreatDoor

namespace Go.Proofs.YteheahbjaddooaaGreatDoor
set_option linter.unusedSimpArgs false
set_option linter.unusedVariables false
open Go Go.RowKit
def c_spec_OpOk:XC:=(.s (.r [.ex 1 (.box 0),.m1 2 .n]) (.s (.s (.r [.f1 3 0 1,.l1 4 1 3,.b1 5 .lss 4 (.i 1),.mv 6 5,.gf 7 (.fa 0 1) 6,.gf 8 (.ld false 1 7) 6,.gf 9 (.bin .gtr 8 (.i 5)) 6,.ex 10 (.pick 6 .y 9),.mv 11 10,.gf 12 (.fa 1 1) 11,.gf 13 (.ld false 1 12) 11,.gf 14 (.call 106 [13]) 11,.gf 15 (.un .not 14) 11,.ex 16 (.pick 11 .y 15)]) (.cnd 16 (.s (.r [.m1 2 .n]) .ret) .skip)) (.s (.s (.r [.f1 17 0 1,.l1 18 1 17,.b1 19 .eql 18 (.i 5)]) (.cnd 19 (.s (.r [.f1 20 2 1,.l1 21 1 20,.c1 22 106 [21],.mv 23 22,.gt 24 (.fa 3 1) 23,.gt 25 (.ld false 1 24) 23,.gt 26 (.bin .eql 25 (.s [])) 23,.ex 27 (.pick 23 26 .n),.mv 2 27]) .ret) .skip)) (.s (.r [.f1 28 2 1,.l1 29 1 28,.ex 30 (.bin .eql 29 (.s [])),.mv 31 30,.gt 32 (.fa 3 1) 31,.gt 33 (.ld false 1 32) 31,.gt 34 (.call 177 [33]) 31,.ex 35 (.pick 31 34 .n),.mv 36 35,.gt 37 (.fa 0 1) 36,.gt 38 (.ld false 1 37) 36,.gt 39 (.bin .eql 38 (.i 2)) 36,.gt 40 (.mv 39) 36,.gf 41 (.fa 3 1) 40,.gf 42 (.ld false 1 41) 40,.gf 43 (.bin .eql 42 (.s [])) 40,.gt 44 (.pick 40 .y 43) 36,.ex 45 (.pick 36 44 .n),.mv 2 45]) .ret))))
theorem c_spec_OpOk_eq:compF Tryz.prog [] 165=some (c_spec_OpOk.ac,[(.t 2)],46):=by kernel_rfl
theorem f_spec_OpOk (W0:World) (op:Op):Fn Tryz.prog W0 165 [eOp op] (.c (CB (opOkB op))) []:=by
 refine fnX (c:=c_spec_OpOk) mixed c_spec_OpOk_eq (by simp) rfl fun hg=>?_
 refine dr ?_
 refine cP (fun h1=>?_) (fun h1=>?_)
 ·refine dr ?_
  exact bF (by simp [opOkB]; omega)
 refine dr ?_
 refine cP (fun h2=>?_) (fun h2=>?_)
 ·refine dr ?_
  exact bF (by simp [opOkB]; omega)
 refine dr ?_
 repeat (refine c0 (f_spec_PathOk W0 _) rfl ?_; first | refine dr ?_ | exact dz)
 refine cP (fun h3=>?_) (fun h3=>?_)
 ·refine dr ?_
  exact bF (by simp [opOkB,h3])
 have hk:(decide (1≤op.kind)&&decide (op.kind≤5))=true:=by simp; omega
 refine dr ?_
 refine cP (fun h4=>?_) (fun h4=>?_)
 ·refine dEr ?_
  repeat (refine c0 (f_spec_PathOk W0 _) rfl ?_; first | refine dEr ?_ | exact dz)
  have e:opOkB op=(pOk op.dest&&op.data==[]):=by rw [opOkB,hk,h3,if_pos h4]<;>rfl
  rw [e]
  refine cP (fun h5=>?_) (fun h5=>?_)
  ·refine dr ?_
   refine congrArg CB ?_
   rw [Bool.eq_iff_iff]; simp [h5,eqS_d]
  ·refine dr ?_
   exact bF (by simp [h5])
 have e:opOkB op=(op.dest==[]&&(dataOk op.data&&(op.kind==2||op.data==[]))):=by rw [opOkB,hk,h3,if_neg h4]<;>rfl
 rw [e]
 refine dr ?_
 refine cP (fun h5=>?_) (fun h5=>?_)
 ·refine dEr ?_
  repeat (refine c0 (f_l2Data W0 _) rfl ?_; first | refine dEr ?_ | exact dz)
  refine cP (fun h6=>?_) (fun h6=>?_)
  ·refine dr ?_
   refine cP (fun h7=>?_) (fun h7=>?_)
   ·refine dr ?_
    exact bT (by simp [h5,h6,h7])
   ·refine dr ?_
    refine congrArg CB ?_
    rw [Bool.eq_iff_iff]; simp [h5,h6,h7,eqS_d]
  ·refine dr ?_
   exact bF (by simp [h6])
 ·refine dr ?_
  exact bF (by simp [h5])
def c_spec_l2Kids:XC:=(.s (.r [.ex 4 (.asn (.k .nil) 1 9)]) (.s (.r [.ex 7 .bsl0,.ex 5 (.asn 7 1 9)]) (.s (.s (.r [.m1 6 (.i 0)]) (.blk 0 (.loop (.s (.s (.r [.mv 8 6,.mv 9 0,.ex 10 (.len false 9),.b1 11 .lss 8 10]) (.cnd 11 .skip (.exit 0))) (.s (.blk 1 (.s (.r [.mv 14 0,.mv 15 6,.ex 16 (.ia 3 14 15),.f1 17 0 16,.l1 18 1 17,.c1 19 123 [18],.mv 20 1,.b1 21 .eql 19 20]) (.cnd 21 (.r [.mv 22 5,.mv 23 0,.mv 24 6,.ex 25 (.ia 3 23 24),.f1 26 0 25,.l1 27 1 26,.c1 28 257 [27],.ex 29 (.bsl 1 9 [28]),.ex 30 (.app false 1 16 9 22 29),.ex 5 (.asn 30 1 9)]) .skip))) (.r [.mv 12 6,.b1 13 .add 12 (.i 1),.mv 6 13])))))) (.s (.r [.mv 31 5,.ex 4 (.asn 31 1 9)]) .ret))))
theorem c_spec_l2Kids_eq:compF Tryz.prog [] 237=some (c_spec_l2Kids.ac,[(.t 4)],32):=by kernel_rfl
theorem f_l2Kids (W0:World) (t:List Ent) (p:Str) (ht:t.length≤1000000):Fn Tryz.prog W0 237 [eEnts t,CS p] (.c (eStrs (kids t p))) []:=by
 refine fnX (c:=c_spec_l2Kids) mixed c_spec_l2Kids_eq (by simp) rfl fun hg=>?_
 refine dr ?_
 refine lp2 (fun (k:Nat) (out:List Ent)=>[(0,.c (eEnts t)),(1,.c (CS p)),(5,.own 80 out.length),(6,I k)]) (fun _ out=>[(80,.row (out.map fun e=>CS (pName e.path)) 1 9)]) (fun k out=>k≤t.length∧out=(t.take k).filter (fun e=>pUp e.path==p)∧out.length≤k) (fun k _=>t.length - k) 0 [] ⟨by simp,rfl,by simp⟩ ?_ ?_
 ·refine dr ?_
  trivial
 rintro k out ⟨hk,ho,hle⟩
 refine dr ?_
 refine cP (fun h1=>?_) (fun h1=>?_)
 ·have hk':k < t.length:=by omega
  refine dEr ?_
  repeat (refine c0 (f_spec_PathUp W0 _) rfl ?_; first | refine dEr ?_ | exact dz)
  refine cP (fun h2=>?_) (fun h2=>?_)
  ·refine dEr ?_
   repeat ((first | refine c0 (f_spec_PathName W0 _) rfl ?_ | refine oB (by simp; omega) ?_ | refine oB (by simp) ?_); first | refine dEr ?_ | exact dz)
   refine ⟨k+1,out++[t[k]],⟨by omega,by rw [filt_t hk' (by simp [h2]),ho],by simp; omega⟩,by omega,?_⟩
   refine dr ?_
   repeat (refine oB (by simp<;>rfl) ?_; first | refine dr ?_ | exact dz)
   trivial
  ·refine dr ?_
   refine ⟨k+1,out,⟨by omega,by rw [filt_f hk' (by simp [h2]),ho],by omega⟩,by omega,?_⟩
   refine dr ?_
   trivial
 have hkl:k=t.length:=by omega
 rw [hkl,List.take_length] at ho
 refine dr ?_
 repeat (refine oB (by simp) ?_; first | refine dr ?_ | exact dz)
 rw [kids,← ho]; simp [eStrs]
def c_spec_l2Up:XC:=(.s (.r [.m1 4 (.i 0)]) (.s (.r [.mv 8 0,.mv 9 1,.c1 10 123 [9],.c1 11 121 [8,10],.mv 7 11,.ex 12 (.ext 7 0),.ex 13 (.ext 7 1),.ex 5 (.alloc [sE,(B false),sE]),.nu (.st 3 5 12),.mv 6 13]) (.s (.blk 0 (.s (.r [.mv 15 6,.ex 16 (.un .not 15),.mv 14 16]) (.cnd 14 (.s (.r [.m1 4 (.i 2)]) .ret) (.s (.r [.f1 18 1 5,.l1 19 1 18,.ex 20 (.un .not 19),.mv 17 20]) (.cnd 17 (.s (.r [.m1 4 (.i 3)]) .ret) .skip))))) (.s (.r [.m1 4 (.i 0)]) .ret))))
theorem c_spec_l2Up_eq:compF Tryz.prog [] 234=some (c_spec_l2Up.ac,[(.t 4)],21):=by kernel_rfl
theorem f_l2Up (W0:World) (t:List Ent) (p:Str):Fn Tryz.prog W0 234 [eEnts t,CS p] (.c (CI (upC t p))) []:=by
 refine fnX (c:=c_spec_l2Up) mixed c_spec_l2Up_eq (by simp) rfl fun hg=>?_
 have hc:=f_l2Get W0 t (pUp p)
 cases hx:get t (pUp p) with
 | none =>
  rw [hx] at hc
  refine dEr ?_
  repeat ((first | refine c0 (f_spec_PathUp W0 _) rfl ?_ | refine c0 hc rfl ?_); first | refine dEr ?_ | exact dz)
  rw [upC,hx]<;>rfl
 | some e =>
  rw [hx] at hc
  refine dEr ?_
  repeat ((first | refine c0 (f_spec_PathUp W0 _) rfl ?_ | refine c0 hc rfl ?_); first | refine dEr ?_ | exact dz)
  refine cP (fun h1=>?_) (fun h1=>?_)
  ·refine dr ?_
   rw [upC,hx]; exact congrArg CI (by simp [h1])
  ·refine dr ?_
   rw [upC,hx]; exact congrArg CI (by simp [h1])
def c_spec_l2New:XC:=(.s (.r [.m1 4 (.i 0)]) (.s (.r [.mv 8 0,.mv 9 1,.c1 10 234 [8,9],.mv 5 10]) (.s (.r [.mv 12 0,.mv 13 1,.c1 14 121 [12,13],.mv 11 14,.ex 15 (.ext 11 0),.ex 16 (.ext 11 1),.ex 6 (.alloc [sE,(B false),sE]),.nu (.st 3 6 15),.mv 7 16]) (.s (.blk 0 (.s (.r [.mv 18 5,.b1 19 .neq 18 (.i 0),.mv 17 19]) (.cnd 17 (.s (.r [.mv 20 5,.mv 4 20]) .ret) (.s (.r [.mv 22 7,.mv 21 22]) (.cnd 21 (.s (.r [.m1 4 (.i 4)]) .ret) (.s (.r [.mv 24 0,.ex 25 (.len false 24),.b1 26 .geq 25 (.i 16),.mv 23 26]) (.cnd 23 (.s (.r [.m1 4 (.i 8)]) .ret) .skip))))))) (.s (.r [.m1 4 (.i 0)]) .ret)))))
theorem c_spec_l2New_eq:compF Tryz.prog [] 199=some (c_spec_l2New.ac,[(.t 4)],27):=by kernel_rfl
theorem f_l2New (W0:World) (t:List Ent) (p:Str):Fn Tryz.prog W0 199 [eEnts t,CS p] (.c (CI (newC t p))) []:=by
 refine fnX (c:=c_spec_l2New) mixed c_spec_l2New_eq (by simp) rfl fun hg=>?_
 have hc:=f_l2Get W0 t p
 rw [eEntO_eq] at hc
 refine dEr ?_
 repeat ((first | refine c0 (f_l2Up W0 _ _) rfl ?_ | refine c0 hc rfl ?_); first | refine dEr ?_ | exact dz)
 refine cP (fun h1=>?_) (fun h1=>?_)
 ·refine dr ?_
  rw [newC,if_pos h1]
 have h1':¬ upC t p≠0:=fun h=>h h1
 refine dr ?_
 refine cP (fun h2=>?_) (fun h2=>?_)
 ·refine dr ?_
  rw [newC,if_neg h1',if_pos h2]<;>rfl
 have h2':¬ (get t p).isSome=true:=by simp [h2]
 refine dr ?_
 refine cP (fun h3=>?_) (fun h3=>?_)
 ·refine dr ?_
  rw [newC,if_neg h1',if_neg h2',if_pos (by omega)]<;>rfl
 ·refine dr ?_
  rw [newC,if_neg h1',if_neg h2',if_neg (by omega)]<;>rfl
def c_spec_l2PutCode:XC:=(.s (.r [.m1 4 (.i 0)]) (.s (.r [.mv 8 0,.mv 9 1,.c1 10 199 [8,9],.mv 5 10]) (.s (.r [.mv 12 0,.mv 13 1,.c1 14 121 [12,13],.mv 11 14,.ex 15 (.ext 11 0),.ex 16 (.ext 11 1),.ex 6 (.alloc [sE,(B false),sE]),.nu (.st 3 6 15),.mv 7 16]) (.s (.s (.r [.mv 17 5,.b1 18 .eql 17 (.i 4),.mv 19 18,.gt 20 (.fa 1 6) 19,.gt 21 (.ld false 1 20) 19,.ex 22 (.pick 19 21 .n)]) (.cnd 22 (.s (.r [.m1 4 (.i 5)]) .ret) .skip)) (.s (.s (.r [.mv 23 5,.b1 24 .eql 23 (.i 4)]) (.cnd 24 (.s (.r [.m1 4 (.i 0)]) .ret) .skip)) (.s (.r [.mv 25 5,.mv 4 25]) .ret))))))
theorem c_spec_l2PutCode_eq:compF Tryz.prog [] 200=some (c_spec_l2PutCode.ac,[(.t 4)],26):=by kernel_rfl
theorem f_l2PutCode (W0:World) (t:List Ent) (p:Str):Fn Tryz.prog W0 200 [eEnts t,CS p] (.c (CI (putC t p))) []:=by
 refine fnX (c:=c_spec_l2PutCode) mixed c_spec_l2PutCode_eq (by simp) rfl fun hg=>?_
 have hc:=f_l2Get W0 t p
 rw [eEntO_eq] at hc
 refine dEr ?_
 repeat ((first | refine c0 (f_l2New W0 _ _) rfl ?_ | refine c0 hc rfl ?_); first | refine dEr ?_ | exact dz)
 refine cP (fun h1=>?_) (fun h1=>?_)
 ·refine dr ?_
  refine cP (fun h2=>?_) (fun h2=>?_)
  ·refine dr ?_
   rw [putC,if_pos h1,if_pos h2]<;>rfl
  ·refine dr ?_
   refine cP (fun h3=>?_) (fun h3=>?_)
   ·refine dr ?_
    rw [putC,if_pos h1,if_neg (by simp [h2])]<;>rfl
   ·exact absurd h1 h3
 ·refine dr ?_
  refine cP (fun h3=>?_) (fun h3=>?_)
  ·exact absurd h3 h1
  ·refine dr ?_
   rw [putC,if_neg h1]
def c_spec_l2OffCode:XC:=(.s (.r [.ex 3 (.box 1),.m1 4 (.i 0)]) (.s (.r [.mv 8 0,.f1 9 1 3,.l1 10 1 9,.c1 11 121 [8,10],.mv 7 11,.ex 12 (.ext 7 0),.ex 13 (.ext 7 1),.ex 5 (.alloc [sE,(B false),sE]),.nu (.st 3 5 12),.mv 6 13]) (.s (.blk 0 (.s (.r [.mv 15 6,.ex 16 (.un .not 15),.mv 14 16]) (.cnd 14 (.s (.r [.m1 4 (.i 2)]) .ret) (.s (.r [.f1 18 0 3,.l1 19 1 18,.b1 20 .eql 19 (.i 3),.mv 21 20,.gt 22 (.fa 1 5) 21,.gt 23 (.ld false 1 22) 21,.ex 24 (.pick 21 23 .n),.mv 17 24]) (.cnd 17 (.s (.r [.m1 4 (.i 5)]) .ret) (.s (.r [.f1 26 0 3,.l1 27 1 26,.b1 28 .eql 27 (.i 4),.mv 29 28,.gt 30 (.fa 1 5) 29,.gt 31 (.ld false 1 30) 29,.gt 32 (.un .not 31) 29,.ex 33 (.pick 29 32 .n),.mv 25 33]) (.cnd 25 (.s (.r [.m1 4 (.i 3)]) .ret) (.s (.r [.mv 35 0,.f1 36 1 3,.l1 37 1 36,.c1 38 237 [35,37],.ex 39 (.len false 38),.b1 40 .gtr 39 (.i 0),.mv 34 40]) (.cnd 34 (.s (.r [.m1 4 (.i 6)]) .ret) .skip))))))))) (.s (.r [.m1 4 (.i 0)]) .ret))))
theorem c_spec_l2OffCode_eq:compF Tryz.prog [] 202=some (c_spec_l2OffCode.ac,[(.t 4)],41):=by kernel_rfl
theorem f_l2OffCode (W0:World) (t:List Ent) (op:Op) (ht:t.length≤1000000):Fn Tryz.prog W0 202 [eEnts t,eOp op] (.c (CI (offC t op))) []:=by
 refine fnX (c:=c_spec_l2OffCode) mixed c_spec_l2OffCode_eq (by simp) rfl fun hg=>?_
 have hc:=f_l2Get W0 t op.path
 cases hx:get t op.path with
 | none =>
  rw [hx] at hc
  refine dEr ?_
  repeat (refine c0 hc rfl ?_; first | refine dEr ?_ | exact dz)
  rw [offC,hx]<;>rfl
 | some e =>
  rw [hx] at hc
  have e0:offC t op=if op.kind=3∧e.dir=true then 5 else if op.kind=4∧e.dir=false then 3 else if 0 < (kids t op.path).length then 6 else 0:=by rw [offC,hx]
  rw [e0]
  have rest:∀ {A:Prop},A→A:=fun a=>a
  refine dEr ?_
  repeat (refine c0 hc rfl ?_; first | refine dEr ?_ | exact dz)
  refine cP (fun h1=>?_) (fun h1=>?_)
  ·refine dr ?_
   refine cP (fun h2=>?_) (fun h2=>?_)
   ·refine dr ?_
    rw [if_pos ⟨h1,h2⟩]<;>rfl
   ·have n1:¬ (op.kind=3∧e.dir=true):=by simp [h2]
    have n2:¬ (op.kind=4∧e.dir=false):=by omega
    rw [if_neg n1,if_neg n2]
    refine dr ?_
    refine cP (fun h3=>?_) (fun h3=>?_)
    ·omega
    ·refine dEr ?_
     repeat (refine c0 (f_l2Kids W0 _ _ ht) rfl ?_; first | refine dEr ?_ | exact dz)
     refine cP (fun h4=>?_) (fun h4=>?_)
     ·refine dr ?_
      rw [if_pos (by omega)]<;>rfl
     ·refine dr ?_
      rw [if_neg (by omega)]<;>rfl
  ·have n1:¬ (op.kind=3∧e.dir=true):=fun h=>h1 h.1
   rw [if_neg n1]
   refine dr ?_
   refine cP (fun h3=>?_) (fun h3=>?_)
   ·refine dr ?_
    refine cP (fun h2=>?_) (fun h2=>?_)
    ·refine dr ?_
     rw [if_pos ⟨h3,by simpa using h2⟩]<;>rfl
    ·rw [if_neg (fun h=>by rw [h.2] at h2; simp at h2)]
     refine dEr ?_
     repeat (refine c0 (f_l2Kids W0 _ _ ht) rfl ?_; first | refine dEr ?_ | exact dz)
     refine cP (fun h4=>?_) (fun h4=>?_)
     ·refine dr ?_
      rw [if_pos (by omega)]<;>rfl
     ·refine dr ?_
      rw [if_neg (by omega)]<;>rfl
   ·rw [if_neg (fun h=>h3 h.1)]
    refine dEr ?_
    repeat (refine c0 (f_l2Kids W0 _ _ ht) rfl ?_; first | refine dEr ?_ | exact dz)
    refine cP (fun h4=>?_) (fun h4=>?_)
    ·refine dr ?_
     rw [if_pos (by omega)]<;>rfl
    ·refine dr ?_
     rw [if_neg (by omega)]<;>rfl
def c_spec_l2MoveCode:XC:=(.s (.r [.ex 3 (.box 1),.m1 4 (.i 0)]) (.s (.r [.mv 14 0,.f1 15 1 3,.l1 16 1 15,.c1 17 121 [14,16],.mv 13 17,.ex 18 (.ext 13 0),.ex 19 (.ext 13 1),.ex 5 (.alloc [sE,(B false),sE]),.nu (.st 3 5 18),.mv 6 19]) (.s (.r [.mv 20 0,.f1 21 2 3,.l1 22 1 21,.c1 23 234 [20,22],.mv 7 23]) (.s (.r [.mv 25 0,.f1 26 2 3,.l1 27 1 26,.c1 28 121 [25,27],.mv 24 28,.ex 29 (.ext 24 0),.ex 30 (.ext 24 1),.ex 8 (.alloc [sE,(B false),sE]),.nu (.st 3 8 29),.mv 9 30]) (.s (.blk 0 (.s (.r [.mv 32 6,.ex 33 (.un .not 32),.mv 31 33]) (.cnd 31 (.s (.r [.m1 4 (.i 2)]) .ret) (.s (.r [.mv 35 7,.b1 36 .neq 35 (.i 0),.mv 34 36]) (.cnd 34 (.s (.r [.mv 37 7,.mv 4 37]) .ret) (.s (.r [.mv 39 9,.mv 38 39]) (.cnd 38 (.s (.r [.m1 4 (.i 4)]) .ret) (.s (.r [.f1 41 2 3,.l1 42 1 41,.f1 43 1 3,.l1 44 1 43,.c1 45 235 [42,44],.mv 40 45]) (.cnd 40 (.s (.r [.m1 4 (.i 7)]) .ret) .skip))))))))) (.s (.s (.r [.m1 10 (.i 0)]) (.blk 1 (.loop (.s (.s (.r [.mv 46 10,.mv 47 0,.ex 48 (.len false 47),.b1 49 .lss 46 48]) (.cnd 49 .skip (.exit 1))) (.s (.blk 2 (.s (.d [.mv 53 0,.mv 54 10,.ex 55 (.ia 3 53 54),.f1 56 0 55,.l1 57 1 56,.f1 58 1 3,.l1 59 1 58,.f1 60 2 3,.l1 61 1 60,.c1 62 236 [57,59,61],.mv 52 62,.ex 63 (.ext 52 0),.ex 64 (.ext 52 1),.mv 11 63,.mv 12 64]) (.s (.r [.mv 65 12,.ex 66 (.un .not 65)]) (.cnd 66 (.s (.r [.m1 4 (.i 8)]) .ret) .skip)))) (.r [.mv 50 10,.b1 51 .add 50 (.i 1),.mv 10 51])))))) (.s (.r [.m1 4 (.i 0)]) .ret)))))))
theorem c_spec_l2MoveCode_eq:compF Tryz.prog [] 201=some (c_spec_l2MoveCode.ac,[(.t 4)],67):=by kernel_rfl
theorem f_l2MoveCode (W0:World) (t:List Ent) (op:Op) (ht:t.length≤1000000):Fn Tryz.prog W0 201 [eEnts t,eOp op] (.c (CI (movC t op))) []:=by
 refine fnX (c:=c_spec_l2MoveCode) mixed c_spec_l2MoveCode_eq (by simp) rfl fun hg=>?_
 have hc:=f_l2Get W0 t op.path
 rw [eEntO_eq] at hc
 have hc2:=f_l2Get W0 t op.dest
 rw [eEntO_eq] at hc2
 refine dEr ?_
 repeat ((first | refine c0 hc rfl ?_ | refine c0 hc2 rfl ?_ | refine c0 (f_l2Up W0 _ _) rfl ?_); first | refine dEr ?_ | exact dz)
 refine cP (fun h1=>?_) (fun h1=>?_)
 rotate_left
 ·have h1':(get t op.path).isSome=true:=by simpa using h1
  refine dr ?_
  refine cP (fun h2=>?_) (fun h2=>?_)
  ·refine dr ?_
   rw [movC,if_neg (by simp [h1']),if_pos h2]
  have h2':¬ upC t op.dest≠0:=fun h=>h h2
  refine dr ?_
  refine cP (fun h3=>?_) (fun h3=>?_)
  ·refine dr ?_
   rw [movC,if_neg (by simp [h1']),if_neg h2',if_pos h3]<;>rfl
  refine dEr ?_
  repeat (refine c0 (f_l1Under W0 _ _) rfl ?_; first | refine dEr ?_ | exact dz)
  refine cP (fun h4=>?_) (fun h4=>?_)
  ·refine dr ?_
   rw [movC,if_neg (by simp [h1']),if_neg h2',if_neg (by simp [h3]),if_pos h4]<;>rfl
  have e:movC t op=if t.all (fun e=>(pMove e.path op.path op.dest).isSome)=true then 0 else 8:=by rw [movC,if_neg (by simp [h1']),if_neg h2',if_neg (by simp [h3]),if_neg (by simp [h4])]
  rw [e]
  refine dr ?_
  refine lp (σ:=Nat) (fun k=>[(0,.c (eEnts t)),(3,.ptr 48 0),(10,I k)]) (fun _=>[(48,.box [.c (CI op.kind),.c (CS op.path),.c (CS op.dest),.c (CS op.data)])]) (fun k=>k≤t.length∧(t.take k).all (fun e=>(pMove e.path op.path op.dest).isSome)=true) (fun k=>t.length - k) 0 ⟨by simp,by simp⟩ ?_ ?_
  ·refine dr ?_
   trivial
  rintro k ⟨hk,ha⟩
  refine dr ?_
  refine cP (fun h5=>?_) (fun h5=>?_)
  ·have hk':k < t.length:=by omega
   have hp:=f_spec_PathMove W0 t[k].path op.path op.dest
   rw [eOpt_eq] at hp
   refine dEr ?_
   repeat (refine c0 hp rfl ?_; first | refine dEr ?_ | exact dz)
   refine cP (fun h6=>?_) (fun h6=>?_)
   ·refine dr ?_
    rw [if_neg (by rw [all_no hk' (by simpa using h6)]; simp)]<;>rfl
   ·refine dr ?_
    refine ⟨k+1,⟨by omega,take_all hk' ha (by simpa using h6)⟩,by omega,?_⟩
    refine dr ?_
    trivial
  ·have hkl:k=t.length:=by omega
   rw [hkl,List.take_length] at ha
   refine dr ?_
   rw [if_pos ha]<;>rfl
 ·refine dr ?_
  rw [movC,if_pos (by simpa using h1)]<;>rfl
def c_spec_l2Code:XC:=(.s (.r [.ex 3 (.box 1),.m1 4 (.i 0)]) (.s (.s (.r [.f1 5 0 3,.l1 6 1 5]) (.blk 0 (.s (.r [.b1 8 .eql 6 (.i 1),.mv 7 8]) (.cnd 7 (.s (.r [.mv 9 0,.f1 10 1 3,.l1 11 1 10,.c1 12 199 [9,11],.mv 4 12]) .ret) (.s (.r [.b1 14 .eql 6 (.i 2),.mv 13 14]) (.cnd 13 (.s (.r [.mv 15 0,.f1 16 1 3,.l1 17 1 16,.c1 18 200 [15,17],.mv 4 18]) .ret) (.s (.r [.b1 20 .eql 6 (.i 5),.mv 19 20]) (.cnd 19 (.s (.r [.mv 21 0,.l2 22 4 3,.c1 23 201 [21,22],.mv 4 23]) .ret) .skip)))))))) (.s (.r [.mv 24 0,.l2 25 4 3,.c1 26 202 [24,25],.mv 4 26]) .ret)))
theorem c_spec_l2Code_eq:compF Tryz.prog [] 166=some (c_spec_l2Code.ac,[(.t 4)],27):=by kernel_rfl
theorem f_l2Code (W0:World) (t:List Ent) (op:Op) (ht:t.length≤1000000):Fn Tryz.prog W0 166 [eEnts t,eOp op] (.c (CI (codeT t op))) []:=by
 refine fnX (c:=c_spec_l2Code) mixed c_spec_l2Code_eq (by simp) rfl fun hg=>?_
 refine dr ?_
 refine cP (fun h1=>?_) (fun h1=>?_)
 ·refine dEr ?_
  repeat (refine c0 (f_l2New W0 _ _) rfl ?_; first | refine dEr ?_ | exact dz)
  rw [codeT,if_pos h1]
 refine dr ?_
 refine cP (fun h2=>?_) (fun h2=>?_)
 ·refine dEr ?_
  repeat (refine c0 (f_l2PutCode W0 _ _) rfl ?_; first | refine dEr ?_ | exact dz)
  rw [codeT,if_neg h1,if_pos h2]
 refine dr ?_
 refine cP (fun h3=>?_) (fun h3=>?_)
 ·refine dEr ?_
  repeat (refine c0 (f_l2MoveCode W0 _ op ht) rfl ?_; first | refine dEr ?_ | exact dz)
  rw [codeT,if_neg h1,if_neg h2,if_pos h3]
 refine dEr ?_
 repeat (refine c0 (f_l2OffCode W0 _ op ht) rfl ?_; first | refine dEr ?_ | exact dz)
 rw [codeT,if_neg h1,if_neg h2,if_neg h3]
end Go.Proofs.YteheahbjaddooaaGreatDoor

namespace Go.Proofs.YteheahbjaddooaaGreatDoor
set_option linter.unusedSimpArgs false
set_option linter.unusedVariables false
open Go Go.RowKit
def c_spec_l2Off:XC:=(.s (.r [.ex 4 (.asn (.k .nil) 3 39)]) (.s (.r [.ex 7 .bsl0,.ex 5 (.asn 7 3 39)]) (.s (.s (.r [.m1 6 (.i 0)]) (.blk 0 (.loop (.s (.s (.r [.mv 8 6,.mv 9 0,.ex 10 (.len false 9),.b1 11 .lss 8 10]) (.cnd 11 .skip (.exit 0))) (.s (.blk 1 (.s (.r [.mv 14 0,.mv 15 6,.ex 16 (.ia 3 14 15),.f1 17 0 16,.l1 18 1 17,.mv 19 1,.b1 20 .neq 18 19]) (.cnd 20 (.r [.mv 21 5,.mv 22 0,.mv 23 6,.ex 24 (.ia 3 22 23),.l2 25 3 24,.ex 26 (.bsl 3 39 [25]),.ex 27 (.app false 3 40 39 21 26),.ex 5 (.asn 27 3 39)]) .skip))) (.r [.mv 12 6,.b1 13 .add 12 (.i 1),.mv 6 13])))))) (.s (.r [.mv 28 5,.ex 4 (.asn 28 3 39)]) .ret))))
theorem c_spec_l2Off_eq:compF Tryz.prog [] 204=some (c_spec_l2Off.ac,[(.t 4)],29):=by kernel_rfl
theorem f_l2Off (W0:World) (t:List Ent) (p:Str) (ht:t.length≤1000000):Fn Tryz.prog W0 204 [eEnts t,CS p] (.c (eEnts (offT t p))) []:=by
 refine fnX (c:=c_spec_l2Off) mixed c_spec_l2Off_eq (by simp) rfl fun hg=>?_
 refine dr ?_
 refine lp2 (fun (k:Nat) (out:List Ent)=>[(0,.c (eEnts t)),(1,.c (CS p)),(5,.own 80 out.length),(6,I k)]) (fun _ out=>[(80,.row (out.map eEnt) 3 39)]) (fun k out=>k≤t.length∧out=(t.take k).filter (fun e=>e.path != p)∧out.length≤k) (fun k _=>t.length - k) 0 [] ⟨by simp,rfl,by simp⟩ ?_ ?_
 ·refine dr ?_
  trivial
 rintro k out ⟨hk,ho,hle⟩
 refine dr ?_
 refine cP (fun h1=>?_) (fun h1=>?_)
 ·have hk':k < t.length:=by omega
  refine dr ?_
  refine cP (fun h2=>?_) (fun h2=>?_)
  ·refine dr ?_
   repeat ((first | refine oB (by simp; omega) ?_ | refine oB (by simp) ?_); first | refine dr ?_ | exact dz)
   refine ⟨k+1,out++[t[k]],⟨by omega,by rw [filt_t hk' (by simp [h2]),ho],by simp; omega⟩,by omega,?_⟩
   refine dr ?_
   repeat (refine oB (by simp<;>rfl) ?_; first | refine dr ?_ | exact dz)
   trivial
  ·refine dr ?_
   refine ⟨k+1,out,⟨by omega,by rw [filt_f hk' (by simp [h2]),ho],by omega⟩,by omega,?_⟩
   refine dr ?_
   trivial
 have hkl:k=t.length:=by omega
 rw [hkl,List.take_length] at ho
 refine dr ?_
 repeat (refine oB (by simp) ?_; first | refine dr ?_ | exact dz)
 rw [offT,← ho]<;>rfl
def c_spec_l2Move:XC:=(.s (.r [.ex 6 (.asn (.k .nil) 3 39)]) (.s (.r [.ex 10 .bsl0,.ex 7 (.asn 10 3 39)]) (.s (.s (.r [.m1 8 (.i 0)]) (.blk 0 (.loop (.s (.s (.r [.mv 11 8,.mv 12 0,.ex 13 (.len false 12),.b1 14 .lss 11 13]) (.cnd 14 .skip (.exit 0))) (.s (.blk 1 (.s (.r [.mv 17 0,.mv 18 8,.ex 19 (.ia 3 17 18),.l2 20 3 19,.ex 9 (.alloc [sE,(B false),sE]),.nu (.st 3 9 20)]) (.s (.r [.f1 22 0 9,.l1 23 1 22,.mv 24 1,.mv 25 2,.c1 26 236 [23,24,25],.mv 21 26,.ex 27 (.ext 21 0),.ex 28 (.ext 21 1),.f1 29 0 9,.nu (.st 1 29 27)]) (.r [.mv 30 7,.l2 31 3 9,.c1 32 178 [30,31],.ex 7 (.asn 32 3 39)])))) (.r [.mv 15 8,.b1 16 .add 15 (.i 1),.mv 8 16])))))) (.s (.r [.mv 33 7,.ex 6 (.asn 33 3 39)]) .ret))))
theorem c_spec_l2Move_eq:compF Tryz.prog [] 203=some (c_spec_l2Move.ac,[(.t 6)],34):=by kernel_rfl
theorem f_l2Move (W0:World) (t:List Ent) (f to:Str) (ht:t.length≤1000000):Fn Tryz.prog W0 203 [eEnts t,CS f,CS to] (.c (eEnts (movT t f to))) []:=by
 refine fnX (c:=c_spec_l2Move) mixed c_spec_l2Move_eq (by simp) rfl fun hg=>?_
 refine dr ?_
 refine lz2 112 (fun (k:Nat) (out:List Ent)=>[(0,.c (eEnts t)),(1,.c (CS f)),(2,.c (CS to)),(7,.c (eEnts out)),(8,I k)]) (fun _ _=>[]) (fun k out=>k≤t.length∧out=(t.take k).foldl (fun out e=>put out (movE f to e)) []∧out.length≤k) (fun k _=>t.length - k) 0 [] ⟨by simp,rfl,by simp⟩ ?_ ?_
 ·refine dr ?_
  trivial
 rintro k out ⟨hk,ho,hle⟩
 refine dr ?_
 refine cP (fun h1=>?_) (fun h1=>?_)
 ·have hk':k < t.length:=by omega
  have hn:(t.take (k+1)).foldl (fun out e=>put out (movE f to e)) []=put out (movE f to t[k]):=by rw [fold_next hk',← ho]
  have hpl:(put out (movE f to t[k])).length≤out.length+1:=putG_len
  have hp:=f_spec_PathMove W0 t[k].path f to
  rw [eOpt_eq] at hp
  refine dEr ?_
  repeat ((first | refine c0 hp rfl ?_ | refine c0 (f_l2Put W0 _ (movE f to t[k]) (by omega)) rfl ?_); first | refine dEr ?_ | exact dz)
  refine ⟨k+1,_,⟨by omega,hn.symm,by omega⟩,by omega,?_⟩
  refine dr ?_
  trivial
 have hkl:k=t.length:=by omega
 rw [hkl,List.take_length] at ho
 refine dr ?_
 rw [movT,← ho]
def c_spec_l2Do:XC:=(.s (.r [.ex 3 (.box 1),.ex 4 (.asn (.k .nil) 3 39)]) (.s (.s (.r [.f1 5 0 3,.l1 6 1 5]) (.blk 0 (.s (.r [.b1 8 .eql 6 (.i 1),.mv 7 8]) (.cnd 7 (.s (.r [.mv 9 0,.f1 10 1 3,.l1 11 1 10,.ex 12 (.build [sE,(B false),sE] [(0,(1,11)),(1,(1,.y))]),.c1 13 178 [9,12],.ex 4 (.asn 13 3 39)]) .ret) (.s (.r [.b1 15 .eql 6 (.i 2),.mv 14 15]) (.cnd 14 (.s (.r [.mv 16 0,.f1 17 1 3,.l1 18 1 17,.f1 19 3 3,.l1 20 1 19,.ex 21 (.build [sE,(B false),sE] [(0,(1,18)),(2,(1,20))]),.c1 22 178 [16,21],.ex 4 (.asn 22 3 39)]) .ret) (.s (.r [.b1 24 .eql 6 (.i 5),.mv 23 24]) (.cnd 23 (.s (.r [.mv 25 0,.f1 26 1 3,.l1 27 1 26,.f1 28 2 3,.l1 29 1 28,.c1 30 203 [25,27,29],.ex 4 (.asn 30 3 39)]) .ret) .skip)))))))) (.s (.r [.mv 31 0,.f1 32 1 3,.l1 33 1 32,.c1 34 204 [31,33],.ex 4 (.asn 34 3 39)]) .ret)))
theorem c_spec_l2Do_eq:compF Tryz.prog [] 167=some (c_spec_l2Do.ac,[(.t 4)],35):=by kernel_rfl
theorem f_l2Do (W0:World) (t:List Ent) (op:Op) (ht:t.length≤100000):Fn Tryz.prog W0 167 [eEnts t,eOp op] (.c (eEnts (doT t op))) []:=by
 refine fnX (c:=c_spec_l2Do) mixed c_spec_l2Do_eq (by simp) rfl fun hg=>?_
 refine dr ?_
 refine cP (fun h1=>?_) (fun h1=>?_)
 ·refine dEr ?_
  repeat (refine c0 (f_l2Put W0 _ ⟨op.path,true,[]⟩ (by omega)) rfl ?_; first | refine dEr ?_ | exact dz)
  rw [doT,if_pos h1]
 refine dr ?_
 refine cP (fun h2=>?_) (fun h2=>?_)
 ·refine dEr ?_
  repeat (refine c0 (f_l2Put W0 _ ⟨op.path,false,op.data⟩ (by omega)) rfl ?_; first | refine dEr ?_ | exact dz)
  rw [doT,if_neg h1,if_pos h2]
 refine dr ?_
 refine cP (fun h3=>?_) (fun h3=>?_)
 ·refine dEr ?_
  repeat (refine c0 (f_l2Move W0 _ _ _ (by omega)) rfl ?_; first | refine dEr ?_ | exact dz)
  rw [doT,if_neg h1,if_neg h2,if_pos h3]
 refine dEr ?_
 repeat (refine c0 (f_l2Off W0 _ _ (by omega)) rfl ?_; first | refine dEr ?_ | exact dz)
 rw [doT,if_neg h1,if_neg h2,if_neg h3]
def c_spec_TreeDo:XC:=(.s (.r [.ex 3 (.box 1),.ex 4 (.asn (.k .nil) 3 39),.m1 5 (.i 0)]) (.s (.s (.r [.mv 7 0,.c1 8 119 [7],.ex 9 (.un .not 8)]) (.cnd 9 (.s (.r [.ex 10 .bsl0,.ex 4 (.asn 10 3 39),.m1 5 (.i 1)]) .ret) .skip)) (.s (.s (.r [.l2 11 4 3,.c1 12 165 [11],.ex 13 (.un .not 12)]) (.cnd 13 (.s (.r [.ex 14 .bsl0,.mv 15 0,.ex 16 (.app true 3 40 39 14 15),.ex 4 (.asn 16 3 39),.m1 5 (.i 1)]) .ret) .skip)) (.s (.r [.mv 17 0,.l2 18 4 3,.c1 19 166 [17,18],.mv 6 19]) (.s (.s (.r [.mv 20 6,.b1 21 .neq 20 (.i 0)]) (.cnd 21 (.s (.r [.ex 22 .bsl0,.mv 23 0,.ex 24 (.app true 3 40 39 22 23),.mv 25 6,.ex 4 (.asn 24 3 39),.mv 5 25]) .ret) .skip)) (.s (.r [.mv 26 0,.l2 27 4 3,.c1 28 167 [26,27],.mv 29 6,.ex 4 (.asn 28 3 39),.mv 5 29]) .ret))))))
theorem c_spec_TreeDo_eq:compF Tryz.prog [] 107=some (c_spec_TreeDo.ac,[(.t 4),(.t 5)],30):=by kernel_rfl
theorem f_spec_TreeDo (W0:World) (t:List Ent) (op:Op):Fn Tryz.prog W0 107 [eEnts t,eOp op] (.c (eTD (treeDo t op))) []:=by
 refine fnX (c:=c_spec_TreeDo) mixed c_spec_TreeDo_eq (by simp) rfl fun hg=>?_
 refine dEr ?_
 repeat (refine c0 (f_spec_TreeOk W0 _) rfl ?_; first | refine dEr ?_ | exact dz)
 refine cP (fun h1=>?_) (fun h1=>?_)
 ·refine dr ?_
  repeat (refine oB (by simp) ?_; first | refine dr ?_ | exact dz)
  rw [treeDo,if_neg (by simp [h1])]<;>rfl
 have hl:=(tOk_at h1).1
 rw [treeDo,if_pos h1]
 refine dEr ?_
 repeat (refine c0 (f_spec_OpOk W0 op) rfl ?_; first | refine dEr ?_ | exact dz)
 refine cP (fun h2=>?_) (fun h2=>?_)
 ·refine dr ?_
  repeat ((first | refine oB (by simp; omega) ?_ | refine oB (by simp) ?_); first | refine dr ?_ | exact dz)
  rw [if_neg (by simp [h2])]<;>rfl
 rw [if_pos h2]
 refine dEr ?_
 repeat (refine c0 (f_l2Code W0 t op (by omega)) rfl ?_; first | refine dEr ?_ | exact dz)
 refine cP (fun h3=>?_) (fun h3=>?_)
 ·refine dr ?_
  repeat ((first | refine oB (by simp; omega) ?_ | refine oB (by simp) ?_); first | refine dr ?_ | exact dz)
  rw [if_neg h3]<;>rfl
 ·refine dEr ?_
  repeat (refine c0 (f_l2Do W0 t op (by omega)) rfl ?_; first | refine dEr ?_ | exact dz)
  rw [if_pos h3,h3]<;>rfl
end Go.Proofs.YteheahbjaddooaaGreatDoor

namespace Go.Proofs.YteheahbjaddooaaGreatDoor
set_option linter.unusedSimpArgs false
set_option linter.unusedVariables false
open Go Go.RowKit
def c_spec_l3Find:XC:=(.s (.r [.m1 4 (.i 0)]) (.s (.s (.r [.m1 5 (.i 0)]) (.blk 0 (.loop (.s (.s (.r [.mv 6 5,.mv 7 0,.ex 8 (.len false 7),.b1 9 .lss 6 8]) (.cnd 9 .skip (.exit 0))) (.s (.blk 1 (.s (.r [.mv 12 0,.mv 13 5,.ex 14 (.ia 3 12 13),.f1 15 0 14,.l1 16 1 15,.mv 17 1,.b1 18 .eql 16 17]) (.cnd 18 (.s (.r [.mv 19 5,.mv 4 19]) .ret) .skip))) (.r [.mv 10 5,.b1 11 .add 10 (.i 1),.mv 5 11])))))) (.s (.r [.ex 4 (.mv (.k (.c (.sc (.int .i64 (.negSucc 0))))))]) .ret)))
theorem c_spec_l3Find_eq:compF Tryz.prog [] 214=some (c_spec_l3Find.ac,[(.t 4)],20):=by kernel_rfl
theorem f_l3Find (W0:World) (t:List Mark) (p:Str):Fn Tryz.prog W0 214 [eMarks t,CS p] (.c (CI (midx t p))) []:=by
 refine fnX (c:=c_spec_l3Find) mixed c_spec_l3Find_eq (by simp) rfl fun hg=>?_
 have g1:=goodRow (hg _ (by simp:eMarks t∈_))
 refine dr ?_
 refine lp (σ:=Nat) (fun k=>[(0,.c (eMarks t)),(1,.c (CS p)),(5,I k)]) (fun _=>[]) (fun k=>k≤t.length∧∀ i (h':i < t.length),i < k→t[i].path≠p) (fun k=>t.length - k) 0 ⟨by simp,by simp⟩ ?_ ?_
 ·refine dr ?_
  trivial
 rintro k ⟨hk,ha⟩
 refine dr ?_
 refine cP (fun h1=>?_) (fun h1=>?_)
 ·refine dr ?_
  refine cP (fun h2=>?_) (fun h2=>?_)
  ·refine dr ?_
   rw [midx_of_first (by omega) h2 ha]
  ·refine dr ?_
   refine ⟨k+1,⟨by omega,fun i h' hi=>?_⟩,by omega,?_⟩
   ·by_cases e:i=k
    ·subst e; exact h2
    ·exact ha i h' (by omega)
   ·refine dr ?_
    trivial
 ·refine dr ?_
  rw [midx_of_none fun i h'=>ha i h' (by omega)]; rfl
def c_spec_l3Kind:XC:=(.s (.r [.m1 4 (.i 0)]) (.s (.r [.mv 6 0,.mv 7 1,.c1 8 214 [6,7],.mv 5 8]) (.s (.s (.r [.mv 9 5,.b1 10 .lss 9 (.i 0)]) (.cnd 10 (.s (.r [.m1 4 (.i 0)]) .ret) .skip)) (.s (.r [.mv 11 0,.mv 12 5,.ex 13 (.ia 3 11 12),.f1 14 1 13,.l1 15 1 14,.mv 4 15]) .ret))))
theorem c_spec_l3Kind_eq:compF Tryz.prog [] 181=some (c_spec_l3Kind.ac,[(.t 4)],16):=by kernel_rfl
theorem f_l3Kind (W0:World) (t:List Mark) (p:Str):Fn Tryz.prog W0 181 [eMarks t,CS p] (.c (CI (kind t p))) []:=by
 refine fnX (c:=c_spec_l3Kind) mixed c_spec_l3Kind_eq (by simp) rfl fun hg=>?_
 refine dr ?_
 repeat (refine c0 (f_l3Find W0 t p) rfl ?_; first | refine dr ?_ | exact dz)
 intro hg1
 rcases midx_cases t p with ⟨e1,e2,_⟩ | ⟨j,hj,e1,e2,_⟩
 ·rw [kind,e1,e2]
  refine dr ?_
  refine cP (fun h2=>?_) (fun h2=>?_)
  ·exact dz
  ·omega
 ·rw [kind,e1,e2]
  refine dr ?_
  refine cP (fun h2=>?_) (fun h2=>?_)
  ·omega
  ·exact dz
def c_spec_l3Bare:XC:=(.s (.r [.m1 4 .n]) (.s (.s (.r [.m1 5 (.i 0)]) (.blk 0 (.loop (.s (.s (.r [.mv 6 5,.mv 7 0,.ex 8 (.len false 7),.b1 9 .lss 6 8]) (.cnd 9 .skip (.exit 0))) (.s (.blk 1 (.s (.r [.mv 12 0,.mv 13 5,.ex 14 (.ia 3 12 13),.f1 15 1 14,.l1 16 1 15,.b1 17 .eql 16 (.i 4),.mv 18 17,.gt 19 (.mv 1) 18,.gt 20 (.mv 0) 18,.gt 21 (.mv 5) 18,.gt 22 (.ia 3 20 21) 18,.gt 23 (.fa 0 22) 18,.gt 24 (.ld false 1 23) 18,.gt 25 (.call 235 [19,24]) 18,.ex 26 (.pick 18 25 .n)]) (.cnd 26 (.s (.r [.m1 4 .y]) .ret) .skip))) (.r [.mv 10 5,.b1 11 .add 10 (.i 1),.mv 5 11])))))) (.s (.r [.m1 4 .n]) .ret)))
theorem c_spec_l3Bare_eq:compF Tryz.prog [] 206=some (c_spec_l3Bare.ac,[(.t 4)],27):=by kernel_rfl
theorem f_l3Bare (W0:World) (t:List Mark) (p:Str):Fn Tryz.prog W0 206 [eMarks t,CS p] (.c (CB (bare t p))) []:=by
 refine fnX (c:=c_spec_l3Bare) mixed c_spec_l3Bare_eq (by simp) rfl fun hg=>?_
 have g1:=goodRow (hg _ (by simp:eMarks t∈_))
 refine dr ?_
 refine lp (σ:=Nat) (fun k=>[(0,.c (eMarks t)),(1,.c (CS p)),(5,I k)]) (fun _=>[]) (fun k=>k≤t.length∧bare (t.take k) p=false) (fun k=>t.length - k) 0 ⟨by simp,by simp [bare]⟩ ?_ ?_
 ·refine dr ?_
  trivial
 rintro k ⟨hk,ha⟩
 refine dr ?_
 refine cP (fun h1=>?_) (fun h1=>?_)
 ·have hk':k < t.length:=by omega
  have no:(t[k].kind==4&&und p t[k].path)=false→bare (t.take (k+1)) p=false:=fun h=>by
   rw [bare] at ha ⊢
   rw [List.take_succ_eq_append_getElem hk',List.any_append,ha]; simpa using h
  have yes:(t[k].kind==4&&und p t[k].path)=true→CB true=CB (bare t p):=fun h=>bT (by
   rw [bare,List.any_eq_true]; exact ⟨t[k],List.getElem_mem hk',h⟩)
  refine dr ?_
  refine cP (fun h2=>?_) (fun h2=>?_)
  ·refine dEr ?_
   repeat (refine c0 (f_l1Under W0 _ _) rfl ?_; first | refine dEr ?_ | exact dz)
   refine cP (fun h3=>?_) (fun h3=>?_)
   ·refine dr ?_
    exact yes (by simp [h2,h3])
   ·refine dr ?_
    refine ⟨k+1,⟨by omega,no (by simp [h3])⟩,by omega,?_⟩
    refine dr ?_
    trivial
  ·refine dr ?_
   refine ⟨k+1,⟨by omega,no (by simp [h2])⟩,by omega,?_⟩
   refine dr ?_
   trivial
 ·refine dr ?_
  have:k=t.length:=by omega
  subst this
  rw [List.take_length] at ha
  rw [ha]
def c_spec_l3In:XC:=(.s (.r [.m1 4 .n]) (.s (.r [.mv 7 1,.c1 8 123 [7],.mv 5 8]) (.s (.r [.mv 9 0,.mv 10 5,.c1 11 181 [9,10],.mv 6 11]) (.s (.r [.mv 12 5,.ex 13 (.bin .eql 12 (.s [47])),.mv 14 13,.gf 15 (.mv 6) 14,.gf 16 (.bin .eql 15 (.i 2)) 14,.ex 17 (.pick 14 .y 16),.mv 18 17,.gf 19 (.mv 6) 18,.gf 20 (.bin .eql 19 (.i 4)) 18,.ex 21 (.pick 18 .y 20),.mv 4 21]) .ret))))
theorem c_spec_l3In_eq:compF Tryz.prog [] 205=some (c_spec_l3In.ac,[(.t 4)],22):=by kernel_rfl
theorem f_l3In (W0:World) (t:List Mark) (p:Str):Fn Tryz.prog W0 205 [eMarks t,CS p] (.c (CB (inD t p))) []:=by
 refine fnX (c:=c_spec_l3In) mixed c_spec_l3In_eq (by simp) rfl fun hg=>?_
 refine dr ?_
 repeat (refine c0 (f_spec_PathUp W0 _) rfl ?_; first | refine dr ?_ | exact dz)
 intro hg1
 refine dr ?_
 repeat (refine c0 (f_l3Kind W0 _ _) rfl ?_; first | refine dr ?_ | exact dz)
 intro hg1
 refine dr ?_
 refine cP (fun h1=>?_) (fun h1=>?_)
 ·refine dr ?_
  exact bT (by simp [inD,h1])
 ·refine dr ?_
  refine cP (fun h2=>?_) (fun h2=>?_)
  ·refine dr ?_
   exact bT (by simp [inD,h2])
  ·refine dr ?_
   refine congrArg CB ?_
   rw [Bool.eq_iff_iff]; simp [inD,h1,h2,eqI_d]
def c_spec_l3Hides:XC:=(.s (.r [.m1 4 .n]) (.s (.s (.r [.m1 5 (.i 0)]) (.blk 0 (.loop (.s (.s (.r [.mv 6 5,.mv 7 0,.ex 8 (.len false 7),.b1 9 .lss 6 8]) (.cnd 9 .skip (.exit 0))) (.s (.blk 1 (.s (.r [.mv 12 0,.mv 13 5,.ex 14 (.ia 3 12 13),.f1 15 0 14,.l1 16 1 15,.mv 17 1,.b1 18 .eql 16 17,.mv 19 18,.gt 20 (.mv 0) 19,.gt 21 (.mv 5) 19,.gt 22 (.ia 3 20 21) 19,.gt 23 (.fa 1 22) 19,.gt 24 (.ld false 1 23) 19,.gt 25 (.bin .neq 24 (.i 2)) 19,.ex 26 (.pick 19 25 .n),.mv 27 26,.gf 28 (.mv 0) 27,.gf 29 (.mv 5) 27,.gf 30 (.ia 3 28 29) 27,.gf 31 (.fa 1 30) 27,.gf 32 (.ld false 1 31) 27,.gf 33 (.bin .neq 32 (.i 2)) 27,.gf 34 (.mv 33) 27,.gt 35 (.mv 1) 34,.gt 36 (.mv 0) 34,.gt 37 (.mv 5) 34,.gt 38 (.ia 3 36 37) 34,.gt 39 (.fa 0 38) 34,.gt 40 (.ld false 1 39) 34,.gt 41 (.call 235 [35,40]) 34,.gf 42 (.pick 34 41 .n) 27,.ex 43 (.pick 27 .y 42)]) (.cnd 43 (.s (.r [.m1 4 .y]) .ret) .skip))) (.r [.mv 10 5,.b1 11 .add 10 (.i 1),.mv 5 11])))))) (.s (.r [.m1 4 .n]) .ret)))
theorem c_spec_l3Hides_eq:compF Tryz.prog [] 207=some (c_spec_l3Hides.ac,[(.t 4)],44):=by kernel_rfl
theorem f_l3Hides (W0:World) (t:List Mark) (p:Str):Fn Tryz.prog W0 207 [eMarks t,CS p] (.c (CB (hides t p))) []:=by
 refine fnX (c:=c_spec_l3Hides) mixed c_spec_l3Hides_eq (by simp) rfl fun hg=>?_
 have g1:=goodRow (hg _ (by simp:eMarks t∈_))
 refine dr ?_
 refine lp (σ:=Nat) (fun k=>[(0,.c (eMarks t)),(1,.c (CS p)),(5,I k)]) (fun _=>[]) (fun k=>k≤t.length∧hides (t.take k) p=false) (fun k=>t.length - k) 0 ⟨by simp,by simp [hides]⟩ ?_ ?_
 ·refine dr ?_
  trivial
 rintro k ⟨hk,ha⟩
 refine dr ?_
 refine cP (fun h1=>?_) (fun h1=>?_)
 ·have hk':k < t.length:=by omega
  have no:hidP p t[k]=false→hides (t.take (k+1)) p=false:=fun h=>by
   rw [hides] at ha ⊢
   rw [List.take_succ_eq_append_getElem hk',List.any_append,ha]; simpa using h
  have yes:hidP p t[k]=true→CB true=CB (hides t p):=fun h=>bT (by
   rw [hides,List.any_eq_true]; exact ⟨t[k],List.getElem_mem hk',h⟩)
  refine dr ?_
  have nx:hidP p t[k]=false→∃ x',(x'≤t.length∧hides (t.take x') p=false)∧x'=k+1:=fun h=>⟨k+1,⟨by omega,no h⟩,rfl⟩
  refine cP (fun h2=>?_) (fun h2=>?_)
  ·refine dr ?_
   refine cP (fun h3=>?_) (fun h3=>?_)
   ·refine dr ?_
    exact yes (by simp [hidP,h2,h3])
   ·refine dr ?_
    refine cP (fun h4=>?_) (fun h4=>?_)
    ·omega
    ·refine dr ?_
     refine ⟨k+1,⟨by omega,no (by simp [hidP,h3])⟩,by omega,?_⟩
     refine dr ?_
     trivial
  ·refine dr ?_
   refine cP (fun h3=>?_) (fun h3=>?_)
   ·refine dEr ?_
    repeat (refine c0 (f_l1Under W0 _ _) rfl ?_; first | refine dEr ?_ | exact dz)
    refine cP (fun h5=>?_) (fun h5=>?_)
    ·refine dr ?_
     exact yes (by simp [hidP,h3,h5])
    ·refine dr ?_
     refine ⟨k+1,⟨by omega,no (by simp [hidP,h2,h5])⟩,by omega,?_⟩
     refine dr ?_
     trivial
   ·refine dr ?_
    refine ⟨k+1,⟨by omega,no (by simp [hidP,h3])⟩,by omega,?_⟩
    refine dr ?_
    trivial
 ·refine dr ?_
  have:k=t.length:=by omega
  subst this
  rw [List.take_length] at ha
  rw [ha]
def c_spec_LayerOk:XC:=(.s (.r [.m1 2 .n]) (.s (.s (.r [.m1 3 (.i 0)]) (.blk 0 (.loop (.s (.s (.r [.mv 5 3,.mv 6 0,.ex 7 (.len false 6),.b1 8 .lss 5 7]) (.cnd 8 .skip (.exit 0))) (.s (.blk 1 (.s (.r [.mv 11 0,.mv 12 3,.ex 13 (.ia 3 11 12),.l2 14 3 13,.ex 4 (.alloc [sE,(I 0),sE]),.nu (.st 3 4 14)]) (.s (.s (.r [.f1 15 1 4,.l1 16 1 15,.b1 17 .lss 16 (.i 1),.mv 18 17,.gf 19 (.fa 1 4) 18,.gf 20 (.ld false 1 19) 18,.gf 21 (.bin .gtr 20 (.i 4)) 18,.ex 22 (.pick 18 .y 21),.mv 23 22,.gf 24 (.fa 0 4) 23,.gf 25 (.ld false 1 24) 23,.gf 26 (.call 106 [25]) 23,.gf 27 (.un .not 26) 23,.ex 28 (.pick 23 .y 27),.mv 29 28,.gf 30 (.fa 2 4) 29,.gf 31 (.ld false 1 30) 29,.gf 32 (.call 177 [31]) 29,.gf 33 (.un .not 32) 29,.ex 34 (.pick 29 .y 33),.mv 35 34,.gf 36 (.fa 1 4) 35,.gf 37 (.ld false 1 36) 35,.gf 38 (.bin .neq 37 (.i 1)) 35,.gf 39 (.mv 38) 35,.gt 40 (.fa 2 4) 39,.gt 41 (.ld false 1 40) 39,.gt 42 (.bin .neq 41 (.s [])) 39,.gf 43 (.pick 39 42 .n) 35,.ex 44 (.pick 35 .y 43)]) (.cnd 44 (.s (.r [.m1 2 .n]) .ret) .skip)) (.s (.s (.d [.mv 45 3,.b1 46 .gtr 45 (.i 0),.mv 47 46,.gt 48 (.mv 0) 47,.gt 49 (.mv 3) 47,.gt 50 (.bin .sub 49 (.i 1)) 47,.gt 51 (.ia 3 48 50) 47,.gt 52 (.fa 0 51) 47,.gt 53 (.ld false 1 52) 47,.gt 54 (.fa 0 4) 47,.gt 55 (.ld false 1 54) 47,.gt 56 (.bin .geq 53 55) 47,.ex 57 (.pick 47 56 .n),.mv 58 57,.gf 59 (.mv 0) 58,.gf 60 (.mv 3) 58,.gf 61 (.slr 3 59 .none (.some 60)) 58,.gf 62 (.fa 0 4) 58,.gf 63 (.ld false 1 62) 58,.gf 64 (.call 205 [61,63]) 58,.gf 65 (.un .not 64) 58,.ex 66 (.pick 58 .y 65)]) (.cnd 66 (.s (.r [.m1 2 .n]) .ret) .skip)) (.s (.d [.f1 67 1 4,.l1 68 1 67,.b1 69 .gtr 68 (.i 2),.mv 70 69,.gt 71 (.mv 0) 70,.gt 72 (.mv 3) 70,.gt 73 (.slr 3 71 .none (.some 72)) 70,.gt 74 (.fa 0 4) 70,.gt 75 (.ld false 1 74) 70,.gt 76 (.call 206 [73,75]) 70,.ex 77 (.pick 70 76 .n)]) (.cnd 77 (.s (.r [.m1 2 .n]) .ret) .skip)))))) (.r [.mv 9 3,.b1 10 .add 9 (.i 1),.mv 3 10])))))) (.s (.r [.mv 78 0,.ex 79 (.len false 78),.b1 80 .leq 79 (.i 32),.mv 2 80]) .ret)))
theorem c_spec_LayerOk_eq:compF Tryz.prog [] 171=some (c_spec_LayerOk.ac,[(.t 2)],81):=by kernel_rfl
theorem f_spec_LayerOk (W0:World) (t:List Mark):Fn Tryz.prog W0 171 [eMarks t] (.c (CB (lOk t))) []:=by
 refine fnX (c:=c_spec_LayerOk) mixed c_spec_LayerOk_eq (by simp) rfl fun hg=>?_
 have g1:=goodRow (hg _ (by simp:eMarks t∈_))
 refine dr ?_
 refine lp (σ:=Nat) (fun k=>[(0,.c (eMarks t)),(3,I k)]) (fun _=>[]) (fun k=>k≤t.length∧∀ j (h:j < t.length),j < k→mok1 (t.take j) t[j]=true) (fun k=>t.length - k) 0 ⟨by simp,by simp⟩ ?_ ?_
 ·refine dr ?_
  trivial
 rintro k ⟨hk,ha⟩
 refine dr ?_
 refine cP (fun h2=>?_) (fun h2=>?_)
 rotate_left
 ·refine dr ?_
  refine congrArg CB ?_
  rw [lOk,mokA0.2 fun j h=>ha j h (by omega),Bool.eq_iff_iff]; simp [leI_d]; omega
 have hk':k < t.length:=by omega
 have no:mok1 (t.take k) t[k]=false→CB false=CB (lOk t):=fun h=>bF (by
  rw [lOk,Bool.and_eq_false_iff]; right
  rw [Bool.eq_false_iff]; intro e
  have:=mokA0.1 e k hk'
  rw [h] at this; cases this)
 refine dr ?_
 refine cP (fun h3=>?_) (fun h3=>?_)
 ·refine dr ?_
  exact no (by simp [mok1]; omega)
 refine dr ?_
 refine cP (fun h4=>?_) (fun h4=>?_)
 ·refine dr ?_
  exact no (by simp [mok1]; omega)
 have h34:(decide (1≤t[k].kind)&&decide (t[k].kind≤4))=true:=by simp; omega
 refine dr ?_
 repeat (refine c0 (f_spec_PathOk W0 _) rfl ?_; first | refine dr ?_ | exact dz)
 refine cP (fun h5=>?_) (fun h5=>?_)
 ·refine dr ?_
  exact no (by simp [mok1,h5])
 refine dr ?_
 repeat (refine c0 (f_l2Data W0 _) rfl ?_; first | refine dr ?_ | exact dz)
 refine cP (fun h6=>?_) (fun h6=>?_)
 ·refine dr ?_
  exact no (by simp [mok1,h6])
 refine dr ?_
 refine cP (fun h70=>?_) (fun h70=>?_)
 ·refine dr ?_
  refine cP (fun h71=>?_) (fun h71=>?_)
  ·refine dr ?_
   exact no (by simp [mok1,h70,h71])
  ·have h7:(!(t[k].kind != 1&&t[k].data != []))=true:=by simp [h71]
   clear h71
   refine dr ?_
   refine cP (fun h8=>?_) (fun h8=>?_)
   ·have hl:(t.take k).getLast? = some t[k - 1]:=by
     rw [List.getLast?_take,if_neg (by omega),List.getElem?_eq_getElem (by omega)]
     rfl
    refine dr ?_
    repeat (refine aM (j:=k - 1) (by omega) (by omega) ?_; first | refine dr ?_ | exact dz)
    cases hlt:ltS t[k - 1].path t[k].path
    ·refine dr ?_
     exact no (by simp [mok1,mlast,hl,hlt])
    ·have hlast:mlast (t.take k) t[k].path=true:=by rw [mlast,hl]; exact hlt
     refine dEr ?_
     repeat ((first | refine sHiM k rfl (by omega) ?_ | refine c0 (f_l3In W0 (t.take k) _) rfl ?_); first | refine dEr ?_ | exact dz)
     refine cP (fun h9=>?_) (fun h9=>?_)
     ·refine dr ?_
      exact no (by simp [mok1,h9])
     ·refine dr ?_
      refine cP (fun h10=>?_) (fun h10=>?_)
      ·refine dEr ?_
       repeat ((first | refine sHiM k rfl (by omega) ?_ | refine c0 (f_l3Bare W0 (t.take k) _) rfl ?_); first | refine dEr ?_ | exact dz)
       refine cP (fun h11=>?_) (fun h11=>?_)
       ·refine dr ?_
        exact no (by simp [mok1,h10,h11])
       ·refine dr ?_
        refine ⟨k+1,⟨by omega,fun j h hj=>?_⟩,by omega,?_⟩
        ·by_cases e:j=k
         ·subst e; rw [mok1,h34,h5,h6,h7,hlast,h9,h11]; simp
         ·exact ha j h (by omega)
        ·refine dr ?_
         trivial
      ·refine dr ?_
       refine ⟨k+1,⟨by omega,fun j h hj=>?_⟩,by omega,?_⟩
       ·by_cases e:j=k
        ·subst e; rw [mok1,h34,h5,h6,h7,hlast,h9]; simp; omega
        ·exact ha j h (by omega)
       ·refine dr ?_
        trivial
   ·have hlast:mlast (t.take k) t[k].path=true:=by
     have hk0:k=0:=by omega
     subst hk0; rfl
    refine dEr ?_
    repeat ((first | refine sHiM k rfl (by omega) ?_ | refine c0 (f_l3In W0 (t.take k) _) rfl ?_); first | refine dEr ?_ | exact dz)
    refine cP (fun h9=>?_) (fun h9=>?_)
    ·refine dr ?_
     exact no (by simp [mok1,h9])
    ·refine dr ?_
     refine cP (fun h10=>?_) (fun h10=>?_)
     ·refine dEr ?_
      repeat ((first | refine sHiM k rfl (by omega) ?_ | refine c0 (f_l3Bare W0 (t.take k) _) rfl ?_); first | refine dEr ?_ | exact dz)
      refine cP (fun h11=>?_) (fun h11=>?_)
      ·refine dr ?_
       exact no (by simp [mok1,h10,h11])
      ·refine dr ?_
       refine ⟨k+1,⟨by omega,fun j h hj=>?_⟩,by omega,?_⟩
       ·by_cases e:j=k
        ·subst e; rw [mok1,h34,h5,h6,h7,hlast,h9,h11]; simp
        ·exact ha j h (by omega)
       ·refine dr ?_
        trivial
     ·refine dr ?_
      refine ⟨k+1,⟨by omega,fun j h hj=>?_⟩,by omega,?_⟩
      ·by_cases e:j=k
       ·subst e; rw [mok1,h34,h5,h6,h7,hlast,h9]; simp; omega
       ·exact ha j h (by omega)
      ·refine dr ?_
       trivial
 ·have h7:(!(t[k].kind != 1&&t[k].data != []))=true:=by simp [h70]
  refine dr ?_
  refine cP (fun h8=>?_) (fun h8=>?_)
  ·have hl:(t.take k).getLast? = some t[k - 1]:=by
    rw [List.getLast?_take,if_neg (by omega),List.getElem?_eq_getElem (by omega)]
    rfl
   refine dr ?_
   repeat (refine aM (j:=k - 1) (by omega) (by omega) ?_; first | refine dr ?_ | exact dz)
   cases hlt:ltS t[k - 1].path t[k].path
   ·refine dr ?_
    exact no (by simp [mok1,mlast,hl,hlt])
   ·have hlast:mlast (t.take k) t[k].path=true:=by rw [mlast,hl]; exact hlt
    refine dEr ?_
    repeat ((first | refine sHiM k rfl (by omega) ?_ | refine c0 (f_l3In W0 (t.take k) _) rfl ?_); first | refine dEr ?_ | exact dz)
    refine cP (fun h9=>?_) (fun h9=>?_)
    ·refine dr ?_
     exact no (by simp [mok1,h9])
    ·refine dr ?_
     refine cP (fun h10=>?_) (fun h10=>?_)
     ·refine dEr ?_
      repeat ((first | refine sHiM k rfl (by omega) ?_ | refine c0 (f_l3Bare W0 (t.take k) _) rfl ?_); first | refine dEr ?_ | exact dz)
      refine cP (fun h11=>?_) (fun h11=>?_)
      ·refine dr ?_
       exact no (by simp [mok1,h10,h11])
      ·refine dr ?_
       refine ⟨k+1,⟨by omega,fun j h hj=>?_⟩,by omega,?_⟩
       ·by_cases e:j=k
        ·subst e; rw [mok1,h34,h5,h6,h7,hlast,h9,h11]; simp
        ·exact ha j h (by omega)
       ·refine dr ?_
        trivial
     ·refine dr ?_
      refine ⟨k+1,⟨by omega,fun j h hj=>?_⟩,by omega,?_⟩
      ·by_cases e:j=k
       ·subst e; rw [mok1,h34,h5,h6,h7,hlast,h9]; simp; omega
       ·exact ha j h (by omega)
      ·refine dr ?_
       trivial
  ·have hlast:mlast (t.take k) t[k].path=true:=by
    have hk0:k=0:=by omega
    subst hk0; rfl
   refine dEr ?_
   repeat ((first | refine sHiM k rfl (by omega) ?_ | refine c0 (f_l3In W0 (t.take k) _) rfl ?_); first | refine dEr ?_ | exact dz)
   refine cP (fun h9=>?_) (fun h9=>?_)
   ·refine dr ?_
    exact no (by simp [mok1,h9])
   ·refine dr ?_
    refine cP (fun h10=>?_) (fun h10=>?_)
    ·refine dEr ?_
     repeat ((first | refine sHiM k rfl (by omega) ?_ | refine c0 (f_l3Bare W0 (t.take k) _) rfl ?_); first | refine dEr ?_ | exact dz)
     refine cP (fun h11=>?_) (fun h11=>?_)
     ·refine dr ?_
      exact no (by simp [mok1,h10,h11])
     ·refine dr ?_
      refine ⟨k+1,⟨by omega,fun j h hj=>?_⟩,by omega,?_⟩
      ·by_cases e:j=k
       ·subst e; rw [mok1,h34,h5,h6,h7,hlast,h9,h11]; simp
       ·exact ha j h (by omega)
      ·refine dr ?_
       trivial
    ·refine dr ?_
     refine ⟨k+1,⟨by omega,fun j h hj=>?_⟩,by omega,?_⟩
     ·by_cases e:j=k
      ·subst e; rw [mok1,h34,h5,h6,h7,hlast,h9]; simp; omega
      ·exact ha j h (by omega)
     ·refine dr ?_
      trivial
end Go.Proofs.YteheahbjaddooaaGreatDoor

namespace Go.Proofs.YteheahbjaddooaaGreatDoor
set_option linter.unusedSimpArgs false
set_option linter.unusedVariables false
open Go Go.RowKit
def c_spec_LayerSame:XC:=(.s (.r [.m1 4 .n]) (.s (.s (.r [.mv 6 0,.ex 7 (.len false 6),.mv 8 1,.ex 9 (.len false 8),.b1 10 .neq 7 9]) (.cnd 10 (.s (.r [.m1 4 .n]) .ret) .skip)) (.s (.s (.r [.m1 5 (.i 0)]) (.blk 0 (.loop (.s (.s (.r [.mv 11 5,.mv 12 0,.ex 13 (.len false 12),.b1 14 .lss 11 13]) (.cnd 14 .skip (.exit 0))) (.s (.blk 1 (.s (.d [.mv 17 0,.mv 18 5,.ex 19 (.ia 3 17 18),.l2 20 3 19,.mv 21 1,.mv 22 5,.ex 23 (.ia 3 21 22),.l2 24 3 23,.ex 25 (.beq true [.s,(.i .i64),.s] 20 24)]) (.cnd 25 (.s (.r [.m1 4 .n]) .ret) .skip))) (.r [.mv 15 5,.b1 16 .add 15 (.i 1),.mv 5 16])))))) (.s (.r [.m1 4 .y]) .ret))))
theorem c_spec_LayerSame_eq:compF Tryz.prog [] 75=some (c_spec_LayerSame.ac,[(.t 4)],26):=by kernel_rfl
theorem f_spec_LayerSame (W0:World) (a b:List Mark):Fn Tryz.prog W0 75 [eMarks a,eMarks b] (.c (CB (decide (a=b)))) []:=by
 refine fnX (c:=c_spec_LayerSame) mixed c_spec_LayerSame_eq (by simp) rfl fun hg=>?_
 have g1:=goodRow (hg _ (by simp:eMarks a∈_))
 refine dr ?_
 refine cP (fun h1=>?_) (fun h1=>?_)
 ·conv=>whnf
  exact dF (ne_len (by omega))
 conv=>whnf
 refine lp (σ:=Nat) (fun k=>[(0,.c (eMarks a)),(1,.c (eMarks b)),(5,I k)]) (fun _=>[]) (fun k=>k≤a.length∧a.take k=b.take k) (fun k=>a.length - k) 0 ⟨by simp,by simp⟩ ?_ ?_
 ·refine dr ?_
  trivial
 rintro k ⟨hk,he⟩
 refine dr ?_
 refine cP (fun h2=>?_) (fun h2=>?_)
 ·refine dr ?_
  rw [bqMark]
  refine cP (fun h3=>?_) (fun h3=>?_)
  rotate_left
  ·refine dr ?_
   refine ⟨k+1,⟨by omega,take_next (by omega) (by omega) he (by simpa using h3)⟩,by omega,?_⟩
   refine dr ?_
   trivial
  ·conv=>whnf
   exact dF (ne_at (k:=k) (by omega) (by omega) (by simpa using h3))
 ·refine dr ?_
  have:k=a.length:=by omega
  subst this
  exact dT (eq_of_takes (by omega) he)
def c_EqEnt:XC:=(.s (.r [.m1 4 .n]) (.s (.s (.r [.mv 6 0,.ex 7 (.len false 6),.mv 8 1,.ex 9 (.len false 8),.b1 10 .neq 7 9]) (.cnd 10 (.s (.r [.m1 4 .n]) .ret) .skip)) (.s (.s (.r [.mv 11 0,.ex 12 (.len false 11),.m1 13 (.i 0)]) (.blk 0 (.loop (.s (.r [.b1 14 .lss 13 12]) (.s (.cnd 14 .skip (.exit 0)) (.s (.blk 1 (.s (.r [.mv 15 13,.mv 5 15]) (.s (.d [.mv 16 0,.mv 17 5,.ex 18 (.ia 3 16 17),.l2 19 3 18,.mv 20 1,.mv 21 5,.ex 22 (.ia 3 20 21),.l2 23 3 22,.ex 24 (.beq true [.s,.b,.s] 19 23)]) (.cnd 24 (.s (.r [.m1 4 .n]) .ret) .skip)))) (.r [.b1 25 .add 13 (.i 1),.mv 13 25]))))))) (.s (.r [.m1 4 .y]) .ret))))
theorem c_EqEnt_eq:compF Tryz.prog [] 91=some (c_EqEnt.ac,[(.t 4)],26):=by kernel_rfl
theorem f_EqEnt (W0:World) (a b:List Ent):Fn Tryz.prog W0 91 [eEnts a,eEnts b] (.c (CB (decide (a=b)))) []:=by
 refine fnX (c:=c_EqEnt) mixed c_EqEnt_eq (by simp) rfl fun hg=>?_
 have g1:=goodRow (hg _ (by simp:eEnts a∈_))
 refine dr ?_
 refine cP (fun h1=>?_) (fun h1=>?_)
 ·conv=>whnf
  exact dF (ne_len (by omega))
 refine dr ?_
 refine lp (σ:=Nat) (fun k=>[(0,.c (eEnts a)),(1,.c (eEnts b)),(12,I a.length),(13,I k)]) (fun _=>[]) (fun k=>k≤a.length∧a.take k=b.take k) (fun k=>a.length - k) 0 ⟨by simp,by simp⟩ ?_ ?_
 ·refine dr ?_
  trivial
 rintro k ⟨hk,he⟩
 refine dr ?_
 refine cP (fun h2=>?_) (fun h2=>?_)
 ·refine dr ?_
  rw [bqEnt]
  refine cP (fun h3=>?_) (fun h3=>?_)
  rotate_left
  ·refine dr ?_
   refine ⟨k+1,⟨by omega,take_next (by omega) (by omega) he (by simpa using h3)⟩,by omega,?_⟩
   refine dr ?_
   trivial
  ·conv=>whnf
   exact dF (ne_at (k:=k) (by omega) (by omega) (by simpa using h3))
 ·refine dr ?_
  have:k=a.length:=by omega
  subst this
  exact dT (eq_of_takes (by omega) he)
def c_EqMark:XC:=(.s (.r [.m1 4 .n]) (.s (.s (.r [.mv 6 0,.ex 7 (.len false 6),.mv 8 1,.ex 9 (.len false 8),.b1 10 .neq 7 9]) (.cnd 10 (.s (.r [.m1 4 .n]) .ret) .skip)) (.s (.s (.r [.mv 11 0,.ex 12 (.len false 11),.m1 13 (.i 0)]) (.blk 0 (.loop (.s (.r [.b1 14 .lss 13 12]) (.s (.cnd 14 .skip (.exit 0)) (.s (.blk 1 (.s (.r [.mv 15 13,.mv 5 15]) (.s (.d [.mv 16 0,.mv 17 5,.ex 18 (.ia 3 16 17),.l2 19 3 18,.mv 20 1,.mv 21 5,.ex 22 (.ia 3 20 21),.l2 23 3 22,.ex 24 (.beq true [.s,(.i .i64),.s] 19 23)]) (.cnd 24 (.s (.r [.m1 4 .n]) .ret) .skip)))) (.r [.b1 25 .add 13 (.i 1),.mv 13 25]))))))) (.s (.r [.m1 4 .y]) .ret))))
theorem c_EqMark_eq:compF Tryz.prog [] 138=some (c_EqMark.ac,[(.t 4)],26):=by kernel_rfl
theorem f_EqMark (W0:World) (a b:List Mark):Fn Tryz.prog W0 138 [eMarks a,eMarks b] (.c (CB (decide (a=b)))) []:=by
 refine fnX (c:=c_EqMark) mixed c_EqMark_eq (by simp) rfl fun hg=>?_
 have g1:=goodRow (hg _ (by simp:eMarks a∈_))
 refine dr ?_
 refine cP (fun h1=>?_) (fun h1=>?_)
 ·conv=>whnf
  exact dF (ne_len (by omega))
 refine dr ?_
 refine lp (σ:=Nat) (fun k=>[(0,.c (eMarks a)),(1,.c (eMarks b)),(12,I a.length),(13,I k)]) (fun _=>[]) (fun k=>k≤a.length∧a.take k=b.take k) (fun k=>a.length - k) 0 ⟨by simp,by simp⟩ ?_ ?_
 ·refine dr ?_
  trivial
 rintro k ⟨hk,he⟩
 refine dr ?_
 refine cP (fun h2=>?_) (fun h2=>?_)
 ·refine dr ?_
  rw [bqMark]
  refine cP (fun h3=>?_) (fun h3=>?_)
  rotate_left
  ·refine dr ?_
   refine ⟨k+1,⟨by omega,take_next (by omega) (by omega) he (by simpa using h3)⟩,by omega,?_⟩
   refine dr ?_
   trivial
  ·conv=>whnf
   exact dF (ne_at (k:=k) (by omega) (by omega) (by simpa using h3))
 ·refine dr ?_
  have:k=a.length:=by omega
  subst this
  exact dT (eq_of_takes (by omega) he)
def c_SEnt:XC:=(.s (.r [.m1 4 .n]) (.s (.r [.mv 5 0,.mv 6 1,.c1 7 91 [5,6],.mv 4 7]) .ret))
theorem c_SEnt_eq:compF Tryz.prog [] 32=some (c_SEnt.ac,[(.t 4)],8):=by kernel_rfl
theorem f_impl_EntsSame (W0:World) (a b:List Ent):Fn Tryz.prog W0 32 [eEnts a,eEnts b] (.c (CB (decide (a=b)))) []:=by
 refine fnX (c:=c_SEnt) mixed c_SEnt_eq (by simp) rfl fun hg=>?_
 refine dr ?_
 repeat (refine c0 (f_EqEnt W0 a b) rfl ?_; first | refine dr ?_ | exact dz)
def c_SMark:XC:=(.s (.r [.m1 4 .n]) (.s (.r [.mv 5 0,.mv 6 1,.c1 7 138 [5,6],.mv 4 7]) .ret))
theorem c_SMark_eq:compF Tryz.prog [] 86=some (c_SMark.ac,[(.t 4)],8):=by kernel_rfl
theorem f_impl_MarksSame (W0:World) (a b:List Mark):Fn Tryz.prog W0 86 [eMarks a,eMarks b] (.c (CB (decide (a=b)))) []:=by
 refine fnX (c:=c_SMark) mixed c_SMark_eq (by simp) rfl fun hg=>?_
 refine dr ?_
 repeat (refine c0 (f_EqMark W0 a b) rfl ?_; first | refine dr ?_ | exact dz)
def c_EqFM:XC:=(.s (.r [.m1 6 .n]) (.s (.s (.r [.mv 10 0,.ex 11 (.len false 10),.mv 12 1,.ex 13 (.len false 12),.b1 14 .neq 11 13]) (.cnd 14 (.s (.r [.m1 6 .n]) .ret) .skip)) (.s (.s (.r [.mv 15 0,.ex 16 (.len false 15),.m1 17 (.i 0)]) (.blk 0 (.loop (.s (.r [.b1 18 .lss 17 16]) (.s (.cnd 18 .skip (.exit 0)) (.s (.blk 1 (.s (.r [.mv 19 17,.ex 20 (.ia 1 15 17),.l1 21 1 20,.mv 7 19,.ex 8 (.asn 21 3 133)]) (.s (.r [.mv 22 1,.mv 23 7,.ex 24 (.ia 1 22 23),.l1 25 1 24,.ex 9 (.asn 25 3 133)]) (.s (.r [.mv 26 2,.mv 27 8,.mv 28 9,.ex 29 (.callv 26 [27,28]),.ex 30 (.un .not 29)]) (.cnd 30 (.s (.r [.m1 6 .n]) .ret) .skip))))) (.r [.b1 31 .add 17 (.i 1),.mv 17 31]))))))) (.s (.r [.m1 6 .y]) .ret))))
theorem c_EqFM_eq:compF Tryz.prog [] 85=some (c_EqFM.ac,[(.t 6)],32):=by kernel_rfl
theorem f_EqFM (W0:World) (a b:List (List Mark)):Fn Tryz.prog W0 85 [eMarkss a,eMarkss b,.sc (.func (.func 86) #[] #[])] (.c (CB (decide (a=b)))) []:=by
 refine fnX (c:=c_EqFM) mixed c_EqFM_eq (by simp) rfl fun hg=>?_
 have g1:=goodRow (hg _ (by simp:eMarkss a∈_))
 refine dr ?_
 refine cP (fun h1=>?_) (fun h1=>?_)
 ·conv=>whnf
  exact dF (ne_len (by omega))
 refine dr ?_
 refine lp (σ:=Nat) (fun k=>[(0,.c (eMarkss a)),(1,.c (eMarkss b)),(2,.c (.sc (.func (.func 86) #[] #[]))),(15,.c (eMarkss a)),(16,I a.length),(17,I k)]) (fun _=>[]) (fun k=>k≤a.length∧a.take k=b.take k) (fun k=>a.length - k) 0 ⟨by simp,by simp⟩ ?_ ?_
 ·refine dr ?_
  trivial
 rintro k ⟨hk,he⟩
 refine dr ?_
 refine cP (fun h2=>?_) (fun h2=>?_)
 ·refine dr ?_
  repeat ((first | refine oB ⟨by kernel_rfl,by simp⟩ ?_ | refine c0 (f_impl_MarksSame W0 _ _) rfl ?_); first | refine dr ?_ | exact dz)
  refine cP (fun h3=>?_) (fun h3=>?_)
  rotate_left
  ·refine dr ?_
   refine ⟨k+1,⟨by omega,take_next (by omega) (by omega) he (by simpa using h3)⟩,by omega,?_⟩
   refine dr ?_
   trivial
  ·conv=>whnf
   exact dF (ne_at (k:=k) (by omega) (by omega) (by simpa using h3))
 ·refine dr ?_
  have:k=a.length:=by omega
  subst this
  exact dT (eq_of_takes (by omega) he)
def c_impl_OverSame:XC:=(.s (.r [.ex 2 (.box 0),.ex 3 (.box 1),.m1 4 .n]) (.s (.r [.f1 5 0 2,.l1 6 1 5,.f1 7 0 3,.l1 8 1 7,.c1 9 32 [6,8],.mv 10 9,.gt 11 (.fa 1 2) 10,.gt 12 (.ld false 1 11) 10,.gt 13 (.fa 1 3) 10,.gt 14 (.ld false 1 13) 10,.gt 15 (.call 85 [12,14,(.k (.c (.sc (.func (.func 86) #[] #[]))))]) 10,.ex 16 (.pick 10 15 .n),.mv 17 16,.gt 18 (.fa 2 2) 17,.gt 19 (.ld false 1 18) 17,.gt 20 (.fa 2 3) 17,.gt 21 (.ld false 1 20) 17,.gt 22 (.call 86 [19,21]) 17,.ex 23 (.pick 17 22 .n),.mv 4 23]) .ret))
theorem c_impl_OverSame_eq:compF Tryz.prog [] 30=some (c_impl_OverSame.ac,[(.t 4)],24):=by kernel_rfl
theorem f_impl_OverSame (W0:World) (a b:Over):Fn Tryz.prog W0 30 [eOver a,eOver b] (.c (CB (decide (a=b)))) []:=by
 refine fnX (c:=c_impl_OverSame) mixed c_impl_OverSame_eq (by simp) rfl fun hg=>?_
 refine dr ?_
 repeat (refine c0 (f_impl_EntsSame W0 a.base b.base) rfl ?_; first | refine dr ?_ | exact dz)
 refine cP (fun h1=>?_) (fun h1=>?_)
 rotate_left
 ·refine dr ?_
  exact dF fun e=>by simp [e] at h1
 refine dr ?_
 repeat (refine c0 (f_EqFM W0 a.layers b.layers) rfl ?_; first | refine dr ?_ | exact dz)
 refine cP (fun h2=>?_) (fun h2=>?_)
 rotate_left
 ·refine dr ?_
  exact dF fun e=>by simp [e] at h2
 refine dr ?_
 repeat (refine c0 (f_impl_MarksSame W0 a.upper b.upper) rfl ?_; first | refine dr ?_ | exact dz)
 exact congrArg CB (by cases a; cases b; simp_all)
end Go.Proofs.YteheahbjaddooaaGreatDoor

namespace Go.Proofs.YteheahbjaddooaaGreatDoor
set_option linter.unusedSimpArgs false
set_option linter.unusedVariables false
open Go Go.RowKit
def c_spec_l3On:XC:=(.s (.r [.ex 4 (.asn (.k .nil) 3 39)]) (.s (.r [.ex 8 .bsl0,.ex 5 (.asn 8 3 39)]) (.s (.s (.r [.m1 6 (.i 0)]) (.blk 0 (.loop (.s (.s (.r [.mv 9 6,.mv 10 1,.ex 11 (.len false 10),.b1 12 .lss 9 11]) (.cnd 12 .skip (.exit 0))) (.s (.blk 1 (.s (.r [.mv 15 0,.mv 16 1,.mv 17 6,.ex 18 (.ia 3 16 17),.f1 19 0 18,.l1 20 1 19,.c1 21 207 [15,20],.ex 22 (.un .not 21)]) (.cnd 22 (.r [.mv 23 5,.mv 24 1,.mv 25 6,.ex 26 (.ia 3 24 25),.l2 27 3 26,.ex 28 (.bsl 3 39 [27]),.ex 29 (.app false 3 40 39 23 28),.ex 5 (.asn 29 3 39)]) .skip))) (.r [.mv 13 6,.b1 14 .add 13 (.i 1),.mv 6 14])))))) (.s (.s (.r [.m1 7 (.i 0)]) (.blk 2 (.loop (.s (.s (.r [.mv 30 7,.mv 31 0,.ex 32 (.len false 31),.b1 33 .lss 30 32]) (.cnd 33 .skip (.exit 2))) (.s (.blk 3 (.s (.r [.mv 36 0,.mv 37 7,.ex 38 (.ia 3 36 37),.f1 39 1 38,.l1 40 1 39]) (.blk 4 (.s (.r [.b1 42 .eql 40 (.i 1),.mv 41 42]) (.cnd 41 (.d [.mv 43 5,.mv 44 0,.mv 45 7,.ex 46 (.ia 3 44 45),.f1 47 0 46,.l1 48 1 47,.mv 49 0,.mv 50 7,.ex 51 (.ia 3 49 50),.f1 52 2 51,.l1 53 1 52,.ex 54 (.build [sE,(B false),sE] [(0,(1,48)),(2,(1,53))]),.c1 55 178 [43,54],.ex 5 (.asn 55 3 39)]) (.s (.s (.r [.b1 57 .eql 40 (.i 2),.mv 56 57]) (.cnd 56 .skip (.r [.b1 58 .eql 40 (.i 4),.mv 56 58]))) (.cnd 56 (.r [.mv 59 5,.mv 60 0,.mv 61 7,.ex 62 (.ia 3 60 61),.f1 63 0 62,.l1 64 1 63,.ex 65 (.build [sE,(B false),sE] [(0,(1,64)),(1,(1,.y))]),.c1 66 178 [59,65],.ex 5 (.asn 66 3 39)]) .skip))))))) (.r [.mv 34 7,.b1 35 .add 34 (.i 1),.mv 7 35])))))) (.s (.r [.mv 67 5,.ex 4 (.asn 67 3 39)]) .ret)))))
theorem c_spec_l3On_eq:compF Tryz.prog [] 172=some (c_spec_l3On.ac,[(.t 4)],68):=by kernel_rfl
theorem f_l3On (W0:World) (l:List Mark) (t:List Ent) (ht:t.length+l.length≤1000000):Fn Tryz.prog W0 172 [eMarks l,eEnts t] (.c (eEnts (onRaw l t))) []:=by
 refine fnX (c:=c_spec_l3On) mixed c_spec_l3On_eq (by simp) rfl fun hg=>?_
 refine dr ?_
 refine lp (σ:=Nat) (fun k=>[(0,.c (eMarks l)),(1,.c (eEnts t)),(5,.own 80 ((t.take k).filter fun e=>!hides l e.path).length),(6,I k)]) (fun k=>[(80,.row (((t.take k).filter fun e=>!hides l e.path).map eEnt) 3 39)]) (fun k=>k≤t.length) (fun k=>t.length - k) 0 (by simp) ?_ ?_
 ·refine dr ?_
  trivial
 intro k hk
 have hfl:=filt_le (q:=fun e:Ent=>!hides l e.path) (l:=t) (k:=k)
 refine dr ?_
 refine cP (fun h1=>?_) (fun h1=>?_)
 ·have hk':k < t.length:=by omega
  refine dEr ?_
  repeat (refine c0 (f_l3Hides W0 _ _) rfl ?_; first | refine dEr ?_ | exact dz)
  refine cP (fun h2=>?_) (fun h2=>?_)
  ·refine dr ?_
   repeat ((first | refine oB (by simp; omega) ?_ | refine oB (by simp) ?_); first | refine dr ?_ | exact dz)
   refine ⟨k+1,by omega,by omega,?_⟩
   refine dr ?_
   repeat (refine oB (by rw [filt_t hk' (by simp [h2])]; simp) ?_; first | refine dr ?_ | exact dz)
   trivial
  ·refine dr ?_
   refine ⟨k+1,by omega,by omega,?_⟩
   refine dr ?_
   repeat (refine oB (by rw [filt_f hk' (by simp [h2])]) ?_; first | refine dr ?_ | exact dz)
   trivial
 have hkl:k=t.length:=by omega
 subst hkl
 rw [List.take_length] at hfl ⊢
 have hR:onRaw l t=l.foldl onP (t.filter fun e=>!hides l e.path):=rfl
 rw [hR]
 generalize (t.filter fun e=>!hides l e.path)=t0 at *
 refine dr ?_
 refine lz (σ:=Nat) 80 (fun k=>[(0,.c (eMarks l)),(1,.c (eEnts t)),(5,.c (eEnts ((l.take k).foldl onP t0))),(7,I k)]) (fun _=>[]) (fun k=>k≤l.length) (fun k=>l.length - k) 0 (by simp) ?_ ?_
 ·refine dr ?_
  repeat (refine oB (by simp) ?_; first | refine dr ?_ | exact dz)
  trivial
 clear h1
 intro k hk
 have hlk:=fold_on_len (l.take k) t0
 have hlk2:=List.length_take_le' k l
 refine dr ?_
 refine cP (fun h1=>?_) (fun h1=>?_)
 ·have hk':k < l.length:=by omega
  refine dr ?_
  refine cP (fun h2=>?_) (fun h2=>?_)
  ·refine dr ?_
   repeat (refine c0 (f_l2Put W0 _ ⟨_,_,_⟩ (by omega)) rfl ?_; first | refine dr ?_ | exact dz)
   intro hg1
   refine dr ?_
   refine ⟨k+1,by omega,by omega,?_⟩
   refine dr ?_
   repeat (refine oB (by rw [fold_next hk',onP,if_pos h2]) ?_; first | refine dr ?_ | exact dz)
   trivial
  ·refine dr ?_
   refine cP (fun h3=>?_) (fun h3=>?_)
   ·refine dr ?_
    refine cP (fun h30=>?_) (fun h30=>?_)
    rotate_left
    ·omega
    refine dr ?_
    repeat (refine c0 (f_l2Put W0 _ ⟨_,_,_⟩ (by omega)) rfl ?_; first | refine dr ?_ | exact dz)
    intro hg1
    refine dr ?_
    refine ⟨k+1,by omega,by omega,?_⟩
    refine dr ?_
    repeat (refine oB (by rw [fold_next hk',onP,if_neg h2,if_pos (.inl h3)]) ?_; first | refine dr ?_ | exact dz)
    trivial
   ·refine dr ?_
    refine cP (fun h4=>?_) (fun h4=>?_)
    ·refine dr ?_
     repeat (refine c0 (f_l2Put W0 _ ⟨_,_,_⟩ (by omega)) rfl ?_; first | refine dr ?_ | exact dz)
     intro hg1
     refine dr ?_
     refine ⟨k+1,by omega,by omega,?_⟩
     refine dr ?_
     repeat (refine oB (by rw [fold_next hk',onP,if_neg h2,if_pos (.inr h4)]) ?_; first | refine dr ?_ | exact dz)
     trivial
    ·refine dr ?_
     refine ⟨k+1,by omega,by omega,?_⟩
     refine dr ?_
     repeat (refine oB (by rw [fold_next hk',onP,if_neg h2,if_neg (by omega)]) ?_; first | refine dr ?_ | exact dz)
     trivial
 have hkl:k=l.length:=by omega
 refine dr ?_
 rw [hkl,List.take_length]
def c_spec_LayerOn:XC:=(.s (.r [.ex 4 (.asn (.k .nil) 3 39),.m1 5 .n]) (.s (.s (.r [.mv 7 0,.c1 8 171 [7],.ex 9 (.un .not 8),.mv 10 9,.gf 11 (.mv 1) 10,.gf 12 (.call 119 [11]) 10,.gf 13 (.un .not 12) 10,.ex 14 (.pick 10 .y 13)]) (.cnd 14 (.s (.r [.ex 15 .bsl0,.ex 4 (.asn 15 3 39),.m1 5 .n]) .ret) .skip)) (.s (.r [.mv 16 0,.mv 17 1,.c1 18 172 [16,17],.ex 6 (.asn 18 3 39)]) (.s (.s (.r [.mv 19 6,.ex 20 (.len false 19),.b1 21 .gtr 20 (.i 16)]) (.cnd 21 (.s (.r [.ex 22 .bsl0,.ex 4 (.asn 22 3 39),.m1 5 .n]) .ret) .skip)) (.s (.r [.mv 23 6,.ex 4 (.asn 23 3 39),.m1 5 .y]) .ret)))))
theorem c_spec_LayerOn_eq:compF Tryz.prog [] 111=some (c_spec_LayerOn.ac,[(.t 4),(.t 5)],24):=by kernel_rfl
theorem f_spec_LayerOn (W0:World) (l:List Mark) (t:List Ent):Fn Tryz.prog W0 111 [eMarks l,eEnts t] (.c (eEntsO (lOn l t))) []:=by
 refine fnX (c:=c_spec_LayerOn) mixed c_spec_LayerOn_eq (by simp) rfl fun hg=>?_
 refine dr ?_
 repeat (refine c0 (f_spec_LayerOk W0 _) rfl ?_; first | refine dr ?_ | exact dz)
 refine cP (fun h1=>?_) (fun h1=>?_)
 ·refine dEr ?_
  rw [lOn,if_neg (by simp [h1])]; rfl
 refine dEr ?_
 repeat (refine c0 (f_spec_TreeOk W0 _) rfl ?_; first | refine dEr ?_ | exact dz)
 refine cP (fun h2=>?_) (fun h2=>?_)
 ·refine dr ?_
  rw [lOn,if_neg (by simp [h2])]; rfl
 have hl:l.length≤32:=by simp only [lOk,Bool.and_eq_true,decide_eq_true_eq] at h1; exact h1.1
 have ht:=(tOk_at h2).1
 refine dr ?_
 repeat (refine c0 (f_l3On W0 _ _ (by omega)) rfl ?_; first | refine dr ?_ | exact dz)
 intro hg2
 refine dr ?_
 rw [lOn,if_pos (by simp [h1,h2])]
 refine cP (fun h3=>?_) (fun h3=>?_)
 ·refine dr ?_
  rw [if_neg (by omega)]; rfl
 ·refine dr ?_
  rw [if_pos (by omega)]; rfl
def c_spec_l3Ups:XC:=(.s (.r [.ex 4 (.asn (.k .nil) 3 133)]) (.s (.r [.mv 6 1,.c1 7 123 [6],.mv 5 7]) (.s (.s (.r [.mv 8 5,.ex 9 (.bin .eql 8 (.s [47]))]) (.cnd 9 (.s (.r [.mv 10 0,.ex 4 (.asn 10 3 133)]) .ret) .skip)) (.s (.s (.r [.mv 11 0,.mv 12 5,.c1 13 181 [11,12],.b1 14 .eql 13 (.i 0)]) (.cnd 14 (.r [.mv 15 0,.mv 16 5,.ex 17 (.build [sE,(I 0),sE] [(0,(1,16)),(1,(1,(.i 2)))]),.c1 18 125 [15,17],.ex 0 (.asn 18 3 133)]) .skip)) (.s (.r [.mv 19 0,.mv 20 5,.c1 21 124 [19,20],.ex 4 (.asn 21 3 133)]) .ret)))))
theorem c_spec_l3Ups_eq:compF Tryz.prog [] 124=some (c_spec_l3Ups.ac,[(.t 4)],22):=by kernel_rfl
theorem f_l3Ups (W0:World):∀ (n:Nat) (l:List Mark) (p:Str),pOk p=true→(names p).length≤n→l.length+n≤1000000→Fn Tryz.prog W0 124 [eMarks l,CS p] (.c (eMarks ((upsN n p).foldl upsP l))) []
 | 0,l,p,hp,hn,_=>by have:=(pOk_names hp).1.1; omega
 | n+1,l,p,hp,hn,hl=>by
  refine fnX (c:=c_spec_l3Ups) mixed c_spec_l3Ups_eq (by simp) rfl fun hg=>?_
  refine dr ?_
  repeat (refine c0 (f_spec_PathUp W0 _) rfl ?_; first | refine dr ?_ | exact dz)
  intro hg1
  rw [upsN]
  refine cP (fun h1=>?_) (fun h1=>?_)
  ·refine dr ?_
   rw [if_pos h1]; rfl
  rw [if_neg h1]
  obtain ⟨u1,_,u2⟩:=pOk_up hp h1
  have e:((pUp p::upsN n (pUp p)).foldl upsP l)=(upsN n (pUp p)).foldl upsP (upsP l (pUp p)):=rfl
  rw [e,upsP]
  refine dr ?_
  repeat (refine c0 (f_l3Kind W0 _ _) rfl ?_; first | refine dr ?_ | exact dz)
  intro hg2
  refine cP (fun h2=>?_) (fun h2=>?_)
  ·rw [if_pos h2]
   have hpl:(lput l ⟨pUp p,2,[]⟩).length≤l.length+1:=putG_len
   refine dr ?_
   repeat (refine c0 (f_l3Put W0 _ ⟨pUp p,2,[]⟩ (by omega)) rfl ?_; first | refine dr ?_ | exact dz)
   intro hg3
   refine dr ?_
   repeat (refine c0 (f_l3Ups W0 n _ _ u1 (by omega) (by omega)) rfl ?_; first | refine dr ?_ | exact dz)
   intro hg4
   exact dz
  ·rw [if_neg h2]
   refine dr ?_
   repeat (refine c0 (f_l3Ups W0 n _ _ u1 (by omega) (by omega)) rfl ?_; first | refine dr ?_ | exact dz)
   intro hg4
   exact dz
def c_spec_l3Diff:XC:=(.s (.r [.ex 4 (.asn (.k .nil) 3 133)]) (.s (.r [.ex 11 .bsl0,.ex 5 (.asn 11 3 133)]) (.s (.r [.mv 12 0,.mv 13 1,.c1 14 120 [12,13],.ex 6 (.asn 14 1 9)]) (.s (.s (.r [.m1 7 (.i 0)]) (.blk 0 (.loop (.s (.s (.r [.mv 15 7,.mv 16 6,.ex 17 (.len false 16),.b1 18 .lss 15 17]) (.cnd 18 .skip (.exit 0))) (.s (.blk 1 (.s (.r [.mv 22 1,.mv 23 6,.mv 24 7,.ex 25 (.ia 1 23 24),.l1 26 1 25,.c1 27 121 [22,26],.mv 21 27,.ex 28 (.ext 21 0),.ex 29 (.ext 21 1),.ex 8 (.alloc [sE,(B false),sE]),.nu (.st 3 8 28),.mv 9 29]) (.s (.r [.mv 30 6,.mv 31 7,.ex 32 (.ia 1 30 31),.l1 33 1 32,.ex 34 (.build [sE,(I 0),sE] [(0,(1,33)),(1,(1,(.i 3)))]),.ex 10 (.alloc [sE,(I 0),sE]),.nu (.st 3 10 34)]) (.s (.s (.r [.mv 35 9]) (.cnd 35 (.d [.mv 36 6,.mv 37 7,.ex 38 (.ia 1 36 37),.l1 39 1 38,.f1 40 2 8,.l1 41 1 40,.ex 42 (.build [sE,(I 0),sE] [(0,(1,39)),(1,(1,(.i 1))),(2,(1,41))]),.nu (.st 3 10 42)]) .skip)) (.s (.s (.r [.mv 43 9,.mv 44 43,.gt 45 (.fa 1 8) 44,.gt 46 (.ld false 1 45) 44,.ex 47 (.pick 44 46 .n)]) (.cnd 47 (.r [.f1 48 1 10,.nu (.st 1 48 (.i 2))]) .skip)) (.s (.r [.mv 49 9,.mv 50 49,.gf 51 (.mv 1) 50,.gf 52 (.mv 6) 50,.gf 53 (.mv 7) 50,.gf 54 (.ia 1 52 53) 50,.gf 55 (.ld false 1 54) 50,.gf 56 (.call 123 [55]) 50,.gf 57 (.call 122 [51,56]) 50,.ex 58 (.pick 50 .y 57)]) (.cnd 58 (.d [.mv 59 5,.l2 60 3 10,.c1 61 125 [59,60],.mv 62 6,.mv 63 7,.ex 64 (.ia 1 62 63),.l1 65 1 64,.c1 66 124 [61,65],.ex 5 (.asn 66 3 133)]) .skip))))))) (.r [.mv 19 7,.b1 20 .add 19 (.i 1),.mv 7 20])))))) (.s (.r [.mv 67 5,.ex 4 (.asn 67 3 133)]) .ret)))))
theorem c_spec_l3Diff_eq:compF Tryz.prog [] 76=some (c_spec_l3Diff.ac,[(.t 4)],68):=by kernel_rfl
theorem f_l3Diff (W0:World) (a b:List Ent) (ha:tOk a=true) (hb:tOk b=true):Fn Tryz.prog W0 76 [eEnts a,eEnts b] (.c (eMarks (diff a b))) []:=by
 have la:=(tOk_at ha).1
 have lb:=(tOk_at hb).1
 have lt:=turned_len (a:=a) (b:=b)
 have hok:∀ p∈turned a b,pOk p=true:=fun p hp=>turned_ok ha hb hp
 refine fnX (c:=c_spec_l3Diff) mixed c_spec_l3Diff_eq (by simp) rfl fun hg=>?_
 refine dr ?_
 repeat (refine c0 (f_l2Turned W0 _ _ (by omega)) rfl ?_; first | refine dr ?_ | exact dz)
 intro hg1
 rw [diff]
 generalize turned a b=L at *
 refine dr ?_
 refine lz (σ:=Nat) 80 (fun k=>[(1,.c (eEnts b)),(6,.c (eStrs L)),(5,.c (eMarks ((L.take k).foldl (difP b) []))),(7,I k)]) (fun _=>[]) (fun k=>k≤L.length) (fun k=>L.length - k) 0 (by simp) ?_ ?_
 ·refine dr ?_
  trivial
 intro k hk
 have hlk:=fold_dif_len (b:=b) (L.take k) []
 have hlk2:=List.length_take_le' k L
 simp only [List.length_nil] at hlk
 refine dr ?_
 refine cP (fun h1=>?_) (fun h1=>?_)
 ·have hk':k < L.length:=by omega
  have hp:=hok _ (List.getElem_mem hk')
  have hc:=f_l2Get W0 b L[k]
  have hn:=(pOk_names hp).1.2
  have hpl:∀ m,(lput ((L.take k).foldl (difP b) []) m).length≤((L.take k).foldl (difP b) []).length+1:=fun m=>putG_len
  cases hx:get b L[k] with
  | none =>
   rw [hx] at hc
   refine dr ?_
   repeat (refine c0 hc rfl ?_; first | refine dr ?_ | exact dz)
   intro hg2
   refine dr ?_
   repeat ((first | refine c0 (f_spec_PathUp W0 _) rfl ?_ | refine c0 (f_l2Dir W0 _ _) rfl ?_); first | refine dr ?_ | exact dz)
   intro hg3
   refine cP (fun h2=>?_) (fun h2=>?_)
   ·refine dEr ?_
    repeat ((first | refine c0 (f_l3Put W0 _ ⟨L[k],3,[]⟩ (by omega)) rfl ?_ | refine c0 (f_l3Ups W0 3 _ _ hp hn (by have:=hpl ⟨L[k],3,[]⟩; omega)) rfl ?_); first | refine dEr ?_ | exact dz)
    refine ⟨k+1,by omega,by omega,?_⟩
    refine dr ?_
    repeat (refine oB (by rw [fold_next hk',difP,difM,hx]; simp only [if_pos h2]; rfl) ?_; first | refine dr ?_ | exact dz)
    trivial
   ·refine dr ?_
    refine ⟨k+1,by omega,by omega,?_⟩
    refine dr ?_
    repeat (refine oB (by rw [fold_next hk',difP,difM,hx]; simp [h2]) ?_; first | refine dr ?_ | exact dz)
    trivial
  | some e =>
   rw [hx] at hc
   refine dr ?_
   repeat (refine c0 hc rfl ?_; first | refine dr ?_ | exact dz)
   intro hg2
   refine dr ?_
   refine cP (fun h2=>?_) (fun h2=>?_)
   ·refine dEr ?_
    repeat ((first | refine c0 (f_l3Put W0 _ ⟨L[k],2,e.data⟩ (by omega)) rfl ?_ | refine c0 (f_l3Ups W0 3 _ _ hp hn (by have:=hpl ⟨L[k],2,e.data⟩; omega)) rfl ?_); first | refine dEr ?_ | exact dz)
    refine ⟨k+1,by omega,by omega,?_⟩
    refine dr ?_
    repeat (refine oB (by rw [fold_next hk',difP,difM,hx]; simp only [if_pos h2]; rfl) ?_; first | refine dr ?_ | exact dz)
    trivial
   ·refine dEr ?_
    repeat ((first | refine c0 (f_l3Put W0 _ ⟨L[k],1,e.data⟩ (by omega)) rfl ?_ | refine c0 (f_l3Ups W0 3 _ _ hp hn (by have:=hpl ⟨L[k],1,e.data⟩; omega)) rfl ?_); first | refine dEr ?_ | exact dz)
    refine ⟨k+1,by omega,by omega,?_⟩
    refine dr ?_
    repeat (refine oB (by rw [fold_next hk',difP,difM,hx]; simp [h2]; rfl) ?_; first | refine dr ?_ | exact dz)
    trivial
 have hkl:k=L.length:=by omega
 refine dr ?_
 rw [hkl,List.take_length]
end Go.Proofs.YteheahbjaddooaaGreatDoor

namespace Go.Proofs.YteheahbjaddooaaGreatDoor
set_option linter.unusedSimpArgs false
set_option linter.unusedVariables false
open Go Go.RowKit
def c_spec_l4Lower:XC:=(.s (.r [.ex 1 (.box 0),.ex 2 (.asn (.k .nil) 3 39),.m1 3 .n]) (.s (.r [.f1 7 0 1,.l1 8 1 7,.ex 4 (.asn 8 3 39)]) (.s (.s (.r [.mv 9 4,.c1 10 119 [9],.ex 11 (.un .not 10),.mv 12 11,.gf 13 (.fa 1 1) 12,.gf 14 (.ld false 1 13) 12,.gf 15 (.len false 14) 12,.gf 16 (.bin .gtr 15 (.i 4)) 12,.ex 17 (.pick 12 .y 16)]) (.cnd 17 (.s (.r [.ex 18 .bsl0,.ex 2 (.asn 18 3 39),.m1 3 .n]) .ret) .skip)) (.s (.s (.r [.m1 5 (.i 0)]) (.blk 0 (.loop (.s (.s (.r [.mv 19 5,.f1 20 1 1,.l1 21 1 20,.ex 22 (.len false 21),.b1 23 .lss 19 22]) (.cnd 23 .skip (.exit 0))) (.s (.blk 1 (.s (.r [.m1 6 .n]) (.s (.r [.f1 27 1 1,.l1 28 1 27,.mv 29 5,.ex 30 (.ia 1 28 29),.l1 31 1 30,.mv 32 4,.c1 33 111 [31,32],.mv 26 33,.ex 34 (.ext 26 0),.ex 35 (.ext 26 1),.ex 4 (.asn 34 3 39),.mv 6 35]) (.s (.r [.mv 36 6,.ex 37 (.un .not 36)]) (.cnd 37 (.s (.r [.ex 38 .bsl0,.ex 2 (.asn 38 3 39),.m1 3 .n]) .ret) .skip))))) (.r [.mv 24 5,.b1 25 .add 24 (.i 1),.mv 5 25])))))) (.s (.r [.ex 39 .bsl0,.mv 40 4,.ex 41 (.app true 3 40 39 39 40),.ex 2 (.asn 41 3 39),.m1 3 .y]) .ret)))))
theorem c_spec_l4Lower_eq:compF Tryz.prog [] 74=some (c_spec_l4Lower.ac,[(.t 2),(.t 3)],42):=by kernel_rfl
theorem f_l4Lower (W0:World) (o:Over):Fn Tryz.prog W0 74 [eOver o] (.c (eEntsO (lower4 o))) []:=by
 refine fnX (c:=c_spec_l4Lower) mixed c_spec_l4Lower_eq (by simp) rfl fun hg=>?_
 refine dEr ?_
 repeat (refine c0 (f_spec_TreeOk W0 _) rfl ?_; first | refine dEr ?_ | exact dz)
 refine cP (fun h1=>?_) (fun h1=>?_)
 ·refine dr ?_
  rw [lower4,if_neg (by simp [h1])]; rfl
 refine dr ?_
 refine cP (fun h2=>?_) (fun h2=>?_)
 ·refine dr ?_
  rw [lower4,if_neg (by omega)]; rfl
 rw [lower4,if_pos ⟨h1,by omega⟩]
 refine dr ?_
 refine lp2 (fun (k:Nat) (t:List Ent)=>[(1,.ptr 16 0),(4,.c (eEnts t)),(5,I k)]) (fun _ _=>[(16,.box [.c (eEnts o.base),.c (eMarkss o.layers),.c (eMarks o.upper)])]) (fun k t=>k≤o.layers.length∧lowerA (o.layers.take k) o.base=some t∧tOk t=true) (fun k _=>o.layers.length - k) 0 o.base ⟨by simp,rfl,h1⟩ ?_ ?_
 ·refine dr ?_
  trivial
 rintro k t ⟨hk,ha,ht⟩
 refine dr ?_
 refine cP (fun h3=>?_) (fun h3=>?_)
 ·have hk':k < o.layers.length:=by omega
  have hn:lowerA (o.layers.take (k+1)) o.base=lOn o.layers[k] t:=by
   rw [List.take_succ_eq_append_getElem hk',lowerA_app,ha]
   simp only [lowerA]
   cases lOn o.layers[k] t<;>rfl
  have hc:=f_spec_LayerOn W0 o.layers[k] t
  cases hx:lOn o.layers[k] t with
  | none =>
   rw [hx] at hc
   refine dr ?_
   repeat (refine c0 hc rfl ?_; first | refine dr ?_ | exact dz)
   intro hg1
   refine dr ?_
   have:lowerA o.layers o.base=none:=by
    have e:o.layers=o.layers.take (k+1)++o.layers.drop (k+1):=by rw [List.take_append_drop]
    rw [e,lowerA_app,hn,hx]
   rw [this]; rfl
  | some t' =>
   rw [hx] at hc
   refine dr ?_
   repeat (refine c0 hc rfl ?_; first | refine dr ?_ | exact dz)
   intro hg1
   refine dr ?_
   refine ⟨k+1,t',⟨by omega,by rw [hn,hx],lOn_tOk hx⟩,by omega,?_⟩
   refine dr ?_
   trivial
 have hkl:k=o.layers.length:=by omega
 rw [hkl,List.take_length] at ha
 have hl:=(tOk_at ht).1
 refine dr ?_
 repeat (refine oB (by simp; omega) ?_; first | refine dr ?_ | exact dz)
 rw [ha]; rfl
def c_spec_l4View:XC:=(.s (.r [.ex 1 (.box 0),.ex 2 (.asn (.k .nil) 3 39),.m1 3 .n]) (.s (.r [.l2 7 3 1,.c1 8 74 [7],.mv 6 8,.ex 9 (.ext 6 0),.ex 10 (.ext 6 1),.ex 4 (.asn 9 3 39),.mv 5 10]) (.s (.s (.r [.mv 11 5,.ex 12 (.un .not 11)]) (.cnd 12 (.s (.r [.ex 13 .bsl0,.ex 2 (.asn 13 3 39),.m1 3 .n]) .ret) .skip)) (.s (.r [.f1 14 2 1,.l1 15 1 14,.mv 16 4,.c1 17 111 [15,16],.ex 18 (.ext 17 0),.ex 19 (.ext 17 1),.ex 2 (.asn 18 3 39),.mv 3 19]) .ret))))
theorem c_spec_l4View_eq:compF Tryz.prog [] 69=some (c_spec_l4View.ac,[(.t 2),(.t 3)],20):=by kernel_rfl
theorem f_l4View (W0:World) (o:Over):Fn Tryz.prog W0 69 [eOver o] (.c (eEntsO (view4 o))) []:=by
 refine fnX (c:=c_spec_l4View) mixed c_spec_l4View_eq (by simp) rfl fun hg=>?_
 have hc:=f_l4Lower W0 o
 cases hx:lower4 o with
 | none =>
  rw [hx] at hc
  refine dr ?_
  repeat (refine c0 hc rfl ?_; first | refine dr ?_ | exact dz)
  intro hg1
  refine dr ?_
  rw [view4,hx]; rfl
 | some t =>
  rw [hx] at hc
  have hv:view4 o=lOn o.upper t:=by rw [view4,hx]
  have hc2:=f_spec_LayerOn W0 o.upper t
  rw [hv]
  cases hy:lOn o.upper t with
  | none =>
   rw [hy] at hc2
   refine dr ?_
   repeat (refine c0 hc rfl ?_; first | refine dr ?_ | exact dz)
   intro hg1
   refine dr ?_
   repeat (refine c0 hc2 rfl ?_; first | refine dr ?_ | exact dz)
   intro hg2
   refine dr ?_
   rfl
  | some x =>
   rw [hy] at hc2
   refine dr ?_
   repeat (refine c0 hc rfl ?_; first | refine dr ?_ | exact dz)
   intro hg1
   refine dr ?_
   repeat (refine c0 hc2 rfl ?_; first | refine dr ?_ | exact dz)
   intro hg2
   refine dr ?_
   rfl
def c_spec_OverOk:XC:=(.s (.r [.ex 1 (.box 0),.m1 2 .n]) (.s (.r [.l2 8 3 1,.c1 9 74 [8],.mv 7 9,.ex 10 (.ext 7 0),.ex 11 (.ext 7 1),.ex 3 (.asn 10 3 39),.mv 4 11]) (.s (.r [.l2 13 3 1,.c1 14 69 [13],.mv 12 14,.ex 15 (.ext 12 0),.ex 16 (.ext 12 1),.ex 5 (.asn 15 3 39),.mv 6 16]) (.s (.d [.mv 17 4,.mv 18 17,.gt 19 (.mv 6) 18,.ex 20 (.pick 18 19 .n),.mv 21 20,.gt 22 (.fa 2 1) 21,.gt 23 (.ld false 1 22) 21,.gt 24 (.mv 3) 21,.gt 25 (.mv 5) 21,.gt 26 (.call 76 [24,25]) 21,.gt 27 (.call 75 [23,26]) 21,.ex 28 (.pick 21 27 .n),.mv 2 28]) .ret))))
theorem c_spec_OverOk_eq:compF Tryz.prog [] 25=some (c_spec_OverOk.ac,[(.t 2)],29):=by kernel_rfl
theorem f_spec_OverOk (W0:World) (o:Over):Fn Tryz.prog W0 25 [eOver o] (.c (CB (oOk o))) []:=by
 refine fnX (c:=c_spec_OverOk) mixed c_spec_OverOk_eq (by simp) rfl fun hg=>?_
 have hc:=f_l4Lower W0 o
 have hc2:=f_l4View W0 o
 cases hx:lower4 o with
 | none =>
  have hv:view4 o=none:=by rw [view4,hx]
  rw [hx] at hc
  rw [hv] at hc2
  refine dr ?_
  repeat (refine c0 hc rfl ?_; first | refine dr ?_ | exact dz)
  intro hg1
  refine dr ?_
  repeat (refine c0 hc2 rfl ?_; first | refine dr ?_ | exact dz)
  intro hg2
  refine dr ?_
  rw [oOk,hx]
 | some t =>
  rw [hx] at hc
  cases hy:view4 o with
  | none =>
   rw [hy] at hc2
   refine dr ?_
   repeat (refine c0 hc rfl ?_; first | refine dr ?_ | exact dz)
   intro hg1
   refine dr ?_
   repeat (refine c0 hc2 rfl ?_; first | refine dr ?_ | exact dz)
   intro hg2
   refine dr ?_
   rw [oOk,hx,hy]
  | some x =>
   rw [hy] at hc2
   refine dr ?_
   repeat (refine c0 hc rfl ?_; first | refine dr ?_ | exact dz)
   intro hg1
   refine dr ?_
   repeat (refine c0 hc2 rfl ?_; first | refine dr ?_ | exact dz)
   intro hg2
   refine dr ?_
   repeat ((first | refine c0 (f_l3Diff W0 t x (lower4_tOk hx) (view4_tOk hy)) rfl ?_ | refine c0 (f_spec_LayerSame W0 _ _) rfl ?_); first | refine dr ?_ | exact dz)
   intro hg3
   refine dr ?_
   rw [oOk,hx,hy]
def c_spec_OverView:XC:=(.s (.r [.ex 1 (.box 0),.ex 2 (.asn (.k .nil) 3 39),.m1 3 .n]) (.s (.s (.r [.l2 4 3 1,.c1 5 25 [4],.ex 6 (.un .not 5)]) (.cnd 6 (.s (.r [.ex 7 .bsl0,.ex 2 (.asn 7 3 39),.m1 3 .n]) .ret) .skip)) (.s (.r [.l2 8 3 1,.c1 9 69 [8],.ex 10 (.ext 9 0),.ex 11 (.ext 9 1),.ex 2 (.asn 10 3 39),.mv 3 11]) .ret)))
theorem c_spec_OverView_eq:compF Tryz.prog [] 62=some (c_spec_OverView.ac,[(.t 2),(.t 3)],12):=by kernel_rfl
theorem f_spec_OverView (W0:World) (o:Over):Fn Tryz.prog W0 62 [eOver o] (.c (eEntsO (if oOk o=true then view4 o else none))) []:=by
 refine fnX (c:=c_spec_OverView) mixed c_spec_OverView_eq (by simp) rfl fun hg=>?_
 refine dEr ?_
 repeat (refine c0 (f_spec_OverOk W0 _) rfl ?_; first | refine dEr ?_ | exact dz)
 refine cP (fun h1=>?_) (fun h1=>?_)
 ·refine dr ?_
  rw [if_neg (by simp [h1])]; rfl
 rw [if_pos h1]
 have hc:=f_l4View W0 o
 cases hy:view4 o with
 | none =>
  rw [hy] at hc
  refine dr ?_
  repeat (refine c0 hc rfl ?_; first | refine dr ?_ | exact dz)
  intro hg1
  refine dr ?_
  rfl
 | some x =>
  rw [hy] at hc
  refine dr ?_
  repeat (refine c0 hc rfl ?_; first | refine dr ?_ | exact dz)
  intro hg1
  refine dr ?_
  rfl
end Go.Proofs.YteheahbjaddooaaGreatDoor

namespace Go.Proofs.YteheahbjaddooaaGreatDoor
set_option linter.unusedSimpArgs false
set_option linter.unusedVariables false
open Go Go.RowKit
def c_spec_l3Both:XC:=(.s (.r [.m1 4 (.i 0)]) (.s (.s (.r [.mv 5 0,.b1 6 .eql 5 (.i 2),.mv 7 6,.gt 8 (.mv 1) 7,.gt 9 (.bin .neq 8 (.i 0)) 7,.ex 10 (.pick 7 9 .n),.mv 11 10,.gt 12 (.mv 1) 11,.gt 13 (.bin .neq 12 (.i 2)) 11,.ex 14 (.pick 11 13 .n)]) (.cnd 14 (.s (.r [.m1 4 (.i 4)]) .ret) .skip)) (.s (.r [.mv 15 0,.mv 4 15]) .ret)))
theorem c_spec_l3Both_eq:compF Tryz.prog [] 246=some (c_spec_l3Both.ac,[(.t 4)],16):=by kernel_rfl
theorem f_l3Both (W0:World) (a b:Int):Fn Tryz.prog W0 246 [CI a,CI b] (.c (CI (bothK a b))) []:=by
 refine fnX (c:=c_spec_l3Both) mixed c_spec_l3Both_eq (by simp) rfl fun hg=>?_
 refine dr ?_
 refine cP (fun h1=>?_) (fun h1=>?_)
 ·refine dr ?_
  refine cP (fun h2=>?_) (fun h2=>?_)
  ·refine dr ?_
   refine cP (fun h3=>?_) (fun h3=>?_)
   ·refine dr ?_
    exact congrArg CI (by rw [bothK,if_pos ⟨h1,h2,h3⟩])
   ·refine dr ?_
    exact congrArg CI (by rw [bothK,if_neg (fun h=>h.2.2 h3)])
  ·refine dr ?_
   exact congrArg CI (by rw [bothK,if_neg (fun h=>h.2.1 h2)])
 ·refine dr ?_
  exact congrArg CI (by rw [bothK,if_neg (fun h=>h1 h.1)])
def c_spec_l3Tidy:XC:=(.s (.r [.ex 2 (.asn (.k .nil) 3 133)]) (.s (.r [.ex 6 .bsl0,.ex 3 (.asn 6 3 133)]) (.s (.s (.r [.m1 4 (.i 0)]) (.blk 0 (.loop (.s (.s (.r [.mv 7 4,.mv 8 0,.ex 9 (.len false 8),.b1 10 .lss 7 9]) (.cnd 10 .skip (.exit 0))) (.s (.blk 1 (.s (.r [.mv 13 0,.mv 14 4,.ex 15 (.ia 3 13 14),.l2 16 3 15,.ex 5 (.alloc [sE,(I 0),sE]),.nu (.st 3 5 16)]) (.s (.s (.r [.mv 17 3,.f1 18 0 5,.l1 19 1 18,.c1 20 206 [17,19]]) (.cnd 20 (.s (.s (.r [.f1 21 1 5,.l1 22 1 21,.b1 23 .eql 22 (.i 3)]) (.cnd 23 (.exit 1) .skip)) (.s (.r [.f1 24 1 5,.l1 25 1 24,.b1 26 .eql 25 (.i 4)]) (.cnd 26 (.r [.f1 27 1 5,.nu (.st 1 27 (.i 2))]) .skip))) .skip)) (.r [.mv 28 3,.l2 29 3 5,.ex 30 (.bsl 3 133 [29]),.ex 31 (.app false 3 40 133 28 30),.ex 3 (.asn 31 3 133)])))) (.r [.mv 11 4,.b1 12 .add 11 (.i 1),.mv 4 12])))))) (.s (.r [.mv 32 3,.ex 2 (.asn 32 3 133)]) .ret))))
theorem c_spec_l3Tidy_eq:compF Tryz.prog [] 228=some (c_spec_l3Tidy.ac,[(.t 2)],33):=by kernel_rfl
theorem tidyF_len {out:List Mark} {m:Mark}:(tidyF out m).length≤out.length+1:=by
 unfold tidyF; split
 ·split<;>simp
 ·simp
theorem f_l3Tidy (W0:World) (l:List Mark) (hl:l.length≤1000000):Fn Tryz.prog W0 228 [eMarks l] (.c (eMarks (l.foldl tidyF []))) []:=by
 refine fnX (c:=c_spec_l3Tidy) mixed c_spec_l3Tidy_eq (by simp) rfl fun hg=>?_
 refine dr ?_
 refine lp2 (fun (k:Nat) (out:List Mark)=>[(0,.c (eMarks l)),(3,.own 48 out.length),(4,I k)]) (fun _ out=>[(48,.row (out.map eMark) 3 133)]) (fun k out=>k≤l.length∧out=(l.take k).foldl tidyF []∧out.length≤k) (fun k _=>l.length - k) 0 [] ⟨by simp,rfl,by simp⟩ ?_ ?_
 ·refine dr ?_
  trivial
 rintro k out ⟨hk,ho,hle⟩
 refine dr ?_
 refine cP (fun h1=>?_) (fun h1=>?_)
 ·have hk':k < l.length:=by omega
  have hn:(l.take (k+1)).foldl tidyF []=tidyF out l[k]:=by rw [fold_next hk',← ho]
  have hn2:(tidyF out l[k]).length≤k+1:=by have:=tidyF_len (out:=out) (m:=l[k]); omega
  refine dr ?_
  repeat (refine c0 (f_l3Bare W0 out _) rfl ?_; first | refine dr ?_ | exact dz)
  refine cP (fun h2=>?_) (fun h2=>?_)
  ·refine dr ?_
   refine cP (fun h3=>?_) (fun h3=>?_)
   ·refine dr ?_
    have e:tidyF out l[k]=out:=by rw [tidyF,if_pos h2,if_pos h3]
    refine ⟨k+1,out,⟨by omega,by rw [hn,e],by omega⟩,by omega,?_⟩
    refine dr ?_
    trivial
   ·refine dr ?_
    refine cP (fun h4=>?_) (fun h4=>?_)
    ·refine dr ?_
     repeat ((first | refine oB (by simp; omega) ?_ | refine oB (by simp) ?_); first | refine dr ?_ | exact dz)
     have e:tidyF out l[k]=out++[⟨l[k].path,2,l[k].data⟩]:=by rw [tidyF,if_pos h2,if_neg h3,if_pos h4]
     refine ⟨k+1,out++[⟨l[k].path,2,l[k].data⟩],⟨by omega,by rw [hn,e],by simp; omega⟩,by omega,?_⟩
     refine dr ?_
     repeat (refine oB (by simp<;>rfl) ?_; first | refine dr ?_ | exact dz)
     trivial
    ·refine dr ?_
     repeat ((first | refine oB (by simp; omega) ?_ | refine oB (by simp) ?_); first | refine dr ?_ | exact dz)
     have e:tidyF out l[k]=out++[l[k]]:=by rw [tidyF,if_pos h2,if_neg h3,if_neg h4]
     refine ⟨k+1,out++[l[k]],⟨by omega,by rw [hn,e],by simp; omega⟩,by omega,?_⟩
     refine dr ?_
     repeat (refine oB (by simp<;>rfl) ?_; first | refine dr ?_ | exact dz)
     trivial
  ·refine dr ?_
   repeat ((first | refine oB (by simp; omega) ?_ | refine oB (by simp) ?_); first | refine dr ?_ | exact dz)
   have e:tidyF out l[k]=out++[l[k]]:=by rw [tidyF,if_neg (by simp [h2])]
   refine ⟨k+1,out++[l[k]],⟨by omega,by rw [hn,e],by simp; omega⟩,by omega,?_⟩
   refine dr ?_
   repeat (refine oB (by simp<;>rfl) ?_; first | refine dr ?_ | exact dz)
   trivial
 have hkl:k=l.length:=by omega
 rw [hkl,List.take_length] at ho
 refine dr ?_
 repeat (refine oB (by simp) ?_; first | refine dr ?_ | exact dz)
 rw [ho]; rfl
def c_spec_l3Join:XC:=(.s (.r [.ex 4 (.asn (.k .nil) 3 133)]) (.s (.r [.ex 9 .bsl0,.ex 5 (.asn 9 3 133)]) (.s (.s (.r [.m1 6 (.i 0)]) (.blk 0 (.loop (.s (.s (.r [.mv 10 6,.mv 11 1,.ex 12 (.len false 11),.b1 13 .lss 10 12]) (.cnd 13 .skip (.exit 0))) (.s (.blk 1 (.s (.r [.mv 16 0,.mv 17 1,.mv 18 6,.ex 19 (.ia 3 17 18),.f1 20 0 19,.l1 21 1 20,.c1 22 207 [16,21],.ex 23 (.un .not 22),.mv 24 23,.gt 25 (.mv 0) 24,.gt 26 (.mv 1) 24,.gt 27 (.mv 6) 24,.gt 28 (.ia 3 26 27) 24,.gt 29 (.fa 0 28) 24,.gt 30 (.ld false 1 29) 24,.gt 31 (.call 181 [25,30]) 24,.gt 32 (.bin .eql 31 (.i 0)) 24,.ex 33 (.pick 24 32 .n)]) (.cnd 33 (.r [.mv 34 5,.mv 35 1,.mv 36 6,.ex 37 (.ia 3 35 36),.l2 38 3 37,.c1 39 125 [34,38],.ex 5 (.asn 39 3 133)]) .skip))) (.r [.mv 14 6,.b1 15 .add 14 (.i 1),.mv 6 15])))))) (.s (.s (.r [.m1 7 (.i 0)]) (.blk 2 (.loop (.s (.s (.r [.mv 40 7,.mv 41 0,.ex 42 (.len false 41),.b1 43 .lss 40 42]) (.cnd 43 .skip (.exit 2))) (.s (.blk 3 (.s (.r [.mv 46 0,.mv 47 7,.ex 48 (.ia 3 46 47),.l2 49 3 48,.ex 8 (.alloc [sE,(I 0),sE]),.nu (.st 3 8 49)]) (.s (.d [.f1 50 1 8,.l1 51 1 50,.mv 52 1,.f1 53 0 8,.l1 54 1 53,.c1 55 181 [52,54],.c1 56 246 [51,55],.f1 57 1 8,.nu (.st 1 57 56)]) (.r [.mv 58 5,.l2 59 3 8,.c1 60 125 [58,59],.ex 5 (.asn 60 3 133)])))) (.r [.mv 44 7,.b1 45 .add 44 (.i 1),.mv 7 45])))))) (.s (.r [.mv 61 5,.ex 4 (.asn 61 3 133)]) .ret)))))
theorem c_spec_l3Join_eq:compF Tryz.prog [] 229=some (c_spec_l3Join.ac,[(.t 4)],62):=by kernel_rfl
theorem f_l3Join (W0:World) (a b:List Mark) (hl:a.length+b.length≤1000000):Fn Tryz.prog W0 229 [eMarks a,eMarks b] (.c (eMarks (join0 a b))) []:=by
 refine fnX (c:=c_spec_l3Join) mixed c_spec_l3Join_eq (by simp) rfl fun hg=>?_
 refine dr ?_
 refine lz2 80 (fun (k:Nat) (out:List Mark)=>[(0,.c (eMarks a)),(1,.c (eMarks b)),(5,.c (eMarks out)),(6,I k)]) (fun _ _=>[]) (fun k out=>k≤b.length∧out=((b.take k).filter (joinB a)).foldl lput []∧out.length≤k) (fun k _=>b.length - k) 0 [] ⟨by simp,rfl,by simp⟩ ?_ ?_
 ·refine dr ?_
  trivial
 rintro k out ⟨hk,ho,hle⟩
 refine dr ?_
 refine cP (fun h1=>?_) (fun h1=>?_)
 ·have hk':k < b.length:=by omega
  have no:joinB a b[k]=false→out=((b.take (k+1)).filter (joinB a)).foldl lput []:=fun h=>by rw [filt_f hk' h,ho]
  have yes:joinB a b[k]=true→lput out b[k]=((b.take (k+1)).filter (joinB a)).foldl lput []:=fun h=>by rw [filt_t hk' h,List.foldl_append,← ho]; rfl
  refine dEr ?_
  repeat (refine c0 (f_l3Hides W0 _ _) rfl ?_; first | refine dEr ?_ | exact dz)
  refine cP (fun h2=>?_) (fun h2=>?_)
  ·refine dEr ?_
   repeat (refine c0 (f_l3Kind W0 _ _) rfl ?_; first | refine dEr ?_ | exact dz)
   refine cP (fun h3=>?_) (fun h3=>?_)
   ·have hpl:(lput out b[k]).length≤out.length+1:=putG_len
    refine dEr ?_
    repeat (refine c0 (f_l3Put W0 _ b[k] (by omega)) rfl ?_; first | refine dEr ?_ | exact dz)
    refine ⟨k+1,lput out b[k],⟨by omega,yes (by simp [joinB,h2,h3]),by omega⟩,by omega,?_⟩
    refine dr ?_
    trivial
   ·refine dr ?_
    refine ⟨k+1,out,⟨by omega,no (by simp [joinB,h3]),by omega⟩,by omega,?_⟩
    refine dr ?_
    trivial
  ·refine dr ?_
   refine ⟨k+1,out,⟨by omega,no (by simp [joinB,h2]),by omega⟩,by omega,?_⟩
   refine dr ?_
   trivial
 have hkl:k=b.length:=by omega
 rw [hkl,List.take_length] at ho
 have hj:join0 a b=(a.map (joinM b)).foldl lput out:=by rw [join0,ho]
 rw [hj]
 have hob:out.length≤b.length:=by omega
 clear ho hk hle hj h1 hkl
 generalize hoo:out=o0 at *
 refine dr ?_
 refine lp2 (fun (k:Nat) (out:List Mark)=>[(0,.c (eMarks a)),(1,.c (eMarks b)),(5,.c (eMarks out)),(7,I k)]) (fun _ _=>[]) (fun k out=>k≤a.length∧out=((a.take k).map (joinM b)).foldl lput o0∧out.length≤o0.length+k) (fun k _=>a.length - k) 0 o0 ⟨by simp,rfl,by simp⟩ ?_ ?_
 ·refine dr ?_
  trivial
 clear hoo
 rintro k out ⟨hk,ho,hle⟩
 refine dr ?_
 refine cP (fun h1=>?_) (fun h1=>?_)
 ·have hk':k < a.length:=by omega
  have hn:((a.take (k+1)).map (joinM b)).foldl lput o0=lput out (joinM b a[k]):=by
   rw [List.take_succ_eq_append_getElem hk',List.map_append,List.foldl_append,← ho]; rfl
  have hpl:(lput out (joinM b a[k])).length≤out.length+1:=putG_len
  refine dEr ?_
  repeat ((first | refine c0 (f_l3Kind W0 _ _) rfl ?_ | refine c0 (f_l3Both W0 _ _) rfl ?_ | refine c0 (f_l3Put W0 _ (joinM b a[k]) (by omega)) rfl ?_); first | refine dEr ?_ | exact dz)
  refine ⟨k+1,_,⟨by omega,hn.symm,by omega⟩,by omega,?_⟩
  refine dr ?_
  trivial
 have hkl:k=a.length:=by omega
 rw [hkl,List.take_length] at ho
 refine dr ?_
 rw [ho]
def c_spec_LayerJoin:XC:=(.s (.r [.ex 4 (.asn (.k .nil) 3 133),.m1 5 .n]) (.s (.s (.r [.mv 7 0,.c1 8 171 [7],.ex 9 (.un .not 8),.mv 10 9,.gf 11 (.mv 1) 10,.gf 12 (.call 171 [11]) 10,.gf 13 (.un .not 12) 10,.ex 14 (.pick 10 .y 13)]) (.cnd 14 (.s (.r [.ex 15 .bsl0,.ex 4 (.asn 15 3 133),.m1 5 .n]) .ret) .skip)) (.s (.r [.mv 16 0,.mv 17 1,.c1 18 229 [16,17],.c1 19 228 [18],.ex 6 (.asn 19 3 133)]) (.s (.s (.r [.mv 20 6,.ex 21 (.len false 20),.b1 22 .gtr 21 (.i 32)]) (.cnd 22 (.s (.r [.ex 23 .bsl0,.ex 4 (.asn 23 3 133),.m1 5 .n]) .ret) .skip)) (.s (.r [.mv 24 6,.ex 4 (.asn 24 3 133),.m1 5 .y]) .ret)))))
theorem c_spec_LayerJoin_eq:compF Tryz.prog [] 192=some (c_spec_LayerJoin.ac,[(.t 4),(.t 5)],25):=by kernel_rfl
theorem f_spec_LayerJoin (W0:World) (a b:List Mark):Fn Tryz.prog W0 192 [eMarks a,eMarks b] (.c (eMarksO (lJoin a b))) []:=by
 refine fnX (c:=c_spec_LayerJoin) mixed c_spec_LayerJoin_eq (by simp) rfl fun hg=>?_
 refine dEr ?_
 repeat (refine c0 (f_spec_LayerOk W0 _) rfl ?_; first | refine dEr ?_ | exact dz)
 refine cP (fun h1=>?_) (fun h1=>?_)
 ·refine dEr ?_
  rw [lJoin,if_neg (by simp [h1])]; rfl
 refine dEr ?_
 repeat (refine c0 (f_spec_LayerOk W0 _) rfl ?_; first | refine dEr ?_ | exact dz)
 refine cP (fun h2=>?_) (fun h2=>?_)
 ·refine dr ?_
  rw [lJoin,if_neg (by simp [h2])]; rfl
 have ga:=LG.of h1
 have gb:=LG.of h2
 have hla:=(lOk_iff.1 h1).1
 have hlb:=(lOk_iff.1 h2).1
 have hjl:(join0 a b).length≤1000000:=by
  have e1:(join0 a b).length≤((b.filter (joinB a)).foldl lput []).length+(a.map (joinM b)).length:=fold_put_len (key:=Mark.path) (a.map (joinM b)) ((b.filter (joinB a)).foldl lput [])
  have e2:((b.filter (joinB a)).foldl lput []).length≤0+(b.filter (joinB a)).length:=fold_put_len (key:=Mark.path) (b.filter (joinB a)) []
  have e3:=List.length_filter_le (joinB a) b
  rw [List.length_map] at e1
  omega
 have hc:=f_l3Tidy W0 (join0 a b) hjl
 rw [tidy_fold_all (join0_LG ga gb)] at hc
 have e:lJoin a b=if (joinL a b).length≤32 then some (joinL a b) else none:=by rw [lJoin,if_pos (by simp [h1,h2])]
 rw [e]
 unfold joinL at *
 refine dr ?_
 repeat ((first | refine c0 (f_l3Join W0 _ _ (by omega)) rfl ?_ | refine c0 hc rfl ?_); first | refine dr ?_ | exact dz)
 intro hg3 hg4
 refine dr ?_
 refine cP (fun h3=>?_) (fun h3=>?_)
 ·refine dr ?_
  rw [if_neg (by omega)]; rfl
 ·refine dr ?_
  rw [if_pos (by omega)]; rfl
end Go.Proofs.YteheahbjaddooaaGreatDoor

namespace Go.Proofs.YteheahbjaddooaaGreatDoor
set_option linter.unusedSimpArgs false
set_option linter.unusedVariables false
open Go Go.RowKit
theorem aCode {k:Int} {s:Str} {K:CV→Prop} (h1:0≤k) (h2:k < s.length) (h:∀ n:Int,0≤n→n≤255→K (CU n)):AtX k (s.map fun b=>CU b.toNat) K:=by
 have hk:k.toNat < s.length:=by omega
 refine ⟨k.toNat,by omega,_,?_,h (s[k.toNat].toNat:Int) (by omega) ?_⟩
 ·rw [List.getElem?_map,List.getElem?_eq_getElem hk]; rfl
 ·have:=UInt8.toNat_lt s[k.toNat]; omega
theorem aX {α:Type} {f:α→CV} {L:List α} {k:Int} {K:CV→Prop} (h1:0≤k) (h2:k < L.length) (h:∀ x∈L,K (f x)):AtX k (L.map f) K:=by
 have hk:k.toNat < L.length:=by omega
 exact ⟨k.toNat,by omega,_,by rw [List.getElem?_map,List.getElem?_eq_getElem hk]; rfl,h _ (List.getElem_mem hk)⟩
theorem xor_nn {a b:Int} (ha:0≤a) (ha2:a < 4611686018427387904) (hb:0≤b) (hb2:b < 4611686018427387904):0≤IntKind.wrap .i64 ((BitVec.ofInt (IntKind.bits .i64) a ^^^ BitVec.ofInt (IntKind.bits .i64) b).toNat:Int):=by
 have e:∀ x:Int,0≤x→x < 4611686018427387904→(BitVec.ofInt 64 x).toNat=x.toNat:=fun x h1 h2=>by
  rw [BitVec.toNat_ofInt]; omega
 show 0≤IntKind.wrap .i64 ((BitVec.ofInt 64 a ^^^ BitVec.ofInt 64 b).toNat:Int)
 rw [BitVec.toNat_xor,e a ha ha2,e b hb hb2]
 have h:a.toNat ^^^ b.toNat < 2 ^ 62:=Nat.xor_lt_two_pow (by omega) (by omega)
 rw [wrap_i64 (by omega)]
 omega
theorem retI {k0:List Nat} {m:XM} {ok:Int→Prop} {M:Int→XM} {x:Int} (h:ok x) (hk:KeepX k0 none [(0,.c (CI x))] m [(0,.c (CI x))] (M x)):RetX k0 (.c (CI x)) m (fun r mx=>∃ a,ok a∧r = .c (CI a)∧mx=M a):=⟨none,_,_,hk,x,h,rfl,rfl⟩
theorem cutp2 {k0:List Nat} {a:(Fr→XM→Prop)→Fr→XM→Prop} {b:Fr→XM→Prop} {F:Fr} {m:XM} {α β:Type} (fr:α→β→Fr) (mm:α→β→XM) (inv:α→β→Prop)
  (ha:a (fun F' m'=>∃ x y,inv x y∧KeepX k0 none F' m' (fr x y) (mm x y)) F m) (hb:∀ x y,inv x y→b (fr x y) (mm x y)):CutX k0 a b F m :=
 ⟨α × β,fun x=>fr x.1 x.2,fun x=>mm x.1 x.2,fun x=>inv x.1 x.2,none,fun F' m'=>∃ x y,inv x y∧KeepX k0 none F' m' (fr x y) (mm x y),ha,fun _ _ ⟨x,y,h⟩=>⟨(x,y),h⟩,fun x h=>hb x.1 x.2 h⟩
theorem lz3 {k0:List Nat} {body:(Fr→XM→Prop)→Fr→XM→Prop} {F:Fr} {m:XM} {α β γ:Type} (z:Nat) (fr:α→β→γ→Fr) (mm:α→β→γ→XM) (inv:α→β→γ→Prop) (me:α→β→γ→Nat) (a0:α) (b0:β) (c0:γ) (h0:inv a0 b0 c0) (hk:KeepX k0 (some z) F m (fr a0 b0 c0) (mm a0 b0 c0))
  (hb:∀ a b c,inv a b c→body (fun F' m'=>∃ a' b' c',inv a' b' c'∧me a' b' c' < me a b c∧KeepX k0 none F' m' (fr a' b' c') (mm a' b' c')) (fr a b c) (mm a b c)):LoopX k0 body F m :=
 ⟨α × β × γ,fun x=>fr x.1 x.2.1 x.2.2,fun x=>mm x.1 x.2.1 x.2.2,fun x=>inv x.1 x.2.1 x.2.2,fun x=>me x.1 x.2.1 x.2.2,some z,none,fun x F' m'=>∃ a' b' c',inv a' b' c'∧me a' b' c' < me x.1 x.2.1 x.2.2∧KeepX k0 none F' m' (fr a' b' c') (mm a' b' c'),
  ⟨(a0,b0,c0),h0,hk⟩,fun _ _ _ ⟨a,b,c,h⟩=>⟨(a,b,c),h⟩,fun x h=>hb x.1 x.2.1 x.2.2 h⟩
abbrev Rd (s:Str) (p:Int):XM:=[(1,.box [.c (eCode s),.c (CI p)])]
def c_pick:XC:=(.s (.r [.m1 4 (.i 0)]) (.s (.r [.mv 7 0,.mv 8 0,.ex 9 (.nck 8),.f1 10 1 9,.l1 11 1 10,.b1 12 .add 11 (.i 1),.ex 13 (.nck 7),.f1 14 1 13,.nu (.st 1 14 12)]) (.s (.s (.r [.mv 15 1,.b1 16 .lss 15 (.i 1),.mv 17 16,.gf 18 (.mv 0) 17,.gf 19 (.nck 18) 17,.gf 20 (.fa 0 19) 17,.gf 21 (.ld false 1 20) 17,.gf 22 (.len false 21) 17,.gf 23 (.bin .eql 22 (.i 0)) 17,.ex 24 (.pick 17 .y 23)]) (.cnd 24 (.s (.r [.m1 4 (.i 0)]) .ret) .skip)) (.s (.r [.mv 25 0,.ex 26 (.nck 25),.f1 27 1 26,.l1 28 1 27,.b1 29 .sub 28 (.i 1),.mv 5 29]) (.s (.s (.r [.mv 30 5,.mv 31 0,.ex 32 (.nck 31),.f1 33 0 32,.l1 34 1 33,.ex 35 (.len false 34),.b1 36 .lss 30 35]) (.cnd 36 (.s (.r [.mv 37 0,.ex 38 (.nck 37),.f1 39 0 38,.l1 40 1 39,.mv 41 5,.ex 42 (.ia 1 40 41),.l1 43 1 42,.ex 44 (.conv .i64 43),.mv 45 1,.b1 46 .rem 44 45,.mv 4 46]) .ret) .skip)) (.s (.d [.mv 47 0,.ex 48 (.nck 47),.f1 49 0 48,.l1 50 1 49,.mv 51 5,.mv 52 0,.ex 53 (.nck 52),.f1 54 0 53,.l1 55 1 54,.ex 56 (.len false 55),.b1 57 .rem 51 56,.ex 58 (.ia 1 50 57),.l1 59 1 58,.ex 60 (.conv .i64 59),.b1 61 .mul 60 (.i 131),.mv 62 0,.ex 63 (.nck 62),.f1 64 0 63,.l1 65 1 64,.mv 66 5,.b1 67 .mul 66 (.i 7),.b1 68 .add 67 (.i 3),.mv 69 0,.ex 70 (.nck 69),.f1 71 0 70,.l1 72 1 71,.ex 73 (.len false 72),.b1 74 .rem 68 73,.ex 75 (.ia 1 65 74),.l1 76 1 75,.ex 77 (.conv .i64 76),.b1 78 .mul 77 (.i 1117),.b1 79 .add 61 78,.mv 80 5,.b1 81 .mul 80 (.i 29),.b1 82 .add 79 81,.mv 83 5,.mv 84 0,.ex 85 (.nck 84),.f1 86 0 85,.l1 87 1 86,.ex 88 (.len false 87),.b1 89 .quo 83 88,.b1 90 .mul 89 (.i 53),.b1 91 .add 82 90,.mv 6 91]) (.s (.r [.mv 92 6,.mv 93 6,.b1 94 .quo 93 (.i 64),.b1 95 .xor 92 94,.mv 6 95]) (.s (.r [.mv 96 6,.mv 97 1,.b1 98 .rem 96 97,.mv 4 98]) .ret))))))))
theorem c_pick_eq:compF Tryz.prog [] 38=some (c_pick.ac,[(.t 4)],99):=by kernel_rfl
theorem f_pick (W0:World) (s:Str) (p n:Int) (hs:s.length≤2000) (hp:0≤p∧p≤1000000) (hn:n≤1000000) :
  FunW Tryz.prog W0 38 [.ptr 1 0,.c (CI n)] (Rd s p) (fun k:Int=>0≤k∧(1≤n→k < n)) (fun k => .c (CI k)) (fun _=>Rd s (p+1)):=by
 refine funW (c:=c_pick) mixed c_pick_eq (by simp) rfl rfl fun hg=>?_
 refine dr ?_
 refine cP (fun h1=>?_) (fun h1=>?_)
 ·refine dr ?_
  refine retI (x:=0) ⟨by omega,by omega⟩ ?_
  refine dr ?_
  trivial
 refine dr ?_
 refine cP (fun h2=>?_) (fun h2=>?_)
 ·refine dr ?_
  refine retI (x:=0) ⟨by omega,by omega⟩ ?_
  refine dr ?_
  trivial
 have fin:∀ x:Int,0≤x % n∧(1≤n→x % n < n):=fun x=>⟨Int.emod_nonneg _ (by omega),fun _=>Int.emod_lt_of_pos _ (by omega)⟩
 have hl:0 < (s.length:Int):=by omega
 have hq:0≤(p+1 - 1) / (s.length:Int)∧(p+1 - 1) / (s.length:Int)≤p+1 - 1:=⟨Int.ediv_nonneg (by omega) (by omega),Int.ediv_le_self _ (by omega)⟩
 refine dr ?_
 refine cP (fun h3=>?_) (fun h3=>?_)
 ·refine dr ?_
  repeat (refine aCode (by omega) (by omega) fun v hv0 hv1=>?_; first | refine dr ?_ | exact dz)
  refine retI (fin v) ?_
  refine dr ?_
  trivial
 ·refine dr ?_
  repeat ((first | refine aCode (Int.emod_nonneg _ (by omega)) (Int.emod_lt_of_pos _ (by omega)) fun v hv0 hv1=>?_ | refine oB ⟨xor_nn (by omega) (by omega) (by omega) (by omega),by omega,by omega⟩ ?_); first | refine dr ?_ | exact dz)
  refine retI (fin _) ?_
  refine dr ?_
  trivial
def c_spec_l10Open:XC:=(.s (.r [.ex 2 (.mv (.k .np))]) (.s (.s (.r [.mv 3 0,.ex 4 (.len false 3),.b1 5 .gtr 4 (.i 2000)]) (.cnd 5 (.r [.mv 6 0,.ex 7 (.slr 1 6 .none (.some (.i 2000))),.ex 0 (.asn 7 1 5)]) .skip)) (.s (.r [.mv 8 0,.ex 9 (.build [.nil,(I 0)] [(0,(1,8))]),.ex 10 (.box 9),.mv 2 10]) .ret)))
theorem c_spec_l10Open_eq:compF Tryz.prog [] 33=some (c_spec_l10Open.ac,[(.t 2)],11):=by kernel_rfl
theorem f_l10Open0 (W0:World) (s:Str):FunW Tryz.prog W0 33 [.c (eCode s)] [] (fun x:Str=>x.length≤2000) (fun _ => .ptr 160 0) (fun x=>[(160,.box [.c (eCode x),.c (CI 0)])]):=by
 refine funW (c:=c_spec_l10Open) mixed c_spec_l10Open_eq (by simp) rfl rfl fun hg=>?_
 refine dr ?_
 refine cP (fun h1=>?_) (fun h1=>?_)
 ·refine dr ?_
  repeat (refine sHiM 2000 rfl (by omega) ?_; first | refine dr ?_ | exact dz)
  refine ⟨none,_,_,?_,s.take 2000,by simp; omega,rfl,rfl⟩
  refine dr ?_
  trivial
 ·refine dr ?_
  refine ⟨none,_,_,?_,s,by omega,rfl,rfl⟩
  refine dr ?_
  trivial
theorem f_l10Open (W0:World) (s:Str):FunW Tryz.prog W0 33 [.c (eCode s)] [] (fun x:Str=>x.length≤2000) (fun _ => .ptr 1 0) (fun x=>Rd x 0):=(f_l10Open0 W0 s).swp 160 1
def c_rdnum:XC:=(.s (.r [.m1 4 (.i 0)]) (.s (.r [.mv 5 1,.mv 6 0,.mv 7 1,.ex 8 (.len false 7),.ex 9 (.opn 38 [6,8]),.ex 10 (.ia 1 5 9),.l1 11 1 10,.mv 4 11]) .ret))
theorem c_rdnum_eq:compF Tryz.prog [38] 36=some (c_rdnum.ac,[(.t 4)],12):=by kernel_rfl
theorem f_num (W0:World) (s:Str) (p:Int) (l:List Int) (hs:s.length≤2000) (hp:0≤p∧p≤1000000) (hl:1≤l.length∧l.length≤1000) :
  FunW Tryz.prog W0 36 [.ptr 1 0,.c (eInts l)] (Rd s p) (fun x:Int=>x∈l) (fun x => .c (CI x)) (fun _=>Rd s (p+1)):=by
 refine funW (c:=c_rdnum) mixed c_rdnum_eq (by simp) rfl rfl fun hg=>?_
 refine dr ?_
 refine oW (f_pick W0 s p l.length hs hp (by omega)) rfl ⟨rfl,trivial⟩ rfl rfl ⟨0,by omega,by omega⟩ fun k hk=>⟨rfl,?_⟩
 refine dr ?_
 refine aX hk.1 (hk.2 (by omega)) fun x hx=>?_
 refine dEr ?_
 refine ⟨none,_,_,?_,x,hx,rfl,rfl⟩
 refine dr ?_
 trivial
def c_rdof:XC:=(.s (.r [.ex 4 (.mv (.s []))]) (.s (.r [.mv 5 1,.mv 6 0,.mv 7 1,.ex 8 (.len false 7),.ex 9 (.opn 38 [6,8]),.ex 10 (.ia 1 5 9),.l1 11 1 10,.mv 4 11]) .ret))
theorem c_rdof_eq:compF Tryz.prog [38] 95=some (c_rdof.ac,[(.t 4)],12):=by kernel_rfl
theorem f_of (W0:World) (s:Str) (p:Int) (l:List Str) (hs:s.length≤2000) (hp:0≤p∧p≤1000000) (hl:1≤l.length∧l.length≤1000) :
  FunW Tryz.prog W0 95 [.ptr 1 0,.c (eStrs l)] (Rd s p) (fun x:Str=>x∈l) (fun x => .c (CS x)) (fun _=>Rd s (p+1)):=by
 refine funW (c:=c_rdof) mixed c_rdof_eq (by simp) rfl rfl fun hg=>?_
 refine dr ?_
 refine oW (f_pick W0 s p l.length hs hp (by omega)) rfl ⟨rfl,trivial⟩ rfl rfl ⟨0,by omega,by omega⟩ fun k hk=>⟨rfl,?_⟩
 refine dr ?_
 refine aX hk.1 (hk.2 (by omega)) fun x hx=>?_
 refine dEr ?_
 refine ⟨none,_,_,?_,x,hx,rfl,rfl⟩
 refine dr ?_
 trivial
def drawnPaths:List Str:=[[47,97],[47,98],[47,97,47,98],[47,97,47,99],[47,98,47,97],[47,97,98],[47,97,47,98,47,99],[47,97,47,98,47,97],[47,98,47,98],[47,99]]
def drawnData:List Str:=[[],[120],[121],[49,50],[97,98,99],[122,57]]
def c_spec_l1Path:XC:=(.s (.r [.ex 2 (.mv (.s []))]) (.s (.r [.mv 3 0,.ex 4 (.bsl 1 9 [(.s [47,97]),(.s [47,98]),(.s [47,97,47,98]),(.s [47,97,47,99]),(.s [47,98,47,97]),(.s [47,97,98]),(.s [47,97,47,98,47,99]),(.s [47,97,47,98,47,97]),(.s [47,98,47,98]),(.s [47,99])]),.ex 5 (.opn 95 [3,4]),.mv 2 5]) .ret))
theorem c_spec_l1Path_eq:compF Tryz.prog [95] 92=some (c_spec_l1Path.ac,[(.t 2)],6):=by kernel_rfl
theorem f_l1Path (W0:World) (s:Str) (p:Int) (hs:s.length≤2000) (hp:0≤p∧p≤1000000) :
  FunW Tryz.prog W0 92 [.ptr 1 0] (Rd s p) (fun x:Str=>x∈drawnPaths) (fun x => .c (CS x)) (fun _=>Rd s (p+1)):=by
 refine funW (c:=c_spec_l1Path) mixed c_spec_l1Path_eq (by simp) rfl rfl fun hg=>?_
 refine dr ?_
 refine oW (f_of W0 s p drawnPaths hs hp (by decide)) rfl ⟨rfl,trivial⟩ rfl rfl ⟨_,List.mem_cons_self⟩ fun x hx=>⟨rfl,?_⟩
 refine dEr ?_
 refine ⟨none,_,_,?_,x,hx,rfl,rfl⟩
 refine dr ?_
 trivial
def c_spec_l2Some:XC:=(.s (.r [.ex 2 (.mv (.s []))]) (.s (.r [.mv 3 0,.ex 4 (.bsl 1 9 [(.s []),(.s [120]),(.s [121]),(.s [49,50]),(.s [97,98,99]),(.s [122,57])]),.ex 5 (.opn 95 [3,4]),.mv 2 5]) .ret))
theorem c_spec_l2Some_eq:compF Tryz.prog [95] 173=some (c_spec_l2Some.ac,[(.t 2)],6):=by kernel_rfl
theorem f_l2Some (W0:World) (s:Str) (p:Int) (hs:s.length≤2000) (hp:0≤p∧p≤1000000) :
  FunW Tryz.prog W0 173 [.ptr 1 0] (Rd s p) (fun x:Str=>x∈drawnData) (fun x => .c (CS x)) (fun _=>Rd s (p+1)):=by
 refine funW (c:=c_spec_l2Some) mixed c_spec_l2Some_eq (by simp) rfl rfl fun hg=>?_
 refine dr ?_
 refine oW (f_of W0 s p drawnData hs hp (by decide)) rfl ⟨rfl,trivial⟩ rfl rfl ⟨_,List.mem_cons_self⟩ fun x hx=>⟨rfl,?_⟩
 refine dEr ?_
 refine ⟨none,_,_,?_,x,hx,rfl,rfl⟩
 refine dr ?_
 trivial
end Go.Proofs.YteheahbjaddooaaGreatDoor

namespace Go.Proofs.YteheahbjaddooaaGreatDoor
set_option linter.unusedSimpArgs false
set_option linter.unusedVariables false
open Go Go.RowKit
theorem lq {k0:List Nat} {body:(Fr→XM→Prop)→Fr→XM→Prop} {F:Fr} {m:XM} {σ:Type} (fr:σ→Fr) (mm:σ→XM) (inv:σ→Prop) (me:σ→Nat) (x0:σ) (h0:inv x0) (hk:KeepX k0 (some 3) F m (fr x0) (mm x0))
  (hb:∀ x,inv x→body (fun F' m'=>∃ x',inv x'∧me x' < me x∧KeepX k0 (some 3) F' m' (fr x') (mm x')) (fr x) (mm x)):LoopX k0 body F m :=
 ⟨σ,fr,mm,inv,me,some 3,some 3,_,⟨x0,h0,hk⟩,fun _ _ _ h=>h,hb⟩
theorem lq3 {k0:List Nat} {body:(Fr→XM→Prop)→Fr→XM→Prop} {F:Fr} {m:XM} {α β γ:Type} (fr:α→β→γ→Fr) (mm:α→β→γ→XM) (inv:α→β→γ→Prop) (me:α→β→γ→Nat) (a0:α) (b0:β) (c0:γ) (h0:inv a0 b0 c0) (hk:KeepX k0 (some 3) F m (fr a0 b0 c0) (mm a0 b0 c0))
  (hb:∀ a b c,inv a b c→body (fun F' m'=>∃ a' b' c',inv a' b' c'∧me a' b' c' < me a b c∧KeepX k0 (some 3) F' m' (fr a' b' c') (mm a' b' c')) (fr a b c) (mm a b c)):LoopX k0 body F m :=
 ⟨α × β × γ,fun x=>fr x.1 x.2.1 x.2.2,fun x=>mm x.1 x.2.1 x.2.2,fun x=>inv x.1 x.2.1 x.2.2,fun x=>me x.1 x.2.1 x.2.2,some 3,some 3,fun x F' m'=>∃ a' b' c',inv a' b' c'∧me a' b' c' < me x.1 x.2.1 x.2.2∧KeepX k0 (some 3) F' m' (fr a' b' c') (mm a' b' c'),
  ⟨(a0,b0,c0),h0,hk⟩,fun _ _ _ ⟨a,b,c,h⟩=>⟨(a,b,c),h⟩,fun x h=>hb x.1 x.2.1 x.2.2 h⟩
structure OZ (k:Nat) (o:Over):Prop where
 b:o.base.length≤k
 n:o.layers.length≤k
 l:∀ l∈o.layers,l.length≤k
 u:o.upper.length≤k
theorem OS.oz {o:Over} (h:OS o):OZ 32 o:=⟨by have:=h.b; omega,by have:=h.n; omega,h.l,h.u⟩
theorem OZ.mono {o:Over} {n m:Nat} (h:OZ n o) (hm:n≤m):OZ m o:=⟨by have:=h.b; omega,by have:=h.n; omega,fun l hl=>by have:=h.l l hl; omega,by have:=h.u; omega⟩
def c_spec_l4Copy:XC:=(.s (.r [.ex 1 (.box 0),.ex 2 (.alloc [.nil,.nil,.nil])]) (.s (.d [.ex 5 .bsl0,.f1 6 0 1,.l1 7 1 6,.ex 8 (.app true 3 40 39 5 7),.ex 9 .bsl0,.f1 10 2 1,.l1 11 1 10,.ex 12 (.app true 3 40 133 9 11),.ex 13 (.build [.nil,.nil,.nil] [(0,(1,8)),(2,(1,12))]),.ex 3 (.alloc [.nil,.nil,.nil]),.nu (.st 3 3 13)]) (.s (.s (.r [.m1 4 (.i 0)]) (.blk 0 (.loop (.s (.s (.r [.mv 14 4,.f1 15 1 1,.l1 16 1 15,.ex 17 (.len false 16),.b1 18 .lss 14 17]) (.cnd 18 .skip (.exit 0))) (.s (.blk 1 (.d [.f1 21 1 3,.l1 22 1 21,.ex 23 .bsl0,.f1 24 1 1,.l1 25 1 24,.mv 26 4,.ex 27 (.ia 1 25 26),.l1 28 1 27,.ex 29 (.app true 3 40 133 23 28),.ex 30 (.bsl 1 25 [29]),.ex 31 (.app false 1 24 25 22 30),.f1 32 1 3,.nu (.st 1 32 31)])) (.r [.mv 19 4,.b1 20 .add 19 (.i 1),.mv 4 20])))))) (.s (.r [.l2 33 3 3,.nu (.st 3 2 33)]) .ret))))
theorem c_spec_l4Copy_eq:compF Tryz.prog [] 102=some (c_spec_l4Copy.ac,[(.cell 2 true 3)],34):=by kernel_rfl
theorem f_l4Copy (W0:World) (o:Over) (h:OZ 1000000 o):FunW Tryz.prog W0 102 [.c (eOver o)] [] (fun _:Unit=>True) (fun _ => .agg [.c (eEnts o.base),.own 4 o.layers.length,.c (eMarks o.upper)]) (fun _=>[(4,.row (o.layers.map eMarks) 1 25)]):=by
 refine funW (c:=c_spec_l4Copy) mixed c_spec_l4Copy_eq (by simp) rfl rfl fun hg=>?_
 obtain ⟨z1,z2,z3,z4⟩:=h
 refine dr ?_
 refine lq (σ:=Nat) (fun k=>[(1,.ptr 16 0),(2,.ptr 32 0),(3,.ptr 48 0),(4,I k)]) (fun k=>[(4,.row ((o.layers.take k).map eMarks) 1 25),(16,.box [.c (eEnts o.base),.c (eMarkss o.layers),.c (eMarks o.upper)]),(32,.box [.nil,.nil,.nil]),(48,.box [.c (eEnts o.base),.own 4 k,.c (eMarks o.upper)])]) (fun k=>k≤o.layers.length) (fun k=>o.layers.length - k) 0 (by simp) ?_ ?_
 ·refine KeepX.trans (z:=some 128) (z':=some 3) (F1:=[(1,.ptr 16 0),(2,.ptr 32 0),(3,.ptr 48 0),(4,I 0)]) (m1:=[(16,.box [.c (eEnts o.base),.c (eMarkss o.layers),.c (eMarks o.upper)]),(32,.box [.nil,.nil,.nil]),(48,.box [.c (eEnts o.base),.nil,.own 192 o.upper.length]),(192,.row (o.upper.map eMark) 3 133)]) ?_ ?_
  ·refine dr ?_
   repeat (refine oB (by simp<;>rfl) ?_; first | refine dr ?_ | exact dz)
   trivial
  refine KeepX.trans (z:=some 192) (z':=some 3) (F1:=[(1,.ptr 16 0),(2,.ptr 32 0),(3,.ptr 48 0),(4,I 0)]) (m1:=[(16,.box [.c (eEnts o.base),.c (eMarkss o.layers),.c (eMarks o.upper)]),(32,.box [.nil,.nil,.nil]),(48,.box [.c (eEnts o.base),.nil,.c (eMarks o.upper)])]) ?_ ?_
  ·refine dr ?_
   repeat (refine oB (by simp<;>rfl) ?_; first | refine dr ?_ | exact dz)
   trivial
  ·show KeepS _ _ _ _ _
   exact KeepS.nilB 48 [.c (eEnts o.base),.nil,.c (eMarks o.upper)] [.c (eEnts o.base),.own 4 0,.c (eMarks o.upper)] 4 25 rfl rfl ⟨nr0,nr1,nr0,trivial⟩
 intro k hk
 refine dr ?_
 refine cP (fun h1=>?_) (fun h1=>?_)
 ·have hk':k < o.layers.length:=by omega
  have hz:=z3 _ (List.getElem_mem hk')
  refine dr ?_
  repeat ((first | refine oB (by simp; omega) ?_ | refine oB (by simp) ?_); first | refine dr ?_ | exact dz)
  refine ⟨k+1,by omega,by omega,?_⟩
  rw [List.take_succ_eq_append_getElem hk',List.map_append]
  refine KeepS.push (C:=(o.layers.take k).map eMarks) (L:=o.layers[k].map eMark) 4 464 rfl rfl (by simp) ?_
  refine dr ?_
  trivial
 have hkl:k=o.layers.length:=by omega
 subst hkl
 rw [List.take_length]
 refine dr ?_
 refine ⟨none,_,_,?_,(),trivial,rfl,rfl⟩
 refine dr ?_
 trivial
theorem f_l4CopyC (W0:World) (o:Over) (h:OZ 1000000 o):Fn Tryz.prog W0 102 [eOver o] (.c (eOver o)) []:=by
 refine fnX (c:=c_spec_l4Copy) mixed c_spec_l4Copy_eq (by simp) rfl fun hg=>?_
 obtain ⟨z1,z2,z3,z4⟩:=h
 refine dr ?_
 refine lq (σ:=Nat) (fun k=>[(1,.ptr 16 0),(2,.ptr 32 0),(3,.ptr 48 0),(4,I k)]) (fun k=>[(4,.row ((o.layers.take k).map eMarks) 1 25),(16,.box [.c (eEnts o.base),.c (eMarkss o.layers),.c (eMarks o.upper)]),(32,.box [.nil,.nil,.nil]),(48,.box [.c (eEnts o.base),.own 4 k,.c (eMarks o.upper)])]) (fun k=>k≤o.layers.length) (fun k=>o.layers.length - k) 0 (by simp) ?_ ?_
 ·refine KeepX.trans (z:=some 128) (z':=some 3) (F1:=[(1,.ptr 16 0),(2,.ptr 32 0),(3,.ptr 48 0),(4,I 0)]) (m1:=[(16,.box [.c (eEnts o.base),.c (eMarkss o.layers),.c (eMarks o.upper)]),(32,.box [.nil,.nil,.nil]),(48,.box [.c (eEnts o.base),.nil,.own 192 o.upper.length]),(192,.row (o.upper.map eMark) 3 133)]) ?_ ?_
  ·refine dr ?_
   repeat (refine oB (by simp<;>rfl) ?_; first | refine dr ?_ | exact dz)
   trivial
  refine KeepX.trans (z:=some 192) (z':=some 3) (F1:=[(1,.ptr 16 0),(2,.ptr 32 0),(3,.ptr 48 0),(4,I 0)]) (m1:=[(16,.box [.c (eEnts o.base),.c (eMarkss o.layers),.c (eMarks o.upper)]),(32,.box [.nil,.nil,.nil]),(48,.box [.c (eEnts o.base),.nil,.c (eMarks o.upper)])]) ?_ ?_
  ·refine dr ?_
   repeat (refine oB (by simp<;>rfl) ?_; first | refine dr ?_ | exact dz)
   trivial
  ·show KeepS _ _ _ _ _
   exact KeepS.nilB 48 [.c (eEnts o.base),.nil,.c (eMarks o.upper)] [.c (eEnts o.base),.own 4 0,.c (eMarks o.upper)] 4 25 rfl rfl ⟨nr0,nr1,nr0,trivial⟩
 intro k hk
 refine dr ?_
 refine cP (fun h1=>?_) (fun h1=>?_)
 ·have hk':k < o.layers.length:=by omega
  have hz:=z3 _ (List.getElem_mem hk')
  refine dr ?_
  repeat ((first | refine oB (by simp; omega) ?_ | refine oB (by simp) ?_); first | refine dr ?_ | exact dz)
  refine ⟨k+1,by omega,by omega,?_⟩
  rw [List.take_succ_eq_append_getElem hk',List.map_append]
  refine KeepS.push (C:=(o.layers.take k).map eMarks) (L:=o.layers[k].map eMark) 4 464 rfl rfl (by simp) ?_
  refine dr ?_
  trivial
 have hkl:k=o.layers.length:=by omega
 subst hkl
 rw [List.take_length]
 refine dr ?_
 rfl
def c_spec_l4With:XC:=(.s (.r [.ex 2 (.box 0),.ex 4 (.alloc [.nil,.nil,.nil])]) (.s (.r [.l2 8 3 2,.c1 9 74 [8],.mv 7 9,.ex 10 (.ext 7 0),.ex 11 (.ext 7 1),.ex 5 (.asn 10 3 39),.mv 6 11]) (.s (.r [.mv 12 5,.mv 13 1,.c1 14 76 [12,13],.f1 15 2 2,.nu (.st 1 15 14)]) (.s (.r [.l2 16 3 2,.nu (.st 3 4 16)]) .ret))))
theorem c_spec_l4With_eq:compF Tryz.prog [] 149=some (c_spec_l4With.ac,[(.cell 4 true 3)],17):=by kernel_rfl
theorem f_l4With (W0:World) (o:Over) (t x:List Ent) (h1:lower4 o=some t) (ht:tOk t=true) (hx:tOk x=true):Fn Tryz.prog W0 149 [eOver o,eEnts x] (.c (eOver ⟨o.base,o.layers,diff t x⟩)) []:=by
 refine fnX (c:=c_spec_l4With) mixed c_spec_l4With_eq (by simp) rfl fun hg=>?_
 have q:=f_l4Lower W0 o
 rw [h1] at q
 refine dEr ?_
 repeat ((first | refine c0 q rfl ?_ | refine c0 (f_l3Diff W0 t x ht hx) rfl ?_); first | refine dEr ?_ | exact dz)
 rfl
def c_spec_OverDo:XC:=(.s (.r [.ex 2 (.box 0),.ex 3 (.box 1),.ex 4 (.alloc [.nil,.nil,.nil]),.m1 5 (.i 0)]) (.s (.s (.r [.l2 10 3 2,.c1 11 25 [10],.ex 12 (.un .not 11)]) (.cnd 12 (.s (.r [.ex 13 (.build [.nil,.nil,.nil] []),.nu (.st 3 4 13),.m1 5 (.i 1)]) .ret) .skip)) (.s (.r [.l2 15 3 2,.c1 16 69 [15],.mv 14 16,.ex 17 (.ext 14 0),.ex 18 (.ext 14 1),.ex 6 (.asn 17 3 39),.mv 7 18]) (.s (.r [.mv 20 6,.l2 21 4 3,.c1 22 107 [20,21],.mv 19 22,.ex 23 (.ext 19 0),.ex 24 (.ext 19 1),.ex 8 (.asn 23 3 39),.mv 9 24]) (.s (.s (.r [.mv 25 9,.b1 26 .neq 25 (.i 0)]) (.cnd 26 (.s (.r [.l2 27 3 2,.c1 28 102 [27],.mv 29 9,.nu (.st 3 4 28),.mv 5 29]) .ret) .skip)) (.s (.r [.l2 30 3 2,.c1 31 102 [30],.mv 32 8,.c1 33 149 [31,32],.mv 34 9,.nu (.st 3 4 33),.mv 5 34]) .ret))))))
theorem c_spec_OverDo_eq:compF Tryz.prog [] 93=some (c_spec_OverDo.ac,[(.cell 4 true 3),(.t 5)],35):=by kernel_rfl
theorem f_spec_OverDo (W0:World) (o:Over) (op:Op):Fn Tryz.prog W0 93 [eOver o,eOp op] (.c (eOC (oDo o op))) []:=by
 refine fnX (c:=c_spec_OverDo) mixed c_spec_OverDo_eq (by simp) rfl fun hg=>?_
 refine dEr ?_
 repeat (refine c0 (f_spec_OverOk W0 o) rfl ?_; first | refine dEr ?_ | exact dz)
 refine cP (fun h1=>?_) (fun h1=>?_)
 ·refine dr ?_
  rw [oDo,if_neg (by simp [h1])]<;>rfl
 obtain ⟨t,x,g⟩:=OG.of h1
 rw [g.doEq]
 have q1:=f_l4View W0 o
 rw [g.vw] at q1
 have q2:=f_spec_TreeDo W0 x op
 have q3:=f_l4CopyC W0 o (g.os.oz.mono (by omega))
 have q4:=(treeDo_ok g.gx (op:=op))
 generalize treeDo x op=r at *
 obtain ⟨y,c⟩:=r
 refine dEr ?_
 repeat ((first | refine c0 q1 rfl ?_ | refine c0 q2 rfl ?_); first | refine dEr ?_ | exact dz)
 refine cP (fun h2=>?_) (fun h2=>?_)
 ·refine dEr ?_
  repeat (refine c0 q3 rfl ?_; first | refine dEr ?_ | exact dz)
  rw [if_neg h2]<;>rfl
 ·obtain ⟨_,_,k1,k2⟩:=q4 h2
  simp only at k1
  have q5:=f_l4With W0 o t y g.low g.gt (by rw [k1]; exact k2)
  refine dEr ?_
  repeat ((first | refine c0 q3 rfl ?_ | refine c0 q5 rfl ?_); first | refine dEr ?_ | exact dz)
  rw [if_pos h2,h2]<;>rfl
def c_spec_OverPush:XC:=(.s (.r [.ex 1 (.box 0),.ex 2 (.alloc [.nil,.nil,.nil]),.m1 3 .n]) (.s (.s (.r [.l2 5 3 1,.c1 6 25 [5],.ex 7 (.un .not 6)]) (.cnd 7 (.s (.r [.ex 8 (.build [.nil,.nil,.nil] []),.nu (.st 3 2 8),.m1 3 .n]) .ret) .skip)) (.s (.r [.l2 9 3 1,.ex 10 (.opn 102 [9]),.ex 4 (.alloc [.nil,.nil,.nil]),.nu (.st 3 4 10)]) (.s (.s (.r [.f1 11 1 1,.l1 12 1 11,.ex 13 (.len false 12),.b1 14 .geq 13 (.i 4)]) (.cnd 14 (.s (.r [.l2 15 3 4,.nu (.st 3 2 15),.m1 3 .n]) .ret) .skip)) (.s (.r [.f1 16 1 4,.l1 17 1 16,.f1 18 2 4,.l1 19 1 18,.ex 20 (.bsl 1 25 [19]),.ex 21 (.app false 1 24 25 17 20),.f1 22 1 4,.nu (.st 1 22 21)]) (.s (.r [.ex 23 .bsl0,.f1 24 2 4,.nu (.st 1 24 23)]) (.s (.r [.l2 25 3 4,.nu (.st 3 2 25),.m1 3 .y]) .ret)))))))
theorem c_spec_OverPush_eq:compF Tryz.prog [102] 152=some (c_spec_OverPush.ac,[(.cell 2 true 3),(.t 3)],26):=by kernel_rfl
theorem f_spec_OverPush (W0:World) (o:Over):Fn Tryz.prog W0 152 [eOver o] (.c (eOB (oPush o))) []:=by
 refine fnX (c:=c_spec_OverPush) mixed c_spec_OverPush_eq (by simp) rfl fun hg=>?_
 refine dEr ?_
 repeat (refine c0 (f_spec_OverOk W0 o) rfl ?_; first | refine dEr ?_ | exact dz)
 refine cP (fun h1=>?_) (fun h1=>?_)
 ·refine dr ?_
  rw [oPush,if_neg (by simp [h1])]<;>rfl
 have hz:=OS.ok h1
 rw [oPush,if_pos h1]
 refine dr ?_
 refine oW (f_l4Copy W0 o (hz.oz.mono (by omega))) rfl trivial rfl rfl ⟨(),trivial⟩ fun _ _=>⟨rfl,?_⟩
 refine dEr ?_
 refine cP (fun h2=>?_) (fun h2=>?_)
 ·refine dr ?_
  repeat (refine oB (by simp) ?_; first | refine dr ?_ | exact dz)
  rw [if_pos (by omega)]<;>rfl
 ·have:=hz.n
  refine dr ?_
  repeat ((first | refine oB (by simp; omega) ?_ | refine oB (by simp) ?_); first | refine dr ?_ | exact dz)
  rw [if_neg (by omega)]
  exact congrArg (fun y=>CV.tup [.agg [eEnts o.base,y,eMarks []],CB true]) (by simp [eMarkss])
def c_spec_OverFlat:XC:=(.s (.r [.ex 1 (.box 0),.ex 2 (.alloc [.nil,.nil,.nil]),.m1 3 .n]) (.s (.s (.r [.l2 8 3 1,.c1 9 25 [8],.ex 10 (.un .not 9)]) (.cnd 10 (.s (.r [.ex 11 (.build [.nil,.nil,.nil] []),.nu (.st 3 2 11),.m1 3 .n]) .ret) .skip)) (.s (.r [.l2 12 3 1,.c1 13 102 [12],.ex 4 (.alloc [.nil,.nil,.nil]),.nu (.st 3 4 13)]) (.s (.s (.r [.f1 14 1 4,.l1 15 1 14,.ex 16 (.len false 15),.b1 17 .lss 16 (.i 2)]) (.cnd 17 (.s (.r [.l2 18 3 4,.nu (.st 3 2 18),.m1 3 .n]) .ret) .skip)) (.s (.r [.f1 19 1 4,.l1 20 1 19,.ex 21 (.ia 1 20 (.i 0)),.l1 22 1 21,.ex 5 (.asn 22 3 133)]) (.s (.s (.r [.m1 6 (.i 1)]) (.blk 0 (.loop (.s (.s (.r [.mv 23 6,.f1 24 1 4,.l1 25 1 24,.ex 26 (.len false 25),.b1 27 .lss 23 26]) (.cnd 27 .skip (.exit 0))) (.s (.blk 1 (.s (.r [.m1 7 .n]) (.s (.r [.f1 31 1 4,.l1 32 1 31,.mv 33 6,.ex 34 (.ia 1 32 33),.l1 35 1 34,.mv 36 5,.c1 37 192 [35,36],.mv 30 37,.ex 38 (.ext 30 0),.ex 39 (.ext 30 1),.ex 5 (.asn 38 3 133),.mv 7 39]) (.s (.r [.mv 40 7,.ex 41 (.un .not 40)]) (.cnd 41 (.s (.r [.l2 42 3 4,.nu (.st 3 2 42),.m1 3 .n]) .ret) .skip))))) (.r [.mv 28 6,.b1 29 .add 28 (.i 1),.mv 6 29])))))) (.s (.r [.mv 43 5,.ex 44 (.bsl 1 25 [43]),.f1 45 1 4,.nu (.st 1 45 44)]) (.s (.r [.l2 46 3 4,.nu (.st 3 2 46),.m1 3 .y]) .ret))))))))
theorem c_spec_OverFlat_eq:compF Tryz.prog [] 153=some (c_spec_OverFlat.ac,[(.cell 2 true 3),(.t 3)],47):=by kernel_rfl
theorem flatA_cons {one l:List Mark} {r:List (List Mark)}:flatA one (l::r)=match lJoin l one with
  | some j=>flatA j r
  | none=>none:=by rw [flatA]; cases lJoin l one<;>rfl
theorem f_spec_OverFlat (W0:World) (o:Over):Fn Tryz.prog W0 153 [eOver o] (.c (eOB (oFlat o))) []:=by
 refine fnX (c:=c_spec_OverFlat) mixed c_spec_OverFlat_eq (by simp) rfl fun hg=>?_
 refine dEr ?_
 repeat (refine c0 (f_spec_OverOk W0 o) rfl ?_; first | refine dEr ?_ | exact dz)
 refine cP (fun h1=>?_) (fun h1=>?_)
 ·refine dr ?_
  rw [oFlat,if_neg (by simp [h1])]<;>rfl
 have hz:=OS.ok h1
 rw [oFlat,if_pos h1]
 refine dEr ?_
 repeat (refine c0 (f_l4CopyC W0 o (hz.oz.mono (by omega))) rfl ?_; first | refine dEr ?_ | exact dz)
 refine cP (fun h2=>?_) (fun h2=>?_)
 ·refine dr ?_
  have e:flatO o=none:=by
   unfold flatO
   split
   ·rename_i a b r he; rw [he] at h2; simp at h2; omega
   ·rfl
  rw [e]<;>rfl
 have h0:0 < o.layers.length:=by omega
 obtain ⟨a,b,r,hl⟩:∃ a b r,o.layers=a::b::r:=by
  cases hl:o.layers with
  | nil=>rw [hl] at h0; simp at h0
  | cons a s=>cases s with
   | nil=>rw [hl] at h2; simp at h2
   | cons b r=>exact ⟨a,b,r,rfl⟩
 have e0:flatO o=flatA o.layers[0] (o.layers.drop 1):=by
  have e:o.layers[0]=a:=by simp [hl]
  rw [e]
  unfold flatO
  rw [hl]; rfl
 rw [e0]
 have hn4:=hz.n
 refine dr ?_
 repeat (refine aM (j:=0) rfl (by omega) ?_; first | refine dr ?_ | exact dz)
 refine lp2 (fun (k:Nat) (one:List Mark)=>[(2,.ptr 32 0),(4,.ptr 64 0),(5,.c (eMarks one)),(6,I k)]) (fun _ _=>[(32,.box [.nil,.nil,.nil]),(64,.box [.c (eEnts o.base),.c (eMarkss o.layers),.c (eMarks o.upper)])]) (fun k one=>1≤k∧k≤o.layers.length∧flatA one (o.layers.drop k)=flatA o.layers[0] (o.layers.drop 1)) (fun k _=>o.layers.length - k) 1 o.layers[0] ⟨by omega,by omega,rfl⟩ ?_ ?_
 ·refine dr ?_
  trivial
 rintro k one ⟨k1,k2,k3⟩
 refine dr ?_
 refine cP (fun h3=>?_) (fun h3=>?_)
 ·have hk':k < o.layers.length:=by omega
  rw [List.drop_eq_getElem_cons hk',flatA_cons] at k3
  have q:=f_spec_LayerJoin W0 o.layers[k] one
  cases hj:lJoin o.layers[k] one with
  | none =>
   rw [hj] at q k3
   refine dEr ?_
   repeat (refine c0 q rfl ?_; first | refine dEr ?_ | exact dz)
   rw [← k3]<;>rfl
  | some j =>
   rw [hj] at q k3
   refine dEr ?_
   repeat (refine c0 q rfl ?_; first | refine dEr ?_ | exact dz)
   refine ⟨k+1,j,⟨by omega,by omega,k3⟩,by omega,?_⟩
   refine dr ?_
   trivial
 ·have hkl:k=o.layers.length:=by omega
  rw [hkl,List.drop_length,flatA] at k3
  refine dr ?_
  rw [← k3]<;>rfl
end Go.Proofs.YteheahbjaddooaaGreatDoor

namespace Go.Proofs.YteheahbjaddooaaGreatDoor
set_option linter.unusedSimpArgs false
set_option linter.unusedVariables false
open Go Go.RowKit
abbrev wCs (w:Wld):List PV:=[.c (eEnts w.over.base),.c (eMarkss w.over.layers),.c (eMarks w.over.upper),I w.clock,I w.count,.c (eLeases w.leases),.c (eHoldss w.holds),.c (eInts w.floors),.c (eMsgs w.net),B w.waits,I w.op.kind,.c (CS w.op.path),.c (CS w.op.dest),.c (CS w.op.data)]
abbrev wBx (w:Wld):XB := .box (wCs w)
abbrev hCs (h:Hold):List PV:=[.c (CS h.path),B h.has,.c (CS h.ent.path),B h.ent.dir,.c (CS h.ent.data),I h.num,I h.til]
abbrev lCs (l:Lease):List PV:=[I l.who,.c (CS l.path),I l.num,I l.til]
abbrev mCs (m:Msg):List PV:=[I m.kind,I m.who,.c (CS m.hold.path),B m.hold.has,.c (CS m.hold.ent.path),B m.hold.ent.dir,.c (CS m.hold.ent.data),I m.hold.num,I m.hold.til]
theorem aHd {w:Wld} {who:Int} (hw:isW who) (hl:w.holds.length=3) {K:CV→Prop} (h:K (eHolds (hdW w who))):AtX who (w.holds.map eHolds) K:=by
 have:=hw.1; have:=hw.2
 have hk:who.toNat < w.holds.length:=by omega
 refine ⟨who.toNat,by omega,_,by rw [List.getElem?_map,List.getElem?_eq_getElem hk]; rfl,?_⟩
 have e:hdW w who=w.holds[who.toNat]:=by unfold hdW; rw [List.getD_eq_getElem?_getD,List.getElem?_eq_getElem hk]; rfl
 rw [← e]; exact h
theorem aFl {w:Wld} {who:Int} (hw:isW who) (hl:w.floors.length=3) {K:CV→Prop} (h:K (CI (flW w who))):AtX who (w.floors.map CI) K:=by
 have:=hw.1; have:=hw.2
 have hk:who.toNat < w.floors.length:=by omega
 refine ⟨who.toNat,by omega,_,by rw [List.getElem?_map,List.getElem?_eq_getElem hk]; rfl,?_⟩
 have e:flW w who=w.floors[who.toNat]:=by unfold flW; rw [List.getD_eq_getElem?_getD,List.getElem?_eq_getElem hk]; rfl
 rw [← e]; exact h
theorem tb_leI {a b:Int}:leI a b=tb (a≤b):=by rw [Bool.eq_iff_iff,leI_t,tb_i]
theorem tb_ltI {a b:Int}:ltI a b=tb (a < b):=by rw [Bool.eq_iff_iff,ltI_t,tb_i]
def c_spec_l5Who:XC:=(.s (.r [.m1 2 .n]) (.s (.r [.mv 3 0,.b1 4 .geq 3 (.i 0),.mv 5 4,.gt 6 (.mv 0) 5,.gt 7 (.bin .lss 6 (.i 3)) 5,.ex 8 (.pick 5 7 .n),.mv 2 8]) .ret))
theorem c_spec_l5Who_eq:compF Tryz.prog [] 37=some (c_spec_l5Who.ac,[(.t 2)],9):=by kernel_rfl
theorem f_l5Who (W0:World) (who:Int):Fn Tryz.prog W0 37 [CI who] (.c (CB (tb (isW who)))) []:=by
 refine fnX (c:=c_spec_l5Who) mixed c_spec_l5Who_eq (by simp) rfl fun hg=>?_
 refine dr ?_
 refine cP (fun h1=>?_) (fun h1=>?_)
 ·refine dr ?_
  rw [tb_ltI]
  exact congrArg CB (tb_c ⟨fun h=>⟨h1,h⟩,fun h=>h.2⟩)
 ·refine dr ?_
  exact pF fun h=>by have:=h.1; omega
def noL:Lease:=⟨0,[],0,0⟩
def eLO (x:Option Lease):CV := .tup [eLease (x.getD noL),CB x.isSome]
theorem lfind_here {l:List Lease} {k:Nat} (h:k < l.length) {who:Int} {p:Str} (hn:lfind (l.take k) who p=none) (h1:l[k].who=who) (h2:l[k].path=p):lfind l who p=some l[k]:=by
 have e:l=l.take k++(l[k]::l.drop (k+1)):=by rw [← List.drop_eq_getElem_cons h,List.take_append_drop]
 have e2:lfind (l.take k++(l[k]::l.drop (k+1))) who p=some l[k]:=by
  rw [lfind_app,hn]
  unfold lfind
  rw [List.find?_cons,h1,h2]; simp
 rw [← e] at e2; exact e2
theorem lfind_on {l:List Lease} {k:Nat} (h:k < l.length) {who:Int} {p:Str} (hn:lfind (l.take k) who p=none) (h1:¬ (l[k].who=who∧l[k].path=p)):lfind (l.take (k+1)) who p=none:=by
 rw [List.take_succ_eq_append_getElem h,lfind_app,hn]
 exact lfind_none fun x hx=>by rw [List.mem_singleton.1 hx]; exact h1
def c_spec_l5Lease:XC:=(.s (.r [.ex 3 (.box 0),.ex 6 (.alloc [(I 0),sE,(I 0),(I 0)]),.m1 7 .n]) (.s (.s (.r [.m1 8 (.i 0)]) (.blk 0 (.loop (.s (.s (.r [.mv 9 8,.f1 10 5 3,.l1 11 1 10,.ex 12 (.len false 11),.b1 13 .lss 9 12]) (.cnd 13 .skip (.exit 0))) (.s (.blk 1 (.s (.r [.f1 16 5 3,.l1 17 1 16,.mv 18 8,.ex 19 (.ia 4 17 18),.f1 20 0 19,.l1 21 1 20,.mv 22 1,.b1 23 .eql 21 22,.mv 24 23,.gt 25 (.fa 5 3) 24,.gt 26 (.ld false 1 25) 24,.gt 27 (.mv 8) 24,.gt 28 (.ia 4 26 27) 24,.gt 29 (.fa 1 28) 24,.gt 30 (.ld false 1 29) 24,.gt 31 (.mv 2) 24,.gt 32 (.bin .eql 30 31) 24,.ex 33 (.pick 24 32 .n)]) (.cnd 33 (.s (.r [.f1 34 5 3,.l1 35 1 34,.mv 36 8,.ex 37 (.ia 4 35 36),.l2 38 4 37,.nu (.st 4 6 38),.m1 7 .y]) .ret) .skip))) (.r [.mv 14 8,.b1 15 .add 14 (.i 1),.mv 8 15])))))) (.s (.r [.ex 39 (.build [(I 0),sE,(I 0),(I 0)] []),.nu (.st 4 6 39),.m1 7 .n]) .ret)))
theorem c_spec_l5Lease_eq:compF Tryz.prog [] 168=some (c_spec_l5Lease.ac,[(.cell 6 true 4),(.t 7)],40):=by kernel_rfl
theorem f_l5Lease (W0:World) (w:Wld) (who:Int) (p:Str):Fn Tryz.prog W0 168 [eWld w,CI who,CS p] (.c (eLO (lfind w.leases who p))) []:=by
 refine fnX (c:=c_spec_l5Lease) mixed c_spec_l5Lease_eq (by simp) rfl fun hg=>?_
 have g0:=goodAgg (hg _ (by simp:eWld w∈_))
 have g1:w.leases.length≤9223372036854775807:=goodRow (g0 _ (by simp:eLeases w.leases∈_))
 refine dr ?_
 refine lp (σ:=Nat) (fun k=>[(1,.c (CI who)),(2,.c (CS p)),(3,.ptr 48 0),(6,.ptr 96 0),(8,I k)]) (fun _=>[(48,wBx w),(96,.box (lCs noL))]) (fun k=>k≤w.leases.length∧lfind (w.leases.take k) who p=none) (fun k=>w.leases.length - k) 0 ⟨by omega,rfl⟩ ?_ ?_
 ·refine dr ?_
  trivial
 rintro k ⟨hk,hn⟩
 refine dr ?_
 refine cP (fun h1=>?_) (fun h1=>?_)
 ·have hk':k < w.leases.length:=by omega
  refine dr ?_
  refine cP (fun h2=>?_) (fun h2=>?_)
  ·refine dr ?_
   refine cP (fun h3=>?_) (fun h3=>?_)
   ·refine dr ?_
    rw [lfind_here hk' hn h2 h3]<;>rfl
   ·refine dr ?_
    refine ⟨k+1,⟨by omega,lfind_on hk' hn fun h=>h3 h.2⟩,by omega,?_⟩
    refine dr ?_
    trivial
  ·refine dr ?_
   refine ⟨k+1,⟨by omega,lfind_on hk' hn fun h=>h2 h.1⟩,by omega,?_⟩
   refine dr ?_
   trivial
 ·have hkl:k=w.leases.length:=by omega
  rw [hkl,List.take_length] at hn
  refine dr ?_
  rw [hn]<;>rfl
def c_spec_l5Leases:XC:=(.s (.r [.ex 1 (.box 0),.m1 2 .n]) (.s (.s (.r [.m1 3 (.i 0)]) (.blk 0 (.loop (.s (.s (.r [.mv 6 3,.f1 7 5 1,.l1 8 1 7,.ex 9 (.len false 8),.b1 10 .lss 6 9]) (.cnd 10 .skip (.exit 0))) (.s (.blk 1 (.s (.r [.f1 13 5 1,.l1 14 1 13,.mv 15 3,.ex 16 (.ia 4 14 15),.l2 17 4 16,.ex 4 (.alloc [(I 0),sE,(I 0),(I 0)]),.nu (.st 4 4 17)]) (.s (.s (.r [.f1 18 0 4,.l1 19 1 18,.c1 20 37 [19],.ex 21 (.un .not 20),.mv 22 21,.gf 23 (.fa 1 4) 22,.gf 24 (.ld false 1 23) 22,.gf 25 (.call 106 [24]) 22,.gf 26 (.un .not 25) 22,.ex 27 (.pick 22 .y 26),.mv 28 27,.gf 29 (.fa 2 4) 28,.gf 30 (.ld false 1 29) 28,.gf 31 (.bin .lss 30 (.i 1)) 28,.ex 32 (.pick 28 .y 31),.mv 33 32,.gf 34 (.fa 2 4) 33,.gf 35 (.ld false 1 34) 33,.gf 36 (.fa 4 1) 33,.gf 37 (.ld false 1 36) 33,.gf 38 (.bin .gtr 35 37) 33,.ex 39 (.pick 33 .y 38),.mv 40 39,.gf 41 (.fa 3 4) 40,.gf 42 (.ld false 1 41) 40,.gf 43 (.fa 3 1) 40,.gf 44 (.ld false 1 43) 40,.gf 45 (.bin .add 44 (.i 5)) 40,.gf 46 (.bin .gtr 42 45) 40,.ex 47 (.pick 40 .y 46)]) (.cnd 47 (.s (.r [.m1 2 .n]) .ret) .skip)) (.s (.r [.m1 5 (.i 0)]) (.blk 2 (.loop (.s (.s (.r [.mv 48 5,.mv 49 3,.b1 50 .lss 48 49]) (.cnd 50 .skip (.exit 2))) (.s (.blk 3 (.s (.d [.f1 53 5 1,.l1 54 1 53,.mv 55 5,.ex 56 (.ia 4 54 55),.f1 57 0 56,.l1 58 1 57,.f1 59 0 4,.l1 60 1 59,.b1 61 .eql 58 60,.mv 62 61,.gt 63 (.fa 5 1) 62,.gt 64 (.ld false 1 63) 62,.gt 65 (.mv 5) 62,.gt 66 (.ia 4 64 65) 62,.gt 67 (.fa 1 66) 62,.gt 68 (.ld false 1 67) 62,.gt 69 (.fa 1 4) 62,.gt 70 (.ld false 1 69) 62,.gt 71 (.bin .eql 68 70) 62,.ex 72 (.pick 62 71 .n)]) (.cnd 72 (.s (.r [.m1 2 .n]) .ret) .skip))) (.r [.mv 51 5,.b1 52 .add 51 (.i 1),.mv 5 52]))))))))) (.r [.mv 11 3,.b1 12 .add 11 (.i 1),.mv 3 12])))))) (.s (.r [.m1 2 .y]) .ret)))
theorem c_spec_l5Leases_eq:compF Tryz.prog [] 64=some (c_spec_l5Leases.ac,[(.t 2)],73):=by kernel_rfl
theorem f_l5Leases (W0:World) (w:Wld) (hp:w.clock≤10000):Fn Tryz.prog W0 64 [eWld w] (.c (CB (tb (LsOk w)))) []:=by
 refine fnX (c:=c_spec_l5Leases) mixed c_spec_l5Leases_eq (by simp) rfl fun hg=>?_
 have g0:=goodAgg (hg _ (by simp:eWld w∈_))
 have g1:w.leases.length≤9223372036854775807:=goodRow (g0 _ (by simp:eLeases w.leases∈_))
 have g2:=goodI (g0 _ (by simp:CI w.clock∈_))
 refine dr ?_
 refine lp (σ:=Nat) (fun k=>[(1,.ptr 16 0),(3,I k)]) (fun _=>[(16,wBx w)]) (fun k=>k≤w.leases.length∧(∀ l∈w.leases.take k,LsG w l)∧(w.leases.take k).Pairwise LsD) (fun k=>w.leases.length - k) 0 ⟨by omega,by simp,by simp⟩ ?_ ?_
 ·refine dr ?_
  trivial
 rintro k ⟨hk,hA,hP⟩
 refine dr ?_
 refine cP (fun h1=>?_) (fun h1=>?_)
 rotate_left
 ·have hkl:k=w.leases.length:=by omega
  rw [hkl,List.take_length] at hA hP
  refine dr ?_
  exact pT ⟨hA,hP⟩
 have hk':k < w.leases.length:=by omega
 have no:¬ LsG w w.leases[k]→CB false=CB (tb (LsOk w)):=fun h=>pF fun hh=>h (hh.g _ (List.getElem_mem hk'))
 refine dr ?_
 refine c0 (f_l5Who W0 _) rfl ?_
 refine dEr ?_
 refine cP (fun a1=>?_) (fun a1=>?_)
 ·refine dr ?_
  exact no fun h=>a1 h.1
 refine dEr ?_
 repeat (refine c0 (f_spec_PathOk W0 _) rfl ?_; first | refine dEr ?_ | exact dz)
 refine cP (fun a2=>?_) (fun a2=>?_)
 ·refine dr ?_
  exact no fun h=>by rw [h.2.1] at a2; cases a2
 refine dr ?_
 refine cP (fun a3=>?_) (fun a3=>?_)
 ·refine dr ?_
  exact no fun h=>by have:=h.2.2.1; omega
 refine dr ?_
 refine cP (fun a4=>?_) (fun a4=>?_)
 ·refine dr ?_
  exact no fun h=>by have:=h.2.2.2.1; omega
 refine dr ?_
 repeat (refine oB (by omega) ?_; first | refine dr ?_ | exact dz)
 refine cP (fun a5=>?_) (fun a5=>?_)
 ·refine dr ?_
  exact no fun h=>by have:=h.2.2.2.2; omega
 refine dr ?_
 refine lp (σ:=Nat) (fun j=>[(1,.ptr 16 0),(3,I k),(4,.ptr 64 0),(5,I j)]) (fun _=>[(16,wBx w),(64,.box (lCs w.leases[k]))]) (fun j=>j≤k∧∀ l∈w.leases.take j,LsD l w.leases[k]) (fun j=>k - j) 0 ⟨by omega,by simp⟩ ?_ ?_
 ·refine dr ?_
  trivial
 rintro j ⟨hj,hD⟩
 refine dr ?_
 refine cP (fun b1=>?_) (fun b1=>?_)
 rotate_left
 ·have hjk:j=k:=by omega
  rw [hjk] at hD
  refine dr ?_
  refine ⟨k+1,⟨by omega,?_,?_⟩,by omega,?_⟩
  ·rw [List.take_succ_eq_append_getElem hk']
   intro l hl
   rcases List.mem_append.1 hl with h | h
   ·exact hA l h
   ·rw [List.mem_singleton.1 h]; exact ⟨a1,a2,by omega,by omega,by omega⟩
  ·rw [List.take_succ_eq_append_getElem hk',List.pairwise_append]
   exact ⟨hP,by simp,fun a ha b hb=>by rw [List.mem_singleton.1 hb]; exact hD a ha⟩
  refine dr ?_
  trivial
 have hjl:j < w.leases.length:=by omega
 have next:¬ (w.leases[j].who=w.leases[k].who∧w.leases[j].path=w.leases[k].path)→∀ l∈w.leases.take (j+1),LsD l w.leases[k]:=fun h l hl=>by
  rw [List.take_succ_eq_append_getElem hjl] at hl
  rcases List.mem_append.1 hl with h' | h'
  ·exact hD l h'
  ·rw [List.mem_singleton.1 h']; exact h
 refine dr ?_
 refine cP (fun b2=>?_) (fun b2=>?_)
 ·refine dr ?_
  refine cP (fun b3=>?_) (fun b3=>?_)
  ·refine dr ?_
   refine pF fun hh=>?_
   have:=List.pairwise_iff_getElem.1 hh.d j k hjl hk' (by omega)
   exact this ⟨b2,b3⟩
  ·refine dr ?_
   refine ⟨j+1,⟨by omega,next fun h=>b3 h.2⟩,by omega,?_⟩
   refine dr ?_
   trivial
 ·refine dr ?_
  refine ⟨j+1,⟨by omega,next fun h=>b2 h.1⟩,by omega,?_⟩
  refine dr ?_
  trivial
def c_spec_l5So:XC:=(.s (.r [.ex 4 (.box 0),.ex 7 (.box 3),.m1 8 .n]) (.s (.s (.r [.f1 13 3 4,.l1 14 1 13,.f1 15 6 7,.l1 16 1 15,.b1 17 .geq 14 16]) (.cnd 17 (.s (.r [.m1 8 .y]) .ret) .skip)) (.s (.r [.mv 19 1,.f1 20 0 7,.l1 21 1 20,.c1 22 121 [19,21],.mv 18 22,.ex 23 (.ext 18 0),.ex 24 (.ext 18 1),.ex 9 (.alloc [sE,(B false),sE]),.nu (.st 3 9 23),.mv 10 24]) (.s (.r [.l2 26 14 4,.mv 27 2,.f1 28 0 7,.l1 29 1 28,.c1 30 168 [26,27,29],.mv 25 30,.ex 31 (.ext 25 0),.ex 32 (.ext 25 1),.ex 11 (.alloc [(I 0),sE,(I 0),(I 0)]),.nu (.st 4 11 31),.mv 12 32]) (.s (.r [.mv 33 10,.f1 34 1 7,.l1 35 1 34,.ex 36 (.bb false 33 35),.mv 37 36,.gt 38 (.ld true 3 9) 37,.gt 39 (.fa 2 7) 37,.gt 40 (.ld true 3 39) 37,.gt 41 (.beq false [.s,.b,.s] 38 40) 37,.ex 42 (.pick 37 41 .n),.mv 43 42,.gt 44 (.mv 12) 43,.ex 45 (.pick 43 44 .n),.mv 46 45,.gt 47 (.fa 3 4) 46,.gt 48 (.ld false 1 47) 46,.gt 49 (.fa 3 11) 46,.gt 50 (.ld false 1 49) 46,.gt 51 (.bin .lss 48 50) 46,.ex 52 (.pick 46 51 .n),.mv 53 52,.gt 54 (.fa 2 11) 53,.gt 55 (.ld false 1 54) 53,.gt 56 (.fa 5 7) 53,.gt 57 (.ld false 1 56) 53,.gt 58 (.bin .geq 55 57) 53,.ex 59 (.pick 53 58 .n),.mv 60 59,.gt 61 (.fa 3 11) 60,.gt 62 (.ld false 1 61) 60,.gt 63 (.fa 6 7) 60,.gt 64 (.ld false 1 63) 60,.gt 65 (.bin .geq 62 64) 60,.ex 66 (.pick 60 65 .n),.mv 8 66]) .ret)))))
theorem c_spec_l5So_eq:compF Tryz.prog [] 108=some (c_spec_l5So.ac,[(.t 8)],67):=by kernel_rfl
theorem so_iff {w:Wld} {t:List Ent} {who:Int} {h:Hold} (ha:w.clock < h.til):So w t who h↔((get t h.path).isSome=h.has∧(get t h.path).getD noE=h.ent∧(lfind w.leases who h.path).isSome=true ∧
  w.clock < ((lfind w.leases who h.path).getD noL).til∧h.num≤((lfind w.leases who h.path).getD noL).num∧h.til≤((lfind w.leases who h.path).getD noL).til):=by
 constructor
 ·intro hs
  obtain ⟨l,h1,h2,h3,h4,h5,h6⟩:=hs ha
  rw [h1]
  exact ⟨h2,h3,rfl,h4,h5,h6⟩
 ·rintro ⟨h2,h3,h1,h4,h5,h6⟩ _
  obtain ⟨l,hl⟩:=Option.isSome_iff_exists.1 h1
  rw [hl] at h4 h5 h6
  exact ⟨l,hl,h2,h3,h4,h5,h6⟩
theorem f_l5So (W0:World) (w:Wld) (t:List Ent) (who:Int) (h:Hold):Fn Tryz.prog W0 108 [eWld w,eEnts t,CI who,eHold h] (.c (CB (tb (So w t who h)))) []:=by
 refine fnX (c:=c_spec_l5So) mixed c_spec_l5So_eq (by simp) rfl fun hg=>?_
 have hc:=f_l2Get W0 t h.path
 rw [eEntO_eq] at hc
 have hl:=f_l5Lease W0 w who h.path
 refine dr ?_
 refine cP (fun h1=>?_) (fun h1=>?_)
 ·refine dr ?_
  exact pT fun ha=>by omega
 rw [tb_c (so_iff (by omega))]
 have e1:=@so_iff w t who h (by omega)
 generalize (get t h.path)=x at *
 unfold eLO at hl
 generalize (lfind w.leases who h.path)=y at *
 refine dEr ?_
 repeat ((first | refine c0 hc rfl ?_ | refine c0 hl rfl ?_); first | refine dEr ?_ | exact dz)
 refine cP (fun h2=>?_) (fun h2=>?_)
 rotate_left
 ·refine dr ?_
  exact pF fun hh=>h2 hh.1
 refine dr ?_
 rw [bqEnt]
 refine cP (fun h3=>?_) (fun h3=>?_)
 rotate_left
 ·refine dr ?_
  exact pF fun hh=>h3 hh.2.1
 refine dr ?_
 refine cP (fun h4=>?_) (fun h4=>?_)
 rotate_left
 ·refine dr ?_
  exact pF fun hh=>by rw [hh.2.2.1] at h4; cases h4
 refine dr ?_
 refine cP (fun h5=>?_) (fun h5=>?_)
 rotate_left
 ·refine dr ?_
  exact pF fun hh=>by have:=hh.2.2.2.1; omega
 refine dr ?_
 refine cP (fun h6=>?_) (fun h6=>?_)
 rotate_left
 ·refine dr ?_
  exact pF fun hh=>by have:=hh.2.2.2.2.1; omega
 refine dr ?_
 rw [tb_leI]
 exact congrArg CB (tb_c ⟨fun h=>⟨h2,h3,h4,h5,h6,h⟩,fun h=>h.2.2.2.2.2⟩)
def c_spec_l5Held:XC:=(.s (.r [.ex 3 (.box 0),.m1 6 .n]) (.s (.r [.f1 11 6 3,.l1 12 1 11,.mv 13 2,.ex 14 (.ia 1 12 13),.l1 15 1 14,.ex 7 (.asn 15 7 53)]) (.s (.s (.r [.m1 8 (.i 0)]) (.blk 0 (.loop (.s (.s (.r [.mv 16 8,.mv 17 7,.ex 18 (.len false 17),.b1 19 .lss 16 18]) (.cnd 19 .skip (.exit 0))) (.s (.blk 1 (.s (.r [.mv 22 7,.mv 23 8,.ex 24 (.ia 7 22 23),.l2 25 7 24,.ex 9 (.alloc [sE,(B false),sE,(B false),sE,(I 0),(I 0)]),.nu (.st 7 9 25)]) (.s (.s (.r [.f1 26 0 9,.l1 27 1 26,.c1 28 106 [27],.ex 29 (.un .not 28),.mv 30 29,.gf 31 (.fa 5 9) 30,.gf 32 (.ld false 1 31) 30,.gf 33 (.bin .lss 32 (.i 0)) 30,.ex 34 (.pick 30 .y 33),.mv 35 34,.gf 36 (.fa 5 9) 35,.gf 37 (.ld false 1 36) 35,.gf 38 (.fa 4 3) 35,.gf 39 (.ld false 1 38) 35,.gf 40 (.bin .gtr 37 39) 35,.ex 41 (.pick 35 .y 40),.mv 42 41,.gf 43 (.ld true 14 3) 42,.gf 44 (.mv 1) 42,.gf 45 (.mv 2) 42,.gf 46 (.ld true 7 9) 42,.gf 47 (.call 108 [43,44,45,46]) 42,.gf 48 (.un .not 47) 42,.ex 49 (.pick 42 .y 48)]) (.cnd 49 (.s (.r [.m1 6 .n]) .ret) .skip)) (.s (.r [.m1 10 (.i 0)]) (.blk 2 (.loop (.s (.s (.r [.mv 50 10,.mv 51 8,.b1 52 .lss 50 51]) (.cnd 52 .skip (.exit 2))) (.s (.blk 3 (.s (.d [.mv 55 7,.mv 56 10,.ex 57 (.ia 7 55 56),.f1 58 0 57,.l1 59 1 58,.f1 60 0 9,.l1 61 1 60,.b1 62 .eql 59 61]) (.cnd 62 (.s (.r [.m1 6 .n]) .ret) .skip))) (.r [.mv 53 10,.b1 54 .add 53 (.i 1),.mv 10 54]))))))))) (.r [.mv 20 8,.b1 21 .add 20 (.i 1),.mv 8 21])))))) (.s (.r [.m1 6 .y]) .ret))))
theorem c_spec_l5Held_eq:compF Tryz.prog [] 66=some (c_spec_l5Held.ac,[(.t 6)],63):=by kernel_rfl
theorem f_l5Held (W0:World) (w:Wld) (t:List Ent) (who:Int) (hw:isW who) (hl:w.holds.length=3):Fn Tryz.prog W0 66 [eWld w,eEnts t,CI who] (.c (CB (tb (HdOk w t who)))) []:=by
 refine fnX (c:=c_spec_l5Held) mixed c_spec_l5Held_eq (by simp) rfl fun hg=>?_
 refine dr ?_
 repeat (refine aHd hw hl ?_; first | refine dr ?_ | exact dz)
 have e0:HdOk w t who↔(∀ h∈hdW w who,HdG w t who h)∧(hdW w who).Pairwise fun a b=>a.path≠b.path:=⟨fun h=>⟨h.g,h.d⟩,fun h=>⟨h.1,h.2⟩⟩
 rw [tb_c e0]
 have g0:=goodAgg (hg _ (by simp:eWld w∈_))
 have g1:(hdW w who).length≤9223372036854775807:=by
  have hk:who.toNat < w.holds.length:=by have:=hw.1; have:=hw.2; omega
  have e:hdW w who=w.holds[who.toNat]:=by unfold hdW; rw [List.getD_eq_getElem?_getD,List.getElem?_eq_getElem hk]; rfl
  have:=goodRow' (g0 _ (by simp:eHoldss w.holds∈_)) _ (List.getElem_mem hk) (eHolds w.holds[who.toNat]) (by simp [eHolds,CV.cells])
  rw [e]; exact goodRow this
 generalize hL:hdW w who=L at *
 refine lp (σ:=Nat) (fun k=>[(1,.c (eEnts t)),(2,.c (CI who)),(3,.ptr 48 0),(7,.c (eHolds L)),(8,I k)]) (fun _=>[(48,wBx w)]) (fun k=>k≤L.length∧(∀ h∈L.take k,HdG w t who h)∧(L.take k).Pairwise fun a b=>a.path≠b.path) (fun k=>L.length - k) 0 ⟨by omega,by simp,by simp⟩ ?_ ?_
 ·refine dr ?_
  trivial
 rintro k ⟨hk,hA,hP⟩
 refine dr ?_
 refine cP (fun h1=>?_) (fun h1=>?_)
 rotate_left
 ·have hkl:k=L.length:=by omega
  rw [hkl,List.take_length] at hA hP
  refine dr ?_
  exact pT ⟨hA,hP⟩
 have hk':k < L.length:=by omega
 have no:¬ HdG w t who L[k]→CB false=CB (tb ((∀ h∈L,HdG w t who h)∧L.Pairwise fun a b=>a.path≠b.path)):=fun h=>pF fun hh=>h (hh.1 _ (List.getElem_mem hk'))
 refine dEr ?_
 repeat (refine c0 (f_spec_PathOk W0 _) rfl ?_; first | refine dEr ?_ | exact dz)
 refine cP (fun a1=>?_) (fun a1=>?_)
 ·refine dr ?_
  exact no fun h=>by rw [h.1] at a1; cases a1
 refine dr ?_
 refine cP (fun a2=>?_) (fun a2=>?_)
 ·refine dr ?_
  exact no fun h=>by have:=h.2.1; omega
 refine dr ?_
 refine cP (fun a3=>?_) (fun a3=>?_)
 ·refine dr ?_
  exact no fun h=>by have:=h.2.2.1; omega
 refine dEr ?_
 repeat (refine c0 (f_l5So W0 w t who L[k]) rfl ?_; first | refine dEr ?_ | exact dz)
 refine cP (fun a4=>?_) (fun a4=>?_)
 ·refine dr ?_
  exact no fun h=>a4 h.2.2.2
 refine dr ?_
 refine lp (σ:=Nat) (fun j=>[(1,.c (eEnts t)),(2,.c (CI who)),(3,.ptr 48 0),(7,.c (eHolds L)),(8,I k),(9,.ptr 144 0),(10,I j)]) (fun _=>[(48,wBx w),(144,.box (hCs L[k]))]) (fun j=>j≤k∧∀ l∈L.take j,l.path≠L[k].path) (fun j=>k - j) 0 ⟨by omega,by simp⟩ ?_ ?_
 ·refine dr ?_
  trivial
 rintro j ⟨hj,hD⟩
 refine dr ?_
 refine cP (fun b1=>?_) (fun b1=>?_)
 rotate_left
 ·have hjk:j=k:=by omega
  rw [hjk] at hD
  refine dr ?_
  refine ⟨k+1,⟨by omega,?_,?_⟩,by omega,?_⟩
  ·rw [List.take_succ_eq_append_getElem hk']
   intro l hl
   rcases List.mem_append.1 hl with h | h
   ·exact hA l h
   ·rw [List.mem_singleton.1 h]; exact ⟨a1,by omega,by omega,a4⟩
  ·rw [List.take_succ_eq_append_getElem hk',List.pairwise_append]
   exact ⟨hP,by simp,fun a ha b hb=>by rw [List.mem_singleton.1 hb]; exact hD a ha⟩
  refine dr ?_
  trivial
 have hjl:j < L.length:=by omega
 refine dr ?_
 refine cP (fun b2=>?_) (fun b2=>?_)
 ·refine dr ?_
  refine pF fun hh=>?_
  have:=List.pairwise_iff_getElem.1 hh.2 j k hjl hk' (by omega)
  exact this b2
 ·refine dr ?_
  refine ⟨j+1,⟨by omega,fun l hl=>?_⟩,by omega,?_⟩
  ·rw [List.take_succ_eq_append_getElem hjl] at hl
   rcases List.mem_append.1 hl with h' | h'
   ·exact hD l h'
   ·rw [List.mem_singleton.1 h']; exact b2
  refine dr ?_
  trivial
def c_spec_l5Given:XC:=(.s (.r [.ex 2 (.box 0),.ex 3 (.box 1),.m1 4 .n]) (.s (.r [.f1 7 6 2,.l1 8 1 7,.f1 9 1 3,.l1 10 1 9,.ex 11 (.ia 1 8 10),.l1 12 1 11,.ex 5 (.asn 12 7 53)]) (.s (.s (.r [.m1 6 (.i 0)]) (.blk 0 (.loop (.s (.s (.r [.mv 13 6,.mv 14 5,.ex 15 (.len false 14),.b1 16 .lss 13 15]) (.cnd 16 .skip (.exit 0))) (.s (.blk 1 (.s (.d [.mv 19 5,.mv 20 6,.ex 21 (.ia 7 19 20),.f1 22 0 21,.l1 23 1 22,.f1 24 2 3,.f1 25 0 24,.l1 26 1 25,.b1 27 .eql 23 26,.mv 28 27,.gt 29 (.mv 5) 28,.gt 30 (.mv 6) 28,.gt 31 (.ia 7 29 30) 28,.gt 32 (.fa 5 31) 28,.gt 33 (.ld false 1 32) 28,.gt 34 (.fa 2 3) 28,.gt 35 (.fa 5 34) 28,.gt 36 (.ld false 1 35) 28,.gt 37 (.bin .leq 33 36) 28,.ex 38 (.pick 28 37 .n)]) (.cnd 38 (.s (.r [.m1 4 .n]) .ret) .skip))) (.r [.mv 17 6,.b1 18 .add 17 (.i 1),.mv 6 18])))))) (.s (.d [.f1 39 2 3,.f1 40 5 39,.l1 41 1 40,.f1 42 7 2,.l1 43 1 42,.f1 44 1 3,.l1 45 1 44,.ex 46 (.ia 1 43 45),.l1 47 1 46,.b1 48 .leq 41 47,.mv 4 48]) .ret))))
theorem c_spec_l5Given_eq:compF Tryz.prog [] 109=some (c_spec_l5Given.ac,[(.t 4)],49):=by kernel_rfl
theorem f_l5Given (W0:World) (w:Wld) (m:Msg) (hw:isW m.who) (hl:w.holds.length=3) (hf:w.floors.length=3):Fn Tryz.prog W0 109 [eWld w,eMsg m] (.c (CB (tb (Given w m)))) []:=by
 refine fnX (c:=c_spec_l5Given) mixed c_spec_l5Given_eq (by simp) rfl fun hg=>?_
 refine dr ?_
 repeat (refine aHd hw hl ?_; first | refine dr ?_ | exact dz)
 have g0:=goodAgg (hg _ (by simp:eWld w∈_))
 have g1:(hdW w m.who).length≤9223372036854775807:=by
  have hk:m.who.toNat < w.holds.length:=by have:=hw.1; have:=hw.2; omega
  have e:hdW w m.who=w.holds[m.who.toNat]:=by unfold hdW; rw [List.getD_eq_getElem?_getD,List.getElem?_eq_getElem hk]; rfl
  have:=goodRow' (g0 _ (by simp:eHoldss w.holds∈_)) _ (List.getElem_mem hk) (eHolds w.holds[m.who.toNat]) (by simp [eHolds,CV.cells])
  rw [e]; exact goodRow this
 have e0:Given w m↔m.hold.num≤flW w m.who∧∀ h∈hdW w m.who,h.path=m.hold.path→m.hold.num < h.num:=Iff.rfl
 rw [tb_c e0]
 generalize hL:hdW w m.who=L at *
 refine lp (σ:=Nat) (fun k=>[(2,.ptr 32 0),(3,.ptr 48 0),(5,.c (eHolds L)),(6,I k)]) (fun _=>[(32,wBx w),(48,.box (mCs m))]) (fun k=>k≤L.length∧∀ h∈L.take k,h.path=m.hold.path→m.hold.num < h.num) (fun k=>L.length - k) 0 ⟨by omega,by simp⟩ ?_ ?_
 ·refine dr ?_
  trivial
 rintro k ⟨hk,hA⟩
 refine dr ?_
 refine cP (fun h1=>?_) (fun h1=>?_)
 rotate_left
 ·have hkl:k=L.length:=by omega
  rw [hkl,List.take_length] at hA
  refine dr ?_
  repeat (refine aFl hw hf ?_; first | refine dr ?_ | exact dz)
  rw [tb_leI]
  exact congrArg CB (tb_c ⟨fun h=>⟨h,hA⟩,fun h=>h.1⟩)
 have hk':k < L.length:=by omega
 have next:(L[k].path=m.hold.path→m.hold.num < L[k].num)→∀ h∈L.take (k+1),h.path=m.hold.path→m.hold.num < h.num:=fun h l hl=>by
  rw [List.take_succ_eq_append_getElem hk'] at hl
  rcases List.mem_append.1 hl with h' | h'
  ·exact hA l h'
  ·rw [List.mem_singleton.1 h']; exact h
 refine dr ?_
 refine cP (fun h2=>?_) (fun h2=>?_)
 ·refine dr ?_
  refine cP (fun h3=>?_) (fun h3=>?_)
  ·refine dr ?_
   exact pF fun hh=>by have:=hh.2 _ (List.getElem_mem hk') h2; omega
  ·refine dr ?_
   refine ⟨k+1,⟨by omega,next fun _=>by omega⟩,by omega,?_⟩
   refine dr ?_
   trivial
 ·refine dr ?_
  refine ⟨k+1,⟨by omega,next fun h=>absurd h h2⟩,by omega,?_⟩
  refine dr ?_
  trivial
def c_spec_l5Msg:XC:=(.s (.r [.ex 3 (.box 0),.ex 5 (.box 2),.m1 6 .n]) (.s (.r [.f1 8 2 5,.l2 9 7 8,.ex 7 (.alloc [sE,(B false),sE,(B false),sE,(I 0),(I 0)]),.nu (.st 7 7 9)]) (.s (.s (.r [.f1 10 1 5,.l1 11 1 10,.c1 12 37 [11],.ex 13 (.un .not 12),.mv 14 13,.gf 15 (.fa 0 7) 14,.gf 16 (.ld false 1 15) 14,.gf 17 (.call 106 [16]) 14,.gf 18 (.un .not 17) 14,.ex 19 (.pick 14 .y 18),.mv 20 19,.gf 21 (.fa 5 7) 20,.gf 22 (.ld false 1 21) 20,.gf 23 (.bin .lss 22 (.i 0)) 20,.ex 24 (.pick 20 .y 23),.mv 25 24,.gf 26 (.fa 5 7) 25,.gf 27 (.ld false 1 26) 25,.gf 28 (.fa 4 3) 25,.gf 29 (.ld false 1 28) 25,.gf 30 (.bin .gtr 27 29) 25,.ex 31 (.pick 25 .y 30),.mv 32 31,.gf 33 (.fa 0 5) 32,.gf 34 (.ld false 1 33) 32,.gf 35 (.bin .lss 34 (.i 1)) 32,.ex 36 (.pick 32 .y 35),.mv 37 36,.gf 38 (.fa 0 5) 37,.gf 39 (.ld false 1 38) 37,.gf 40 (.bin .gtr 39 (.i 4)) 37,.ex 41 (.pick 37 .y 40)]) (.cnd 41 (.s (.r [.m1 6 .n]) .ret) .skip)) (.s (.s (.r [.f1 42 0 5,.l1 43 1 42,.b1 44 .eql 43 (.i 2)]) (.cnd 44 (.s (.d [.f1 45 5 7,.l1 46 1 45,.f1 47 7 3,.l1 48 1 47,.f1 49 1 5,.l1 50 1 49,.ex 51 (.ia 1 48 50),.l1 52 1 51,.b1 53 .leq 46 52,.mv 54 53,.gf 55 (.ld true 14 3) 54,.gf 56 (.mv 1) 54,.gf 57 (.fa 1 5) 54,.gf 58 (.ld false 1 57) 54,.gf 59 (.ld true 7 7) 54,.gf 60 (.call 108 [55,56,58,59]) 54,.ex 61 (.pick 54 .y 60),.mv 6 61]) .ret) .skip)) (.s (.s (.r [.l2 62 7 7,.f1 63 0 7,.l1 64 1 63,.f1 65 5 7,.l1 66 1 65,.ex 67 (.build [sE,(B false),sE,(B false),sE,(I 0),(I 0)] [(0,(1,64)),(5,(1,66))]),.ex 68 (.beq true [.s,.b,.s,.b,.s,(.i .i64),(.i .i64)] 62 67)]) (.cnd 68 (.s (.r [.m1 6 .n]) .ret) .skip)) (.s (.r [.f1 69 0 5,.l1 70 1 69,.b1 71 .neq 70 (.i 4),.mv 72 71,.gf 73 (.ld true 14 3) 72,.gf 74 (.ld true 9 5) 72,.gf 75 (.call 109 [73,74]) 72,.ex 76 (.pick 72 .y 75),.mv 6 76]) .ret))))))
theorem c_spec_l5Msg_eq:compF Tryz.prog [] 67=some (c_spec_l5Msg.ac,[(.t 6)],77):=by kernel_rfl
theorem f_l5Msg (W0:World) (w:Wld) (t:List Ent) (m:Msg) (hl:w.holds.length=3) (hf:w.floors.length=3):Fn Tryz.prog W0 67 [eWld w,eEnts t,eMsg m] (.c (CB (tb (MsOk w t m)))) []:=by
 refine fnX (c:=c_spec_l5Msg) mixed c_spec_l5Msg_eq (by simp) rfl fun hg=>?_
 refine dr ?_
 refine c0 (f_l5Who W0 _) rfl ?_
 refine dEr ?_
 refine cP (fun a1=>?_) (fun a1=>?_)
 ·refine dr ?_
  exact pF fun h=>a1 h.who
 refine dEr ?_
 repeat (refine c0 (f_spec_PathOk W0 _) rfl ?_; first | refine dEr ?_ | exact dz)
 refine cP (fun a2=>?_) (fun a2=>?_)
 ·refine dr ?_
  exact pF fun h=>by rw [h.path] at a2; cases a2
 refine dr ?_
 refine cP (fun a3=>?_) (fun a3=>?_)
 ·refine dr ?_
  exact pF fun h=>by have:=h.num; omega
 refine dr ?_
 refine cP (fun a4=>?_) (fun a4=>?_)
 ·refine dr ?_
  exact pF fun h=>by have:=h.num; omega
 refine dr ?_
 refine cP (fun a5=>?_) (fun a5=>?_)
 ·refine dr ?_
  exact pF fun h=>by have:=h.kind; omega
 refine dr ?_
 refine cP (fun a6=>?_) (fun a6=>?_)
 ·refine dr ?_
  exact pF fun h=>by have:=h.kind; omega
 refine dr ?_
 refine cP (fun a7=>?_) (fun a7=>?_)
 ·refine dr ?_
  repeat (refine aFl a1 hf ?_; first | refine dr ?_ | exact dz)
  refine cP (fun a8=>?_) (fun a8=>?_)
  ·refine dr ?_
   exact pT ⟨a1,a2,⟨by omega,by omega⟩,⟨by omega,by omega⟩,fun _ => .inl a8,fun h=>absurd a7 h,fun h=>by omega⟩
  ·refine dEr ?_
   repeat (refine c0 (f_l5So W0 w t m.who m.hold) rfl ?_; first | refine dEr ?_ | exact dz)
   refine congrArg CB (tb_c ⟨fun h=>⟨a1,a2,⟨by omega,by omega⟩,⟨by omega,by omega⟩,fun _ => .inr h,fun h=>absurd a7 h,fun h=>by omega⟩,fun h=>?_⟩)
   rcases h.grant a7 with h | h
   ·omega
   ·exact h
 refine dr ?_
 rw [show (eqS m.hold.path m.hold.path&&(eqB m.hold.has false&&(eqS m.hold.ent.path []&&(eqB m.hold.ent.dir false&&(eqS m.hold.ent.data []&&(eqI m.hold.num m.hold.num&&(eqI m.hold.til 0&&true)))))))=decide (m.hold=plainH m.hold) from bqHold m.hold (plainH m.hold)]
 refine cP (fun a8=>?_) (fun a8=>?_)
 ·refine dr ?_
  exact pF fun h=>a8 (h.plain a7)
 refine dr ?_
 refine cP (fun a9=>?_) (fun a9=>?_)
 ·refine dr ?_
  exact pT ⟨a1,a2,⟨by omega,by omega⟩,⟨by omega,by omega⟩,fun h=>absurd h a7,fun _=>a8,fun h=>absurd h a9⟩
 ·refine dEr ?_
  repeat (refine c0 (f_l5Given W0 w m a1 hl hf) rfl ?_; first | refine dEr ?_ | exact dz)
  exact congrArg CB (tb_c ⟨fun h=>⟨a1,a2,⟨by omega,by omega⟩,⟨by omega,by omega⟩,fun h=>absurd h a7,fun _=>a8,fun _=>h⟩,fun h=>h.back (by omega)⟩)
def c_spec_l5Plain:XC:=(.s (.r [.ex 1 (.box 0),.m1 2 .n]) (.s (.s (.r [.f1 4 3 1,.l1 5 1 4,.b1 6 .lss 5 (.i 0),.mv 7 6,.gf 8 (.fa 3 1) 7,.gf 9 (.ld false 1 8) 7,.gf 10 (.bin .gtr 9 (.i 10000)) 7,.ex 11 (.pick 7 .y 10),.mv 12 11,.gf 13 (.fa 4 1) 12,.gf 14 (.ld false 1 13) 12,.gf 15 (.bin .lss 14 (.i 0)) 12,.ex 16 (.pick 12 .y 15),.mv 17 16,.gf 18 (.fa 4 1) 17,.gf 19 (.ld false 1 18) 17,.gf 20 (.bin .gtr 19 (.i 10000)) 17,.ex 21 (.pick 17 .y 20),.mv 22 21,.gf 23 (.fa 6 1) 22,.gf 24 (.ld false 1 23) 22,.gf 25 (.len false 24) 22,.gf 26 (.bin .neq 25 (.i 3)) 22,.ex 27 (.pick 22 .y 26),.mv 28 27,.gf 29 (.fa 7 1) 28,.gf 30 (.ld false 1 29) 28,.gf 31 (.len false 30) 28,.gf 32 (.bin .neq 31 (.i 3)) 28,.ex 33 (.pick 28 .y 32),.mv 34 33,.gf 35 (.fa 8 1) 34,.gf 36 (.ld false 1 35) 34,.gf 37 (.len false 36) 34,.gf 38 (.bin .gtr 37 (.i 12)) 34,.ex 39 (.pick 34 .y 38)]) (.cnd 39 (.s (.r [.m1 2 .n]) .ret) .skip)) (.s (.s (.r [.m1 3 (.i 0)]) (.blk 0 (.loop (.s (.s (.r [.mv 40 3,.b1 41 .lss 40 (.i 3)]) (.cnd 41 .skip (.exit 0))) (.s (.blk 1 (.s (.d [.f1 44 7 1,.l1 45 1 44,.mv 46 3,.ex 47 (.ia 1 45 46),.l1 48 1 47,.b1 49 .lss 48 (.i 0),.mv 50 49,.gf 51 (.fa 7 1) 50,.gf 52 (.ld false 1 51) 50,.gf 53 (.mv 3) 50,.gf 54 (.ia 1 52 53) 50,.gf 55 (.ld false 1 54) 50,.gf 56 (.fa 4 1) 50,.gf 57 (.ld false 1 56) 50,.gf 58 (.bin .gtr 55 57) 50,.ex 59 (.pick 50 .y 58)]) (.cnd 59 (.s (.r [.m1 2 .n]) .ret) .skip))) (.r [.mv 42 3,.b1 43 .add 42 (.i 1),.mv 3 43])))))) (.s (.r [.m1 2 .y]) .ret))))
theorem c_spec_l5Plain_eq:compF Tryz.prog [] 63=some (c_spec_l5Plain.ac,[(.t 2)],60):=by kernel_rfl
theorem f_l5Plain (W0:World) (w:Wld):Fn Tryz.prog W0 63 [eWld w] (.c (CB (tb (PlW w)))) []:=by
 refine fnX (c:=c_spec_l5Plain) mixed c_spec_l5Plain_eq (by simp) rfl fun hg=>?_
 refine dr ?_
 refine cP (fun a1=>?_) (fun a1=>?_)
 ·refine dr ?_
  exact pF fun h=>by have:=h.ck; omega
 refine dr ?_
 refine cP (fun a2=>?_) (fun a2=>?_)
 ·refine dr ?_
  exact pF fun h=>by have:=h.ck; omega
 refine dr ?_
 refine cP (fun a3=>?_) (fun a3=>?_)
 ·refine dr ?_
  exact pF fun h=>by have:=h.ct; omega
 refine dr ?_
 refine cP (fun a4=>?_) (fun a4=>?_)
 ·refine dr ?_
  exact pF fun h=>by have:=h.ct; omega
 refine dr ?_
 refine cP (fun a5=>?_) (fun a5=>?_)
 ·refine dr ?_
  exact pF fun h=>by have:=h.hl; omega
 refine dr ?_
 refine cP (fun a6=>?_) (fun a6=>?_)
 ·refine dr ?_
  exact pF fun h=>by have:=h.fl; omega
 refine dr ?_
 refine cP (fun a7=>?_) (fun a7=>?_)
 ·refine dr ?_
  exact pF fun h=>by have:=h.nl; omega
 have hf:w.floors.length=3:=by omega
 refine dr ?_
 refine lp (σ:=Nat) (fun k=>[(1,.ptr 16 0),(3,I k)]) (fun _=>[(16,wBx w)]) (fun k=>k≤3∧∀ f∈w.floors.take k,0≤f∧f≤w.count) (fun k=>3 - k) 0 ⟨by omega,by simp⟩ ?_ ?_
 ·refine dr ?_
  trivial
 rintro k ⟨hk,hA⟩
 refine dr ?_
 refine cP (fun h1=>?_) (fun h1=>?_)
 rotate_left
 ·have hkl:k=w.floors.length:=by omega
  rw [hkl,List.take_length] at hA
  refine dr ?_
  exact pT ⟨⟨by omega,by omega⟩,⟨by omega,by omega⟩,by omega,by omega,by omega,hA⟩
 have hk':k < w.floors.length:=by omega
 refine dr ?_
 refine cP (fun h2=>?_) (fun h2=>?_)
 ·refine dr ?_
  exact pF fun h=>by have:=h.fr _ (List.getElem_mem hk'); omega
 refine dr ?_
 refine cP (fun h3=>?_) (fun h3=>?_)
 ·refine dr ?_
  exact pF fun h=>by have:=h.fr _ (List.getElem_mem hk'); omega
 ·refine dr ?_
  refine ⟨k+1,⟨by omega,fun l hl=>?_⟩,by omega,?_⟩
  ·rw [List.take_succ_eq_append_getElem hk'] at hl
   rcases List.mem_append.1 hl with h' | h'
   ·exact hA l h'
   ·rw [List.mem_singleton.1 h']; exact ⟨by omega,by omega⟩
  refine dr ?_
  trivial
def c_spec_l5Waits:XC:=(.s (.r [.ex 2 (.box 0),.m1 4 .n]) (.s (.s (.r [.f1 7 9 2,.l1 8 1 7,.ex 9 (.un .not 8)]) (.cnd 9 (.s (.r [.f1 10 10 2,.l2 11 4 10,.ex 12 (.build [(I 0),sE,sE,sE] []),.ex 13 (.beq false [(.i .i64),.s,.s,.s] 11 12),.mv 4 13]) .ret) .skip)) (.s (.r [.mv 15 1,.f1 16 10 2,.l2 17 4 16,.c1 18 107 [15,17],.mv 14 18,.ex 19 (.ext 14 0),.ex 20 (.ext 14 1),.ex 5 (.asn 19 3 39),.mv 6 20]) (.s (.r [.mv 21 6,.b1 22 .eql 21 (.i 0),.mv 4 22]) .ret))))
theorem c_spec_l5Waits_eq:compF Tryz.prog [] 65=some (c_spec_l5Waits.ac,[(.t 4)],23):=by kernel_rfl
theorem f_l5Waits (W0:World) (w:Wld) (t:List Ent):Fn Tryz.prog W0 65 [eWld w,eEnts t] (.c (CB (tb (WtOk w t)))) []:=by
 refine fnX (c:=c_spec_l5Waits) mixed c_spec_l5Waits_eq (by simp) rfl fun hg=>?_
 refine dr ?_
 refine cP (fun h1=>?_) (fun h1=>?_)
 ·refine dr ?_
  rw [show (eqI w.op.kind 0&&(eqS w.op.path []&&(eqS w.op.dest []&&(eqS w.op.data []&&true))))=decide (w.op=noOp) from bqOp w.op noOp]
  by_cases h2:w.op=noOp
  ·rw [decide_eq_true h2]
   exact pT ⟨fun _=>h2,fun h=>by rw [h1] at h; cases h⟩
  ·rw [decide_eq_false h2]
   exact pF fun h=>h2 (h.1 h1)
 ·refine dEr ?_
  repeat (refine c0 (f_spec_TreeDo W0 t w.op) rfl ?_; first | refine dEr ?_ | exact dz)
  refine congrArg CB ?_
  rw [Bool.eq_iff_iff,eqI_t,tb_i]
  exact ⟨fun h=>⟨fun h2=>(by rw [h1] at h2; cases h2),fun _=>h⟩,fun h=>h.2 h1⟩
def c_spec_WorldOk:XC:=(.s (.r [.ex 1 (.box 0),.m1 2 .n]) (.s (.r [.f1 8 0 1,.l2 9 3 8,.c1 10 62 [9],.mv 7 10,.ex 11 (.ext 7 0),.ex 12 (.ext 7 1),.ex 3 (.asn 11 3 39),.mv 4 12]) (.s (.s (.r [.mv 13 4,.ex 14 (.un .not 13),.mv 15 14,.gf 16 (.ld true 14 1) 15,.gf 17 (.call 63 [16]) 15,.gf 18 (.un .not 17) 15,.ex 19 (.pick 15 .y 18),.mv 20 19,.gf 21 (.ld true 14 1) 20,.gf 22 (.call 64 [21]) 20,.gf 23 (.un .not 22) 20,.ex 24 (.pick 20 .y 23),.mv 25 24,.gf 26 (.ld true 14 1) 25,.gf 27 (.mv 3) 25,.gf 28 (.call 65 [26,27]) 25,.gf 29 (.un .not 28) 25,.ex 30 (.pick 25 .y 29)]) (.cnd 30 (.s (.r [.m1 2 .n]) .ret) .skip)) (.s (.s (.r [.m1 5 (.i 0)]) (.blk 0 (.loop (.s (.s (.r [.mv 31 5,.b1 32 .lss 31 (.i 3)]) (.cnd 32 .skip (.exit 0))) (.s (.blk 1 (.s (.r [.l2 35 14 1,.mv 36 3,.mv 37 5,.c1 38 66 [35,36,37],.ex 39 (.un .not 38)]) (.cnd 39 (.s (.r [.m1 2 .n]) .ret) .skip))) (.r [.mv 33 5,.b1 34 .add 33 (.i 1),.mv 5 34])))))) (.s (.s (.r [.m1 6 (.i 0)]) (.blk 2 (.loop (.s (.s (.r [.mv 40 6,.f1 41 8 1,.l1 42 1 41,.ex 43 (.len false 42),.b1 44 .lss 40 43]) (.cnd 44 .skip (.exit 2))) (.s (.blk 3 (.s (.d [.l2 47 14 1,.mv 48 3,.f1 49 8 1,.l1 50 1 49,.mv 51 6,.ex 52 (.ia 9 50 51),.l2 53 9 52,.c1 54 67 [47,48,53],.ex 55 (.un .not 54)]) (.cnd 55 (.s (.r [.m1 2 .n]) .ret) .skip))) (.r [.mv 45 6,.b1 46 .add 45 (.i 1),.mv 6 46])))))) (.s (.r [.m1 2 .y]) .ret))))))
theorem c_spec_WorldOk_eq:compF Tryz.prog [] 21=some (c_spec_WorldOk.ac,[(.t 2)],56):=by kernel_rfl
theorem f_spec_WorldOk (W0:World) (w:Wld):Fn Tryz.prog W0 21 [eWld w] (.c (CB (tb (WG w)))) []:=by
 refine fnX (c:=c_spec_WorldOk) mixed c_spec_WorldOk_eq (by simp) rfl fun hg=>?_
 have hv:=f_spec_OverView W0 w.over
 cases h1:oOk w.over with
 | false =>
  rw [h1] at hv
  refine dEr ?_
  repeat (refine c0 hv rfl ?_; first | refine dEr ?_ | exact dz)
  exact pF fun h=>by rw [h.ov] at h1; cases h1
 | true =>
  obtain ⟨t',x,g⟩:=OG.of h1
  have ev:vwG w.over=x:=g.vwG
  rw [h1,if_pos rfl,g.vw] at hv
  have g0:=goodAgg (hg _ (by simp:eWld w∈_))
  have g1:w.net.length≤9223372036854775807:=goodRow (g0 _ (by simp:eMsgs w.net∈_))
  refine dEr ?_
  repeat ((first | refine c0 hv rfl ?_ | refine c0 (f_l5Plain W0 w) rfl ?_); first | refine dEr ?_ | exact dz)
  refine cP (fun a1=>?_) (fun a1=>?_)
  ·refine dr ?_
   exact pF fun h=>a1 h.pl
  refine dEr ?_
  repeat (refine c0 (f_l5Leases W0 w a1.ck.2) rfl ?_; first | refine dEr ?_ | exact dz)
  refine cP (fun a2=>?_) (fun a2=>?_)
  ·refine dr ?_
   exact pF fun h=>a2 h.ls
  refine dEr ?_
  repeat (refine c0 (f_l5Waits W0 w x) rfl ?_; first | refine dEr ?_ | exact dz)
  refine cP (fun a3=>?_) (fun a3=>?_)
  ·refine dr ?_
   exact pF fun h=>a3 (by have:=h.wt; rwa [ev] at this)
  refine dr ?_
  refine lp (σ:=Nat) (fun k=>[(1,.ptr 16 0),(3,.c (eEnts x)),(5,I k)]) (fun _=>[(16,wBx w)]) (fun k=>k≤3∧∀ i:Nat,i < k→HdOk w x i) (fun k=>3 - k) 0 ⟨by omega,fun i hi=>by omega⟩ ?_ ?_
  ·refine dr ?_
   trivial
  rintro k ⟨hk,hA⟩
  refine dr ?_
  refine cP (fun b1=>?_) (fun b1=>?_)
  ·refine dEr ?_
   repeat (refine c0 (f_l5Held W0 w x (k:Int) ⟨by omega,by omega⟩ a1.hl) rfl ?_; first | refine dEr ?_ | exact dz)
   refine cP (fun b2=>?_) (fun b2=>?_)
   ·refine dr ?_
    exact pF fun h=>b2 (by have:=h.hd k (by omega); rwa [ev] at this)
   ·refine dr ?_
    refine ⟨k+1,⟨by omega,fun i hi=>?_⟩,by omega,?_⟩
    ·by_cases he:i=k
     ·subst he; exact b2
     ·exact hA i (by omega)
    refine dr ?_
    trivial
  have hA:∀ i:Nat,i < 3→HdOk w x i:=fun i hi=>hA i (by omega)
  refine dr ?_
  refine lp (σ:=Nat) (fun k=>[(1,.ptr 16 0),(3,.c (eEnts x)),(6,I k)]) (fun _=>[(16,wBx w)]) (fun k=>k≤w.net.length∧∀ m∈w.net.take k,MsOk w x m) (fun k=>w.net.length - k) 0 ⟨by omega,by simp⟩ ?_ ?_
  ·refine dr ?_
   trivial
  rintro k ⟨hk,hM⟩
  refine dr ?_
  refine cP (fun c1=>?_) (fun c1=>?_)
  ·have hk':k < w.net.length:=by omega
   refine dEr ?_
   repeat (refine c0 (f_l5Msg W0 w x w.net[k] a1.hl a1.fl) rfl ?_; first | refine dEr ?_ | exact dz)
   refine cP (fun c2=>?_) (fun c2=>?_)
   ·refine dr ?_
    exact pF fun h=>c2 (by have:=h.ms _ (List.getElem_mem hk'); rwa [ev] at this)
   ·refine dr ?_
    refine ⟨k+1,⟨by omega,fun l hl=>?_⟩,by omega,?_⟩
    ·rw [List.take_succ_eq_append_getElem hk'] at hl
     rcases List.mem_append.1 hl with h' | h'
     ·exact hM l h'
     ·rw [List.mem_singleton.1 h']; exact c2
    refine dr ?_
    trivial
  have hkl:k=w.net.length:=by omega
  rw [hkl,List.take_length] at hM
  refine dr ?_
  exact pT ⟨h1,a1,a2,by rw [ev]; exact a3,by rw [ev]; exact hA,by rw [ev]; exact hM⟩
end Go.Proofs.YteheahbjaddooaaGreatDoor

namespace Go.Proofs.YteheahbjaddooaaGreatDoor
set_option linter.unusedSimpArgs false
set_option linter.unusedVariables false
open Go Go.RowKit
section
variable {w:Wld}
def LsStep (w x:Wld):Prop:=(x.count=w.count∧∀ l∈x.leases,l∈w.leases) ∨
 ∃ who p,x.count=w.count+1∧x.leases=offL w.leases who p (w.count+1)++[⟨who,p,w.count+1,w.clock+5⟩]
theorem LsStep.refl {x:Wld} (h1:x.count=w.count) (h2:x.leases=w.leases):LsStep w x := .inl ⟨h1,fun l hl=>by rw [h2] at hl; exact hl⟩
theorem LsStep.count {x:Wld} (h:LsStep w x):w.count≤x.count∧x.count≤w.count+1:=by
 rcases h with ⟨h,_⟩ | ⟨_,_,h,_⟩<;>omega
theorem LsStep.fresh {x:Wld} (h:LsStep w x) (hw:WG w):((x.leases.filter fun l=>decide (w.count < l.num)).length:Int)=x.count - w.count:=by
 have hf:∀ l∈w.leases,¬ decide (w.count < l.num)=true:=fun l hl=>by have:=(hw.ls.g l hl).2.2.2.1; simp; omega
 rcases h with ⟨h1,h2⟩ | ⟨who,p,h1,h2⟩
 ·have:x.leases.filter (fun l=>decide (w.count < l.num))=[]:=List.filter_eq_nil_iff.2 fun l hl=>hf l (h2 l hl)
  rw [this,h1]; simp
 ·rw [h2,List.filter_append]
  have:(offL w.leases who p (w.count+1)).filter (fun l=>decide (w.count < l.num))=[]:=List.filter_eq_nil_iff.2 fun l hl=>hf l (off_mem.1 hl).1
  rw [this]
  rw [List.filter_cons,if_pos (by simp only [decide_eq_true_eq]; omega)]
  rw [h1]; simp; omega
end
end Go.Proofs.YteheahbjaddooaaGreatDoor

namespace Go.Proofs.YteheahbjaddooaaGreatDoor
set_option linter.unusedSimpArgs false
set_option linter.unusedVariables false
open Go Go.RowKit
def c_spec_l2Op:XC:=(.s (.r [.ex 4 (.alloc [(I 0),sE,sE,sE])]) (.s (.r [.mv 6 0,.ex 7 (.bsl 1 3 [(.i 1),(.i 2),(.i 2),(.i 3),(.i 4),(.i 5),(.i 1),(.i 5)]),.ex 8 (.opn 36 [6,7]),.mv 9 0,.ex 10 (.opn 92 [9]),.ex 11 (.build [(I 0),sE,sE,sE] [(0,(1,8)),(1,(1,10))]),.ex 5 (.alloc [(I 0),sE,sE,sE]),.nu (.st 4 5 11)]) (.cut (.s (.r [.mv 12 1,.ex 13 (.len false 12),.b1 14 .gtr 13 (.i 0),.mv 15 14,.gt 16 (.fa 0 5) 15,.gt 17 (.ld false 1 16) 15,.gt 18 (.bin .gtr 17 (.i 2)) 15,.ex 19 (.pick 15 18 .n),.mv 20 19,.gt 21 (.mv 0) 20,.gt 22 (.opn 38 [21,(.i 4)]) 20,.gt 23 (.bin .gtr 22 (.i 0)) 20,.ex 24 (.pick 20 23 .n)]) (.cnd 24 (.r [.mv 25 1,.mv 26 0,.mv 27 1,.ex 28 (.len false 27),.ex 29 (.opn 38 [26,28]),.ex 30 (.ia 3 25 29),.f1 31 0 30,.l1 32 1 31,.f1 33 1 5,.nu (.st 1 33 32)]) .skip)) (.cut (.s (.r [.f1 34 0 5,.l1 35 1 34,.b1 36 .eql 35 (.i 2)]) (.cnd 36 (.r [.mv 37 0,.ex 38 (.opn 173 [37]),.f1 39 3 5,.nu (.st 1 39 38)]) .skip)) (.cut (.s (.r [.f1 40 0 5,.l1 41 1 40,.b1 42 .eql 41 (.i 5)]) (.cnd 42 (.r [.mv 43 0,.ex 44 (.opn 92 [43]),.f1 45 2 5,.nu (.st 1 45 44)]) .skip)) (.cut (.s (.r [.mv 46 0,.ex 47 (.opn 38 [46,(.i 50)])]) (.blk 0 (.s (.r [.b1 49 .eql 47 (.i 0),.mv 48 49]) (.cnd 48 (.r [.mv 50 0,.ex 51 (.bsl 1 3 [(.i 0),(.i 6),(.k (.c (.sc (.int .i64 (.negSucc 0))))),(.i 1)]),.ex 52 (.opn 36 [50,51]),.f1 53 0 5,.nu (.st 1 53 52)]) (.s (.r [.b1 55 .eql 47 (.i 1),.mv 54 55]) (.cnd 54 (.r [.mv 56 0,.ex 57 (.bsl 1 9 [(.s [47]),(.s []),(.s [47,65]),(.s [47,97,47,98,47,99,47,100])]),.ex 58 (.opn 95 [56,57]),.f1 59 1 5,.nu (.st 1 59 58)]) (.s (.r [.b1 61 .eql 47 (.i 2),.mv 60 61]) (.cnd 60 (.r [.mv 62 0,.ex 63 (.bsl 1 9 [(.s [47]),(.s [47,97]),(.s [47,99,47,99,47,99]),(.s [])]),.ex 64 (.opn 95 [62,63]),.f1 65 2 5,.nu (.st 1 65 64)]) (.s (.r [.b1 67 .eql 47 (.i 3),.mv 66 67]) (.cnd 66 (.r [.mv 68 0,.ex 69 (.bsl 1 9 [(.s [113]),(.s [65]),(.s [97,98,99,100,101,102,103]),(.s [97,98,99,100,101,102])]),.ex 70 (.opn 95 [68,69]),.f1 71 3 5,.nu (.st 1 71 70)]) .skip)))))))))) (.s (.r [.l2 72 4 5,.nu (.st 4 4 72)]) .ret)))))))
theorem c_spec_l2Op_eq:compF Tryz.prog [38,36,95,92,173] 112=some (c_spec_l2Op.ac,[(.cell 4 true 4)],73):=by kernel_rfl
theorem f_l2Op (W0:World) (s:Str) (p:Int) (t:List Ent) (hs:s.length≤2000) (hp:0≤p∧p≤100000) (ht:t.length≤100000) :
  FunW Tryz.prog W0 112 [.ptr 1 0,.c (eEnts t)] (Rd s p) (fun x:Op × Int=>p≤x.2∧x.2≤p+8) (fun x => .c (eOp x.1)) (fun x=>Rd s x.2):=by
 refine funW (c:=c_spec_l2Op) mixed c_spec_l2Op_eq (by simp) rfl rfl fun hg=>?_
 refine dr ?_
 refine oW (f_num W0 s p [1,2,2,3,4,5,1,5] hs (by omega) (by decide)) rfl ⟨rfl,trivial⟩ rfl rfl ⟨1,by decide⟩ fun k hk=>⟨rfl,?_⟩
 refine dr ?_
 refine oW (f_l1Path W0 s (p+1) hs (by omega)) rfl ⟨rfl,trivial⟩ rfl rfl ⟨_,List.mem_cons_self⟩ fun x hx=>⟨rfl,?_⟩
 refine dEr ?_
 refine cutp2 (fun (o:Op) (q:Int)=>[(0,.ptr 1 0),(4,.ptr 64 0),(5,.ptr 80 0)]) (fun o q=>[(1,.box [.c (eCode s),.c (CI q)]),(64,.box [.c (CI 0),.c (CS []),.c (CS []),.c (CS [])]),(80,.box [.c (CI o.kind),.c (CS o.path),.c (CS o.dest),.c (CS o.data)])]) (fun o q=>p≤q∧q≤p+4) ?_ ?_
 ·refine dr ?_
  refine cP (fun h1=>?_) (fun h1=>?_)
  ·refine dr ?_
   refine cP (fun h2=>?_) (fun h2=>?_)
   ·refine dr ?_
    refine oW (f_pick W0 s (p+1+1) 4 hs (by omega) (by omega)) rfl ⟨rfl,trivial⟩ rfl rfl ⟨0,by omega,by omega⟩ fun k1 hk1=>⟨rfl,?_⟩
    refine dEr ?_
    refine cP (fun h3=>?_) (fun h3=>?_)
    ·refine dEr ?_
     refine oW (f_pick W0 s (p+1+1+1) t.length hs (by omega) (by omega)) rfl ⟨rfl,trivial⟩ rfl rfl ⟨0,by omega,by omega⟩ fun k2 hk2=>⟨rfl,?_⟩
     refine dEr ?_
     repeat (refine aX hk2.1 (hk2.2 (by omega)) fun e he=>?_; first | refine dEr ?_ | exact dz)
     refine ⟨⟨k,e.path,[],[]⟩,p+1+1+1+1,⟨by omega,by omega⟩,?_⟩
     refine dr ?_
     trivial
    ·refine dEr ?_
     refine ⟨⟨k,x,[],[]⟩,p+1+1+1,⟨by omega,by omega⟩,?_⟩
     refine dr ?_
     trivial
   ·refine dr ?_
    refine ⟨⟨k,x,[],[]⟩,p+1+1,⟨by omega,by omega⟩,?_⟩
    refine dr ?_
    trivial
  ·refine dr ?_
   refine ⟨⟨k,x,[],[]⟩,p+1+1,⟨by omega,by omega⟩,?_⟩
   refine dr ?_
   trivial
 rintro o q ⟨hq1,hq2⟩
 refine dr ?_
 refine cutp2 (fun (o:Op) (q:Int)=>[(0,.ptr 1 0),(4,.ptr 64 0),(5,.ptr 80 0)]) (fun o q=>[(1,.box [.c (eCode s),.c (CI q)]),(64,.box [.c (CI 0),.c (CS []),.c (CS []),.c (CS [])]),(80,.box [.c (CI o.kind),.c (CS o.path),.c (CS o.dest),.c (CS o.data)])]) (fun o q=>p≤q∧q≤p+5) ?_ ?_
 ·refine dr ?_
  refine cP (fun h1=>?_) (fun h1=>?_)
  ·refine dr ?_
   refine oW (f_l2Some W0 s q hs (by omega)) rfl ⟨rfl,trivial⟩ rfl rfl ⟨_,List.mem_cons_self⟩ fun y hy=>⟨rfl,?_⟩
   refine dEr ?_
   refine ⟨⟨o.kind,o.path,o.dest,y⟩,q+1,⟨by omega,by omega⟩,?_⟩
   refine dr ?_
   trivial
  ·refine dr ?_
   refine ⟨o,q,⟨by omega,by omega⟩,?_⟩
   refine dr ?_
   trivial
 rintro o q ⟨hq1,hq2⟩
 refine dr ?_
 refine cutp2 (fun (o:Op) (q:Int)=>[(0,.ptr 1 0),(4,.ptr 64 0),(5,.ptr 80 0)]) (fun o q=>[(1,.box [.c (eCode s),.c (CI q)]),(64,.box [.c (CI 0),.c (CS []),.c (CS []),.c (CS [])]),(80,.box [.c (CI o.kind),.c (CS o.path),.c (CS o.dest),.c (CS o.data)])]) (fun o q=>p≤q∧q≤p+6) ?_ ?_
 ·refine dr ?_
  refine cP (fun h1=>?_) (fun h1=>?_)
  ·refine dr ?_
   refine oW (f_l1Path W0 s q hs (by omega)) rfl ⟨rfl,trivial⟩ rfl rfl ⟨_,List.mem_cons_self⟩ fun y hy=>⟨rfl,?_⟩
   refine dEr ?_
   refine ⟨⟨o.kind,o.path,y,o.data⟩,q+1,⟨by omega,by omega⟩,?_⟩
   refine dr ?_
   trivial
  ·refine dr ?_
   refine ⟨o,q,⟨by omega,by omega⟩,?_⟩
   refine dr ?_
   trivial
 rintro o q ⟨hq1,hq2⟩
 refine dr ?_
 refine cutp2 (fun (o:Op) (q:Int)=>[(0,.ptr 1 0),(4,.ptr 64 0),(5,.ptr 80 0)]) (fun o q=>[(1,.box [.c (eCode s),.c (CI q)]),(64,.box [.c (CI 0),.c (CS []),.c (CS []),.c (CS [])]),(80,.box [.c (CI o.kind),.c (CS o.path),.c (CS o.dest),.c (CS o.data)])]) (fun o q=>p≤q∧q≤p+8) ?_ ?_
 ·refine dr ?_
  refine oW (f_pick W0 s q 50 hs (by omega) (by omega)) rfl ⟨rfl,trivial⟩ rfl rfl ⟨0,by omega,by omega⟩ fun v hv=>⟨rfl,?_⟩
  refine dEr ?_
  refine cP (fun h1=>?_) (fun h1=>?_)
  ·refine dr ?_
   refine oW (f_num W0 s (q+1) [0,6,-1,1] hs (by omega) (by decide)) rfl ⟨rfl,trivial⟩ rfl rfl ⟨0,by decide⟩ fun y hy=>⟨rfl,?_⟩
   refine dEr ?_
   refine ⟨⟨y,o.path,o.dest,o.data⟩,q+1+1,⟨by omega,by omega⟩,?_⟩
   refine dr ?_
   trivial
  refine dr ?_
  refine cP (fun h2=>?_) (fun h2=>?_)
  ·refine dr ?_
   refine oW (f_of W0 s (q+1) [[47],[],[47,65],[47,97,47,98,47,99,47,100]] hs (by omega) (by decide)) rfl ⟨rfl,trivial⟩ rfl rfl ⟨_,List.mem_cons_self⟩ fun y hy=>⟨rfl,?_⟩
   refine dEr ?_
   refine ⟨⟨o.kind,y,o.dest,o.data⟩,q+1+1,⟨by omega,by omega⟩,?_⟩
   refine dr ?_
   trivial
  refine dr ?_
  refine cP (fun h3=>?_) (fun h3=>?_)
  ·refine dr ?_
   refine oW (f_of W0 s (q+1) [[47],[47,97],[47,99,47,99,47,99],[]] hs (by omega) (by decide)) rfl ⟨rfl,trivial⟩ rfl rfl ⟨_,List.mem_cons_self⟩ fun y hy=>⟨rfl,?_⟩
   refine dEr ?_
   refine ⟨⟨o.kind,o.path,y,o.data⟩,q+1+1,⟨by omega,by omega⟩,?_⟩
   refine dr ?_
   trivial
  refine dr ?_
  refine cP (fun h4=>?_) (fun h4=>?_)
  ·refine dr ?_
   refine oW (f_of W0 s (q+1) [[113],[65],[97,98,99,100,101,102,103],[97,98,99,100,101,102]] hs (by omega) (by decide)) rfl ⟨rfl,trivial⟩ rfl rfl ⟨_,List.mem_cons_self⟩ fun y hy=>⟨rfl,?_⟩
   refine dEr ?_
   refine ⟨⟨o.kind,o.path,o.dest,y⟩,q+1+1,⟨by omega,by omega⟩,?_⟩
   refine dr ?_
   trivial
  refine dr ?_
  refine ⟨o,q+1,⟨by omega,by omega⟩,?_⟩
  refine dr ?_
  trivial
 rintro o q ⟨hq1,hq2⟩
 refine dr ?_
 refine ⟨none,_,_,?_,(o,q),⟨by omega,by omega⟩,rfl,rfl⟩
 refine dr ?_
 trivial
def c_spec_l2Tree:XC:=(.s (.r [.ex 2 (.asn (.k .nil) 3 39)]) (.s (.r [.ex 6 .bsl0,.ex 3 (.asn 6 3 39)]) (.s (.s (.r [.mv 7 0,.ex 8 (.bsl 1 3 [(.i 6),(.i 12),(.i 18),(.i 24),(.i 30),(.i 3),(.i 0)]),.ex 9 (.opn 36 [7,8]),.mv 4 9]) (.blk 0 (.loop (.s (.s (.r [.mv 10 4,.b1 11 .gtr 10 (.i 0)]) (.cnd 11 .skip (.exit 0))) (.s (.blk 1 (.r [.mv 15 3,.mv 16 0,.mv 17 3,.ex 18 (.opn 112 [16,17]),.c1 19 107 [15,18],.mv 14 19,.ex 20 (.ext 14 0),.ex 21 (.ext 14 1),.ex 3 (.asn 20 3 39)])) (.r [.mv 12 4,.b1 13 .sub 12 (.i 1),.mv 4 13])))))) (.s (.s (.r [.mv 22 0,.ex 23 (.opn 38 [22,(.i 20)]),.b1 24 .eql 23 (.i 0)]) (.cnd 24 (.s (.r [.m1 5 (.i 0)]) (.blk 2 (.loop (.s (.s (.r [.mv 25 5,.b1 26 .lss 25 (.i 26),.mv 27 26,.gt 28 (.mv 3) 27,.gt 29 (.len false 28) 27,.gt 30 (.bin .lss 29 (.i 16)) 27,.ex 31 (.pick 27 30 .n)]) (.cnd 31 .skip (.exit 2))) (.s (.blk 3 (.r [.mv 35 3,.mv 36 5,.b1 37 .add (.i 97) 36,.ex 38 (.conv .u8 37),.ex 39 (.bsl 1 5 [38]),.ex 40 (.b2s 39),.ex 41 (.bin .add (.s [47,122]) 40),.ex 42 (.build [(I 0),sE,sE,sE] [(0,(1,(.i 2))),(1,(1,41))]),.c1 43 107 [35,42],.mv 34 43,.ex 44 (.ext 34 0),.ex 45 (.ext 34 1),.ex 3 (.asn 44 3 39)])) (.r [.mv 32 5,.b1 33 .add 32 (.i 1),.mv 5 33])))))) .skip)) (.s (.r [.mv 46 3,.ex 2 (.asn 46 3 39)]) .ret)))))
theorem c_spec_l2Tree_eq:compF Tryz.prog [112,38,36] 150=some (c_spec_l2Tree.ac,[(.t 2)],47):=by kernel_rfl
theorem f_l2Tree (W0:World) (s:Str) (p:Int) (hs:s.length≤2000) (hp:0≤p∧p≤50000) :
  FunW Tryz.prog W0 150 [.ptr 1 0] (Rd s p) (fun x:List Ent × Int=>x.1.length≤17∧p≤x.2∧x.2≤p+242) (fun x => .c (eEnts x.1)) (fun x=>Rd s x.2):=by
 refine funW (c:=c_spec_l2Tree) mixed c_spec_l2Tree_eq (by simp) rfl rfl fun hg=>?_
 refine dr ?_
 refine oW (f_num W0 s p [6,12,18,24,30,3,0] hs (by omega) (by decide)) rfl ⟨rfl,trivial⟩ rfl rfl ⟨0,by decide⟩ fun k hk=>⟨rfl,?_⟩
 have hk2:0≤k∧k≤30:=by
  have:∀ x∈([6,12,18,24,30,3,0]:List Int),0≤x∧x≤30:=by decide
  exact this k hk
 refine dEr ?_
 refine lz3 48 (fun (t:List Ent) (i q:Int)=>[(0,.ptr 1 0),(3,.c (eEnts t)),(4,.c (CI i))]) (fun _ _ q=>[(1,.box [.c (eCode s),.c (CI q)])]) (fun t i q=>t.length≤17∧0≤i∧i≤30∧p≤q∧q≤p+1+8 * (30 - i)) (fun _ i _=>i.toNat) [] k (p+1) ⟨by simp,by omega,by omega,by omega,by omega⟩ ?_ ?_
 ·refine dr ?_
  trivial
 rintro t i q ⟨h1,h2,h3,h4,h5⟩
 refine dr ?_
 refine cP (fun h6=>?_) (fun h6=>?_)
 ·refine dr ?_
  refine oW (f_l2Op W0 s q t hs (by omega) (by omega)) rfl ⟨rfl,trivial⟩ rfl rfl ⟨(⟨0,[],[],[]⟩,q),by omega,by omega⟩ fun x hx=>⟨rfl,?_⟩
  obtain ⟨o,q2⟩:=x
  have hx1:q≤q2:=hx.1
  have hx2:q2≤q+8:=hx.2
  refine dEr ?_
  repeat (refine c0 (f_spec_TreeDo W0 t o) rfl ?_; first | refine dEr ?_ | exact dz)
  refine ⟨(treeDo t o).1,i - 1,q2,⟨treeDo_len,by omega,by omega,by omega,by omega⟩,by omega,?_⟩
  refine dr ?_
  trivial
 refine dr ?_
 refine oW (f_pick W0 s q 20 hs (by omega) (by omega)) rfl ⟨rfl,trivial⟩ rfl rfl ⟨0,by omega,by omega⟩ fun v hv=>⟨rfl,?_⟩
 refine dEr ?_
 refine cP (fun h7=>?_) (fun h7=>?_)
 ·refine dr ?_
  refine lp2 (fun (t:List Ent) (j:Nat)=>[(0,.ptr 1 0),(3,.c (eEnts t)),(5,I j)]) (fun _ _=>[(1,.box [.c (eCode s),.c (CI (q+1))])]) (fun t j=>t.length≤17∧j≤26) (fun _ j=>26 - j) t 0 ⟨by omega,by omega⟩ ?_ ?_
  ·refine dr ?_
   trivial
  rintro t j ⟨g1,g2⟩
  refine dr ?_
  refine cP (fun h8=>?_) (fun h8=>?_)
  ·refine dr ?_
   refine cP (fun h9=>?_) (fun h9=>?_)
   ·refine dEr ?_
    repeat ((first | refine c0 (f_spec_TreeDo W0 t ⟨2,_,[],[]⟩) rfl ?_ | refine oB (by simp) ?_); first | refine dEr ?_ | exact dz)
    refine ⟨(treeDo t ⟨2,[47,122]++[UInt8.ofNat (97+(j:Int)).toNat],[],[]⟩).1,j+1,⟨treeDo_len,by omega⟩,by omega,?_⟩
    refine dr ?_
    trivial
   ·refine dr ?_
    refine ⟨none,_,_,?_,(t,q+1),⟨by omega,by omega,by omega⟩,rfl,rfl⟩
    refine dr ?_
    trivial
  ·refine dr ?_
   refine ⟨none,_,_,?_,(t,q+1),⟨by omega,by omega,by omega⟩,rfl,rfl⟩
   refine dr ?_
   trivial
 ·refine dr ?_
  refine ⟨none,_,_,?_,(t,q+1),⟨by omega,by omega,by omega⟩,rfl,rfl⟩
  refine dr ?_
  trivial
end Go.Proofs.YteheahbjaddooaaGreatDoor

namespace Go.Proofs.YteheahbjaddooaaGreatDoor
set_option linter.unusedSimpArgs false
set_option linter.unusedVariables false
open Go Go.RowKit
def c_spec_l3Layer:XC:=(.s (.r [.ex 2 (.asn (.k .nil) 3 133)]) (.s (.r [.ex 7 .bsl0,.ex 3 (.asn 7 3 133)]) (.s (.s (.r [.mv 8 0,.ex 9 (.bsl 1 3 [(.i 3),(.i 5),(.i 8),(.i 2),(.i 1),(.i 0),(.i 12)]),.ex 10 (.opn 36 [8,9]),.mv 4 10]) (.blk 0 (.loop (.s (.s (.r [.mv 11 4,.b1 12 .gtr 11 (.i 0)]) (.cnd 12 .skip (.exit 0))) (.s (.blk 1 (.s (.r [.mv 15 0,.ex 16 (.opn 92 [15]),.mv 17 0,.ex 18 (.bsl 1 3 [(.i 1),(.i 2),(.i 3),(.i 4),(.i 1),(.i 3)]),.ex 19 (.opn 36 [17,18]),.ex 20 (.build [sE,(I 0),sE] [(0,(1,16)),(1,(1,19))]),.ex 5 (.alloc [sE,(I 0),sE]),.nu (.st 3 5 20)]) (.cut (.s (.r [.f1 21 1 5,.l1 22 1 21,.b1 23 .eql 22 (.i 1)]) (.cnd 23 (.r [.mv 24 0,.ex 25 (.opn 173 [24]),.f1 26 2 5,.nu (.st 1 26 25)]) .skip)) (.s (.r [.mv 27 3,.l2 28 3 5,.c1 29 125 [27,28],.ex 6 (.asn 29 3 133)]) (.s (.s (.r [.mv 30 6,.c1 31 171 [30]]) (.cnd 31 (.s (.r [.mv 32 6,.ex 3 (.asn 32 3 133)]) (.exit 1)) .skip)) (.s (.r [.mv 33 6,.f1 34 0 5,.l1 35 1 34,.c1 36 124 [33,35],.ex 6 (.asn 36 3 133)]) (.s (.r [.mv 37 6,.c1 38 171 [37]]) (.cnd 38 (.r [.mv 39 6,.ex 3 (.asn 39 3 133)]) .skip)))))))) (.r [.mv 13 4,.b1 14 .sub 13 (.i 1),.mv 4 14])))))) (.s (.r [.mv 40 3,.ex 2 (.asn 40 3 133)]) .ret))))
theorem c_spec_l3Layer_eq:compF Tryz.prog [36,92,173] 151=some (c_spec_l3Layer.ac,[(.t 2)],41):=by kernel_rfl
theorem drawn_ok:∀ x∈drawnPaths,pOk x=true:=by decide
theorem f_l3Layer (W0:World) (s:Str) (p:Int) (hs:s.length≤2000) (hp:0≤p∧p≤50000) :
  FunW Tryz.prog W0 151 [.ptr 1 0] (Rd s p) (fun x:List Mark × Int=>x.1.length≤32∧p≤x.2∧x.2≤p+37) (fun x => .c (eMarks x.1)) (fun x=>Rd s x.2):=by
 refine funW (c:=c_spec_l3Layer) mixed c_spec_l3Layer_eq (by simp) rfl rfl fun hg=>?_
 refine dr ?_
 refine oW (f_num W0 s p [3,5,8,2,1,0,12] hs (by omega) (by decide)) rfl ⟨rfl,trivial⟩ rfl rfl ⟨0,by decide⟩ fun k hk=>⟨rfl,?_⟩
 have hk2:0≤k∧k≤12:=by
  have:∀ x∈([3,5,8,2,1,0,12]:List Int),0≤x∧x≤12:=by decide
  exact this k hk
 refine dEr ?_
 refine lz3 48 (fun (t:List Mark) (i q:Int)=>[(0,.ptr 1 0),(3,.c (eMarks t)),(4,.c (CI i))]) (fun _ _ q=>[(1,.box [.c (eCode s),.c (CI q)])]) (fun t i q=>t.length≤32∧0≤i∧i≤12∧p≤q∧q≤p+1+3 * (12 - i)) (fun _ i _=>i.toNat) [] k (p+1) ⟨by simp,by omega,by omega,by omega,by omega⟩ ?_ ?_
 ·refine dr ?_
  trivial
 rintro t i q ⟨h1,h2,h3,h4,h5⟩
 refine dr ?_
 refine cP (fun h6=>?_) (fun h6=>?_)
 rotate_left
 ·refine dr ?_
  refine ⟨none,_,_,?_,(t,q),⟨by omega,by omega,by omega⟩,rfl,rfl⟩
  refine dr ?_
  trivial
 refine dr ?_
 refine oW (f_l1Path W0 s q hs (by omega)) rfl ⟨rfl,trivial⟩ rfl rfl ⟨_,List.mem_cons_self⟩ fun x hx=>⟨rfl,?_⟩
 have hx1:=drawn_ok x hx
 refine dr ?_
 refine oW (f_num W0 s (q+1) [1,2,3,4,1,3] hs (by omega) (by decide)) rfl ⟨rfl,trivial⟩ rfl rfl ⟨1,by decide⟩ fun v hv=>⟨rfl,?_⟩
 refine dEr ?_
 refine cutp2 (fun (m:Mark) (r:Int)=>[(0,.ptr 1 0),(3,.c (eMarks t)),(4,.c (CI i)),(5,.ptr 80 0)]) (fun m r=>[(1,.box [.c (eCode s),.c (CI r)]),(80,.box [.c (CS m.path),.c (CI m.kind),.c (CS m.data)])]) (fun m r=>pOk m.path=true∧q≤r∧r≤q+3) ?_ ?_
 ·refine dr ?_
  refine cP (fun h7=>?_) (fun h7=>?_)
  ·refine dr ?_
   refine oW (f_l2Some W0 s (q+1+1) hs (by omega)) rfl ⟨rfl,trivial⟩ rfl rfl ⟨_,List.mem_cons_self⟩ fun y hy=>⟨rfl,?_⟩
   refine dEr ?_
   refine ⟨⟨x,v,y⟩,q+1+1+1,⟨hx1,by omega,by omega⟩,?_⟩
   refine dr ?_
   trivial
  ·refine dr ?_
   refine ⟨⟨x,v,[]⟩,q+1+1,⟨hx1,by omega,by omega⟩,?_⟩
   refine dr ?_
   trivial
 rintro m r ⟨g1,g2,g3⟩
 have hpl:(lput t m).length≤t.length+1:=putG_len
 have hu:=f_l3Ups W0 3 (lput t m) m.path g1 (pOk_names g1).1.2 (by omega)
 refine dEr ?_
 repeat ((first | refine c0 (f_l3Put W0 t m (by omega)) rfl ?_ | refine c0 (f_spec_LayerOk W0 _) rfl ?_); first | refine dEr ?_ | exact dz)
 refine cP (fun h7=>?_) (fun h7=>?_)
 ·refine dr ?_
  refine ⟨lput t m,i - 1,r,⟨(lOk_iff.1 h7).1,by omega,by omega,by omega,by omega⟩,by omega,?_⟩
  refine dr ?_
  trivial
 ·refine dEr ?_
  repeat ((first | refine c0 hu rfl ?_ | refine c0 (f_spec_LayerOk W0 _) rfl ?_); first | refine dEr ?_ | exact dz)
  refine cP (fun h8=>?_) (fun h8=>?_)
  ·refine dr ?_
   refine ⟨_,i - 1,r,⟨(lOk_iff.1 h8).1,by omega,by omega,by omega,by omega⟩,by omega,?_⟩
   refine dr ?_
   trivial
  ·refine dr ?_
   refine ⟨t,i - 1,r,⟨by omega,by omega,by omega,by omega,by omega⟩,by omega,?_⟩
   refine dr ?_
   trivial
end Go.Proofs.YteheahbjaddooaaGreatDoor

namespace Go.Proofs.YteheahbjaddooaaGreatDoor
set_option linter.unusedSimpArgs false
set_option linter.unusedVariables false
open Go Go.RowKit
def NC (x y:PV):Prop:=y=x∨(x = .nil∧y = .c (.row []))
theorem NC.rep {κ:Kap} {m:Mem} {w:World} {x y:PV} {v:Value} (h:NC x y) (hr:Rep1 κ m w x v):Rep1 κ m w y v:=by
 rcases h with rfl | ⟨rfl,rfl⟩
 ·exact hr
 ·obtain ⟨o,rfl⟩:=hr
  exact .nil (Nat.zero_le _)
theorem KeepS.nilC {k0:List Nat} {A:Fr} {m:XM} (bx:Nat) (cs cs':List PV) (hb:lkX m bx=some (.box cs)) (hc:All2 NC cs cs'):KeepS k0 A m A (updX m bx (.box cs')):=fun W0 F K hA hK=>by
 intro w0 κ0 m0 N κ act w hk0 hr
 have hmw:=hr.mw
 have hW:=hr.big
 have hb':lk (Go.Proofs.YteheahbjaddooaaGreatDoor.er m) bx=some (.box cs):=by rw [lk_er,hb]; rfl
 have all2:∀ {cs cs':List PV} {vs:List Value} {κ:Kap} {m:Mem},All2 NC cs cs'→All2 (Rep1 κ m w) cs vs→All2 (Rep1 κ m w) cs' vs:=by
  intro cs
  induction cs with
  | nil=>intro cs' vs κ m h1 h2; cases cs' with | nil=>(cases vs with | nil=>trivial | cons=>exact h2.elim) | cons=>exact h1.elim
  | cons c cs ih =>
   intro cs' vs κ m h1 h2
   cases cs' with
   | nil=>exact h1.elim
   | cons d ds=>cases vs with
    | nil=>exact h2.elim
    | cons v vs=>exact ⟨NC.rep h1.1 h2.1,ih h1.2 h2.2⟩
 obtain ⟨g1,g2⟩:=hmw.turn (κ':=κ) (w':=w) (x := .box cs') hW hb' rfl rfl rfl (Nat.le_refl _) rfl (fun _ _=>rfl) (fun _ _ _=>rfl) (.inl rfl) (fun _ h=>⟨⟨cs',rfl⟩,rfl⟩) (fun _ _ _ h=>by cases h) (fun hp=>by
  obtain ⟨g,vs,e,q1,q2,q3⟩:=hmw.mem.blk bx _ hb'
  exact ⟨g,vs,e,q1,q2,all2 hc (q3.imp fun _ _=>Rep1.pres hp)⟩) (.inl fun _ _ _ h=>by cases h)
 refine ⟨κ,A,_,⟨g1,hr.start,hr.low0,hr.s0,hr.size,hr.defers,fun t x hx=>?_⟩,?_⟩
 ·obtain ⟨q1,q2⟩:=hr.tmps t x (by rw [← hA t]; exact hx)
  exact ⟨q1,Rep.pres g2 q2⟩
 ·rw [updX_er] at hK; exact hK
theorem nc0 {x:PV}:NC x x := .inl rfl
theorem nc1:NC .nil (.c (.row [])) := .inr ⟨rfl,rfl⟩
theorem app1 {α:Type} {f:α→CV} {t:List α} {x:α}:t.map f++[f x]=(t++[x]).map f:=by rw [List.map_append]; rfl
theorem set1 {α:Type} {f:α→CV} {t:List α} {k:Nat} {x:α}:(t.map f).set k (f x)=(t.set k x).map f:=List.map_set.symm
abbrev ovB (o:Over):XB := .box [.c (eEnts o.base),.c (eMarkss o.layers),.c (eMarks o.upper)]
abbrev ni3:XB := .box [.nil,.nil,.nil]
abbrev rdB (s:Str) (q:Int):XB := .box [.c (eCode s),.c (CI q)]
def c_spec_l4Over:XC:=(.s (.r [.ex 2 (.alloc [.nil,.nil,.nil])]) (.s (.r [.mv 9 0,.ex 10 (.opn 150 [9]),.ex 11 (.build [.nil,.nil,.nil] [(0,(1,10))]),.ex 3 (.alloc [.nil,.nil,.nil]),.nu (.st 3 3 11)]) (.s (.s (.r [.mv 12 0,.ex 13 (.opn 38 [12,(.i 3)]),.mv 4 13]) (.blk 0 (.loop (.s (.s (.r [.mv 14 4,.b1 15 .gtr 14 (.i 0)]) (.cnd 15 .skip (.exit 0))) (.s (.blk 1 (.s (.r [.l2 18 3 3,.ex 19 (.opn 102 [18]),.ex 5 (.alloc [.nil,.nil,.nil]),.nu (.st 3 5 19)]) (.s (.d [.f1 20 1 5,.exl 21 (.ld false 1 20),.mv 22 0,.exl 23 (.opn 151 [22]),.exl 24 (.bsl 1 25 [23]),.ex 25 (.app false 1 24 25 21 24),.f1 26 1 5,.nu (.st 1 26 25)]) (.s (.r [.l2 27 3 5,.c1 28 25 [27]]) (.cnd 28 (.r [.l2 29 3 5,.nu (.st 3 3 29)]) .skip))))) (.r [.mv 16 4,.b1 17 .sub 16 (.i 1),.mv 4 17])))))) (.s (.s (.r [.mv 30 0,.ex 31 (.opn 38 [30,(.i 12)]),.mv 6 31]) (.blk 2 (.loop (.s (.s (.r [.mv 32 6,.b1 33 .gtr 32 (.i 0)]) (.cnd 33 .skip (.exit 2))) (.s (.blk 3 (.s (.r [.l2 37 3 3,.c1 38 69 [37],.mv 36 38,.ex 39 (.ext 36 0),.ex 40 (.ext 36 1),.ex 7 (.asn 39 3 39),.mv 8 40]) (.s (.r [.mv 41 0,.ex 42 (.opn 38 [41,(.i 8)])]) (.blk 4 (.s (.r [.b1 52 .eql 42 (.i 0),.mv 51 52]) (.cnd 51 (.r [.l2 54 3 3,.c1 55 152 [54],.mv 53 55,.ex 56 (.ext 53 0),.ex 57 (.ext 53 1),.nu (.st 3 3 56)]) (.s (.r [.b1 59 .eql 42 (.i 1),.mv 58 59]) (.cnd 58 (.s (.r [.mv 60 0,.ex 61 (.opn 38 [60,(.i 3)]),.b1 62 .eql 61 (.i 0)]) (.cnd 62 (.r [.l2 64 3 3,.c1 65 153 [64],.mv 63 65,.ex 66 (.ext 63 0),.ex 67 (.ext 63 1),.nu (.st 3 3 66)]) .skip)) (.d [.exl 44 (.ld true 3 3),.mv 45 0,.mv 46 7,.exl 47 (.opn 112 [45,46]),.c1 48 93 [44,47],.mv 43 48,.ex 49 (.ext 43 0),.ex 50 (.ext 43 1),.nu (.st 3 3 49)]))))))))) (.r [.mv 34 6,.b1 35 .sub 34 (.i 1),.mv 6 35])))))) (.s (.r [.l2 68 3 3,.ex 69 (.opn 102 [68]),.nu (.st 3 2 69)]) .ret)))))
theorem c_spec_l4Over_eq:compF Tryz.prog [150,38,102,151,112] 94=some (c_spec_l4Over.ac,[(.cell 2 true 3)],70):=by kernel_rfl
theorem f_l4Over (W0:World) (s:Str) (p:Int) (hs:s.length≤2000) (hp:0≤p∧p≤20000) :
  FunW Tryz.prog W0 94 [.ptr 1 0] (Rd s p) (fun x:Over × Int=>OS x.1∧p≤x.2∧x.2≤p+600) (fun x => .c (eOver x.1)) (fun x=>Rd s x.2):=by
 refine funW (c:=c_spec_l4Over) mixed c_spec_l4Over_eq (by simp) rfl rfl fun hg=>?_
 refine dr ?_
 refine oW (f_l2Tree W0 s p hs (by omega)) rfl ⟨rfl,trivial⟩ rfl rfl ⟨([],p),by simp; omega⟩ fun x hx=>⟨rfl,?_⟩
 obtain ⟨b,q0⟩:=x
 obtain ⟨hb,hq1,hq2⟩:b.length≤17∧p≤q0∧q0≤p+242:=hx
 refine dEr ?_
 refine oW (f_pick W0 s q0 3 hs (by omega) (by omega)) rfl ⟨rfl,trivial⟩ rfl rfl ⟨0,by omega,by omega⟩ fun n hn=>⟨rfl,?_⟩
 have hn2:=hn.2 (by omega)
 have hn1:=hn.1
 refine dEr ?_
 refine lq3 (fun (o:Over) (i q:Int)=>[(0,.ptr 1 0),(2,.ptr 32 0),(3,.ptr 48 0),(4,.c (CI i))]) (fun o _ q=>[(1,rdB s q),(32,ni3),(48,ovB o)]) (fun o i q=>OS o∧0≤i∧i≤2∧p≤q∧q≤p+243+37 * (2 - i)) (fun _ i _=>i.toNat) ⟨b,[],[]⟩ n (q0+1) ⟨⟨hb,by simp,by simp,by simp⟩,by omega,by omega,by omega,by omega⟩ ?_ ?_
 ·refine KeepS.trans (F1:=_) (m1:=_) (KeepS.nilC 48 [.c (eEnts b),.nil,.nil] [.c (eEnts b),.c (.row []),.c (.row [])] rfl ⟨nc0,nc1,nc1,trivial⟩) (z:=none) ?_
  refine dr ?_
  trivial
 rintro o i q ⟨ho,hi1,hi2,hq3,hq4⟩
 refine dr ?_
 refine cP (fun h1=>?_) (fun h1=>?_)
 ·refine dr ?_
  refine oW (f_l4Copy W0 o (ho.oz.mono (by omega))) rfl trivial rfl rfl ⟨(),trivial⟩ fun _ _=>⟨rfl,?_⟩
  refine dEr ?_
  refine oW (f_l3Layer W0 s q hs (by omega)) rfl ⟨rfl,trivial⟩ rfl rfl ⟨([],q),by simp; omega⟩ fun x hx=>⟨rfl,?_⟩
  obtain ⟨l,q2⟩:=x
  obtain ⟨hl,hr1,hr2⟩:l.length≤32∧q≤q2∧q2≤q+37:=hx
  have hn:=ho.n
  have q9:=f_spec_OverOk W0 ⟨o.base,o.layers++[l],o.upper⟩
  rw [show eOver ⟨o.base,o.layers++[l],o.upper⟩ = .agg [eEnts o.base,.row (o.layers.map eMarks++[eMarks l]),eMarks o.upper] by rw [app1]; rfl] at q9
  refine dEr ?_
  repeat ((first | refine oB (by simp; omega) ?_ | refine oB (by simp) ?_ | refine c0 q9 rfl ?_); first | refine dEr ?_ | exact dz)
  refine cP (fun h2=>?_) (fun h2=>?_)
  ·refine dr ?_
   refine ⟨⟨o.base,o.layers++[l],o.upper⟩,i - 1,q2,⟨OS.ok h2,by omega,by omega,by omega,by omega⟩,by omega,?_⟩
   refine KeepX.s (z:=some 4) ?_
   refine dr ?_
   repeat ((first | refine oB (congrArg (fun L=>XB.box [.c (eEnts o.base),.c (.row L),.c (eMarks o.upper)]) app1) ?_ | refine oB (by simp) ?_); first | refine dr ?_ | exact dz)
   trivial
  ·refine dr ?_
   refine ⟨o,i - 1,q2,⟨ho,by omega,by omega,by omega,by omega⟩,by omega,?_⟩
   refine KeepX.s (z:=none) ?_
   refine dr ?_
   trivial
 refine dr ?_
 refine oW (f_pick W0 s q 12 hs (by omega) (by omega)) rfl ⟨rfl,trivial⟩ rfl rfl ⟨0,by omega,by omega⟩ fun n hn=>⟨rfl,?_⟩
 have hn2:=hn.2 (by omega)
 have hn1:=hn.1
 clear h1
 refine dEr ?_
 refine lp3 (fun (o:Over) (i r:Int)=>[(0,.ptr 1 0),(2,.ptr 32 0),(3,.ptr 48 0),(6,.c (CI i))]) (fun o _ r=>[(1,rdB s r),(32,ni3),(48,ovB o)]) (fun o i r=>OS o∧0≤i∧i≤11∧p≤r∧r≤p+320+10 * (11 - i)) (fun _ i _=>i.toNat) o n (q+1) ⟨ho,by omega,by omega,by omega,by omega⟩ ?_ ?_
 ·refine dr ?_
  trivial
 clear hq3 hq4 ho
 rintro o i q ⟨ho,hi1,hi2,hq3,hq4⟩
 refine dr ?_
 refine cP (fun h1=>?_) (fun h1=>?_)
 ·have hv:=f_l4View W0 o
  have hvl:((view4 o).getD []).length≤16:=by
   cases hx:view4 o with
   | none=>simp
   | some x=>exact (tOk_at (view4_tOk hx)).1
  rw [eEntsO_eq] at hv
  generalize (view4 o).getD []=t at *
  refine dEr ?_
  repeat (refine c0 hv rfl ?_; first | refine dEr ?_ | exact dz)
  refine oW (f_pick W0 s q 8 hs (by omega) (by omega)) rfl ⟨rfl,trivial⟩ rfl rfl ⟨0,by omega,by omega⟩ fun v hv=>⟨rfl,?_⟩
  refine dEr ?_
  refine cP (fun h2=>?_) (fun h2=>?_)
  ·refine dEr ?_
   repeat (refine c0 (f_spec_OverPush W0 o) rfl ?_; first | refine dEr ?_ | exact dz)
   refine ⟨(oPush o).1,i - 1,q+1,⟨OS.push,by omega,by omega,by omega,by omega⟩,by omega,?_⟩
   refine dr ?_
   trivial
  refine dr ?_
  refine cP (fun h3=>?_) (fun h3=>?_)
  ·refine dr ?_
   refine oW (f_pick W0 s (q+1) 3 hs (by omega) (by omega)) rfl ⟨rfl,trivial⟩ rfl rfl ⟨0,by omega,by omega⟩ fun v hv=>⟨rfl,?_⟩
   refine dEr ?_
   refine cP (fun h4=>?_) (fun h4=>?_)
   ·refine dEr ?_
    repeat (refine c0 (f_spec_OverFlat W0 o) rfl ?_; first | refine dEr ?_ | exact dz)
    refine ⟨(oFlat o).1,i - 1,q+1+1,⟨OS.flat,by omega,by omega,by omega,by omega⟩,by omega,?_⟩
    refine dr ?_
    trivial
   ·refine dr ?_
    refine ⟨o,i - 1,q+1+1,⟨ho,by omega,by omega,by omega,by omega⟩,by omega,?_⟩
    refine dr ?_
    trivial
  ·refine dr ?_
   refine oW (f_l2Op W0 s (q+1) t hs (by omega) (by omega)) rfl ⟨rfl,trivial⟩ rfl rfl ⟨((⟨0,[],[],[]⟩,q+1):Op × Int),by omega,by omega⟩ fun x hx=>⟨rfl,?_⟩
   obtain ⟨op,r⟩:=x
   obtain ⟨hr1,hr2⟩:q+1≤r∧r≤q+1+8:=hx
   refine dEr ?_
   repeat (refine c0 (f_spec_OverDo W0 o op) rfl ?_; first | refine dEr ?_ | exact dz)
   refine ⟨(oDo o op).1,i - 1,r,⟨OS.do op,by omega,by omega,by omega,by omega⟩,by omega,?_⟩
   refine dr ?_
   trivial
 ·refine dr ?_
  refine oW (f_l4Copy W0 o (ho.oz.mono (by omega))) rfl trivial rfl rfl ⟨(),trivial⟩ fun _ _=>⟨rfl,?_⟩
  refine dEr ?_
  refine ⟨some 4,_,_,?_,(o,q),⟨ho,by omega,by omega⟩,rfl,rfl⟩
  refine dr ?_
  repeat (refine oB (by simp) ?_; first | refine dr ?_ | exact dz)
  trivial
theorem OZ.put {o:Over} {n:Nat} (h:OZ n o) {ls:List (List Mark)} {m:Nat} (h1:ls.length≤m) (h2:∀ l∈ls,l.length≤m) (hm:n≤m):OZ m ⟨o.base,ls,o.upper⟩:=⟨by have:=h.b; simp only; omega,h1,h2,by have:=h.u; simp only; omega⟩
def c_spec_l1Text:XC:=(.s (.r [.ex 2 (.mv (.s []))]) (.s (.s (.r [.mv 3 0,.ex 4 (.opn 38 [3,(.i 4)]),.b1 5 .gtr 4 (.i 0)]) (.cnd 5 (.s (.r [.mv 6 0,.ex 7 (.opn 92 [6]),.mv 2 7]) .ret) .skip)) (.s (.r [.mv 8 0,.ex 9 (.bsl 1 9 [(.s [47]),(.s []),(.s [97]),(.s [47,65]),(.s [47,97,47]),(.s [47,47,97]),(.s [47,97,98,99,100]),(.s [47,97,47,98,47,99,47,100]),(.s [47,97,98,99,47,97,98,99,47,97,98,99]),(.s [47,97,32,98]),(.s [47,97,49])]),.ex 10 (.opn 95 [8,9]),.mv 2 10]) .ret)))
theorem c_spec_l1Text_eq:compF Tryz.prog [38,92,95] 39=some (c_spec_l1Text.ac,[(.t 2)],11):=by kernel_rfl
theorem f_l1Text (W0:World) (s:Str) (p:Int) (hs:s.length≤2000) (hp:0≤p∧p≤900000) :
  FunW Tryz.prog W0 39 [.ptr 1 0] (Rd s p) (fun x:Str × Int=>p≤x.2∧x.2≤p+2) (fun x => .c (CS x.1)) (fun x=>Rd s x.2):=by
 refine funW (c:=c_spec_l1Text) mixed c_spec_l1Text_eq (by simp) rfl rfl fun hg=>?_
 refine dr ?_
 refine oW (f_pick W0 s p 4 hs (by omega) (by omega)) rfl ⟨rfl,trivial⟩ rfl rfl ⟨0,by omega,by omega⟩ fun v hv=>⟨rfl,?_⟩
 refine dEr ?_
 refine cP (fun h1=>?_) (fun h1=>?_)
 ·refine dr ?_
  refine oW (f_l1Path W0 s (p+1) hs (by omega)) rfl ⟨rfl,trivial⟩ rfl rfl ⟨_,List.mem_cons_self⟩ fun x hx=>⟨rfl,?_⟩
  refine dEr ?_
  refine ⟨none,_,_,?_,(x,p+1+1),⟨by omega,by omega⟩,rfl,rfl⟩
  refine dr ?_
  trivial
 ·refine dr ?_
  refine oW (f_of W0 s (p+1) [[47],[],[97],[47,65],[47,97,47],[47,47,97],[47,97,98,99,100],[47,97,47,98,47,99,47,100],[47,97,98,99,47,97,98,99,47,97,98,99],[47,97,32,98],[47,97,49]] hs (by omega) (by decide)) rfl ⟨rfl,trivial⟩ rfl rfl ⟨_,List.mem_cons_self⟩ fun x hx=>⟨rfl,?_⟩
  refine dEr ?_
  refine ⟨none,_,_,?_,(x,p+1+1),⟨by omega,by omega⟩,rfl,rfl⟩
  refine dr ?_
  trivial
theorem view_len {o:Over}:((view4 o).getD []).length≤16:=by
 cases hx:view4 o with
 | none=>simp
 | some x=>exact (tOk_at (view4_tOk hx)).1
end Go.Proofs.YteheahbjaddooaaGreatDoor

namespace Go.Proofs.YteheahbjaddooaaGreatDoor
set_option linter.unusedSimpArgs false
set_option linter.unusedVariables false
open Go Go.RowKit
abbrev wCo (n:Nat) (w:Wld):List PV:=[.c (eEnts w.over.base),.c (eMarkss w.over.layers),.c (eMarks w.over.upper),I w.clock,I w.count,.c (eLeases w.leases),.own 4 w.holds.length,.own 5 w.floors.length,.own n w.net.length,B w.waits,I w.op.kind,.c (CS w.op.path),.c (CS w.op.dest),.c (CS w.op.data)]
abbrev wAn (n:Nat) (w:Wld):PV := .agg (wCo n w)
abbrev wMn (n:Nat) (w:Wld):XM:=[(4,.row (w.holds.map eHolds) 1 56),(5,.row (w.floors.map CI) 1 3),(n,.row (w.net.map eMsg) 9 55)]
abbrev zWB:XB := .box [.nil,.nil,.nil,I 0,I 0,.nil,.nil,.nil,.nil,B false,I 0,.c (CS []),.c (CS []),.c (CS [])]
theorem KeepS.nilF {k0:List Nat} {m:XM} (A:Fr) (t0:Nat) (h0:lkX A t0=some .nil):KeepS k0 A m ((t0,.c (.row []))::A) m:=fun W0 F K hA hK=>by
 intro w0 κ0 m0 N κ act w hk0 hr
 refine ⟨κ,_,_,⟨hr.mw,hr.start,hr.low0,hr.s0,hr.size,hr.defers,fun t x hx=>?_⟩,hK⟩
 rw [lk_cons] at hx
 split at hx
 ·rename_i h
  subst h
  cases hx
  have h1:lk F t=some .nil:=by rw [← hA t,← lkX_eq]; exact h0
  obtain ⟨q1,q2⟩:=hr.tmps t _ h1
  obtain ⟨o,ho⟩:=(show Rep1 κ (Go.Proofs.YteheahbjaddooaaGreatDoor.er m) w .nil (act.tmps.getD t undef) from q2)
  exact ⟨q1,by rw [ho]; exact RepC.nil (Nat.zero_le _)⟩
 ·exact hr.tmps t x (by rw [← hA t]; exact hx)
theorem sendW_lt {w:Wld} {m:Msg} (h:w.net.length < 12):sendW w m={ w with net:=w.net++[m] }:=by unfold sendW; rw [if_pos h]
theorem sendW_ge {w:Wld} {m:Msg} (h:12≤w.net.length):sendW w m=w:=by unfold sendW; rw [if_neg (by omega)]
theorem sendW_len {w:Wld} {m:Msg} (h:w.net.length≤1000):(sendW w m).net.length≤1000:=by
 unfold sendW; split
 ·simp; omega
 ·exact h
theorem xrow1 {α:Type} {f:α→CV} {t:List α} {x:α} {n e:Nat}:XB.row (t.map f++[f x]) n e = .row ((t++[x]).map f) n e:=by rw [List.map_append]; rfl
theorem xown1 {α:Type} {t:List α} {x:α} {n:Nat}:PV.own n (t.length+1) = .own n (t++[x]).length:=by simp
def c_spec_l5Send:XC:=(.s (.r [.ex 2 (.box 0),.ex 3 (.box 1),.ex 4 (.alloc [.nil,.nil,.nil,(I 0),(I 0),.nil,.nil,.nil,.nil,(B false),(I 0),sE,sE,sE])]) (.s (.s (.r [.f1 5 8 2,.l1 6 1 5,.ex 7 (.len false 6),.b1 8 .lss 7 (.i 12)]) (.cnd 8 (.r [.f1 9 8 2,.l1 10 1 9,.l2 11 9 3,.ex 12 (.bsl 9 55 [11]),.ex 13 (.app false 9 96 55 10 12),.f1 14 8 2,.nu (.st 1 14 13)]) .skip)) (.s (.r [.l2 15 14 2,.nu (.st 14 4 15)]) .ret)))
theorem c_spec_l5Send_eq:compF Tryz.prog [] 114=some (c_spec_l5Send.ac,[(.cell 4 true 14)],16):=by kernel_rfl
theorem f_l5Send (W0:World) (w:Wld) (m:Msg) (h:w.net.length≤1000):FunW Tryz.prog W0 114 [wAn 6 w,.c (eMsg m)] (wMn 6 w) (fun _:Unit=>True) (fun _=>wAn 6 (sendW w m)) (fun _=>wMn 6 (sendW w m)):=by
 refine funW (c:=c_spec_l5Send) mixed c_spec_l5Send_eq (by simp) rfl rfl fun hg=>?_
 refine dr ?_
 refine cP (fun h1=>?_) (fun h1=>?_)
 ·rw [sendW_lt (by omega)]
  refine dr ?_
  repeat ((first | refine oB (by simp) ?_ | refine oB (by simp; omega) ?_); first | refine dr ?_ | exact dz)
  refine ⟨none,_,_,?_,(),trivial,rfl,rfl⟩
  refine dr ?_
  repeat ((first | refine oB (congrArg (fun y=>PV.agg [.c (eEnts w.over.base),.c (eMarkss w.over.layers),.c (eMarks w.over.upper),I w.clock,I w.count,.c (eLeases w.leases),.own 4 w.holds.length,.own 5 w.floors.length,y,B w.waits,I w.op.kind,.c (CS w.op.path),.c (CS w.op.dest),.c (CS w.op.data)]) xown1) ?_ | refine oB xrow1 ?_); first | refine dr ?_ | exact dz)
  trivial
 ·rw [sendW_ge (by omega)]
  refine dr ?_
  repeat (refine oB (by simp) ?_; first | refine dr ?_ | exact dz)
  refine ⟨none,_,_,?_,(),trivial,rfl,rfl⟩
  refine dr ?_
  repeat (refine oB (by simp) ?_; first | refine dr ?_ | exact dz)
  trivial
def c_spec_l5Recall:XC:=(.s (.r [.ex 2 (.box 0),.ex 4 (.alloc [.nil,.nil,.nil,(I 0),(I 0),.nil,.nil,.nil,.nil,(B false),(I 0),sE,sE,sE])]) (.s (.s (.r [.m1 5 (.i 0)]) (.blk 0 (.loop (.s (.s (.r [.mv 6 5,.mv 7 1,.ex 8 (.len false 7),.b1 9 .lss 6 8]) (.cnd 9 .skip (.exit 0))) (.s (.blk 1 (.d [.l2 12 14 2,.mv 13 1,.mv 14 5,.ex 15 (.ia 4 13 14),.f1 16 0 15,.l1 17 1 16,.mv 18 1,.mv 19 5,.ex 20 (.ia 4 18 19),.f1 21 1 20,.l1 22 1 21,.f1 23 4 2,.l1 24 1 23,.ex 25 (.build [sE,(B false),sE,(B false),sE,(I 0),(I 0)] [(0,(1,22)),(5,(1,24))]),.ex 26 (.build [(I 0),(I 0),sE,(B false),sE,(B false),sE,(I 0),(I 0)] [(0,(1,(.i 3))),(1,(1,17)),(2,(7,25))]),.ex 27 (.opn 114 [12,26]),.nu (.st 14 2 27)])) (.r [.mv 10 5,.b1 11 .add 10 (.i 1),.mv 5 11])))))) (.s (.r [.l2 28 14 2,.nu (.st 14 4 28)]) .ret)))
theorem c_spec_l5Recall_eq:compF Tryz.prog [114] 175=some (c_spec_l5Recall.ac,[(.cell 4 true 14)],29):=by kernel_rfl
theorem recallW_next {w:Wld} {b:List Lease} {k:Nat} (h:k < b.length):recallW w (b.take (k+1))=sendW (recallW w (b.take k)) (rclM w.count b[k]):=by
 have e:(recallW w (b.take k)).count=w.count:=recallW_same.2.2.1
 unfold recallW at e ⊢
 rw [fold_next h,e]
theorem f_l5Recall (W0:World) (w:Wld) (b:List Lease) (h:w.net.length≤1000) (hb:b.length≤1000000):FunW Tryz.prog W0 175 [wAn 6 w,.c (eLeases b)] (wMn 6 w) (fun _:Unit=>True) (fun _=>wAn 6 (recallW w b)) (fun _=>wMn 6 (recallW w b)):=by
 refine funW (c:=c_spec_l5Recall) mixed c_spec_l5Recall_eq (by simp) rfl rfl fun hg=>?_
 refine dr ?_
 refine lp2 (fun (k:Nat) (x:Wld)=>[(1,.c (eLeases b)),(2,.ptr 32 0),(4,.ptr 64 0),(5,I k)]) (fun _ x=>[(32,.box (wCo 6 x)),(64,zWB)]++wMn 6 x) (fun k x=>k≤b.length∧x=recallW w (b.take k)∧x.net.length≤1000) (fun k _=>b.length - k) 0 w ⟨by omega,rfl,h⟩ ?_ ?_
 ·refine dr ?_
  trivial
 rintro k x ⟨hk,hx,hn⟩
 refine dr ?_
 refine cP (fun h1=>?_) (fun h1=>?_)
 ·have hk':k < b.length:=by omega
  have hc:x.count=w.count:=by rw [hx]; exact recallW_same.2.2.1
  refine dr ?_
  refine oW (f_l5Send W0 x (rclM x.count b[k]) hn) rfl ⟨rfl,rfl,rfl,trivial⟩ rfl rfl ⟨(),trivial⟩ fun _ _=>⟨rfl,?_⟩
  refine dEr ?_
  refine ⟨k+1,sendW x (rclM x.count b[k]),⟨by omega,by rw [recallW_next hk',← hx,hc],sendW_len hn⟩,by omega,?_⟩
  refine dr ?_
  trivial
 ·have hkl:k=b.length:=by omega
  rw [hkl,List.take_length] at hx
  rw [← hx]
  refine dr ?_
  refine ⟨none,_,_,?_,(),trivial,rfl,rfl⟩
  refine dr ?_
  trivial
def c_spec_l5In:XC:=(.s (.r [.m1 4 .n]) (.s (.s (.r [.m1 5 (.i 0)]) (.blk 0 (.loop (.s (.s (.r [.mv 6 5,.mv 7 0,.ex 8 (.len false 7),.b1 9 .lss 6 8]) (.cnd 9 .skip (.exit 0))) (.s (.blk 1 (.s (.r [.mv 12 0,.mv 13 5,.ex 14 (.ia 1 12 13),.l1 15 1 14,.mv 16 1,.b1 17 .eql 15 16]) (.cnd 17 (.s (.r [.m1 4 .y]) .ret) .skip))) (.r [.mv 10 5,.b1 11 .add 10 (.i 1),.mv 5 11])))))) (.s (.r [.m1 4 .n]) .ret)))
theorem c_spec_l5In_eq:compF Tryz.prog [] 209=some (c_spec_l5In.ac,[(.t 4)],18):=by kernel_rfl
theorem f_l5In (W0:World) (l:List Str) (p:Str) (hl:l.length≤1000000):Fn Tryz.prog W0 209 [eStrs l,CS p] (.c (CB (l.contains p))) []:=by
 refine fnX (c:=c_spec_l5In) mixed c_spec_l5In_eq (by simp) rfl fun hg=>?_
 refine dr ?_
 refine lp (σ:=Nat) (fun k=>[(0,.c (eStrs l)),(1,.c (CS p)),(5,I k)]) (fun _=>[]) (fun k=>k≤l.length∧p ∉ l.take k) (fun k=>l.length - k) 0 ⟨by omega,by simp⟩ ?_ ?_
 ·refine dr ?_
  trivial
 rintro k ⟨hk,hA⟩
 refine dr ?_
 refine cP (fun h1=>?_) (fun h1=>?_)
 ·have hk':k < l.length:=by omega
  refine dr ?_
  refine cP (fun h2=>?_) (fun h2=>?_)
  ·refine dr ?_
   exact bT (by rw [List.contains_eq_mem,decide_eq_true_iff,← h2]; exact List.getElem_mem hk')
  ·refine dr ?_
   refine ⟨k+1,⟨by omega,fun hl=>?_⟩,by omega,?_⟩
   ·rw [List.take_succ_eq_append_getElem hk'] at hl
    rcases List.mem_append.1 hl with h' | h'
    ·exact hA h'
    ·rw [List.mem_singleton] at h'; exact h2 h'.symm
   refine dr ?_
   trivial
 ·have hkl:k=l.length:=by omega
  rw [hkl,List.take_length] at hA
  refine dr ?_
  exact bF (by rw [List.contains_eq_mem,decide_eq_false_iff_not]; exact hA)
theorem turnsW_len {w:Wld} {op:Op}:(turnsW w op).length≤1000:=by
 unfold turnsW
 split
 ·refine Nat.le_trans turned_len ?_
  have h1:=@view_len w.over
  have h2:=@treeDo_len (vwG w.over) op
  have h3:(vwG w.over).length≤16:=h1
  omega
 ·simp
def c_spec_l5Turns:XC:=(.s (.r [.ex 2 (.box 0),.ex 3 (.box 1),.ex 4 (.asn (.k .nil) 1 9)]) (.s (.r [.f1 10 0 2,.l2 11 3 10,.c1 12 69 [11],.mv 9 12,.ex 13 (.ext 9 0),.ex 14 (.ext 9 1),.ex 5 (.asn 13 3 39),.mv 6 14]) (.s (.r [.mv 16 5,.l2 17 4 3,.c1 18 107 [16,17],.mv 15 18,.ex 19 (.ext 15 0),.ex 20 (.ext 15 1),.ex 7 (.asn 19 3 39),.mv 8 20]) (.s (.s (.r [.mv 21 8,.b1 22 .neq 21 (.i 0)]) (.cnd 22 (.s (.r [.ex 23 .bsl0,.ex 4 (.asn 23 1 9)]) .ret) .skip)) (.s (.r [.mv 24 5,.mv 25 7,.c1 26 120 [24,25],.ex 4 (.asn 26 1 9)]) .ret)))))
theorem c_spec_l5Turns_eq:compF Tryz.prog [] 208=some (c_spec_l5Turns.ac,[(.t 4)],27):=by kernel_rfl
theorem f_l5TurnsW (W0:World) (w:Wld) (op:Op):FunW Tryz.prog W0 208 [wAn 6 w,.c (eOp op)] (wMn 6 w) (fun _:Unit=>True) (fun _ => .c (eStrs (turnsW w op))) (fun _=>wMn 6 w):=by
 refine funW (c:=c_spec_l5Turns) mixed c_spec_l5Turns_eq (by simp) rfl rfl fun hg=>?_
 have hv:=f_l4View W0 w.over
 rw [eEntsO_eq] at hv
 have hvl:=@view_len w.over
 have e:turnsW w op=if (treeDo ((view4 w.over).getD []) op).2=0 then turned ((view4 w.over).getD []) (treeDo ((view4 w.over).getD []) op).1 else []:=rfl
 rw [e]
 clear e
 generalize (view4 w.over).getD []=t at *
 have hd:=f_spec_TreeDo W0 t op
 have hdl:=@treeDo_len t op
 have ht:=f_l2Turned W0 t (treeDo t op).1 (by omega)
 generalize treeDo t op=r at *
 refine dEr ?_
 repeat ((first | refine c0 hv rfl ?_ | refine c0 hd rfl ?_); first | refine dEr ?_ | exact dz)
 refine cP (fun h1=>?_) (fun h1=>?_)
 ·rw [if_neg h1]
  refine dr ?_
  repeat (refine oB (by simp) ?_; first | refine dr ?_ | exact dz)
  refine ⟨some 3,_,_,?_,(),trivial,rfl,rfl⟩
  refine KeepS.trans (z:=none) (KeepS.nilF _ 0 rfl) ?_
  refine dr ?_
  repeat (refine oB (by simp) ?_; first | refine dr ?_ | exact dz)
  trivial
 ·rw [if_pos h1]
  refine dEr ?_
  repeat (refine c0 ht rfl ?_; first | refine dEr ?_ | exact dz)
  refine ⟨none,_,_,?_,(),trivial,rfl,rfl⟩
  refine dr ?_
  repeat (refine oB (by simp) ?_; first | refine dr ?_ | exact dz)
  trivial
theorem barsW_def {w:Wld} {op:Op}:barsW w op=w.leases.filter (fun l=>decide (w.clock < l.til)&&(turnsW w op).contains l.path):=rfl
def c_l5BarsW:XC:=(.s (.r [.ex 2 (.box 0),.ex 3 (.box 1),.ex 4 (.asn (.k .nil) 4 72)]) (.s (.r [.ex 8 .bsl0,.ex 5 (.asn 8 4 72)]) (.s (.r [.l2 9 14 2,.l2 10 4 3,.ex 11 (.opn 208 [9,10]),.ex 6 (.asn 11 1 9)]) (.s (.s (.r [.m1 7 (.i 0)]) (.blk 0 (.loop (.s (.s (.r [.mv 12 7,.f1 13 5 2,.l1 14 1 13,.ex 15 (.len false 14),.b1 16 .lss 12 15]) (.cnd 16 .skip (.exit 0))) (.s (.blk 1 (.s (.d [.f1 19 3 2,.l1 20 1 19,.f1 21 5 2,.l1 22 1 21,.mv 23 7,.ex 24 (.ia 4 22 23),.f1 25 3 24,.l1 26 1 25,.b1 27 .lss 20 26,.mv 28 27,.gt 29 (.mv 6) 28,.gt 30 (.fa 5 2) 28,.gt 31 (.ld false 1 30) 28,.gt 32 (.mv 7) 28,.gt 33 (.ia 4 31 32) 28,.gt 34 (.fa 1 33) 28,.gt 35 (.ld false 1 34) 28,.gt 36 (.call 209 [29,35]) 28,.ex 37 (.pick 28 36 .n)]) (.cnd 37 (.r [.mv 38 5,.f1 39 5 2,.l1 40 1 39,.mv 41 7,.ex 42 (.ia 4 40 41),.l2 43 4 42,.ex 44 (.bsl 4 72 [43]),.ex 45 (.app false 4 40 72 38 44),.ex 5 (.asn 45 4 72)]) .skip))) (.r [.mv 17 7,.b1 18 .add 17 (.i 1),.mv 7 18])))))) (.s (.r [.mv 46 5,.ex 4 (.asn 46 4 72)]) .ret)))))
theorem c_l5BarsW_eq:compF Tryz.prog [208] 174=some (c_l5BarsW.ac,[(.t 4)],47):=by kernel_rfl
theorem f_l5BarsW (W0:World) (w:Wld) (op:Op) (hl:w.leases.length≤1000000):FunW Tryz.prog W0 174 [wAn 6 w,.c (eOp op)] (wMn 6 w) (fun _:Unit=>True) (fun _ => .c (eLeases (barsW w op))) (fun _=>wMn 6 w):=by
 refine funW (c:=c_l5BarsW) mixed c_l5BarsW_eq (by simp) rfl rfl fun hg=>?_
 have ht:=f_l5TurnsW W0 w op
 have htl:=@turnsW_len w op
 rw [barsW_def]
 generalize turnsW w op=ts at *
 refine dr ?_
 refine oW ht rfl ⟨rfl,rfl,rfl,trivial⟩ rfl rfl ⟨(),trivial⟩ fun _ _=>⟨rfl,?_⟩
 refine dEr ?_
 refine lp2 (fun (k:Nat) (out:List Lease)=>[(2,.ptr 32 0),(5,.own 80 out.length),(6,.c (eStrs ts)),(7,I k)]) (fun _ out=>[(32,.box (wCo 6 w)),(80,.row (out.map eLease) 4 72)]++wMn 6 w) (fun k out=>k≤w.leases.length∧out=(w.leases.take k).filter (fun l=>decide (w.clock < l.til)&&ts.contains l.path)∧out.length≤k) (fun k _=>w.leases.length - k) 0 [] ⟨by simp,rfl,by simp⟩ ?_ ?_
 ·refine dr ?_
  trivial
 rintro k out ⟨hk,ho,hle⟩
 refine dr ?_
 refine cP (fun h1=>?_) (fun h1=>?_)
 ·have hk':k < w.leases.length:=by omega
  refine dr ?_
  refine cP (fun h2=>?_) (fun h2=>?_)
  ·refine dEr ?_
   repeat (refine c0 (f_l5In W0 ts _ (by omega)) rfl ?_; first | refine dEr ?_ | exact dz)
   refine cP (fun h3=>?_) (fun h3=>?_)
   ·refine dr ?_
    repeat ((first | refine oB (by simp; omega) ?_ | refine oB (by simp) ?_); first | refine dr ?_ | exact dz)
    refine ⟨k+1,out++[w.leases[k]],⟨by omega,by rw [filt_t hk' (by rw [decide_eq_true h2,h3]<;>rfl),ho],by simp; omega⟩,by omega,?_⟩
    refine dr ?_
    repeat (refine oB (by simp<;>rfl) ?_; first | refine dr ?_ | exact dz)
    trivial
   ·refine dr ?_
    refine ⟨k+1,out,⟨by omega,by rw [filt_f hk' (by rw [h3,Bool.and_false]),ho],by omega⟩,by omega,?_⟩
    refine dr ?_
    trivial
  ·refine dr ?_
   refine ⟨k+1,out,⟨by omega,by rw [filt_f hk' (by rw [decide_eq_false (by omega),Bool.false_and]),ho],by omega⟩,by omega,?_⟩
   refine dr ?_
   trivial
 have hkl:k=w.leases.length:=by omega
 rw [hkl,List.take_length] at ho
 rw [← ho]
 refine dr ?_
 repeat (refine oB (by simp) ?_; first | refine dr ?_ | exact dz)
 refine ⟨some 80,_,_,?_,(),trivial,rfl,rfl⟩
 refine dr ?_
 repeat (refine oB (by simp<;>rfl) ?_; first | refine dr ?_ | exact dz)
 trivial
end Go.Proofs.YteheahbjaddooaaGreatDoor

namespace Go.Proofs.YteheahbjaddooaaGreatDoor
set_option linter.unusedSimpArgs false
set_option linter.unusedVariables false
open Go Go.RowKit
def c_spec_l5Write:XC:=(.s (.r [.ex 2 (.box 0),.ex 3 (.box 1),.ex 4 (.alloc [.nil,.nil,.nil,(I 0),(I 0),.nil,.nil,.nil,.nil,(B false),(I 0),sE,sE,sE]),.m1 5 (.i 0)]) (.s (.r [.f1 12 0 2,.l2 13 3 12,.c1 14 69 [13],.mv 11 14,.ex 15 (.ext 11 0),.ex 16 (.ext 11 1),.ex 6 (.asn 15 3 39),.mv 7 16]) (.s (.r [.mv 18 6,.l2 19 4 3,.c1 20 107 [18,19],.mv 17 20,.ex 21 (.ext 17 0),.ex 22 (.ext 17 1),.ex 8 (.asn 21 3 39),.mv 9 22]) (.s (.s (.r [.f1 23 9 2,.l1 24 1 23]) (.cnd 24 (.s (.r [.l2 25 14 2,.nu (.st 14 4 25),.m1 5 (.i 21)]) .ret) .skip)) (.s (.s (.r [.mv 26 9,.b1 27 .neq 26 (.i 0)]) (.cnd 27 (.s (.r [.l2 28 14 2,.mv 29 9,.nu (.st 14 4 28),.mv 5 29]) .ret) .skip)) (.s (.r [.l2 30 14 2,.l2 31 4 3,.ex 32 (.opn 174 [30,31]),.ex 10 (.asn 32 4 72)]) (.s (.s (.r [.mv 33 10,.ex 34 (.len false 33),.b1 35 .gtr 34 (.i 0)]) (.cnd 35 (.s (.r [.f1 36 9 2,.nu (.st 1 36 .y)]) (.s (.r [.l2 37 4 3,.f1 38 10 2,.nu (.st 4 38 37)]) (.s (.r [.l2 39 14 2,.mv 40 10,.ex 41 (.opn 175 [39,40]),.nu (.st 14 4 41),.m1 5 (.i 20)]) .ret))) .skip)) (.s (.r [.f1 43 0 2,.l2 44 3 43,.l2 45 4 3,.c1 46 93 [44,45],.mv 42 46,.ex 47 (.ext 42 0),.ex 48 (.ext 42 1),.f1 49 0 2,.nu (.st 3 49 47)]) (.s (.r [.l2 50 14 2,.nu (.st 14 4 50),.m1 5 (.i 0)]) .ret)))))))))
theorem c_spec_l5Write_eq:compF Tryz.prog [174,175] 115=some (c_spec_l5Write.ac,[(.cell 4 true 14),(.t 5)],51):=by kernel_rfl
theorem vw_of {w:Wld} (h:WG w):view4 w.over=some (vwG w.over):=by
 obtain ⟨t,g⟩:=h.og
 exact g.vw
theorem f_l5Write (W0:World) (w:Wld) (op:Op) (h:WG w) (hl:w.leases.length≤1000000):FunW Tryz.prog W0 115 [wAn 6 w,.c (eOp op)] (wMn 6 w) (fun _:Unit=>True) (fun _ => .tup [wAn 6 (writeW w op).1,.c (CI (writeW w op).2)]) (fun _=>wMn 6 (writeW w op).1):=by
 refine funW (c:=c_spec_l5Write) mixed c_spec_l5Write_eq (by simp) rfl rfl fun hg=>?_
 have hv:=f_l4View W0 w.over
 rw [vw_of h] at hv
 have hd:=f_spec_TreeDo W0 (vwG w.over) op
 have hn:w.net.length≤1000:=by have:=h.pl.nl; omega
 have hb:=f_l5BarsW W0 w op hl
 have hbl:(barsW w op).length≤1000000:=Nat.le_trans (List.length_filter_le _ _) hl
 have ho:=f_spec_OverDo W0 w.over op
 have hw:writeW w op=if w.waits=true then (w,21) else if (treeDo (vwG w.over) op).2≠0 then (w,(treeDo (vwG w.over) op).2)
  else if barsW w op≠[] then (recallW { w with waits:=true,op:=op } (barsW w op),20)
  else ({ w with over:=(oDo w.over op).1 },0):=rfl
 rw [hw]
 generalize hb2:barsW w op=b at *
 generalize treeDo (vwG w.over) op=r at *
 generalize oDo w.over op=o2 at *
 refine dEr ?_
 repeat ((first | refine c0 hv rfl ?_ | refine c0 hd rfl ?_); first | refine dEr ?_ | exact dz)
 refine cP (fun h1=>?_) (fun h1=>?_)
 ·rw [if_pos h1]
  refine dr ?_
  refine ⟨none,_,_,?_,(),trivial,rfl,rfl⟩
  refine dr ?_
  trivial
 rw [if_neg (by simp [h1])]
 refine dr ?_
 refine cP (fun h2=>?_) (fun h2=>?_)
 ·rw [if_pos h2]
  refine dr ?_
  refine ⟨none,_,_,?_,(),trivial,rfl,rfl⟩
  refine dr ?_
  trivial
 rw [if_neg (fun hh=>hh h2)]
 refine dr ?_
 refine oW hb rfl ⟨rfl,rfl,rfl,trivial⟩ rfl rfl ⟨(),trivial⟩ fun _ _=>⟨rfl,?_⟩
 refine dEr ?_
 refine cP (fun h3=>?_) (fun h3=>?_)
 ·rw [if_pos (by rintro rfl; simp at h3)]
  refine dr ?_
  refine oW (f_l5Recall W0 { w with waits:=true,op:=op } b hn hbl) rfl ⟨rfl,rfl,rfl,trivial⟩ rfl rfl ⟨(),trivial⟩ fun _ _=>⟨rfl,?_⟩
  refine dEr ?_
  refine ⟨none,_,_,?_,(),trivial,rfl,rfl⟩
  refine dr ?_
  trivial
 ·have hb0:b=[]:=List.eq_nil_of_length_eq_zero (by omega)
  rw [if_neg (by simp [hb0])]
  refine dEr ?_
  repeat (refine c0 ho rfl ?_; first | refine dEr ?_ | exact dz)
  refine ⟨none,_,_,?_,(),trivial,rfl,rfl⟩
  refine dr ?_
  trivial
def c_spec_l5Try:XC:=(.s (.r [.ex 1 (.box 0),.ex 2 (.alloc [.nil,.nil,.nil,(I 0),(I 0),.nil,.nil,.nil,.nil,(B false),(I 0),sE,sE,sE]),.m1 3 (.i 0)]) (.s (.s (.r [.f1 5 9 1,.l1 6 1 5,.ex 7 (.un .not 6)]) (.cnd 7 (.s (.r [.l2 8 14 1,.nu (.st 14 2 8),.m1 3 (.i 22)]) .ret) .skip)) (.s (.r [.l2 9 14 1,.f1 10 10 1,.l2 11 4 10,.ex 12 (.opn 174 [9,11]),.ex 4 (.asn 12 4 72)]) (.s (.s (.r [.mv 13 4,.ex 14 (.len false 13),.b1 15 .gtr 14 (.i 0)]) (.cnd 15 (.s (.r [.l2 16 14 1,.mv 17 4,.ex 18 (.opn 175 [16,17]),.nu (.st 14 2 18),.m1 3 (.i 20)]) .ret) .skip)) (.s (.r [.f1 20 0 1,.l2 21 3 20,.f1 22 10 1,.l2 23 4 22,.c1 24 93 [21,23],.mv 19 24,.ex 25 (.ext 19 0),.ex 26 (.ext 19 1),.f1 27 0 1,.nu (.st 3 27 25)]) (.s (.r [.f1 28 9 1,.nu (.st 1 28 .n)]) (.s (.r [.ex 29 (.build [(I 0),sE,sE,sE] []),.f1 30 10 1,.nu (.st 4 30 29)]) (.s (.r [.l2 31 14 1,.nu (.st 14 2 31),.m1 3 (.i 0)]) .ret))))))))
theorem c_spec_l5Try_eq:compF Tryz.prog [174,175] 116=some (c_spec_l5Try.ac,[(.cell 2 true 14),(.t 3)],32):=by kernel_rfl
theorem f_l5Try (W0:World) (w:Wld) (h:WG w) (hl:w.leases.length≤1000000):FunW Tryz.prog W0 116 [wAn 6 w] (wMn 6 w) (fun _:Unit=>True) (fun _ => .tup [wAn 6 (tryW w).1,.c (CI (tryW w).2)]) (fun _=>wMn 6 (tryW w).1):=by
 refine funW (c:=c_spec_l5Try) mixed c_spec_l5Try_eq (by simp) rfl rfl fun hg=>?_
 have hn:w.net.length≤1000:=by have:=h.pl.nl; omega
 have hb:=f_l5BarsW W0 w w.op hl
 have hbl:(barsW w w.op).length≤1000000:=Nat.le_trans (List.length_filter_le _ _) hl
 have ho:=f_spec_OverDo W0 w.over w.op
 have hw:tryW w=if w.waits=false then (w,22) else if barsW w w.op≠[] then (recallW w (barsW w w.op),20)
  else ({ w with over:=(oDo w.over w.op).1,waits:=false,op:=noOp },0):=rfl
 rw [hw]
 generalize hb2:barsW w w.op=b at *
 generalize oDo w.over w.op=o2 at *
 refine dr ?_
 refine cP (fun h1=>?_) (fun h1=>?_)
 ·rw [if_pos h1]
  refine dr ?_
  refine ⟨none,_,_,?_,(),trivial,rfl,rfl⟩
  refine dr ?_
  trivial
 rw [if_neg (by simp [h1])]
 refine dr ?_
 refine oW hb rfl ⟨rfl,rfl,rfl,trivial⟩ rfl rfl ⟨(),trivial⟩ fun _ _=>⟨rfl,?_⟩
 refine dEr ?_
 refine cP (fun h3=>?_) (fun h3=>?_)
 ·rw [if_pos (by rintro rfl; simp at h3)]
  refine dr ?_
  refine oW (f_l5Recall W0 w b hn hbl) rfl ⟨rfl,rfl,rfl,trivial⟩ rfl rfl ⟨(),trivial⟩ fun _ _=>⟨rfl,?_⟩
  refine dEr ?_
  refine ⟨none,_,_,?_,(),trivial,rfl,rfl⟩
  refine dr ?_
  trivial
 ·have hb0:b=[]:=List.eq_nil_of_length_eq_zero (by omega)
  rw [if_neg (by simp [hb0])]
  refine dEr ?_
  repeat (refine c0 ho rfl ?_; first | refine dEr ?_ | exact dz)
  refine ⟨none,_,_,?_,(),trivial,rfl,rfl⟩
  refine dr ?_
  trivial
theorem offL_def {l:List Lease} {who:Int} {p:Str} {num:Int}:offL l who p num=l.filter fun x=>!(x.who==who&&(x.path==p&&decide (x.num≤num))):=rfl
def c_spec_l5Off:XC:=(.s (.r [.ex 8 (.asn (.k .nil) 4 72)]) (.s (.r [.ex 11 .bsl0,.ex 9 (.asn 11 4 72)]) (.s (.s (.r [.m1 10 (.i 0)]) (.blk 0 (.loop (.s (.s (.r [.mv 12 10,.mv 13 0,.ex 14 (.len false 13),.b1 15 .lss 12 14]) (.cnd 15 .skip (.exit 0))) (.s (.blk 1 (.s (.r [.mv 18 0,.mv 19 10,.ex 20 (.ia 4 18 19),.f1 21 0 20,.l1 22 1 21,.mv 23 1,.b1 24 .neq 22 23,.mv 25 24,.gf 26 (.mv 0) 25,.gf 27 (.mv 10) 25,.gf 28 (.ia 4 26 27) 25,.gf 29 (.fa 1 28) 25,.gf 30 (.ld false 1 29) 25,.gf 31 (.mv 2) 25,.gf 32 (.bin .neq 30 31) 25,.ex 33 (.pick 25 .y 32),.mv 34 33,.gf 35 (.mv 0) 34,.gf 36 (.mv 10) 34,.gf 37 (.ia 4 35 36) 34,.gf 38 (.fa 2 37) 34,.gf 39 (.ld false 1 38) 34,.gf 40 (.mv 3) 34,.gf 41 (.bin .gtr 39 40) 34,.ex 42 (.pick 34 .y 41)]) (.cnd 42 (.r [.mv 43 9,.mv 44 0,.mv 45 10,.ex 46 (.ia 4 44 45),.l2 47 4 46,.ex 48 (.bsl 4 72 [47]),.ex 49 (.app false 4 40 72 43 48),.ex 9 (.asn 49 4 72)]) .skip))) (.r [.mv 16 10,.b1 17 .add 16 (.i 1),.mv 10 17])))))) (.s (.r [.mv 50 9,.ex 8 (.asn 50 4 72)]) .ret))))
theorem c_spec_l5Off_eq:compF Tryz.prog [] 213=some (c_spec_l5Off.ac,[(.t 8)],51):=by kernel_rfl
theorem f_l5Off (W0:World) (l:List Lease) (who:Int) (p:Str) (num:Int) (hl:l.length≤1000000):Fn Tryz.prog W0 213 [eLeases l,CI who,CS p,CI num] (.c (eLeases (offL l who p num))) []:=by
 refine fnX (c:=c_spec_l5Off) mixed c_spec_l5Off_eq (by simp) rfl fun hg=>?_
 refine dr ?_
 refine lp2 (fun (k:Nat) (out:List Lease)=>[(0,.c (eLeases l)),(1,.c (CI who)),(2,.c (CS p)),(3,.c (CI num)),(9,.own 144 out.length),(10,I k)]) (fun _ out=>[(144,.row (out.map eLease) 4 72)]) (fun k out=>k≤l.length∧out=(l.take k).filter (fun x=>!(x.who==who&&(x.path==p&&decide (x.num≤num))))∧out.length≤k) (fun k _=>l.length - k) 0 [] ⟨by simp,rfl,by simp⟩ ?_ ?_
 ·refine dr ?_
  trivial
 rintro k out ⟨hk,ho,hle⟩
 refine dr ?_
 refine cP (fun h1=>?_) (fun h1=>?_)
 ·have hk':k < l.length:=by omega
  have keep:(!(l[k].who==who&&(l[k].path==p&&decide (l[k].num≤num))))=true→out++[l[k]]=(l.take (k+1)).filter (fun x=>!(x.who==who&&(x.path==p&&decide (x.num≤num)))):=fun h=>by rw [filt_t hk' h,ho]
  refine dr ?_
  refine cP (fun h2=>?_) (fun h2=>?_)
  ·refine dr ?_
   repeat ((first | refine oB (by simp; omega) ?_ | refine oB (by simp) ?_); first | refine dr ?_ | exact dz)
   refine ⟨k+1,out++[l[k]],⟨by omega,keep (by simp [h2]),by simp; omega⟩,by omega,?_⟩
   refine dr ?_
   repeat (refine oB (by simp<;>rfl) ?_; first | refine dr ?_ | exact dz)
   trivial
  refine dr ?_
  refine cP (fun h3=>?_) (fun h3=>?_)
  ·refine dr ?_
   repeat ((first | refine oB (by simp; omega) ?_ | refine oB (by simp) ?_); first | refine dr ?_ | exact dz)
   refine ⟨k+1,out++[l[k]],⟨by omega,keep (by simp [h3]),by simp; omega⟩,by omega,?_⟩
   refine dr ?_
   repeat (refine oB (by simp<;>rfl) ?_; first | refine dr ?_ | exact dz)
   trivial
  refine dr ?_
  refine cP (fun h4=>?_) (fun h4=>?_)
  ·refine dr ?_
   repeat ((first | refine oB (by simp; omega) ?_ | refine oB (by simp) ?_); first | refine dr ?_ | exact dz)
   refine ⟨k+1,out++[l[k]],⟨by omega,keep (by simp; omega),by simp; omega⟩,by omega,?_⟩
   refine dr ?_
   repeat (refine oB (by simp<;>rfl) ?_; first | refine dr ?_ | exact dz)
   trivial
  ·refine dr ?_
   refine ⟨k+1,out,⟨by omega,by rw [filt_f hk' (by simp [h2,h3]; omega),ho],by omega⟩,by omega,?_⟩
   refine dr ?_
   trivial
 have hkl:k=l.length:=by omega
 rw [hkl,List.take_length] at ho
 rw [offL_def,← ho]
 refine dr ?_
 repeat (refine oB (by simp) ?_; first | refine dr ?_ | exact dz)
 rfl
theorem f_l5OffW0 (W0:World) (l:List Lease) (who:Int) (p:Str) (num:Int) (hl:l.length≤1000000):FunW Tryz.prog W0 213 [.c (eLeases l),.c (CI who),.c (CS p),.c (CI num)] [] (fun _:Unit=>True) (fun _ => .own 144 (offL l who p num).length) (fun _=>[(144,.row ((offL l who p num).map eLease) 4 72)]):=by
 refine funW (c:=c_spec_l5Off) mixed c_spec_l5Off_eq (by simp) rfl rfl fun hg=>?_
 refine dr ?_
 refine lp2 (fun (k:Nat) (out:List Lease)=>[(0,.c (eLeases l)),(1,.c (CI who)),(2,.c (CS p)),(3,.c (CI num)),(9,.own 144 out.length),(10,I k)]) (fun _ out=>[(144,.row (out.map eLease) 4 72)]) (fun k out=>k≤l.length∧out=(l.take k).filter (fun x=>!(x.who==who&&(x.path==p&&decide (x.num≤num))))∧out.length≤k) (fun k _=>l.length - k) 0 [] ⟨by simp,rfl,by simp⟩ ?_ ?_
 ·refine dr ?_
  trivial
 rintro k out ⟨hk,ho,hle⟩
 refine dr ?_
 refine cP (fun h1=>?_) (fun h1=>?_)
 ·have hk':k < l.length:=by omega
  have keep:(!(l[k].who==who&&(l[k].path==p&&decide (l[k].num≤num))))=true→out++[l[k]]=(l.take (k+1)).filter (fun x=>!(x.who==who&&(x.path==p&&decide (x.num≤num)))):=fun h=>by rw [filt_t hk' h,ho]
  refine dr ?_
  refine cP (fun h2=>?_) (fun h2=>?_)
  ·refine dr ?_
   repeat ((first | refine oB (by simp; omega) ?_ | refine oB (by simp) ?_); first | refine dr ?_ | exact dz)
   refine ⟨k+1,out++[l[k]],⟨by omega,keep (by simp [h2]),by simp; omega⟩,by omega,?_⟩
   refine dr ?_
   repeat (refine oB (by simp<;>rfl) ?_; first | refine dr ?_ | exact dz)
   trivial
  refine dr ?_
  refine cP (fun h3=>?_) (fun h3=>?_)
  ·refine dr ?_
   repeat ((first | refine oB (by simp; omega) ?_ | refine oB (by simp) ?_); first | refine dr ?_ | exact dz)
   refine ⟨k+1,out++[l[k]],⟨by omega,keep (by simp [h3]),by simp; omega⟩,by omega,?_⟩
   refine dr ?_
   repeat (refine oB (by simp<;>rfl) ?_; first | refine dr ?_ | exact dz)
   trivial
  refine dr ?_
  refine cP (fun h4=>?_) (fun h4=>?_)
  ·refine dr ?_
   repeat ((first | refine oB (by simp; omega) ?_ | refine oB (by simp) ?_); first | refine dr ?_ | exact dz)
   refine ⟨k+1,out++[l[k]],⟨by omega,keep (by simp; omega),by simp; omega⟩,by omega,?_⟩
   refine dr ?_
   repeat (refine oB (by simp<;>rfl) ?_; first | refine dr ?_ | exact dz)
   trivial
  ·refine dr ?_
   refine ⟨k+1,out,⟨by omega,by rw [filt_f hk' (by simp [h2,h3]; omega),ho],by omega⟩,by omega,?_⟩
   refine dr ?_
   trivial
 have hkl:k=l.length:=by omega
 rw [hkl,List.take_length] at ho
 rw [offL_def,← ho]
 refine dr ?_
 refine ⟨none,_,_,?_,(),trivial,rfl,rfl⟩
 refine dr ?_
 trivial
theorem f_l5OffW (W0:World) (l:List Lease) (who:Int) (p:Str) (num:Int) (hl:l.length≤1000000):FunW Tryz.prog W0 213 [.c (eLeases l),.c (CI who),.c (CS p),.c (CI num)] [] (fun _:Unit=>True) (fun _ => .own 7 (offL l who p num).length) (fun _=>[(7,.row ((offL l who p num).map eLease) 4 72)]):=(f_l5OffW0 W0 l who p num hl).swp 144 7
def c_spec_l5Tick:XC:=(.s (.r [.ex 1 (.box 0),.ex 2 (.alloc [.nil,.nil,.nil,(I 0),(I 0),.nil,.nil,.nil,.nil,(B false),(I 0),sE,sE,sE])]) (.s (.s (.r [.f1 5 3 1,.l1 6 1 5,.b1 7 .lss 6 (.i 10000)]) (.cnd 7 (.r [.f1 8 3 1,.l1 9 1 8,.b1 10 .add 9 (.i 1),.f1 11 3 1,.nu (.st 1 11 10)]) .skip)) (.s (.r [.ex 12 .bsl0,.ex 3 (.asn 12 4 72)]) (.s (.s (.r [.m1 4 (.i 0)]) (.blk 0 (.loop (.s (.s (.r [.mv 13 4,.f1 14 5 1,.l1 15 1 14,.ex 16 (.len false 15),.b1 17 .lss 13 16]) (.cnd 17 .skip (.exit 0))) (.s (.blk 1 (.s (.d [.f1 20 3 1,.l1 21 1 20,.f1 22 5 1,.l1 23 1 22,.mv 24 4,.ex 25 (.ia 4 23 24),.f1 26 3 25,.l1 27 1 26,.b1 28 .lss 21 27]) (.cnd 28 (.r [.mv 29 3,.f1 30 5 1,.l1 31 1 30,.mv 32 4,.ex 33 (.ia 4 31 32),.l2 34 4 33,.ex 35 (.bsl 4 72 [34]),.ex 36 (.app false 4 40 72 29 35),.ex 3 (.asn 36 4 72)]) .skip))) (.r [.mv 18 4,.b1 19 .add 18 (.i 1),.mv 4 19])))))) (.s (.r [.mv 37 3,.f1 38 5 1,.nu (.st 1 38 37)]) (.s (.r [.l2 39 14 1,.nu (.st 14 2 39)]) .ret))))))
theorem c_spec_l5Tick_eq:compF Tryz.prog [] 117=some (c_spec_l5Tick.ac,[(.cell 2 true 14)],40):=by kernel_rfl
theorem f_l5Tick (W0:World) (w:Wld) (h:WG w) (hl:w.leases.length≤1000000):FunW Tryz.prog W0 117 [wAn 6 w] (wMn 6 w) (fun _:Unit=>True) (fun _=>wAn 6 (tickW w)) (fun _=>wMn 6 (tickW w)):=by
 refine funW (c:=c_spec_l5Tick) mixed c_spec_l5Tick_eq (by simp) rfl rfl fun hg=>?_
 have hc:=h.pl.ck
 have e0:tickW w={ w with clock:=tickC w,leases:=w.leases.filter fun l=>decide (tickC w < l.til) }:=rfl
 refine dr ?_
 refine cP (fun h1=>?_) (fun h1=>?_)
 ·have e1:tickC w=w.clock+1:=by unfold tickC; rw [if_pos (by omega)]
  rw [e0,e1]
  clear e0 e1
  refine dr ?_
  refine lp2 (fun (k:Nat) (out:List Lease)=>[(1,.ptr 16 0),(2,.ptr 32 0),(3,.own 48 out.length),(4,I k)]) (fun _ out=>[(16,.box (wCo 6 { w with clock:=w.clock+1 })),(32,zWB),(48,.row (out.map eLease) 4 72)]++wMn 6 w) (fun k out=>k≤w.leases.length∧out=(w.leases.take k).filter (fun l=>decide (w.clock+1 < l.til))∧out.length≤k) (fun k _=>w.leases.length - k) 0 [] ⟨by simp,rfl,by simp⟩ ?_ ?_
  ·refine dr ?_
   trivial
  rintro k out ⟨hk,ho,hle⟩
  refine dr ?_
  refine cP (fun h2=>?_) (fun h2=>?_)
  ·have hk':k < w.leases.length:=by have:(k:Int) < (w.leases.length:Int):=h2; omega
   refine dr ?_
   refine cP (fun h3=>?_) (fun h3=>?_)
   ·refine dr ?_
    repeat ((first | refine oB (by simp; omega) ?_ | refine oB (by simp) ?_); first | refine dr ?_ | exact dz)
    refine ⟨k+1,out++[w.leases[k]],⟨by omega,by rw [filt_t hk' (decide_eq_true h3),ho],by simp; omega⟩,by omega,?_⟩
    refine dr ?_
    repeat (refine oB (by simp<;>rfl) ?_; first | refine dr ?_ | exact dz)
    trivial
   ·refine dr ?_
    refine ⟨k+1,out,⟨by omega,by rw [filt_f hk' (decide_eq_false (Int.not_lt.2 h3)),ho],by omega⟩,by omega,?_⟩
    refine dr ?_
    trivial
  have hkl:k=w.leases.length:=by have:(w.leases.length:Int)≤(k:Int):=h2; omega
  rw [hkl,List.take_length] at ho
  rw [← ho]
  refine dr ?_
  refine ⟨some 48,_,_,?_,(),trivial,rfl,rfl⟩
  refine dr ?_
  repeat (refine oB (by simp<;>rfl) ?_; first | refine dr ?_ | exact dz)
  trivial
 ·have e1:tickC w=w.clock:=by unfold tickC; rw [if_neg (by omega)]
  rw [e0,e1]
  clear e0 e1
  refine dr ?_
  refine lp2 (fun (k:Nat) (out:List Lease)=>[(1,.ptr 16 0),(2,.ptr 32 0),(3,.own 48 out.length),(4,I k)]) (fun _ out=>[(16,.box (wCo 6 w)),(32,zWB),(48,.row (out.map eLease) 4 72)]++wMn 6 w) (fun k out=>k≤w.leases.length∧out=(w.leases.take k).filter (fun l=>decide (w.clock < l.til))∧out.length≤k) (fun k _=>w.leases.length - k) 0 [] ⟨by simp,rfl,by simp⟩ ?_ ?_
  ·refine dr ?_
   trivial
  rintro k out ⟨hk,ho,hle⟩
  refine dr ?_
  refine cP (fun h2=>?_) (fun h2=>?_)
  ·have hk':k < w.leases.length:=by have:(k:Int) < (w.leases.length:Int):=h2; omega
   refine dr ?_
   refine cP (fun h3=>?_) (fun h3=>?_)
   ·refine dr ?_
    repeat ((first | refine oB (by simp; omega) ?_ | refine oB (by simp) ?_); first | refine dr ?_ | exact dz)
    refine ⟨k+1,out++[w.leases[k]],⟨by omega,by rw [filt_t hk' (decide_eq_true h3),ho],by simp; omega⟩,by omega,?_⟩
    refine dr ?_
    repeat (refine oB (by simp<;>rfl) ?_; first | refine dr ?_ | exact dz)
    trivial
   ·refine dr ?_
    refine ⟨k+1,out,⟨by omega,by rw [filt_f hk' (decide_eq_false (Int.not_lt.2 h3)),ho],by omega⟩,by omega,?_⟩
    refine dr ?_
    trivial
  have hkl:k=w.leases.length:=by have:(w.leases.length:Int)≤(k:Int):=h2; omega
  rw [hkl,List.take_length] at ho
  rw [← ho]
  refine dr ?_
  refine ⟨some 48,_,_,?_,(),trivial,rfl,rfl⟩
  refine dr ?_
  repeat (refine oB (by simp<;>rfl) ?_; first | refine dr ?_ | exact dz)
  trivial
def c_spec_l5Take:XC:=(.s (.r [.ex 3 (.box 1),.ex 4 (.asn (.k .nil) 7 53)]) (.s (.r [.ex 7 .bsl0,.ex 5 (.asn 7 7 53)]) (.s (.s (.r [.m1 6 (.i 0)]) (.blk 0 (.loop (.s (.s (.r [.mv 8 6,.mv 9 0,.ex 10 (.len false 9),.b1 11 .lss 8 10]) (.cnd 11 .skip (.exit 0))) (.s (.blk 1 (.s (.s (.d [.mv 14 0,.mv 15 6,.ex 16 (.ia 7 14 15),.f1 17 0 16,.l1 18 1 17,.f1 19 0 3,.l1 20 1 19,.b1 21 .eql 18 20,.mv 22 21,.gt 23 (.mv 0) 22,.gt 24 (.mv 6) 22,.gt 25 (.ia 7 23 24) 22,.gt 26 (.fa 5 25) 22,.gt 27 (.ld false 1 26) 22,.gt 28 (.fa 5 3) 22,.gt 29 (.ld false 1 28) 22,.gt 30 (.bin .geq 27 29) 22,.ex 31 (.pick 22 30 .n)]) (.cnd 31 (.s (.r [.mv 32 0,.ex 4 (.asn 32 7 53)]) .ret) .skip)) (.s (.d [.mv 33 0,.mv 34 6,.ex 35 (.ia 7 33 34),.f1 36 0 35,.l1 37 1 36,.f1 38 0 3,.l1 39 1 38,.b1 40 .neq 37 39]) (.cnd 40 (.r [.mv 41 5,.mv 42 0,.mv 43 6,.ex 44 (.ia 7 42 43),.l2 45 7 44,.ex 46 (.bsl 7 53 [45]),.ex 47 (.app false 7 80 53 41 46),.ex 5 (.asn 47 7 53)]) .skip)))) (.r [.mv 12 6,.b1 13 .add 12 (.i 1),.mv 6 13])))))) (.s (.r [.mv 48 5,.l2 49 7 3,.ex 50 (.bsl 7 53 [49]),.ex 51 (.app false 7 80 53 48 50),.ex 4 (.asn 51 7 53)]) .ret))))
theorem c_spec_l5Take_eq:compF Tryz.prog [] 211=some (c_spec_l5Take.ac,[(.t 4)],52):=by kernel_rfl
theorem takeH_yes {l:List Hold} {h:Hold} {k:Nat} (hk:k < l.length) (h1:l[k].path=h.path) (h2:h.num≤l[k].num):takeH l h=l:=by
 unfold takeH
 rw [if_pos]
 rw [List.any_eq_true]
 exact ⟨l[k],List.getElem_mem hk,by simp [h1,h2]⟩
theorem takeH_no {l:List Hold} {h:Hold} (hn:∀ x∈l,¬ (x.path=h.path∧h.num≤x.num)):takeH l h=(l.filter fun x=>x.path != h.path)++[h]:=by
 unfold takeH
 rw [if_neg]
 rw [List.any_eq_true]
 rintro ⟨x,hx,h2⟩
 simp only [Bool.and_eq_true,beq_iff_eq,decide_eq_true_eq] at h2
 exact hn x hx h2
theorem f_l5Take (W0:World) (l:List Hold) (h:Hold) (hl:l.length≤1000000):Fn Tryz.prog W0 211 [eHolds l,eHold h] (.c (eHolds (takeH l h))) []:=by
 refine fnX (c:=c_spec_l5Take) mixed c_spec_l5Take_eq (by simp) rfl fun hg=>?_
 refine dr ?_
 refine lp2 (fun (k:Nat) (out:List Hold)=>[(0,.c (eHolds l)),(3,.ptr 48 0),(5,.own 80 out.length),(6,I k)]) (fun _ out=>[(48,.box (hCs h)),(80,.row (out.map eHold) 7 53)]) (fun k out=>k≤l.length∧out=(l.take k).filter (fun x=>x.path != h.path)∧out.length≤k∧∀ x∈l.take k,¬ (x.path=h.path∧h.num≤x.num)) (fun k _=>l.length - k) 0 [] ⟨by simp,rfl,by simp,by simp⟩ ?_ ?_
 ·refine dr ?_
  trivial
 rintro k out ⟨hk,ho,hle,hA⟩
 refine dr ?_
 refine cP (fun h1=>?_) (fun h1=>?_)
 ·have hk':k < l.length:=by omega
  have next:¬ (l[k].path=h.path∧h.num≤l[k].num)→∀ x∈l.take (k+1),¬ (x.path=h.path∧h.num≤x.num):=fun hh x hx=>by
   rw [List.take_succ_eq_append_getElem hk'] at hx
   rcases List.mem_append.1 hx with h' | h'
   ·exact hA x h'
   ·rw [List.mem_singleton.1 h']; exact hh
  refine dr ?_
  refine cP (fun h2=>?_) (fun h2=>?_)
  ·refine dr ?_
   refine cP (fun h3=>?_) (fun h3=>?_)
   ·refine dr ?_
    rw [takeH_yes hk' h2 h3]<;>rfl
   refine dr ?_
   refine cP (fun h4=>?_) (fun h4=>?_)
   ·exact absurd h2 h4
   refine dr ?_
   refine ⟨k+1,out,⟨by omega,by rw [filt_f hk' (by simp [h2]),ho],by omega,next (by omega)⟩,by omega,?_⟩
   refine dr ?_
   trivial
  refine dr ?_
  refine cP (fun h4=>?_) (fun h4=>?_)
  ·refine dr ?_
   repeat ((first | refine oB (by simp; omega) ?_ | refine oB (by simp) ?_); first | refine dr ?_ | exact dz)
   refine ⟨k+1,out++[l[k]],⟨by omega,by rw [filt_t hk' (by simp [h2]),ho],by simp; omega,next fun hh=>h2 hh.1⟩,by omega,?_⟩
   refine dr ?_
   repeat (refine oB (by simp<;>rfl) ?_; first | refine dr ?_ | exact dz)
   trivial
  ·exact absurd h4 h2
 have hkl:k=l.length:=by omega
 rw [hkl,List.take_length] at ho hA
 rw [takeH_no hA,← ho]
 refine dr ?_
 repeat ((first | refine oB (by simp; omega) ?_ | refine oB (by simp) ?_); first | refine dr ?_ | exact dz)
 simp [eHolds]
 rfl
def c_spec_l5Leave:XC:=(.s (.r [.ex 6 (.asn (.k .nil) 7 53)]) (.s (.r [.ex 9 .bsl0,.ex 7 (.asn 9 7 53)]) (.s (.s (.r [.m1 8 (.i 0)]) (.blk 0 (.loop (.s (.s (.r [.mv 10 8,.mv 11 0,.ex 12 (.len false 11),.b1 13 .lss 10 12]) (.cnd 13 .skip (.exit 0))) (.s (.blk 1 (.s (.r [.mv 16 0,.mv 17 8,.ex 18 (.ia 7 16 17),.f1 19 0 18,.l1 20 1 19,.mv 21 1,.b1 22 .neq 20 21,.mv 23 22,.gf 24 (.mv 0) 23,.gf 25 (.mv 8) 23,.gf 26 (.ia 7 24 25) 23,.gf 27 (.fa 5 26) 23,.gf 28 (.ld false 1 27) 23,.gf 29 (.mv 2) 23,.gf 30 (.bin .gtr 28 29) 23,.ex 31 (.pick 23 .y 30)]) (.cnd 31 (.r [.mv 32 7,.mv 33 0,.mv 34 8,.ex 35 (.ia 7 33 34),.l2 36 7 35,.ex 37 (.bsl 7 53 [36]),.ex 38 (.app false 7 80 53 32 37),.ex 7 (.asn 38 7 53)]) .skip))) (.r [.mv 14 8,.b1 15 .add 14 (.i 1),.mv 8 15])))))) (.s (.r [.mv 39 7,.ex 6 (.asn 39 7 53)]) .ret))))
theorem c_spec_l5Leave_eq:compF Tryz.prog [] 212=some (c_spec_l5Leave.ac,[(.t 6)],40):=by kernel_rfl
theorem leaveH_def {l:List Hold} {p:Str} {n:Int}:leaveH l p n=l.filter fun x=>!(x.path==p&&decide (x.num≤n)):=rfl
theorem f_l5Leave (W0:World) (l:List Hold) (p:Str) (n:Int) (hl:l.length≤1000000):Fn Tryz.prog W0 212 [eHolds l,CS p,CI n] (.c (eHolds (leaveH l p n))) []:=by
 refine fnX (c:=c_spec_l5Leave) mixed c_spec_l5Leave_eq (by simp) rfl fun hg=>?_
 refine dr ?_
 refine lp2 (fun (k:Nat) (out:List Hold)=>[(0,.c (eHolds l)),(1,.c (CS p)),(2,.c (CI n)),(7,.own 112 out.length),(8,I k)]) (fun _ out=>[(112,.row (out.map eHold) 7 53)]) (fun k out=>k≤l.length∧out=(l.take k).filter (fun x=>!(x.path==p&&decide (x.num≤n)))∧out.length≤k) (fun k _=>l.length - k) 0 [] ⟨by simp,rfl,by simp⟩ ?_ ?_
 ·refine dr ?_
  trivial
 rintro k out ⟨hk,ho,hle⟩
 refine dr ?_
 refine cP (fun h1=>?_) (fun h1=>?_)
 ·have hk':k < l.length:=by omega
  have keep:(!(l[k].path==p&&decide (l[k].num≤n)))=true→out++[l[k]]=(l.take (k+1)).filter (fun x=>!(x.path==p&&decide (x.num≤n))):=fun h=>by rw [filt_t hk' h,ho]
  refine dr ?_
  refine cP (fun h2=>?_) (fun h2=>?_)
  ·refine dr ?_
   repeat ((first | refine oB (by simp; omega) ?_ | refine oB (by simp) ?_); first | refine dr ?_ | exact dz)
   refine ⟨k+1,out++[l[k]],⟨by omega,keep (by simp [h2]),by simp; omega⟩,by omega,?_⟩
   refine dr ?_
   repeat (refine oB (by simp<;>rfl) ?_; first | refine dr ?_ | exact dz)
   trivial
  refine dr ?_
  refine cP (fun h3=>?_) (fun h3=>?_)
  ·refine dr ?_
   repeat ((first | refine oB (by simp; omega) ?_ | refine oB (by simp) ?_); first | refine dr ?_ | exact dz)
   refine ⟨k+1,out++[l[k]],⟨by omega,keep (by simp; omega),by simp; omega⟩,by omega,?_⟩
   refine dr ?_
   repeat (refine oB (by simp<;>rfl) ?_; first | refine dr ?_ | exact dz)
   trivial
  ·refine dr ?_
   refine ⟨k+1,out,⟨by omega,by rw [filt_f hk' (by simp [h2]; omega),ho],by omega⟩,by omega,?_⟩
   refine dr ?_
   trivial
 have hkl:k=l.length:=by omega
 rw [hkl,List.take_length] at ho
 rw [leaveH_def,← ho]
 refine dr ?_
 repeat (refine oB (by simp) ?_; first | refine dr ?_ | exact dz)
 rfl
def c_spec_l1Max:XC:=(.s (.r [.m1 4 (.i 0)]) (.s (.s (.r [.mv 5 0,.mv 6 1,.b1 7 .gtr 5 6]) (.cnd 7 (.s (.r [.mv 8 0,.mv 4 8]) .ret) .skip)) (.s (.r [.mv 9 1,.mv 4 9]) .ret)))
theorem c_spec_l1Max_eq:compF Tryz.prog [] 113=some (c_spec_l1Max.ac,[(.t 4)],10):=by kernel_rfl
theorem f_l1Max (W0:World) (a b:Int):Fn Tryz.prog W0 113 [CI a,CI b] (.c (CI (maxI a b))) []:=by
 refine fnX (c:=c_spec_l1Max) mixed c_spec_l1Max_eq (by simp) rfl fun hg=>?_
 refine dr ?_
 refine cP (fun h1=>?_) (fun h1=>?_)
 ·refine dr ?_
  unfold maxI; rw [if_pos (by omega)]
 ·refine dr ?_
  unfold maxI; rw [if_neg (by omega)]
end Go.Proofs.YteheahbjaddooaaGreatDoor

namespace Go.Proofs.YteheahbjaddooaaGreatDoor
set_option linter.unusedSimpArgs false
set_option linter.unusedVariables false
open Go Go.RowKit
section
variable {w x:Wld}
theorem wRead_so {who:Int} {p:Str} {r:Ent × Bool} (h:wRead w who p=some r):WG w∧isW who∧pOk p=true∧(get (vwG w.over) p).getD noE=r.1∧(get (vwG w.over) p).isSome=r.2:=by
 unfold wRead at h
 split at h
 ·rename_i hh
  obtain ⟨hw,hi⟩:=hh
  obtain ⟨y,hy,rfl⟩:=Option.map_eq_some_iff.1 h
  have h1:=List.find?_some hy
  simp only [Bool.and_eq_true,beq_iff_eq,decide_eq_true_eq] at h1
  have h2:=List.mem_of_find?_eq_some hy
  obtain ⟨i,hi3,hiw⟩:=isW_nat hi
  rw [hiw] at h2
  obtain ⟨a,_,_,d⟩:=(hw.hd i hi3).g y h2
  obtain ⟨_,_,e,f,_⟩:=d h1.2
  rw [h1.1] at a e f
  exact ⟨hw,hi,a,f,e⟩
 ·cases h
theorem take_take {l:List Hold} {h:Hold}:takeH (takeH l h) h=takeH l h:=by
 have:(takeH l h).any (fun x=>x.path==h.path&&decide (h.num≤x.num))=true:=by
  unfold takeH
  split
  ·assumption
  ·simp
 generalize takeH l h=l' at *
 unfold takeH
 rw [if_pos this]
theorem hdW_eq {w:Wld} {L:List (List Hold)} {f:List Int} {n:List Msg} {ls:List Lease} {k:Int} {a:List Hold} (hk:isW k) (hl:w.holds.length=3) (e:L=w.holds.set k.toNat a):hdW { w with holds:=L,floors:=f,net:=n,leases:=ls } k=a:=by
 unfold hdW
 subst e
 have:=hk.1; have:=hk.2
 simp only [List.getD,List.getElem?_set]
 rw [if_pos trivial,if_pos (by omega)]; rfl
theorem flW_eq {w:Wld} {L:List (List Hold)} {f:List Int} {n:List Msg} {k:Int} {a:Int} (hk:isW k) (hl:w.floors.length=3) (e:f=w.floors.set k.toNat a):flW { w with holds:=L,floors:=f,net:=n } k=a:=by
 unfold flW
 subst e
 have:=hk.1; have:=hk.2
 simp only [List.getD,List.getElem?_set]
 rw [if_pos trivial,if_pos (by omega)]; rfl
structure Later (w x:Wld):Prop where
 g:WG x
 o:x.over=w.over
 wt:x.waits=w.waits
 op:x.op=w.op
 h:x.holds=w.holds
 l:∀ l∈x.leases,l∈w.leases∧(x.clock=w.clock∨x.clock < l.til)
theorem Later.refl (h:WG w):Later w w:=⟨h,rfl,rfl,rfl,rfl,fun l hl=>⟨hl,.inl rfl⟩⟩
theorem Later.tick (h:Later w x):Later w (tickW x) :=
 ⟨h.g.tick,h.o,h.wt,h.op,h.h,fun l hl=>⟨(h.l l (List.mem_filter.1 hl).1).1,.inr (of_decide_eq_true (List.mem_filter.1 hl).2)⟩⟩
theorem Later.bars (h:Later w x) {op:Op}:∀ l∈barsW x op,l∈barsW w op∨w.clock < x.clock∨x.clock < w.clock:=fun l hl=>by
 obtain ⟨h1,h2,h3⟩:=bars_mem.1 hl
 by_cases hc:x.clock=w.clock
 ·left
  refine bars_mem.2 ⟨(h.l l h1).1,by omega,?_⟩
  unfold turnsW at h3 ⊢; rw [h.o] at h3; exact h3
 ·right; omega
theorem Later.none (h:Later w x) {late:Int} (h1:∀ l∈barsW w w.op,l.til≤late) (h2:x.clock=late) (h3:w.clock≤late):barsW x x.op=[]:=by
 cases hb:barsW x x.op with
 | nil=>rfl
 | cons l r =>
  exfalso
  obtain ⟨g1,g2,g3⟩:=bars_mem.1 (show l∈barsW x x.op by rw [hb]; simp)
  have hm:=(h.l l g1).1
  have:l∈barsW w w.op:=by
   refine bars_mem.2 ⟨hm,by omega,?_⟩
   unfold turnsW at g3 ⊢; rw [h.o,h.op] at g3; exact g3
  have:=h1 l this
  omega
end
end Go.Proofs.YteheahbjaddooaaGreatDoor

namespace Go.Proofs.YteheahbjaddooaaGreatDoor
set_option linter.unusedSimpArgs false
set_option linter.unusedVariables false
open Go Go.RowKit
def giveE (k:Int):Ev:=⟨5,0,[],noOp,k⟩
def copyE (k:Int):Ev:=⟨7,0,[],noOp,k⟩
section
variable {w:Wld}
theorem send_room {m:Msg} (h:w.net.length < 12):sendW w m={ w with net:=w.net++[m] }:=by unfold sendW; rw [if_pos h]
theorem give_eq {k:Nat} (h:k < w.net.length):evW w (giveE k)=(comeW { w with net:=w.net.eraseIdx k } (w.net.getD k noMs),0):=by
 unfold evW giveE
 rw [if_neg (by simp),if_neg (by simp),if_neg (by simp),if_neg (by simp),if_pos (by simp)]
 unfold netW
 rw [if_neg (by simp; omega),if_neg (by simp),if_pos rfl]
 simp
theorem copy_eq {k:Nat} (h:k < w.net.length) (h2:w.net.length < 12):evW w (copyE k)=({ w with net:=w.net++[w.net.getD k noMs] },0):=by
 unfold evW copyE
 rw [if_neg (by simp),if_neg (by simp),if_neg (by simp),if_neg (by simp),if_pos (by simp)]
 unfold netW
 rw [if_neg (by simp; omega),if_pos rfl]
 simp only
 rw [send_room h2]; simp
theorem at_end {a:List Msg} {m:Msg} {r:List Msg}:(a++m::r).getD a.length noMs=m∧(a++m::r).eraseIdx a.length=a++r:=by
 constructor
 ·simp [List.getD]
 ·rw [List.eraseIdx_append_of_length_le (Nat.le_refl _)]; simp
def heldW (w:Wld) (who:Int) (p:Str):Wld:=comeW (grantL w who p) (grantM w who p)
structure GO (w:Wld) (who:Int) (p:Str):Prop where
 g:WG w
 iw:isW who
 pth:pOk p=true
 wt:w.waits=false
 ct:w.count < 10000
variable {who:Int} {p:Str}
theorem hdW_at {x:Wld} {L:List (List Hold)} {k:Int} {a:List Hold} (hk:isW k) (hl:L.length=3) (e:x.holds=L.set k.toNat a):hdW x k=a:=by
 unfold hdW
 rw [e]
 have:=hk.1; have:=hk.2
 simp only [List.getD,List.getElem?_set]
 rw [if_pos trivial,if_pos (by omega)]; rfl
theorem GO.take (h:GO w who p):heldW w who p={ grantL w who p with holds:=w.holds.set who.toNat (takeH (hdW w who) (grantM w who p).hold) }:=by
 unfold heldW comeW
 rw [if_neg (by simp [grantM]),if_pos (show (grantM w who p).kind=2 from rfl)]
 have hf:=h.g.pl.fr _ (flW_mem h.iw h.g.pl.fl)
 rw [if_pos]
 ·rfl
 ·refine ⟨by show w.clock < w.clock+5; omega,?_⟩
  show flW w who < w.count+1
  omega
theorem GO.hd (h:GO w who p):hdW (heldW w who p) who=takeH (hdW w who) (grantM w who p).hold:=by
 rw [h.take]
 exact hdW_at h.iw h.g.pl.hl rfl
theorem come_net {m:Msg} {n:List Msg} (hk:m.kind=2):comeW { w with net:=n } m={ comeW w m with net:=n }:=by
 unfold comeW
 rw [if_neg (show ¬ m.kind=1 by omega),if_neg (show ¬ m.kind=1 by omega),if_pos hk,if_pos hk]
 show (if w.clock < m.hold.til∧flW w m.who < m.hold.num then _ else _)=_
 by_cases hc:w.clock < m.hold.til∧flW w m.who < m.hold.num
 ·rw [if_pos hc,if_pos hc]; rfl
 ·rw [if_neg hc,if_neg hc]
theorem GO.late (h:GO w who p) (hn:w.net.length≤8) :
  evW { grantL w who p with net:=w.net++[grantM w who p] } (copyE w.net.length)=({ grantL w who p with net:=w.net++[grantM w who p,grantM w who p] },0) ∧
  evW { grantL w who p with net:=w.net++[grantM w who p,grantM w who p] } (giveE w.net.length)=({ heldW w who p with net:=w.net++[grantM w who p] },0):=by
 constructor
 ·rw [copy_eq (by simp) (by simp; omega)]
  obtain ⟨e1,_⟩:=@at_end w.net (grantM w who p) []
  simp only [e1,List.append_assoc,List.singleton_append]
 ·rw [give_eq (by simp)]
  obtain ⟨e1,e2⟩:=@at_end w.net (grantM w who p) [grantM w who p]
  simp only [e1,e2]
  refine congrArg (·,0) ?_
  exact come_net (w:=grantL w who p) rfl
theorem wRead_no {who:Int} {p:Str} (h:∀ x∈hdW w who,x.path≠p):wRead w who p=none:=by
 unfold wRead
 split
 ·rw [List.find?_eq_none.2]
  ·rfl
  ·intro x hx
   simp [h x hx]
 ·rfl
theorem gone {x:Wld} {who:Int} {p:Str} {m g:Msg} {k n:Nat} (hx:WG x) (hw:isW who) (hk:k < x.net.length) (hm:x.net.getD k noMs=m) (h1:m.kind=3) (h2:m.who=who) (h3:m.hold.path=p) (h4:m.hold.num=x.count)
  (hn:n < k) (hg:x.net.getD n noMs=g) (g1:g.kind=2) (g2:g.who=who) (g3:g.hold.num≤x.count) :
  wRead (evW x (giveE k)).1 who p=none∧wRead (evW (evW x (giveE k)).1 (giveE n)).1 who p=none:=by
 have hmm:m∈x.net:=by rw [← hm]; exact getD_mem hk
 have hms:=hx.ms m hmm
 obtain ⟨i,hi,hiw⟩:=isW_nat hw
 rw [give_eq hk,hm]
 simp only
 have e:comeW { x with net:=x.net.eraseIdx k } m=sendW { x with net:=x.net.eraseIdx k,holds:=x.holds.set m.who.toNat (leaveH (hdW x m.who) m.hold.path m.hold.num),floors:=x.floors.set m.who.toNat (maxI (flW x m.who) m.hold.num) } ⟨4,m.who,m.hold⟩:=by
  unfold comeW; rw [if_neg (by omega),if_neg (by omega),if_pos h1]; rfl
 obtain ⟨s1,s2,s3,s4,s5,s6,s7,s8⟩:=@sendW_same { x with net:=x.net.eraseIdx k,holds:=x.holds.set m.who.toNat (leaveH (hdW x m.who) m.hold.path m.hold.num),floors:=x.floors.set m.who.toNat (maxI (flW x m.who) m.hold.num) } ⟨4,m.who,m.hold⟩
 rw [← e] at s1 s2 s3 s4 s5 s6 s7 s8
 have hnet:(comeW { x with net:=x.net.eraseIdx k } m).net.getD n noMs=g∧n < (comeW { x with net:=x.net.eraseIdx k } m).net.length:=by
  have hl:n < (x.net.eraseIdx k).length:=by rw [List.length_eraseIdx,if_pos hk]; omega
  have hq:(x.net.eraseIdx k).getD n noMs=g:=by
   rw [← hg]
   simp only [List.getD]
   rw [List.getElem?_eraseIdx,if_pos hn]
  rw [e]
  unfold sendW
  split
  ·refine ⟨?_,by simp; omega⟩
   simp only [List.getD] at hq ⊢
   rw [List.getElem?_append_left hl]; exact hq
  ·exact ⟨hq,hl⟩
 generalize hy:comeW { x with net:=x.net.eraseIdx k } m=y at *
 have hh:hdW y who=leaveH (hdW x who) p x.count:=by
  have:=hdW_eq (w:=x) (f:=x.floors) (n:=x.net) (ls:=x.leases) (L:=y.holds) (a:=leaveH (hdW x m.who) m.hold.path m.hold.num) hms.who hx.pl.hl s5
  rw [h2,h3,h4] at this
  unfold hdW at this ⊢; exact this
 have hf:flW y who=maxI (flW x who) x.count:=by
  have:=flW_eq (w:=x) (n:=x.net) (L:=x.holds) (f:=y.floors) (a:=maxI (flW x m.who) m.hold.num) hms.who hx.pl.fl s6
  rw [h2,h4] at this
  unfold flW at this ⊢; exact this
 have hno:∀ z∈hdW y who,z.path≠p:=fun z hz hp=>by
  rw [hh] at hz
  obtain ⟨z1,z2⟩:=mem_leave.1 hz
  have:=z2 hp
  rw [hiw] at z1
  have:=((hx.hd i hi).g z z1).2.2.1
  omega
 refine ⟨wRead_no hno,?_⟩
 rw [give_eq hnet.2,hnet.1]
 have e2:comeW { y with net:=y.net.eraseIdx n } g={ y with net:=y.net.eraseIdx n }:=by
  unfold comeW
  rw [if_neg (by omega),if_pos g1,if_neg]
  rintro ⟨_,hc⟩
  have e3:flW { y with net:=y.net.eraseIdx n } g.who=maxI (flW x who) x.count:=by rw [g2,← hf]; rfl
  rw [e3] at hc
  have:x.count≤maxI (flW x who) x.count:=by unfold maxI; split<;>omega
  omega
 simp only [e2]
 exact wRead_no hno
end
end Go.Proofs.YteheahbjaddooaaGreatDoor

namespace Go.Proofs.YteheahbjaddooaaGreatDoor
set_option linter.unusedSimpArgs false
set_option linter.unusedVariables false
open Go Go.RowKit
theorem cuts {k0:List Nat} {a:(Fr→XM→Prop)→Fr→XM→Prop} {b:Fr→XM→Prop} {F:Fr} {m:XM} {σ:Type} (fr:σ→Fr) (mm:σ→XM) (inv:σ→Prop)
  (ha:a (fun F' m'=>∃ x,inv x∧KeepX k0 (some 3) F' m' (fr x) (mm x)) F m) (hb:∀ x,inv x→b (fr x) (mm x)):CutX k0 a b F m:=⟨σ,fr,mm,inv,some 3,_,ha,fun _ _ h=>h,hb⟩
def c_spec_l5Grant:XC:=(.s (.r [.ex 3 (.box 0),.ex 6 (.alloc [.nil,.nil,.nil,(I 0),(I 0),.nil,.nil,.nil,.nil,(B false),(I 0),sE,sE,sE])]) (.s (.s (.r [.f1 12 9 3,.l1 13 1 12,.mv 14 13,.gt 15 (.ld true 14 3) 14,.gt 16 (.fa 10 3) 14,.gt 17 (.ld true 4 16) 14,.gt 18 (.opn 208 [15,17]) 14,.gt 19 (.mv 2) 14,.gt 20 (.call 209 [18,19]) 14,.ex 21 (.pick 14 20 .n),.mv 22 21,.gf 23 (.fa 4 3) 22,.gf 24 (.ld false 1 23) 22,.gf 25 (.bin .geq 24 (.i 10000)) 22,.ex 26 (.pick 22 .y 25)]) (.cnd 26 (.s (.r [.l2 27 14 3,.nu (.st 14 6 27)]) .ret) .skip)) (.s (.r [.f1 29 0 3,.l2 30 3 29,.c1 31 69 [30],.mv 28 31,.ex 32 (.ext 28 0),.ex 33 (.ext 28 1),.ex 7 (.asn 32 3 39),.mv 8 33]) (.s (.r [.mv 35 7,.mv 36 2,.c1 37 121 [35,36],.mv 34 37,.ex 38 (.ext 34 0),.ex 39 (.ext 34 1),.ex 9 (.alloc [sE,(B false),sE]),.nu (.st 3 9 38),.mv 10 39]) (.s (.r [.f1 40 4 3,.l1 41 1 40,.b1 42 .add 41 (.i 1),.f1 43 4 3,.nu (.st 1 43 42)]) (.s (.r [.f1 44 3 3,.l1 45 1 44,.b1 46 .add 45 (.i 5),.mv 11 46]) (.cut (.d [.f1 47 5 3,.exo [7] 48 (.ld false 1 47),.mv 49 1,.mv 50 2,.f1 51 4 3,.exo [7] 52 (.ld false 1 51),.exo [7] 53 (.opn 213 [48,49,50,52]),.mv 54 1,.mv 55 2,.f1 56 4 3,.exo [7] 57 (.ld false 1 56),.mv 58 11,.ex 59 (.build [(I 0),sE,(I 0),(I 0)] [(0,(1,54)),(1,(1,55)),(2,(1,57)),(3,(1,58))]),.exo [7] 60 (.bsl 4 72 [59]),.ex 61 (.app false 4 40 72 53 60),.f1 62 5 3,.nu (.st 1 62 61)]) (.s (.r [.l2 63 14 3,.mv 64 1,.mv 65 2,.mv 66 10,.l2 67 3 9,.f1 68 4 3,.l1 69 1 68,.mv 70 11,.ex 71 (.build [sE,(B false),sE,(B false),sE,(I 0),(I 0)] [(0,(1,65)),(1,(1,66)),(2,(3,67)),(5,(1,69)),(6,(1,70))]),.ex 72 (.build [(I 0),(I 0),sE,(B false),sE,(B false),sE,(I 0),(I 0)] [(0,(1,(.i 2))),(1,(1,64)),(2,(7,71))]),.ex 73 (.opn 114 [63,72]),.nu (.st 14 6 73)]) .ret))))))))
theorem c_spec_l5Grant_eq:compF Tryz.prog [208,213,114,1000007] 210=some (c_spec_l5Grant.ac,[(.cell 6 true 14)],74):=by kernel_rfl
theorem f_l5Grant (W0:World) (w:Wld) (who:Int) (p:Str) (h:WG w) (hl:w.leases.length≤1000000):FunW Tryz.prog W0 210 [wAn 6 w,.c (CI who),.c (CS p)] (wMn 6 w) (fun _:Unit=>True) (fun _=>wAn 6 (grantW w who p)) (fun _=>wMn 6 (grantW w who p)):=by
 refine funW (c:=c_spec_l5Grant) mixed c_spec_l5Grant_eq (by simp) rfl rfl fun hg=>?_
 have hv:=f_l4View W0 w.over
 rw [vw_of h] at hv
 have ht:=f_l5TurnsW W0 w w.op
 have htl:=@turnsW_len w w.op
 have hc:=h.pl.ck
 have hct:=h.pl.ct
 have hn:w.net.length≤1000:=by have:=h.pl.nl; omega
 rw [grantW_eq]
 generalize hts:turnsW w w.op=ts at *
 have hget:=f_l2Get W0 (vwG w.over) p
 rw [eEntO_eq] at hget
 have hofl:(offL w.leases who p (w.count+1)).length≤1000000:=Nat.le_trans (List.length_filter_le _ _) hl
 refine dr ?_
 refine cP (fun h1=>?_) (fun h1=>?_)
 ·refine dr ?_
  refine oW ht rfl ⟨rfl,rfl,rfl,trivial⟩ rfl rfl ⟨(),trivial⟩ fun _ _=>⟨rfl,?_⟩
  refine dEr ?_
  repeat (refine c0 (f_l5In W0 ts p (by omega)) rfl ?_; first | refine dEr ?_ | exact dz)
  refine cP (fun h2=>?_) (fun h2=>?_)
  ·rw [if_pos (.inl ⟨h1,by rw [List.contains_eq_mem,decide_eq_true_iff] at h2; exact h2⟩)]
   refine dEr ?_
   refine ⟨none,_,_,?_,(),trivial,rfl,rfl⟩
   refine dr ?_
   trivial
  have h2':p ∉ ts:=by rw [List.contains_eq_mem,decide_eq_false_iff_not] at h2; exact h2
  refine dEr ?_
  refine cP (fun h3=>?_) (fun h3=>?_)
  ·rw [if_pos (.inr h3)]
   refine dEr ?_
   refine ⟨none,_,_,?_,(),trivial,rfl,rfl⟩
   refine dr ?_
   trivial
  rw [if_neg (by rintro (⟨_,h⟩ | h); exact h2' h; omega)]
  refine dEr ?_
  repeat ((first | refine c0 hv rfl ?_ | refine c0 hget rfl ?_); first | refine dEr ?_ | exact dz)
  refine cuts (σ:=List Lease) (fun _=>[(1,.c (CI who)),(2,.c (CS p)),(3,.ptr 48 0),(6,.ptr 96 0),(9,.ptr 144 0),(10,.c (CB (get (vwG w.over) p).isSome)),(11,I (w.clock+5))])
   (fun L=>[(48,.box [.c (eEnts w.over.base),.c (eMarkss w.over.layers),.c (eMarks w.over.upper),I w.clock,I (w.count+1),.c (eLeases L),.own 4 w.holds.length,.own 5 w.floors.length,.own 6 w.net.length,B w.waits,I w.op.kind,.c (CS w.op.path),.c (CS w.op.dest),.c (CS w.op.data)]),(96,zWB),(144,.box [.c (CS ((get (vwG w.over) p).getD noE).path),B ((get (vwG w.over) p).getD noE).dir,.c (CS ((get (vwG w.over) p).getD noE).data)])]++wMn 6 w) (fun L=>L=(grantL w who p).leases) ?_ ?_
  ·refine dr ?_
   refine oW (f_l5OffW W0 w.leases who p (w.count+1) hl) rfl trivial rfl rfl ⟨(),trivial⟩ fun _ _=>⟨rfl,?_⟩
   refine dEr ?_
   repeat ((first | refine oB (by simp; omega) ?_ | refine oB (by simp) ?_); first | refine dEr ?_ | exact dz)
   refine ⟨_,rfl,?_⟩
   refine KeepX.s (z:=some 7) ?_
   refine dr ?_
   repeat ((first | refine oB (by simp [grantL,eLeases]<;>rfl) ?_ | refine oB (by simp) ?_); first | refine dr ?_ | exact dz)
   trivial
  rintro L hL
  refine dr ?_
  refine oW (f_l5Send W0 ⟨w.over,w.clock,w.count+1,L,w.holds,w.floors,w.net,w.waits,w.op⟩ (grantM w who p) hn) rfl ⟨rfl,rfl,rfl,trivial⟩ rfl rfl ⟨(),trivial⟩ fun _ _=>⟨rfl,?_⟩
  rw [show (⟨w.over,w.clock,w.count+1,L,w.holds,w.floors,w.net,w.waits,w.op⟩:Wld)=grantL w who p by rw [hL]<;>rfl]
  refine dEr ?_
  refine ⟨none,_,_,?_,(),trivial,rfl,rfl⟩
  refine dr ?_
  trivial
 ·refine dr ?_
  refine cP (fun h3=>?_) (fun h3=>?_)
  ·rw [if_pos (.inr h3)]
   refine dr ?_
   refine ⟨none,_,_,?_,(),trivial,rfl,rfl⟩
   refine dr ?_
   trivial
  rw [if_neg (by rintro (⟨h,_⟩ | h); rw [h] at h1; cases h1; omega)]
  refine dEr ?_
  repeat ((first | refine c0 hv rfl ?_ | refine c0 hget rfl ?_); first | refine dEr ?_ | exact dz)
  refine cuts (σ:=List Lease) (fun _=>[(1,.c (CI who)),(2,.c (CS p)),(3,.ptr 48 0),(6,.ptr 96 0),(9,.ptr 144 0),(10,.c (CB (get (vwG w.over) p).isSome)),(11,I (w.clock+5))])
   (fun L=>[(48,.box [.c (eEnts w.over.base),.c (eMarkss w.over.layers),.c (eMarks w.over.upper),I w.clock,I (w.count+1),.c (eLeases L),.own 4 w.holds.length,.own 5 w.floors.length,.own 6 w.net.length,B w.waits,I w.op.kind,.c (CS w.op.path),.c (CS w.op.dest),.c (CS w.op.data)]),(96,zWB),(144,.box [.c (CS ((get (vwG w.over) p).getD noE).path),B ((get (vwG w.over) p).getD noE).dir,.c (CS ((get (vwG w.over) p).getD noE).data)])]++wMn 6 w) (fun L=>L=(grantL w who p).leases) ?_ ?_
  ·refine dr ?_
   refine oW (f_l5OffW W0 w.leases who p (w.count+1) hl) rfl trivial rfl rfl ⟨(),trivial⟩ fun _ _=>⟨rfl,?_⟩
   refine dEr ?_
   repeat ((first | refine oB (by simp; omega) ?_ | refine oB (by simp) ?_); first | refine dEr ?_ | exact dz)
   refine ⟨_,rfl,?_⟩
   refine KeepX.s (z:=some 7) ?_
   refine dr ?_
   repeat ((first | refine oB (by simp [grantL,eLeases]<;>rfl) ?_ | refine oB (by simp) ?_); first | refine dr ?_ | exact dz)
   trivial
  rintro L hL
  refine dr ?_
  refine oW (f_l5Send W0 ⟨w.over,w.clock,w.count+1,L,w.holds,w.floors,w.net,w.waits,w.op⟩ (grantM w who p) hn) rfl ⟨rfl,rfl,rfl,trivial⟩ rfl rfl ⟨(),trivial⟩ fun _ _=>⟨rfl,?_⟩
  rw [show (⟨w.over,w.clock,w.count+1,L,w.holds,w.floors,w.net,w.waits,w.op⟩:Wld)=grantL w who p by rw [hL]<;>rfl]
  refine dEr ?_
  refine ⟨none,_,_,?_,(),trivial,rfl,rfl⟩
  refine dr ?_
  trivial
def c_spec_l5Come:XC:=(.s (.r [.ex 2 (.box 0),.ex 3 (.box 1),.ex 4 (.alloc [.nil,.nil,.nil,(I 0),(I 0),.nil,.nil,.nil,.nil,(B false),(I 0),sE,sE,sE])]) (.s (.r [.f1 6 2 3,.l2 7 7 6,.ex 5 (.alloc [sE,(B false),sE,(B false),sE,(I 0),(I 0)]),.nu (.st 7 5 7)]) (.s (.s (.r [.f1 8 0 3,.l1 9 1 8]) (.blk 0 (.s (.r [.b1 11 .eql 9 (.i 1),.mv 10 11]) (.cnd 10 (.s (.r [.l2 12 14 2,.f1 13 1 3,.l1 14 1 13,.f1 15 0 5,.l1 16 1 15,.ex 17 (.opn 210 [12,14,16]),.nu (.st 14 4 17)]) .ret) (.s (.r [.b1 19 .eql 9 (.i 2),.mv 18 19]) (.cnd 18 (.s (.d [.f1 20 3 2,.l1 21 1 20,.f1 22 6 5,.l1 23 1 22,.b1 24 .lss 21 23,.mv 25 24,.gt 26 (.fa 5 5) 25,.gt 27 (.ld false 1 26) 25,.gt 28 (.fa 7 2) 25,.gt 29 (.ld false 1 28) 25,.gt 30 (.fa 1 3) 25,.gt 31 (.ld false 1 30) 25,.gt 32 (.ia 1 29 31) 25,.gt 33 (.ld false 1 32) 25,.gt 34 (.bin .gtr 27 33) 25,.ex 35 (.pick 25 34 .n)]) (.cnd 35 (.d [.f1 36 6 2,.l1 37 1 36,.f1 38 1 3,.l1 39 1 38,.f1 40 6 2,.l1 41 1 40,.f1 42 1 3,.l1 43 1 42,.ex 44 (.ia 1 41 43),.l1 45 1 44,.l2 46 7 5,.c1 47 211 [45,46],.ex 48 (.ia 1 37 39),.nu (.st 1 48 47)]) .skip)) (.s (.r [.b1 50 .eql 9 (.i 3),.mv 49 50]) (.cnd 49 (.s (.d [.f1 51 6 2,.l1 52 1 51,.f1 53 1 3,.l1 54 1 53,.f1 55 6 2,.l1 56 1 55,.f1 57 1 3,.l1 58 1 57,.ex 59 (.ia 1 56 58),.l1 60 1 59,.f1 61 0 5,.l1 62 1 61,.f1 63 5 5,.l1 64 1 63,.c1 65 212 [60,62,64],.ex 66 (.ia 1 52 54),.nu (.st 1 66 65)]) (.s (.d [.f1 67 7 2,.l1 68 1 67,.f1 69 1 3,.l1 70 1 69,.f1 71 7 2,.l1 72 1 71,.f1 73 1 3,.l1 74 1 73,.ex 75 (.ia 1 72 74),.l1 76 1 75,.f1 77 5 5,.l1 78 1 77,.c1 79 113 [76,78],.ex 80 (.ia 1 68 70),.nu (.st 1 80 79)]) (.s (.r [.l2 81 14 2,.f1 82 1 3,.l1 83 1 82,.l2 84 7 5,.ex 85 (.build [(I 0),(I 0),sE,(B false),sE,(B false),sE,(I 0),(I 0)] [(0,(1,(.i 4))),(1,(1,83)),(2,(7,84))]),.ex 86 (.opn 114 [81,85]),.nu (.st 14 4 86)]) .ret))) (.s (.r [.b1 88 .eql 9 (.i 4),.mv 87 88]) (.cnd 87 (.r [.f1 89 5 2,.l1 90 1 89,.f1 91 1 3,.l1 92 1 91,.f1 93 0 5,.l1 94 1 93,.f1 95 5 5,.l1 96 1 95,.c1 97 213 [90,92,94,96],.f1 98 5 2,.nu (.st 1 98 97)]) .skip)))))))))) (.s (.r [.l2 99 14 2,.nu (.st 14 4 99)]) .ret))))
theorem c_spec_l5Come_eq:compF Tryz.prog [210,114] 176=some (c_spec_l5Come.ac,[(.cell 4 true 14)],100):=by kernel_rfl
theorem fl_at {w:Wld} {i:Nat} (h:i < w.floors.length):flW w (i:Int)=w.floors[i]:=by
 unfold flW; simp [h]
theorem hd_at {w:Wld} {i:Nat} (h:i < w.holds.length):hdW w (i:Int)=w.holds[i]:=by
 unfold hdW; simp [h]
structure HZ (n:Nat) (w:Wld):Prop where
 l:w.leases.length≤n
 h:∀ x∈w.holds,x.length≤n
theorem f_l5Come (W0:World) (w:Wld) (m:Msg) (h:WG w) (hz:HZ 1000000 w) (hw:isW m.who):FunW Tryz.prog W0 176 [wAn 6 w,.c (eMsg m)] (wMn 6 w) (fun _:Unit=>True) (fun _=>wAn 6 (comeW w m)) (fun _=>wMn 6 (comeW w m)):=by
 refine funW (c:=c_spec_l5Come) mixed c_spec_l5Come_eq (by simp) rfl rfl fun hg=>?_
 have hl:=hz.l
 have hn:w.net.length≤1000:=by have:=h.pl.nl; omega
 have h3:=h.pl.hl
 have f3:=h.pl.fl
 obtain ⟨i,hi,hwi⟩:=isW_nat hw
 obtain ⟨mk,mw,mh⟩:=m
 simp only at hwi
 subst hwi
 have hi':i < w.holds.length:=by omega
 have hi'':i < w.floors.length:=by omega
 have hzi:=hz.h _ (List.getElem_mem hi')
 refine dr ?_
 refine cP (fun k1=>?_) (fun k1=>?_)
 ·have e:comeW w ⟨mk,i,mh⟩=grantW w i mh.path:=by unfold comeW; rw [if_pos k1]
  rw [e]
  refine dr ?_
  refine oW (f_l5Grant W0 w i mh.path h hl) rfl ⟨rfl,rfl,rfl,trivial⟩ rfl rfl ⟨(),trivial⟩ fun _ _=>⟨rfl,?_⟩
  refine dEr ?_
  refine ⟨none,_,_,?_,(),trivial,rfl,rfl⟩
  refine dr ?_
  trivial
 refine dr ?_
 refine cP (fun k2=>?_) (fun k2=>?_)
 ·have e:comeW w ⟨mk,i,mh⟩=if w.clock < mh.til∧w.floors[i] < mh.num then { w with holds:=w.holds.set i (takeH w.holds[i] mh) } else w:=by
   unfold comeW; rw [if_neg k1,if_pos k2]; simp only [fl_at hi'',hd_at hi',Int.toNat_natCast]
  rw [e]
  refine dr ?_
  refine cP (fun k3=>?_) (fun k3=>?_)
  ·refine dr ?_
   refine cP (fun k4=>?_) (fun k4=>?_)
   ·rw [if_pos ⟨k3,k4⟩]
    refine dEr ?_
    repeat (refine c0 (f_l5Take W0 _ _ hzi) rfl ?_; first | refine dEr ?_ | exact dz)
    refine ⟨none,_,_,?_,(),trivial,rfl,rfl⟩
    refine dr ?_
    repeat ((first | refine oB (by simp) ?_ | refine oB (congrArg (fun L=>XB.row L 1 56) set1) ?_); first | refine dr ?_ | exact dz)
    trivial
   ·rw [if_neg (fun hh=>absurd hh.2 (Int.not_lt.2 k4))]
    refine dr ?_
    refine ⟨none,_,_,?_,(),trivial,rfl,rfl⟩
    refine dr ?_
    trivial
  ·rw [if_neg (fun hh=>absurd hh.1 (Int.not_lt.2 k3))]
   refine dr ?_
   refine ⟨none,_,_,?_,(),trivial,rfl,rfl⟩
   refine dr ?_
   trivial
 refine dr ?_
 refine cP (fun k3=>?_) (fun k3=>?_)
 ·have e:comeW w ⟨mk,i,mh⟩=sendW { w with holds:=w.holds.set i (leaveH w.holds[i] mh.path mh.num),floors:=w.floors.set i (maxI w.floors[i] mh.num) } ⟨4,i,mh⟩:=by
   unfold comeW; rw [if_neg k1,if_neg k2,if_pos k3]; simp only [fl_at hi'',hd_at hi',Int.toNat_natCast]
  rw [e]
  refine dEr ?_
  repeat ((first | refine c0 (f_l5Leave W0 _ _ _ hzi) rfl ?_ | refine c0 (f_l1Max W0 _ _) rfl ?_); first | refine dEr ?_ | exact dz)
  refine oW (f_l5Send W0 { w with holds:=w.holds.set i (leaveH w.holds[i] mh.path mh.num),floors:=w.floors.set i (maxI w.floors[i] mh.num) } ⟨4,i,mh⟩ hn) (by simp<;>rfl) ⟨congrArg some (congrArg (fun L=>XB.row L 1 56) set1),congrArg some (congrArg (fun L=>XB.row L 1 3) set1),rfl,trivial⟩ rfl rfl ⟨(),trivial⟩ fun _ _=>⟨rfl,?_⟩
  refine dEr ?_
  refine ⟨none,_,_,?_,(),trivial,rfl,rfl⟩
  refine dr ?_
  trivial
 refine dr ?_
 refine cP (fun k4=>?_) (fun k4=>?_)
 ·have e:comeW w ⟨mk,i,mh⟩={ w with leases:=offL w.leases i mh.path mh.num }:=by unfold comeW; rw [if_neg k1,if_neg k2,if_neg k3,if_pos k4]
  rw [e]
  refine dEr ?_
  repeat (refine c0 (f_l5Off W0 _ _ _ _ hl) rfl ?_; first | refine dEr ?_ | exact dz)
  refine ⟨none,_,_,?_,(),trivial,rfl,rfl⟩
  refine dr ?_
  trivial
 ·have e:comeW w ⟨mk,i,mh⟩=w:=by unfold comeW; rw [if_neg k1,if_neg k2,if_neg k3,if_neg k4]
  rw [e]
  refine dr ?_
  refine ⟨none,_,_,?_,(),trivial,rfl,rfl⟩
  refine dr ?_
  trivial
def c_spec_l5Net:XC:=(.s (.r [.ex 2 (.box 0),.ex 3 (.box 1),.ex 4 (.alloc [.nil,.nil,.nil,(I 0),(I 0),.nil,.nil,.nil,.nil,(B false),(I 0),sE,sE,sE]),.m1 5 (.i 0)]) (.s (.s (.r [.f1 7 7 3,.l1 8 1 7,.b1 9 .lss 8 (.i 0),.mv 10 9,.gf 11 (.fa 7 3) 10,.gf 12 (.ld false 1 11) 10,.gf 13 (.fa 8 2) 10,.gf 14 (.ld false 1 13) 10,.gf 15 (.len false 14) 10,.gf 16 (.bin .geq 12 15) 10,.ex 17 (.pick 10 .y 16)]) (.cnd 17 (.s (.r [.l2 18 14 2,.nu (.st 14 4 18),.m1 5 (.i 22)]) .ret) .skip)) (.s (.r [.f1 19 8 2,.l1 20 1 19,.f1 21 7 3,.l1 22 1 21,.ex 23 (.ia 9 20 22),.l2 24 9 23,.ex 6 (.alloc [(I 0),(I 0),sE,(B false),sE,(B false),sE,(I 0),(I 0)]),.nu (.st 9 6 24)]) (.cut (.s (.r [.f1 25 0 3,.l1 26 1 25,.b1 27 .eql 26 (.i 7)]) (.cnd 27 (.s (.r [.l2 28 14 2,.l2 29 9 6,.ex 30 (.opn 114 [28,29]),.nu (.st 14 4 30),.m1 5 (.i 0)]) .ret) .skip)) (.s (.d [.ex 31 .bsl0,.f1 32 8 2,.l1 33 1 32,.f1 34 7 3,.l1 35 1 34,.ex 36 (.slr 9 33 .none (.some 35)),.ex 37 (.app true 9 96 55 31 36),.f1 38 8 2,.l1 39 1 38,.f1 40 7 3,.l1 41 1 40,.b1 42 .add 41 (.i 1),.ex 43 (.slr 9 39 (.some 42) .none),.ex 44 (.app false 9 96 55 37 43),.f1 45 8 2,.nu (.st 1 45 44)]) (.s (.s (.r [.f1 46 0 3,.l1 47 1 46,.b1 48 .eql 47 (.i 5)]) (.cnd 48 (.r [.l2 49 14 2,.l2 50 9 6,.ex 51 (.opn 176 [49,50]),.nu (.st 14 2 51)]) .skip)) (.s (.r [.l2 52 14 2,.nu (.st 14 4 52),.m1 5 (.i 0)]) .ret)))))))
theorem c_spec_l5Net_eq:compF Tryz.prog [114,176] 118=some (c_spec_l5Net.ac,[(.cell 4 true 14),(.t 5)],53):=by kernel_rfl
abbrev nbN (b:Bool):Nat:=match b with
 | true=>592
 | false=>6
abbrev wMb (b:Bool) (w:Wld):XM:=match b with
 | true=>(6,.dead 9 55)::wMn 592 w
 | false=>wMn 6 w
theorem erase_map {α β:Type} {f:α→β} {l:List α} {k:Nat}:(l.take k).map f++(l.drop (k+1)).map f=(l.eraseIdx k).map f:=by
 rw [List.eraseIdx_eq_take_drop_succ,List.map_append]
theorem erase_len {α:Type} {l:List α} {k:Nat}:(l.take k).length+(l.drop (k+1)).length=(l.eraseIdx k).length:=by
 rw [List.eraseIdx_eq_take_drop_succ,List.length_append]
theorem wAn_len {w:Wld} {n L:Nat} (e:L=w.net.length):PV.agg [.c (eEnts w.over.base),.c (eMarkss w.over.layers),.c (eMarks w.over.upper),I w.clock,I w.count,.c (eLeases w.leases),.own 4 w.holds.length,.own 5 w.floors.length,.own n L,B w.waits,I w.op.kind,.c (CS w.op.path),.c (CS w.op.dest),.c (CS w.op.data)]=wAn n w:=by rw [e]
theorem f_l5Net (W0:World) (w:Wld) (ev:Ev) (h:WG w) (hz:HZ 1000000 w):FunW Tryz.prog W0 118 [wAn 6 w,.c (eEv ev)] (wMn 6 w) (fun _:Bool=>True) (fun b => .tup [wAn (nbN b) (netW w ev).1,.c (CI (netW w ev).2)]) (fun b=>wMb b (netW w ev).1):=by
 obtain ⟨ek,ew,ep,eo,pos⟩:=ev
 show FunW _ _ _ [wAn 6 w,.c (.agg [CI ek,CI ew,CS ep,CI eo.kind,CS eo.path,CS eo.dest,CS eo.data,CI pos])] _ _ _ _
 refine funW (c:=c_spec_l5Net) mixed c_spec_l5Net_eq (by simp) rfl rfl fun hg=>?_
 have hn:w.net.length≤1000:=by have:=h.pl.nl; omega
 have hw:netW w ⟨ek,ew,ep,eo,pos⟩=if pos < 0∨(w.net.length:Int)≤pos then (w,22)
  else if ek=7 then (sendW w (w.net.getD pos.toNat noMs),0)
  else if ek=5 then (comeW { w with net:=w.net.eraseIdx pos.toNat } (w.net.getD pos.toNat noMs),0)
  else ({ w with net:=w.net.eraseIdx pos.toNat },0):=rfl
 rw [hw]
 refine dr ?_
 refine cP (fun h1=>?_) (fun h1=>?_)
 ·rw [if_pos (.inl h1)]
  refine dr ?_
  refine ⟨none,_,_,?_,false,trivial,rfl,rfl⟩
  refine dr ?_
  trivial
 refine dr ?_
 refine cP (fun h2=>?_) (fun h2=>?_)
 ·rw [if_pos (.inr h2)]
  refine dr ?_
  refine ⟨none,_,_,?_,false,trivial,rfl,rfl⟩
  refine dr ?_
  trivial
 have h1':0≤pos:=h1
 have h2':pos < (w.net.length:Int):=h2
 rw [if_neg (by omega)]
 obtain ⟨k,rfl⟩:∃ k:Nat,pos=(k:Int):=⟨pos.toNat,by omega⟩
 have hk:k < w.net.length:=by omega
 have hgd:w.net.getD (k:Int).toNat noMs=w.net[k]:=by rw [Int.toNat_natCast,List.getD_eq_getElem?_getD,List.getElem?_eq_getElem hk]; rfl
 rw [hgd]
 have hms:=h.ms _ (List.getElem_mem hk)
 rw [Int.toNat_natCast]
 refine dr ?_
 refine cuts (σ:=Unit) (fun _=>[(2,.ptr 32 0),(3,.ptr 48 0),(4,.ptr 64 0),(6,.ptr 96 0)])
  (fun _=>(6,.dead 9 55)::[(32,.box [.c (eEnts w.over.base),.c (eMarkss w.over.layers),.c (eMarks w.over.upper),I w.clock,I w.count,.c (eLeases w.leases),.own 4 w.holds.length,.own 5 w.floors.length,.c (eMsgs w.net),B w.waits,I w.op.kind,.c (CS w.op.path),.c (CS w.op.dest),.c (CS w.op.data)]),
   (48,.box [I ek,I ew,.c (CS ep),I eo.kind,.c (CS eo.path),.c (CS eo.dest),.c (CS eo.data),I (k:Int)]),(64,zWB),(96,.box (mCs w.net[k])),(4,.row (w.holds.map eHolds) 1 56),(5,.row (w.floors.map CI) 1 3)]) (fun _=>ek≠7) ?_ ?_
 ·refine dr ?_
  refine cP (fun h3=>?_) (fun h3=>?_)
  ·have h3':ek=7:=h3
   rw [if_pos h3']
   refine dr ?_
   refine oW (f_l5Send W0 w w.net[k] hn) rfl ⟨rfl,rfl,rfl,trivial⟩ rfl rfl ⟨(),trivial⟩ fun _ _=>⟨rfl,?_⟩
   refine dEr ?_
   refine ⟨none,_,_,?_,false,trivial,rfl,rfl⟩
   refine dr ?_
   trivial
  ·refine dr ?_
   refine ⟨(),h3,?_⟩
   refine KeepS.give (L:=w.net.map eMsg) 6 rfl ?_
   refine dr ?_
   repeat ((first | refine oB (by simp; omega) ?_ | refine oB (by simp) ?_); first | refine dr ?_ | exact dz)
   trivial
 rintro _ h3
 rw [if_neg h3]
 refine dr ?_
 repeat ((first | refine sHiM k rfl (by omega) ?_ | refine sLoM (k+1) (by omega) (by omega) ?_ | refine oB (by simp; omega) ?_ | refine oB (by simp) ?_); first | refine dr ?_ | exact dz)
 refine cP (fun h4=>?_) (fun h4=>?_)
 ·have h4':ek=5:=h4
  rw [if_pos h4']
  have hc:=(f_l5Come W0 { w with net:=w.net.eraseIdx k } w.net[k] (h.lose k) ⟨hz.l,hz.h⟩ hms.who).swp 6 592
  refine dr ?_
  refine oW hc (congrArg (fun x=>[x,PV.c (eMsg w.net[k])]) (wAn_len (w:={ w with net:=w.net.eraseIdx k }) erase_len)) ⟨rfl,rfl,congrArg some (congrArg (fun L=>XB.row L 9 55) erase_map),trivial⟩ rfl rfl ⟨(),trivial⟩ fun _ _=>⟨rfl,?_⟩
  refine dEr ?_
  refine ⟨none,_,_,?_,true,trivial,rfl,rfl⟩
  refine dr ?_
  trivial
 ·have h4':ek≠5:=h4
  rw [if_neg h4']
  refine dr ?_
  refine ⟨none,_,_,?_,true,trivial,rfl,rfl⟩
  refine dr ?_
  repeat ((first | refine oB (congrArg (fun x=>PV.tup [x,I 0]) (wAn_len (w:={ w with net:=w.net.eraseIdx k }) erase_len)) ?_ | refine oB (congrArg (fun L=>XB.row L 9 55) erase_map) ?_); first | refine dr ?_ | exact dz)
  trivial
end Go.Proofs.YteheahbjaddooaaGreatDoor
