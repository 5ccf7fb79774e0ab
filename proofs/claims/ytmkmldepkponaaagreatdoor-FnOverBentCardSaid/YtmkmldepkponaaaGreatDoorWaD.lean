/- The texts Pb2, Pb3, Pb8, Pb9, Pb4, Pb5, Pb6, Pb7, Qz1, Db1, Pc1, Ic1, Db2, Db3, Dc1, Cm1, Dm1, Dm2, Lb1, Lc1, Lc3, Zj, joined; no condition. -/
import Derived.Test.YtmkmldepkponaaaGreatDoorWaC
import Derived.OpenShut
import Derived.Carry
import Derived.ChangeSame
import Derived.ProofKit
import Derived.Test.YtmkmldepkponaaaGreatDoorRows
import Derived.Test.YtmkmldepkponaaaGreatDoorCards
import Derived.Test.YtmkmldepkponaaaGreatDoorTie
import Derived.Deep.DeepHandedRow
import Derived.Lib.LaidTab
import Derived.Sort.Row
import Derived.JoinedOf
import Derived.JoinedCond

namespace Go.Proofs.YtmkmldepkponaaaGreatDoor
set_option linter.unusedSimpArgs false
set_option linter.unusedVariables false
open Go Go.RowKit
def zgJ:XC:=(.s (.r [.m1 2 .n]) (.s (.s (.r [.m1 3 (.i 0)]) (.blk 0 (.loop (.s (.s (.r [.mv 4 3,.mv 5 0,.ex 6 (.len true 5),.b1 7 .lss 4 6]) (.ce 7 0)) (.s (.blk 1 (.s (.r [.mv 10 0,.mv 11 3,.ex 12 (.idx 10 11),.b1 13 .lss 12 (.u 97),.mv 14 13,.h3 15 0 14,.h3 16 3 14,.gf 17 (.idx 15 16) 14,.gf 18 (.bin .gtr 17 (.u 122)) 14,.p1 19 14 18,.mv 20 19,.g3 21 0 20,.g3 22 3 20,.gt 23 (.idx 21 22) 20,.gt 24 (.bin .lss 23 (.u 48)) 20,.g3 25 24 20,.h3 26 0 25,.h3 27 3 25,.gf 28 (.idx 26 27) 25,.gf 29 (.bin .gtr 28 (.u 57)) 25,.gt 30 (.pick 25 .y 29) 20,.p2 31 20 30]) (.cnd 31 (.rf 2) .skip))) (.ic 8 9 3)))))) (.s (.r [.mv 32 0,.ex 33 (.len true 32),.b1 34 .leq 33 (.i 6),.mv 2 34]) .ret)))
theorem zgK:zh Tryz.prog [] 128=some (zgJ.ac,[(.t 2)],35):=by kernel_rfl
theorem YI (W0:World) (s:Str):Fn Tryz.prog W0 128 [CS s] (.c (CB (jO s))) []:=by
 refine fX mixed zgK fun hg=>?_
 have g1:=goodS (hg _ (by simp:CS s∈_));refine dr ?_;refine lp (σ:=Nat) (fun k=>[(0,.c (CS s)),(3,I k)]) (fun _=>[]) (fun k=>k≤s.length∧(s.take k).all jC=true) (fun k=>s.length - k) 0 ⟨by simp,by simp⟩ ?_ ?_
 ·refine dr ?_;trivial
 rintro k ⟨hk,ha⟩;refine dr ?_;apply cP<;>intro h1
 ·have hk':k < s.length:=by omega
  have no:jC s[k]=false→CB false=CB (jO s):=fun h=>bF (by rw [jO,y0 hk' h]; rfl)
  have yes:jC s[k]=true→∃ x',(x'≤s.length∧(s.take x').all jC=true)∧x'=k+1:=fun h=>⟨k+1,⟨by omega,qg hk' ha h⟩,rfl⟩
  refine dr ?_;apply cP<;>intro h2
  ·refine dr ?_;apply cP<;>intro h3
   ·refine dr ?_;exact no (by simp [jC,jl]; omega)
   ·refine dr ?_;apply cP<;>intro h4
    ·refine dr ?_;exact no (by simp [jC,jl]; omega)
    ·refine dr ?_;refine ⟨k+1,⟨by omega,qg hk' ha (by simp [jC,jl]; omega)⟩,by omega,?_⟩;refine dr ?_;trivial
  ·refine dr ?_;apply cP<;>intro h3
   ·refine dr ?_;apply cP<;>intro h4
    ·refine dr ?_;exact no (by simp [jC,jl]; omega)
    ·refine dr ?_;apply cP<;>intro h5
     ·refine dr ?_;exact no (by simp [jC,jl]; omega)
     ·refine dr ?_;refine ⟨k+1,⟨by omega,qg hk' ha (by simp [jC,jl]; omega)⟩,by omega,?_⟩;refine dr ?_;trivial
   ·refine dr ?_;refine ⟨k+1,⟨by omega,qg hk' ha (by simp [jC,jl]; omega)⟩,by omega,?_⟩;refine dr ?_;trivial
 ·have:k=s.length:=by omega
  subst this;rw [List.take_length] at ha;refine dr ?_;refine congrArg CB ?_;rw [jO,ha,JG,Bool.eq_iff_iff]; simp; omega
def zgP:XC:=(.s (.r [.m1 4 (.i 0)]) (.s (.s (.r [.m1 5 (.i 0)]) (.blk 0 (.loop (.s (.s (.r [.mv 6 5,.mv 7 0,.n1 8 7,.b1 9 .lss 6 8]) (.ce 9 0)) (.s (.blk 1 (.s (.r [.mv 12 0,.mv 13 5,.i1 14 3 12 13,.f1 15 0 14,.l1 16 1 15,.mv 17 1,.b1 18 .eql 16 17]) (.cnd 18 (.s (.r [.mv 19 5,.mv 4 19]) .ret) .skip))) (.ic 10 11 5)))))) (.s (.r [.ex 4 (.mv (.k (.c (.sc (.int .i64 (.negSucc 0))))))]) .ret)))
theorem zgQ:zh Tryz.prog [] 131=some (zgP.ac,[(.t 4)],20):=by kernel_rfl
theorem zbF (W0:World) (t:List Ent) (p:Str):Fn Tryz.prog W0 131 [ze t,CS p] (.c (CI (idx t p))) []:=by
 refine fX mixed zgQ fun hg=>?_
 have g1:=jL (hg _ (by simp:ze t∈_));refine dr ?_;refine lp (σ:=Nat) (fun k=>[(0,.c (ze t)),(1,.c (CS p)),(5,I k)]) (fun _=>[]) (fun k=>k≤t.length∧∀ i (h':i < t.length),i < k→t[i].path≠p) (fun k=>t.length - k) 0 ⟨by simp,by simp⟩ ?_ ?_
 ·refine dr ?_;trivial
 rintro k ⟨hk,ha⟩;refine dr ?_;apply cP<;>intro h1
 ·refine dr ?_;apply cP<;>intro h2
  ·refine dr ?_;rw [zjD (by omega) h2 ha]
  ·refine dr ?_;refine ⟨k+1,⟨by omega,fun i h' hi=>?_⟩,by omega,?_⟩
   ·by_cases e:i=k
    ·subst e; exact h2
    ·exact ha i h' (by omega)
   ·refine dr ?_;trivial
 ·refine dr ?_;rw [zjE fun i h'=>ha i h' (by omega)]; rfl
def zgL:XC:=(.s (.r [.m1 4 .n]) (.s (.s (.r [.mv 6 1,.ex 7 (.bin .eql 6 (.s [47]))]) (.cnd 7 (.rt 4) .skip)) (.s (.r [.mv 8 0,.mv 9 1,.c1 10 131 [8,9],.mv 5 10]) (.s (.r [.mv 11 5,.b1 12 .geq 11 (.i 0),.mv 13 12,.g3 14 0 13,.g3 15 5 13,.gt 16 (.ia 3 14 15) 13,.g1 17 1 16 13,.g2 18 1 17 13,.p2 19 13 18,.mv 4 19]) .ret))))
theorem zgM:zh Tryz.prog [] 92=some (zgL.ac,[(.t 4)],20):=by kernel_rfl
theorem Jv (W0:World) (t:List Ent) (p:Str):Fn Tryz.prog W0 92 [ze t,CS p] (.c (CB (zF t p))) []:=by
 refine fX mixed zgM fun hg=>?_
 refine dr ?_;apply cP<;>intro h1
 ·refine dr ?_;exact bT (by simp [zF,get,h1,Q2])
 refine dr ?_;repeat (refine c0 (zbF W0 t p) rfl ?_; first|refine dr ?_|exact dz)
 intro hg1;have hd:zF t p=match find t p with | some e=>e.dir | none=>false:=by unfold zF get; rw [if_neg h1]; try (cases find t p<;>rfl)
 rw [hd];rcases QK t p with ⟨e1,e2,_⟩ | ⟨j,hj,e1,e2,_⟩
 ·rw [e1,e2];refine dr ?_;apply cP<;>intro h2
  ·omega
  ·exact dz
 ·rw [e1,e2];refine dr ?_;apply cP<;>intro h2
  ·exact dz
  ·omega
def zgR:XC:=(.s (.r [.ex 4 (.alloc zE),.m1 5 .n]) (.s (.s (.r [.mv 7 1,.ex 8 (.bin .eql 7 (.s [47]))]) (.cnd 8 (.s (.r [.ex 9 (.build zE [(0,(1,(.s [47]))),(1,(1,.y))]),.s1 3 4 9,.m1 5 .y]) .ret) .skip)) (.s (.r [.mv 10 0,.mv 11 1,.c1 12 131 [10,11],.mv 6 12]) (.s (.s (.r [.mv 13 6,.b1 14 .lss 13 (.i 0)]) (.cnd 14 (.s (.r [.ex 15 (.build zE []),.s1 3 4 15,.m1 5 .n]) .ret) .skip)) (.s (.r [.mv 16 0,.mv 17 6,.i1 18 3 16 17,.l2 19 3 18,.s1 3 4 19,.m1 5 .y]) .ret)))))
theorem zgS:zh Tryz.prog [] 91=some (zgR.ac,[(.cell 4 true 3),(.t 5)],20):=by kernel_rfl
theorem ym (W0:World) (t:List Ent) (p:Str):Fn Tryz.prog W0 91 [ze t,CS p] (.c (eEntO (get t p))) []:=by
 refine fX mixed zgS fun hg=>?_
 refine dr ?_;apply cP<;>intro h1
 ·refine dr ?_;rw [get,if_pos h1]; rfl
 rw [get,if_neg h1];refine dr ?_;repeat (refine c0 (zbF W0 t p) rfl ?_; first|refine dr ?_|exact dz)
 intro hg1;rcases QK t p with ⟨e1,e2,_⟩ | ⟨j,hj,e1,e2,_⟩
 ·rw [e1,e2];refine dr ?_;apply cP<;>intro h2
  ·refine dr ?_;rfl
  ·omega
 ·rw [e1,e2];refine dr ?_;apply cP<;>intro h2
  ·omega
  ·refine dr ?_;rfl
def zgn:XC:=(.s (.r [.m1 2 .n]) (.s (.s (.r [.mv 5 0,.n1 6 5,.b1 7 .gtr 6 (.i 16)]) (.cnd 7 (.rf 2) .skip)) (.s (.s (.r [.m1 3 (.i 0)]) (.blk 0 (.loop (.s (.s (.r [.mv 8 3,.mv 9 0,.n1 10 9,.b1 11 .lss 8 10]) (.ce 11 0)) (.s (.blk 1 (.s (.r [.mv 14 0,.mv 15 3,.i1 16 3 14 15,.l2 17 3 16,.ex 4 (.alloc zE),.s1 3 4 17]) (.s (.d [.f1 18 0 4,.l1 19 1 18,.c1 20 127 [19],.u1 21 20,.mv 22 21,.h1 23 2 4 22,.h2 24 1 23 22,.gf 25 (.call 128 [24]) 22,.gf 26 (.un .not 25) 22,.p1 27 22 26,.mv 28 27,.h1 29 1 4 28,.h2 30 1 29 28,.h3 31 30 28,.g1 32 2 4 31,.g2 33 1 32 31,.gt 34 (.bin .neq 33 (.s [])) 31,.gf 35 (.pick 31 34 .n) 28,.p1 36 28 35,.mv 37 36,.h3 38 3 37,.gf 39 (.bin .gtr 38 (.i 0)) 37,.h3 40 39 37,.g3 41 0 40,.g3 42 3 40,.gt 43 (.bin .sub 42 (.i 1)) 40,.gt 44 (.ia 3 41 43) 40,.g1 45 0 44 40,.g2 46 1 45 40,.g1 47 0 4 40,.g2 48 1 47 40,.gt 49 (.bin .geq 46 48) 40,.gf 50 (.pick 40 49 .n) 37,.p1 51 37 50,.mv 52 51,.h3 53 0 52,.h3 54 3 52,.gf 55 (.slr 3 53 .none (.some 54)) 52,.h1 56 0 4 52,.h2 57 1 56 52,.gf 58 (.call 93 [57]) 52,.gf 59 (.call 92 [55,58]) 52,.gf 60 (.un .not 59) 52,.p1 61 52 60]) (.cnd 61 (.rf 2) .skip)))) (.ic 12 13 3)))))) (.rt 2))))
theorem zgo:zh Tryz.prog [] 88=some (zgn.ac,[(.t 2)],62):=by kernel_rfl
theorem YQ (W0:World) (t:List Ent):Fn Tryz.prog W0 88 [ze t] (.c (CB (tOk t))) []:=by
 refine fX mixed zgo fun hg=>?_
 have g1:=jL (hg _ (by simp:ze t∈_));refine dr ?_;apply cP<;>intro h1
 ·refine dr ?_;exact bF (by rw [tOk,Bool.and_eq_false_iff]; left; simp; omega)
 have hT:tOk t=okA [] t:=by rw [tOk]; simp; omega
 rw [hT];refine dr ?_;refine lp (σ:=Nat) (fun k=>[(0,.c (ze t)),(3,I k)]) (fun _=>[]) (fun k=>k≤t.length∧∀ j (h:j < t.length),j < k→ok1 (t.take j) t[j]=true) (fun k=>t.length - k) 0 ⟨by simp,by simp⟩ ?_ ?_
 ·refine dr ?_;trivial
 rintro k ⟨hk,ha⟩;refine dr ?_;apply cP<;>intro h2;rotate_left
 ·refine dr ?_;exact bT (okA0.2 fun j h=>ha j h (by omega))
 have hk':k < t.length:=by omega
 have no:ok1 (t.take k) t[k]=false→CB false=CB (okA [] t):=fun h=>bF (by
  rw [Bool.eq_false_iff]; intro e;have:=okA0.1 e k hk';rw [h] at this; cases this)
 refine dr ?_;repeat (refine c0 (qE W0 _) rfl ?_; first|refine dr ?_|exact dz)
 apply cP<;>intro h3
 ·refine dr ?_;exact no (by simp [ok1,h3])
 refine dr ?_;repeat (refine c0 (YI W0 _) rfl ?_; first|refine dr ?_|exact dz)
 apply cP<;>intro h4
 ·refine dr ?_;exact no (by simp [ok1,h4])
 refine dr ?_;apply cP<;>intro h5
 ·refine dr ?_;apply cP<;>intro h6
  ·refine dr ?_;exact no (by simp [ok1,h5,h6])
  ·have h56:(!(t[k].dir&&t[k].data != []))=true:=by simp [h6]
   clear h5 h6;refine dr ?_;apply cP<;>intro h7
   ·have hl:(t.take k).getLast? = some t[k - 1]:=by
     rw [List.getLast?_take,if_neg (by omega),List.getElem?_eq_getElem (by omega)];rfl
    refine dr ?_;repeat (refine aM (j:=k - 1) (by omega) (by omega) ?_; first|refine dr ?_|exact dz)
    cases h8:ltS t[k - 1].path t[k].path
    ·refine dr ?_;exact no (by simp [ok1,hl,h8])
    ·refine dEr ?_;repeat ((first|refine sHiM k rfl (by omega) ?_|refine c0 (qV W0 _) rfl ?_|refine c0 (Jv W0 (t.take k) _) rfl ?_); first|refine dEr ?_|exact dz)
     apply cP<;>intro h9
     ·refine dr ?_;exact no (by simp [ok1,h9])
     ·refine dr ?_;refine ⟨k+1,⟨by omega,fun j h hj=>?_⟩,by omega,?_⟩
      ·by_cases e:j=k
       ·subst e; rw [ok1,h3,h4,h56,h9,hl]; simp [h8]
       ·exact ha j h (by omega)
      ·refine dr ?_;trivial
   ·have hk0:k=0:=by omega
    subst hk0;refine dEr ?_;repeat ((first|refine sHiM 0 rfl (by omega) ?_|refine c0 (qV W0 _) rfl ?_|refine c0 (Jv W0 (t.take 0) _) rfl ?_); first|refine dEr ?_|exact dz)
    apply cP<;>intro h9
    ·refine dr ?_;exact no (by simp only [ok1,h9,Bool.and_false])
    ·refine dr ?_;refine ⟨1,⟨by omega,fun j h hj=>?_⟩,by omega,?_⟩
     ·have e:j=0:=by omega
      subst e;rw [ok1,h3,h4,h56,h9]; rfl
     ·refine dr ?_;trivial
 ·have h56:(!(t[k].dir&&t[k].data != []))=true:=by simp [h5]
  clear h5;refine dr ?_;apply cP<;>intro h7
  ·have hl:(t.take k).getLast? = some t[k - 1]:=by
    rw [List.getLast?_take,if_neg (by omega),List.getElem?_eq_getElem (by omega)];rfl
   refine dr ?_;repeat (refine aM (j:=k - 1) (by omega) (by omega) ?_; first|refine dr ?_|exact dz)
   cases h8:ltS t[k - 1].path t[k].path
   ·refine dr ?_;exact no (by simp [ok1,hl,h8])
   ·refine dEr ?_;repeat ((first|refine sHiM k rfl (by omega) ?_|refine c0 (qV W0 _) rfl ?_|refine c0 (Jv W0 (t.take k) _) rfl ?_); first|refine dEr ?_|exact dz)
    apply cP<;>intro h9
    ·refine dr ?_;exact no (by simp [ok1,h9])
    ·refine dr ?_;refine ⟨k+1,⟨by omega,fun j h hj=>?_⟩,by omega,?_⟩
     ·by_cases e:j=k
      ·subst e; rw [ok1,h3,h4,h56,h9,hl]; simp [h8]
      ·exact ha j h (by omega)
     ·refine dr ?_;trivial
  ·have hk0:k=0:=by omega
   subst hk0;refine dEr ?_;repeat ((first|refine sHiM 0 rfl (by omega) ?_|refine c0 (qV W0 _) rfl ?_|refine c0 (Jv W0 (t.take 0) _) rfl ?_); first|refine dEr ?_|exact dz)
   apply cP<;>intro h9
   ·refine dr ?_;exact no (by simp only [ok1,h9,Bool.and_false])
   ·refine dr ?_;refine ⟨1,⟨by omega,fun j h hj=>?_⟩,by omega,?_⟩
    ·have e:j=0:=by omega
     subst e;rw [ok1,h3,h4,h56,h9]; rfl
    ·refine dr ?_;trivial

def zg7:XC:=(.s (.r [.x1 3 1,.a2 4 3 77]) (.s (.r [.ex 7 .bsl0,.a1 5 7 3 77]) (.s (.r [.m1 6 (.i 0)]) (.s (.blk 0 (.loop (.s (.s (.d [.mv 8 6,.mv 9 0,.n1 10 9,.b1 11 .lss 8 10,.mv 12 11,.g3 13 0 12,.g3 14 6 12,.gt 15 (.ia 3 13 14) 12,.g1 16 0 15 12,.g2 17 1 16 12,.g1 18 0 3 12,.g2 19 1 18 12,.gt 20 (.bin .lss 17 19) 12,.p2 21 12 20]) (.ce 21 0)) (.blk 1 (.s (.r [.mv 22 5,.mv 23 0,.mv 24 6,.i1 25 3 23 24,.l2 26 3 25,.ex 27 (.bsl 3 77 [26]),.ex 28 (.app false 3 40 77 22 27),.a1 5 28 3 77]) (.ic 29 30 6)))))) (.s (.r [.mv 31 5,.l2 32 3 3,.ex 33 (.bsl 3 77 [32]),.ex 34 (.app false 3 40 77 31 33),.a1 5 34 3 77]) (.s (.s (.d [.mv 35 6,.mv 36 0,.n1 37 36,.b1 38 .lss 35 37,.mv 39 38,.g3 40 0 39,.g3 41 6 39,.gt 42 (.ia 3 40 41) 39,.g1 43 0 42 39,.g2 44 1 43 39,.g1 45 0 3 39,.g2 46 1 45 39,.gt 47 (.bin .eql 44 46) 39,.p2 48 39 47]) (.cnd 48 (.ic 49 50 6) .skip)) (.s (.r [.mv 51 5,.mv 52 0,.mv 53 6,.ex 54 (.slr 3 52 (.some 53) .none),.ex 55 (.app false 3 40 77 51 54),.a1 4 55 3 77]) .ret)))))))
theorem zha:zh Tryz.prog [] 130=some (zg7.ac,[(.t 4)],56):=by kernel_rfl
theorem y8 (W0:World) (t:List Ent) (e:Ent) (ht:t.length≤1000000):Fn Tryz.prog W0 130 [ze t,eEnt e] (.c (ze (put t e))) []:=by
 refine fX mixed zha fun hg=>?_
 refine dr ?_;refine lp (σ:=Nat) (fun k=>[(0,.c (ze t)),(3,.ptr 48 0),(5,.own 80 k),(6,I k)]) (fun k=>[(48,.box [.c (CS e.path),(.c (CB e.dir)),.c (CS e.data)]),(80,.row ((t.take k).map eEnt) 3 77)]) (fun k=>k≤t.length∧(t.take k).all (fun x=>ltS x.path e.path)=true) (fun k=>t.length - k) 0 ⟨by simp,by simp⟩ ?_ ?_
 ·refine dr ?_;trivial
 rintro k ⟨hk,ha⟩;refine dr ?_;apply cP<;>intro h1
 ·have hk':k < t.length:=by omega
  refine dr ?_;apply cP<;>intro h2
  ·refine dr ?_;repeat ((first|refine oB (by simp; omega) ?_|refine oB (by simp) ?_); first|refine dr ?_|exact dz)
   refine ⟨k+1,⟨by omega,qg hk' ha h2⟩,by omega,?_⟩;refine dr ?_;repeat ((first|refine oB (by simp; omega) ?_|refine oB (tmn hk') ?_); first|refine dr ?_|exact dz)
   trivial
  ·refine dr ?_;repeat ((first|refine oB (by simp; omega) ?_|refine oB (by simp) ?_); first|refine dr ?_|exact dz)
   apply cP<;>intro h3;rotate_left
   ·omega
   refine dr ?_;apply cP<;>intro h4
   ·refine dr ?_;repeat ((first|refine sLoM (k+1) (by omega) (by omega) ?_|refine oB (by simp; omega) ?_|refine oB (by simp) ?_); first|refine dr ?_|exact dz)
    show _=ze (zG _ t e);rw [zdk hk' ha h2 h4]; simp [ze]; rfl
   ·refine dr ?_;repeat ((first|refine sLoM k (by omega) (by omega) ?_|refine oB (by simp; omega) ?_|refine oB (by simp) ?_); first|refine dr ?_|exact dz)
    show _=ze (zG _ t e);rw [zdn hk' ha h2 h4]; simp [ze]; rfl
 ·refine dr ?_;repeat ((first|refine oB (by simp; omega) ?_|refine oB (by simp) ?_); first|refine dr ?_|exact dz)
  apply cP<;>intro h3
  ·omega
  refine dr ?_;repeat ((first|refine sLoM k (by omega) (by omega) ?_|refine oB (by simp; omega) ?_|refine oB (by simp) ?_); first|refine dr ?_|exact dz)
  show _=ze (zG _ t e);rw [zdm (by omega) ha];have:k=t.length:=by omega
  simp [ze,this]; rfl
def zhF:XC:=(.s (.r [.x1 3 1,.a2 4 3 34]) (.s (.r [.ex 7 .bsl0,.a1 5 7 3 34]) (.s (.r [.m1 6 (.i 0)]) (.s (.blk 0 (.loop (.s (.s (.d [.mv 8 6,.mv 9 0,.n1 10 9,.b1 11 .lss 8 10,.mv 12 11,.g3 13 0 12,.g3 14 6 12,.gt 15 (.ia 3 13 14) 12,.g1 16 0 15 12,.g2 17 1 16 12,.g1 18 0 3 12,.g2 19 1 18 12,.gt 20 (.bin .lss 17 19) 12,.p2 21 12 20]) (.ce 21 0)) (.blk 1 (.s (.r [.mv 22 5,.mv 23 0,.mv 24 6,.i1 25 3 23 24,.l2 26 3 25,.ex 27 (.bsl 3 34 [26]),.ex 28 (.app false 3 40 34 22 27),.a1 5 28 3 34]) (.ic 29 30 6)))))) (.s (.r [.mv 31 5,.l2 32 3 3,.ex 33 (.bsl 3 34 [32]),.ex 34 (.app false 3 40 34 31 33),.a1 5 34 3 34]) (.s (.s (.d [.mv 35 6,.mv 36 0,.n1 37 36,.b1 38 .lss 35 37,.mv 39 38,.g3 40 0 39,.g3 41 6 39,.gt 42 (.ia 3 40 41) 39,.g1 43 0 42 39,.g2 44 1 43 39,.g1 45 0 3 39,.g2 46 1 45 39,.gt 47 (.bin .eql 44 46) 39,.p2 48 39 47]) (.cnd 48 (.ic 49 50 6) .skip)) (.s (.r [.mv 51 5,.mv 52 0,.mv 53 6,.ex 54 (.slr 3 52 (.some 53) .none),.ex 55 (.app false 3 40 34 51 54),.a1 4 55 3 34]) .ret)))))))
theorem zhG:zh Tryz.prog [] 95=some (zhF.ac,[(.t 4)],56):=by kernel_rfl
theorem y9 (W0:World) (t:List Mark) (e:Mark) (ht:t.length≤1000000):Fn Tryz.prog W0 95 [zg t,jm e] (.c (zg (zZ t e))) []:=by
 refine fX mixed zhG fun hg=>?_
 refine dr ?_;refine lp (σ:=Nat) (fun k=>[(0,.c (zg t)),(3,.ptr 48 0),(5,.own 80 k),(6,I k)]) (fun k=>[(48,.box [.c (CS e.path),(I e.kind),.c (CS e.data)]),(80,.row ((t.take k).map jm) 3 34)]) (fun k=>k≤t.length∧(t.take k).all (fun x=>ltS x.path e.path)=true) (fun k=>t.length - k) 0 ⟨by simp,by simp⟩ ?_ ?_
 ·refine dr ?_;trivial
 rintro k ⟨hk,ha⟩;refine dr ?_;apply cP<;>intro h1
 ·have hk':k < t.length:=by omega
  refine dr ?_;apply cP<;>intro h2
  ·refine dr ?_;repeat ((first|refine oB (by simp; omega) ?_|refine oB (by simp) ?_); first|refine dr ?_|exact dz)
   refine ⟨k+1,⟨by omega,qg hk' ha h2⟩,by omega,?_⟩;refine dr ?_;repeat ((first|refine oB (by simp; omega) ?_|refine oB (tmn hk') ?_); first|refine dr ?_|exact dz)
   trivial
  ·refine dr ?_;repeat ((first|refine oB (by simp; omega) ?_|refine oB (by simp) ?_); first|refine dr ?_|exact dz)
   apply cP<;>intro h3;rotate_left
   ·omega
   refine dr ?_;apply cP<;>intro h4
   ·refine dr ?_;repeat ((first|refine sLoM (k+1) (by omega) (by omega) ?_|refine oB (by simp; omega) ?_|refine oB (by simp) ?_); first|refine dr ?_|exact dz)
    show _=zg (zG _ t e);rw [zdk hk' ha h2 h4]; simp [zg]; rfl
   ·refine dr ?_;repeat ((first|refine sLoM k (by omega) (by omega) ?_|refine oB (by simp; omega) ?_|refine oB (by simp) ?_); first|refine dr ?_|exact dz)
    show _=zg (zG _ t e);rw [zdn hk' ha h2 h4]; simp [zg]; rfl
 ·refine dr ?_;repeat ((first|refine oB (by simp; omega) ?_|refine oB (by simp) ?_); first|refine dr ?_|exact dz)
  apply cP<;>intro h3
  ·omega
  refine dr ?_;repeat ((first|refine sLoM k (by omega) (by omega) ?_|refine oB (by simp; omega) ?_|refine oB (by simp) ?_); first|refine dr ?_|exact dz)
  show _=zg (zG _ t e);rw [zdm (by omega) ha];have:k=t.length:=by omega
  simp [zg,this]; rfl
def zhf:XC:=(.s (.r [.a2 4 1 9]) (.s (.r [.mv 13 0,.a1 5 13 3 77]) (.s (.s (.r [.m1 6 (.i 0)]) (.blk 0 (.loop (.s (.s (.r [.mv 14 6,.mv 15 1,.n1 16 15,.b1 17 .lss 14 16]) (.ce 17 0)) (.s (.blk 1 (.r [.mv 20 5,.mv 21 1,.mv 22 6,.i1 23 3 21 22,.l2 24 3 23,.c1 25 130 [20,24],.a1 5 25 3 77])) (.ic 18 19 6)))))) (.s (.r [.ex 26 .bsl0,.a1 7 26 1 9]) (.s (.s (.r [.m1 8 (.i 0)]) (.blk 2 (.loop (.s (.s (.r [.mv 27 8,.mv 28 5,.n1 29 28,.b1 30 .lss 27 29]) (.ce 30 2)) (.s (.blk 3 (.s (.r [.mv 34 0,.mv 35 5,.mv 36 8,.i1 37 3 35 36,.f1 38 0 37,.l1 39 1 38,.c1 40 91 [34,39],.mv 33 40,.e1 41 33 0,.e1 42 33 1,.ex 9 (.alloc zE),.s1 3 9 41,.mv 10 42]) (.s (.r [.mv 44 1,.mv 45 5,.mv 46 8,.i1 47 3 45 46,.f1 48 0 47,.l1 49 1 48,.c1 50 91 [44,49],.mv 43 50,.e1 51 43 0,.e1 52 43 1,.ex 11 (.alloc zE),.s1 3 11 51,.mv 12 52]) (.s (.r [.mv 53 10,.mv 54 12,.ex 55 (.bb true 53 54),.mv 56 55,.gf 57 (.ld true 3 9) 56,.gf 58 (.ld true 3 11) 56,.gf 59 (.beq true [.s,.b,.s] 57 58) 56,.p1 60 56 59]) (.cnd 60 (.r [.mv 61 7,.mv 62 5,.mv 63 8,.i1 64 3 62 63,.f1 65 0 64,.l1 66 1 65,.ex 67 (.bsl 1 9 [66]),.ex 68 (.app false 1 16 9 61 67),.a1 7 68 1 9]) .skip))))) (.ic 31 32 8)))))) (.s (.r [.mv 69 7,.a1 4 69 1 9]) .ret))))))
theorem zhg:zh Tryz.prog [] 90=some (zhf.ac,[(.t 4)],70):=by kernel_rfl
theorem ziO (W0:World) (a b:List Ent) (ht:a.length+b.length≤1000000):Fn Tryz.prog W0 90 [ze a,ze b] (.c (jy (zS a b))) []:=by
 refine fX mixed zhg fun hg=>?_
 refine dr ?_;refine lp (σ:=Nat) (fun k=>[(0,.c (ze a)),(1,.c (ze b)),(5,.c (ze ((b.take k).foldl put a))),(6,I k)]) (fun _=>[]) (fun k=>k≤b.length) (fun k=>b.length - k) 0 (by simp) ?_ ?_
 ·refine dr ?_;trivial
 intro k hk;have hlk:((b.take k).foldl put a).length≤a.length+b.length:=zji b a k;refine dr ?_;apply cP<;>intro h1
 ·have hk':k < b.length:=by omega
  refine dr ?_;repeat (refine c0 (y8 W0 _ _ (by omega)) rfl ?_; first|refine dr ?_|exact dz)
  intro hg1;refine dr ?_;refine ⟨k+1,by omega,by omega,?_⟩;refine dr ?_;repeat (refine oB (by rw [qj hk']) ?_; first|refine dr ?_|exact dz)
  trivial
 have hkl:k=b.length:=by omega
 subst hkl;rw [List.take_length] at hlk ⊢;have hB:b.foldl put a=both a b:=rfl;rw [hB] at hlk ⊢;generalize hBB:both a b=B at *;refine dr ?_;refine lp (σ:=Nat) (fun k=>[(0,.c (ze a)),(1,.c (ze b)),(5,.c (ze B)),(8,I k),(7,.own 112 ((B.take k).filter (tudP a b)).length)]) (fun k=>[(112,.row (((B.take k).filter (tudP a b)).map fun e=>CS e.path) 1 9)]) (fun k=>k≤B.length) (fun k=>B.length - k) 0 (by simp) ?_ ?_
 ·refine dr ?_;trivial
 intro k hk;have hfl:=zbX (q:=tudP a b) (l:=B) (k:=k);refine dr ?_;apply cP<;>intro h2
 ·have hk':k < B.length:=by omega
  refine dr ?_;repeat ((first|refine c0 (ym W0 _ _) rfl ?_ | rw [ZB]); first|refine dr ?_|exact dz)
  intro hg1;refine dr ?_;repeat ((first|refine c0 (ym W0 _ _) rfl ?_ | rw [ZB]); first|refine dr ?_|exact dz)
  intro hg1;refine dr ?_;have hq:tudP a b B[k]=!(decide ((get a B[k].path).isSome=(get b B[k].path).isSome)&&decide ((get a B[k].path).getD noE=(get b B[k].path).getD noE)):=by
   rw [tudP,Bool.eq_iff_iff]; simp [zk8 (d:=noE)]
  apply cP<;>intro h3
  ·refine dr ?_;repeat ((first|refine oB (by simp; omega) ?_|refine oB (by simp) ?_); first|refine dr ?_|exact dz)
   have hT:tudP a b B[k]=true:=by rw [hq]; simp [h3]
   refine ⟨k+1,by omega,by omega,?_⟩;refine dr ?_;repeat (refine oB (by rw [Zb hk' hT]; simp) ?_; first|refine dr ?_|exact dz)
   trivial
  ·refine dr ?_;apply cP<;>intro h4
   ·refine dr ?_;repeat ((first|refine oB (by simp; omega) ?_|refine oB (by simp) ?_); first|refine dr ?_|exact dz)
    have hT:tudP a b B[k]=true:=by rw [hq,← Zx,h4]; simp
    refine ⟨k+1,by omega,by omega,?_⟩;refine dr ?_;repeat (refine oB (by rw [Zb hk' hT]; simp) ?_; first|refine dr ?_|exact dz)
    trivial
   ·refine dr ?_;have hT:tudP a b B[k]=false:=by rw [hq,← Zx,h4]; simp [h3]
    refine ⟨k+1,by omega,by omega,?_⟩;refine dr ?_;repeat (refine oB (by rw [Za hk' hT]) ?_; first|refine dr ?_|exact dz)
    trivial
 have hkl:k=B.length:=by omega
 refine dr ?_;repeat (refine oB (by simp) ?_; first|refine dr ?_|exact dz)
 rw [zS,hBB,hkl,List.take_length];simp [jy]

def zf1:XC:=(.s (.r [.x1 1 0,.m1 2 .n]) (.s (.s (.r [.f1 3 0 1,.l1 4 1 3,.b1 5 .lss 4 (.i 1),.mv 6 5,.h1 7 0 1 6,.h2 8 1 7 6,.gf 9 (.bin .gtr 8 (.i 5)) 6,.p1 10 6 9,.mv 11 10,.h1 12 1 1 11,.h2 13 1 12 11,.gf 14 (.call 127 [13]) 11,.gf 15 (.un .not 14) 11,.p1 16 11 15]) (.cnd 16 (.rf 2) .skip)) (.s (.s (.r [.f1 17 0 1,.l1 18 1 17,.b1 19 .eql 18 (.i 5)]) (.cnd 19 (.s (.r [.f1 20 2 1,.l1 21 1 20,.c1 22 127 [21],.mv 23 22,.g1 24 3 1 23,.g2 25 1 24 23,.gt 26 (.bin .eql 25 (.s [])) 23,.p2 27 23 26,.mv 2 27]) .ret) .skip)) (.s (.r [.f1 28 2 1,.l1 29 1 28,.ex 30 (.bin .eql 29 (.s [])),.mv 31 30,.g1 32 3 1 31,.g2 33 1 32 31,.gt 34 (.call 128 [33]) 31,.p2 35 31 34,.mv 36 35,.g1 37 0 1 36,.g2 38 1 37 36,.gt 39 (.bin .eql 38 (.i 2)) 36,.g3 40 39 36,.h1 41 3 1 40,.h2 42 1 41 40,.gf 43 (.bin .eql 42 (.s [])) 40,.gt 44 (.pick 40 .y 43) 36,.p2 45 36 44,.mv 2 45]) .ret))))
theorem zf2:zh Tryz.prog [] 108=some (zf1.ac,[(.t 2)],46):=by kernel_rfl
theorem zi4 (W0:World) (op:Op):Fn Tryz.prog W0 108 [eOp op] (.c (CB (jv op))) []:=by
 refine fX mixed zf2 fun hg=>?_
 refine dr ?_;apply cP<;>intro h1
 ·refine dr ?_;exact bF (by simp [jv]; omega)
 refine dr ?_;apply cP<;>intro h2
 ·refine dr ?_;exact bF (by simp [jv]; omega)
 refine dr ?_;repeat (refine c0 (qE W0 _) rfl ?_; first|refine dr ?_|exact dz)
 apply cP<;>intro h3
 ·refine dr ?_;exact bF (by simp [jv,h3])
 have hk:(decide (1≤op.kind)&&decide (op.kind≤5))=true:=by simp; omega
 refine dr ?_;apply cP<;>intro h4
 ·refine dEr ?_;repeat (refine c0 (qE W0 _) rfl ?_; first|refine dEr ?_|exact dz)
  have e:jv op=(pOk op.dest&&op.data==[]):=by rw [jv,hk,h3,if_pos h4]<;>rfl
  rw [e];apply cP<;>intro h5
  ·refine dr ?_;refine congrArg CB ?_;rw [Bool.eq_iff_iff]; simp [h5,yB]
  ·refine dr ?_;exact bF (by simp [h5])
 have e:jv op=(op.dest==[]&&(jO op.data&&(op.kind==2||op.data==[]))):=by rw [jv,hk,h3,if_neg h4]<;>rfl
 rw [e];refine dr ?_;apply cP<;>intro h5
 ·refine dEr ?_;repeat (refine c0 (YI W0 _) rfl ?_; first|refine dEr ?_|exact dz)
  apply cP<;>intro h6
  ·refine dr ?_;apply cP<;>intro h7
   ·refine dr ?_;exact bT (by simp [h5,h6,h7])
   ·refine dr ?_;refine congrArg CB ?_;rw [Bool.eq_iff_iff]; simp [h5,h6,h7,yB]
  ·refine dr ?_;exact bF (by simp [h6])
 ·refine dr ?_;exact bF (by simp [h5])
def zgT:XC:=(.s (.r [.a2 4 1 9]) (.s (.r [.ex 7 .bsl0,.a1 5 7 1 9]) (.s (.s (.r [.m1 6 (.i 0)]) (.blk 0 (.loop (.s (.s (.r [.mv 8 6,.mv 9 0,.n1 10 9,.b1 11 .lss 8 10]) (.ce 11 0)) (.s (.blk 1 (.s (.r [.mv 14 0,.mv 15 6,.i1 16 3 14 15,.f1 17 0 16,.l1 18 1 17,.c1 19 93 [18],.mv 20 1,.b1 21 .eql 19 20]) (.cnd 21 (.r [.mv 22 5,.mv 23 0,.mv 24 6,.i1 25 3 23 24,.f1 26 0 25,.l1 27 1 26,.c1 28 188 [27],.ex 29 (.bsl 1 9 [28]),.ex 30 (.app false 1 16 9 22 29),.a1 5 30 1 9]) .skip))) (.ic 12 13 6)))))) (.s (.r [.mv 31 5,.a1 4 31 1 9]) .ret))))
theorem zgU:zh Tryz.prog [] 169=some (zgT.ac,[(.t 4)],32):=by kernel_rfl
theorem YJ (W0:World) (t:List Ent) (p:Str) (ht:t.length≤1000000):Fn Tryz.prog W0 169 [ze t,CS p] (.c (jy (kids t p))) []:=by
 refine fX mixed zgU fun hg=>?_
 refine dr ?_;refine lp2 (fun (k:Nat) (out:List Ent)=>[(0,.c (ze t)),(1,.c (CS p)),(5,.own 80 out.length),(6,I k)]) (fun _ out=>[(80,.row (out.map fun e=>CS (Zl e.path)) 1 9)]) (fun k out=>k≤t.length∧out=(t.take k).filter (fun e=>pUp e.path==p)∧out.length≤k) (fun k _=>t.length - k) 0 [] ⟨by simp,rfl,by simp⟩ ?_ ?_
 ·refine dr ?_;trivial
 rintro k out ⟨hk,ho,hle⟩;refine dr ?_;apply cP<;>intro h1
 ·have hk':k < t.length:=by omega
  refine dEr ?_;repeat (refine c0 (qV W0 _) rfl ?_; first|refine dEr ?_|exact dz)
  apply cP<;>intro h2
  ·refine dEr ?_;repeat ((first|refine c0 (zi9 W0 _) rfl ?_|refine oB (by simp; omega) ?_|refine oB (by simp) ?_); first|refine dEr ?_|exact dz)
   refine ⟨k+1,out++[t[k]],⟨by omega,by rw [Zb hk' (by simp [h2]),ho],by simp; omega⟩,by omega,?_⟩;refine dr ?_;repeat (refine oB (by simp<;>rfl) ?_; first|refine dr ?_|exact dz)
   trivial
  ·refine dr ?_;refine ⟨k+1,out,⟨by omega,by rw [Za hk' (by simp [h2]),ho],by omega⟩,by omega,?_⟩;refine dr ?_;trivial
 have hkl:k=t.length:=by omega
 rw [hkl,List.take_length] at ho;refine dr ?_;repeat (refine oB (by simp) ?_; first|refine dr ?_|exact dz)
 rw [kids,← ho]; simp [jy]
def zhh:XC:=(.s (.r [.m1 4 (.i 0)]) (.s (.r [.mv 8 0,.mv 9 1,.c1 10 93 [9],.c1 11 91 [8,10],.mv 7 11,.e1 12 7 0,.e1 13 7 1,.ex 5 (.alloc zE),.s1 3 5 12,.mv 6 13]) (.s (.blk 0 (.s (.r [.mv 15 6,.u1 16 15,.mv 14 16]) (.cnd 14 (.s (.r [.m1 4 (.i 2)]) .ret) (.s (.r [.f1 18 1 5,.l1 19 1 18,.u1 20 19,.mv 17 20]) (.cnd 17 (.s (.r [.m1 4 (.i 3)]) .ret) .skip))))) (.s (.r [.m1 4 (.i 0)]) .ret))))
theorem zhi:zh Tryz.prog [] 167=some (zhh.ac,[(.t 4)],21):=by kernel_rfl
theorem zbJ (W0:World) (t:List Ent) (p:Str):Fn Tryz.prog W0 167 [ze t,CS p] (.c (CI (upC t p))) []:=by
 refine fX mixed zhi fun hg=>?_
 have hc:=ym W0 t (pUp p);cases hx:get t (pUp p) with
 | none =>
  rw [hx] at hc;refine dEr ?_;repeat ((first|refine c0 (qV W0 _) rfl ?_|refine c0 hc rfl ?_); first|refine dEr ?_|exact dz)
  rw [upC,hx]<;>rfl
 | some e =>
  rw [hx] at hc;refine dEr ?_;repeat ((first|refine c0 (qV W0 _) rfl ?_|refine c0 hc rfl ?_); first|refine dEr ?_|exact dz)
  apply cP<;>intro h1
  ·refine dr ?_;rw [upC,hx]; exact congrArg CI (by simp [h1])
  ·refine dr ?_;rw [upC,hx]; exact congrArg CI (by simp [h1])
def zgZ:XC:=(.s (.r [.m1 4 (.i 0)]) (.s (.r [.mv 8 0,.mv 9 1,.c1 10 167 [8,9],.mv 5 10]) (.s (.r [.mv 12 0,.mv 13 1,.c1 14 91 [12,13],.mv 11 14,.e1 15 11 0,.e1 16 11 1,.ex 6 (.alloc zE),.s1 3 6 15,.mv 7 16]) (.s (.blk 0 (.s (.r [.mv 18 5,.b1 19 .neq 18 (.i 0),.mv 17 19]) (.cnd 17 (.s (.r [.mv 20 5,.mv 4 20]) .ret) (.s (.r [.mv 22 7,.mv 21 22]) (.cnd 21 (.s (.r [.m1 4 (.i 4)]) .ret) (.s (.r [.mv 24 0,.n1 25 24,.b1 26 .geq 25 (.i 16),.mv 23 26]) (.cnd 23 (.s (.r [.m1 4 (.i 8)]) .ret) .skip))))))) (.s (.r [.m1 4 (.i 0)]) .ret)))))
theorem zg0:zh Tryz.prog [] 143=some (zgZ.ac,[(.t 4)],27):=by kernel_rfl
theorem zbG (W0:World) (t:List Ent) (p:Str):Fn Tryz.prog W0 143 [ze t,CS p] (.c (CI (newC t p))) []:=by
 refine fX mixed zg0 fun hg=>?_
 have hc:=ym W0 t p;rw [ZB] at hc;refine dEr ?_;repeat ((first|refine c0 (zbJ W0 _ _) rfl ?_|refine c0 hc rfl ?_); first|refine dEr ?_|exact dz)
 apply cP<;>intro h1
 ·refine dr ?_;rw [newC,if_pos h1]
 have h1':¬ upC t p≠0:=fun h=>h h1
 refine dr ?_;apply cP<;>intro h2
 ·refine dr ?_;rw [newC,if_neg h1',if_pos h2]<;>rfl
 have h2':¬ (get t p).isSome=true:=by simp [h2]
 refine dr ?_;apply cP<;>intro h3
 ·refine dr ?_;rw [newC,if_neg h1',if_neg h2',if_pos (by omega)]<;>rfl
 ·refine dr ?_;rw [newC,if_neg h1',if_neg h2',if_neg (by omega)]<;>rfl
def zg8:XC:=(.s (.r [.m1 4 (.i 0)]) (.s (.r [.mv 8 0,.mv 9 1,.c1 10 143 [8,9],.mv 5 10]) (.s (.r [.mv 12 0,.mv 13 1,.c1 14 91 [12,13],.mv 11 14,.e1 15 11 0,.e1 16 11 1,.ex 6 (.alloc zE),.s1 3 6 15,.mv 7 16]) (.s (.s (.r [.mv 17 5,.b1 18 .eql 17 (.i 4),.mv 19 18,.g1 20 1 6 19,.g2 21 1 20 19,.p2 22 19 21]) (.cnd 22 (.s (.r [.m1 4 (.i 5)]) .ret) .skip)) (.s (.s (.r [.mv 23 5,.b1 24 .eql 23 (.i 4)]) (.cnd 24 (.s (.r [.m1 4 (.i 0)]) .ret) .skip)) (.s (.r [.mv 25 5,.mv 4 25]) .ret))))))
theorem zg9:zh Tryz.prog [] 144=some (zg8.ac,[(.t 4)],26):=by kernel_rfl
theorem ziM (W0:World) (t:List Ent) (p:Str):Fn Tryz.prog W0 144 [ze t,CS p] (.c (CI (putC t p))) []:=by
 refine fX mixed zg9 fun hg=>?_
 have hc:=ym W0 t p;rw [ZB] at hc;refine dEr ?_;repeat ((first|refine c0 (zbG W0 _ _) rfl ?_|refine c0 hc rfl ?_); first|refine dEr ?_|exact dz)
 apply cP<;>intro h1
 ·refine dr ?_;apply cP<;>intro h2
  ·refine dr ?_;rw [putC,if_pos h1,if_pos h2]<;>rfl
  ·refine dr ?_;apply cP<;>intro h3
   ·refine dr ?_;rw [putC,if_pos h1,if_neg (by simp [h2])]<;>rfl
   ·exact absurd h1 h3
 ·refine dr ?_;apply cP<;>intro h3
  ·exact absurd h3 h1
  ·refine dr ?_;rw [putC,if_neg h1]
def zg2:XC:=(.s (.r [.x1 3 1,.m1 4 (.i 0)]) (.s (.r [.mv 8 0,.f1 9 1 3,.l1 10 1 9,.c1 11 91 [8,10],.mv 7 11,.e1 12 7 0,.e1 13 7 1,.ex 5 (.alloc zE),.s1 3 5 12,.mv 6 13]) (.s (.blk 0 (.s (.r [.mv 15 6,.u1 16 15,.mv 14 16]) (.cnd 14 (.s (.r [.m1 4 (.i 2)]) .ret) (.s (.r [.f1 18 0 3,.l1 19 1 18,.b1 20 .eql 19 (.i 3),.mv 21 20,.g1 22 1 5 21,.g2 23 1 22 21,.p2 24 21 23,.mv 17 24]) (.cnd 17 (.s (.r [.m1 4 (.i 5)]) .ret) (.s (.r [.f1 26 0 3,.l1 27 1 26,.b1 28 .eql 27 (.i 4),.mv 29 28,.g1 30 1 5 29,.g2 31 1 30 29,.gt 32 (.un .not 31) 29,.p2 33 29 32,.mv 25 33]) (.cnd 25 (.s (.r [.m1 4 (.i 3)]) .ret) (.s (.r [.mv 35 0,.f1 36 1 3,.l1 37 1 36,.c1 38 169 [35,37],.n1 39 38,.b1 40 .gtr 39 (.i 0),.mv 34 40]) (.cnd 34 (.s (.r [.m1 4 (.i 6)]) .ret) .skip))))))))) (.s (.r [.m1 4 (.i 0)]) .ret))))
theorem zg3:zh Tryz.prog [] 146=some (zg2.ac,[(.t 4)],41):=by kernel_rfl
theorem ziL (W0:World) (t:List Ent) (op:Op) (ht:t.length≤1000000):Fn Tryz.prog W0 146 [ze t,eOp op] (.c (CI (offC t op))) []:=by
 refine fX mixed zg3 fun hg=>?_
 have hc:=ym W0 t op.path;cases hx:get t op.path with
 | none =>
  rw [hx] at hc;refine dEr ?_;repeat (refine c0 hc rfl ?_; first|refine dEr ?_|exact dz)
  rw [offC,hx]<;>rfl
 | some e =>
  rw [hx] at hc;have e0:offC t op=if op.kind=3∧e.dir=true then 5 else if op.kind=4∧e.dir=false then 3 else if 0 < (kids t op.path).length then 6 else 0:=by rw [offC,hx]
  rw [e0];have rest:∀ {A:Prop},A→A:=fun a=>a
  refine dEr ?_;repeat (refine c0 hc rfl ?_; first|refine dEr ?_|exact dz)
  apply cP<;>intro h1
  ·refine dr ?_;apply cP<;>intro h2
   ·refine dr ?_;rw [if_pos ⟨h1,h2⟩]<;>rfl
   ·have n1:¬ (op.kind=3∧e.dir=true):=by simp [h2]
    have n2:¬ (op.kind=4∧e.dir=false):=by omega
    rw [if_neg n1,if_neg n2];refine dr ?_;apply cP<;>intro h3
    ·omega
    ·refine dEr ?_;repeat (refine c0 (YJ W0 _ _ ht) rfl ?_; first|refine dEr ?_|exact dz)
     apply cP<;>intro h4
     ·refine dr ?_;rw [if_pos (by omega)]<;>rfl
     ·refine dr ?_;rw [if_neg (by omega)]<;>rfl
  ·have n1:¬ (op.kind=3∧e.dir=true):=fun h=>h1 h.1
   rw [if_neg n1];refine dr ?_;apply cP<;>intro h3
   ·refine dr ?_;apply cP<;>intro h2
    ·refine dr ?_;rw [if_pos ⟨h3,by simpa using h2⟩]<;>rfl
    ·rw [if_neg (fun h=>by rw [h.2] at h2; simp at h2)];refine dEr ?_;repeat (refine c0 (YJ W0 _ _ ht) rfl ?_; first|refine dEr ?_|exact dz)
     apply cP<;>intro h4
     ·refine dr ?_;rw [if_pos (by omega)]<;>rfl
     ·refine dr ?_;rw [if_neg (by omega)]<;>rfl
   ·rw [if_neg (fun h=>h3 h.1)];refine dEr ?_;repeat (refine c0 (YJ W0 _ _ ht) rfl ?_; first|refine dEr ?_|exact dz)
    apply cP<;>intro h4
    ·refine dr ?_;rw [if_pos (by omega)]<;>rfl
    ·refine dr ?_;rw [if_neg (by omega)]<;>rfl
def zgW:XC:=(.s (.r [.x1 3 1,.m1 4 (.i 0)]) (.s (.r [.mv 14 0,.f1 15 1 3,.l1 16 1 15,.c1 17 91 [14,16],.mv 13 17,.e1 18 13 0,.e1 19 13 1,.ex 5 (.alloc zE),.s1 3 5 18,.mv 6 19]) (.s (.r [.mv 20 0,.f1 21 2 3,.l1 22 1 21,.c1 23 167 [20,22],.mv 7 23]) (.s (.r [.mv 25 0,.f1 26 2 3,.l1 27 1 26,.c1 28 91 [25,27],.mv 24 28,.e1 29 24 0,.e1 30 24 1,.ex 8 (.alloc zE),.s1 3 8 29,.mv 9 30]) (.s (.blk 0 (.s (.r [.mv 32 6,.u1 33 32,.mv 31 33]) (.cnd 31 (.s (.r [.m1 4 (.i 2)]) .ret) (.s (.r [.mv 35 7,.b1 36 .neq 35 (.i 0),.mv 34 36]) (.cnd 34 (.s (.r [.mv 37 7,.mv 4 37]) .ret) (.s (.r [.mv 39 9,.mv 38 39]) (.cnd 38 (.s (.r [.m1 4 (.i 4)]) .ret) (.s (.r [.f1 41 2 3,.l1 42 1 41,.f1 43 1 3,.l1 44 1 43,.c1 45 162 [42,44],.mv 40 45]) (.cnd 40 (.s (.r [.m1 4 (.i 7)]) .ret) .skip))))))))) (.s (.s (.r [.m1 10 (.i 0)]) (.blk 1 (.loop (.s (.s (.r [.mv 46 10,.mv 47 0,.n1 48 47,.b1 49 .lss 46 48]) (.ce 49 1)) (.s (.blk 2 (.s (.d [.mv 53 0,.mv 54 10,.i1 55 3 53 54,.f1 56 0 55,.l1 57 1 56,.f1 58 1 3,.l1 59 1 58,.f1 60 2 3,.l1 61 1 60,.c1 62 168 [57,59,61],.mv 52 62,.e1 63 52 0,.e1 64 52 1,.mv 11 63,.mv 12 64]) (.s (.r [.mv 65 12,.u1 66 65]) (.cnd 66 (.s (.r [.m1 4 (.i 8)]) .ret) .skip)))) (.ic 50 51 10)))))) (.s (.r [.m1 4 (.i 0)]) .ret)))))))
theorem zgX:zh Tryz.prog [] 145=some (zgW.ac,[(.t 4)],67):=by kernel_rfl
theorem ziJ (W0:World) (t:List Ent) (op:Op) (ht:t.length≤1000000):Fn Tryz.prog W0 145 [ze t,eOp op] (.c (CI (movC t op))) []:=by
 refine fX mixed zgX fun hg=>?_
 have hc:=ym W0 t op.path;rw [ZB] at hc;have hc2:=ym W0 t op.dest;rw [ZB] at hc2;refine dEr ?_;repeat ((first|refine c0 hc rfl ?_|refine c0 hc2 rfl ?_|refine c0 (zbJ W0 _ _) rfl ?_); first|refine dEr ?_|exact dz)
 apply cP<;>intro h1;rotate_left
 ·have h1':(get t op.path).isSome=true:=by simpa using h1
  refine dr ?_;apply cP<;>intro h2
  ·refine dr ?_;rw [movC,if_neg (by simp [h1']),if_pos h2]
  have h2':¬ upC t op.dest≠0:=fun h=>h h2
  refine dr ?_;apply cP<;>intro h3
  ·refine dr ?_;rw [movC,if_neg (by simp [h1']),if_neg h2',if_pos h3]<;>rfl
  refine dEr ?_;repeat (refine c0 (Qv W0 _ _) rfl ?_; first|refine dEr ?_|exact dz)
  apply cP<;>intro h4
  ·refine dr ?_;rw [movC,if_neg (by simp [h1']),if_neg h2',if_neg (by simp [h3]),if_pos h4]<;>rfl
  have e:movC t op=if t.all (fun e=>(jp e.path op.path op.dest).isSome)=true then 0 else 8:=by rw [movC,if_neg (by simp [h1']),if_neg h2',if_neg (by simp [h3]),if_neg (by simp [h4])]
  rw [e];refine dr ?_;refine lp (σ:=Nat) (fun k=>[(0,.c (ze t)),(3,.ptr 48 0),(10,I k)]) (fun _=>[(48,.box [.c (CI op.kind),.c (CS op.path),.c (CS op.dest),.c (CS op.data)])]) (fun k=>k≤t.length∧(t.take k).all (fun e=>(jp e.path op.path op.dest).isSome)=true) (fun k=>t.length - k) 0 ⟨by simp,by simp⟩ ?_ ?_
  ·refine dr ?_;trivial
  rintro k ⟨hk,ha⟩;refine dr ?_;apply cP<;>intro h5
  ·have hk':k < t.length:=by omega
   have hp:=zbR W0 t[k].path op.path op.dest;rw [zbo] at hp;refine dEr ?_;repeat (refine c0 hp rfl ?_; first|refine dEr ?_|exact dz)
   apply cP<;>intro h6
   ·refine dr ?_;rw [if_neg (by rw [y0 hk' (by simpa using h6)]; simp)]<;>rfl
   ·refine dr ?_;refine ⟨k+1,⟨by omega,qg hk' ha (by simpa using h6)⟩,by omega,?_⟩;refine dr ?_;trivial
  ·have hkl:k=t.length:=by omega
   rw [hkl,List.take_length] at ha;refine dr ?_;rw [if_pos ha]<;>rfl
 ·refine dr ?_;rw [movC,if_pos (by simpa using h1)]<;>rfl
def zgH:XC:=(.s (.r [.x1 3 1,.m1 4 (.i 0)]) (.s (.s (.r [.f1 5 0 3,.l1 6 1 5]) (.blk 0 (.s (.r [.b1 8 .eql 6 (.i 1),.mv 7 8]) (.cnd 7 (.s (.r [.mv 9 0,.f1 10 1 3,.l1 11 1 10,.c1 12 143 [9,11],.mv 4 12]) .ret) (.s (.r [.b1 14 .eql 6 (.i 2),.mv 13 14]) (.cnd 13 (.s (.r [.mv 15 0,.f1 16 1 3,.l1 17 1 16,.c1 18 144 [15,17],.mv 4 18]) .ret) (.s (.r [.b1 20 .eql 6 (.i 5),.mv 19 20]) (.cnd 19 (.s (.r [.mv 21 0,.l2 22 4 3,.c1 23 145 [21,22],.mv 4 23]) .ret) .skip)))))))) (.s (.r [.mv 24 0,.l2 25 4 3,.c1 26 146 [24,25],.mv 4 26]) .ret)))
theorem zgI:zh Tryz.prog [] 109=some (zgH.ac,[(.t 4)],27):=by kernel_rfl
theorem ziG (W0:World) (t:List Ent) (op:Op) (ht:t.length≤1000000):Fn Tryz.prog W0 109 [ze t,eOp op] (.c (CI (qi t op))) []:=by
 refine fX mixed zgI fun hg=>?_
 refine dr ?_;apply cP<;>intro h1
 ·refine dEr ?_;repeat (refine c0 (zbG W0 _ _) rfl ?_; first|refine dEr ?_|exact dz)
  rw [qi,if_pos h1]
 refine dr ?_;apply cP<;>intro h2
 ·refine dEr ?_;repeat (refine c0 (ziM W0 _ _) rfl ?_; first|refine dEr ?_|exact dz)
  rw [qi,if_neg h1,if_pos h2]
 refine dr ?_;apply cP<;>intro h3
 ·refine dEr ?_;repeat (refine c0 (ziJ W0 _ op ht) rfl ?_; first|refine dEr ?_|exact dz)
  rw [qi,if_neg h1,if_neg h2,if_pos h3]
 refine dEr ?_;repeat (refine c0 (ziL W0 _ op ht) rfl ?_; first|refine dEr ?_|exact dz)
 rw [qi,if_neg h1,if_neg h2,if_neg h3]

def zg1:XC:=(.s (.r [.a2 4 3 77]) (.s (.r [.ex 7 .bsl0,.a1 5 7 3 77]) (.s (.s (.r [.m1 6 (.i 0)]) (.blk 0 (.loop (.s (.s (.r [.mv 8 6,.mv 9 0,.n1 10 9,.b1 11 .lss 8 10]) (.ce 11 0)) (.s (.blk 1 (.s (.r [.mv 14 0,.mv 15 6,.i1 16 3 14 15,.f1 17 0 16,.l1 18 1 17,.mv 19 1,.b1 20 .neq 18 19]) (.cnd 20 (.r [.mv 21 5,.mv 22 0,.mv 23 6,.i1 24 3 22 23,.l2 25 3 24,.ex 26 (.bsl 3 77 [25]),.ex 27 (.app false 3 40 77 21 26),.a1 5 27 3 77]) .skip))) (.ic 12 13 6)))))) (.s (.r [.mv 28 5,.a1 4 28 3 77]) .ret))))
theorem zg4:zh Tryz.prog [] 148=some (zg1.ac,[(.t 4)],29):=by kernel_rfl
theorem ziK (W0:World) (t:List Ent) (p:Str) (ht:t.length≤1000000):Fn Tryz.prog W0 148 [ze t,CS p] (.c (ze (offT t p))) []:=by
 refine fX mixed zg4 fun hg=>?_
 refine dr ?_;refine lp2 (fun (k:Nat) (out:List Ent)=>[(0,.c (ze t)),(1,.c (CS p)),(5,.own 80 out.length),(6,I k)]) (fun _ out=>[(80,.row (out.map eEnt) 3 77)]) (fun k out=>k≤t.length∧out=(t.take k).filter (fun e=>e.path != p)∧out.length≤k) (fun k _=>t.length - k) 0 [] ⟨by simp,rfl,by simp⟩ ?_ ?_
 ·refine dr ?_;trivial
 rintro k out ⟨hk,ho,hle⟩;refine dr ?_;apply cP<;>intro h1
 ·have hk':k < t.length:=by omega
  refine dr ?_;apply cP<;>intro h2
  ·refine dr ?_;repeat ((first|refine oB (by simp; omega) ?_|refine oB (by simp) ?_); first|refine dr ?_|exact dz)
   refine ⟨k+1,out++[t[k]],⟨by omega,by rw [Zb hk' (by simp [h2]),ho],by simp; omega⟩,by omega,?_⟩;refine dr ?_;repeat (refine oB (by simp<;>rfl) ?_; first|refine dr ?_|exact dz)
   trivial
  ·refine dr ?_;refine ⟨k+1,out,⟨by omega,by rw [Za hk' (by simp [h2]),ho],by omega⟩,by omega,?_⟩;refine dr ?_;trivial
 have hkl:k=t.length:=by omega
 rw [hkl,List.take_length] at ho;refine dr ?_;repeat (refine oB (by simp) ?_; first|refine dr ?_|exact dz)
 rw [offT,← ho]<;>rfl
def zgV:XC:=(.s (.r [.a2 6 3 77]) (.s (.r [.ex 10 .bsl0,.a1 7 10 3 77]) (.s (.s (.r [.m1 8 (.i 0)]) (.blk 0 (.loop (.s (.s (.r [.mv 11 8,.mv 12 0,.n1 13 12,.b1 14 .lss 11 13]) (.ce 14 0)) (.s (.blk 1 (.s (.r [.mv 17 0,.mv 18 8,.i1 19 3 17 18,.l2 20 3 19,.ex 9 (.alloc zE),.s1 3 9 20]) (.s (.r [.f1 22 0 9,.l1 23 1 22,.mv 24 1,.mv 25 2,.c1 26 168 [23,24,25],.mv 21 26,.e1 27 21 0,.e1 28 21 1,.f1 29 0 9,.s1 1 29 27]) (.r [.mv 30 7,.l2 31 3 9,.c1 32 130 [30,31],.a1 7 32 3 77])))) (.ic 15 16 8)))))) (.s (.r [.mv 33 7,.a1 6 33 3 77]) .ret))))
theorem zgY:zh Tryz.prog [] 147=some (zgV.ac,[(.t 6)],34):=by kernel_rfl
theorem ziI (W0:World) (t:List Ent) (f tq:Str) (ht:t.length≤1000000):Fn Tryz.prog W0 147 [ze t,CS f,CS tq] (.c (ze (movT t f tq))) []:=by
 refine fX mixed zgY fun hg=>?_
 refine dr ?_;refine lz2 112 (fun (k:Nat) (out:List Ent)=>[(0,.c (ze t)),(1,.c (CS f)),(2,.c (CS tq)),(7,.c (ze out)),(8,I k)]) (fun _ _=>[]) (fun k out=>k≤t.length∧out=(t.take k).foldl (fun out e=>put out (movE f tq e)) []∧out.length≤k) (fun k _=>t.length - k) 0 [] ⟨by simp,rfl,by simp⟩ ?_ ?_
 ·refine dr ?_;trivial
 rintro k out ⟨hk,ho,hle⟩;refine dr ?_;apply cP<;>intro h1
 ·have hk':k < t.length:=by omega
  have hn:(t.take (k+1)).foldl (fun out e=>put out (movE f tq e)) []=put out (movE f tq t[k]):=by rw [qj hk',← ho]
  have hpl:(put out (movE f tq t[k])).length≤out.length+1:=j3;have hp:=zbR W0 t[k].path f tq;rw [zbo] at hp;refine dEr ?_;repeat ((first|refine c0 hp rfl ?_|refine c0 (y8 W0 _ (movE f tq t[k]) (by omega)) rfl ?_); first|refine dEr ?_|exact dz)
  refine ⟨k+1,_,⟨by omega,hn.symm,by omega⟩,by omega,?_⟩;refine dr ?_;trivial
 have hkl:k=t.length:=by omega
 rw [hkl,List.take_length] at ho;refine dr ?_;rw [movT,← ho]
def zgN:XC:=(.s (.r [.x1 3 1,.a2 4 3 77]) (.s (.s (.r [.f1 5 0 3,.l1 6 1 5]) (.blk 0 (.s (.r [.b1 8 .eql 6 (.i 1),.mv 7 8]) (.cnd 7 (.s (.r [.mv 9 0,.f1 10 1 3,.l1 11 1 10,.ex 12 (.build zE [(0,(1,11)),(1,(1,.y))]),.c1 13 130 [9,12],.a1 4 13 3 77]) .ret) (.s (.r [.b1 15 .eql 6 (.i 2),.mv 14 15]) (.cnd 14 (.s (.r [.mv 16 0,.f1 17 1 3,.l1 18 1 17,.f1 19 3 3,.l1 20 1 19,.ex 21 (.build zE [(0,(1,18)),(2,(1,20))]),.c1 22 130 [16,21],.a1 4 22 3 77]) .ret) (.s (.r [.b1 24 .eql 6 (.i 5),.mv 23 24]) (.cnd 23 (.s (.r [.mv 25 0,.f1 26 1 3,.l1 27 1 26,.f1 28 2 3,.l1 29 1 28,.c1 30 147 [25,27,29],.a1 4 30 3 77]) .ret) .skip)))))))) (.s (.r [.mv 31 0,.f1 32 1 3,.l1 33 1 32,.c1 34 148 [31,33],.a1 4 34 3 77]) .ret)))
theorem zgO:zh Tryz.prog [] 110=some (zgN.ac,[(.t 4)],35):=by kernel_rfl
theorem ziH (W0:World) (t:List Ent) (op:Op) (ht:t.length≤100000):Fn Tryz.prog W0 110 [ze t,eOp op] (.c (ze (doT t op))) []:=by
 refine fX mixed zgO fun hg=>?_
 refine dr ?_;apply cP<;>intro h1
 ·refine dEr ?_;repeat (refine c0 (y8 W0 _ ⟨op.path,true,[]⟩ (by omega)) rfl ?_; first|refine dEr ?_|exact dz)
  rw [doT,if_pos h1]
 refine dr ?_;apply cP<;>intro h2
 ·refine dEr ?_;repeat (refine c0 (y8 W0 _ ⟨op.path,false,op.data⟩ (by omega)) rfl ?_; first|refine dEr ?_|exact dz)
  rw [doT,if_neg h1,if_pos h2]
 refine dr ?_;apply cP<;>intro h3
 ·refine dEr ?_;repeat (refine c0 (ziI W0 _ _ _ (by omega)) rfl ?_; first|refine dEr ?_|exact dz)
  rw [doT,if_neg h1,if_neg h2,if_pos h3]
 refine dEr ?_;repeat (refine c0 (ziK W0 _ _ (by omega)) rfl ?_; first|refine dEr ?_|exact dz)
 rw [doT,if_neg h1,if_neg h2,if_neg h3]
def zgl:XC:=(.s (.r [.x1 3 1,.a2 4 3 77,.m1 5 (.i 0)]) (.s (.s (.r [.mv 7 0,.c1 8 88 [7],.u1 9 8]) (.cnd 9 (.s (.r [.ex 10 .bsl0,.a1 4 10 3 77,.m1 5 (.i 1)]) .ret) .skip)) (.s (.s (.r [.l2 11 4 3,.c1 12 108 [11],.u1 13 12]) (.cnd 13 (.s (.r [.ex 14 .bsl0,.mv 15 0,.ex 16 (.app true 3 40 77 14 15),.a1 4 16 3 77,.m1 5 (.i 1)]) .ret) .skip)) (.s (.r [.mv 17 0,.l2 18 4 3,.c1 19 109 [17,18],.mv 6 19]) (.s (.s (.r [.mv 20 6,.b1 21 .neq 20 (.i 0)]) (.cnd 21 (.s (.r [.ex 22 .bsl0,.mv 23 0,.ex 24 (.app true 3 40 77 22 23),.mv 25 6,.a1 4 24 3 77,.mv 5 25]) .ret) .skip)) (.s (.r [.mv 26 0,.l2 27 4 3,.c1 28 110 [26,27],.mv 29 6,.a1 4 28 3 77,.mv 5 29]) .ret))))))
theorem zgm:zh Tryz.prog [] 73=some (zgl.ac,[(.t 4),(.t 5)],30):=by kernel_rfl
theorem YP (W0:World) (t:List Ent) (op:Op):Fn Tryz.prog W0 73 [ze t,eOp op] (.c (eTD (zR t op))) []:=by
 refine fX mixed zgm fun hg=>?_
 refine dEr ?_;repeat (refine c0 (YQ W0 _) rfl ?_; first|refine dEr ?_|exact dz)
 apply cP<;>intro h1
 ·refine dr ?_;repeat (refine oB (by simp) ?_; first|refine dr ?_|exact dz)
  rw [zR,if_neg (by simp [h1])]<;>rfl
 have hl:=(qu h1).1;rw [zR,if_pos h1];refine dEr ?_;repeat (refine c0 (zi4 W0 op) rfl ?_; first|refine dEr ?_|exact dz)
 apply cP<;>intro h2
 ·refine dr ?_;repeat ((first|refine oB (by simp; omega) ?_|refine oB (by simp) ?_); first|refine dr ?_|exact dz)
  rw [if_neg (by simp [h2])]<;>rfl
 rw [if_pos h2];refine dEr ?_;repeat (refine c0 (ziG W0 t op (by omega)) rfl ?_; first|refine dEr ?_|exact dz)
 apply cP<;>intro h3
 ·refine dr ?_;repeat ((first|refine oB (by simp; omega) ?_|refine oB (by simp) ?_); first|refine dr ?_|exact dz)
  rw [if_neg h3]<;>rfl
 ·refine dEr ?_;repeat (refine c0 (ziH W0 t op (by omega)) rfl ?_; first|refine dEr ?_|exact dz)
  rw [if_pos h3,h3]<;>rfl

def zhr:XC:=(.s (.r [.m1 4 (.i 0)]) (.s (.s (.r [.m1 5 (.i 0)]) (.blk 0 (.loop (.s (.s (.r [.mv 6 5,.mv 7 0,.n1 8 7,.b1 9 .lss 6 8]) (.ce 9 0)) (.s (.blk 1 (.s (.r [.mv 12 0,.mv 13 5,.i1 14 3 12 13,.f1 15 0 14,.l1 16 1 15,.mv 17 1,.b1 18 .eql 16 17]) (.cnd 18 (.s (.r [.mv 19 5,.mv 4 19]) .ret) .skip))) (.ic 10 11 5)))))) (.s (.r [.ex 4 (.mv (.k (.c (.sc (.int .i64 (.negSucc 0))))))]) .ret)))
theorem zhs:zh Tryz.prog [] 161=some (zhr.ac,[(.t 4)],20):=by kernel_rfl
theorem ziQ (W0:World) (t:List Mark) (p:Str):Fn Tryz.prog W0 161 [zg t,CS p] (.c (CI (midx t p))) []:=by
 refine fX mixed zhs fun hg=>?_
 have g1:=jL (hg _ (by simp:zg t∈_));refine dr ?_;refine lp (σ:=Nat) (fun k=>[(0,.c (zg t)),(1,.c (CS p)),(5,I k)]) (fun _=>[]) (fun k=>k≤t.length∧∀ i (h':i < t.length),i < k→t[i].path≠p) (fun k=>t.length - k) 0 ⟨by simp,by simp⟩ ?_ ?_
 ·refine dr ?_;trivial
 rintro k ⟨hk,ha⟩;refine dr ?_;apply cP<;>intro h1
 ·refine dr ?_;apply cP<;>intro h2
  ·refine dr ?_;rw [zj9 (by omega) h2 ha]
  ·refine dr ?_;refine ⟨k+1,⟨by omega,fun i h' hi=>?_⟩,by omega,?_⟩
   ·by_cases e:i=k
    ·subst e; exact h2
    ·exact ha i h' (by omega)
   ·refine dr ?_;trivial
 ·refine dr ?_;rw [zka fun i h'=>ha i h' (by omega)]; rfl
def zhz:XC:=(.s (.r [.m1 4 (.i 0)]) (.s (.r [.mv 6 0,.mv 7 1,.c1 8 161 [6,7],.mv 5 8]) (.s (.s (.r [.mv 9 5,.b1 10 .lss 9 (.i 0)]) (.cnd 10 (.s (.r [.m1 4 (.i 0)]) .ret) .skip)) (.s (.r [.mv 11 0,.mv 12 5,.i1 13 3 11 12,.f1 14 1 13,.l1 15 1 14,.mv 4 15]) .ret))))
theorem zhA:zh Tryz.prog [] 133=some (zhz.ac,[(.t 4)],16):=by kernel_rfl
theorem Qy (W0:World) (t:List Mark) (p:Str):Fn Tryz.prog W0 133 [zg t,CS p] (.c (CI (kind t p))) []:=by
 refine fX mixed zhA fun hg=>?_
 refine dr ?_;repeat (refine c0 (ziQ W0 t p) rfl ?_; first|refine dr ?_|exact dz)
 intro hg1;rcases zae t p with ⟨e1,e2,_⟩ | ⟨j,hj,e1,e2,_⟩
 ·rw [kind,e1,e2];refine dr ?_;apply cP<;>intro h2
  ·exact dz
  ·omega
 ·rw [kind,e1,e2];refine dr ?_;apply cP<;>intro h2
  ·omega
  ·exact dz
def zhj:XC:=(.s (.r [.m1 4 .n]) (.s (.s (.r [.m1 5 (.i 0)]) (.blk 0 (.loop (.s (.s (.r [.mv 6 5,.mv 7 0,.n1 8 7,.b1 9 .lss 6 8]) (.ce 9 0)) (.s (.blk 1 (.s (.r [.mv 12 0,.mv 13 5,.i1 14 3 12 13,.f1 15 1 14,.l1 16 1 15,.b1 17 .eql 16 (.i 4),.mv 18 17,.g3 19 1 18,.g3 20 0 18,.g3 21 5 18,.gt 22 (.ia 3 20 21) 18,.g1 23 0 22 18,.g2 24 1 23 18,.gt 25 (.call 162 [19,24]) 18,.p2 26 18 25]) (.cnd 26 (.rt 4) .skip))) (.ic 10 11 5)))))) (.rf 4)))
theorem zhk:zh Tryz.prog [] 135=some (zhj.ac,[(.t 4)],27):=by kernel_rfl
theorem Jw (W0:World) (t:List Mark) (p:Str):Fn Tryz.prog W0 135 [zg t,CS p] (.c (CB (zJ t p))) []:=by
 refine fX mixed zhk fun hg=>?_
 have g1:=jL (hg _ (by simp:zg t∈_));refine dr ?_;refine lp (σ:=Nat) (fun k=>[(0,.c (zg t)),(1,.c (CS p)),(5,I k)]) (fun _=>[]) (fun k=>k≤t.length∧zJ (t.take k) p=false) (fun k=>t.length - k) 0 ⟨by simp,by simp [zJ]⟩ ?_ ?_
 ·refine dr ?_;trivial
 rintro k ⟨hk,ha⟩;refine dr ?_;apply cP<;>intro h1
 ·have hk':k < t.length:=by omega
  have no:(t[k].kind==4&&und p t[k].path)=false→zJ (t.take (k+1)) p=false:=fun h=>by
   rw [zJ] at ha ⊢;rw [List.take_succ_eq_append_getElem hk',List.any_append,ha]; simpa using h
  have yes:(t[k].kind==4&&und p t[k].path)=true→CB true=CB (zJ t p):=fun h=>bT (by
   rw [zJ,List.any_eq_true]; exact ⟨t[k],List.getElem_mem hk',h⟩)
  refine dr ?_;apply cP<;>intro h2
  ·refine dEr ?_;repeat (refine c0 (Qv W0 _ _) rfl ?_; first|refine dEr ?_|exact dz)
   apply cP<;>intro h3
   ·refine dr ?_;exact yes (by simp [h2,h3])
   ·refine dr ?_;refine ⟨k+1,⟨by omega,no (by simp [h3])⟩,by omega,?_⟩;refine dr ?_;trivial
  ·refine dr ?_;refine ⟨k+1,⟨by omega,no (by simp [h2])⟩,by omega,?_⟩;refine dr ?_;trivial
 ·refine dr ?_;have:k=t.length:=by omega
  subst this;rw [List.take_length] at ha;rw [ha]
def zhv:XC:=(.s (.r [.m1 4 .n]) (.s (.r [.mv 7 1,.c1 8 93 [7],.mv 5 8]) (.s (.r [.mv 9 0,.mv 10 5,.c1 11 133 [9,10],.mv 6 11]) (.s (.r [.mv 12 5,.ex 13 (.bin .eql 12 (.s [47])),.mv 14 13,.h3 15 6 14,.gf 16 (.bin .eql 15 (.i 2)) 14,.p1 17 14 16,.mv 18 17,.h3 19 6 18,.gf 20 (.bin .eql 19 (.i 4)) 18,.p1 21 18 20,.mv 4 21]) .ret))))
theorem zhw:zh Tryz.prog [] 134=some (zhv.ac,[(.t 4)],22):=by kernel_rfl
theorem Qx (W0:World) (t:List Mark) (p:Str):Fn Tryz.prog W0 134 [zg t,CS p] (.c (CB (inD t p))) []:=by
 refine fX mixed zhw fun hg=>?_
 refine dr ?_;repeat (refine c0 (qV W0 _) rfl ?_; first|refine dr ?_|exact dz)
 intro hg1;refine dr ?_;repeat (refine c0 (Qy W0 _ _) rfl ?_; first|refine dr ?_|exact dz)
 intro hg1;refine dr ?_;apply cP<;>intro h1
 ·refine dr ?_;exact bT (by simp [inD,h1])
 ·refine dr ?_;apply cP<;>intro h2
  ·refine dr ?_;exact bT (by simp [inD,h2])
  ·refine dr ?_;refine congrArg CB ?_;rw [Bool.eq_iff_iff]; simp [inD,h1,h2,ZF]
def zht:XC:=(.s (.r [.m1 4 .n]) (.s (.s (.r [.m1 5 (.i 0)]) (.blk 0 (.loop (.s (.s (.r [.mv 6 5,.mv 7 0,.n1 8 7,.b1 9 .lss 6 8]) (.ce 9 0)) (.s (.blk 1 (.s (.r [.mv 12 0,.mv 13 5,.i1 14 3 12 13,.f1 15 0 14,.l1 16 1 15,.mv 17 1,.b1 18 .eql 16 17,.mv 19 18,.g3 20 0 19,.g3 21 5 19,.gt 22 (.ia 3 20 21) 19,.g1 23 1 22 19,.g2 24 1 23 19,.gt 25 (.bin .neq 24 (.i 2)) 19,.p2 26 19 25,.mv 27 26,.h3 28 0 27,.h3 29 5 27,.gf 30 (.ia 3 28 29) 27,.h1 31 1 30 27,.h2 32 1 31 27,.gf 33 (.bin .neq 32 (.i 2)) 27,.h3 34 33 27,.g3 35 1 34,.g3 36 0 34,.g3 37 5 34,.gt 38 (.ia 3 36 37) 34,.g1 39 0 38 34,.g2 40 1 39 34,.gt 41 (.call 162 [35,40]) 34,.gf 42 (.pick 34 41 .n) 27,.p1 43 27 42]) (.cnd 43 (.rt 4) .skip))) (.ic 10 11 5)))))) (.rf 4)))
theorem zhu:zh Tryz.prog [] 136=some (zht.ac,[(.t 4)],44):=by kernel_rfl
theorem zbL (W0:World) (t:List Mark) (p:Str):Fn Tryz.prog W0 136 [zg t,CS p] (.c (CB (zw t p))) []:=by
 refine fX mixed zhu fun hg=>?_
 have g1:=jL (hg _ (by simp:zg t∈_));refine dr ?_;refine lp (σ:=Nat) (fun k=>[(0,.c (zg t)),(1,.c (CS p)),(5,I k)]) (fun _=>[]) (fun k=>k≤t.length∧zw (t.take k) p=false) (fun k=>t.length - k) 0 ⟨by simp,by simp [zw]⟩ ?_ ?_
 ·refine dr ?_;trivial
 rintro k ⟨hk,ha⟩;refine dr ?_;apply cP<;>intro h1
 ·have hk':k < t.length:=by omega
  have no:hidP p t[k]=false→zw (t.take (k+1)) p=false:=fun h=>by
   rw [zw] at ha ⊢;rw [List.take_succ_eq_append_getElem hk',List.any_append,ha]; simpa using h
  have yes:hidP p t[k]=true→CB true=CB (zw t p):=fun h=>bT (by
   rw [zw,List.any_eq_true]; exact ⟨t[k],List.getElem_mem hk',h⟩)
  refine dr ?_;have nx:hidP p t[k]=false→∃ x',(x'≤t.length∧zw (t.take x') p=false)∧x'=k+1:=fun h=>⟨k+1,⟨by omega,no h⟩,rfl⟩
  apply cP<;>intro h2
  ·refine dr ?_;apply cP<;>intro h3
   ·refine dr ?_;exact yes (by simp [hidP,h2,h3])
   ·refine dr ?_;apply cP<;>intro h4
    ·omega
    ·refine dr ?_;refine ⟨k+1,⟨by omega,no (by simp [hidP,h3])⟩,by omega,?_⟩;refine dr ?_;trivial
  ·refine dr ?_;apply cP<;>intro h3
   ·refine dEr ?_;repeat (refine c0 (Qv W0 _ _) rfl ?_; first|refine dEr ?_|exact dz)
    apply cP<;>intro h5
    ·refine dr ?_;exact yes (by simp [hidP,h3,h5])
    ·refine dr ?_;refine ⟨k+1,⟨by omega,no (by simp [hidP,h2,h5])⟩,by omega,?_⟩;refine dr ?_;trivial
   ·refine dr ?_;refine ⟨k+1,⟨by omega,no (by simp [hidP,h3])⟩,by omega,?_⟩;refine dr ?_;trivial
 ·refine dr ?_;have:k=t.length:=by omega
  subst this;rw [List.take_length] at ha;rw [ha]
def zfV:XC:=(.s (.r [.m1 2 .n]) (.s (.s (.r [.m1 3 (.i 0)]) (.blk 0 (.loop (.s (.s (.r [.mv 5 3,.mv 6 0,.n1 7 6,.b1 8 .lss 5 7]) (.ce 8 0)) (.s (.blk 1 (.s (.r [.mv 11 0,.mv 12 3,.i1 13 3 11 12,.l2 14 3 13,.ex 4 (.alloc [sE,(I 0),sE]),.s1 3 4 14]) (.s (.s (.r [.f1 15 1 4,.l1 16 1 15,.b1 17 .lss 16 (.i 1),.mv 18 17,.h1 19 1 4 18,.h2 20 1 19 18,.gf 21 (.bin .gtr 20 (.i 4)) 18,.p1 22 18 21,.mv 23 22,.h1 24 0 4 23,.h2 25 1 24 23,.gf 26 (.call 127 [25]) 23,.gf 27 (.un .not 26) 23,.p1 28 23 27,.mv 29 28,.h1 30 2 4 29,.h2 31 1 30 29,.gf 32 (.call 128 [31]) 29,.gf 33 (.un .not 32) 29,.p1 34 29 33,.mv 35 34,.h1 36 1 4 35,.h2 37 1 36 35,.gf 38 (.bin .neq 37 (.i 1)) 35,.h3 39 38 35,.g1 40 2 4 39,.g2 41 1 40 39,.gt 42 (.bin .neq 41 (.s [])) 39,.gf 43 (.pick 39 42 .n) 35,.p1 44 35 43]) (.cnd 44 (.rf 2) .skip)) (.s (.s (.d [.mv 45 3,.b1 46 .gtr 45 (.i 0),.mv 47 46,.g3 48 0 47,.g3 49 3 47,.gt 50 (.bin .sub 49 (.i 1)) 47,.gt 51 (.ia 3 48 50) 47,.g1 52 0 51 47,.g2 53 1 52 47,.g1 54 0 4 47,.g2 55 1 54 47,.gt 56 (.bin .geq 53 55) 47,.p2 57 47 56,.mv 58 57,.h3 59 0 58,.h3 60 3 58,.gf 61 (.slr 3 59 .none (.some 60)) 58,.h1 62 0 4 58,.h2 63 1 62 58,.gf 64 (.call 134 [61,63]) 58,.gf 65 (.un .not 64) 58,.p1 66 58 65]) (.cnd 66 (.rf 2) .skip)) (.s (.d [.f1 67 1 4,.l1 68 1 67,.b1 69 .gtr 68 (.i 2),.mv 70 69,.g3 71 0 70,.g3 72 3 70,.gt 73 (.slr 3 71 .none (.some 72)) 70,.g1 74 0 4 70,.g2 75 1 74 70,.gt 76 (.call 135 [73,75]) 70,.p2 77 70 76]) (.cnd 77 (.rf 2) .skip)))))) (.ic 9 10 3)))))) (.s (.r [.mv 78 0,.n1 79 78,.b1 80 .leq 79 (.i 32),.mv 2 80]) .ret)))
theorem zfW:zh Tryz.prog [] 101=some (zfV.ac,[(.t 2)],81):=by kernel_rfl
theorem Jx (W0:World) (t:List Mark):Fn Tryz.prog W0 101 [zg t] (.c (CB (lOk t))) []:=by
 refine fX mixed zfW fun hg=>?_
 have g1:=jL (hg _ (by simp:zg t∈_));refine dr ?_;refine lp (σ:=Nat) (fun k=>[(0,.c (zg t)),(3,I k)]) (fun _=>[]) (fun k=>k≤t.length∧∀ j (h:j < t.length),j < k→zV (t.take j) t[j]=true) (fun k=>t.length - k) 0 ⟨by simp,by simp⟩ ?_ ?_
 ·refine dr ?_;trivial
 rintro k ⟨hk,ha⟩;refine dr ?_;apply cP<;>intro h2;rotate_left
 ·refine dr ?_;refine congrArg CB ?_;rw [lOk,QT.2 fun j h=>ha j h (by omega),Bool.eq_iff_iff]; simp [JG]; omega
 have hk':k < t.length:=by omega
 have no:zV (t.take k) t[k]=false→CB false=CB (lOk t):=fun h=>bF (by
  rw [lOk,Bool.and_eq_false_iff]; right;rw [Bool.eq_false_iff]; intro e;have:=QT.1 e k hk';rw [h] at this; cases this)
 refine dr ?_;apply cP<;>intro h3
 ·refine dr ?_;exact no (by simp [zV]; omega)
 refine dr ?_;apply cP<;>intro h4
 ·refine dr ?_;exact no (by simp [zV]; omega)
 have h34:(decide (1≤t[k].kind)&&decide (t[k].kind≤4))=true:=by simp; omega
 refine dr ?_;repeat (refine c0 (qE W0 _) rfl ?_; first|refine dr ?_|exact dz)
 apply cP<;>intro h5
 ·refine dr ?_;exact no (by simp [zV,h5])
 refine dr ?_;repeat (refine c0 (YI W0 _) rfl ?_; first|refine dr ?_|exact dz)
 apply cP<;>intro h6
 ·refine dr ?_;exact no (by simp [zV,h6])
 refine dr ?_;apply cP<;>intro h70
 ·refine dr ?_;apply cP<;>intro h71
  ·refine dr ?_;exact no (by simp [zV,h70,h71])
  ·have h7:(!(t[k].kind != 1&&t[k].data != []))=true:=by simp [h71]
   clear h71;refine dr ?_;apply cP<;>intro h8
   ·have hl:(t.take k).getLast? = some t[k - 1]:=by
     rw [List.getLast?_take,if_neg (by omega),List.getElem?_eq_getElem (by omega)];rfl
    refine dr ?_;repeat (refine aM (j:=k - 1) (by omega) (by omega) ?_; first|refine dr ?_|exact dz)
    cases hlt:ltS t[k - 1].path t[k].path
    ·refine dr ?_;exact no (by simp [zV,qJ,hl,hlt])
    ·have hlast:qJ (t.take k) t[k].path=true:=by rw [qJ,hl]; exact hlt
     refine dEr ?_;repeat ((first|refine sHiM k rfl (by omega) ?_|refine c0 (Qx W0 (t.take k) _) rfl ?_); first|refine dEr ?_|exact dz)
     apply cP<;>intro h9
     ·refine dr ?_;exact no (by simp [zV,h9])
     ·refine dr ?_;apply cP<;>intro h10
      ·refine dEr ?_;repeat ((first|refine sHiM k rfl (by omega) ?_|refine c0 (Jw W0 (t.take k) _) rfl ?_); first|refine dEr ?_|exact dz)
       apply cP<;>intro h11
       ·refine dr ?_;exact no (by simp [zV,h10,h11])
       ·refine dr ?_;refine ⟨k+1,⟨by omega,fun j h hj=>?_⟩,by omega,?_⟩
        ·by_cases e:j=k
         ·subst e; rw [zV,h34,h5,h6,h7,hlast,h9,h11]; simp
         ·exact ha j h (by omega)
        ·refine dr ?_;trivial
      ·refine dr ?_;refine ⟨k+1,⟨by omega,fun j h hj=>?_⟩,by omega,?_⟩
       ·by_cases e:j=k
        ·subst e; rw [zV,h34,h5,h6,h7,hlast,h9]; simp; omega
        ·exact ha j h (by omega)
       ·refine dr ?_;trivial
   ·have hlast:qJ (t.take k) t[k].path=true:=by
     have hk0:k=0:=by omega
     subst hk0; rfl
    refine dEr ?_;repeat ((first|refine sHiM k rfl (by omega) ?_|refine c0 (Qx W0 (t.take k) _) rfl ?_); first|refine dEr ?_|exact dz)
    apply cP<;>intro h9
    ·refine dr ?_;exact no (by simp [zV,h9])
    ·refine dr ?_;apply cP<;>intro h10
     ·refine dEr ?_;repeat ((first|refine sHiM k rfl (by omega) ?_|refine c0 (Jw W0 (t.take k) _) rfl ?_); first|refine dEr ?_|exact dz)
      apply cP<;>intro h11
      ·refine dr ?_;exact no (by simp [zV,h10,h11])
      ·refine dr ?_;refine ⟨k+1,⟨by omega,fun j h hj=>?_⟩,by omega,?_⟩
       ·by_cases e:j=k
        ·subst e; rw [zV,h34,h5,h6,h7,hlast,h9,h11]; simp
        ·exact ha j h (by omega)
       ·refine dr ?_;trivial
     ·refine dr ?_;refine ⟨k+1,⟨by omega,fun j h hj=>?_⟩,by omega,?_⟩
      ·by_cases e:j=k
       ·subst e; rw [zV,h34,h5,h6,h7,hlast,h9]; simp; omega
       ·exact ha j h (by omega)
      ·refine dr ?_;trivial
 ·have h7:(!(t[k].kind != 1&&t[k].data != []))=true:=by simp [h70]
  refine dr ?_;apply cP<;>intro h8
  ·have hl:(t.take k).getLast? = some t[k - 1]:=by
    rw [List.getLast?_take,if_neg (by omega),List.getElem?_eq_getElem (by omega)];rfl
   refine dr ?_;repeat (refine aM (j:=k - 1) (by omega) (by omega) ?_; first|refine dr ?_|exact dz)
   cases hlt:ltS t[k - 1].path t[k].path
   ·refine dr ?_;exact no (by simp [zV,qJ,hl,hlt])
   ·have hlast:qJ (t.take k) t[k].path=true:=by rw [qJ,hl]; exact hlt
    refine dEr ?_;repeat ((first|refine sHiM k rfl (by omega) ?_|refine c0 (Qx W0 (t.take k) _) rfl ?_); first|refine dEr ?_|exact dz)
    apply cP<;>intro h9
    ·refine dr ?_;exact no (by simp [zV,h9])
    ·refine dr ?_;apply cP<;>intro h10
     ·refine dEr ?_;repeat ((first|refine sHiM k rfl (by omega) ?_|refine c0 (Jw W0 (t.take k) _) rfl ?_); first|refine dEr ?_|exact dz)
      apply cP<;>intro h11
      ·refine dr ?_;exact no (by simp [zV,h10,h11])
      ·refine dr ?_;refine ⟨k+1,⟨by omega,fun j h hj=>?_⟩,by omega,?_⟩
       ·by_cases e:j=k
        ·subst e; rw [zV,h34,h5,h6,h7,hlast,h9,h11]; simp
        ·exact ha j h (by omega)
       ·refine dr ?_;trivial
     ·refine dr ?_;refine ⟨k+1,⟨by omega,fun j h hj=>?_⟩,by omega,?_⟩
      ·by_cases e:j=k
       ·subst e; rw [zV,h34,h5,h6,h7,hlast,h9]; simp; omega
       ·exact ha j h (by omega)
      ·refine dr ?_;trivial
  ·have hlast:qJ (t.take k) t[k].path=true:=by
    have hk0:k=0:=by omega
    subst hk0; rfl
   refine dEr ?_;repeat ((first|refine sHiM k rfl (by omega) ?_|refine c0 (Qx W0 (t.take k) _) rfl ?_); first|refine dEr ?_|exact dz)
   apply cP<;>intro h9
   ·refine dr ?_;exact no (by simp [zV,h9])
   ·refine dr ?_;apply cP<;>intro h10
    ·refine dEr ?_;repeat ((first|refine sHiM k rfl (by omega) ?_|refine c0 (Jw W0 (t.take k) _) rfl ?_); first|refine dEr ?_|exact dz)
     apply cP<;>intro h11
     ·refine dr ?_;exact no (by simp [zV,h10,h11])
     ·refine dr ?_;refine ⟨k+1,⟨by omega,fun j h hj=>?_⟩,by omega,?_⟩
      ·by_cases e:j=k
       ·subst e; rw [zV,h34,h5,h6,h7,hlast,h9,h11]; simp
       ·exact ha j h (by omega)
      ·refine dr ?_;trivial
    ·refine dr ?_;refine ⟨k+1,⟨by omega,fun j h hj=>?_⟩,by omega,?_⟩
     ·by_cases e:j=k
      ·subst e; rw [zV,h34,h5,h6,h7,hlast,h9]; simp; omega
      ·exact ha j h (by omega)
     ·refine dr ?_;trivial

def zhD:XC:=(.s (.r [.a2 4 3 77]) (.s (.r [.ex 8 .bsl0,.a1 5 8 3 77]) (.s (.s (.r [.m1 6 (.i 0)]) (.blk 0 (.loop (.s (.s (.r [.mv 9 6,.mv 10 1,.n1 11 10,.b1 12 .lss 9 11]) (.ce 12 0)) (.s (.blk 1 (.s (.r [.mv 15 0,.mv 16 1,.mv 17 6,.i1 18 3 16 17,.f1 19 0 18,.l1 20 1 19,.c1 21 136 [15,20],.u1 22 21]) (.cnd 22 (.r [.mv 23 5,.mv 24 1,.mv 25 6,.i1 26 3 24 25,.l2 27 3 26,.ex 28 (.bsl 3 77 [27]),.ex 29 (.app false 3 40 77 23 28),.a1 5 29 3 77]) .skip))) (.ic 13 14 6)))))) (.s (.s (.r [.m1 7 (.i 0)]) (.blk 2 (.loop (.s (.s (.r [.mv 30 7,.mv 31 0,.n1 32 31,.b1 33 .lss 30 32]) (.ce 33 2)) (.s (.blk 3 (.s (.r [.mv 36 0,.mv 37 7,.i1 38 3 36 37,.f1 39 1 38,.l1 40 1 39]) (.blk 4 (.s (.r [.b1 42 .eql 40 (.i 1),.mv 41 42]) (.cnd 41 (.d [.mv 43 5,.mv 44 0,.mv 45 7,.i1 46 3 44 45,.f1 47 0 46,.l1 48 1 47,.mv 49 0,.mv 50 7,.i1 51 3 49 50,.f1 52 2 51,.l1 53 1 52,.ex 54 (.build zE [(0,(1,48)),(2,(1,53))]),.c1 55 130 [43,54],.a1 5 55 3 77]) (.s (.s (.r [.b1 57 .eql 40 (.i 2),.mv 56 57]) (.cnd 56 .skip (.r [.b1 58 .eql 40 (.i 4),.mv 56 58]))) (.cnd 56 (.r [.mv 59 5,.mv 60 0,.mv 61 7,.i1 62 3 60 61,.f1 63 0 62,.l1 64 1 63,.ex 65 (.build zE [(0,(1,64)),(1,(1,.y))]),.c1 66 130 [59,65],.a1 5 66 3 77]) .skip))))))) (.ic 34 35 7)))))) (.s (.r [.mv 67 5,.a1 4 67 3 77]) .ret)))))
theorem zhE:zh Tryz.prog [] 129=some (zhD.ac,[(.t 4)],68):=by kernel_rfl
theorem ziS (W0:World) (l:List Mark) (t:List Ent) (ht:t.length+l.length≤1000000):Fn Tryz.prog W0 129 [zg l,ze t] (.c (ze (zW l t))) []:=by
 refine fX mixed zhE fun hg=>?_
 refine dr ?_;refine lp (σ:=Nat) (fun k=>[(0,.c (zg l)),(1,.c (ze t)),(5,.own 80 ((t.take k).filter fun e=>!zw l e.path).length),(6,I k)]) (fun k=>[(80,.row (((t.take k).filter fun e=>!zw l e.path).map eEnt) 3 77)]) (fun k=>k≤t.length) (fun k=>t.length - k) 0 (by simp) ?_ ?_
 ·refine dr ?_;trivial
 intro k hk;have hfl:=zbX (q:=fun e:Ent=>!zw l e.path) (l:=t) (k:=k);refine dr ?_;apply cP<;>intro h1
 ·have hk':k < t.length:=by omega
  refine dEr ?_;repeat (refine c0 (zbL W0 _ _) rfl ?_; first|refine dEr ?_|exact dz)
  apply cP<;>intro h2
  ·refine dr ?_;repeat ((first|refine oB (by simp; omega) ?_|refine oB (by simp) ?_); first|refine dr ?_|exact dz)
   refine ⟨k+1,by omega,by omega,?_⟩;refine dr ?_;repeat (refine oB (by rw [Zb hk' (by simp [h2])]; simp) ?_; first|refine dr ?_|exact dz)
   trivial
  ·refine dr ?_;refine ⟨k+1,by omega,by omega,?_⟩;refine dr ?_;repeat (refine oB (by rw [Za hk' (by simp [h2])]) ?_; first|refine dr ?_|exact dz)
   trivial
 have hkl:k=t.length:=by omega
 subst hkl;rw [List.take_length] at hfl ⊢;have hR:zW l t=l.foldl onP (t.filter fun e=>!zw l e.path):=rfl;rw [hR];generalize (t.filter fun e=>!zw l e.path)=t0 at *;refine dr ?_;refine lz (σ:=Nat) 80 (fun k=>[(0,.c (zg l)),(1,.c (ze t)),(5,.c (ze ((l.take k).foldl onP t0))),(7,I k)]) (fun _=>[]) (fun k=>k≤l.length) (fun k=>l.length - k) 0 (by simp) ?_ ?_
 ·refine dr ?_;repeat (refine oB (by simp) ?_; first|refine dr ?_|exact dz)
  trivial
 clear h1;intro k hk;have hlk:=zci (l.take k) t0;have hlk2:=List.length_take_le' k l;refine dr ?_;apply cP<;>intro h1
 ·have hk':k < l.length:=by omega
  refine dr ?_;apply cP<;>intro h2
  ·refine dr ?_;repeat (refine c0 (y8 W0 _ ⟨_,_,_⟩ (by omega)) rfl ?_; first|refine dr ?_|exact dz)
   intro hg1;refine dr ?_;refine ⟨k+1,by omega,by omega,?_⟩;refine dr ?_;repeat (refine oB (by rw [qj hk',onP,if_pos h2]) ?_; first|refine dr ?_|exact dz)
   trivial
  ·refine dr ?_;apply cP<;>intro h3
   ·refine dr ?_;apply cP<;>intro h30;rotate_left
    ·omega
    refine dr ?_;repeat (refine c0 (y8 W0 _ ⟨_,_,_⟩ (by omega)) rfl ?_; first|refine dr ?_|exact dz)
    intro hg1;refine dr ?_;refine ⟨k+1,by omega,by omega,?_⟩;refine dr ?_;repeat (refine oB (by rw [qj hk',onP,if_neg h2,if_pos (.inl h3)]) ?_; first|refine dr ?_|exact dz)
    trivial
   ·refine dr ?_;apply cP<;>intro h4
    ·refine dr ?_;repeat (refine c0 (y8 W0 _ ⟨_,_,_⟩ (by omega)) rfl ?_; first|refine dr ?_|exact dz)
     intro hg1;refine dr ?_;refine ⟨k+1,by omega,by omega,?_⟩;refine dr ?_;repeat (refine oB (by rw [qj hk',onP,if_neg h2,if_pos (.inr h4)]) ?_; first|refine dr ?_|exact dz)
     trivial
    ·refine dr ?_;refine ⟨k+1,by omega,by omega,?_⟩;refine dr ?_;repeat (refine oB (by rw [qj hk',onP,if_neg h2,if_neg (by omega)]) ?_; first|refine dr ?_|exact dz)
     trivial
 have hkl:k=l.length:=by omega
 refine dr ?_;rw [hkl,List.take_length]
def zfX:XC:=(.s (.r [.a2 4 3 77,.m1 5 .n]) (.s (.s (.r [.mv 7 0,.c1 8 101 [7],.u1 9 8,.mv 10 9,.h3 11 1 10,.gf 12 (.call 88 [11]) 10,.gf 13 (.un .not 12) 10,.p1 14 10 13]) (.cnd 14 (.s (.r [.ex 15 .bsl0,.a1 4 15 3 77,.m1 5 .n]) .ret) .skip)) (.s (.r [.mv 16 0,.mv 17 1,.c1 18 129 [16,17],.a1 6 18 3 77]) (.s (.s (.r [.mv 19 6,.n1 20 19,.b1 21 .gtr 20 (.i 16)]) (.cnd 21 (.s (.r [.ex 22 .bsl0,.a1 4 22 3 77,.m1 5 .n]) .ret) .skip)) (.s (.r [.mv 23 6,.a1 4 23 3 77,.m1 5 .y]) .ret)))))
theorem zfY:zh Tryz.prog [] 89=some (zfX.ac,[(.t 4),(.t 5)],24):=by kernel_rfl
theorem zbQ (W0:World) (l:List Mark) (t:List Ent):Fn Tryz.prog W0 89 [zg l,ze t] (.c (Jr (lOn l t))) []:=by
 refine fX mixed zfY fun hg=>?_
 refine dr ?_;repeat (refine c0 (Jx W0 _) rfl ?_; first|refine dr ?_|exact dz)
 apply cP<;>intro h1
 ·refine dEr ?_;rw [lOn,if_neg (by simp [h1])]; rfl
 refine dEr ?_;repeat (refine c0 (YQ W0 _) rfl ?_; first|refine dEr ?_|exact dz)
 apply cP<;>intro h2
 ·refine dr ?_;rw [lOn,if_neg (by simp [h2])]; rfl
 have hl:l.length≤32:=by simp only [lOk,Bool.and_eq_true,decide_eq_true_eq] at h1; exact h1.1
 have ht:=(qu h2).1;refine dr ?_;repeat (refine c0 (ziS W0 _ _ (by omega)) rfl ?_; first|refine dr ?_|exact dz)
 intro hg2;refine dr ?_;rw [lOn,if_pos (by simp [h1,h2])];apply cP<;>intro h3
 ·refine dr ?_;rw [if_neg (by omega)]; rfl
 ·refine dr ?_;rw [if_pos (by omega)]; rfl
def zhJ:XC:=(.s (.r [.a2 4 3 34]) (.s (.r [.mv 6 1,.c1 7 93 [6],.mv 5 7]) (.s (.s (.r [.mv 8 5,.ex 9 (.bin .eql 8 (.s [47]))]) (.cnd 9 (.s (.r [.mv 10 0,.a1 4 10 3 34]) .ret) .skip)) (.s (.s (.r [.mv 11 0,.mv 12 5,.c1 13 133 [11,12],.b1 14 .eql 13 (.i 0)]) (.cnd 14 (.r [.mv 15 0,.mv 16 5,.ex 17 (.build [sE,(I 0),sE] [(0,(1,16)),(1,(1,(.i 2)))]),.c1 18 95 [15,17],.a1 0 18 3 34]) .skip)) (.s (.r [.mv 19 0,.mv 20 5,.c1 21 94 [19,20],.a1 4 21 3 34]) .ret)))))
theorem zhK:zh Tryz.prog [] 94=some (zhJ.ac,[(.t 4)],22):=by kernel_rfl
theorem ZM (W0:World):∀ (n:Nat) (l:List Mark) (p:Str),pOk p=true→(names p).length≤n→l.length+n≤1000000→Fn Tryz.prog W0 94 [zg l,CS p] (.c (zg ((jc n p).foldl upsP l))) []
 | 0,l,p,hp,hn,_=>by have:=(ql hp).1.1; omega
 | n+1,l,p,hp,hn,hl=>by
  refine fX mixed zhK fun hg=>?_
  refine dr ?_;repeat (refine c0 (qV W0 _) rfl ?_; first|refine dr ?_|exact dz)
  intro hg1;rw [jc];apply cP<;>intro h1
  ·refine dr ?_;rw [if_pos h1]; rfl
  rw [if_neg h1];obtain ⟨u1,_,u2⟩:=qM hp h1;have e:((pUp p::jc n (pUp p)).foldl upsP l)=(jc n (pUp p)).foldl upsP (upsP l (pUp p)):=rfl;rw [e,upsP];refine dr ?_;repeat (refine c0 (Qy W0 _ _) rfl ?_; first|refine dr ?_|exact dz)
  intro hg2;apply cP<;>intro h2
  ·rw [if_pos h2];have hpl:(zZ l ⟨pUp p,2,[]⟩).length≤l.length+1:=j3;refine dr ?_;repeat (refine c0 (y9 W0 _ ⟨pUp p,2,[]⟩ (by omega)) rfl ?_; first|refine dr ?_|exact dz)
   intro hg3;refine dr ?_;repeat (refine c0 (ZM W0 n _ _ u1 (by omega) (by omega)) rfl ?_; first|refine dr ?_|exact dz)
   intro hg4;exact dz
  ·rw [if_neg h2];refine dr ?_;repeat (refine c0 (ZM W0 n _ _ u1 (by omega) (by omega)) rfl ?_; first|refine dr ?_|exact dz)
   intro hg4;exact dz
def zhp:XC:=(.s (.r [.a2 4 3 34]) (.s (.r [.ex 11 .bsl0,.a1 5 11 3 34]) (.s (.r [.mv 12 0,.mv 13 1,.c1 14 90 [12,13],.a1 6 14 1 9]) (.s (.s (.r [.m1 7 (.i 0)]) (.blk 0 (.loop (.s (.s (.r [.mv 15 7,.mv 16 6,.n1 17 16,.b1 18 .lss 15 17]) (.ce 18 0)) (.s (.blk 1 (.s (.r [.mv 22 1,.mv 23 6,.mv 24 7,.i1 25 1 23 24,.l1 26 1 25,.c1 27 91 [22,26],.mv 21 27,.e1 28 21 0,.e1 29 21 1,.ex 8 (.alloc zE),.s1 3 8 28,.mv 9 29]) (.s (.r [.mv 30 6,.mv 31 7,.i1 32 1 30 31,.l1 33 1 32,.ex 34 (.build [sE,(I 0),sE] [(0,(1,33)),(1,(1,(.i 3)))]),.ex 10 (.alloc [sE,(I 0),sE]),.s1 3 10 34]) (.s (.s (.r [.mv 35 9]) (.cnd 35 (.d [.mv 36 6,.mv 37 7,.i1 38 1 36 37,.l1 39 1 38,.f1 40 2 8,.l1 41 1 40,.ex 42 (.build [sE,(I 0),sE] [(0,(1,39)),(1,(1,(.i 1))),(2,(1,41))]),.s1 3 10 42]) .skip)) (.s (.s (.r [.mv 43 9,.mv 44 43,.g1 45 1 8 44,.g2 46 1 45 44,.p2 47 44 46]) (.cnd 47 (.r [.f1 48 1 10,.nu (.st 1 48 (.i 2))]) .skip)) (.s (.r [.mv 49 9,.mv 50 49,.h3 51 1 50,.h3 52 6 50,.h3 53 7 50,.gf 54 (.ia 1 52 53) 50,.h2 55 1 54 50,.gf 56 (.call 93 [55]) 50,.gf 57 (.call 92 [51,56]) 50,.p1 58 50 57]) (.cnd 58 (.d [.mv 59 5,.l2 60 3 10,.c1 61 95 [59,60],.mv 62 6,.mv 63 7,.i1 64 1 62 63,.l1 65 1 64,.c1 66 94 [61,65],.a1 5 66 3 34]) .skip))))))) (.ic 19 20 7)))))) (.s (.r [.mv 67 5,.a1 4 67 3 34]) .ret)))))
theorem zhq:zh Tryz.prog [] 53=some (zhp.ac,[(.t 4)],68):=by kernel_rfl
theorem zbK (W0:World) (a b:List Ent) (ha:tOk a=true) (hb:tOk b=true):Fn Tryz.prog W0 53 [ze a,ze b] (.c (zg (diff a b))) []:=by
 have la:=(qu ha).1;have lb:=(qu hb).1;have lt:=zeh (a:=a) (b:=b);have hok:∀ p∈zS a b,pOk p=true:=fun p hp=>zei ha hb hp
 refine fX mixed zhq fun hg=>?_
 refine dr ?_;repeat (refine c0 (ziO W0 _ _ (by omega)) rfl ?_; first|refine dr ?_|exact dz)
 intro hg1;rw [diff];generalize zS a b=L at *;refine dr ?_;refine lz (σ:=Nat) 80 (fun k=>[(1,.c (ze b)),(6,.c (jy L)),(5,.c (zg ((L.take k).foldl (difP b) []))),(7,I k)]) (fun _=>[]) (fun k=>k≤L.length) (fun k=>L.length - k) 0 (by simp) ?_ ?_
 ·refine dr ?_;trivial
 intro k hk;have hlk:=zch (b:=b) (L.take k) [];have hlk2:=List.length_take_le' k L;simp only [List.length_nil] at hlk;refine dr ?_;apply cP<;>intro h1
 ·have hk':k < L.length:=by omega
  have hp:=hok _ (List.getElem_mem hk');have hc:=ym W0 b L[k];have hn:=(ql hp).1.2;have hpl:∀ m,(zZ ((L.take k).foldl (difP b) []) m).length≤((L.take k).foldl (difP b) []).length+1:=fun m=>j3
  cases hx:get b L[k] with
  | none =>
   rw [hx] at hc;refine dr ?_;repeat (refine c0 hc rfl ?_; first|refine dr ?_|exact dz)
   intro hg2;refine dr ?_;repeat ((first|refine c0 (qV W0 _) rfl ?_|refine c0 (Jv W0 _ _) rfl ?_); first|refine dr ?_|exact dz)
   intro hg3;apply cP<;>intro h2
   ·refine dEr ?_;repeat ((first|refine c0 (y9 W0 _ ⟨L[k],3,[]⟩ (by omega)) rfl ?_|refine c0 (ZM W0 3 _ _ hp hn (by have:=hpl ⟨L[k],3,[]⟩; omega)) rfl ?_); first|refine dEr ?_|exact dz)
    refine ⟨k+1,by omega,by omega,?_⟩;refine dr ?_;repeat (refine oB (by rw [qj hk',difP,zD,hx]; simp only [if_pos h2]; rfl) ?_; first|refine dr ?_|exact dz)
    trivial
   ·refine dr ?_;refine ⟨k+1,by omega,by omega,?_⟩;refine dr ?_;repeat (refine oB (by rw [qj hk',difP,zD,hx]; simp [h2]) ?_; first|refine dr ?_|exact dz)
    trivial
  | some e =>
   rw [hx] at hc;refine dr ?_;repeat (refine c0 hc rfl ?_; first|refine dr ?_|exact dz)
   intro hg2;refine dr ?_;apply cP<;>intro h2
   ·refine dEr ?_;repeat ((first|refine c0 (y9 W0 _ ⟨L[k],2,e.data⟩ (by omega)) rfl ?_|refine c0 (ZM W0 3 _ _ hp hn (by have:=hpl ⟨L[k],2,e.data⟩; omega)) rfl ?_); first|refine dEr ?_|exact dz)
    refine ⟨k+1,by omega,by omega,?_⟩;refine dr ?_;repeat (refine oB (by rw [qj hk',difP,zD,hx]; simp only [if_pos h2]; rfl) ?_; first|refine dr ?_|exact dz)
    trivial
   ·refine dEr ?_;repeat ((first|refine c0 (y9 W0 _ ⟨L[k],1,e.data⟩ (by omega)) rfl ?_|refine c0 (ZM W0 3 _ _ hp hn (by have:=hpl ⟨L[k],1,e.data⟩; omega)) rfl ?_); first|refine dEr ?_|exact dz)
    refine ⟨k+1,by omega,by omega,?_⟩;refine dr ?_;repeat (refine oB (by rw [qj hk',difP,zD,hx]; simp [h2]; rfl) ?_; first|refine dr ?_|exact dz)
    trivial
 have hkl:k=L.length:=by omega
 refine dr ?_;rw [hkl,List.take_length]

def zhO:XC:=(.s (.r [.x1 1 0,.a2 2 3 77,.m1 3 .n]) (.s (.r [.f1 7 0 1,.l1 8 1 7,.a1 4 8 3 77]) (.s (.s (.r [.mv 9 4,.c1 10 88 [9],.u1 11 10,.mv 12 11,.h1 13 1 1 12,.h2 14 1 13 12,.gf 15 (.len false 14) 12,.gf 16 (.bin .gtr 15 (.i 4)) 12,.p1 17 12 16]) (.cnd 17 (.s (.r [.ex 18 .bsl0,.a1 2 18 3 77,.m1 3 .n]) .ret) .skip)) (.s (.s (.r [.m1 5 (.i 0)]) (.blk 0 (.loop (.s (.s (.r [.mv 19 5,.f1 20 1 1,.l1 21 1 20,.n1 22 21,.b1 23 .lss 19 22]) (.ce 23 0)) (.s (.blk 1 (.s (.r [.m1 6 .n]) (.s (.r [.f1 27 1 1,.l1 28 1 27,.mv 29 5,.i1 30 1 28 29,.l1 31 1 30,.mv 32 4,.c1 33 89 [31,32],.mv 26 33,.e1 34 26 0,.e1 35 26 1,.a1 4 34 3 77,.mv 6 35]) (.s (.r [.mv 36 6,.u1 37 36]) (.cnd 37 (.s (.r [.ex 38 .bsl0,.a1 2 38 3 77,.m1 3 .n]) .ret) .skip))))) (.ic 24 25 5)))))) (.s (.r [.ex 39 .bsl0,.mv 40 4,.ex 41 (.app true 3 40 77 39 40),.a1 2 41 3 77,.m1 3 .y]) .ret)))))
theorem zhP:zh Tryz.prog [] 51=some (zhO.ac,[(.t 2),(.t 3)],42):=by kernel_rfl
theorem YM (W0:World) (o:Over):Fn Tryz.prog W0 51 [zL o] (.c (Jr (ja o))) []:=by
 refine fX mixed zhP fun hg=>?_
 refine dEr ?_;repeat (refine c0 (YQ W0 _) rfl ?_; first|refine dEr ?_|exact dz)
 apply cP<;>intro h1
 ·refine dr ?_;rw [ja,if_neg (by simp [h1])]; rfl
 refine dr ?_;apply cP<;>intro h2
 ·refine dr ?_;rw [ja,if_neg (by omega)]; rfl
 rw [ja,if_pos ⟨h1,by omega⟩];refine dr ?_;refine lp2 (fun (k:Nat) (t:List Ent)=>[(1,.ptr 16 0),(4,.c (ze t)),(5,I k)]) (fun _ _=>[(16,.box [.c (ze o.base),.c (js o.layers),.c (zg o.upper)])]) (fun k t=>k≤o.layers.length∧lowerA (o.layers.take k) o.base=some t∧tOk t=true) (fun k _=>o.layers.length - k) 0 o.base ⟨by simp,rfl,h1⟩ ?_ ?_
 ·refine dr ?_;trivial
 rintro k t ⟨hk,ha,ht⟩;refine dr ?_;apply cP<;>intro h3
 ·have hk':k < o.layers.length:=by omega
  have hn:lowerA (o.layers.take (k+1)) o.base=lOn o.layers[k] t:=by
   rw [List.take_succ_eq_append_getElem hk',Ze,ha];simp only [lowerA];cases lOn o.layers[k] t<;>rfl
  have hc:=zbQ W0 o.layers[k] t;cases hx:lOn o.layers[k] t with
  | none =>
   rw [hx] at hc;refine dr ?_;repeat (refine c0 hc rfl ?_; first|refine dr ?_|exact dz)
   intro hg1;refine dr ?_;have:lowerA o.layers o.base=none:=by
    have e:o.layers=o.layers.take (k+1)++o.layers.drop (k+1):=by rw [List.take_append_drop]
    rw [e,Ze,hn,hx]
   rw [this]; rfl
  | some t' =>
   rw [hx] at hc;refine dr ?_;repeat (refine c0 hc rfl ?_; first|refine dr ?_|exact dz)
   intro hg1;refine dr ?_;refine ⟨k+1,t',⟨by omega,by rw [hn,hx],ZZ hx⟩,by omega,?_⟩;refine dr ?_;trivial
 have hkl:k=o.layers.length:=by omega
 rw [hkl,List.take_length] at ha;have hl:=(qu ht).1;refine dr ?_;repeat (refine oB (by simp; omega) ?_; first|refine dr ?_|exact dz)
 rw [ha]; rfl
def zhU:XC:=(.s (.r [.x1 1 0,.a2 2 3 77,.m1 3 .n]) (.s (.r [.l2 7 3 1,.c1 8 51 [7],.mv 6 8,.e1 9 6 0,.e1 10 6 1,.a1 4 9 3 77,.mv 5 10]) (.s (.s (.r [.mv 11 5,.u1 12 11]) (.cnd 12 (.s (.r [.ex 13 .bsl0,.a1 2 13 3 77,.m1 3 .n]) .ret) .skip)) (.s (.r [.f1 14 2 1,.l1 15 1 14,.mv 16 4,.c1 17 89 [15,16],.e1 18 17 0,.e1 19 17 1,.a1 2 18 3 77,.mv 3 19]) .ret))))
theorem zhV:zh Tryz.prog [] 52=some (zhU.ac,[(.t 2),(.t 3)],20):=by kernel_rfl
theorem YN (W0:World) (o:Over):Fn Tryz.prog W0 52 [zL o] (.c (Jr (jh o))) []:=by
 refine fX mixed zhV fun hg=>?_
 have hc:=YM W0 o;cases hx:ja o with
 | none =>
  rw [hx] at hc;refine dr ?_;repeat (refine c0 hc rfl ?_; first|refine dr ?_|exact dz)
  intro hg1;refine dr ?_;rw [jh,hx]; rfl
 | some t =>
  rw [hx] at hc;have hv:jh o=lOn o.upper t:=by rw [jh,hx]
  have hc2:=zbQ W0 o.upper t;rw [hv];cases hy:lOn o.upper t with
  | none =>
   rw [hy] at hc2;refine dr ?_;repeat (refine c0 hc rfl ?_; first|refine dr ?_|exact dz)
   intro hg1;refine dr ?_;repeat (refine c0 hc2 rfl ?_; first|refine dr ?_|exact dz)
   intro hg2;refine dr ?_;rfl
  | some x =>
   rw [hy] at hc2;refine dr ?_;repeat (refine c0 hc rfl ?_; first|refine dr ?_|exact dz)
   intro hg1;refine dr ?_;repeat (refine c0 hc2 rfl ?_; first|refine dr ?_|exact dz)
   intro hg2;refine dr ?_;rfl
def zf7:XC:=(.s (.r [.x1 1 0,.m1 2 .n]) (.s (.r [.l2 8 3 1,.c1 9 51 [8],.mv 7 9,.e1 10 7 0,.e1 11 7 1,.a1 3 10 3 77,.mv 4 11]) (.s (.r [.l2 13 3 1,.c1 14 52 [13],.mv 12 14,.e1 15 12 0,.e1 16 12 1,.a1 5 15 3 77,.mv 6 16]) (.s (.d [.mv 17 4,.mv 18 17,.g3 19 6 18,.p2 20 18 19,.mv 21 20,.g1 22 2 1 21,.g2 23 1 22 21,.g3 24 3 21,.g3 25 5 21,.gt 26 (.call 53 [24,25]) 21,.gt 27 (.call 49 [23,26]) 21,.p2 28 21 27,.mv 2 28]) .ret))))
theorem zf8:zh Tryz.prog [] 16=some (zf7.ac,[(.t 2)],29):=by kernel_rfl
theorem Jy (W0:World) (o:Over):Fn Tryz.prog W0 16 [zL o] (.c (CB (oOk o))) []:=by
 refine fX mixed zf8 fun hg=>?_
 have hc:=YM W0 o;have hc2:=YN W0 o;cases hx:ja o with
 | none =>
  have hv:jh o=none:=by rw [jh,hx]
  rw [hx] at hc;rw [hv] at hc2;refine dr ?_;repeat (refine c0 hc rfl ?_; first|refine dr ?_|exact dz)
  intro hg1;refine dr ?_;repeat (refine c0 hc2 rfl ?_; first|refine dr ?_|exact dz)
  intro hg2;refine dr ?_;rw [oOk,hx]
 | some t =>
  rw [hx] at hc;cases hy:jh o with
  | none =>
   rw [hy] at hc2;refine dr ?_;repeat (refine c0 hc rfl ?_; first|refine dr ?_|exact dz)
   intro hg1;refine dr ?_;repeat (refine c0 hc2 rfl ?_; first|refine dr ?_|exact dz)
   intro hg2;refine dr ?_;rw [oOk,hx,hy]
  | some x =>
   rw [hy] at hc2;refine dr ?_;repeat (refine c0 hc rfl ?_; first|refine dr ?_|exact dz)
   intro hg1;refine dr ?_;repeat (refine c0 hc2 rfl ?_; first|refine dr ?_|exact dz)
   intro hg2;refine dr ?_;repeat ((first|refine c0 (zbK W0 t x (QN hx) (Yg hy)) rfl ?_|refine c0 (YO W0 _ _) rfl ?_); first|refine dr ?_|exact dz)
   intro hg3;refine dr ?_;rw [oOk,hx,hy]

def zhn:XC:=(.s (.r [.m1 4 (.i 0)]) (.s (.s (.r [.mv 5 0,.b1 6 .eql 5 (.i 2),.mv 7 6,.g3 8 1 7,.gt 9 (.bin .neq 8 (.i 0)) 7,.p2 10 7 9,.mv 11 10,.g3 12 1 11,.gt 13 (.bin .neq 12 (.i 2)) 11,.p2 14 11 13]) (.cnd 14 (.s (.r [.m1 4 (.i 4)]) .ret) .skip)) (.s (.r [.mv 15 0,.mv 4 15]) .ret)))
theorem zho:zh Tryz.prog [] 137=some (zhn.ac,[(.t 4)],16):=by kernel_rfl
theorem ziP (W0:World) (a b:Int):Fn Tryz.prog W0 137 [CI a,CI b] (.c (CI (jN a b))) []:=by
 refine fX mixed zho fun hg=>?_
 refine dr ?_;apply cP<;>intro h1
 ·refine dr ?_;apply cP<;>intro h2
  ·refine dr ?_;apply cP<;>intro h3
   ·refine dr ?_;exact congrArg CI (by rw [jN,if_pos ⟨h1,h2,h3⟩])
   ·refine dr ?_;exact congrArg CI (by rw [jN,if_neg (fun h=>h.2.2 h3)])
  ·refine dr ?_;exact congrArg CI (by rw [jN,if_neg (fun h=>h.2.1 h2)])
 ·refine dr ?_;exact congrArg CI (by rw [jN,if_neg (fun h=>h1 h.1)])
def zhH:XC:=(.s (.r [.a2 2 3 34]) (.s (.r [.ex 6 .bsl0,.a1 3 6 3 34]) (.s (.s (.r [.m1 4 (.i 0)]) (.blk 0 (.loop (.s (.s (.r [.mv 7 4,.mv 8 0,.n1 9 8,.b1 10 .lss 7 9]) (.ce 10 0)) (.s (.blk 1 (.s (.r [.mv 13 0,.mv 14 4,.i1 15 3 13 14,.l2 16 3 15,.ex 5 (.alloc [sE,(I 0),sE]),.s1 3 5 16]) (.s (.s (.r [.mv 17 3,.f1 18 0 5,.l1 19 1 18,.c1 20 135 [17,19]]) (.cnd 20 (.s (.s (.r [.f1 21 1 5,.l1 22 1 21,.b1 23 .eql 22 (.i 3)]) (.cnd 23 (.exit 1) .skip)) (.s (.r [.f1 24 1 5,.l1 25 1 24,.b1 26 .eql 25 (.i 4)]) (.cnd 26 (.r [.f1 27 1 5,.nu (.st 1 27 (.i 2))]) .skip))) .skip)) (.r [.mv 28 3,.l2 29 3 5,.ex 30 (.bsl 3 34 [29]),.ex 31 (.app false 3 40 34 28 30),.a1 3 31 3 34])))) (.ic 11 12 4)))))) (.s (.r [.mv 32 3,.a1 2 32 3 34]) .ret))))
theorem zhI:zh Tryz.prog [] 102=some (zhH.ac,[(.t 2)],33):=by kernel_rfl
theorem zlN {out:List Mark} {m:Mark}:(jQ out m).length≤out.length+1:=by
 unfold jQ; split
 ·split<;>simp
 ·simp
theorem ziT (W0:World) (l:List Mark) (hl:l.length≤1000000):Fn Tryz.prog W0 102 [zg l] (.c (zg (l.foldl jQ []))) []:=by
 refine fX mixed zhI fun hg=>?_
 refine dr ?_;refine lp2 (fun (k:Nat) (out:List Mark)=>[(0,.c (zg l)),(3,.own 48 out.length),(4,I k)]) (fun _ out=>[(48,.row (out.map jm) 3 34)]) (fun k out=>k≤l.length∧out=(l.take k).foldl jQ []∧out.length≤k) (fun k _=>l.length - k) 0 [] ⟨by simp,rfl,by simp⟩ ?_ ?_
 ·refine dr ?_;trivial
 rintro k out ⟨hk,ho,hle⟩;refine dr ?_;apply cP<;>intro h1
 ·have hk':k < l.length:=by omega
  have hn:(l.take (k+1)).foldl jQ []=jQ out l[k]:=by rw [qj hk',← ho]
  have hn2:(jQ out l[k]).length≤k+1:=by have:=zlN (out:=out) (m:=l[k]); omega
  refine dr ?_;repeat (refine c0 (Jw W0 out _) rfl ?_; first|refine dr ?_|exact dz)
  apply cP<;>intro h2
  ·refine dr ?_;apply cP<;>intro h3
   ·refine dr ?_;have e:jQ out l[k]=out:=by rw [jQ,if_pos h2,if_pos h3]
    refine ⟨k+1,out,⟨by omega,by rw [hn,e],by omega⟩,by omega,?_⟩;refine dr ?_;trivial
   ·refine dr ?_;apply cP<;>intro h4
    ·refine dr ?_;repeat ((first|refine oB (by simp; omega) ?_|refine oB (by simp) ?_); first|refine dr ?_|exact dz)
     have e:jQ out l[k]=out++[⟨l[k].path,2,l[k].data⟩]:=by rw [jQ,if_pos h2,if_neg h3,if_pos h4]
     refine ⟨k+1,out++[⟨l[k].path,2,l[k].data⟩],⟨by omega,by rw [hn,e],by simp; omega⟩,by omega,?_⟩;refine dr ?_;repeat (refine oB (by simp<;>rfl) ?_; first|refine dr ?_|exact dz)
     trivial
    ·refine dr ?_;repeat ((first|refine oB (by simp; omega) ?_|refine oB (by simp) ?_); first|refine dr ?_|exact dz)
     have e:jQ out l[k]=out++[l[k]]:=by rw [jQ,if_pos h2,if_neg h3,if_neg h4]
     refine ⟨k+1,out++[l[k]],⟨by omega,by rw [hn,e],by simp; omega⟩,by omega,?_⟩;refine dr ?_;repeat (refine oB (by simp<;>rfl) ?_; first|refine dr ?_|exact dz)
     trivial
  ·refine dr ?_;repeat ((first|refine oB (by simp; omega) ?_|refine oB (by simp) ?_); first|refine dr ?_|exact dz)
   have e:jQ out l[k]=out++[l[k]]:=by rw [jQ,if_neg (by simp [h2])]
   refine ⟨k+1,out++[l[k]],⟨by omega,by rw [hn,e],by simp; omega⟩,by omega,?_⟩;refine dr ?_;repeat (refine oB (by simp<;>rfl) ?_; first|refine dr ?_|exact dz)
   trivial
 have hkl:k=l.length:=by omega
 rw [hkl,List.take_length] at ho;refine dr ?_;repeat (refine oB (by simp) ?_; first|refine dr ?_|exact dz)
 rw [ho]; rfl
def zhx:XC:=(.s (.r [.a2 4 3 34]) (.s (.r [.ex 9 .bsl0,.a1 5 9 3 34]) (.s (.s (.r [.m1 6 (.i 0)]) (.blk 0 (.loop (.s (.s (.r [.mv 10 6,.mv 11 1,.n1 12 11,.b1 13 .lss 10 12]) (.ce 13 0)) (.s (.blk 1 (.s (.r [.mv 16 0,.mv 17 1,.mv 18 6,.i1 19 3 17 18,.f1 20 0 19,.l1 21 1 20,.c1 22 136 [16,21],.u1 23 22,.mv 24 23,.g3 25 0 24,.g3 26 1 24,.g3 27 6 24,.gt 28 (.ia 3 26 27) 24,.g1 29 0 28 24,.g2 30 1 29 24,.gt 31 (.call 133 [25,30]) 24,.gt 32 (.bin .eql 31 (.i 0)) 24,.p2 33 24 32]) (.cnd 33 (.r [.mv 34 5,.mv 35 1,.mv 36 6,.i1 37 3 35 36,.l2 38 3 37,.c1 39 95 [34,38],.a1 5 39 3 34]) .skip))) (.ic 14 15 6)))))) (.s (.s (.r [.m1 7 (.i 0)]) (.blk 2 (.loop (.s (.s (.r [.mv 40 7,.mv 41 0,.n1 42 41,.b1 43 .lss 40 42]) (.ce 43 2)) (.s (.blk 3 (.s (.r [.mv 46 0,.mv 47 7,.i1 48 3 46 47,.l2 49 3 48,.ex 8 (.alloc [sE,(I 0),sE]),.s1 3 8 49]) (.s (.d [.f1 50 1 8,.l1 51 1 50,.mv 52 1,.f1 53 0 8,.l1 54 1 53,.c1 55 133 [52,54],.c1 56 137 [51,55],.f1 57 1 8,.s1 1 57 56]) (.r [.mv 58 5,.l2 59 3 8,.c1 60 95 [58,59],.a1 5 60 3 34])))) (.ic 44 45 7)))))) (.s (.r [.mv 61 5,.a1 4 61 3 34]) .ret)))))
theorem zhy:zh Tryz.prog [] 103=some (zhx.ac,[(.t 4)],62):=by kernel_rfl
theorem ziR (W0:World) (a b:List Mark) (hl:a.length+b.length≤1000000):Fn Tryz.prog W0 103 [zg a,zg b] (.c (zg (jH a b))) []:=by
 refine fX mixed zhy fun hg=>?_
 refine dr ?_;refine lz2 80 (fun (k:Nat) (out:List Mark)=>[(0,.c (zg a)),(1,.c (zg b)),(5,.c (zg out)),(6,I k)]) (fun _ _=>[]) (fun k out=>k≤b.length∧out=((b.take k).filter (jE a)).foldl zZ []∧out.length≤k) (fun k _=>b.length - k) 0 [] ⟨by simp,rfl,by simp⟩ ?_ ?_
 ·refine dr ?_;trivial
 rintro k out ⟨hk,ho,hle⟩;refine dr ?_;apply cP<;>intro h1
 ·have hk':k < b.length:=by omega
  have no:jE a b[k]=false→out=((b.take (k+1)).filter (jE a)).foldl zZ []:=fun h=>by rw [Za hk' h,ho]
  have yes:jE a b[k]=true→zZ out b[k]=((b.take (k+1)).filter (jE a)).foldl zZ []:=fun h=>by rw [Zb hk' h,List.foldl_append,← ho]; rfl
  refine dEr ?_;repeat (refine c0 (zbL W0 _ _) rfl ?_; first|refine dEr ?_|exact dz)
  apply cP<;>intro h2
  ·refine dEr ?_;repeat (refine c0 (Qy W0 _ _) rfl ?_; first|refine dEr ?_|exact dz)
   apply cP<;>intro h3
   ·have hpl:(zZ out b[k]).length≤out.length+1:=j3;refine dEr ?_;repeat (refine c0 (y9 W0 _ b[k] (by omega)) rfl ?_; first|refine dEr ?_|exact dz)
    refine ⟨k+1,zZ out b[k],⟨by omega,yes (by simp [jE,h2,h3]),by omega⟩,by omega,?_⟩;refine dr ?_;trivial
   ·refine dr ?_;refine ⟨k+1,out,⟨by omega,no (by simp [jE,h3]),by omega⟩,by omega,?_⟩;refine dr ?_;trivial
  ·refine dr ?_;refine ⟨k+1,out,⟨by omega,no (by simp [jE,h2]),by omega⟩,by omega,?_⟩;refine dr ?_;trivial
 have hkl:k=b.length:=by omega
 rw [hkl,List.take_length] at ho;have hj:jH a b=(a.map (jk b)).foldl zZ out:=by rw [jH,ho]
 rw [hj];have hob:out.length≤b.length:=by omega
 clear ho hk hle hj h1 hkl;generalize hoo:out=o0 at *;refine dr ?_;refine lp2 (fun (k:Nat) (out:List Mark)=>[(0,.c (zg a)),(1,.c (zg b)),(5,.c (zg out)),(7,I k)]) (fun _ _=>[]) (fun k out=>k≤a.length∧out=((a.take k).map (jk b)).foldl zZ o0∧out.length≤o0.length+k) (fun k _=>a.length - k) 0 o0 ⟨by simp,rfl,by simp⟩ ?_ ?_
 ·refine dr ?_;trivial
 clear hoo;rintro k out ⟨hk,ho,hle⟩;refine dr ?_;apply cP<;>intro h1
 ·have hk':k < a.length:=by omega
  have hn:((a.take (k+1)).map (jk b)).foldl zZ o0=zZ out (jk b a[k]):=by
   rw [List.take_succ_eq_append_getElem hk',List.map_append,List.foldl_append,← ho]; rfl
  have hpl:(zZ out (jk b a[k])).length≤out.length+1:=j3;refine dEr ?_;repeat ((first|refine c0 (Qy W0 _ _) rfl ?_|refine c0 (ziP W0 _ _) rfl ?_|refine c0 (y9 W0 _ (jk b a[k]) (by omega)) rfl ?_); first|refine dEr ?_|exact dz)
  refine ⟨k+1,_,⟨by omega,hn.symm,by omega⟩,by omega,?_⟩;refine dr ?_;trivial
 have hkl:k=a.length:=by omega
 rw [hkl,List.take_length] at ho;refine dr ?_;rw [ho]
def zfT:XC:=(.s (.r [.a2 4 3 34,.m1 5 .n]) (.s (.s (.r [.mv 7 0,.c1 8 101 [7],.u1 9 8,.mv 10 9,.h3 11 1 10,.gf 12 (.call 101 [11]) 10,.gf 13 (.un .not 12) 10,.p1 14 10 13]) (.cnd 14 (.s (.r [.ex 15 .bsl0,.a1 4 15 3 34,.m1 5 .n]) .ret) .skip)) (.s (.r [.mv 16 0,.mv 17 1,.c1 18 103 [16,17],.c1 19 102 [18],.a1 6 19 3 34]) (.s (.s (.r [.mv 20 6,.n1 21 20,.b1 22 .gtr 21 (.i 32)]) (.cnd 22 (.s (.r [.ex 23 .bsl0,.a1 4 23 3 34,.m1 5 .n]) .ret) .skip)) (.s (.r [.mv 24 6,.a1 4 24 3 34,.m1 5 .y]) .ret)))))
theorem zfU:zh Tryz.prog [] 71=some (zfT.ac,[(.t 4),(.t 5)],25):=by kernel_rfl
theorem zi3 (W0:World) (a b:List Mark):Fn Tryz.prog W0 71 [zg a,zg b] (.c (eMarksO (j1 a b))) []:=by
 refine fX mixed zfU fun hg=>?_
 refine dEr ?_;repeat (refine c0 (Jx W0 _) rfl ?_; first|refine dEr ?_|exact dz)
 apply cP<;>intro h1
 ·refine dEr ?_;rw [j1,if_neg (by simp [h1])]; rfl
 refine dEr ?_;repeat (refine c0 (Jx W0 _) rfl ?_; first|refine dEr ?_|exact dz)
 apply cP<;>intro h2
 ·refine dr ?_;rw [j1,if_neg (by simp [h2])]; rfl
 have ga:=LG.of h1;have gb:=LG.of h2;have hla:=(zU.1 h1).1;have hlb:=(zU.1 h2).1;have hjl:(jH a b).length≤1000000:=by
  have e1:(jH a b).length≤((b.filter (jE a)).foldl zZ []).length+(a.map (jk b)).length:=ZQ (key:=Mark.path) (a.map (jk b)) ((b.filter (jE a)).foldl zZ []);have e2:((b.filter (jE a)).foldl zZ []).length≤0+(b.filter (jE a)).length:=ZQ (key:=Mark.path) (b.filter (jE a)) [];have e3:=List.length_filter_le (jE a) b;rw [List.length_map] at e1;omega
 have hc:=ziT W0 (jH a b) hjl;rw [zlO (JF ga gb)] at hc;have e:j1 a b=if (qa a b).length≤32 then some (qa a b) else none:=by rw [j1,if_pos (by simp [h1,h2])]
 rw [e];unfold qa at *;refine dr ?_;repeat ((first|refine c0 (ziR W0 _ _ (by omega)) rfl ?_|refine c0 hc rfl ?_); first|refine dr ?_|exact dz)
 intro hg3 hg4;refine dr ?_;apply cP<;>intro h3
 ·refine dr ?_;rw [if_neg (by omega)]; rfl
 ·refine dr ?_;rw [if_pos (by omega)]; rfl

def zP (c:UInt8):Str:=[47,122,c]
def XZ (c:UInt8) (t:List Ent):Prop:=∀ e∈t,e.path≠zP c
def XA (c:UInt8) (l:List Mark):Prop:=∀ m∈l,m.path≠zP c
structure XO (c:UInt8) (o:Over):Prop where
 b:XZ c o.base
 l:∀ l∈o.layers,XA c l
 u:XA c o.upper
section
variable {c:UInt8} {t:List Ent} {l:List Mark} {o:Over}
theorem XZ.nil:XZ c []:=fun e he=>by cases he
theorem XA.nil:XA c []:=fun e he=>by cases he
theorem XO.no:XO c noO:=⟨.nil,(fun l hl=>by cases hl),.nil⟩
theorem XZ.find (h:XZ c t):find t (zP c)=none:=by
 unfold Go.Proofs.YtmkmldepkponaaaGreatDoor.find;rw [List.find?_eq_none];intro e he
 simpa using h e he
theorem XZ.put (h:XZ c t) {e:Ent} (he:e.path≠zP c):XZ c (put t e):=fun x hx=>by
 rcases QR hx with rfl | hx
 ·exact he
 ·exact h x hx
theorem XA.put (h:XA c l) {m:Mark} (hm:m.path≠zP c):XA c (zZ l m):=fun x hx=>by
 rcases QR hx with rfl | hx
 ·exact hm
 ·exact h x hx
theorem zkb (hc:c≠47) {s f d q:Str} (hs:s≠zP c) (hd:d≠zP c) (h:jp s f d=some q):q≠zP c:=by
 unfold jp at h;split at h
 ·rename_i h1;simp only [Bool.and_eq_true] at h1;obtain ⟨⟨p1,p2⟩,p3⟩:=h1;split at h
  ·cases h; exact hs
  ·rename_i h2;split at h
   ·cases h;have hf:=j2 p2;have ht:=j2 p3;have hdrop:s.drop f.length=[]∨∃ r,s.drop f.length=47::r:=by
     by_cases e:s=f
     ·left; rw [e]; simp
     ·right;have hu:und s f=true:=by
       simp only [Bool.and_eq_true,bne_iff_ne,ne_eq,Bool.not_eq_true',not_and,Bool.not_eq_false] at h2;exact h2 e
      obtain ⟨r,rfl⟩:=zen (fun e=>by rw [e] at hf; simp at hf) hu;exact ⟨r,by simp⟩
    rcases hdrop with e | ⟨r,e⟩
    ·rw [e,List.append_nil]; exact hd
    ·rw [e];intro h3;have hl:=congrArg List.length h3;simp only [List.length_append,List.length_cons,zP,List.length_nil] at hl;obtain ⟨a,b,rfl⟩:∃ a b,d=[a,b]:=by
      match d,ht.1 with
      | [a,b],_=>exact ⟨a,b,rfl⟩
      | a::b::x::y,_=>simp at hl; omega
     simp only [zP,List.cons_append,List.nil_append,List.cons.injEq] at h3;exact hc h3.2.2.1.symm
   ·cases h
 ·cases h
theorem XZ.mov (hc:c≠47) {f d:Str} (hd:d≠zP c):∀ {t out:List Ent},XZ c t→XZ c out→XZ c (t.foldl (fun out e=>Go.Proofs.YtmkmldepkponaaaGreatDoor.put out (movE f d e)) out)
 | [],out,_,h=>h
 | e::t,out,h1,h2=>by
  show XZ c (t.foldl (fun out e=>Go.Proofs.YtmkmldepkponaaaGreatDoor.put out (movE f d e)) (Go.Proofs.YtmkmldepkponaaaGreatDoor.put out (movE f d e)));refine XZ.mov hc hd (fun x hx=>h1 x (List.mem_cons_of_mem _ hx)) (h2.put ?_);show (jp e.path f d).getD []≠_;cases hm:jp e.path f d with
  | none=>simp [zP]
  | some q=>exact zkb hc (h1 e (List.mem_cons_self)) hd hm
theorem XZ.do (hc:c≠47) (h:XZ c t) {op:Op} (h1:op.path≠zP c) (h2:op.dest≠zP c):XZ c (zR t op).1:=by
 unfold zR;split
 ·split
  ·split
   ·show XZ c (doT t op);unfold doT;split
    ·exact h.put h1
    ·split
     ·exact h.put h1
     ·split
      ·exact XZ.mov hc h2 h .nil
      ·exact fun e he=>h e (List.mem_filter.1 he).1
   ·exact h
  ·exact h
 ·exact .nil
theorem XZ.on (hl:XA c l) (ht:XZ c t) {x:List Ent} (h:lOn l t=some x):XZ c x:=by
 unfold lOn at h;split at h
 ·rename_i hc;simp only [Bool.and_eq_true] at hc;split at h
  ·cases h;intro e he;rcases (JM hc.1 (TG.of hc.2).srt).1 he with ⟨m,hm,h1⟩ | ⟨_,_,h1⟩
   ·rw [yQ h1]; exact hl m hm
   ·exact ht e h1
  ·cases h
 ·cases h
theorem XZ.lowerA:∀ {ls:List (List Mark)} {t x:List Ent},(∀ l∈ls,XA c l)→XZ c t→Go.Proofs.YtmkmldepkponaaaGreatDoor.lowerA ls t=some x→XZ c x
 | [],t,x,_,h,e=>by cases e; exact h
 | l::r,t,x,hl,h,e=>by
  unfold Go.Proofs.YtmkmldepkponaaaGreatDoor.lowerA at e;split at e
  ·rename_i t' h1;exact XZ.lowerA (fun y hy=>hl y (List.mem_cons_of_mem _ hy)) (XZ.on (hl l (List.mem_cons_self)) h h1) e
  ·cases e
theorem XO.low (h:XO c o) (ho:oOk o=true):XZ c (lowG o):=by
 obtain ⟨t,x,g⟩:=OG.of ho;rw [g.lowG];exact XZ.lowerA h.l h.b g.lay.2.1
theorem XO.vw (h:XO c o) (ho:oOk o=true):XZ c (vwG o):=by
 have hl:=h.low ho;obtain ⟨t,x,g⟩:=OG.of ho;rw [g.vwG];rw [g.lowG] at hl;exact XZ.on h.u hl g.on
theorem XO.view (h:XO c o):XZ c ((jh o).getD []):=by
 cases hv:jh o with
 | none=>exact .nil
 | some x =>
  unfold jh at hv;split at hv
  ·rename_i t ht;exact XZ.on h.u (XZ.lowerA h.l h.b (Y9 ht).2.2) hv
  ·cases hv
theorem XA.diff {a b:List Ent} (ga:tOk a=true) (gb:tOk b=true) (ha:XZ c a) (hb:XZ c b):XA c (diff a b):=fun x hx e=>by
 obtain ⟨_,h⟩:=y5 (TG.of ga) (TG.of gb) hx;rcases h with ⟨y,h,_⟩ | ⟨_,_,_,y,h⟩
 ·rw [e,hb.find] at h; cases h
 ·rw [e,ha.find] at h; cases h
theorem XO.do (hc:c≠47) (h:XO c o) {op:Op} (h1:op.path≠zP c) (h2:op.dest≠zP c):XO c (oDo o op).1:=by
 by_cases ho:oOk o=true
 ·have hl:=h.low ho;have hv:=h.vw ho;obtain ⟨t,x,g⟩:=OG.of ho;rw [g.doEq op];rw [g.lowG] at hl;rw [g.vwG] at hv;split
  ·rename_i h0;obtain ⟨_,_,h3,h4⟩:=JZ g.gx h0;refine ⟨h.b,h.l,XA.diff g.gt (by rw [h3]; exact h4) hl (hv.do hc h1 h2)⟩
  ·exact h
 ·unfold oDo; rw [if_neg ho]; exact .no
theorem XO.push (h:XO c o):XO c (qs o).1:=by
 unfold qs;split
 ·split
  ·exact h
  ·exact ⟨h.b,fun l hl=>by
    rcases List.mem_append.1 hl with hl | hl
    ·exact h.l l hl
    ·rw [List.mem_singleton.1 hl]; exact h.u,.nil⟩
 ·exact .no
theorem XA.join {a b j:List Mark} (ha:XA c a) (hb:XA c b) (h:j1 a b=some j):XA c j:=by
 unfold j1 at h;split at h
 ·rename_i hc;simp only [Bool.and_eq_true] at hc;split at h
  ·cases h;intro m hm;obtain ⟨x,hx,h1⟩:=Zh.1 hm;have hp:m.path=x.path:=by
    unfold jZ at h1;split at h1
    ·split at h1
     ·cases h1
     ·cases h1; split<;>rfl
    ·cases h1; rfl
   rw [hp];rcases (Zg (LG.of hc.1) (LG.of hc.2)).1 hx with ⟨y,hy,rfl⟩ | ⟨hy,_⟩
   ·exact ha y hy
   ·exact hb x hy
  ·cases h
 ·cases h
theorem XA.flat:∀ {ls:List (List Mark)} {one j:List Mark},XA c one→(∀ l∈ls,XA c l)→j8 one ls=some j→XA c j
 | [],one,j,h,_,e=>by cases e; exact h
 | l::r,one,j,h,hl,e=>by
  unfold j8 at e;split at e
  ·rename_i k hk;exact XA.flat (XA.join (hl l (List.mem_cons_self)) h hk) (fun y hy=>hl y (List.mem_cons_of_mem _ hy)) e
  ·cases e
theorem XO.flat (h:XO c o):XO c (qL o).1:=by
 unfold qL;split
 ·split
  ·rename_i j hj;refine ⟨h.b,fun l hl=>?_,h.u⟩;rw [List.mem_singleton.1 hl];unfold yn at hj;split at hj
   ·rename_i a b r e;exact XA.flat (h.l a (by rw [e]; simp)) (fun y hy=>h.l y (by rw [e]; simp at hy ⊢; exact .inr hy)) hj
   ·cases hj
  ·exact h
 ·exact .no
theorem zkF {e:Ent} (h:∀ x∈t,x.path≠e.path):(put t e).length=t.length+1:=by
 have h1:=congrArg List.length (List.takeWhile_append_dropWhile (p:=fun x:Ent=>ltS x.path e.path) (l:=t));rw [List.length_append] at h1;show (zG Ent.path t e).length=_;unfold zG;rw [List.length_append,List.length_cons];split
 ·rename_i hc; rw [hc] at h1; simp at h1 ⊢; omega
 ·rename_i x r hc;rw [hc] at h1;have hx:x∈t:=by
   have:x∈t.dropWhile (fun x:Ent=>ltS x.path e.path):=by rw [hc]; simp
   exact (List.dropWhile_sublist _).subset this
  rw [if_neg (h x hx)];simp at h1 ⊢; omega
theorem zl0:∀ i < 26,pOk (zP (UInt8.ofNat (97+i)))=true∧pUp (zP (UInt8.ofNat (97+i)))=[47]:=by decide +kernel
theorem grow (ht:tOk t=true) (hl:t.length < 16) {j:Nat} (hj:j < 26) (h:XZ (UInt8.ofNat (97+j)) t) :
  tOk (zR t ⟨2,zP (UInt8.ofNat (97+j)),[],[]⟩).1=true∧(zR t ⟨2,zP (UInt8.ofNat (97+j)),[],[]⟩).1.length=t.length+1 ∧
  ∀ c,c≠UInt8.ofNat (97+j)→XZ c t→XZ c (zR t ⟨2,zP (UInt8.ofNat (97+j)),[],[]⟩).1:=by
 obtain ⟨p1,p2⟩:=zl0 j hj;generalize hd:UInt8.ofNat (97+j)=d at *;have hg:get t (zP d)=none:=by unfold get; rw [if_neg (by simp [zP])]; exact h.find
 have hu:upC t (zP d)=0:=by
  unfold upC; rw [p2];have:get t [47]=some Q2:=by unfold get; rw [if_pos rfl]
  rw [this]; rfl
 have hn:newC t (zP d)=0:=by unfold newC; rw [if_neg (by simp [hu]),hg,if_neg (by simp),if_neg (by omega)]
 have hc:qi t ⟨2,zP d,[],[]⟩=0:=by
  unfold qi; rw [if_neg (by simp),if_pos rfl];show putC t (zP d)=0;unfold putC; rw [if_neg (by rw [hn]; simp),hn]
 have ho:jv ⟨2,zP d,[],[]⟩=true:=by
  unfold jv; simp [p1,jO]
 have e:zR t ⟨2,zP d,[],[]⟩=(doT t ⟨2,zP d,[],[]⟩,0):=by
  unfold zR; rw [if_pos ht,if_pos ho,if_pos hc]
 have e2:doT t ⟨2,zP d,[],[]⟩=put t ⟨zP d,false,[]⟩:=by unfold doT; rw [if_neg (by simp),if_pos rfl]
 have ok:=JZ (op:=⟨2,zP d,[],[]⟩) ht (by rw [e]);rw [e];refine ⟨ok.2.2.2,by rw [e2]; exact zkF h,fun c hcd hx=>?_⟩;rw [e2];exact hx.put (fun hh=>hcd (by simp only [zP,List.cons.injEq] at hh; exact hh.2.2.1.symm))
def DOp (t:List Ent) (o:Op):Prop:=∀ c,c≠47→XZ c t→o.path≠zP c∧o.dest≠zP c
theorem JI {l:List Str} (h:l.all (fun x=>x[1]? != some 122)=true) {x:Str} (hx:x∈l) (c:UInt8):x≠zP c:=fun e=>by
 have:=List.all_eq_true.1 h x hx;rw [e] at this;simp [zP] at this
theorem yM (c:UInt8):([]:Str)≠zP c:=by simp [zP]
theorem zlR (h:tOk t=true) (op:Op):tOk (zR t op).1=true:=by
 by_cases hc:(zR t op).2=0
 ·obtain ⟨_,_,h3,h4⟩:=JZ h hc;rw [h3]; exact h4
 ·rw [zee h hc]; exact h
theorem XA.fold:∀ {us:List Str} {l:List Mark},(∀ u∈us,u≠zP c)→XA c l→XA c (us.foldl upsP l)
 | [],l,_,h=>h
 | u::us,l,hu,h=>by
  show XA c (us.foldl upsP (upsP l u));refine XA.fold (fun y hy=>hu y (List.mem_cons_of_mem _ hy)) ?_;unfold upsP;split
  ·exact h.put (hu u (List.mem_cons_self))
  ·exact h
theorem XZ.set (h:XZ c t) {k:Nat} {e:Ent} (he:e.path≠zP c):XZ c (t.set k e):=fun x hx=>by
 rcases List.mem_or_eq_of_mem_set hx with hx|rfl
 ·exact h x hx
 ·exact he
theorem XA.set (h:XA c l) {k:Nat} {e:Mark} (he:e.path≠zP c):XA c (l.set k e):=fun x hx=>by
 rcases List.mem_or_eq_of_mem_set hx with hx|rfl
 ·exact h x hx
 ·exact he
theorem XZ.add (h:XZ c t) {e:Ent} (he:e.path≠zP c):XZ c (t++[e]):=fun x hx=>by
 rcases List.mem_append.1 hx with hx | hx
 ·exact h x hx
 ·rw [List.mem_singleton.1 hx]; exact he
theorem XA.add (h:XA c l) {e:Mark} (he:e.path≠zP c):XA c (l++[e]):=fun x hx=>by
 rcases List.mem_append.1 hx with hx | hx
 ·exact h x hx
 ·rw [List.mem_singleton.1 hx]; exact he
theorem XZ.drop (h:XZ c t) (k:Nat):XZ c (t.drop k):=fun x hx=>h x (List.mem_of_mem_drop hx)
theorem XA.drop (h:XA c l) (k:Nat):XA c (l.drop k):=fun x hx=>h x (List.mem_of_mem_drop hx)
theorem zl1 {i j:Nat} (hi:i < j) (hj:j < 26):UInt8.ofNat (97+j)≠UInt8.ofNat (97+i):=fun e=>by
 have:=congrArg UInt8.toNat e;simp only [UInt8.toNat_ofNat'] at this;omega
theorem zeF (h:XO 122 o) {k:Int} (hk:k=3):oOk ⟨o.base,o.layers,o.upper++[⟨[47,122,122],k,[]⟩]⟩=false:=by
 subst hk;cases ho:oOk ⟨o.base,o.layers,o.upper++[⟨[47,122,122],3,[]⟩]⟩ with
 | false=>rfl
 | true =>
  exfalso;obtain ⟨t,x,g⟩:=OG.of ho;have ht:XZ 122 t:=XZ.lowerA h.l h.b g.lay.2.1;have hm:(⟨[47,122,122],3,[]⟩:Mark)∈diff t x:=by rw [← g.up]; simp
  obtain ⟨_,hd⟩:=y5 (TG.of g.gt) (TG.of g.gx) hm;rcases hd with ⟨y,_,h2⟩ | ⟨_,_,_,y,h2⟩
  ·injection h2 with _ h3
   split at h3<;>omega
  ·have:=ht.find;rw [show zP 122=[47,122,122] from rfl,h2] at this; cases this
theorem zeG (ho:oOk o=true) {ls:List (List Mark)} (h:4 < ls.length) {u:List Mark}:oOk ⟨o.base,ls,u⟩=false:=by
 cases hb:oOk ⟨o.base,ls,u⟩ with
 | false=>rfl
 | true =>
  exfalso;obtain ⟨t,x,g⟩:=OG.of hb;have:=g.lay.1;simp only at this;omega
theorem zeE (h:XO 122 o) (ho:oOk o=true):oOk ⟨o.base,o.layers++[[⟨[47,122,122,47,122],1,[]⟩]],o.upper⟩=false:=by
 cases hb:oOk ⟨o.base,o.layers++[[⟨[47,122,122,47,122],1,[]⟩]],o.upper⟩ with
 | false=>rfl
 | true =>
  exfalso;obtain ⟨y,x,g⟩:=OG.of hb;obtain ⟨t,v,g0⟩:=OG.of ho;have ht:XZ 122 t:=XZ.lowerA h.l h.b g0.lay.2.1;have hy:=g.lay.2.1;simp only at hy;rw [Ze,g0.lay.2.1] at hy;have hy:Go.Proofs.YtmkmldepkponaaaGreatDoor.lowerA [[⟨[47,122,122,47,122],1,[]⟩]] t=some y:=hy;unfold Go.Proofs.YtmkmldepkponaaaGreatDoor.lowerA at hy;split at hy
  ·rename_i y' hon;unfold Go.Proofs.YtmkmldepkponaaaGreatDoor.lowerA at hy;cases hy;have hx:XZ 122 y:=XZ.on (fun m hm=>by rw [List.mem_singleton.1 hm]; simp [zP]) ht hon;unfold lOn at hon;split at hon
   ·rename_i hc;simp only [Bool.and_eq_true] at hc;split at hon
    ·cases hon;have he:(⟨[47,122,122,47,122],false,[]⟩:Ent)∈zW [⟨[47,122,122,47,122],1,[]⟩] t:=(JM hc.1 (TG.of hc.2).srt).2 (.inl ⟨_,List.mem_cons_self,rfl⟩);have hu:=(TG.of g.gt).up _ he;have hp:pUp [47,122,122,47,122]=[47,122,122]:=by decide +kernel
     simp only [hp] at hu;unfold zF at hu;have hg:get (zW [⟨[47,122,122,47,122],1,[]⟩] t) [47,122,122]=none:=by
      unfold get; rw [if_neg (by simp)]; exact hx.find
     rw [hg] at hu;cases hu
    ·cases hon
   ·cases hon
  ·cases hy
end

theorem aCode {k:Int} {s:Str} {K:CV→Prop} (h1:0≤k) (h2:k < s.length) (h:∀ n:Int,0≤n→n≤255→K (CU n)):AtX k (s.map fun b=>CU b.toNat) K:=by
 have hk:k.toNat < s.length:=by omega
 refine ⟨k.toNat,by omega,_,?_,h (s[k.toNat].toNat:Int) (by omega) ?_⟩
 ·rw [List.getElem?_map,List.getElem?_eq_getElem hk]; rfl
 ·have:=UInt8.toNat_lt s[k.toNat]; omega
theorem aX {α:Type} {f:α→CV} {L:List α} {k:Int} {K:CV→Prop} (h1:0≤k) (h2:k < L.length) (h:∀ x∈L,K (f x)):AtX k (L.map f) K:=by
 have hk:k.toNat < L.length:=by omega
 exact ⟨k.toNat,by omega,_,by rw [List.getElem?_map,List.getElem?_eq_getElem hk]; rfl,h _ (List.getElem_mem hk)⟩
theorem zlZ {a b:Int} (ha:0≤a) (ha2:a < 4611686018427387904) (hb:0≤b) (hb2:b < 4611686018427387904):0≤IntKind.wrap .i64 ((BitVec.ofInt (IntKind.bits .i64) a ^^^ BitVec.ofInt (IntKind.bits .i64) b).toNat:Int):=by
 have e:∀ x:Int,0≤x→x < 4611686018427387904→(BitVec.ofInt 64 x).toNat=x.toNat:=fun x h1 h2=>by
  rw [BitVec.toNat_ofInt]; omega
 show 0≤IntKind.wrap .i64 ((BitVec.ofInt 64 a ^^^ BitVec.ofInt 64 b).toNat:Int);rw [BitVec.toNat_xor,e a ha ha2,e b hb hb2];have h:a.toNat ^^^ b.toNat < 2 ^ 62:=Nat.xor_lt_two_pow (by omega) (by omega);rw [zer (by omega)];omega
theorem lset {α:Type} {f:α→CV} {t:List α} {k:Nat} {x:CV}:((t.map f).set k x).length=t.length:=by simp
theorem rset {α:Type} {f:α→CV} {t:List α} {k:Nat} {x:α} {y:CV} (e:f x=y:=by rfl):PV.c (.row ((t.map f).set k y)) = .c (.row ((t.set k x).map f)):=by rw [List.map_set,e]
theorem lapp {α:Type} {f:α→CV} {t:List α} {x:CV}:(t.map f++[x]).length=t.length+1:=by simp
theorem rapp {α:Type} {f:α→CV} {t:List α} {x:α}:PV.c (.row (t.map f++[f x])) = .c (.row ((t++[x]).map f)):=by rw [List.map_append]; rfl
theorem retI {k0:List Nat} {m:XM} {ok:Int→Prop} {M:Int→XM} {x:Int} (h:ok x) (hk:zx k0 none [(0,.c (CI x))] m [(0,.c (CI x))] (M x)):RetX k0 (.c (CI x)) m (fun r mx=>∃ a,ok a∧r = .c (CI a)∧mx=M a):=⟨none,_,_,hk,x,h,rfl,rfl⟩
theorem Jo {k0:List Nat} {a:(Fr→XM→Prop)→Fr→XM→Prop} {b:Fr→XM→Prop} {F:Fr} {m:XM} {α β:Type} (fr:α→β→Fr) (mm:α→β→XM) (inv:α→β→Prop)
  (ha:a (fun F' m'=>∃ x y,inv x y∧zx k0 none F' m' (fr x y) (mm x y)) F m) (hb:∀ x y,inv x y→b (fr x y) (mm x y)):CutX k0 a b F m :=
 ⟨α × β,fun x=>fr x.1 x.2,fun x=>mm x.1 x.2,fun x=>inv x.1 x.2,none,fun F' m'=>∃ x y,inv x y∧zx k0 none F' m' (fr x y) (mm x y),ha,fun _ _ ⟨x,y,h⟩=>⟨(x,y),h⟩,fun x h=>hb x.1 x.2 h⟩
theorem lz3 {k0:List Nat} {body:(Fr→XM→Prop)→Fr→XM→Prop} {F:Fr} {m:XM} {α β γ:Type} (z:Nat) (fr:α→β→γ→Fr) (mm:α→β→γ→XM) (inv:α→β→γ→Prop) (me:α→β→γ→Nat) (a0:α) (b0:β) (c0:γ) (h0:inv a0 b0 c0) (hk:zx k0 (some z) F m (fr a0 b0 c0) (mm a0 b0 c0))
  (hb:∀ a b c,inv a b c→body (fun F' m'=>∃ a' b' c',inv a' b' c'∧me a' b' c' < me a b c∧zx k0 none F' m' (fr a' b' c') (mm a' b' c')) (fr a b c) (mm a b c)):LoopX k0 body F m :=
 ⟨α × β × γ,fun x=>fr x.1 x.2.1 x.2.2,fun x=>mm x.1 x.2.1 x.2.2,fun x=>inv x.1 x.2.1 x.2.2,fun x=>me x.1 x.2.1 x.2.2,some z,none,fun x F' m'=>∃ a' b' c',inv a' b' c'∧me a' b' c' < me x.1 x.2.1 x.2.2∧zx k0 none F' m' (fr a' b' c') (mm a' b' c'),
  ⟨(a0,b0,c0),h0,hk⟩,fun _ _ _ ⟨a,b,c,h⟩=>⟨(a,b,c),h⟩,fun x h=>hb x.1 x.2.1 x.2.2 h⟩
abbrev Rd (s:Str) (p:Int):XM:=[(1,.box [.c (jD s),.c (CI p)])]
theorem zI.weak {P:Program} {W0:World} {f:FuncId} {vs:List PV} {mp:XM} {α:Type} {ok ok':α→Prop} {R:α→PV} {M:α→XM} (h:zI P W0 f vs mp ok R M) (hk:∀ a,ok a→ok' a):zI P W0 f vs mp ok' R M:=by
 intro κ w us hB hm hr;refine (h κ w us hB hm hr).mono ?_;rintro e w' ⟨v,r,m',κ',rfl,h1,h2,h3⟩;obtain ⟨mx,e1,a,h4,h5,h6⟩:=h1;exact ⟨v,r,m',κ',rfl,⟨mx,e1,a,hk a h4,h5,h6⟩,h2,h3⟩
def zfJ:XC:=(.s (.r [.m1 4 (.i 0)]) (.s (.r [.mv 7 0,.mv 8 0,.k1 9 8,.f1 10 1 9,.l1 11 1 10,.b1 12 .add 11 (.i 1),.k1 13 7,.f1 14 1 13,.s1 1 14 12]) (.s (.s (.r [.mv 15 1,.b1 16 .lss 15 (.i 1),.mv 17 16,.h3 18 0 17,.gf 19 (.nck 18) 17,.h1 20 0 19 17,.h2 21 1 20 17,.gf 22 (.len false 21) 17,.gf 23 (.bin .eql 22 (.i 0)) 17,.p1 24 17 23]) (.cnd 24 (.s (.r [.m1 4 (.i 0)]) .ret) .skip)) (.s (.r [.mv 25 0,.k1 26 25,.f1 27 1 26,.l1 28 1 27,.b1 29 .sub 28 (.i 1),.mv 5 29]) (.s (.s (.r [.mv 30 5,.mv 31 0,.k1 32 31,.f1 33 0 32,.l1 34 1 33,.n1 35 34,.b1 36 .lss 30 35]) (.cnd 36 (.s (.r [.mv 37 0,.k1 38 37,.f1 39 0 38,.l1 40 1 39,.mv 41 5,.i1 42 1 40 41,.l1 43 1 42,.ex 44 (.conv .i64 43),.mv 45 1,.b1 46 .rem 44 45,.mv 4 46]) .ret) .skip)) (.s (.d [.mv 47 0,.k1 48 47,.f1 49 0 48,.l1 50 1 49,.mv 51 5,.mv 52 0,.k1 53 52,.f1 54 0 53,.l1 55 1 54,.n1 56 55,.b1 57 .rem 51 56,.i1 58 1 50 57,.l1 59 1 58,.ex 60 (.conv .i64 59),.b1 61 .mul 60 (.i 131),.mv 62 0,.k1 63 62,.f1 64 0 63,.l1 65 1 64,.mv 66 5,.b1 67 .mul 66 (.i 7),.b1 68 .add 67 (.i 3),.mv 69 0,.k1 70 69,.f1 71 0 70,.l1 72 1 71,.n1 73 72,.b1 74 .rem 68 73,.i1 75 1 65 74,.l1 76 1 75,.ex 77 (.conv .i64 76),.b1 78 .mul 77 (.i 1117),.b1 79 .add 61 78,.mv 80 5,.b1 81 .mul 80 (.i 29),.b1 82 .add 79 81,.mv 83 5,.mv 84 0,.k1 85 84,.f1 86 0 85,.l1 87 1 86,.n1 88 87,.b1 89 .quo 83 88,.b1 90 .mul 89 (.i 53),.b1 91 .add 82 90,.mv 6 91]) (.s (.r [.mv 92 6,.mv 93 6,.b1 94 .quo 93 (.i 64),.b1 95 .xor 92 94,.mv 6 95]) (.s (.r [.mv 96 6,.mv 97 1,.b1 98 .rem 96 97,.mv 4 98]) .ret))))))))
theorem zfK:zh Tryz.prog [] 78=some (zfJ.ac,[(.t 4)],99):=by kernel_rfl
theorem jW (W0:World) (s:Str) (p n:Int) (hs:s.length≤2000) (hp:0≤p∧p≤1000000) (hn:n≤1000000) :
  zI Tryz.prog W0 78 [.ptr 1 0,.c (CI n)] (Rd s p) (fun k:Int=>0≤k∧(1≤n→k < n)) (fun k => .c (CI k)) (fun _=>Rd s (p+1)):=by
 refine fW mixed zfK fun hg=>?_
 refine dr ?_;apply cP<;>intro h1
 ·refine dr ?_;refine retI (x:=0) ⟨by omega,by omega⟩ ?_;refine dr ?_;trivial
 refine dr ?_;apply cP<;>intro h2
 ·refine dr ?_;refine retI (x:=0) ⟨by omega,by omega⟩ ?_;refine dr ?_;trivial
 have fin:∀ x:Int,0≤x % n∧(1≤n→x % n < n):=fun x=>⟨Int.emod_nonneg _ (by omega),fun _=>Int.emod_lt_of_pos _ (by omega)⟩
 have hl:0 < (s.length:Int):=by omega
 have hq:0≤(p+1 - 1) / (s.length:Int)∧(p+1 - 1) / (s.length:Int)≤p+1 - 1:=⟨Int.ediv_nonneg (by omega) (by omega),Int.ediv_le_self _ (by omega)⟩;refine dr ?_;apply cP<;>intro h3
 ·refine dr ?_;repeat (refine aCode (by omega) (by omega) fun v hv0 hv1=>?_; first|refine dr ?_|exact dz)
  refine retI (fin v) ?_;refine dr ?_;trivial
 ·refine dr ?_;repeat ((first|refine aCode (Int.emod_nonneg _ (by omega)) (Int.emod_lt_of_pos _ (by omega)) fun v hv0 hv1=>?_|refine oB ⟨zlZ (by omega) (by omega) (by omega) (by omega),by omega,by omega⟩ ?_); first|refine dr ?_|exact dz)
  refine retI (fin _) ?_;refine dr ?_;trivial
def zgt:XC:=(.s (.r [.ex 2 (.mv (.k .np))]) (.s (.s (.r [.mv 3 0,.n1 4 3,.b1 5 .gtr 4 (.i 2000)]) (.cnd 5 (.r [.mv 6 0,.ex 7 (.slr 1 6 .none (.some (.i 2000))),.a1 0 7 1 5]) .skip)) (.s (.r [.mv 8 0,.ex 9 (.build [.nil,(I 0)] [(0,(1,8))]),.x1 10 9,.mv 2 10]) .ret)))
theorem zgu:zh Tryz.prog [] 41=some (zgt.ac,[(.t 2)],11):=by kernel_rfl
theorem ziD (W0:World) (s:Str):zI Tryz.prog W0 41 [.c (jD s)] [] (fun x:Str=>x.length≤2000) (fun _ => .ptr 160 0) (fun x=>[(160,.box [.c (jD x),.c (CI 0)])]):=by
 refine fW mixed zgu fun hg=>?_
 refine dr ?_;apply cP<;>intro h1
 ·refine dr ?_;repeat (refine sHiM 2000 rfl (by omega) ?_; first|refine dr ?_|exact dz)
  refine ⟨none,_,_,?_,s.take 2000,by simp; omega,rfl,rfl⟩;refine dr ?_;trivial
 ·refine dr ?_;refine ⟨none,_,_,?_,s,by omega,rfl,rfl⟩;refine dr ?_;trivial
theorem zbD (W0:World) (s:Str):zI Tryz.prog W0 41 [.c (jD s)] [] (fun x:Str=>x.length≤2000) (fun _ => .ptr 1 0) (fun x=>Rd x 0):=(ziD W0 s).swp 160 1
def zfL:XC:=(.s (.r [.m1 4 (.i 0)]) (.s (.r [.mv 5 1,.mv 6 0,.mv 7 1,.n1 8 7,.o1 9 78 [6,8],.i1 10 1 5 9,.l1 11 1 10,.mv 4 11]) .ret))
theorem zfM:zh Tryz.prog [78] 119=some (zfL.ac,[(.t 4)],12):=by kernel_rfl
theorem ZN (W0:World) (s:Str) (p:Int) (l:List Int) (hs:s.length≤2000) (hp:0≤p∧p≤1000000) (hl:1≤l.length∧l.length≤1000) :
  zI Tryz.prog W0 119 [.ptr 1 0,.c (eInts l)] (Rd s p) (fun x:Int=>x∈l) (fun x => .c (CI x)) (fun _=>Rd s (p+1)):=by
 refine fW mixed zfM fun hg=>?_
 refine dr ?_;refine oW (jW W0 s p l.length hs hp (by omega)) rfl ⟨rfl,trivial⟩ rfl rfl ⟨0,by omega,by omega⟩ fun k hk=>⟨rfl,?_⟩
 refine dr ?_;refine aX hk.1 (hk.2 (by omega)) fun x hx=>?_
 refine dEr ?_;refine ⟨none,_,_,?_,x,hx,rfl,rfl⟩;refine dr ?_;trivial
def zfN:XC:=(.s (.r [.ex 4 (.mv (.s []))]) (.s (.r [.mv 5 1,.mv 6 0,.mv 7 1,.n1 8 7,.o1 9 78 [6,8],.i1 10 1 5 9,.l1 11 1 10,.mv 4 11]) .ret))
theorem zfO:zh Tryz.prog [78] 122=some (zfN.ac,[(.t 4)],12):=by kernel_rfl
theorem f_of (W0:World) (s:Str) (p:Int) (l:List Str) (hs:s.length≤2000) (hp:0≤p∧p≤1000000) (hl:1≤l.length∧l.length≤1000) :
  zI Tryz.prog W0 122 [.ptr 1 0,.c (jy l)] (Rd s p) (fun x:Str=>x∈l) (fun x => .c (CS x)) (fun _=>Rd s (p+1)):=by
 refine fW mixed zfO fun hg=>?_
 refine dr ?_;refine oW (jW W0 s p l.length hs hp (by omega)) rfl ⟨rfl,trivial⟩ rfl rfl ⟨0,by omega,by omega⟩ fun k hk=>⟨rfl,?_⟩
 refine dr ?_;refine aX hk.1 (hk.2 (by omega)) fun x hx=>?_
 refine dEr ?_;refine ⟨none,_,_,?_,x,hx,rfl,rfl⟩;refine dr ?_;trivial
def y6:List Str:=[[47,97],[47,98],[47,97,47,98],[47,97,47,99],[47,98,47,97],[47,97,98],[47,97,47,98,47,99],[47,97,47,98,47,97],[47,98,47,98],[47,99]]
def zbn:List Str:=[[],[120],[121],[49,50],[97,98,99],[122,57]]
theorem Jp {x:Str} (hx:x∈y6) (c:UInt8):x≠zP c:=JI (l:=y6) (by decide) hx c
theorem zii:∀ p∈y6,∀ u∈jc 3 p,u≠zP 122:=by decide +kernel
def zgz:XC:=(.s (.r [.ex 2 (.mv (.s []))]) (.s (.r [.mv 3 0,.ex 4 (.bsl 1 9 [(.s [47,97]),(.s [47,98]),(.s [47,97,47,98]),(.s [47,97,47,99]),(.s [47,98,47,97]),(.s [47,97,98]),(.s [47,97,47,98,47,99]),(.s [47,97,47,98,47,97]),(.s [47,98,47,98]),(.s [47,99])]),.o1 5 122 [3,4],.mv 2 5]) .ret))
theorem zgA:zh Tryz.prog [122] 120=some (zgz.ac,[(.t 2)],6):=by kernel_rfl
theorem YH (W0:World) (s:Str) (p:Int) (hs:s.length≤2000) (hp:0≤p∧p≤1000000) :
  zI Tryz.prog W0 120 [.ptr 1 0] (Rd s p) (fun x:Str=>x∈y6) (fun x => .c (CS x)) (fun _=>Rd s (p+1)):=by
 refine fW mixed zgA fun hg=>?_
 refine dr ?_;refine oW (f_of W0 s p y6 hs hp (by decide)) rfl ⟨rfl,trivial⟩ rfl rfl ⟨_,List.mem_cons_self⟩ fun x hx=>⟨rfl,?_⟩
 refine dEr ?_;refine ⟨none,_,_,?_,x,hx,rfl,rfl⟩;refine dr ?_;trivial
def zhb:XC:=(.s (.r [.ex 2 (.mv (.s []))]) (.s (.r [.mv 3 0,.ex 4 (.bsl 1 9 [(.s []),(.s [120]),(.s [121]),(.s [49,50]),(.s [97,98,99]),(.s [122,57])]),.o1 5 122 [3,4],.mv 2 5]) .ret))
theorem zhc:zh Tryz.prog [122] 121=some (zhb.ac,[(.t 2)],6):=by kernel_rfl
theorem zbI (W0:World) (s:Str) (p:Int) (hs:s.length≤2000) (hp:0≤p∧p≤1000000) :
  zI Tryz.prog W0 121 [.ptr 1 0] (Rd s p) (fun x:Str=>x∈zbn) (fun x => .c (CS x)) (fun _=>Rd s (p+1)):=by
 refine fW mixed zhc fun hg=>?_
 refine dr ?_;refine oW (f_of W0 s p zbn hs hp (by decide)) rfl ⟨rfl,trivial⟩ rfl rfl ⟨_,List.mem_cons_self⟩ fun x hx=>⟨rfl,?_⟩
 refine dEr ?_;refine ⟨none,_,_,?_,x,hx,rfl,rfl⟩;refine dr ?_;trivial

theorem lq {k0:List Nat} {body:(Fr→XM→Prop)→Fr→XM→Prop} {F:Fr} {m:XM} {σ:Type} (fr:σ→Fr) (mm:σ→XM) (inv:σ→Prop) (me:σ→Nat) (x0:σ) (h0:inv x0) (hk:zx k0 (some 3) F m (fr x0) (mm x0))
  (hb:∀ x,inv x→body (fun F' m'=>∃ x',inv x'∧me x' < me x∧zx k0 (some 3) F' m' (fr x') (mm x')) (fr x) (mm x)):LoopX k0 body F m :=
 ⟨σ,fr,mm,inv,me,some 3,some 3,_,⟨x0,h0,hk⟩,fun _ _ _ h=>h,hb⟩
theorem lq3 {k0:List Nat} {body:(Fr→XM→Prop)→Fr→XM→Prop} {F:Fr} {m:XM} {α β γ:Type} (fr:α→β→γ→Fr) (mm:α→β→γ→XM) (inv:α→β→γ→Prop) (me:α→β→γ→Nat) (a0:α) (b0:β) (c0:γ) (h0:inv a0 b0 c0) (hk:zx k0 (some 3) F m (fr a0 b0 c0) (mm a0 b0 c0))
  (hb:∀ a b c,inv a b c→body (fun F' m'=>∃ a' b' c',inv a' b' c'∧me a' b' c' < me a b c∧zx k0 (some 3) F' m' (fr a' b' c') (mm a' b' c')) (fr a b c) (mm a b c)):LoopX k0 body F m :=
 ⟨α × β × γ,fun x=>fr x.1 x.2.1 x.2.2,fun x=>mm x.1 x.2.1 x.2.2,fun x=>inv x.1 x.2.1 x.2.2,fun x=>me x.1 x.2.1 x.2.2,some 3,some 3,fun x F' m'=>∃ a' b' c',inv a' b' c'∧me a' b' c' < me x.1 x.2.1 x.2.2∧zx k0 (some 3) F' m' (fr a' b' c') (mm a' b' c'),
  ⟨(a0,b0,c0),h0,hk⟩,fun _ _ _ ⟨a,b,c,h⟩=>⟨(a,b,c),h⟩,fun x h=>hb x.1 x.2.1 x.2.2 h⟩
structure OZ (k:Nat) (o:Over):Prop where
 b:o.base.length≤k
 n:o.layers.length≤k
 l:∀ l∈o.layers,l.length≤k
 u:o.upper.length≤k
theorem OS.oz {o:Over} (h:OS o):OZ 32 o:=⟨by have:=h.b; omega,by have:=h.n; omega,h.l,h.u⟩
theorem OZ.mono {o:Over} {n m:Nat} (h:OZ n o) (hm:n≤m):OZ m o:=⟨by have:=h.b; omega,by have:=h.n; omega,fun l hl=>by have:=h.l l hl; omega,by have:=h.u; omega⟩
def zhN:XC:=(.s (.r [.x1 1 0,.ex 2 (.alloc [.nil,.nil,.nil])]) (.s (.d [.ex 5 .bsl0,.f1 6 0 1,.l1 7 1 6,.ex 8 (.app true 3 40 77 5 7),.ex 9 .bsl0,.f1 10 2 1,.l1 11 1 10,.ex 12 (.app true 3 40 34 9 11),.ex 13 (.build [.nil,.nil,.nil] [(0,(1,8)),(2,(1,12))]),.ex 3 (.alloc [.nil,.nil,.nil]),.s1 3 3 13]) (.s (.s (.r [.m1 4 (.i 0)]) (.blk 0 (.loop (.s (.s (.r [.mv 14 4,.f1 15 1 1,.l1 16 1 15,.n1 17 16,.b1 18 .lss 14 17]) (.ce 18 0)) (.s (.blk 1 (.d [.f1 21 1 3,.l1 22 1 21,.ex 23 .bsl0,.f1 24 1 1,.l1 25 1 24,.mv 26 4,.i1 27 1 25 26,.l1 28 1 27,.ex 29 (.app true 3 40 34 23 28),.ex 30 (.bsl 1 25 [29]),.ex 31 (.app false 1 24 25 22 30),.f1 32 1 3,.s1 1 32 31])) (.ic 19 20 4)))))) (.s (.r [.l2 33 3 3,.s1 3 2 33]) .ret))))
theorem za2:zh Tryz.prog [] 66=some (zhN.ac,[(.cell 2 true 3)],34):=by kernel_rfl
theorem Qz (W0:World) (o:Over) (h:OZ 1000000 o):zI Tryz.prog W0 66 [.c (zL o)] [] (fun _:Unit=>True) (fun _ => .agg [.c (ze o.base),.own 4 o.layers.length,.c (zg o.upper)]) (fun _=>[(4,.row (o.layers.map zg) 1 25)]):=by
 refine fW mixed za2 fun hg=>?_
 obtain ⟨z1,z2,z3,z4⟩:=h;refine dr ?_;refine lq (σ:=Nat) (fun k=>[(1,.ptr 16 0),(2,.ptr 32 0),(3,.ptr 48 0),(4,I k)]) (fun k=>[(4,.row ((o.layers.take k).map zg) 1 25),(16,.box [.c (ze o.base),.c (js o.layers),.c (zg o.upper)]),(32,.box [.nil,.nil,.nil]),(48,.box [.c (ze o.base),.own 4 k,.c (zg o.upper)])]) (fun k=>k≤o.layers.length) (fun k=>o.layers.length - k) 0 (by simp) ?_ ?_
 ·refine zx.trans (z:=some 128) (z':=some 3) (F1:=[(1,.ptr 16 0),(2,.ptr 32 0),(3,.ptr 48 0),(4,I 0)]) (m1:=[(16,.box [.c (ze o.base),.c (js o.layers),.c (zg o.upper)]),(32,.box [.nil,.nil,.nil]),(48,.box [.c (ze o.base),.nil,.own 192 o.upper.length]),(192,.row (o.upper.map jm) 3 34)]) ?_ ?_
  ·refine dr ?_;repeat (refine oB (by simp<;>rfl) ?_; first|refine dr ?_|exact dz)
   trivial
  refine zx.trans (z:=some 192) (z':=some 3) (F1:=[(1,.ptr 16 0),(2,.ptr 32 0),(3,.ptr 48 0),(4,I 0)]) (m1:=[(16,.box [.c (ze o.base),.c (js o.layers),.c (zg o.upper)]),(32,.box [.nil,.nil,.nil]),(48,.box [.c (ze o.base),.nil,.c (zg o.upper)])]) ?_ ?_
  ·refine dr ?_;repeat (refine oB (by simp<;>rfl) ?_; first|refine dr ?_|exact dz)
   trivial
  ·show jB _ _ _ _ _;exact jB.nilB 48 [.c (ze o.base),.nil,.c (zg o.upper)] [.c (ze o.base),.own 4 0,.c (zg o.upper)] 4 25 rfl rfl ⟨nr0,nr1,nr0,trivial⟩
 intro k hk;refine dr ?_;apply cP<;>intro h1
 ·have hk':k < o.layers.length:=by omega
  have hz:=z3 _ (List.getElem_mem hk');refine dr ?_;repeat ((first|refine oB (by simp; omega) ?_|refine oB (by simp) ?_); first|refine dr ?_|exact dz)
  refine ⟨k+1,by omega,by omega,?_⟩;rw [List.take_succ_eq_append_getElem hk',List.map_append];refine jB.push (C:=(o.layers.take k).map zg) (L:=o.layers[k].map jm) 4 464 rfl rfl (by simp) ?_;refine dr ?_;trivial
 have hkl:k=o.layers.length:=by omega
 subst hkl;rw [List.take_length];refine dr ?_;refine ⟨none,_,_,?_,(),trivial,rfl,rfl⟩;refine dr ?_;trivial
theorem zbN (W0:World) (o:Over) (h:OZ 1000000 o):Fn Tryz.prog W0 66 [zL o] (.c (zL o)) []:=by
 refine fX mixed za2 fun hg=>?_
 obtain ⟨z1,z2,z3,z4⟩:=h;refine dr ?_;refine lq (σ:=Nat) (fun k=>[(1,.ptr 16 0),(2,.ptr 32 0),(3,.ptr 48 0),(4,I k)]) (fun k=>[(4,.row ((o.layers.take k).map zg) 1 25),(16,.box [.c (ze o.base),.c (js o.layers),.c (zg o.upper)]),(32,.box [.nil,.nil,.nil]),(48,.box [.c (ze o.base),.own 4 k,.c (zg o.upper)])]) (fun k=>k≤o.layers.length) (fun k=>o.layers.length - k) 0 (by simp) ?_ ?_
 ·refine zx.trans (z:=some 128) (z':=some 3) (F1:=[(1,.ptr 16 0),(2,.ptr 32 0),(3,.ptr 48 0),(4,I 0)]) (m1:=[(16,.box [.c (ze o.base),.c (js o.layers),.c (zg o.upper)]),(32,.box [.nil,.nil,.nil]),(48,.box [.c (ze o.base),.nil,.own 192 o.upper.length]),(192,.row (o.upper.map jm) 3 34)]) ?_ ?_
  ·refine dr ?_;repeat (refine oB (by simp<;>rfl) ?_; first|refine dr ?_|exact dz)
   trivial
  refine zx.trans (z:=some 192) (z':=some 3) (F1:=[(1,.ptr 16 0),(2,.ptr 32 0),(3,.ptr 48 0),(4,I 0)]) (m1:=[(16,.box [.c (ze o.base),.c (js o.layers),.c (zg o.upper)]),(32,.box [.nil,.nil,.nil]),(48,.box [.c (ze o.base),.nil,.c (zg o.upper)])]) ?_ ?_
  ·refine dr ?_;repeat (refine oB (by simp<;>rfl) ?_; first|refine dr ?_|exact dz)
   trivial
  ·show jB _ _ _ _ _;exact jB.nilB 48 [.c (ze o.base),.nil,.c (zg o.upper)] [.c (ze o.base),.own 4 0,.c (zg o.upper)] 4 25 rfl rfl ⟨nr0,nr1,nr0,trivial⟩
 intro k hk;refine dr ?_;apply cP<;>intro h1
 ·have hk':k < o.layers.length:=by omega
  have hz:=z3 _ (List.getElem_mem hk');refine dr ?_;repeat ((first|refine oB (by simp; omega) ?_|refine oB (by simp) ?_); first|refine dr ?_|exact dz)
  refine ⟨k+1,by omega,by omega,?_⟩;rw [List.take_succ_eq_append_getElem hk',List.map_append];refine jB.push (C:=(o.layers.take k).map zg) (L:=o.layers[k].map jm) 4 464 rfl rfl (by simp) ?_;refine dr ?_;trivial
 have hkl:k=o.layers.length:=by omega
 subst hkl;rw [List.take_length];refine dr ?_;rfl
def zhW:XC:=(.s (.r [.x1 2 0,.ex 4 (.alloc [.nil,.nil,.nil])]) (.s (.r [.l2 8 3 2,.c1 9 51 [8],.mv 7 9,.e1 10 7 0,.e1 11 7 1,.a1 5 10 3 77,.mv 6 11]) (.s (.r [.mv 12 5,.mv 13 1,.c1 14 53 [12,13],.f1 15 2 2,.s1 1 15 14]) (.s (.r [.l2 16 3 2,.s1 3 4 16]) .ret))))
theorem zhX:zh Tryz.prog [] 74=some (zhW.ac,[(.cell 4 true 3)],17):=by kernel_rfl
theorem ziW (W0:World) (o:Over) (t x:List Ent) (h1:ja o=some t) (ht:tOk t=true) (hx:tOk x=true):Fn Tryz.prog W0 74 [zL o,ze x] (.c (zL ⟨o.base,o.layers,diff t x⟩)) []:=by
 refine fX mixed zhX fun hg=>?_
 have q:=YM W0 o;rw [h1] at q;refine dEr ?_;repeat ((first|refine c0 q rfl ?_|refine c0 (zbK W0 t x ht hx) rfl ?_); first|refine dEr ?_|exact dz)
 rfl
def zf3:XC:=(.s (.r [.x1 2 0,.x1 3 1,.ex 4 (.alloc [.nil,.nil,.nil]),.m1 5 (.i 0)]) (.s (.s (.r [.l2 10 3 2,.c1 11 16 [10],.u1 12 11]) (.cnd 12 (.s (.r [.ex 13 (.build [.nil,.nil,.nil] []),.s1 3 4 13,.m1 5 (.i 1)]) .ret) .skip)) (.s (.r [.l2 15 3 2,.c1 16 52 [15],.mv 14 16,.e1 17 14 0,.e1 18 14 1,.a1 6 17 3 77,.mv 7 18]) (.s (.r [.mv 20 6,.l2 21 4 3,.c1 22 73 [20,21],.mv 19 22,.e1 23 19 0,.e1 24 19 1,.a1 8 23 3 77,.mv 9 24]) (.s (.s (.r [.mv 25 9,.b1 26 .neq 25 (.i 0)]) (.cnd 26 (.s (.r [.l2 27 3 2,.c1 28 66 [27],.mv 29 9,.s1 3 4 28,.mv 5 29]) .ret) .skip)) (.s (.r [.l2 30 3 2,.c1 31 66 [30],.mv 32 8,.c1 33 74 [31,32],.mv 34 9,.s1 3 4 33,.mv 5 34]) .ret))))))
theorem zf4:zh Tryz.prog [] 38=some (zf3.ac,[(.cell 4 true 3),(.t 5)],35):=by kernel_rfl
theorem zi5 (W0:World) (o:Over) (op:Op):Fn Tryz.prog W0 38 [zL o,eOp op] (.c (eOC (oDo o op))) []:=by
 refine fX mixed zf4 fun hg=>?_
 refine dEr ?_;repeat (refine c0 (Jy W0 o) rfl ?_; first|refine dEr ?_|exact dz)
 apply cP<;>intro h1
 ·refine dr ?_;rw [oDo,if_neg (by simp [h1])]<;>rfl
 obtain ⟨t,x,g⟩:=OG.of h1;rw [g.doEq];have q1:=YN W0 o;rw [g.vw] at q1;have q2:=YP W0 x op;have q3:=zbN W0 o (g.os.oz.mono (by omega));have q4:=(JZ g.gx (op:=op));generalize zR x op=r at *;obtain ⟨y,c⟩:=r;refine dEr ?_;repeat ((first|refine c0 q1 rfl ?_|refine c0 q2 rfl ?_); first|refine dEr ?_|exact dz)
 apply cP<;>intro h2
 ·refine dEr ?_;repeat (refine c0 q3 rfl ?_; first|refine dEr ?_|exact dz)
  rw [if_neg h2]<;>rfl
 ·obtain ⟨_,_,k1,k2⟩:=q4 h2;simp only at k1;have q5:=ziW W0 o t y g.low g.gt (by rw [k1]; exact k2);refine dEr ?_;repeat ((first|refine c0 q3 rfl ?_|refine c0 q5 rfl ?_); first|refine dEr ?_|exact dz)
  rw [if_pos h2,h2]<;>rfl
def zf9:XC:=(.s (.r [.x1 1 0,.ex 2 (.alloc [.nil,.nil,.nil]),.m1 3 .n]) (.s (.s (.r [.l2 5 3 1,.c1 6 16 [5],.u1 7 6]) (.cnd 7 (.s (.r [.ex 8 (.build [.nil,.nil,.nil] []),.s1 3 2 8,.m1 3 .n]) .ret) .skip)) (.s (.r [.l2 9 3 1,.o1 10 66 [9],.ex 4 (.alloc [.nil,.nil,.nil]),.s1 3 4 10]) (.s (.s (.r [.f1 11 1 1,.l1 12 1 11,.n1 13 12,.b1 14 .geq 13 (.i 4)]) (.cnd 14 (.s (.r [.l2 15 3 4,.s1 3 2 15,.m1 3 .n]) .ret) .skip)) (.s (.r [.f1 16 1 4,.l1 17 1 16,.f1 18 2 4,.l1 19 1 18,.ex 20 (.bsl 1 25 [19]),.ex 21 (.app false 1 24 25 17 20),.f1 22 1 4,.s1 1 22 21]) (.s (.r [.ex 23 .bsl0,.f1 24 2 4,.s1 1 24 23]) (.s (.r [.l2 25 3 4,.s1 3 2 25,.m1 3 .y]) .ret)))))))
theorem zga:zh Tryz.prog [66] 33=some (zf9.ac,[(.cell 2 true 3),(.t 3)],26):=by kernel_rfl
theorem zi7 (W0:World) (o:Over):Fn Tryz.prog W0 33 [zL o] (.c (eOB (qs o))) []:=by
 refine fX mixed zga fun hg=>?_
 refine dEr ?_;repeat (refine c0 (Jy W0 o) rfl ?_; first|refine dEr ?_|exact dz)
 apply cP<;>intro h1
 ·refine dr ?_;rw [qs,if_neg (by simp [h1])]<;>rfl
 have hz:=OS.ok h1;rw [qs,if_pos h1];refine dr ?_;refine oW (Qz W0 o (hz.oz.mono (by omega))) rfl trivial rfl rfl ⟨(),trivial⟩ fun _ _=>⟨rfl,?_⟩
 refine dEr ?_;apply cP<;>intro h2
 ·refine dr ?_;repeat (refine oB (by simp) ?_; first|refine dr ?_|exact dz)
  rw [if_pos (by omega)]<;>rfl
 ·have:=hz.n;refine dr ?_;repeat ((first|refine oB (by simp; omega) ?_|refine oB (by simp) ?_); first|refine dr ?_|exact dz)
  rw [if_neg (by omega)];exact congrArg (fun y=>CV.tup [.agg [ze o.base,y,zg []],CB true]) (by simp [js])
def zf5:XC:=(.s (.r [.x1 1 0,.ex 2 (.alloc [.nil,.nil,.nil]),.m1 3 .n]) (.s (.s (.r [.l2 8 3 1,.c1 9 16 [8],.u1 10 9]) (.cnd 10 (.s (.r [.ex 11 (.build [.nil,.nil,.nil] []),.s1 3 2 11,.m1 3 .n]) .ret) .skip)) (.s (.r [.l2 12 3 1,.c1 13 66 [12],.ex 4 (.alloc [.nil,.nil,.nil]),.s1 3 4 13]) (.s (.s (.r [.f1 14 1 4,.l1 15 1 14,.n1 16 15,.b1 17 .lss 16 (.i 2)]) (.cnd 17 (.s (.r [.l2 18 3 4,.s1 3 2 18,.m1 3 .n]) .ret) .skip)) (.s (.r [.f1 19 1 4,.l1 20 1 19,.ex 21 (.ia 1 20 (.i 0)),.l1 22 1 21,.a1 5 22 3 34]) (.s (.s (.r [.m1 6 (.i 1)]) (.blk 0 (.loop (.s (.s (.r [.mv 23 6,.f1 24 1 4,.l1 25 1 24,.n1 26 25,.b1 27 .lss 23 26]) (.ce 27 0)) (.s (.blk 1 (.s (.r [.m1 7 .n]) (.s (.r [.f1 31 1 4,.l1 32 1 31,.mv 33 6,.i1 34 1 32 33,.l1 35 1 34,.mv 36 5,.c1 37 71 [35,36],.mv 30 37,.e1 38 30 0,.e1 39 30 1,.a1 5 38 3 34,.mv 7 39]) (.s (.r [.mv 40 7,.u1 41 40]) (.cnd 41 (.s (.r [.l2 42 3 4,.s1 3 2 42,.m1 3 .n]) .ret) .skip))))) (.ic 28 29 6)))))) (.s (.r [.mv 43 5,.ex 44 (.bsl 1 25 [43]),.f1 45 1 4,.s1 1 45 44]) (.s (.r [.l2 46 3 4,.s1 3 2 46,.m1 3 .y]) .ret))))))))
theorem zf6:zh Tryz.prog [] 35=some (zf5.ac,[(.cell 2 true 3),(.t 3)],47):=by kernel_rfl
theorem zjc {one l:List Mark} {r:List (List Mark)}:j8 one (l::r)=match j1 l one with
  | some j=>j8 j r
  | none=>none:=by rw [j8]; cases j1 l one<;>rfl
theorem zi6 (W0:World) (o:Over):Fn Tryz.prog W0 35 [zL o] (.c (eOB (qL o))) []:=by
 refine fX mixed zf6 fun hg=>?_
 refine dEr ?_;repeat (refine c0 (Jy W0 o) rfl ?_; first|refine dEr ?_|exact dz)
 apply cP<;>intro h1
 ·refine dr ?_;rw [qL,if_neg (by simp [h1])]<;>rfl
 have hz:=OS.ok h1;rw [qL,if_pos h1];refine dEr ?_;repeat (refine c0 (zbN W0 o (hz.oz.mono (by omega))) rfl ?_; first|refine dEr ?_|exact dz)
 apply cP<;>intro h2
 ·refine dr ?_;have e:yn o=none:=by
   unfold yn;split
   ·rename_i a b r he; rw [he] at h2; simp at h2; omega
   ·rfl
  rw [e]<;>rfl
 have h0:0 < o.layers.length:=by omega
 obtain ⟨a,b,r,hl⟩:∃ a b r,o.layers=a::b::r:=by
  cases hl:o.layers with
  | nil=>rw [hl] at h0; simp at h0
  | cons a s=>cases s with
   | nil=>rw [hl] at h2; simp at h2
   | cons b r=>exact ⟨a,b,r,rfl⟩
 have e0:yn o=j8 o.layers[0] (o.layers.drop 1):=by
  have e:o.layers[0]=a:=by simp [hl]
  rw [e];unfold yn;rw [hl]; rfl
 rw [e0];have hn4:=hz.n;refine dr ?_;repeat (refine aM (j:=0) rfl (by omega) ?_; first|refine dr ?_|exact dz)
 refine lp2 (fun (k:Nat) (one:List Mark)=>[(2,.ptr 32 0),(4,.ptr 64 0),(5,.c (zg one)),(6,I k)]) (fun _ _=>[(32,.box [.nil,.nil,.nil]),(64,.box [.c (ze o.base),.c (js o.layers),.c (zg o.upper)])]) (fun k one=>1≤k∧k≤o.layers.length∧j8 one (o.layers.drop k)=j8 o.layers[0] (o.layers.drop 1)) (fun k _=>o.layers.length - k) 1 o.layers[0] ⟨by omega,by omega,rfl⟩ ?_ ?_
 ·refine dr ?_;trivial
 rintro k one ⟨k1,k2,k3⟩;refine dr ?_;apply cP<;>intro h3
 ·have hk':k < o.layers.length:=by omega
  rw [List.drop_eq_getElem_cons hk',zjc] at k3;have q:=zi3 W0 o.layers[k] one;cases hj:j1 o.layers[k] one with
  | none =>
   rw [hj] at q k3;refine dEr ?_;repeat (refine c0 q rfl ?_; first|refine dEr ?_|exact dz)
   rw [← k3]<;>rfl
  | some j =>
   rw [hj] at q k3;refine dEr ?_;repeat (refine c0 q rfl ?_; first|refine dEr ?_|exact dz)
   refine ⟨k+1,j,⟨by omega,by omega,k3⟩,by omega,?_⟩;refine dr ?_;trivial
 ·have hkl:k=o.layers.length:=by omega
  rw [hkl,List.drop_length,j8] at k3;refine dr ?_;rw [← k3]<;>rfl


def zg5:XC:=(.s (.r [.ex 4 (.alloc [(I 0),sE,sE,sE])]) (.s (.r [.mv 6 0,.ex 7 (.bsl 1 3 [(.i 1),(.i 2),(.i 2),(.i 3),(.i 4),(.i 5),(.i 1),(.i 5)]),.o1 8 119 [6,7],.mv 9 0,.o1 10 120 [9],.ex 11 (.build [(I 0),sE,sE,sE] [(0,(1,8)),(1,(1,10))]),.ex 5 (.alloc [(I 0),sE,sE,sE]),.s1 4 5 11]) (.cut (.s (.r [.mv 12 1,.n1 13 12,.b1 14 .gtr 13 (.i 0),.mv 15 14,.g1 16 0 5 15,.g2 17 1 16 15,.gt 18 (.bin .gtr 17 (.i 2)) 15,.p2 19 15 18,.mv 20 19,.g3 21 0 20,.gt 22 (.opn 78 [21,(.i 4)]) 20,.gt 23 (.bin .gtr 22 (.i 0)) 20,.p2 24 20 23]) (.cnd 24 (.r [.mv 25 1,.mv 26 0,.mv 27 1,.n1 28 27,.o1 29 78 [26,28],.i1 30 3 25 29,.f1 31 0 30,.l1 32 1 31,.f1 33 1 5,.s1 1 33 32]) .skip)) (.cut (.s (.r [.f1 34 0 5,.l1 35 1 34,.b1 36 .eql 35 (.i 2)]) (.cnd 36 (.r [.mv 37 0,.o1 38 121 [37],.f1 39 3 5,.s1 1 39 38]) .skip)) (.cut (.s (.r [.f1 40 0 5,.l1 41 1 40,.b1 42 .eql 41 (.i 5)]) (.cnd 42 (.r [.mv 43 0,.o1 44 120 [43],.f1 45 2 5,.s1 1 45 44]) .skip)) (.cut (.s (.r [.mv 46 0,.o1 47 78 [46,(.i 50)]]) (.blk 0 (.s (.r [.b1 49 .eql 47 (.i 0),.mv 48 49]) (.cnd 48 (.r [.mv 50 0,.ex 51 (.bsl 1 3 [(.i 0),(.i 6),(.k (.c (.sc (.int .i64 (.negSucc 0))))),(.i 1)]),.o1 52 119 [50,51],.f1 53 0 5,.s1 1 53 52]) (.s (.r [.b1 55 .eql 47 (.i 1),.mv 54 55]) (.cnd 54 (.r [.mv 56 0,.ex 57 (.bsl 1 9 [(.s [47]),(.s []),(.s [47,65]),(.s [47,97,47,98,47,99,47,100])]),.o1 58 122 [56,57],.f1 59 1 5,.s1 1 59 58]) (.s (.r [.b1 61 .eql 47 (.i 2),.mv 60 61]) (.cnd 60 (.r [.mv 62 0,.ex 63 (.bsl 1 9 [(.s [47]),(.s [47,97]),(.s [47,99,47,99,47,99]),(.s [])]),.o1 64 122 [62,63],.f1 65 2 5,.s1 1 65 64]) (.s (.r [.b1 67 .eql 47 (.i 3),.mv 66 67]) (.cnd 66 (.r [.mv 68 0,.ex 69 (.bsl 1 9 [(.s [113]),(.s [65]),(.s [97,98,99,100,101,102,103]),(.s [97,98,99,100,101,102])]),.o1 70 122 [68,69],.f1 71 3 5,.s1 1 71 70]) .skip)))))))))) (.s (.r [.l2 72 4 5,.s1 4 4 72]) .ret)))))))
theorem zg6:zh Tryz.prog [78,119,122,120,121] 80=some (zg5.ac,[(.cell 4 true 4)],73):=by kernel_rfl
theorem zbH (W0:World) (s:Str) (p:Int) (t:List Ent) (hs:s.length≤2000) (hp:0≤p∧p≤100000) (ht:t.length≤100000) :
  zI Tryz.prog W0 80 [.ptr 1 0,.c (ze t)] (Rd s p) (fun x:Op × Int=>(p≤x.2∧x.2≤p+8)∧DOp t x.1) (fun x => .c (eOp x.1)) (fun x=>Rd s x.2):=by
 refine fW mixed zg6 fun hg=>?_
 refine dr ?_;refine oW (ZN W0 s p [1,2,2,3,4,5,1,5] hs (by omega) (by decide)) rfl ⟨rfl,trivial⟩ rfl rfl ⟨1,by decide⟩ fun k hk=>⟨rfl,?_⟩
 refine dr ?_;refine oW (YH W0 s (p+1) hs (by omega)) rfl ⟨rfl,trivial⟩ rfl rfl ⟨_,List.mem_cons_self⟩ fun x hx=>⟨rfl,?_⟩
 refine dEr ?_;refine Jo (fun (o:Op) (q:Int)=>[(0,.ptr 1 0),(4,.ptr 64 0),(5,.ptr 80 0)]) (fun o q=>[(1,.box [.c (jD s),.c (CI q)]),(64,.box [.c (CI 0),.c (CS []),.c (CS []),.c (CS [])]),(80,.box [.c (CI o.kind),.c (CS o.path),.c (CS o.dest),.c (CS o.data)])]) (fun o q=>(p≤q∧q≤p+4)∧DOp t o) ?_ ?_
 ·refine dr ?_;apply cP<;>intro h1
  ·refine dr ?_;apply cP<;>intro h2
   ·refine dr ?_;refine oW (jW W0 s (p+1+1) 4 hs (by omega) (by omega)) rfl ⟨rfl,trivial⟩ rfl rfl ⟨0,by omega,by omega⟩ fun k1 hk1=>⟨rfl,?_⟩
    refine dEr ?_;apply cP<;>intro h3
    ·refine dEr ?_;refine oW (jW W0 s (p+1+1+1) t.length hs (by omega) (by omega)) rfl ⟨rfl,trivial⟩ rfl rfl ⟨0,by omega,by omega⟩ fun k2 hk2=>⟨rfl,?_⟩
     refine dEr ?_;repeat (refine aX hk2.1 (hk2.2 (by omega)) fun e he=>?_; first|refine dEr ?_|exact dz)
     refine ⟨⟨k,e.path,[],[]⟩,p+1+1+1+1,⟨⟨by omega,by omega⟩,fun c _ h=>⟨h e he,yM c⟩⟩,?_⟩;refine dr ?_;trivial
    ·refine dEr ?_;refine ⟨⟨k,x,[],[]⟩,p+1+1+1,⟨⟨by omega,by omega⟩,fun c _ _=>⟨Jp hx c,yM c⟩⟩,?_⟩;refine dr ?_;trivial
   ·refine dr ?_;refine ⟨⟨k,x,[],[]⟩,p+1+1,⟨⟨by omega,by omega⟩,fun c _ _=>⟨Jp hx c,yM c⟩⟩,?_⟩;refine dr ?_;trivial
  ·refine dr ?_;refine ⟨⟨k,x,[],[]⟩,p+1+1,⟨⟨by omega,by omega⟩,fun c _ _=>⟨Jp hx c,yM c⟩⟩,?_⟩;refine dr ?_;trivial
 rintro o q ⟨⟨hq1,hq2⟩,hd⟩;refine dr ?_;refine Jo (fun (o:Op) (q:Int)=>[(0,.ptr 1 0),(4,.ptr 64 0),(5,.ptr 80 0)]) (fun o q=>[(1,.box [.c (jD s),.c (CI q)]),(64,.box [.c (CI 0),.c (CS []),.c (CS []),.c (CS [])]),(80,.box [.c (CI o.kind),.c (CS o.path),.c (CS o.dest),.c (CS o.data)])]) (fun o q=>(p≤q∧q≤p+5)∧DOp t o) ?_ ?_
 ·refine dr ?_;apply cP<;>intro h1
  ·refine dr ?_;refine oW (zbI W0 s q hs (by omega)) rfl ⟨rfl,trivial⟩ rfl rfl ⟨_,List.mem_cons_self⟩ fun y hy=>⟨rfl,?_⟩
   refine dEr ?_;refine ⟨⟨o.kind,o.path,o.dest,y⟩,q+1,⟨⟨by omega,by omega⟩,hd⟩,?_⟩;refine dr ?_;trivial
  ·refine dr ?_;refine ⟨o,q,⟨⟨by omega,by omega⟩,hd⟩,?_⟩;refine dr ?_;trivial
 rintro o q ⟨⟨hq1,hq2⟩,hd⟩;refine dr ?_;refine Jo (fun (o:Op) (q:Int)=>[(0,.ptr 1 0),(4,.ptr 64 0),(5,.ptr 80 0)]) (fun o q=>[(1,.box [.c (jD s),.c (CI q)]),(64,.box [.c (CI 0),.c (CS []),.c (CS []),.c (CS [])]),(80,.box [.c (CI o.kind),.c (CS o.path),.c (CS o.dest),.c (CS o.data)])]) (fun o q=>(p≤q∧q≤p+6)∧DOp t o) ?_ ?_
 ·refine dr ?_;apply cP<;>intro h1
  ·refine dr ?_;refine oW (YH W0 s q hs (by omega)) rfl ⟨rfl,trivial⟩ rfl rfl ⟨_,List.mem_cons_self⟩ fun y hy=>⟨rfl,?_⟩
   refine dEr ?_;refine ⟨⟨o.kind,o.path,y,o.data⟩,q+1,⟨⟨by omega,by omega⟩,fun c h1 h2=>⟨(hd c h1 h2).1,Jp hy c⟩⟩,?_⟩;refine dr ?_;trivial
  ·refine dr ?_;refine ⟨o,q,⟨⟨by omega,by omega⟩,hd⟩,?_⟩;refine dr ?_;trivial
 rintro o q ⟨⟨hq1,hq2⟩,hd⟩;refine dr ?_;refine Jo (fun (o:Op) (q:Int)=>[(0,.ptr 1 0),(4,.ptr 64 0),(5,.ptr 80 0)]) (fun o q=>[(1,.box [.c (jD s),.c (CI q)]),(64,.box [.c (CI 0),.c (CS []),.c (CS []),.c (CS [])]),(80,.box [.c (CI o.kind),.c (CS o.path),.c (CS o.dest),.c (CS o.data)])]) (fun o q=>(p≤q∧q≤p+8)∧DOp t o) ?_ ?_
 ·refine dr ?_;refine oW (jW W0 s q 50 hs (by omega) (by omega)) rfl ⟨rfl,trivial⟩ rfl rfl ⟨0,by omega,by omega⟩ fun v hv=>⟨rfl,?_⟩
  refine dEr ?_;apply cP<;>intro h1
  ·refine dr ?_;refine oW (ZN W0 s (q+1) [0,6,-1,1] hs (by omega) (by decide)) rfl ⟨rfl,trivial⟩ rfl rfl ⟨0,by decide⟩ fun y hy=>⟨rfl,?_⟩
   refine dEr ?_;refine ⟨⟨y,o.path,o.dest,o.data⟩,q+1+1,⟨⟨by omega,by omega⟩,hd⟩,?_⟩;refine dr ?_;trivial
  refine dr ?_;apply cP<;>intro h2
  ·refine dr ?_;refine oW (f_of W0 s (q+1) [[47],[],[47,65],[47,97,47,98,47,99,47,100]] hs (by omega) (by decide)) rfl ⟨rfl,trivial⟩ rfl rfl ⟨_,List.mem_cons_self⟩ fun y hy=>⟨rfl,?_⟩
   refine dEr ?_;refine ⟨⟨o.kind,y,o.dest,o.data⟩,q+1+1,⟨⟨by omega,by omega⟩,fun c h1 h2=>⟨JI (by decide) hy c,(hd c h1 h2).2⟩⟩,?_⟩;refine dr ?_;trivial
  refine dr ?_;apply cP<;>intro h3
  ·refine dr ?_;refine oW (f_of W0 s (q+1) [[47],[47,97],[47,99,47,99,47,99],[]] hs (by omega) (by decide)) rfl ⟨rfl,trivial⟩ rfl rfl ⟨_,List.mem_cons_self⟩ fun y hy=>⟨rfl,?_⟩
   refine dEr ?_;refine ⟨⟨o.kind,o.path,y,o.data⟩,q+1+1,⟨⟨by omega,by omega⟩,fun c h1 h2=>⟨(hd c h1 h2).1,JI (by decide) hy c⟩⟩,?_⟩;refine dr ?_;trivial
  refine dr ?_;apply cP<;>intro h4
  ·refine dr ?_;refine oW (f_of W0 s (q+1) [[113],[65],[97,98,99,100,101,102,103],[97,98,99,100,101,102]] hs (by omega) (by decide)) rfl ⟨rfl,trivial⟩ rfl rfl ⟨_,List.mem_cons_self⟩ fun y hy=>⟨rfl,?_⟩
   refine dEr ?_;refine ⟨⟨o.kind,o.path,o.dest,y⟩,q+1+1,⟨⟨by omega,by omega⟩,hd⟩,?_⟩;refine dr ?_;trivial
  refine dr ?_;refine ⟨o,q+1,⟨⟨by omega,by omega⟩,hd⟩,?_⟩;refine dr ?_;trivial
 rintro o q ⟨⟨hq1,hq2⟩,hd⟩;refine dr ?_;refine ⟨none,_,_,?_,(o,q),⟨⟨by omega,by omega⟩,hd⟩,rfl,rfl⟩;refine dr ?_;trivial
def zhd:XC:=(.s (.r [.a2 2 3 77]) (.s (.r [.ex 6 .bsl0,.a1 3 6 3 77]) (.s (.s (.r [.mv 7 0,.ex 8 (.bsl 1 3 [(.i 6),(.i 12),(.i 18),(.i 24),(.i 30),(.i 3),(.i 0)]),.o1 9 119 [7,8],.mv 4 9]) (.blk 0 (.loop (.s (.s (.r [.mv 10 4,.b1 11 .gtr 10 (.i 0)]) (.ce 11 0)) (.s (.blk 1 (.r [.mv 15 3,.mv 16 0,.mv 17 3,.o1 18 80 [16,17],.c1 19 73 [15,18],.mv 14 19,.e1 20 14 0,.e1 21 14 1,.a1 3 20 3 77])) (.r [.mv 12 4,.b1 13 .sub 12 (.i 1),.mv 4 13])))))) (.s (.s (.r [.mv 22 0,.o1 23 78 [22,(.i 20)],.b1 24 .eql 23 (.i 0)]) (.cnd 24 (.s (.r [.m1 5 (.i 0)]) (.blk 2 (.loop (.s (.s (.r [.mv 25 5,.b1 26 .lss 25 (.i 26),.mv 27 26,.g3 28 3 27,.gt 29 (.len false 28) 27,.gt 30 (.bin .lss 29 (.i 16)) 27,.p2 31 27 30]) (.ce 31 2)) (.s (.blk 3 (.r [.mv 35 3,.mv 36 5,.b1 37 .add (.i 97) 36,.ex 38 (.conv .u8 37),.ex 39 (.bsl 1 5 [38]),.ex 40 (.b2s 39),.ex 41 (.bin .add (.s [47,122]) 40),.ex 42 (.build [(I 0),sE,sE,sE] [(0,(1,(.i 2))),(1,(1,41))]),.c1 43 73 [35,42],.mv 34 43,.e1 44 34 0,.e1 45 34 1,.a1 3 44 3 77])) (.ic 32 33 5)))))) .skip)) (.s (.r [.mv 46 3,.a1 2 46 3 77]) .ret)))))
theorem zhe:zh Tryz.prog [80,78,119] 77=some (zhd.ac,[(.t 2)],47):=by kernel_rfl
theorem ziN (W0:World) (s:Str) (p:Int) (hs:s.length≤2000) (hp:0≤p∧p≤50000) :
  zI Tryz.prog W0 77 [.ptr 1 0] (Rd s p) (fun x:List Ent × Int=>(x.1.length≤17∧p≤x.2∧x.2≤p+242)∧XZ 122 x.1) (fun x => .c (ze x.1)) (fun x=>Rd s x.2):=by
 refine fW mixed zhe fun hg=>?_
 refine dr ?_;refine oW (ZN W0 s p [6,12,18,24,30,3,0] hs (by omega) (by decide)) rfl ⟨rfl,trivial⟩ rfl rfl ⟨0,by decide⟩ fun k hk=>⟨rfl,?_⟩
 have hk2:0≤k∧k≤30:=by
  have:∀ x∈([6,12,18,24,30,3,0]:List Int),0≤x∧x≤30:=by decide
  exact this k hk
 refine dEr ?_;refine lz3 48 (fun (t:List Ent) (i q:Int)=>[(0,.ptr 1 0),(3,.c (ze t)),(4,.c (CI i))]) (fun _ _ q=>[(1,.box [.c (jD s),.c (CI q)])]) (fun t i q=>(t.length≤17∧0≤i∧i≤30∧p≤q∧q≤p+1+8 * (30 - i))∧tOk t=true∧∀ c,c≠47→XZ c t) (fun _ i _=>i.toNat) [] k (p+1) ⟨⟨by simp,by omega,by omega,by omega,by omega⟩,by decide +kernel,fun c _ => .nil⟩ ?_ ?_
 ·refine dr ?_;trivial
 rintro t i q ⟨⟨h1,h2,h3,h4,h5⟩,hok,hz⟩;refine dr ?_;apply cP<;>intro h6
 ·refine dr ?_;refine oW (zbH W0 s q t hs (by omega) (by omega)) rfl ⟨rfl,trivial⟩ rfl rfl ⟨((⟨0,[],[],[]⟩,q):Op × Int),⟨by omega,by omega⟩,fun c _ _=>⟨yM c,yM c⟩⟩ fun x hx=>⟨rfl,?_⟩
  obtain ⟨o,q2⟩:=x;have hx1:q≤q2:=hx.1.1;have hx2:q2≤q+8:=hx.1.2;have hdo:DOp t o:=hx.2;refine dEr ?_;repeat (refine c0 (YP W0 t o) rfl ?_; first|refine dEr ?_|exact dz)
  refine ⟨(zR t o).1,i - 1,q2,⟨⟨zed,by omega,by omega,by omega,by omega⟩,zlR hok o,fun c hc=>(hz c hc).do hc (hdo c hc (hz c hc)).1 (hdo c hc (hz c hc)).2⟩,by omega,?_⟩;refine dr ?_;trivial
 refine dr ?_;refine oW (jW W0 s q 20 hs (by omega) (by omega)) rfl ⟨rfl,trivial⟩ rfl rfl ⟨0,by omega,by omega⟩ fun v hv=>⟨rfl,?_⟩
 refine dEr ?_;apply cP<;>intro h7
 ·refine dr ?_;refine lp2 (fun (t:List Ent) (j:Nat)=>[(0,.ptr 1 0),(3,.c (ze t)),(5,I j)]) (fun _ _=>[(1,.box [.c (jD s),.c (CI (q+1))])]) (fun t j=>(t.length≤17∧j≤26)∧tOk t=true∧j≤t.length∧∀ c,c≠47→(∀ i < j,c≠UInt8.ofNat (97+i))→XZ c t) (fun _ j=>26 - j) t 0 ⟨⟨by omega,by omega⟩,hok,by omega,fun c hc _=>hz c hc⟩ ?_ ?_
  ·refine dr ?_;trivial
  clear hz hok h1;rintro t j ⟨⟨g1,g2⟩,hok,hjl,hz⟩;have hlen:t.length≤16:=(TG.of hok).len;have hzz:XZ 122 t:=hz 122 (by decide) fun i hi e=>by
   have:=congrArg UInt8.toNat e;simp only [UInt8.toNat_ofNat'] at this;have e2:UInt8.toNat 122=122:=rfl;rw [e2] at this;omega
  refine dr ?_;apply cP<;>intro h8
  ·refine dr ?_;apply cP<;>intro h9
   ·have hj16:j < 26:=by omega
    have ht16:t.length < 16:=by omega
    have hgz:XZ (UInt8.ofNat (97+j)) t:=hz _ (fun e=>by
     have:=congrArg UInt8.toNat e;simp only [UInt8.toNat_ofNat'] at this;have e2:UInt8.toNat 47=47:=rfl;rw [e2] at this;omega) fun i hi=>zl1 hi hj16
    obtain ⟨w1,w2,w3⟩:=grow hok ht16 hj16 hgz;have e1:(97+(j:Int)).toNat=97+j:=by omega
    refine dEr ?_;repeat ((first|refine c0 (YP W0 t ⟨2,_,[],[]⟩) rfl ?_|refine oB (by simp) ?_); first|refine dEr ?_|exact dz)
    refine ⟨(zR t ⟨2,[47,122]++[UInt8.ofNat (97+(j:Int)).toNat],[],[]⟩).1,j+1,⟨⟨zed,by omega⟩,?_⟩,by omega,?_⟩
    ·rw [e1];refine ⟨w1,?_,fun c hc hn=>w3 c (hn j (Nat.lt_succ_self j)) (hz c hc fun i hi=>hn i (Nat.lt_succ_of_lt hi))⟩;show j+1≤(zR t ⟨2,zP (UInt8.ofNat (97+j)),[],[]⟩).1.length;omega
    refine dr ?_;trivial
   ·refine dr ?_;refine ⟨none,_,_,?_,(t,q+1),⟨⟨by omega,by omega,by omega⟩,hzz⟩,rfl,rfl⟩;refine dr ?_;trivial
  ·refine dr ?_;refine ⟨none,_,_,?_,(t,q+1),⟨⟨by omega,by omega,by omega⟩,hzz⟩,rfl,rfl⟩;refine dr ?_;trivial
 ·refine dr ?_;refine ⟨none,_,_,?_,(t,q+1),⟨⟨by omega,by omega,by omega⟩,hz 122 (by decide)⟩,rfl,rfl⟩;refine dr ?_;trivial
def zgF:XC:=(.s (.r [.a2 4 3 77]) (.s (.r [.ex 8 .bsl0,.mv 9 1,.ex 10 (.app true 3 40 77 8 9),.a1 5 10 3 77]) (.s (.r [.mv 11 5,.n1 12 11,.mv 6 12]) (.s (.s (.r [.mv 13 6,.b1 14 .eql 13 (.i 0)]) (.cnd 14 (.s (.r [.mv 15 5,.a1 4 15 3 77]) .ret) .skip)) (.s (.r [.mv 16 0,.mv 17 6,.o1 18 78 [16,17],.mv 7 18]) (.s (.s (.r [.mv 19 0,.o1 20 78 [19,(.i 50)]]) (.blk 0 (.s (.r [.b1 22 .eql 20 (.i 0),.mv 21 22]) (.cnd 21 (.s (.r [.mv 23 5,.mv 24 5,.mv 25 7,.i1 26 3 24 25,.l2 27 3 26,.ex 28 (.bsl 3 77 [27]),.ex 29 (.app false 3 40 77 23 28),.a1 4 29 3 77]) .ret) (.s (.r [.b1 31 .eql 20 (.i 1),.mv 30 31]) (.cnd 30 (.r [.mv 32 5,.mv 33 7,.mv 34 0,.ex 35 (.bsl 1 9 [(.s [47]),(.s [47,97,47,98,47,99,47,100]),(.s [47,65]),(.s [47,99,47,99])]),.o1 36 122 [34,35],.i1 37 3 32 33,.f1 38 0 37,.s1 1 38 36]) (.s (.r [.b1 40 .eql 20 (.i 2),.mv 39 40]) (.cnd 39 (.r [.mv 41 5,.mv 42 7,.mv 43 5,.mv 44 7,.i1 45 3 43 44,.f1 46 1 45,.l1 47 1 46,.u1 48 47,.i1 49 3 41 42,.f1 50 1 49,.s1 1 50 48]) (.s (.r [.b1 52 .eql 20 (.i 3),.mv 51 52]) (.cnd 51 (.r [.mv 53 5,.mv 54 7,.mv 55 0,.ex 56 (.bsl 1 9 [(.s [113]),(.s [65]),(.s [97,98,99,100,101,102,103])]),.o1 57 122 [55,56],.i1 58 3 53 54,.f1 59 2 58,.s1 1 59 57]) (.cut (.r [.b1 61 .eql 20 (.i 4),.mv 60 61]) (.cnd 60 (.s (.r [.mv 62 5,.ex 63 (.slr 3 62 (.some (.i 1)) .none),.a1 4 63 3 77]) .ret) .skip)))))))))))) (.s (.r [.mv 64 5,.a1 4 64 3 77]) .ret)))))))
theorem zgG:zh Tryz.prog [78,122] 81=some (zgF.ac,[(.t 4)],65):=by kernel_rfl
theorem Qw (W0:World) (s:Str) (p:Int) (t:List Ent) (hs:s.length≤2000) (hp:0≤p∧p≤100000) (ht:t.length≤100000) :
  zI Tryz.prog W0 81 [.ptr 1 0,.c (ze t)] (Rd s p) (fun x:List Ent × Int=>(x.1.length≤t.length+1∧p≤x.2∧x.2≤p+3)∧(XZ 122 t→XZ 122 x.1)) (fun x => .c (ze x.1)) (fun x=>Rd s x.2):=by
 refine fW mixed zgG fun hg=>?_
 refine dr ?_;repeat ((first|refine oB (by simp; omega) ?_|refine oB (by simp) ?_); first|refine dr ?_|exact dz)
 apply cP<;>intro h1
 ·refine dr ?_;refine ⟨some 160,_,_,?_,(t,p),⟨⟨by simp,by omega,by omega⟩,id⟩,rfl,rfl⟩;refine dr ?_;repeat (refine oB (by simp<;>rfl) ?_; first|refine dr ?_|exact dz)
  trivial
 have ht0:0 < t.length:=by omega
 refine dr ?_;refine oW (jW W0 s p t.length hs (by omega) (by omega)) rfl ⟨rfl,trivial⟩ rfl rfl ⟨0,by omega,by omega⟩ fun k hk=>⟨rfl,?_⟩
 obtain ⟨k,rfl⟩:∃ j:Nat,k=j:=⟨k.toNat,by omega⟩;have hk':k < t.length:=by have:=hk.2 (by omega); omega
 refine dEr ?_;refine oW (jW W0 s (p+1) 50 hs (by omega) (by omega)) rfl ⟨rfl,trivial⟩ rfl rfl ⟨0,by omega,by omega⟩ fun v hv=>⟨rfl,?_⟩
 refine dEr ?_;apply cP<;>intro h2
 ·refine dr ?_;repeat ((first|refine oB (by simp; omega) ?_|refine oB (by simp) ?_); first|refine dr ?_|exact dz)
  refine ⟨some 160,_,_,?_,(t++[t[k]],p+1+1),⟨⟨by simp,by omega,by omega⟩,fun h=>h.add (h _ (List.getElem_mem hk'))⟩,rfl,rfl⟩;refine dr ?_;repeat ((first|refine oB lapp ?_|refine oB rapp ?_); first|refine dr ?_|exact dz)
  trivial
 refine dr ?_;apply cP<;>intro h3
 ·refine dr ?_;refine oW (f_of W0 s (p+1+1) [[47],[47,97,47,98,47,99,47,100],[47,65],[47,99,47,99]] hs (by omega) (by decide)) rfl ⟨rfl,trivial⟩ rfl rfl ⟨_,List.mem_cons_self⟩ fun y hy=>⟨rfl,?_⟩
  refine dEr ?_;repeat (refine oB (by simp) ?_; first|refine dEr ?_|exact dz)
  refine ⟨some 160,_,_,?_,(t.set k ⟨y,t[k].dir,t[k].data⟩,p+1+1+1),⟨⟨by simp,by omega,by omega⟩,fun h=>h.set (JI (by decide) hy 122)⟩,rfl,rfl⟩;refine dr ?_;repeat ((first|refine oB lset ?_|refine oB rset ?_); first|refine dr ?_|exact dz)
  trivial
 refine dr ?_;apply cP<;>intro h4
 ·refine dr ?_;repeat (refine oB (by simp) ?_; first|refine dr ?_|exact dz)
  refine ⟨some 160,_,_,?_,(t.set k ⟨t[k].path,!t[k].dir,t[k].data⟩,p+1+1),⟨⟨by simp,by omega,by omega⟩,fun h=>h.set (show t[k].path≠_ from h t[k] (List.getElem_mem hk'))⟩,rfl,rfl⟩;refine dr ?_;repeat ((first|refine oB lset ?_|refine oB rset ?_); first|refine dr ?_|exact dz)
  trivial
 refine dr ?_;apply cP<;>intro h5
 ·refine dr ?_;refine oW (f_of W0 s (p+1+1) [[113],[65],[97,98,99,100,101,102,103]] hs (by omega) (by decide)) rfl ⟨rfl,trivial⟩ rfl rfl ⟨_,List.mem_cons_self⟩ fun y hy=>⟨rfl,?_⟩
  refine dEr ?_;repeat (refine oB (by simp) ?_; first|refine dEr ?_|exact dz)
  refine ⟨some 160,_,_,?_,(t.set k ⟨t[k].path,t[k].dir,y⟩,p+1+1+1),⟨⟨by simp,by omega,by omega⟩,fun h=>h.set (show t[k].path≠_ from h t[k] (List.getElem_mem hk'))⟩,rfl,rfl⟩;refine dr ?_;repeat ((first|refine oB lset ?_|refine oB rset ?_); first|refine dr ?_|exact dz)
  trivial
 refine dr ?_;refine cutz (σ:=Bool) 160 (fun b=>[(5,.c (ze t)),(60,.c (CB b))]) (fun _=>[(1,.box [.c (jD s),.c (CI (p+1+1))])]) (fun _=>True) ?_ fun b _=>?_
 ·refine dr ?_;refine ⟨eqI v 4,trivial,?_⟩;refine dr ?_;repeat (refine oB (by simp<;>rfl) ?_; first|refine dr ?_|exact dz)
  trivial
 refine dr ?_;apply cP<;>intro h6
 ·refine dr ?_;repeat (refine sLoM 1 rfl (by omega) ?_; first|refine dr ?_|exact dz)
  refine ⟨none,_,_,?_,(t.drop 1,p+1+1),⟨⟨by simp; omega,by omega,by omega⟩,fun h=>h.drop 1⟩,rfl,rfl⟩;refine dr ?_;trivial
 ·refine dr ?_;refine ⟨none,_,_,?_,(t,p+1+1),⟨⟨by simp,by omega,by omega⟩,id⟩,rfl,rfl⟩;refine dr ?_;trivial

def zhB:XC:=(.s (.r [.a2 2 3 34]) (.s (.r [.ex 7 .bsl0,.a1 3 7 3 34]) (.s (.s (.r [.mv 8 0,.ex 9 (.bsl 1 3 [(.i 3),(.i 5),(.i 8),(.i 2),(.i 1),(.i 0),(.i 12)]),.o1 10 119 [8,9],.mv 4 10]) (.blk 0 (.loop (.s (.s (.r [.mv 11 4,.b1 12 .gtr 11 (.i 0)]) (.ce 12 0)) (.s (.blk 1 (.s (.r [.mv 15 0,.o1 16 120 [15],.mv 17 0,.ex 18 (.bsl 1 3 [(.i 1),(.i 2),(.i 3),(.i 4),(.i 1),(.i 3)]),.o1 19 119 [17,18],.ex 20 (.build [sE,(I 0),sE] [(0,(1,16)),(1,(1,19))]),.ex 5 (.alloc [sE,(I 0),sE]),.s1 3 5 20]) (.cut (.s (.r [.f1 21 1 5,.l1 22 1 21,.b1 23 .eql 22 (.i 1)]) (.cnd 23 (.r [.mv 24 0,.o1 25 121 [24],.f1 26 2 5,.s1 1 26 25]) .skip)) (.s (.r [.mv 27 3,.l2 28 3 5,.c1 29 95 [27,28],.a1 6 29 3 34]) (.s (.s (.r [.mv 30 6,.c1 31 101 [30]]) (.cnd 31 (.s (.r [.mv 32 6,.a1 3 32 3 34]) (.exit 1)) .skip)) (.s (.r [.mv 33 6,.f1 34 0 5,.l1 35 1 34,.c1 36 94 [33,35],.a1 6 36 3 34]) (.s (.r [.mv 37 6,.c1 38 101 [37]]) (.cnd 38 (.r [.mv 39 6,.a1 3 39 3 34]) .skip)))))))) (.r [.mv 13 4,.b1 14 .sub 13 (.i 1),.mv 4 14])))))) (.s (.r [.mv 40 3,.a1 2 40 3 34]) .ret))))
theorem zhC:zh Tryz.prog [119,120,121] 79=some (zhB.ac,[(.t 2)],41):=by kernel_rfl
theorem zih:∀ x∈y6,pOk x=true:=by decide
theorem YK (W0:World) (s:Str) (p:Int) (hs:s.length≤2000) (hp:0≤p∧p≤50000) :
  zI Tryz.prog W0 79 [.ptr 1 0] (Rd s p) (fun x:List Mark × Int=>(x.1.length≤32∧p≤x.2∧x.2≤p+37)∧XA 122 x.1) (fun x => .c (zg x.1)) (fun x=>Rd s x.2):=by
 refine fW mixed zhC fun hg=>?_
 refine dr ?_;refine oW (ZN W0 s p [3,5,8,2,1,0,12] hs (by omega) (by decide)) rfl ⟨rfl,trivial⟩ rfl rfl ⟨0,by decide⟩ fun k hk=>⟨rfl,?_⟩
 have hk2:0≤k∧k≤12:=by
  have:∀ x∈([3,5,8,2,1,0,12]:List Int),0≤x∧x≤12:=by decide
  exact this k hk
 refine dEr ?_;refine lz3 48 (fun (t:List Mark) (i q:Int)=>[(0,.ptr 1 0),(3,.c (zg t)),(4,.c (CI i))]) (fun _ _ q=>[(1,.box [.c (jD s),.c (CI q)])]) (fun t i q=>(t.length≤32∧0≤i∧i≤12∧p≤q∧q≤p+1+3 * (12 - i))∧XA 122 t) (fun _ i _=>i.toNat) [] k (p+1) ⟨⟨by simp,by omega,by omega,by omega,by omega⟩,.nil⟩ ?_ ?_
 ·refine dr ?_;trivial
 rintro t i q ⟨⟨h1,h2,h3,h4,h5⟩,hz⟩;refine dr ?_;apply cP<;>intro h6;rotate_left
 ·refine dr ?_;refine ⟨none,_,_,?_,(t,q),⟨⟨by omega,by omega,by omega⟩,hz⟩,rfl,rfl⟩;refine dr ?_;trivial
 refine dr ?_;refine oW (YH W0 s q hs (by omega)) rfl ⟨rfl,trivial⟩ rfl rfl ⟨_,List.mem_cons_self⟩ fun x hx=>⟨rfl,?_⟩
 have hx1:=zih x hx;refine dr ?_;refine oW (ZN W0 s (q+1) [1,2,3,4,1,3] hs (by omega) (by decide)) rfl ⟨rfl,trivial⟩ rfl rfl ⟨1,by decide⟩ fun v hv=>⟨rfl,?_⟩
 refine dEr ?_;refine Jo (fun (m:Mark) (r:Int)=>[(0,.ptr 1 0),(3,.c (zg t)),(4,.c (CI i)),(5,.ptr 80 0)]) (fun m r=>[(1,.box [.c (jD s),.c (CI r)]),(80,.box [.c (CS m.path),.c (CI m.kind),.c (CS m.data)])]) (fun m r=>(pOk m.path=true∧q≤r∧r≤q+3)∧m.path∈y6) ?_ ?_
 ·refine dr ?_;apply cP<;>intro h7
  ·refine dr ?_;refine oW (zbI W0 s (q+1+1) hs (by omega)) rfl ⟨rfl,trivial⟩ rfl rfl ⟨_,List.mem_cons_self⟩ fun y hy=>⟨rfl,?_⟩
   refine dEr ?_;refine ⟨⟨x,v,y⟩,q+1+1+1,⟨⟨hx1,by omega,by omega⟩,hx⟩,?_⟩;refine dr ?_;trivial
  ·refine dr ?_;refine ⟨⟨x,v,[]⟩,q+1+1,⟨⟨hx1,by omega,by omega⟩,hx⟩,?_⟩;refine dr ?_;trivial
 rintro m r ⟨⟨g1,g2,g3⟩,hm⟩;have hpl:(zZ t m).length≤t.length+1:=j3;have z1:XA 122 (zZ t m):=hz.put (Jp hm 122);have z2:=XA.fold (zii _ hm) z1;have hu:=ZM W0 3 (zZ t m) m.path g1 (ql g1).1.2 (by omega);refine dEr ?_;repeat ((first|refine c0 (y9 W0 t m (by omega)) rfl ?_|refine c0 (Jx W0 _) rfl ?_); first|refine dEr ?_|exact dz)
 apply cP<;>intro h7
 ·refine dr ?_;refine ⟨zZ t m,i - 1,r,⟨⟨(zU.1 h7).1,by omega,by omega,by omega,by omega⟩,z1⟩,by omega,?_⟩;refine dr ?_;trivial
 ·refine dEr ?_;repeat ((first|refine c0 hu rfl ?_|refine c0 (Jx W0 _) rfl ?_); first|refine dEr ?_|exact dz)
  apply cP<;>intro h8
  ·refine dr ?_;refine ⟨_,i - 1,r,⟨⟨(zU.1 h8).1,by omega,by omega,by omega,by omega⟩,z2⟩,by omega,?_⟩;refine dr ?_;trivial
  ·refine dr ?_;refine ⟨t,i - 1,r,⟨⟨by omega,by omega,by omega,by omega,by omega⟩,hz⟩,by omega,?_⟩;refine dr ?_;trivial
def zhl:XC:=(.s (.r [.a2 4 3 34]) (.s (.r [.ex 8 .bsl0,.mv 9 1,.ex 10 (.app true 3 40 34 8 9),.a1 5 10 3 34]) (.s (.r [.mv 11 5,.n1 12 11,.mv 6 12]) (.s (.s (.r [.mv 13 6,.b1 14 .eql 13 (.i 0)]) (.cnd 14 (.s (.r [.mv 15 5,.a1 4 15 3 34]) .ret) .skip)) (.s (.r [.mv 16 0,.mv 17 6,.o1 18 78 [16,17],.mv 7 18]) (.s (.s (.r [.mv 19 0,.o1 20 78 [19,(.i 60)]]) (.blk 0 (.s (.r [.b1 22 .eql 20 (.i 0),.mv 21 22]) (.cnd 21 (.r [.mv 23 5,.mv 24 7,.mv 25 0,.ex 26 (.bsl 1 3 [(.i 0),(.i 5),(.k (.c (.sc (.int .i64 (.negSucc 0))))),(.i 3),(.i 4)]),.o1 27 119 [25,26],.i1 28 3 23 24,.f1 29 1 28,.s1 1 29 27]) (.s (.r [.b1 31 .eql 20 (.i 1),.mv 30 31]) (.cnd 30 (.r [.mv 32 5,.mv 33 7,.mv 34 0,.ex 35 (.bsl 1 9 [(.s [47]),(.s [47,65]),(.s [47,99,47,99]),(.s [47,97,47,98,47,99,47,100])]),.o1 36 122 [34,35],.i1 37 3 32 33,.f1 38 0 37,.s1 1 38 36]) (.s (.r [.b1 40 .eql 20 (.i 2),.mv 39 40]) (.cnd 39 (.r [.mv 41 5,.mv 42 7,.mv 43 0,.ex 44 (.bsl 1 9 [(.s [113]),(.s [65]),(.s [97,98,99,100,101,102,103])]),.o1 45 122 [43,44],.i1 46 3 41 42,.f1 47 2 46,.s1 1 47 45]) (.s (.r [.b1 49 .eql 20 (.i 3),.mv 48 49]) (.cnd 48 (.s (.r [.mv 50 5,.mv 51 5,.mv 52 7,.i1 53 3 51 52,.l2 54 3 53,.ex 55 (.bsl 3 34 [54]),.ex 56 (.app false 3 40 34 50 55),.a1 4 56 3 34]) .ret) (.cut (.r [.b1 58 .eql 20 (.i 4),.mv 57 58]) (.cnd 57 (.s (.r [.mv 59 5,.ex 60 (.slr 3 59 (.some (.i 1)) .none),.a1 4 60 3 34]) .ret) (.s (.r [.b1 62 .eql 20 (.i 5),.mv 61 62]) (.cnd 61 (.s (.r [.mv 63 5,.ex 64 (.build [sE,(I 0),sE] [(0,(1,(.s [47,122,122,47,122]))),(1,(1,(.i 1)))]),.ex 65 (.bsl 3 34 [64]),.ex 66 (.app false 3 40 34 63 65),.a1 4 66 3 34]) .ret) .skip)))))))))))))) (.s (.r [.mv 67 5,.a1 4 67 3 34]) .ret)))))))
theorem zhm:zh Tryz.prog [78,122,119] 82=some (zhl.ac,[(.t 4)],68):=by kernel_rfl
theorem yF (W0:World) (s:Str) (p:Int) (t:List Mark) (hs:s.length≤2000) (hp:0≤p∧p≤100000) (ht:t.length≤100000) :
  zI Tryz.prog W0 82 [.ptr 1 0,.c (zg t)] (Rd s p) (fun x:List Mark × Int=>(x.1.length≤t.length+1∧p≤x.2∧x.2≤p+3)∧(XA 122 t→XA 122 x.1)) (fun x => .c (zg x.1)) (fun x=>Rd s x.2):=by
 refine fW mixed zhm fun hg=>?_
 refine dr ?_;repeat ((first|refine oB (by simp; omega) ?_|refine oB (by simp) ?_); first|refine dr ?_|exact dz)
 apply cP<;>intro h1
 ·refine dr ?_;refine ⟨some 160,_,_,?_,(t,p),⟨⟨by simp,by omega,by omega⟩,id⟩,rfl,rfl⟩;refine dr ?_;repeat (refine oB (by simp<;>rfl) ?_; first|refine dr ?_|exact dz)
  trivial
 have ht0:0 < t.length:=by omega
 refine dr ?_;refine oW (jW W0 s p t.length hs (by omega) (by omega)) rfl ⟨rfl,trivial⟩ rfl rfl ⟨0,by omega,by omega⟩ fun k hk=>⟨rfl,?_⟩
 obtain ⟨k,rfl⟩:∃ j:Nat,k=j:=⟨k.toNat,by omega⟩;have hk':k < t.length:=by have:=hk.2 (by omega); omega
 refine dEr ?_;refine oW (jW W0 s (p+1) 60 hs (by omega) (by omega)) rfl ⟨rfl,trivial⟩ rfl rfl ⟨0,by omega,by omega⟩ fun v hv=>⟨rfl,?_⟩
 refine dEr ?_;apply cP<;>intro h2
 ·refine dr ?_;refine oW (ZN W0 s (p+1+1) [0,5,-1,3,4] hs (by omega) (by decide)) rfl ⟨rfl,trivial⟩ rfl rfl ⟨0,by decide⟩ fun y hy=>⟨rfl,?_⟩
  refine dEr ?_;repeat (refine oB lset ?_; first|refine dEr ?_|exact dz)
  refine ⟨some 160,_,_,?_,(t.set k ⟨t[k].path,y,t[k].data⟩,p+1+1+1),⟨⟨by simp,by omega,by omega⟩,fun h=>h.set (show t[k].path≠_ from h t[k] (List.getElem_mem hk'))⟩,rfl,rfl⟩;refine dr ?_;repeat ((first|refine oB lset ?_|refine oB rset ?_); first|refine dr ?_|exact dz)
  trivial
 refine dr ?_;apply cP<;>intro h3
 ·refine dr ?_;refine oW (f_of W0 s (p+1+1) [[47],[47,65],[47,99,47,99],[47,97,47,98,47,99,47,100]] hs (by omega) (by decide)) rfl ⟨rfl,trivial⟩ rfl rfl ⟨_,List.mem_cons_self⟩ fun y hy=>⟨rfl,?_⟩
  refine dEr ?_;repeat (refine oB lset ?_; first|refine dEr ?_|exact dz)
  refine ⟨some 160,_,_,?_,(t.set k ⟨y,t[k].kind,t[k].data⟩,p+1+1+1),⟨⟨by simp,by omega,by omega⟩,fun h=>h.set (JI (by decide) hy 122)⟩,rfl,rfl⟩;refine dr ?_;repeat ((first|refine oB lset ?_|refine oB rset ?_); first|refine dr ?_|exact dz)
  trivial
 refine dr ?_;apply cP<;>intro h4
 ·refine dr ?_;refine oW (f_of W0 s (p+1+1) [[113],[65],[97,98,99,100,101,102,103]] hs (by omega) (by decide)) rfl ⟨rfl,trivial⟩ rfl rfl ⟨_,List.mem_cons_self⟩ fun y hy=>⟨rfl,?_⟩
  refine dEr ?_;repeat (refine oB lset ?_; first|refine dEr ?_|exact dz)
  refine ⟨some 160,_,_,?_,(t.set k ⟨t[k].path,t[k].kind,y⟩,p+1+1+1),⟨⟨by simp,by omega,by omega⟩,fun h=>h.set (show t[k].path≠_ from h t[k] (List.getElem_mem hk'))⟩,rfl,rfl⟩;refine dr ?_;repeat ((first|refine oB lset ?_|refine oB rset ?_); first|refine dr ?_|exact dz)
  trivial
 refine dr ?_;apply cP<;>intro h5
 ·refine dr ?_;repeat ((first|refine oB (by simp; omega) ?_|refine oB (by simp) ?_); first|refine dr ?_|exact dz)
  refine ⟨some 160,_,_,?_,(t++[t[k]],p+1+1),⟨⟨by simp,by omega,by omega⟩,fun h=>h.add (h _ (List.getElem_mem hk'))⟩,rfl,rfl⟩;refine dr ?_;repeat ((first|refine oB lapp ?_|refine oB rapp ?_); first|refine dr ?_|exact dz)
  trivial
 refine dr ?_;by_cases hv4:v=4
 ·refine cutz (σ:=Unit) 160 (fun _=>[(5,.c (zg t)),(57,.c (CB (eqI v 4)))]) (fun _=>[(1,.box [.c (jD s),.c (CI (p+1+1))])]) (fun _=>True) ?_ fun b _=>?_
  ·refine dr ?_;refine ⟨(),trivial,?_⟩;refine dr ?_;repeat (refine oB (by simp<;>rfl) ?_; first|refine dr ?_|exact dz)
   trivial
  refine dr ?_;apply cP<;>intro h6
  ·refine dr ?_;repeat (refine sLoM 1 rfl (by omega) ?_; first|refine dr ?_|exact dz)
   refine ⟨none,_,_,?_,(t.drop 1,p+1+1),⟨⟨by simp; omega,by omega,by omega⟩,fun h=>h.drop 1⟩,rfl,rfl⟩;refine dr ?_;trivial
  ·exact absurd hv4 h6
 ·refine cutp (σ:=Unit) (fun _=>[(5,.own 160 t.length),(20,.c (CI v)),(57,.c (CB (eqI v 4)))]) (fun _=>[(1,.box [.c (jD s),.c (CI (p+1+1))]),(160,.row (t.map jm) 3 34)]) (fun _=>True) ?_ fun b _=>?_
  ·refine dr ?_;refine ⟨(),trivial,?_⟩;refine dr ?_;trivial
  refine dr ?_;apply cP<;>intro h6
  ·exact absurd h6 hv4
  refine dr ?_;apply cP<;>intro h7
  ·refine dr ?_;repeat ((first|refine oB (by simp; omega) ?_|refine oB (by simp) ?_); first|refine dr ?_|exact dz)
   refine ⟨some 160,_,_,?_,(t++[⟨[47,122,122,47,122],1,[]⟩],p+1+1),⟨⟨by simp,by omega,by omega⟩,fun h=>h.add (by simp [zP])⟩,rfl,rfl⟩;refine dr ?_;repeat ((first|refine oB lapp ?_|refine oB (rapp (f:=jm) (x:=⟨[47,122,122,47,122],1,[]⟩)) ?_); first|refine dr ?_|exact dz)
   trivial
  ·refine dr ?_;refine ⟨some 160,_,_,?_,(t,p+1+1),⟨⟨by simp,by omega,by omega⟩,id⟩,rfl,rfl⟩;refine dr ?_;repeat (refine oB (by simp<;>rfl) ?_; first|refine dr ?_|exact dz)
   trivial

def NC (x y:PV):Prop:=y=x∨(x = .nil∧y = .c (.row []))
theorem NC.rep {κ:Kap} {m:Mem} {w:World} {x y:PV} {v:Value} (h:NC x y) (hr:zc κ m w x v):zc κ m w y v:=by
 rcases h with rfl | ⟨rfl,rfl⟩
 ·exact hr
 ·obtain ⟨o,rfl⟩:=hr;exact .nil (Nat.zero_le _)
theorem jB.nilC {k0:List Nat} {A:Fr} {m:XM} (bx:Nat) (cs cs':List PV) (hb:lkX m bx=some (.box cs)) (hc:za NC cs cs'):jB k0 A m A (updX m bx (.box cs')):=fun W0 F K hA hK=>by
 intro w0 κ0 m0 N κ act w hk0 hr;have hmw:=hr.mw;have hW:=hr.big;have hb':lk (Go.Proofs.YtmkmldepkponaaaGreatDoor.er m) bx=some (.box cs):=by rw [zO,hb]; rfl
 have all2:∀ {cs cs':List PV} {vs:List Value} {κ:Kap} {m:Mem},za NC cs cs'→za (zc κ m w) cs vs→za (zc κ m w) cs' vs:=by
  intro cs;induction cs with
  | nil=>intro cs' vs κ m h1 h2; cases cs' with | nil=>(cases vs with | nil=>trivial | cons=>exact h2.elim) | cons=>exact h1.elim
  | cons c cs ih =>
   intro cs' vs κ m h1 h2;cases cs' with
   | nil=>exact h1.elim
   | cons d ds=>cases vs with
    | nil=>exact h2.elim
    | cons v vs=>exact ⟨NC.rep h1.1 h2.1,ih h1.2 h2.2⟩
 obtain ⟨g1,g2⟩:=hmw.turn (κ':=κ) (w':=w) (x := .box cs') hW hb' rfl rfl rfl (Nat.le_refl _) rfl (fun _ _=>rfl) (fun _ _ _=>rfl) (.inl rfl) (fun _ h=>⟨⟨cs',rfl⟩,rfl⟩) (fun _ _ _ h=>by cases h) (fun hp=>by
  obtain ⟨g,vs,e,q1,q2,q3⟩:=hmw.mem.blk bx _ hb';exact ⟨g,vs,e,q1,q2,all2 hc (q3.imp fun _ _=>zc.pres hp)⟩) (.inl fun _ _ _ h=>by cases h)
 refine ⟨κ,A,_,⟨g1,hr.start,hr.low0,hr.s0,hr.size,hr.defers,fun t x hx=>?_⟩,?_⟩
 ·obtain ⟨q1,q2⟩:=hr.tmps t x (by rw [← hA t]; exact hx);exact ⟨q1,Rep.pres g2 q2⟩
 ·rw [qA] at hK; exact hK
theorem nc0 {x:PV}:NC x x := .inl rfl
theorem nc1:NC .nil (.c (.row [])) := .inr ⟨rfl,rfl⟩
theorem ovE {b:List Ent} {ls:List (List Mark)} {u:List Mark} {L:List CV} (h:L=ls.map zg):PV.c (.agg [ze b,.row L,zg u]) = .c (zL ⟨b,ls,u⟩):=by rw [h]; rfl
theorem app1 {α:Type} {f:α→CV} {t:List α} {x:α}:t.map f++[f x]=(t++[x]).map f:=by rw [List.map_append]; rfl
theorem set1 {α:Type} {f:α→CV} {t:List α} {k:Nat} {x:α}:(t.map f).set k (f x)=(t.set k x).map f:=List.map_set.symm
abbrev ovB (o:Over):XB := .box [.c (ze o.base),.c (js o.layers),.c (zg o.upper)]
abbrev ni3:XB := .box [.nil,.nil,.nil]
abbrev rdB (s:Str) (q:Int):XB := .box [.c (jD s),.c (CI q)]
def zhQ:XC:=(.s (.r [.ex 2 (.alloc [.nil,.nil,.nil])]) (.s (.r [.mv 9 0,.o1 10 77 [9],.ex 11 (.build [.nil,.nil,.nil] [(0,(1,10))]),.ex 3 (.alloc [.nil,.nil,.nil]),.s1 3 3 11]) (.s (.s (.r [.mv 12 0,.o1 13 78 [12,(.i 3)],.mv 4 13]) (.blk 0 (.loop (.s (.s (.r [.mv 14 4,.b1 15 .gtr 14 (.i 0)]) (.ce 15 0)) (.s (.blk 1 (.s (.r [.l2 18 3 3,.o1 19 66 [18],.ex 5 (.alloc [.nil,.nil,.nil]),.s1 3 5 19]) (.s (.d [.f1 20 1 5,.exl 21 (.ld false 1 20),.mv 22 0,.exl 23 (.opn 79 [22]),.exl 24 (.bsl 1 25 [23]),.ex 25 (.app false 1 24 25 21 24),.f1 26 1 5,.s1 1 26 25]) (.s (.r [.l2 27 3 5,.c1 28 16 [27]]) (.cnd 28 (.r [.l2 29 3 5,.s1 3 3 29]) .skip))))) (.r [.mv 16 4,.b1 17 .sub 16 (.i 1),.mv 4 17])))))) (.s (.s (.r [.mv 30 0,.o1 31 78 [30,(.i 12)],.mv 6 31]) (.blk 2 (.loop (.s (.s (.r [.mv 32 6,.b1 33 .gtr 32 (.i 0)]) (.ce 33 2)) (.s (.blk 3 (.s (.r [.l2 37 3 3,.c1 38 52 [37],.mv 36 38,.e1 39 36 0,.e1 40 36 1,.a1 7 39 3 77,.mv 8 40]) (.s (.r [.mv 41 0,.o1 42 78 [41,(.i 8)]]) (.blk 4 (.s (.r [.b1 52 .eql 42 (.i 0),.mv 51 52]) (.cnd 51 (.r [.l2 54 3 3,.c1 55 33 [54],.mv 53 55,.e1 56 53 0,.e1 57 53 1,.s1 3 3 56]) (.s (.r [.b1 59 .eql 42 (.i 1),.mv 58 59]) (.cnd 58 (.s (.r [.mv 60 0,.o1 61 78 [60,(.i 3)],.b1 62 .eql 61 (.i 0)]) (.cnd 62 (.r [.l2 64 3 3,.c1 65 35 [64],.mv 63 65,.e1 66 63 0,.e1 67 63 1,.s1 3 3 66]) .skip)) (.d [.exl 44 (.ld true 3 3),.mv 45 0,.mv 46 7,.exl 47 (.opn 80 [45,46]),.c1 48 38 [44,47],.mv 43 48,.e1 49 43 0,.e1 50 43 1,.s1 3 3 49]))))))))) (.r [.mv 34 6,.b1 35 .sub 34 (.i 1),.mv 6 35])))))) (.s (.r [.l2 68 3 3,.o1 69 66 [68],.s1 3 2 69]) .ret)))))
theorem zhR:zh Tryz.prog [77,78,66,79,80] 42=some (zhQ.ac,[(.cell 2 true 3)],70):=by kernel_rfl
theorem XO.addl {c:UInt8} {o:Over} (h:XO c o) {l:List Mark} (hl:XA c l):XO c ⟨o.base,o.layers++[l],o.upper⟩:=⟨h.b,fun x hx=>by
 rcases List.mem_append.1 hx with hx | hx
 ·exact h.l x hx
 ·rw [List.mem_singleton.1 hx]; exact hl,h.u⟩
theorem zbO (W0:World) (s:Str) (p:Int) (hs:s.length≤2000) (hp:0≤p∧p≤20000) :
  zI Tryz.prog W0 42 [.ptr 1 0] (Rd s p) (fun x:Over × Int=>(OS x.1∧p≤x.2∧x.2≤p+600)∧XO 122 x.1) (fun x => .c (zL x.1)) (fun x=>Rd s x.2):=by
 refine fW mixed zhR fun hg=>?_
 refine dr ?_;refine oW (ziN W0 s p hs (by omega)) rfl ⟨rfl,trivial⟩ rfl rfl ⟨(([],p):List Ent × Int),by simp; omega,.nil⟩ fun x hx=>⟨rfl,?_⟩
 obtain ⟨b,q0⟩:=x;obtain ⟨⟨hb,hq1,hq2⟩,hbz⟩:(b.length≤17∧p≤q0∧q0≤p+242)∧XZ 122 b:=hx;refine dEr ?_;refine oW (jW W0 s q0 3 hs (by omega) (by omega)) rfl ⟨rfl,trivial⟩ rfl rfl ⟨0,by omega,by omega⟩ fun n hn=>⟨rfl,?_⟩
 have hn2:=hn.2 (by omega);have hn1:=hn.1;refine dEr ?_;refine lq3 (fun (o:Over) (i q:Int)=>[(0,.ptr 1 0),(2,.ptr 32 0),(3,.ptr 48 0),(4,.c (CI i))]) (fun o _ q=>[(1,rdB s q),(32,ni3),(48,ovB o)]) (fun o i q=>(OS o∧0≤i∧i≤2∧p≤q∧q≤p+243+37 * (2 - i))∧XO 122 o) (fun _ i _=>i.toNat) ⟨b,[],[]⟩ n (q0+1) ⟨⟨⟨hb,by simp,by simp,by simp⟩,by omega,by omega,by omega,by omega⟩,⟨hbz,(fun l hl=>by cases hl),.nil⟩⟩ ?_ ?_
 ·refine jB.trans (F1:=_) (m1:=_) (jB.nilC 48 [.c (ze b),.nil,.nil] [.c (ze b),.c (.row []),.c (.row [])] rfl ⟨nc0,nc1,nc1,trivial⟩) (z:=none) ?_;refine dr ?_;trivial
 rintro o i q ⟨⟨ho,hi1,hi2,hq3,hq4⟩,hxo⟩;refine dr ?_;apply cP<;>intro h1
 ·refine dr ?_;refine oW (Qz W0 o (ho.oz.mono (by omega))) rfl trivial rfl rfl ⟨(),trivial⟩ fun _ _=>⟨rfl,?_⟩
  refine dEr ?_;refine oW (YK W0 s q hs (by omega)) rfl ⟨rfl,trivial⟩ rfl rfl ⟨(([],q):List Mark × Int),by simp; omega,.nil⟩ fun x hx=>⟨rfl,?_⟩
  obtain ⟨l,q2⟩:=x;obtain ⟨⟨hl,hr1,hr2⟩,hlz⟩:(l.length≤32∧q≤q2∧q2≤q+37)∧XA 122 l:=hx;have hn:=ho.n;have q9:=Jy W0 ⟨o.base,o.layers++[l],o.upper⟩;rw [show zL ⟨o.base,o.layers++[l],o.upper⟩ = .agg [ze o.base,.row (o.layers.map zg++[zg l]),zg o.upper] by rw [app1]; rfl] at q9;refine dEr ?_;repeat ((first|refine oB (by simp; omega) ?_|refine oB (by simp) ?_|refine c0 q9 rfl ?_); first|refine dEr ?_|exact dz)
  apply cP<;>intro h2
  ·refine dr ?_;refine ⟨⟨o.base,o.layers++[l],o.upper⟩,i - 1,q2,⟨⟨OS.ok h2,by omega,by omega,by omega,by omega⟩,hxo.addl hlz⟩,by omega,?_⟩;refine zx.s (z:=some 4) ?_;refine dr ?_;repeat ((first|refine oB (congrArg (fun L=>XB.box [.c (ze o.base),.c (.row L),.c (zg o.upper)]) app1) ?_|refine oB (by simp) ?_); first|refine dr ?_|exact dz)
   trivial
  ·refine dr ?_;refine ⟨o,i - 1,q2,⟨⟨ho,by omega,by omega,by omega,by omega⟩,hxo⟩,by omega,?_⟩;refine zx.s (z:=none) ?_;refine dr ?_;trivial
 refine dr ?_;refine oW (jW W0 s q 12 hs (by omega) (by omega)) rfl ⟨rfl,trivial⟩ rfl rfl ⟨0,by omega,by omega⟩ fun n hn=>⟨rfl,?_⟩
 have hn2:=hn.2 (by omega);have hn1:=hn.1;clear h1;refine dEr ?_;refine lp3 (fun (o:Over) (i r:Int)=>[(0,.ptr 1 0),(2,.ptr 32 0),(3,.ptr 48 0),(6,.c (CI i))]) (fun o _ r=>[(1,rdB s r),(32,ni3),(48,ovB o)]) (fun o i r=>(OS o∧0≤i∧i≤11∧p≤r∧r≤p+320+10 * (11 - i))∧XO 122 o) (fun _ i _=>i.toNat) o n (q+1) ⟨⟨ho,by omega,by omega,by omega,by omega⟩,hxo⟩ ?_ ?_
 ·refine dr ?_;trivial
 clear hq3 hq4 ho hxo;rintro o i q ⟨⟨ho,hi1,hi2,hq3,hq4⟩,hxo⟩;refine dr ?_;apply cP<;>intro h1
 ·have hv:=YN W0 o;have hvl:((jh o).getD []).length≤16:=by
   cases hx:jh o with
   | none=>simp
   | some x=>exact (qu (Yg hx)).1
  rw [zij] at hv;have hvz:=hxo.view;generalize (jh o).getD []=t at *;refine dEr ?_;repeat (refine c0 hv rfl ?_; first|refine dEr ?_|exact dz)
  refine oW (jW W0 s q 8 hs (by omega) (by omega)) rfl ⟨rfl,trivial⟩ rfl rfl ⟨0,by omega,by omega⟩ fun v hv=>⟨rfl,?_⟩
  refine dEr ?_;apply cP<;>intro h2
  ·refine dEr ?_;repeat (refine c0 (zi7 W0 o) rfl ?_; first|refine dEr ?_|exact dz)
   refine ⟨(qs o).1,i - 1,q+1,⟨⟨OS.push,by omega,by omega,by omega,by omega⟩,hxo.push⟩,by omega,?_⟩;refine dr ?_;trivial
  refine dr ?_;apply cP<;>intro h3
  ·refine dr ?_;refine oW (jW W0 s (q+1) 3 hs (by omega) (by omega)) rfl ⟨rfl,trivial⟩ rfl rfl ⟨0,by omega,by omega⟩ fun v hv=>⟨rfl,?_⟩
   refine dEr ?_;apply cP<;>intro h4
   ·refine dEr ?_;repeat (refine c0 (zi6 W0 o) rfl ?_; first|refine dEr ?_|exact dz)
    refine ⟨(qL o).1,i - 1,q+1+1,⟨⟨OS.flat,by omega,by omega,by omega,by omega⟩,hxo.flat⟩,by omega,?_⟩;refine dr ?_;trivial
   ·refine dr ?_;refine ⟨o,i - 1,q+1+1,⟨⟨ho,by omega,by omega,by omega,by omega⟩,hxo⟩,by omega,?_⟩;refine dr ?_;trivial
  ·refine dr ?_;refine oW (zbH W0 s (q+1) t hs (by omega) (by omega)) rfl ⟨rfl,trivial⟩ rfl rfl ⟨((⟨0,[],[],[]⟩,q+1):Op × Int),⟨by omega,by omega⟩,fun c _ _=>⟨yM c,yM c⟩⟩ fun x hx=>⟨rfl,?_⟩
   obtain ⟨op,r⟩:=x;obtain ⟨⟨hr1,hr2⟩,hdo⟩:(q+1≤r∧r≤q+1+8)∧DOp t op:=hx;have hdo:=hdo 122 (by decide) hvz;refine dEr ?_;repeat (refine c0 (zi5 W0 o op) rfl ?_; first|refine dEr ?_|exact dz)
   refine ⟨(oDo o op).1,i - 1,r,⟨⟨OS.do op,by omega,by omega,by omega,by omega⟩,hxo.do (by decide) hdo.1 hdo.2⟩,by omega,?_⟩;refine dr ?_;trivial
 ·refine dr ?_;refine oW (Qz W0 o (ho.oz.mono (by omega))) rfl trivial rfl rfl ⟨(),trivial⟩ fun _ _=>⟨rfl,?_⟩
  refine dEr ?_;refine ⟨some 4,_,_,?_,(o,q),⟨⟨ho,by omega,by omega⟩,hxo⟩,rfl,rfl⟩;refine dr ?_;repeat (refine oB (by simp) ?_; first|refine dr ?_|exact dz)
  trivial
theorem ziU (W0:World) (s:Str) (p:Int) (hs:s.length≤2000) (hp:0≤p∧p≤20000) :
  zI Tryz.prog W0 42 [.ptr 1 0] (Rd s p) (fun x:Over × Int=>OS x.1∧p≤x.2∧x.2≤p+600) (fun x => .c (zL x.1)) (fun x=>Rd s x.2):=(zbO W0 s p hs hp).weak fun _ h=>h.1
def zhL:XC:=(.s (.r [.x1 3 1,.ex 4 (.alloc [.nil,.nil,.nil])]) (.s (.r [.l2 8 3 3,.o1 9 66 [8],.ex 5 (.alloc [.nil,.nil,.nil]),.s1 3 5 9]) (.s (.r [.f1 10 1 5,.l1 11 1 10,.n1 12 11,.mv 6 12]) (.s (.s (.r [.mv 13 0,.o1 14 78 [13,(.i 60)]]) (.blk 0 (.s (.r [.b1 16 .eql 14 (.i 0),.mv 15 16]) (.cnd 15 (.r [.mv 17 0,.mv 18 0,.mv 19 0,.mv 20 0,.f1 21 0 5,.l1 22 1 21,.o1 23 81 [20,22],.o1 24 81 [19,23],.o1 25 81 [18,24],.o1 26 81 [17,25],.f1 27 0 5,.s1 1 27 26]) (.s (.r [.b1 29 .eql 14 (.i 1),.mv 28 29]) (.cnd 28 (.s (.r [.mv 30 6,.b1 31 .gtr 30 (.i 0)]) (.cnd 31 (.s (.r [.mv 32 0,.mv 33 6,.o1 34 78 [32,33],.mv 7 34]) (.d [.f1 35 1 5,.exl 36 (.ld false 1 35),.mv 37 7,.mv 38 0,.mv 39 0,.mv 40 0,.mv 41 0,.f1 42 1 5,.exl 43 (.ld false 1 42),.mv 44 7,.exl 45 (.ia 1 43 44),.exl 46 (.ld false 1 45),.exl 47 (.opn 82 [41,46]),.exl 48 (.opn 82 [40,47]),.exl 49 (.opn 82 [39,48]),.exl 50 (.opn 82 [38,49]),.exl 51 (.ia 1 36 37),.s1 1 51 50])) .skip)) (.s (.r [.b1 53 .eql 14 (.i 2),.mv 52 53]) (.cnd 52 (.r [.mv 54 0,.mv 55 0,.mv 56 0,.mv 57 0,.f1 58 2 5,.l1 59 1 58,.o1 60 82 [57,59],.o1 61 82 [56,60],.o1 62 82 [55,61],.o1 63 82 [54,62],.f1 64 2 5,.s1 1 64 63]) (.s (.r [.b1 66 .eql 14 (.i 3),.mv 65 66]) (.cnd 65 (.r [.mv 67 0,.o1 68 79 [67],.f1 69 2 5,.s1 1 69 68]) (.s (.r [.b1 71 .eql 14 (.i 4),.mv 70 71]) (.cnd 70 (.blk 1 (.loop (.s (.s (.r [.f1 72 1 5,.l1 73 1 72,.n1 74 73,.b1 75 .leq 74 (.i 4)]) (.ce 75 1)) (.blk 2 (.r [.f1 76 1 5,.l1 77 1 76,.ex 78 .bsl0,.ex 79 (.bsl 1 25 [78]),.ex 80 (.app false 1 24 25 77 79),.f1 81 1 5,.s1 1 81 80]))))) (.s (.r [.b1 83 .eql 14 (.i 5),.mv 82 83]) (.cnd 82 (.d [.f1 84 1 5,.exl 85 (.ld false 1 84),.mv 86 0,.exl 87 (.opn 79 [86]),.exl 88 (.bsl 1 25 [87]),.ex 89 (.app false 1 24 25 85 88),.f1 90 1 5,.s1 1 90 89]) .skip)))))))))))))) (.s (.r [.l2 91 3 5,.s1 3 4 91]) .ret)))))
theorem zhM:zh Tryz.prog [66,78,81,82,79] 43=some (zhL.ac,[(.cell 4 true 3)],92):=by kernel_rfl
theorem OZ.put {o:Over} {n:Nat} (h:OZ n o) {ls:List (List Mark)} {m:Nat} (h1:ls.length≤m) (h2:∀ l∈ls,l.length≤m) (hm:n≤m):OZ m ⟨o.base,ls,o.upper⟩:=⟨by have:=h.b; simp only; omega,h1,h2,by have:=h.u; simp only; omega⟩
set_option maxHeartbeats 4000000 in
theorem zbM (W0:World) (s:Str) (p:Int) (o:Over) (n:Nat) (hs:s.length≤2000) (hp:0≤p∧p≤40000) (h:OZ n o) (hn:n≤50000) :
  zI Tryz.prog W0 43 [.ptr 1 0,.c (zL o)] (Rd s p) (fun x:Over × Int=>(OZ (n+40) x.1∧p≤x.2∧x.2≤p+40)∧(XO 122 o→XO 122 x.1)) (fun x => .c (zL x.1)) (fun x=>Rd s x.2):=by
 refine fW mixed zhM fun hg=>?_
 obtain ⟨z1,z2,z3,z4⟩:=h;have hz:OZ n o:=⟨z1,z2,z3,z4⟩;have hz':OZ (n+40) o:=hz.mono (by omega);refine dr ?_;refine oW (Qz W0 o (hz.mono (by omega))) rfl trivial rfl rfl ⟨(),trivial⟩ fun _ _=>⟨rfl,?_⟩
 refine dEr ?_;refine oW (jW W0 s p 60 hs (by omega) (by omega)) rfl ⟨rfl,trivial⟩ rfl rfl ⟨0,by omega,by omega⟩ fun v hv=>⟨rfl,?_⟩
 refine dEr ?_;apply cP<;>intro h0
 ·refine dr ?_;refine oW (Qw W0 s (p+1) o.base hs (by omega) (by omega)) rfl ⟨rfl,trivial⟩ rfl rfl ⟨(([],p+1):List Ent × Int),by simp; omega,fun _ => .nil⟩ fun x hx=>⟨rfl,?_⟩
  obtain ⟨b1,q1⟩:=x;obtain ⟨⟨a1,a2,a3⟩,az⟩:(b1.length≤o.base.length+1∧p+1≤q1∧q1≤p+1+3)∧(XZ 122 o.base→XZ 122 b1):=hx;refine dr ?_;refine oW (Qw W0 s q1 b1 hs (by omega) (by omega)) rfl ⟨rfl,trivial⟩ rfl rfl ⟨(([],q1):List Ent × Int),by simp; omega,fun _ => .nil⟩ fun x hx=>⟨rfl,?_⟩
  obtain ⟨b2,q2⟩:=x;obtain ⟨⟨c1,c2,c3⟩,cz⟩:(b2.length≤b1.length+1∧q1≤q2∧q2≤q1+3)∧(XZ 122 b1→XZ 122 b2):=hx;refine dr ?_;refine oW (Qw W0 s q2 b2 hs (by omega) (by omega)) rfl ⟨rfl,trivial⟩ rfl rfl ⟨(([],q2):List Ent × Int),by simp; omega,fun _ => .nil⟩ fun x hx=>⟨rfl,?_⟩
  obtain ⟨b3,q3⟩:=x;obtain ⟨⟨d1,d2,d3⟩,dzz⟩:(b3.length≤b2.length+1∧q2≤q3∧q3≤q2+3)∧(XZ 122 b2→XZ 122 b3):=hx;refine dr ?_;refine oW (Qw W0 s q3 b3 hs (by omega) (by omega)) rfl ⟨rfl,trivial⟩ rfl rfl ⟨(([],q3):List Ent × Int),by simp; omega,fun _ => .nil⟩ fun x hx=>⟨rfl,?_⟩
  obtain ⟨b4,q4⟩:=x;obtain ⟨⟨e1,e2,e3⟩,ez⟩:(b4.length≤b3.length+1∧q3≤q4∧q4≤q3+3)∧(XZ 122 b3→XZ 122 b4):=hx;refine dEr ?_;refine ⟨some 4,_,_,?_,(⟨b4,o.layers,o.upper⟩,q4),⟨⟨⟨by simp only; omega,by simp only; omega,fun l hl=>by have:=z3 l hl; omega,by simp only; omega⟩,by omega,by omega⟩,fun h=>⟨ez (dzz (cz (az h.b))),h.l,h.u⟩⟩,rfl,rfl⟩;refine dr ?_;repeat ((first|refine oB (ovE rfl) ?_|refine oB (by simp) ?_); first|refine dr ?_|exact dz)
  trivial
 refine dr ?_;apply cP<;>intro h1
 ·refine dr ?_;apply cP<;>intro h2
  ·refine dr ?_;refine oW (jW W0 s (p+1) o.layers.length hs (by omega) (by omega)) rfl ⟨rfl,trivial⟩ rfl rfl ⟨0,by omega,by omega⟩ fun k hk=>⟨rfl,?_⟩
   obtain ⟨k,rfl⟩:∃ j:Nat,k=j:=⟨k.toNat,by omega⟩;have hk':k < o.layers.length:=by have:=hk.2 (by omega); omega
   have hzk:=z3 _ (List.getElem_mem hk');refine dEr ?_;refine oW (yF W0 s (p+1+1) o.layers[k] hs (by omega) (by omega)) rfl ⟨rfl,trivial⟩ rfl rfl ⟨(([],p+1+1):List Mark × Int),by simp; omega,fun _ => .nil⟩ fun x hx=>⟨rfl,?_⟩
   obtain ⟨b1,q1⟩:=x;obtain ⟨⟨a1,a2,a3⟩,az⟩:(b1.length≤o.layers[k].length+1∧p+1+1≤q1∧q1≤p+1+1+3)∧(XA 122 o.layers[k]→XA 122 b1):=hx;refine dr ?_;refine oW (yF W0 s q1 b1 hs (by omega) (by omega)) rfl ⟨rfl,trivial⟩ rfl rfl ⟨(([],q1):List Mark × Int),by simp; omega,fun _ => .nil⟩ fun x hx=>⟨rfl,?_⟩
   obtain ⟨b2,q2⟩:=x;obtain ⟨⟨c1,c2,c3⟩,cz⟩:(b2.length≤b1.length+1∧q1≤q2∧q2≤q1+3)∧(XA 122 b1→XA 122 b2):=hx;refine dr ?_;refine oW (yF W0 s q2 b2 hs (by omega) (by omega)) rfl ⟨rfl,trivial⟩ rfl rfl ⟨(([],q2):List Mark × Int),by simp; omega,fun _ => .nil⟩ fun x hx=>⟨rfl,?_⟩
   obtain ⟨b3,q3⟩:=x;obtain ⟨⟨d1,d2,d3⟩,dzz⟩:(b3.length≤b2.length+1∧q2≤q3∧q3≤q2+3)∧(XA 122 b2→XA 122 b3):=hx;refine dr ?_;refine oW (yF W0 s q3 b3 hs (by omega) (by omega)) rfl ⟨rfl,trivial⟩ rfl rfl ⟨(([],q3):List Mark × Int),by simp; omega,fun _ => .nil⟩ fun x hx=>⟨rfl,?_⟩
   obtain ⟨b4,q4⟩:=x;obtain ⟨⟨e1,e2,e3⟩,ez⟩:(b4.length≤b3.length+1∧q3≤q4∧q4≤q3+3)∧(XA 122 b3→XA 122 b4):=hx;refine dEr ?_;refine ⟨some 4,_,_,?_,(⟨o.base,o.layers.set k b4,o.upper⟩,q4),⟨⟨hz.put (by simp; omega) (fun l hl=>?_) (by omega),by omega,by omega⟩,fun h=>⟨h.b,fun l hl=>?_,h.u⟩⟩,rfl,rfl⟩
   ·refine dr ?_;repeat ((first|refine oB (ovE set1) ?_|refine oB (by simp) ?_); first|refine dr ?_|exact dz)
    trivial
   ·rcases List.mem_or_eq_of_mem_set hl with h | h
    ·have:=z3 l h; omega
    ·subst h; omega
   ·rcases List.mem_or_eq_of_mem_set hl with h1 | h1
    ·exact h.l l h1
    ·subst h1; exact ez (dzz (cz (az (h.l _ (List.getElem_mem hk')))))
  ·refine dr ?_;refine ⟨some 4,_,_,?_,(o,p+1),⟨⟨hz',by omega,by omega⟩,id⟩,rfl,rfl⟩;refine dr ?_;repeat ((first|refine oB (ovE rfl) ?_|refine oB (by simp) ?_); first|refine dr ?_|exact dz)
   trivial
 refine dr ?_;apply cP<;>intro h2
 ·refine dr ?_;refine oW (yF W0 s (p+1) o.upper hs (by omega) (by omega)) rfl ⟨rfl,trivial⟩ rfl rfl ⟨(([],p+1):List Mark × Int),by simp; omega,fun _ => .nil⟩ fun x hx=>⟨rfl,?_⟩
  obtain ⟨b1,q1⟩:=x;obtain ⟨⟨a1,a2,a3⟩,az⟩:(b1.length≤o.upper.length+1∧p+1≤q1∧q1≤p+1+3)∧(XA 122 o.upper→XA 122 b1):=hx;refine dr ?_;refine oW (yF W0 s q1 b1 hs (by omega) (by omega)) rfl ⟨rfl,trivial⟩ rfl rfl ⟨(([],q1):List Mark × Int),by simp; omega,fun _ => .nil⟩ fun x hx=>⟨rfl,?_⟩
  obtain ⟨b2,q2⟩:=x;obtain ⟨⟨c1,c2,c3⟩,cz⟩:(b2.length≤b1.length+1∧q1≤q2∧q2≤q1+3)∧(XA 122 b1→XA 122 b2):=hx;refine dr ?_;refine oW (yF W0 s q2 b2 hs (by omega) (by omega)) rfl ⟨rfl,trivial⟩ rfl rfl ⟨(([],q2):List Mark × Int),by simp; omega,fun _ => .nil⟩ fun x hx=>⟨rfl,?_⟩
  obtain ⟨b3,q3⟩:=x;obtain ⟨⟨d1,d2,d3⟩,dzz⟩:(b3.length≤b2.length+1∧q2≤q3∧q3≤q2+3)∧(XA 122 b2→XA 122 b3):=hx;refine dr ?_;refine oW (yF W0 s q3 b3 hs (by omega) (by omega)) rfl ⟨rfl,trivial⟩ rfl rfl ⟨(([],q3):List Mark × Int),by simp; omega,fun _ => .nil⟩ fun x hx=>⟨rfl,?_⟩
  obtain ⟨b4,q4⟩:=x;obtain ⟨⟨e1,e2,e3⟩,ez⟩:(b4.length≤b3.length+1∧q3≤q4∧q4≤q3+3)∧(XA 122 b3→XA 122 b4):=hx;refine dEr ?_;refine ⟨some 4,_,_,?_,(⟨o.base,o.layers,b4⟩,q4),⟨⟨⟨by simp only; omega,by simp only; omega,fun l hl=>by have:=z3 l hl; omega,by simp only; omega⟩,by omega,by omega⟩,fun h=>⟨h.b,h.l,ez (dzz (cz (az h.u)))⟩⟩,rfl,rfl⟩;refine dr ?_;repeat ((first|refine oB (ovE rfl) ?_|refine oB (by simp) ?_); first|refine dr ?_|exact dz)
  trivial
 refine dr ?_;apply cP<;>intro h3
 ·refine dr ?_;refine oW (YK W0 s (p+1) hs (by omega)) rfl ⟨rfl,trivial⟩ rfl rfl ⟨(([],p+1):List Mark × Int),by simp; omega,.nil⟩ fun x hx=>⟨rfl,?_⟩
  obtain ⟨l,q1⟩:=x;obtain ⟨⟨a1,a2,a3⟩,az⟩:(l.length≤32∧p+1≤q1∧q1≤p+1+37)∧XA 122 l:=hx;refine dEr ?_;refine ⟨some 4,_,_,?_,(⟨o.base,o.layers,l⟩,q1),⟨⟨⟨by simp only; omega,by simp only; omega,fun l hl=>by have:=z3 l hl; omega,by simp only; omega⟩,by omega,by omega⟩,fun h=>⟨h.b,h.l,az⟩⟩,rfl,rfl⟩;refine dr ?_;repeat ((first|refine oB (ovE rfl) ?_|refine oB (by simp) ?_); first|refine dr ?_|exact dz)
  trivial
 refine dr ?_;apply cP<;>intro h4
 ·refine dr ?_;refine lp (σ:=List (List Mark)) (fun L=>[(0,.ptr 1 0),(4,.ptr 64 0),(5,.ptr 80 0)]) (fun L=>[(1,rdB s (p+1)),(64,ni3),(80,.box [.c (ze o.base),.own 4 L.length,.c (zg o.upper)]),(4,.row (L.map zg) 1 25)]) (fun L=>(L.length≤n+5∧∀ l∈L,l.length≤n)∧(XO 122 o→∀ l∈L,XA 122 l)) (fun L=>6 - L.length) o.layers ⟨⟨by omega,z3⟩,fun h=>h.l⟩ ?_ ?_
  ·refine dr ?_;trivial
  rintro L ⟨⟨g1,g2⟩,g3⟩;refine dr ?_;apply cP<;>intro h5
  ·refine dr ?_;repeat (refine oB (by simp; omega) ?_; first|refine dr ?_|exact dz)
   refine ⟨L++[[]],⟨⟨by simp; omega,fun l hl=>?_⟩,fun h l hl=>?_⟩,by simp; omega,?_⟩
   ·rcases List.mem_append.1 hl with h | h
    ·exact g2 l h
    ·simp only [List.mem_singleton] at h; subst h; simp
   ·rcases List.mem_append.1 hl with h1 | h1
    ·exact g3 h l h1
    ·simp only [List.mem_singleton] at h1; subst h1; exact .nil
   ·refine dr ?_;repeat ((first|refine oB (congrArg (fun L=>XB.row L 1 25) (app1 (f:=zg) (x:=[]))) ?_|refine oB (by simp) ?_); first|refine dr ?_|exact dz)
    trivial
  ·refine dr ?_;refine ⟨some 4,_,_,?_,(⟨o.base,L,o.upper⟩,p+1),⟨⟨hz.put (by omega) (fun l hl=>by have:=g2 l hl; omega) (by omega),by omega,by omega⟩,fun h=>⟨h.b,g3 h,h.u⟩⟩,rfl,rfl⟩;refine dr ?_;repeat ((first|refine oB (ovE rfl) ?_|refine oB (by simp) ?_); first|refine dr ?_|exact dz)
   trivial
 refine dr ?_;apply cP<;>intro h5
 ·refine dr ?_;refine oW (YK W0 s (p+1) hs (by omega)) rfl ⟨rfl,trivial⟩ rfl rfl ⟨(([],p+1):List Mark × Int),by simp; omega,.nil⟩ fun x hx=>⟨rfl,?_⟩
  obtain ⟨l,q1⟩:=x;obtain ⟨⟨a1,a2,a3⟩,az⟩:(l.length≤32∧p+1≤q1∧q1≤p+1+37)∧XA 122 l:=hx;refine dEr ?_;repeat ((first|refine oB (by simp; omega) ?_|refine oB (by simp) ?_); first|refine dEr ?_|exact dz)
  refine ⟨some 4,_,_,?_,(⟨o.base,o.layers++[l],o.upper⟩,q1),⟨⟨hz.put (by simp; omega) (fun x hx=>?_) (by omega),by omega,by omega⟩,fun h=>h.addl az⟩,rfl,rfl⟩
  ·refine dr ?_;repeat ((first|refine oB (ovE app1) ?_|refine oB (by simp) ?_); first|refine dr ?_|exact dz)
   trivial
  ·rcases List.mem_append.1 hx with h | h
   ·have:=z3 x h; omega
   ·simp only [List.mem_singleton] at h; subst h; omega
 ·refine dr ?_;refine ⟨some 4,_,_,?_,(o,p+1),⟨⟨hz',by omega,by omega⟩,id⟩,rfl,rfl⟩;refine dr ?_;repeat ((first|refine oB (ovE rfl) ?_|refine oB (by simp) ?_); first|refine dr ?_|exact dz)
  trivial
theorem YL (W0:World) (s:Str) (p:Int) (o:Over) (n:Nat) (hs:s.length≤2000) (hp:0≤p∧p≤40000) (h:OZ n o) (hn:n≤50000) :
  zI Tryz.prog W0 43 [.ptr 1 0,.c (zL o)] (Rd s p) (fun x:Over × Int=>OZ (n+40) x.1∧p≤x.2∧x.2≤p+40) (fun x => .c (zL x.1)) (fun x=>Rd s x.2):=(zbM W0 s p o n hs hp h hn).weak fun _ h=>h.1
def zhS:XC:=(.s (.r [.ex 2 (.alloc [.nil,.nil,.nil])]) (.s (.r [.mv 3 0,.mv 4 0,.o1 5 42 [4],.o1 6 43 [3,5],.s1 3 2 6]) .ret))
theorem zhT:zh Tryz.prog [42,43] 44=some (zhS.ac,[(.cell 2 true 3)],7):=by kernel_rfl
theorem ziV (W0:World) (s:Str) (p:Int) (hs:s.length≤2000) (hp:0≤p∧p≤20000) :
  zI Tryz.prog W0 44 [.ptr 1 0] (Rd s p) (fun x:Over × Int=>(OZ 80 x.1∧p≤x.2∧x.2≤p+640)∧XO 122 x.1) (fun x => .c (zL x.1)) (fun x=>Rd s x.2):=by
 refine fW mixed zhT fun hg=>?_
 refine dr ?_;refine oW (zbO W0 s p hs hp) rfl ⟨rfl,trivial⟩ rfl rfl ⟨(noO,p),⟨OS.no,by simp,by simp; omega⟩,.no⟩ fun x hx=>⟨rfl,?_⟩
 obtain ⟨o,q⟩:=x;obtain ⟨⟨a1,a2,a3⟩,az⟩:(OS o∧p≤q∧q≤p+600)∧XO 122 o:=hx;refine dEr ?_;refine oW (zbM W0 s q o 32 hs (by omega) a1.oz (by omega)) rfl ⟨rfl,trivial⟩ rfl rfl ⟨(noO,q),⟨OS.no.oz.mono (by omega),by simp,by simp; omega⟩,fun _ => .no⟩ fun x hx=>⟨rfl,?_⟩
 obtain ⟨x,r⟩:=x;obtain ⟨⟨b1,b2,b3⟩,bz⟩:(OZ (32+40) x∧q≤r∧r≤q+40)∧(XO 122 o→XO 122 x):=hx;refine dEr ?_;refine ⟨none,_,_,?_,(x,r),⟨⟨b1.mono (by omega),by omega,by omega⟩,bz az⟩,rfl,rfl⟩;refine dr ?_;trivial
def zfP:XC:=(.s (.r [.ex 2 (.alloc [.nil,.nil,.nil])]) (.s (.r [.mv 3 0,.o1 4 41 [3],.o1 5 44 [4],.s1 3 2 5]) .ret))
theorem zfQ:zh Tryz.prog [41,44] 12=some (zfP.ac,[(.cell 2 true 3)],6):=by kernel_rfl
theorem zim (W0:World) (c:Str):zI Tryz.prog W0 12 [.c (jD c)] [] (fun x:Over=>OZ 80 x∧XO 122 x) (fun x => .c (zL x)) (fun _=>[]):=by
 refine fW mixed zfQ fun hg=>?_
 refine dr ?_;refine oW (zbD W0 c) rfl trivial rfl rfl ⟨[],by simp⟩ fun s hs=>⟨rfl,?_⟩
 refine dEr ?_;refine oW (ziV W0 s 0 hs (by omega)) rfl ⟨rfl,trivial⟩ rfl rfl ⟨(noO,0),⟨OS.no.oz.mono (by omega),by simp,by simp⟩,.no⟩ fun x hx=>⟨rfl,?_⟩
 obtain ⟨o,q⟩:=x;have a1:OZ 80 o:=hx.1.1;have az:XO 122 o:=hx.2;refine dEr ?_;refine ⟨none,_,_,?_,o,⟨a1,az⟩,rfl,rfl⟩;refine dr ?_;trivial
def zfR:XC:=(.s (.r [.ex 2 (.alloc [.nil,.nil,.nil]),.ex 3 (.alloc [.nil,.nil,.nil])]) (.s (.r [.mv 6 0,.o1 7 41 [6],.mv 4 7]) (.s (.r [.mv 8 4,.o1 9 42 [8],.ex 5 (.alloc [.nil,.nil,.nil]),.s1 3 5 9]) (.s (.d [.exl 10 (.ld true 3 5),.mv 11 4,.mv 12 4,.mv 13 4,.exl 14 (.ld true 3 5),.exl 15 (.opn 43 [13,14]),.exl 16 (.opn 43 [12,15]),.exl 17 (.opn 43 [11,16]),.s1 3 2 10,.s1 3 3 17]) .ret))))
theorem zfS:zh Tryz.prog [41,42,43] 11=some (zfR.ac,[(.cell 2 true 3),(.cell 3 true 3)],18):=by kernel_rfl
theorem zin (W0:World) (c:Str):zI Tryz.prog W0 11 [.c (jD c)] [] (fun x:Over × Over=>OZ 200 x.1∧OZ 200 x.2) (fun x => .tup [.c (zL x.1),.c (zL x.2)]) (fun _=>[]):=by
 refine fW mixed zfS fun hg=>?_
 refine dr ?_;refine oW (zbD W0 c) rfl trivial rfl rfl ⟨[],by simp⟩ fun s hs=>⟨rfl,?_⟩
 refine dEr ?_;refine oW (ziU W0 s 0 hs (by omega)) rfl ⟨rfl,trivial⟩ rfl rfl ⟨(noO,0),OS.no,by simp,by simp⟩ fun x hx=>⟨rfl,?_⟩
 obtain ⟨o,q⟩:=x;obtain ⟨a1,a2,a3⟩:OS o∧0≤q∧q≤0+600:=hx;have oz:=a1.oz;refine dEr ?_;refine oW (YL W0 s q o 32 hs (by omega) oz (by omega)) rfl ⟨rfl,trivial⟩ rfl rfl ⟨(noO,q),OS.no.oz.mono (by omega),by simp,by simp; omega⟩ fun x hx=>⟨rfl,?_⟩
 obtain ⟨x1,r1⟩:=x;obtain ⟨b1,b2,b3⟩:OZ (32+40) x1∧q≤r1∧r1≤q+40:=hx;refine dr ?_;refine oW (YL W0 s r1 x1 72 hs (by omega) b1 (by omega)) rfl ⟨rfl,trivial⟩ rfl rfl ⟨(noO,r1),OS.no.oz.mono (by omega),by simp,by simp; omega⟩ fun x hx=>⟨rfl,?_⟩
 obtain ⟨x2,r2⟩:=x;obtain ⟨c1,c2,c3⟩:OZ (72+40) x2∧r1≤r2∧r2≤r1+40:=hx;refine dr ?_;refine oW (YL W0 s r2 x2 112 hs (by omega) c1 (by omega)) rfl ⟨rfl,trivial⟩ rfl rfl ⟨(noO,r2),OS.no.oz.mono (by omega),by simp,by simp; omega⟩ fun x hx=>⟨rfl,?_⟩
 obtain ⟨x3,r3⟩:=x;obtain ⟨d1,d2,d3⟩:OZ (112+40) x3∧r2≤r3∧r3≤r2+40:=hx;refine dEr ?_;refine ⟨none,_,_,?_,(o,x3),⟨oz.mono (by omega),d1.mono (by omega)⟩,rfl,rfl⟩;refine dr ?_;trivial

open Go Go.RowKit Go.WideShapes Go.ChangeShapes Go.ChangeAt
abbrev RC (W:World) (y:CV) (v:Value):Prop:=RepC W (fun _=>False) y v∧v.oneCell'=true
def Opn {H:Type} (enc:TypeId × Value→H) (P:Program) (W:World) (t:TypeId) {α:Type} (f:α→CV):Prop :=
 ∀ (base:Nat) (sp:Nat→Bool) (held:Bool) (fuel:Nat) (cs:List Value) (x:DataW H × List MemPlace),DataW.trod enc P W base sp held fuel t cs=some x→∃ a:α,za (RC W) (f a).cells cs
section
variable {H:Type} {enc:TypeId × Value→H} {P:Program} {W:World}
theorem zkw {t:TypeId} (ht:P.underlying t=some (.int .u8)):Opn enc P W t (fun b:UInt8=>CU b.toNat):=by
 intro base sp held fuel cs x h;obtain ⟨n,rfl,_,hw⟩:=DataW.trod_int ht h;have hw':0≤n∧n≤255:=by simpa [Lit.wf,IntKind.min,IntKind.max,IntKind.signed,IntKind.bits] using hw
 have e:((UInt8.ofNat n.toNat).toNat:Int)=n:=by simp; omega
 refine ⟨UInt8.ofNat n.toNat,⟨?_,rfl⟩,trivial⟩;show RepC W _ (CU (UInt8.ofNat n.toNat).toNat) _;rw [e];exact .sc (by simpa [wfv,IntKind.min,IntKind.max,IntKind.signed,IntKind.bits] using hw')
theorem J2 {a:Addr} (h:a.spot=none) (n:Nat):a.add n=⟨a.block,a.off+n,none⟩:=by
 unfold Addr.add;split
 ·rename_i hn; subst hn; cases a; simp at h; subst h; rfl
 ·rfl
theorem zaO {α:Type} {R:CV→Value→Prop} {f:α→CV} {sz:Nat} {g:Nat→List Value}:∀ {L:List α} {k:Nat},(∀ i (h:i < L.length),za R (f L[i]).cells (g (k+i))) →
  za R ((L.map f).flatMap CV.cells) ((List.range' k L.length).flatMap g)
 | [],k,_=>trivial
 | a::L,k,h=>by
  simp only [List.map_cons,List.flatMap_cons,List.length_cons,List.range'_succ];refine za.append (h 0 (by simp)) (zaO (sz:=sz) (k:=k+1) fun i hi=>?_);have:=h (i+1) (by simp; omega);rw [show k+1+i=k+(i+1) by omega]
  simpa using this
theorem zcK {α:Type} {q:Nat→α→Prop}:∀ {n:Nat},(∀ i,i < n→∃ a,q i a)→∃ L:List α,L.length=n∧∀ i (h:i < L.length),q i L[i]
 | 0,_=>⟨[],rfl,fun i h=>by simp at h⟩
 | n+1,h=>by
  obtain ⟨L,hl,hq⟩:=zcK (n:=n) fun i hi=>h i (by omega)
  obtain ⟨a,ha⟩:=h n (by omega);refine ⟨L++[a],by simp [hl],fun i hi=>?_⟩;by_cases hin:i < L.length
  ·rw [List.getElem_append_left hin]; exact hq i hin
  ·have:i=L.length:=by simp at hi; omega
   subst this;simp only [List.getElem_concat_length];rw [hl]; exact ha
theorem zkv {t e:TypeId} {α:Type} {f:α→CV} (sz:Nat) (ht:P.underlying t=some (.slice e)) (hc:P.cellsOf e=sz) (h0:0 < sz) (hf:∀ a,(f a).cells.length=sz) (he:Opn enc P W e f):Opn enc P W t (fun l:List α => .row (l.map f)):=by
 intro base sp held fuel cs x h;rcases DataW.trod_slice ht h with ⟨rfl,_⟩ | ⟨a,len,cap,elems,rest,n,_,rfl,_,_,hle,hcap,helen,hel,_⟩
 ·exact ⟨[],⟨.nil (Nat.zero_le _),rfl⟩,trivial⟩
 ·rw [hc] at hel;have key:∀ i,i < len→∃ (y:α),∃ cs',cs'.length=sz∧(∀ j,j < sz→W.cell? ((a.add (i * sz)).add j)=cs'[j]?)∧za (RC W) (f y).cells cs':=by
   intro i hi;have h1:=hel i hi;have h2:∃ z,elems[i]? = some z:=⟨elems[i]'(by omega),by simp [helen,hi]⟩;obtain ⟨z,h2⟩:=h2;rw [h2] at h1;obtain ⟨cs',h3,h4⟩:=Option.bind_eq_some_iff.1 h1;obtain ⟨y,hy⟩:=he _ _ _ _ _ _ h4;obtain ⟨_,h5,h6⟩:=World.cells?_some h3;exact ⟨y,cs',h5,h6,hy⟩
  obtain ⟨L,hl,hL⟩:=zcK key;refine ⟨L,⟨?_,rfl⟩,trivial⟩;by_cases hne:L=[]
  ·subst hne;simp only [List.length_nil] at hl;subst hl;exact .nil hcap
  ·have hpos:0 < L.length:=List.length_pos_iff.2 hne;have hsp:a.spot=none:=by
    obtain ⟨cs',h5,h6,_⟩:=hL 0 hpos;have:=h6 0 h0;simp only [Nat.zero_mul] at this;have e0:(a.add 0).add 0=a:=by simp [Addr.add]
    rw [e0] at this;have h7:∃ u,cs'[0]? = some u:=⟨cs'[0]'(by omega),by simp [h5,h0]⟩;obtain ⟨u,h7⟩:=h7;rw [h7] at this;unfold World.cell? at this;split at this
    ·split at this
     ·cases this
     ·rename_i hh; simpa using hh
    ·cases this
   let g:Nat→List Value:=fun i=>(List.range sz).map fun j=>(W.cell? ⟨a.block,a.off+(i * sz+j),none⟩).getD undef
   have hg:∀ i (h:i < L.length),za (RC W) (f L[i]).cells (g i)∧∀ j,j < sz→W.cell? ⟨a.block,a.off+(i * sz+j),none⟩=(g i)[j]? := by
    intro i hi;obtain ⟨cs',h5,h6,h7⟩:=hL i hi;have e:g i=cs':=by
     apply List.ext_getElem?;intro j;by_cases hj:j < sz
     ·have:=h6 j hj;rw [J2 hsp,J2 rfl] at this;simp only [g,List.getElem?_map,List.getElem?_range hj,Option.map_some];rw [show a.off+(i * sz+j)=a.off+i * sz+j by omega,this];have:cs'[j]? = some (cs'[j]'(by omega)):=by simp [h5,hj]
      rw [this]; rfl
     ·rw [List.getElem?_eq_none (by simp [g]; omega),List.getElem?_eq_none (by omega)]
    rw [e];refine ⟨h7,fun j hj=>?_⟩;have:=h6 j hj;rw [J2 hsp,J2 rfl] at this;rw [← this,show a.off+i * sz+j=a.off+(i * sz+j) by omega]
   have hall:=zaO (R:=RC W) (f:=f) (sz:=sz) (g:=g) (L:=L) (k:=0) fun i hi=>by simpa using (hg i hi).1
   have hlen:(L.map f).length=len:=by simpa using hl
   have hcell:∀ (m:Nat),m≤L.length→∀ j v,((List.range' 0 m).flatMap g)[j]? = some v→W.cell? ⟨a.block,a.off+j,none⟩=some v:=by
    intro m;induction m with
    | zero=>intro _ j v hv; simp at hv
    | succ m ih =>
     intro hm j v hv;rw [List.range'_concat,List.flatMap_append] at hv;have hln:∀ m,((List.range' 0 m).flatMap g).length=m * sz:=by
      intro m;induction m with
      | zero=>simp
      | succ m ih=>rw [List.range'_concat,List.flatMap_append,List.length_append,ih]; simp [g,Nat.add_mul]
     by_cases hj:j < m * sz
     ·rw [List.getElem?_append_left (by rw [hln]; exact hj)] at hv;exact ih (by omega) j v hv
     ·rw [List.getElem?_append_right (by rw [hln]; omega),hln] at hv;simp only [Nat.zero_add,Nat.one_mul,List.flatMap_cons,List.flatMap_nil,List.append_nil] at hv;have hj2:j - m * sz < sz:=by
       rcases Nat.lt_or_ge (j - m * sz) sz with h' | h'
       ·exact h'
       ·rw [List.getElem?_eq_none (by simp [g]; omega)] at hv; cases hv
      have:=(hg m (by omega)).2 _ hj2;rw [hv,show m * sz+(j - m * sz)=j by omega] at this;exact this
   obtain ⟨ab,ao,asp⟩:=a;simp only at hsp;subst hsp;rw [← hlen];refine .row (sz:=sz) (vs:=(List.range' 0 L.length).flatMap g) (by simpa using hne) h0 (by rw [hlen]; exact hle) hcap (fun h=>h) ?_ hall.length ?_ ?_ fun j v hv=>?_
   ·intro y hy;obtain ⟨b,_,rfl⟩:=List.mem_map.1 hy;exact hf b
   ·intro i y v hy hv;obtain ⟨u,hu,hr⟩:=hall.get i y hy;rw [hv] at hu; cases hu; exact hr.1
   ·intro v hv;obtain ⟨i,hi⟩:=List.mem_iff_getElem?.1 hv;have hlt:i < ((L.map f).flatMap CV.cells).length:=by
     rw [hall.length]; exact (List.getElem?_eq_some_iff.1 hi).1
    obtain ⟨u,hu,hr⟩:=hall.get i _ (List.getElem?_eq_getElem hlt);rw [hi] at hu; cases hu; exact hr.2
   ·exact hcell L.length (Nat.le_refl _) j v hv
theorem zks {y:CV} (hy:∀ cs,y ≠ .agg cs) {vs:List Value} (h:za (RC W) y.cells vs):∃ v,vs=[v]∧RC W y v:=by
 have e:y.cells=[y]:=by cases y<;>first|rfl|exact absurd rfl (hy _)
 rw [e] at h
 match vs,h with
 | [v],h=>exact ⟨v,rfl,h.1⟩
theorem zeB {t:TypeId} {α:Type} {f:α→CV} (h:Opn enc P W t f) (hf:∀ a cs,f a ≠ .agg cs) {base:Nat} {v:Value} (h1:∀ cs,v ≠ .agg cs)
  {sp:Nat→Bool} {held:Bool} {d:DataW H} {ps:List MemPlace} (hd:DataW.Trod enc P W base sp held t v d ps):∃ a,RepC W (fun _=>False) (f a) v:=by
 obtain ⟨fuel,hx⟩:=hd;obtain ⟨a,ha⟩:=h _ _ _ _ _ _ hx;obtain ⟨u,hu,hr⟩:=zks (hf a) ha;refine ⟨a,?_⟩;have:v.cells.toList=[v]:=by cases v<;>first|rfl|exact absurd rfl (h1 _)
 rw [this] at hu; cases hu;exact hr.1
theorem zje {f:FuncId} {args:List CV} {vs:Array Value} (h:Fn P W f args (.c (CB true)) []) (ha:za (RepC W fun _=>False) args vs.toList) :
  Calls P f vs W fun e W'=>e = .returned (.bool true)∧Below W.heap.size W W':=by
 have hlive:∀ b,¬ zf ⟨fun _=>none,fun _=>False⟩ [] b:=by
  rintro b (hb | ⟨id,hb,_⟩)
  ·exact hb
  ·simp [lk] at hb
 have hm:MemOk ⟨fun _=>none,fun _=>False⟩ [] W:=⟨fun id b hb=>by simp [lk] at hb,fun i j b hi=>by simp [lk] at hi,fun b hb=>hb.elim,fun id b hb=>by simp [lk] at hb⟩;refine (h ⟨fun _=>none,fun _=>False⟩ W vs (Below.refl _ _) (MW.start hm fun b hb=>(hlive b hb).elim) ?_).mono ?_
 ·have key:∀ {args:List CV} {us:List Value},za (RepC W fun _=>False) args us→za (Rep ⟨fun _=>none,fun _=>False⟩ [] W) (args.map .c) us:=by
   intro args;induction args with
   | nil=>intro us h; cases us with | nil=>trivial | cons=>exact h.elim
   | cons a l ih =>
    intro us h;cases us with
    | nil=>exact h.elim
    | cons u us =>
     refine ⟨RepC.rep (h.1.mono fun b o v _ hc=>⟨hlive b,hc⟩),ih h.2⟩
  exact key ha
 ·rintro e W' ⟨v,r,m',κ',rfl,⟨rfl,rfl⟩,h1,h2⟩;refine ⟨?_,?_⟩
  ·have:=Rep.c h2;cases this;rfl
  ·have e:=h1.ext;exact ⟨e.os,e.tape,e.output,e.size,fun k hk=>e.block k hk fun ⟨id,hid,_⟩=>by simp [lk] at hid⟩
theorem zef (hl:laidOutB P=true) {W':World} (hb:Below W.heap.size W W') {sp:Nat→Bool}:∀ {ts:List TypeId} {vs:List Value} {ds:List (DataW H)} {ps:List MemPlace},(∀ t∈ts,P.readableRec t=true∧t < P.types.size) →
  DataW.TrodAll enc P W 0 (fun _=>true) true ts vs ds ps→(∀ p∈ps,p.block < W.heap.size)→(∀ p∈ps,sp p.block=true)→DataW.TrodAll enc P W' 0 sp true ts vs ds ps
 | [],[],[],ps,_,h,_,_=>h
 | t::ts,v::vs,d::ds,ps,hr,h,hlt,hs=>by
  obtain ⟨p,q,h1,h2,rfl⟩:=h;obtain ⟨h3,h4⟩:=hr t (by simp);exact ⟨p,q,WideElems.Trod_stays hl h3 h4 h1 (fun x hx=>hb.same (hlt x (by simp [hx]))) (fun x hx=>hs x (by simp [hx])),
   zef hl hb (fun t ht=>hr t (by simp [ht])) h2 (fun x hx=>hlt x (by simp [hx])) (fun x hx=>hs x (by simp [hx])),rfl⟩
 | [],_::_,_,_,_,h,_,_=>h.elim
 | [],[],_::_,_,_,h,_,_=>h.elim
 | _::_,[],_,_,_,h,_,_=>h.elim
 | _::_,_::_,[],_,_,h,_,_=>h.elim
theorem zjT (hl:laidOutB P=true) {fn:Func} {s:ChangeSpec} {tb:TypeId} {apart fresh handsOn again:Bool} {W':World} {args:Array Value} {ds:List (DataW H)} {before:List MemPlace}
  (hr:(fn.params.toList.all fun t=>P.readableRec t&&decide (t < P.types.size))=true) (hres:fn.resultTypes=#[tb]) (htb:P.underlying tb=some .bool) (hv:s.vars=[])
  (hW:DataW.Whole enc P fn.params.toList s.vars apart W args.toList ds [] before) (hs:s.fn H (ds++[])={ results:=[.lit (.bool true)],args:=ds }) (hb:Below W.heap.size W W') :
  s.post enc P fn apart fresh handsOn again W args (.bool true) W':=by
 have hr:∀ t∈fn.params.toList,P.readableRec t=true∧t < P.types.size:=fun t ht=>by
  have:=List.all_eq_true.1 hr t ht
  simpa using this
 have hlt:∀ p∈before,p.block < W.heap.size:=fun p hp=>hW.lt p hp
 have hW0:=hW;obtain ⟨p,q,hA,hV,hpq,hfz,hnd⟩:=hW;rw [hv] at hV;obtain ⟨_,rfl⟩:=trodVars_none hV;rw [List.append_nil] at hpq;subst hpq;have hbool:∀ (b:Nat) (sp:Nat→Bool) (hd:Bool),DataW.TrodAll enc P W' b sp hd fn.resultTypes.toList ((Value.bool true).resultList fn.resultTypes.size) (s.fn H (ds++[])).results []:=by
  intro b sp hd;rw [hres,hs];exact trodAll_mk1 ⟨1,by simp [DataW.trod,Value.cells,htb]⟩
 have hargs:∀ sp:Nat→Bool,(∀ x∈before,sp x.block=true)→DataW.TrodAll enc P W' 0 sp true fn.params.toList args.toList ds before:=fun sp hsp=>zef hl hb hr hA hlt hsp
 have hvars:∀ sp,DataW.TrodVars enc P W' sp s.vars [] []:=fun sp=>by rw [hv]; rfl
 refine ⟨ds,[],before,[],before,[],hW0,hbool _ _ _,?_,?_,World.keptBut_mono (fun x hx=>⟨hx,.inr (.inl hx)⟩) (hb.frame (·∈before)),fun _=>⟨fun j t r ht hr'=>?_,(s.fn H (ds++[])).results++ds,[],before,⟨before,[],?_,?_,(List.append_nil _).symm,fun b off hx=>?_,hnd⟩,fun x hx _=>hx⟩⟩
 ·rw [hs]; exact hargs _ fun x hx=>by simpa using hlt x hx
 ·rw [hs]; exact hvars _
 ·rw [hres] at ht hr'
  match j,ht,hr' with
  | 0,ht,hr' =>
   have e1:tb=t:=by simpa using ht
   have e2:Value.bool true=r:=by simpa [Value.resultList] using hr'
   subst e1 e2;simp [Value.okWide,htb,Cell.okWide,Cell.ok]
  | j+1,ht,_=>simp at ht
 ·have:=trodAll_append (hargs (fun _=>true) fun _ _=>rfl) (hbool 0 (fun _=>true) true)
  simpa using this
 ·exact hvars _
 ·rw [hb.frozen (hlt _ hx)]; exact hfz b off hx
end

theorem laidOut:laidOutB Tryz.prog=true:=by kernel_rfl
theorem ownK:ownKnob Tryz.prog.godebug=none:=by kernel_rfl
section
variable {H:Type} {enc:TypeId × Value→H} {W:World}
set_option maxRecDepth 100000 in
theorem zeA {r:Reach} {b:Nat} {v:Value} (h:Value.okWide Tryz.prog W r b 22 v):∀ cs,v ≠ .agg cs:=by
 rintro cs rfl;unfold Value.okWide at h;rw [Tryz.underlying22] at h;unfold Cell.okWide at h;rw [Tryz.underlying22] at h;unfold Cell.ok at h;rw [Tryz.underlying22] at h;exact h
theorem zkf:Opn enc Tryz.prog W 22 jD:=zkv (f:=fun b:UInt8=>CU b.toNat) 1 (by kernel_rfl) (by kernel_rfl) (by decide) (fun _=>rfl) (zkw (t:=5) (by kernel_rfl))
end

def zkH:List Value:=[128,191,160,191,128,159,144,191,128,143,0,0,0,0,0,0,0,0,0,0,0,0,0,0,0,0,0,0,0,0,0,0].map fun n:Nat=>Value.int .u8 (n:Int)
def firstCells:List Value:=Go.Pinned.utf8FirstZ.map fun n:Nat=>Value.int .u8 (n:Int)
def laidW (P:Program) (os:Os):World:=Sort.mapBlock (Sort.mapBlock (World.holding P os ⟨#[],#[],[]⟩) 2 fun _=>zkH.toArray) 1 fun _=>firstCells.toArray

theorem zjB {W:World} (h:W.ShapedOpen Tryz.prog):HM W :=
 Go.Proofs.cell_of_shapedOpen_int (zero:=#[.int .i64 0]) (t:=3) h (of_decide_eq_true (by kernel_rfl)) (by kernel_rfl) rfl (by kernel_rfl) (by kernel_rfl) Tryz.underlying3

theorem xiT {a:Int} {A B:Prop} (h:A):cndX (eqI a a) A B:=by rw [Qr.2 rfl]; exact h
theorem xiF {a:Int} {A B:Prop} (h:B):cndX (!eqI a a) A B:=by rw [Qr.2 rfl]; exact h
theorem xbT {a:Bool} {A B:Prop} (h:A):cndX (eqB a a) A B:=by rw [ZE.2 rfl]; exact h
theorem xbF {a:Bool} {A B:Prop} (h:B):cndX (!eqB a a) A B:=by rw [ZE.2 rfl]; exact h
theorem xiN {a b:Int} {A B:Prop} (k:B) (h:a≠b:=by decide):cndX (eqI a b) A B:=by rw [YD.2 h]; exact k
theorem xiM {a b:Int} {A B:Prop} (k:A) (h:a≠b:=by decide):cndX (!eqI a b) A B:=by rw [YD.2 h]; exact k
theorem xbN {a b:Bool} {A B:Prop} (k:B) (h:a≠b:=by decide):cndX (eqB a b) A B:=by rw [YB.2 h]; exact k
theorem xbM {a b:Bool} {A B:Prop} (k:A) (h:a≠b:=by decide):cndX (!eqB a b) A B:=by rw [YB.2 h]; exact k
theorem xeT {p d:Str} {b:Bool} {A B:Prop} (h:A):cndX (eqS p p&&(eqB b b&&(eqS d d&&true))) A B:=by rw [ZG.2 rfl,ZE.2 rfl,ZG.2 rfl]; exact h
theorem xeF {p d:Str} {b:Bool} {A B:Prop} (h:B):cndX (!(eqS p p&&(eqB b b&&(eqS d d&&true)))) A B:=by rw [ZG.2 rfl,ZE.2 rfl,ZG.2 rfl]; exact h
theorem zbx (W0:World) (a b:Over) (h:a=b):Fn Tryz.prog W0 13 [zL a,zL b] (.c (CB true)) []:=by
 have:=ZK W0 a b
 rwa [decide_eq_true h] at this
theorem zbv (W0:World) (a b:List Ent) (h:a=b):Fn Tryz.prog W0 45 [ze a,ze b] (.c (CB true)) []:=by
 have:=zbA W0 a b
 rwa [decide_eq_true h] at this
theorem zbw (W0:World) (a b:List Mark) (h:a=b):Fn Tryz.prog W0 47 [zg a,zg b] (.c (CB true)) []:=by
 have:=Qs W0 a b
 rwa [decide_eq_true h] at this

theorem zbp {b:List Ent} {l:List (List Mark)} {u v:List Mark}:zL ⟨b,l,u++v⟩ = .agg [ze b,js l,.row (u.map jm++v.map jm)]:=by
 rw [← List.map_append]; rfl
theorem Yx {b:List Ent} {l m:List (List Mark)} {u:List Mark}:zL ⟨b,l++m,u⟩ = .agg [ze b,.row (l.map zg++m.map zg),zg u]:=by
 rw [← List.map_append]; rfl
def zfH:XC:=(.s (.r [.m1 2 .n]) (.s (.s (.r [.mv 9 0,.n1 10 9,.b1 11 .gtr 10 (.i 1048576)]) (.cnd 11 (.rt 2) .skip)) (.s (.r [.mv 13 0,.o1 14 11 [13],.mv 12 14,.e1 15 12 0,.e1 16 12 1,.ex 3 (.alloc [.nil,.nil,.nil]),.ex 4 (.alloc [.nil,.nil,.nil]),.s1 3 3 15,.s1 3 4 16]) (.s (.r [.mv 17 0,.o1 18 12 [17],.ex 5 (.alloc [.nil,.nil,.nil]),.s1 3 5 18]) (.s (.s (.d [.l2 19 3 3,.l2 20 3 4,.c1 21 13 [19,20],.l2 22 3 3,.l2 23 3 4,.c1 24 14 [22,23],.ex 25 (.bb true 21 24),.mv 26 25,.gf 27 (.ld true 3 3) 26,.gf 28 (.ld true 3 4) 26,.gf 29 (.call 13 [27,28]) 26,.gf 30 (.ld true 3 4) 26,.gf 31 (.ld true 3 3) 26,.gf 32 (.call 13 [30,31]) 26,.gf 33 (.bb true 29 32) 26,.p1 34 26 33,.mv 35 34,.gf 36 (.ld true 3 5) 35,.gf 37 (.ld true 3 5) 35,.gf 38 (.call 13 [36,37]) 35,.gf 39 (.un .not 38) 35,.p1 40 35 39,.mv 41 40,.gf 42 (.ld true 3 5) 41,.gf 43 (.call 15 [42]) 41,.gf 44 (.ld true 3 5) 41,.gf 45 (.call 16 [44]) 41,.gf 46 (.bb true 43 45) 41,.p1 47 41 46,.mv 48 47,.gf 49 (.build [.nil,.nil,.nil] []) 48,.gf 50 (.call 15 [49]) 48,.gf 51 (.un .not 50) 48,.p1 52 48 51]) (.cnd 52 (.rf 2) .skip)) (.s (.s (.r [.l2 53 3 5,.c1 54 16 [53],.u1 55 54]) (.cnd 55 (.rt 2) .skip)) (.s (.r [.l2 56 3 5,.ex 6 (.alloc [.nil,.nil,.nil]),.s1 3 6 56]) (.s (.r [.ex 57 .bsl0,.f1 58 2 5,.l1 59 1 58,.ex 60 (.app true 3 40 34 57 59),.ex 61 (.build [sE,(I 0),sE] [(0,(1,(.s [47,122,122]))),(1,(1,(.i 3)))]),.ex 62 (.bsl 3 34 [61]),.ex 63 (.app false 3 40 34 60 62),.f1 64 2 6,.s1 1 64 63]) (.s (.r [.l2 65 3 5,.ex 7 (.alloc [.nil,.nil,.nil]),.s1 3 7 65]) (.s (.r [.ex 66 .bsl0,.f1 67 1 5,.l1 68 1 67,.ex 69 (.app true 1 24 25 66 68),.ex 70 (.bsl 1 25 [(.k .nil),(.k .nil),(.k .nil),(.k .nil),(.k .nil)]),.ex 71 (.app false 1 24 25 69 70),.f1 72 1 7,.s1 1 72 71]) (.s (.r [.l2 73 3 5,.ex 8 (.alloc [.nil,.nil,.nil]),.s1 3 8 73]) (.s (.r [.ex 74 .bsl0,.f1 75 1 5,.l1 76 1 75,.ex 77 (.app true 1 24 25 74 76),.ex 78 (.build [sE,(I 0),sE] [(0,(1,(.s [47,122,122,47,122]))),(1,(1,(.i 1)))]),.ex 79 (.bsl 3 34 [78]),.ex 80 (.bsl 1 25 [79]),.ex 81 (.app false 1 24 25 77 80),.f1 82 1 8,.s1 1 82 81]) (.s (.r [.l2 83 3 6,.c1 84 15 [83],.u1 85 84,.mv 86 85,.gt 87 (.ld true 3 7) 86,.gt 88 (.call 15 [87]) 86,.gt 89 (.un .not 88) 86,.p2 90 86 89,.mv 91 90,.gt 92 (.ld true 3 8) 91,.gt 93 (.call 15 [92]) 91,.gt 94 (.un .not 93) 91,.p2 95 91 94,.mv 96 95,.gt 97 (.ld true 3 5) 96,.gt 98 (.ld true 3 6) 96,.gt 99 (.call 13 [97,98]) 96,.gt 100 (.un .not 99) 96,.p2 101 96 100,.mv 102 101,.gt 103 (.ld true 3 5) 102,.gt 104 (.ld true 3 7) 102,.gt 105 (.call 13 [103,104]) 102,.gt 106 (.un .not 105) 102,.p2 107 102 106,.mv 2 107]) .ret)))))))))))))
theorem zfI:zh Tryz.prog [11,12] 3=some (zfH.ac,[(.t 2)],108):=by kernel_rfl
theorem zir (W0:World) (hs:W0.ShapedOpen Tryz.prog) (c0':Str):Fn Tryz.prog W0 3 [jD c0'] (.c (CB true)) []:=by
 refine fX mixed zfI fun hg=>?_
 have hM:=zjB hs;refine dr ?_;apply cP<;>intro h1
 ·exact dz
 refine dr ?_;refine oW (zin W0 c0') rfl trivial rfl rfl ⟨(noO,noO),OS.no.oz.mono (by omega),OS.no.oz.mono (by omega)⟩ fun x hx=>⟨rfl,?_⟩
 obtain ⟨a,b⟩:=x;clear hx;refine dEr ?_;refine oW (zim W0 c0') rfl trivial rfl rfl ⟨noO,OS.no.oz.mono (by omega),.no⟩ fun o hx=>⟨rfl,?_⟩
 obtain ⟨hz,hxo⟩:OZ 80 o∧XO 122 o:=hx;have q1:=ZK W0 a b;have q2:=zi8 W0 a b;have q3:=ZK W0 b a;rw [show decide (b=a)=decide (a=b) by simp [eq_comm]] at q3;have q4:=ZK W0 o o;rw [show decide (o=o)=true by simp] at q4;have q5:=Ju W0 hM o;have q6:=Jy W0 o;have q7:=Ju W0 hM noO;rw [show oOk noO=true by decide +kernel] at q7;generalize decide (a=b)=ab at *;cases ho:oOk o with
 | false =>
  rw [ho] at q5 q6;refine dEr ?_;repeat ((first|refine c0 q1 rfl ?_|refine c0 q2 rfl ?_|refine c0 q3 rfl ?_|refine c0 q4 rfl ?_|refine c0 q5 rfl ?_|refine c0 q6 rfl ?_|refine c0 q7 rfl ?_|apply xiT|apply xiF|apply xbT|apply xbF|refine xiN ?_|refine xiM ?_|refine xbN ?_|refine xbM ?_|apply xeT|apply xeF|refine c0 (zbx W0 _ _ rfl) rfl ?_|refine c0 (zbv W0 _ _ rfl) rfl ?_|refine c0 (zbw W0 _ _ rfl) rfl ?_); first|refine dEr ?_|exact dz)
 | true =>
  rw [ho] at q5 q6;obtain ⟨zb,zn,zl,zu⟩:=hz;obtain ⟨bs,ls,up⟩:=o;simp only at zb zn zl zu;have qx:=Ju W0 hM ⟨bs,ls,up++[⟨[47,122,122],3,[]⟩]⟩;rw [zeF (o:=⟨bs,ls,up⟩) hxo rfl,zbp] at qx;have qy:=Ju W0 hM ⟨bs,ls++[[],[],[],[],[]],up⟩;rw [zeG ho (by simp),Yx] at qy;have qz:=Ju W0 hM ⟨bs,ls++[[⟨[47,122,122,47,122],1,[]⟩]],up⟩;rw [zeE (o:=⟨bs,ls,up⟩) hxo ho,Yx] at qz;have sx:=ZK W0 ⟨bs,ls,up⟩ ⟨bs,ls,up++[⟨[47,122,122],3,[]⟩]⟩;rw [decide_eq_false (fun h=>by injection h with _ _ h; have:=congrArg List.length h; simp at this),zbp] at sx;have sy:=ZK W0 ⟨bs,ls,up⟩ ⟨bs,ls++[[],[],[],[],[]],up⟩;rw [decide_eq_false (fun h=>by injection h with _ h _; have:=congrArg List.length h; simp at this),Yx] at sy;refine dEr ?_;repeat ((first|refine c0 q1 rfl ?_|refine c0 q2 rfl ?_|refine c0 q3 rfl ?_|refine c0 q4 rfl ?_|refine c0 q5 rfl ?_|refine c0 q6 rfl ?_|refine c0 q7 rfl ?_|refine oB (by simp; omega) ?_|refine oB (by simp) ?_|refine oB (by decide) ?_|refine oB (by intro v hv; simp at hv; subst hv; rfl) ?_|refine c0 qx rfl ?_|refine c0 qy rfl ?_|refine c0 qz rfl ?_|refine c0 sx rfl ?_|refine c0 sy rfl ?_|apply xiT|apply xiF|apply xbT|apply xbF|refine xiN ?_|refine xiM ?_|refine xbN ?_|refine xbM ?_|apply xeT|apply xeF|refine c0 (zbx W0 _ _ rfl) rfl ?_|refine c0 (zbv W0 _ _ rfl) rfl ?_|refine c0 (zbw W0 _ _ rfl) rfl ?_); first|refine dEr ?_|exact dz)
  rfl

theorem zjN {P:Program} {f:FuncId} {fn:Func} {s:ChangeSpec} {c:OpenClaim}
  (h1:(c.wf (OpenSpec.ofChange s))=true)
  (h2:(laidOutB P)=true)
  (h3:(mapsRowed P)=true)
  (h4:(fn.params.all (P.readableRec ·))=true)
  (h5:(namedTie P c.named s.vars)=true)
  (h6:((c.stops==[]))=true)
  (h7:((P.stops==[]))=true)
  (h8:((c.knobs==[]))=true)
  (h9:((P.stopKnobs==[]))=true)
  (h10:((c.inPlace==P.inPlace f))=true)
  (h11:((c.unfollowed==P.unfollowed f))=true)
  (h12:((c.recurses==P.recurses f))=true)
  (h13:((c.named==P.varsNamed f))=true)
  (h14:((c.maps==(fn.params.toList++s.plain.varTypes P).any (P.mapsRec ·)))=true)
  (h15:((c.ifaces==(fn.params.toList++s.plain.varTypes P).any (P.ifacesRec ·)))=true)
  (h16:((c.mapsOut==P.mapsAmong fn.resultTypes.toList))=true)
  (h17:((c.loops==(fn.params.toList++s.plain.varTypes P).any (P.loopsFrom ·)))=true)
  (h18:((c.wideKeys==(fn.params.toList++s.plain.varTypes P++fn.resultTypes.toList).any (P.wideKeysFrom ·)))=true)
  (h19:(s.vars.all (P.varReadable ·))=true)
  (h20:(fn.resultTypes.all (fun t=>P.readableRec t&&decide (t < P.types.size)))=true)
  (h21:((c.ifacesOut==fn.resultTypes.toList.any (P.ifacesRec ·)))=true)
  (h22:((c.loopsOut==fn.resultTypes.toList.any (P.loopsFrom ·)))=true)
  (h23:((c.plainKeys==P.plainKeys))=true)
  (h24:(c.shortTexts.isNone)=true)
  (h25:(P.stopsHeard)=true)
  (h26:(P.mayEnter)=true)
  (h27:((c.lifted==P.liftsFinal))=true)
  (h28:((P.make==some c.make))=true)
  (h29:(c.kinds==[])=true)
  (h30:((c.pinned==c.pinnedBy))=true)
  (h31:((c.veiled==(fn.params.toList++s.plain.varTypes P++fn.resultTypes.toList).any (P.veiledRec ·)))=true)
  (h32:(c.veiledFits P fn.params.toList (fn.params.toList++s.plain.varTypes P++fn.resultTypes.toList))=true)
  (h0:c.domain.isEmpty=true):joinedFacts P f fn s c=true:=by
 unfold joinedFacts;rw [h0,if_pos rfl];rw [h1,h2,h3,h4,h5,h6,h7,h8,h9,h10,h11,h12,h13,h14,h15,h16,h17,h18,h19,h20,h21,h22,h23,h24,h25,h26,h27,h28,h29,h30,h31,h32];rfl
end Go.Proofs.YtmkmldepkponaaaGreatDoor
