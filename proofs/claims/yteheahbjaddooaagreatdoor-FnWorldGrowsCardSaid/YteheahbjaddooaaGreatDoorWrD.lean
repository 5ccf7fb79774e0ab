/- The texts Pb3, Pb8, Pb9, Pb4, Bm2, Pb5, Pb6, Pb7, Db1, Pc1, Pd1, Qb2, Db2, Db3, Dc1, Pd2, Pd3, Qb3, Qb4, Pd4, Pd5, Pd6, Pd7, joined; no condition. -/
import Derived.Test.YteheahbjaddooaaGreatDoorWrC

namespace Go.Proofs.YteheahbjaddooaaGreatDoor
set_option linter.unusedSimpArgs false
set_option linter.unusedVariables false
open Go Go.RowKit
def zfy:XC:=(.s (.r [.ex 3 (.box 1),.ex 4 (.asn (.k .nil) 3 39)]) (.s (.r [.ex 7 .bsl0,.a1 5 7 3 39]) (.s (.r [.m1 6 (.i 0)]) (.s (.blk 0 (.loop (.s (.s (.d [.mv 8 6,.mv 9 0,.n1 10 9,.b1 11 .lss 8 10,.mv 12 11,.gt 13 (.mv 0) 12,.gt 14 (.mv 6) 12,.gt 15 (.ia 3 13 14) 12,.gt 16 (.fa 0 15) 12,.gt 17 (.ld false 1 16) 12,.gt 18 (.fa 0 3) 12,.gt 19 (.ld false 1 18) 12,.gt 20 (.bin .lss 17 19) 12,.ex 21 (.pick 12 20 .n)]) (.cnd 21 .skip (.exit 0))) (.blk 1 (.s (.r [.mv 22 5,.mv 23 0,.mv 24 6,.i1 25 3 23 24,.l2 26 3 25,.ex 27 (.bsl 3 39 [26]),.ex 28 (.app false 3 40 39 22 27),.a1 5 28 3 39]) (.r [.mv 29 6,.b1 30 .add 29 (.i 1),.mv 6 30])))))) (.s (.r [.mv 31 5,.l2 32 3 3,.ex 33 (.bsl 3 39 [32]),.ex 34 (.app false 3 40 39 31 33),.a1 5 34 3 39]) (.s (.s (.d [.mv 35 6,.mv 36 0,.n1 37 36,.b1 38 .lss 35 37,.mv 39 38,.gt 40 (.mv 0) 39,.gt 41 (.mv 6) 39,.gt 42 (.ia 3 40 41) 39,.gt 43 (.fa 0 42) 39,.gt 44 (.ld false 1 43) 39,.gt 45 (.fa 0 3) 39,.gt 46 (.ld false 1 45) 39,.gt 47 (.bin .eql 44 46) 39,.ex 48 (.pick 39 47 .n)]) (.cnd 48 (.r [.mv 49 6,.b1 50 .add 49 (.i 1),.mv 6 50]) .skip)) (.s (.r [.mv 51 5,.mv 52 0,.mv 53 6,.ex 54 (.slr 3 52 (.some 53) .none),.ex 55 (.app false 3 40 39 51 54),.a1 4 55 3 39]) .ret)))))))
theorem zmP:zc Tryz.prog [] 178=some (zfy.ac,[(.t 4)],56):=by kernel_rfl
theorem Jo (W0:World) (t:List Ent) (e:Ent) (ht:t.length≤1000000):Fn Tryz.prog W0 178 [za t,eEnt e] (.c (za (put t e))) []:=by
 refine fnX (c:=zfy) mixed zmP (by simp) rfl fun hg=>?_
 refine dr ?_;refine lp (σ:=Nat) (fun k=>[(0,.c (za t)),(3,.ptr 48 0),(5,.own 80 k),(6,I k)]) (fun k=>[(48,.box [.c (CS e.path),(.c (CB e.dir)),.c (CS e.data)]),(80,.row ((t.take k).map eEnt) 3 39)]) (fun k=>k≤t.length∧(t.take k).all (fun x=>ltS x.path e.path)=true) (fun k=>t.length - k) 0 ⟨by simp,by simp⟩ ?_ ?_
 ·refine dr ?_;trivial
 rintro k ⟨hk,ha⟩;refine dr ?_;apply cP<;>intro h1
 ·have hk':k < t.length:=by omega
  refine dr ?_;apply cP<;>intro h2
  ·refine dr ?_;repeat ((first | refine oB (by simp; omega) ?_ | refine oB (by simp) ?_); first | refine dr ?_ | exact dz)
   refine ⟨k+1,⟨by omega,yh hk' ha h2⟩,by omega,?_⟩;refine dr ?_;repeat ((first | refine oB (by simp; omega) ?_ | refine oB (tmn hk') ?_); first | refine dr ?_ | exact dz)
   trivial
  ·refine dr ?_;repeat ((first | refine oB (by simp; omega) ?_ | refine oB (by simp) ?_); first | refine dr ?_ | exact dz)
   apply cP<;>intro h3;rotate_left
   ·omega
   refine dr ?_;apply cP<;>intro h4
   ·refine dr ?_;repeat ((first | refine sLoM (k+1) (by omega) (by omega) ?_ | refine oB (by simp; omega) ?_ | refine oB (by simp) ?_); first | refine dr ?_ | exact dz)
    show _=za (z7 _ t e);rw [zjp hk' ha h2 h4]; simp [za]; rfl
   ·refine dr ?_;repeat ((first | refine sLoM k (by omega) (by omega) ?_ | refine oB (by simp; omega) ?_ | refine oB (by simp) ?_); first | refine dr ?_ | exact dz)
    show _=za (z7 _ t e);rw [zjs hk' ha h2 h4]; simp [za]; rfl
 ·refine dr ?_;repeat ((first | refine oB (by simp; omega) ?_ | refine oB (by simp) ?_); first | refine dr ?_ | exact dz)
  apply cP<;>intro h3
  ·omega
  refine dr ?_;repeat ((first | refine sLoM k (by omega) (by omega) ?_ | refine oB (by simp; omega) ?_ | refine oB (by simp) ?_); first | refine dr ?_ | exact dz)
  show _=za (z7 _ t e);rw [zjr (by omega) ha];have:k=t.length:=by omega
  simp [za,this]; rfl
def zfO:XC:=(.s (.r [.ex 3 (.box 1),.ex 4 (.asn (.k .nil) 3 133)]) (.s (.r [.ex 7 .bsl0,.a1 5 7 3 133]) (.s (.r [.m1 6 (.i 0)]) (.s (.blk 0 (.loop (.s (.s (.d [.mv 8 6,.mv 9 0,.n1 10 9,.b1 11 .lss 8 10,.mv 12 11,.gt 13 (.mv 0) 12,.gt 14 (.mv 6) 12,.gt 15 (.ia 3 13 14) 12,.gt 16 (.fa 0 15) 12,.gt 17 (.ld false 1 16) 12,.gt 18 (.fa 0 3) 12,.gt 19 (.ld false 1 18) 12,.gt 20 (.bin .lss 17 19) 12,.ex 21 (.pick 12 20 .n)]) (.cnd 21 .skip (.exit 0))) (.blk 1 (.s (.r [.mv 22 5,.mv 23 0,.mv 24 6,.i1 25 3 23 24,.l2 26 3 25,.ex 27 (.bsl 3 133 [26]),.ex 28 (.app false 3 40 133 22 27),.a1 5 28 3 133]) (.r [.mv 29 6,.b1 30 .add 29 (.i 1),.mv 6 30])))))) (.s (.r [.mv 31 5,.l2 32 3 3,.ex 33 (.bsl 3 133 [32]),.ex 34 (.app false 3 40 133 31 33),.a1 5 34 3 133]) (.s (.s (.d [.mv 35 6,.mv 36 0,.n1 37 36,.b1 38 .lss 35 37,.mv 39 38,.gt 40 (.mv 0) 39,.gt 41 (.mv 6) 39,.gt 42 (.ia 3 40 41) 39,.gt 43 (.fa 0 42) 39,.gt 44 (.ld false 1 43) 39,.gt 45 (.fa 0 3) 39,.gt 46 (.ld false 1 45) 39,.gt 47 (.bin .eql 44 46) 39,.ex 48 (.pick 39 47 .n)]) (.cnd 48 (.r [.mv 49 6,.b1 50 .add 49 (.i 1),.mv 6 50]) .skip)) (.s (.r [.mv 51 5,.mv 52 0,.mv 53 6,.ex 54 (.slr 3 52 (.some 53) .none),.ex 55 (.app false 3 40 133 51 54),.a1 4 55 3 133]) .ret)))))))
theorem zm4:zc Tryz.prog [] 125=some (zfO.ac,[(.t 4)],56):=by kernel_rfl
theorem Jp (W0:World) (t:List Mark) (e:Mark) (ht:t.length≤1000000):Fn Tryz.prog W0 125 [ze t,qh e] (.c (ze (jE t e))) []:=by
 refine fnX (c:=zfO) mixed zm4 (by simp) rfl fun hg=>?_
 refine dr ?_;refine lp (σ:=Nat) (fun k=>[(0,.c (ze t)),(3,.ptr 48 0),(5,.own 80 k),(6,I k)]) (fun k=>[(48,.box [.c (CS e.path),(I e.kind),.c (CS e.data)]),(80,.row ((t.take k).map qh) 3 133)]) (fun k=>k≤t.length∧(t.take k).all (fun x=>ltS x.path e.path)=true) (fun k=>t.length - k) 0 ⟨by simp,by simp⟩ ?_ ?_
 ·refine dr ?_;trivial
 rintro k ⟨hk,ha⟩;refine dr ?_;apply cP<;>intro h1
 ·have hk':k < t.length:=by omega
  refine dr ?_;apply cP<;>intro h2
  ·refine dr ?_;repeat ((first | refine oB (by simp; omega) ?_ | refine oB (by simp) ?_); first | refine dr ?_ | exact dz)
   refine ⟨k+1,⟨by omega,yh hk' ha h2⟩,by omega,?_⟩;refine dr ?_;repeat ((first | refine oB (by simp; omega) ?_ | refine oB (tmn hk') ?_); first | refine dr ?_ | exact dz)
   trivial
  ·refine dr ?_;repeat ((first | refine oB (by simp; omega) ?_ | refine oB (by simp) ?_); first | refine dr ?_ | exact dz)
   apply cP<;>intro h3;rotate_left
   ·omega
   refine dr ?_;apply cP<;>intro h4
   ·refine dr ?_;repeat ((first | refine sLoM (k+1) (by omega) (by omega) ?_ | refine oB (by simp; omega) ?_ | refine oB (by simp) ?_); first | refine dr ?_ | exact dz)
    show _=ze (z7 _ t e);rw [zjp hk' ha h2 h4]; simp [ze]; rfl
   ·refine dr ?_;repeat ((first | refine sLoM k (by omega) (by omega) ?_ | refine oB (by simp; omega) ?_ | refine oB (by simp) ?_); first | refine dr ?_ | exact dz)
    show _=ze (z7 _ t e);rw [zjs hk' ha h2 h4]; simp [ze]; rfl
 ·refine dr ?_;repeat ((first | refine oB (by simp; omega) ?_ | refine oB (by simp) ?_); first | refine dr ?_ | exact dz)
  apply cP<;>intro h3
  ·omega
  refine dr ?_;repeat ((first | refine sLoM k (by omega) (by omega) ?_ | refine oB (by simp; omega) ?_ | refine oB (by simp) ?_); first | refine dr ?_ | exact dz)
  show _=ze (z7 _ t e);rw [zjr (by omega) ha];have:k=t.length:=by omega
  simp [ze,this]; rfl
def zfC:XC:=(.s (.r [.ex 4 (.asn (.k .nil) 1 9)]) (.s (.r [.mv 13 0,.a1 5 13 3 39]) (.s (.s (.r [.m1 6 (.i 0)]) (.blk 0 (.loop (.s (.s (.r [.mv 14 6,.mv 15 1,.n1 16 15,.b1 17 .lss 14 16]) (.cnd 17 .skip (.exit 0))) (.s (.blk 1 (.r [.mv 20 5,.mv 21 1,.mv 22 6,.i1 23 3 21 22,.l2 24 3 23,.c1 25 178 [20,24],.a1 5 25 3 39])) (.r [.mv 18 6,.b1 19 .add 18 (.i 1),.mv 6 19])))))) (.s (.r [.ex 26 .bsl0,.a1 7 26 1 9]) (.s (.s (.r [.m1 8 (.i 0)]) (.blk 2 (.loop (.s (.s (.r [.mv 27 8,.mv 28 5,.n1 29 28,.b1 30 .lss 27 29]) (.cnd 30 .skip (.exit 2))) (.s (.blk 3 (.s (.r [.mv 34 0,.mv 35 5,.mv 36 8,.i1 37 3 35 36,.f1 38 0 37,.l1 39 1 38,.c1 40 121 [34,39],.mv 33 40,.e1 41 33 0,.e1 42 33 1,.ex 9 (.alloc [sE,(B false),sE]),.s1 3 9 41,.mv 10 42]) (.s (.r [.mv 44 1,.mv 45 5,.mv 46 8,.i1 47 3 45 46,.f1 48 0 47,.l1 49 1 48,.c1 50 121 [44,49],.mv 43 50,.e1 51 43 0,.e1 52 43 1,.ex 11 (.alloc [sE,(B false),sE]),.s1 3 11 51,.mv 12 52]) (.s (.r [.mv 53 10,.mv 54 12,.ex 55 (.bb true 53 54),.mv 56 55,.gf 57 (.ld true 3 9) 56,.gf 58 (.ld true 3 11) 56,.gf 59 (.beq true [.s,.b,.s] 57 58) 56,.ex 60 (.pick 56 .y 59)]) (.cnd 60 (.r [.mv 61 7,.mv 62 5,.mv 63 8,.i1 64 3 62 63,.f1 65 0 64,.l1 66 1 65,.ex 67 (.bsl 1 9 [66]),.ex 68 (.app false 1 16 9 61 67),.a1 7 68 1 9]) .skip))))) (.r [.mv 31 8,.b1 32 .add 31 (.i 1),.mv 8 32])))))) (.s (.r [.mv 69 7,.a1 4 69 1 9]) .ret))))))
theorem zmS:zc Tryz.prog [] 120=some (zfC.ac,[(.t 4)],70):=by kernel_rfl
theorem zhl (W0:World) (a b:List Ent) (ht:a.length+b.length≤1000000):Fn Tryz.prog W0 120 [za a,za b] (.c (js (z8 a b))) []:=by
 refine fnX (c:=zfC) mixed zmS (by simp) rfl fun hg=>?_
 refine dr ?_;refine lp (σ:=Nat) (fun k=>[(0,.c (za a)),(1,.c (za b)),(5,.c (za ((b.take k).foldl put a))),(6,I k)]) (fun _=>[]) (fun k=>k≤b.length) (fun k=>b.length - k) 0 (by simp) ?_ ?_
 ·refine dr ?_;trivial
 intro k hk;have hlk:((b.take k).foldl put a).length≤a.length+b.length:=zqf b a k;refine dr ?_;apply cP<;>intro h1
 ·have hk':k < b.length:=by omega
  refine dr ?_;repeat (refine c0 (Jo W0 _ _ (by omega)) rfl ?_; first | refine dr ?_ | exact dz)
  intro hg1;refine dr ?_;refine ⟨k+1,by omega,by omega,?_⟩;refine dr ?_;repeat (refine oB (by rw [qX hk']) ?_; first | refine dr ?_ | exact dz)
  trivial
 have hkl:k=b.length:=by omega
 subst hkl;rw [List.take_length] at hlk ⊢;have hB:b.foldl put a=both a b:=rfl;rw [hB] at hlk ⊢;generalize hBB:both a b=B at *;refine dr ?_;refine lp (σ:=Nat) (fun k=>[(0,.c (za a)),(1,.c (za b)),(5,.c (za B)),(8,I k),(7,.own 112 ((B.take k).filter (tudP a b)).length)]) (fun k=>[(112,.row (((B.take k).filter (tudP a b)).map fun e=>CS e.path) 1 9)]) (fun k=>k≤B.length) (fun k=>B.length - k) 0 (by simp) ?_ ?_
 ·refine dr ?_;trivial
 intro k hk;have hfl:=zhI (q:=tudP a b) (l:=B) (k:=k);refine dr ?_;apply cP<;>intro h2
 ·have hk':k < B.length:=by omega
  refine dr ?_;repeat ((first | refine c0 (yM W0 _ _) rfl ?_ | rw [qL]); first | refine dr ?_ | exact dz)
  intro hg1;refine dr ?_;repeat ((first | refine c0 (yM W0 _ _) rfl ?_ | rw [qL]); first | refine dr ?_ | exact dz)
  intro hg1;refine dr ?_;have hq:tudP a b B[k]=!(decide ((get a B[k].path).isSome=(get b B[k].path).isSome)&&decide ((get a B[k].path).getD noE=(get b B[k].path).getD noE)):=by
   rw [tudP,Bool.eq_iff_iff]; simp [zsj (d:=noE)]
  apply cP<;>intro h3
  ·refine dr ?_;repeat ((first | refine oB (by simp; omega) ?_ | refine oB (by simp) ?_); first | refine dr ?_ | exact dz)
   have hT:tudP a b B[k]=true:=by rw [hq]; simp [h3]
   refine ⟨k+1,by omega,by omega,?_⟩;refine dr ?_;repeat (refine oB (by rw [qF hk' hT]; simp) ?_; first | refine dr ?_ | exact dz)
   trivial
  ·refine dr ?_;apply cP<;>intro h4
   ·refine dr ?_;repeat ((first | refine oB (by simp; omega) ?_ | refine oB (by simp) ?_); first | refine dr ?_ | exact dz)
    have hT:tudP a b B[k]=true:=by rw [hq,← Jf,h4]; simp
    refine ⟨k+1,by omega,by omega,?_⟩;refine dr ?_;repeat (refine oB (by rw [qF hk' hT]; simp) ?_; first | refine dr ?_ | exact dz)
    trivial
   ·refine dr ?_;have hT:tudP a b B[k]=false:=by rw [hq,← Jf,h4]; simp [h3]
    refine ⟨k+1,by omega,by omega,?_⟩;refine dr ?_;repeat (refine oB (by rw [qr hk' hT]) ?_; first | refine dr ?_ | exact dz)
    trivial
 have hkl:k=B.length:=by omega
 refine dr ?_;repeat (refine oB (by simp) ?_; first | refine dr ?_ | exact dz)
 rw [z8,hBB,hkl,List.take_length];simp [js]

def zeY:XC:=(.s (.r [.ex 1 (.box 0),.m1 2 .n]) (.s (.s (.r [.f1 3 0 1,.l1 4 1 3,.b1 5 .lss 4 (.i 1),.mv 6 5,.gf 7 (.fa 0 1) 6,.gf 8 (.ld false 1 7) 6,.gf 9 (.bin .gtr 8 (.i 5)) 6,.ex 10 (.pick 6 .y 9),.mv 11 10,.gf 12 (.fa 1 1) 11,.gf 13 (.ld false 1 12) 11,.gf 14 (.call 106 [13]) 11,.gf 15 (.un .not 14) 11,.ex 16 (.pick 11 .y 15)]) (.cnd 16 (.s (.r [.m1 2 .n]) .ret) .skip)) (.s (.s (.r [.f1 17 0 1,.l1 18 1 17,.b1 19 .eql 18 (.i 5)]) (.cnd 19 (.s (.r [.f1 20 2 1,.l1 21 1 20,.c1 22 106 [21],.mv 23 22,.gt 24 (.fa 3 1) 23,.gt 25 (.ld false 1 24) 23,.gt 26 (.bin .eql 25 (.s [])) 23,.ex 27 (.pick 23 26 .n),.mv 2 27]) .ret) .skip)) (.s (.r [.f1 28 2 1,.l1 29 1 28,.ex 30 (.bin .eql 29 (.s [])),.mv 31 30,.gt 32 (.fa 3 1) 31,.gt 33 (.ld false 1 32) 31,.gt 34 (.call 177 [33]) 31,.ex 35 (.pick 31 34 .n),.mv 36 35,.gt 37 (.fa 0 1) 36,.gt 38 (.ld false 1 37) 36,.gt 39 (.bin .eql 38 (.i 2)) 36,.gt 40 (.mv 39) 36,.gf 41 (.fa 3 1) 40,.gf 42 (.ld false 1 41) 40,.gf 43 (.bin .eql 42 (.s [])) 40,.gt 44 (.pick 40 .y 43) 36,.ex 45 (.pick 36 44 .n),.mv 2 45]) .ret))))
theorem zme:zc Tryz.prog [] 165=some (zeY.ac,[(.t 2)],46):=by kernel_rfl
theorem zpW (W0:World) (op:Op):Fn Tryz.prog W0 165 [eOp op] (.c (CB (zP op))) []:=by
 refine fnX (c:=zeY) mixed zme (by simp) rfl fun hg=>?_
 refine dr ?_;apply cP<;>intro h1
 ·refine dr ?_;exact bF (by simp [zP]; omega)
 refine dr ?_;apply cP<;>intro h2
 ·refine dr ?_;exact bF (by simp [zP]; omega)
 refine dr ?_;repeat (refine c0 (qE W0 _) rfl ?_; first | refine dr ?_ | exact dz)
 apply cP<;>intro h3
 ·refine dr ?_;exact bF (by simp [zP,h3])
 have hk:(decide (1≤op.kind)&&decide (op.kind≤5))=true:=by simp; omega
 refine dr ?_;apply cP<;>intro h4
 ·refine dEr ?_;repeat (refine c0 (qE W0 _) rfl ?_; first | refine dEr ?_ | exact dz)
  have e:zP op=(pOk op.dest&&op.data==[]):=by rw [zP,hk,h3,if_pos h4]<;>rfl
  rw [e];apply cP<;>intro h5
  ·refine dr ?_;refine congrArg CB ?_;rw [Bool.eq_iff_iff]; simp [h5,qq]
  ·refine dr ?_;exact bF (by simp [h5])
 have e:zP op=(op.dest==[]&&(qp op.data&&(op.kind==2||op.data==[]))):=by rw [zP,hk,h3,if_neg h4]<;>rfl
 rw [e];refine dr ?_;apply cP<;>intro h5
 ·refine dEr ?_;repeat (refine c0 (zbH W0 _) rfl ?_; first | refine dEr ?_ | exact dz)
  apply cP<;>intro h6
  ·refine dr ?_;apply cP<;>intro h7
   ·refine dr ?_;exact bT (by simp [h5,h6,h7])
   ·refine dr ?_;refine congrArg CB ?_;rw [Bool.eq_iff_iff]; simp [h5,h6,h7,qq]
  ·refine dr ?_;exact bF (by simp [h6])
 ·refine dr ?_;exact bF (by simp [h5])
def zfr:XC:=(.s (.r [.ex 4 (.asn (.k .nil) 1 9)]) (.s (.r [.ex 7 .bsl0,.a1 5 7 1 9]) (.s (.s (.r [.m1 6 (.i 0)]) (.blk 0 (.loop (.s (.s (.r [.mv 8 6,.mv 9 0,.n1 10 9,.b1 11 .lss 8 10]) (.cnd 11 .skip (.exit 0))) (.s (.blk 1 (.s (.r [.mv 14 0,.mv 15 6,.i1 16 3 14 15,.f1 17 0 16,.l1 18 1 17,.c1 19 123 [18],.mv 20 1,.b1 21 .eql 19 20]) (.cnd 21 (.r [.mv 22 5,.mv 23 0,.mv 24 6,.i1 25 3 23 24,.f1 26 0 25,.l1 27 1 26,.c1 28 257 [27],.ex 29 (.bsl 1 9 [28]),.ex 30 (.app false 1 16 9 22 29),.a1 5 30 1 9]) .skip))) (.r [.mv 12 6,.b1 13 .add 12 (.i 1),.mv 6 13])))))) (.s (.r [.mv 31 5,.a1 4 31 1 9]) .ret))))
theorem zmH:zc Tryz.prog [] 237=some (zfr.ac,[(.t 4)],32):=by kernel_rfl
theorem zbI (W0:World) (t:List Ent) (p:Str) (ht:t.length≤1000000):Fn Tryz.prog W0 237 [za t,CS p] (.c (js (kids t p))) []:=by
 refine fnX (c:=zfr) mixed zmH (by simp) rfl fun hg=>?_
 refine dr ?_;refine lp2 (fun (k:Nat) (out:List Ent)=>[(0,.c (za t)),(1,.c (CS p)),(5,.own 80 out.length),(6,I k)]) (fun _ out=>[(80,.row (out.map fun e=>CS (JA e.path)) 1 9)]) (fun k out=>k≤t.length∧out=(t.take k).filter (fun e=>pUp e.path==p)∧out.length≤k) (fun k _=>t.length - k) 0 [] ⟨by simp,rfl,by simp⟩ ?_ ?_
 ·refine dr ?_;trivial
 rintro k out ⟨hk,ho,hle⟩;refine dr ?_;apply cP<;>intro h1
 ·have hk':k < t.length:=by omega
  refine dEr ?_;repeat (refine c0 (y7 W0 _) rfl ?_; first | refine dEr ?_ | exact dz)
  apply cP<;>intro h2
  ·refine dEr ?_;repeat ((first | refine c0 (zp0 W0 _) rfl ?_ | refine oB (by simp; omega) ?_ | refine oB (by simp) ?_); first | refine dEr ?_ | exact dz)
   refine ⟨k+1,out++[t[k]],⟨by omega,by rw [qF hk' (by simp [h2]),ho],by simp; omega⟩,by omega,?_⟩;refine dr ?_;repeat (refine oB (by simp<;>rfl) ?_; first | refine dr ?_ | exact dz)
   trivial
  ·refine dr ?_;refine ⟨k+1,out,⟨by omega,by rw [qr hk' (by simp [h2]),ho],by omega⟩,by omega,?_⟩;refine dr ?_;trivial
 have hkl:k=t.length:=by omega
 rw [hkl,List.take_length] at ho;refine dr ?_;repeat (refine oB (by simp) ?_; first | refine dr ?_ | exact dz)
 rw [kids,← ho]; simp [js]
def zfD:XC:=(.s (.r [.m1 4 (.i 0)]) (.s (.r [.mv 8 0,.mv 9 1,.c1 10 123 [9],.c1 11 121 [8,10],.mv 7 11,.e1 12 7 0,.e1 13 7 1,.ex 5 (.alloc [sE,(B false),sE]),.s1 3 5 12,.mv 6 13]) (.s (.blk 0 (.s (.r [.mv 15 6,.ex 16 (.un .not 15),.mv 14 16]) (.cnd 14 (.s (.r [.m1 4 (.i 2)]) .ret) (.s (.r [.f1 18 1 5,.l1 19 1 18,.ex 20 (.un .not 19),.mv 17 20]) (.cnd 17 (.s (.r [.m1 4 (.i 3)]) .ret) .skip))))) (.s (.r [.m1 4 (.i 0)]) .ret))))
theorem zmT:zc Tryz.prog [] 234=some (zfD.ac,[(.t 4)],21):=by kernel_rfl
theorem zhm (W0:World) (t:List Ent) (p:Str):Fn Tryz.prog W0 234 [za t,CS p] (.c (CI (upC t p))) []:=by
 refine fnX (c:=zfD) mixed zmT (by simp) rfl fun hg=>?_
 have hc:=yM W0 t (pUp p);cases hx:get t (pUp p) with
 | none =>
  rw [hx] at hc;refine dEr ?_;repeat ((first | refine c0 (y7 W0 _) rfl ?_ | refine c0 hc rfl ?_); first | refine dEr ?_ | exact dz)
  rw [upC,hx]<;>rfl
 | some e =>
  rw [hx] at hc;refine dEr ?_;repeat ((first | refine c0 (y7 W0 _) rfl ?_ | refine c0 hc rfl ?_); first | refine dEr ?_ | exact dz)
  apply cP<;>intro h1
  ·refine dr ?_;rw [upC,hx]; exact congrArg CI (by simp [h1])
  ·refine dr ?_;rw [upC,hx]; exact congrArg CI (by simp [h1])
def zfu:XC:=(.s (.r [.m1 4 (.i 0)]) (.s (.r [.mv 8 0,.mv 9 1,.c1 10 234 [8,9],.mv 5 10]) (.s (.r [.mv 12 0,.mv 13 1,.c1 14 121 [12,13],.mv 11 14,.e1 15 11 0,.e1 16 11 1,.ex 6 (.alloc [sE,(B false),sE]),.s1 3 6 15,.mv 7 16]) (.s (.blk 0 (.s (.r [.mv 18 5,.b1 19 .neq 18 (.i 0),.mv 17 19]) (.cnd 17 (.s (.r [.mv 20 5,.mv 4 20]) .ret) (.s (.r [.mv 22 7,.mv 21 22]) (.cnd 21 (.s (.r [.m1 4 (.i 4)]) .ret) (.s (.r [.mv 24 0,.n1 25 24,.b1 26 .geq 25 (.i 16),.mv 23 26]) (.cnd 23 (.s (.r [.m1 4 (.i 8)]) .ret) .skip))))))) (.s (.r [.m1 4 (.i 0)]) .ret)))))
theorem zmK:zc Tryz.prog [] 199=some (zfu.ac,[(.t 4)],27):=by kernel_rfl
theorem zhj (W0:World) (t:List Ent) (p:Str):Fn Tryz.prog W0 199 [za t,CS p] (.c (CI (newC t p))) []:=by
 refine fnX (c:=zfu) mixed zmK (by simp) rfl fun hg=>?_
 have hc:=yM W0 t p;rw [qL] at hc;refine dEr ?_;repeat ((first | refine c0 (zhm W0 _ _) rfl ?_ | refine c0 hc rfl ?_); first | refine dEr ?_ | exact dz)
 apply cP<;>intro h1
 ·refine dr ?_;rw [newC,if_pos h1]
 have h1':¬ upC t p≠0:=fun h=>h h1
 refine dr ?_;apply cP<;>intro h2
 ·refine dr ?_;rw [newC,if_neg h1',if_pos h2]<;>rfl
 have h2':¬ (get t p).isSome=true:=by simp [h2]
 refine dr ?_;apply cP<;>intro h3
 ·refine dr ?_;rw [newC,if_neg h1',if_neg h2',if_pos (by omega)]<;>rfl
 ·refine dr ?_;rw [newC,if_neg h1',if_neg h2',if_neg (by omega)]<;>rfl
def zfz:XC:=(.s (.r [.m1 4 (.i 0)]) (.s (.r [.mv 8 0,.mv 9 1,.c1 10 199 [8,9],.mv 5 10]) (.s (.r [.mv 12 0,.mv 13 1,.c1 14 121 [12,13],.mv 11 14,.e1 15 11 0,.e1 16 11 1,.ex 6 (.alloc [sE,(B false),sE]),.s1 3 6 15,.mv 7 16]) (.s (.s (.r [.mv 17 5,.b1 18 .eql 17 (.i 4),.mv 19 18,.gt 20 (.fa 1 6) 19,.gt 21 (.ld false 1 20) 19,.ex 22 (.pick 19 21 .n)]) (.cnd 22 (.s (.r [.m1 4 (.i 5)]) .ret) .skip)) (.s (.s (.r [.mv 23 5,.b1 24 .eql 23 (.i 4)]) (.cnd 24 (.s (.r [.m1 4 (.i 0)]) .ret) .skip)) (.s (.r [.mv 25 5,.mv 4 25]) .ret))))))
theorem zmO:zc Tryz.prog [] 200=some (zfz.ac,[(.t 4)],26):=by kernel_rfl
theorem zo9 (W0:World) (t:List Ent) (p:Str):Fn Tryz.prog W0 200 [za t,CS p] (.c (CI (putC t p))) []:=by
 refine fnX (c:=zfz) mixed zmO (by simp) rfl fun hg=>?_
 have hc:=yM W0 t p;rw [qL] at hc;refine dEr ?_;repeat ((first | refine c0 (zhj W0 _ _) rfl ?_ | refine c0 hc rfl ?_); first | refine dEr ?_ | exact dz)
 apply cP<;>intro h1
 ·refine dr ?_;apply cP<;>intro h2
  ·refine dr ?_;rw [putC,if_pos h1,if_pos h2]<;>rfl
  ·refine dr ?_;apply cP<;>intro h3
   ·refine dr ?_;rw [putC,if_pos h1,if_neg (by simp [h2])]<;>rfl
   ·exact absurd h1 h3
 ·refine dr ?_;apply cP<;>intro h3
  ·exact absurd h3 h1
  ·refine dr ?_;rw [putC,if_neg h1]
def zfw:XC:=(.s (.r [.ex 3 (.box 1),.m1 4 (.i 0)]) (.s (.r [.mv 8 0,.f1 9 1 3,.l1 10 1 9,.c1 11 121 [8,10],.mv 7 11,.e1 12 7 0,.e1 13 7 1,.ex 5 (.alloc [sE,(B false),sE]),.s1 3 5 12,.mv 6 13]) (.s (.blk 0 (.s (.r [.mv 15 6,.ex 16 (.un .not 15),.mv 14 16]) (.cnd 14 (.s (.r [.m1 4 (.i 2)]) .ret) (.s (.r [.f1 18 0 3,.l1 19 1 18,.b1 20 .eql 19 (.i 3),.mv 21 20,.gt 22 (.fa 1 5) 21,.gt 23 (.ld false 1 22) 21,.ex 24 (.pick 21 23 .n),.mv 17 24]) (.cnd 17 (.s (.r [.m1 4 (.i 5)]) .ret) (.s (.r [.f1 26 0 3,.l1 27 1 26,.b1 28 .eql 27 (.i 4),.mv 29 28,.gt 30 (.fa 1 5) 29,.gt 31 (.ld false 1 30) 29,.gt 32 (.un .not 31) 29,.ex 33 (.pick 29 32 .n),.mv 25 33]) (.cnd 25 (.s (.r [.m1 4 (.i 3)]) .ret) (.s (.r [.mv 35 0,.f1 36 1 3,.l1 37 1 36,.c1 38 237 [35,37],.n1 39 38,.b1 40 .gtr 39 (.i 0),.mv 34 40]) (.cnd 34 (.s (.r [.m1 4 (.i 6)]) .ret) .skip))))))))) (.s (.r [.m1 4 (.i 0)]) .ret))))
theorem zmL:zc Tryz.prog [] 202=some (zfw.ac,[(.t 4)],41):=by kernel_rfl
theorem zo8 (W0:World) (t:List Ent) (op:Op) (ht:t.length≤1000000):Fn Tryz.prog W0 202 [za t,eOp op] (.c (CI (offC t op))) []:=by
 refine fnX (c:=zfw) mixed zmL (by simp) rfl fun hg=>?_
 have hc:=yM W0 t op.path;cases hx:get t op.path with
 | none =>
  rw [hx] at hc;refine dEr ?_;repeat (refine c0 hc rfl ?_; first | refine dEr ?_ | exact dz)
  rw [offC,hx]<;>rfl
 | some e =>
  rw [hx] at hc;have e0:offC t op=if op.kind=3∧e.dir=true then 5 else if op.kind=4∧e.dir=false then 3 else if 0 < (kids t op.path).length then 6 else 0:=by rw [offC,hx]
  rw [e0];have rest:∀ {A:Prop},A→A:=fun a=>a
  refine dEr ?_;repeat (refine c0 hc rfl ?_; first | refine dEr ?_ | exact dz)
  apply cP<;>intro h1
  ·refine dr ?_;apply cP<;>intro h2
   ·refine dr ?_;rw [if_pos ⟨h1,h2⟩]<;>rfl
   ·have n1:¬ (op.kind=3∧e.dir=true):=by simp [h2]
    have n2:¬ (op.kind=4∧e.dir=false):=by omega
    rw [if_neg n1,if_neg n2];refine dr ?_;apply cP<;>intro h3
    ·omega
    ·refine dEr ?_;repeat (refine c0 (zbI W0 _ _ ht) rfl ?_; first | refine dEr ?_ | exact dz)
     apply cP<;>intro h4
     ·refine dr ?_;rw [if_pos (by omega)]<;>rfl
     ·refine dr ?_;rw [if_neg (by omega)]<;>rfl
  ·have n1:¬ (op.kind=3∧e.dir=true):=fun h=>h1 h.1
   rw [if_neg n1];refine dr ?_;apply cP<;>intro h3
   ·refine dr ?_;apply cP<;>intro h2
    ·refine dr ?_;rw [if_pos ⟨h3,by simpa using h2⟩]<;>rfl
    ·rw [if_neg (fun h=>by rw [h.2] at h2; simp at h2)];refine dEr ?_;repeat (refine c0 (zbI W0 _ _ ht) rfl ?_; first | refine dEr ?_ | exact dz)
     apply cP<;>intro h4
     ·refine dr ?_;rw [if_pos (by omega)]<;>rfl
     ·refine dr ?_;rw [if_neg (by omega)]<;>rfl
   ·rw [if_neg (fun h=>h3 h.1)];refine dEr ?_;repeat (refine c0 (zbI W0 _ _ ht) rfl ?_; first | refine dEr ?_ | exact dz)
    apply cP<;>intro h4
    ·refine dr ?_;rw [if_pos (by omega)]<;>rfl
    ·refine dr ?_;rw [if_neg (by omega)]<;>rfl
def zft:XC:=(.s (.r [.ex 3 (.box 1),.m1 4 (.i 0)]) (.s (.r [.mv 14 0,.f1 15 1 3,.l1 16 1 15,.c1 17 121 [14,16],.mv 13 17,.e1 18 13 0,.e1 19 13 1,.ex 5 (.alloc [sE,(B false),sE]),.s1 3 5 18,.mv 6 19]) (.s (.r [.mv 20 0,.f1 21 2 3,.l1 22 1 21,.c1 23 234 [20,22],.mv 7 23]) (.s (.r [.mv 25 0,.f1 26 2 3,.l1 27 1 26,.c1 28 121 [25,27],.mv 24 28,.e1 29 24 0,.e1 30 24 1,.ex 8 (.alloc [sE,(B false),sE]),.s1 3 8 29,.mv 9 30]) (.s (.blk 0 (.s (.r [.mv 32 6,.ex 33 (.un .not 32),.mv 31 33]) (.cnd 31 (.s (.r [.m1 4 (.i 2)]) .ret) (.s (.r [.mv 35 7,.b1 36 .neq 35 (.i 0),.mv 34 36]) (.cnd 34 (.s (.r [.mv 37 7,.mv 4 37]) .ret) (.s (.r [.mv 39 9,.mv 38 39]) (.cnd 38 (.s (.r [.m1 4 (.i 4)]) .ret) (.s (.r [.f1 41 2 3,.l1 42 1 41,.f1 43 1 3,.l1 44 1 43,.c1 45 235 [42,44],.mv 40 45]) (.cnd 40 (.s (.r [.m1 4 (.i 7)]) .ret) .skip))))))))) (.s (.s (.r [.m1 10 (.i 0)]) (.blk 1 (.loop (.s (.s (.r [.mv 46 10,.mv 47 0,.n1 48 47,.b1 49 .lss 46 48]) (.cnd 49 .skip (.exit 1))) (.s (.blk 2 (.s (.d [.mv 53 0,.mv 54 10,.i1 55 3 53 54,.f1 56 0 55,.l1 57 1 56,.f1 58 1 3,.l1 59 1 58,.f1 60 2 3,.l1 61 1 60,.c1 62 236 [57,59,61],.mv 52 62,.e1 63 52 0,.e1 64 52 1,.mv 11 63,.mv 12 64]) (.s (.r [.mv 65 12,.ex 66 (.un .not 65)]) (.cnd 66 (.s (.r [.m1 4 (.i 8)]) .ret) .skip)))) (.r [.mv 50 10,.b1 51 .add 50 (.i 1),.mv 10 51])))))) (.s (.r [.m1 4 (.i 0)]) .ret)))))))
theorem zmI:zc Tryz.prog [] 201=some (zft.ac,[(.t 4)],67):=by kernel_rfl
theorem zo6 (W0:World) (t:List Ent) (op:Op) (ht:t.length≤1000000):Fn Tryz.prog W0 201 [za t,eOp op] (.c (CI (movC t op))) []:=by
 refine fnX (c:=zft) mixed zmI (by simp) rfl fun hg=>?_
 have hc:=yM W0 t op.path;rw [qL] at hc;have hc2:=yM W0 t op.dest;rw [qL] at hc2;refine dEr ?_;repeat ((first | refine c0 hc rfl ?_ | refine c0 hc2 rfl ?_ | refine c0 (zhm W0 _ _) rfl ?_); first | refine dEr ?_ | exact dz)
 apply cP<;>intro h1;rotate_left
 ·have h1':(get t op.path).isSome=true:=by simpa using h1
  refine dr ?_;apply cP<;>intro h2
  ·refine dr ?_;rw [movC,if_neg (by simp [h1']),if_pos h2]
  have h2':¬ upC t op.dest≠0:=fun h=>h h2
  refine dr ?_;apply cP<;>intro h3
  ·refine dr ?_;rw [movC,if_neg (by simp [h1']),if_neg h2',if_pos h3]<;>rfl
  refine dEr ?_;repeat (refine c0 (Y2 W0 _ _) rfl ?_; first | refine dEr ?_ | exact dz)
  apply cP<;>intro h4
  ·refine dr ?_;rw [movC,if_neg (by simp [h1']),if_neg h2',if_neg (by simp [h3]),if_pos h4]<;>rfl
  have e:movC t op=if t.all (fun e=>(jq e.path op.path op.dest).isSome)=true then 0 else 8:=by rw [movC,if_neg (by simp [h1']),if_neg h2',if_neg (by simp [h3]),if_neg (by simp [h4])]
  rw [e];refine dr ?_;refine lp (σ:=Nat) (fun k=>[(0,.c (za t)),(3,.ptr 48 0),(10,I k)]) (fun _=>[(48,.box [.c (CI op.kind),.c (CS op.path),.c (CS op.dest),.c (CS op.data)])]) (fun k=>k≤t.length∧(t.take k).all (fun e=>(jq e.path op.path op.dest).isSome)=true) (fun k=>t.length - k) 0 ⟨by simp,by simp⟩ ?_ ?_
  ·refine dr ?_;trivial
  rintro k ⟨hk,ha⟩;refine dr ?_;apply cP<;>intro h5
  ·have hk':k < t.length:=by omega
   have hp:=zhB W0 t[k].path op.path op.dest;rw [YS] at hp;refine dEr ?_;repeat (refine c0 hp rfl ?_; first | refine dEr ?_ | exact dz)
   apply cP<;>intro h6
   ·refine dr ?_;rw [if_neg (by rw [Je hk' (by simpa using h6)]; simp)]<;>rfl
   ·refine dr ?_;refine ⟨k+1,⟨by omega,yh hk' ha (by simpa using h6)⟩,by omega,?_⟩;refine dr ?_;trivial
  ·have hkl:k=t.length:=by omega
   rw [hkl,List.take_length] at ha;refine dr ?_;rw [if_pos ha]<;>rfl
 ·refine dr ?_;rw [movC,if_pos (by simpa using h1)]<;>rfl
def zfl:XC:=(.s (.r [.ex 3 (.box 1),.m1 4 (.i 0)]) (.s (.s (.r [.f1 5 0 3,.l1 6 1 5]) (.blk 0 (.s (.r [.b1 8 .eql 6 (.i 1),.mv 7 8]) (.cnd 7 (.s (.r [.mv 9 0,.f1 10 1 3,.l1 11 1 10,.c1 12 199 [9,11],.mv 4 12]) .ret) (.s (.r [.b1 14 .eql 6 (.i 2),.mv 13 14]) (.cnd 13 (.s (.r [.mv 15 0,.f1 16 1 3,.l1 17 1 16,.c1 18 200 [15,17],.mv 4 18]) .ret) (.s (.r [.b1 20 .eql 6 (.i 5),.mv 19 20]) (.cnd 19 (.s (.r [.mv 21 0,.l2 22 4 3,.c1 23 201 [21,22],.mv 4 23]) .ret) .skip)))))))) (.s (.r [.mv 24 0,.l2 25 4 3,.c1 26 202 [24,25],.mv 4 26]) .ret)))
theorem zmB:zc Tryz.prog [] 166=some (zfl.ac,[(.t 4)],27):=by kernel_rfl
theorem zo3 (W0:World) (t:List Ent) (op:Op) (ht:t.length≤1000000):Fn Tryz.prog W0 166 [za t,eOp op] (.c (CI (jS t op))) []:=by
 refine fnX (c:=zfl) mixed zmB (by simp) rfl fun hg=>?_
 refine dr ?_;apply cP<;>intro h1
 ·refine dEr ?_;repeat (refine c0 (zhj W0 _ _) rfl ?_; first | refine dEr ?_ | exact dz)
  rw [jS,if_pos h1]
 refine dr ?_;apply cP<;>intro h2
 ·refine dEr ?_;repeat (refine c0 (zo9 W0 _ _) rfl ?_; first | refine dEr ?_ | exact dz)
  rw [jS,if_neg h1,if_pos h2]
 refine dr ?_;apply cP<;>intro h3
 ·refine dEr ?_;repeat (refine c0 (zo6 W0 _ op ht) rfl ?_; first | refine dEr ?_ | exact dz)
  rw [jS,if_neg h1,if_neg h2,if_pos h3]
 refine dEr ?_;repeat (refine c0 (zo8 W0 _ op ht) rfl ?_; first | refine dEr ?_ | exact dz)
 rw [jS,if_neg h1,if_neg h2,if_neg h3]

def zfv:XC:=(.s (.r [.ex 4 (.asn (.k .nil) 3 39)]) (.s (.r [.ex 7 .bsl0,.a1 5 7 3 39]) (.s (.s (.r [.m1 6 (.i 0)]) (.blk 0 (.loop (.s (.s (.r [.mv 8 6,.mv 9 0,.n1 10 9,.b1 11 .lss 8 10]) (.cnd 11 .skip (.exit 0))) (.s (.blk 1 (.s (.r [.mv 14 0,.mv 15 6,.i1 16 3 14 15,.f1 17 0 16,.l1 18 1 17,.mv 19 1,.b1 20 .neq 18 19]) (.cnd 20 (.r [.mv 21 5,.mv 22 0,.mv 23 6,.i1 24 3 22 23,.l2 25 3 24,.ex 26 (.bsl 3 39 [25]),.ex 27 (.app false 3 40 39 21 26),.a1 5 27 3 39]) .skip))) (.r [.mv 12 6,.b1 13 .add 12 (.i 1),.mv 6 13])))))) (.s (.r [.mv 28 5,.a1 4 28 3 39]) .ret))))
theorem zmM:zc Tryz.prog [] 204=some (zfv.ac,[(.t 4)],29):=by kernel_rfl
theorem zo7 (W0:World) (t:List Ent) (p:Str) (ht:t.length≤1000000):Fn Tryz.prog W0 204 [za t,CS p] (.c (za (offT t p))) []:=by
 refine fnX (c:=zfv) mixed zmM (by simp) rfl fun hg=>?_
 refine dr ?_;refine lp2 (fun (k:Nat) (out:List Ent)=>[(0,.c (za t)),(1,.c (CS p)),(5,.own 80 out.length),(6,I k)]) (fun _ out=>[(80,.row (out.map eEnt) 3 39)]) (fun k out=>k≤t.length∧out=(t.take k).filter (fun e=>e.path != p)∧out.length≤k) (fun k _=>t.length - k) 0 [] ⟨by simp,rfl,by simp⟩ ?_ ?_
 ·refine dr ?_;trivial
 rintro k out ⟨hk,ho,hle⟩;refine dr ?_;apply cP<;>intro h1
 ·have hk':k < t.length:=by omega
  refine dr ?_;apply cP<;>intro h2
  ·refine dr ?_;repeat ((first | refine oB (by simp; omega) ?_ | refine oB (by simp) ?_); first | refine dr ?_ | exact dz)
   refine ⟨k+1,out++[t[k]],⟨by omega,by rw [qF hk' (by simp [h2]),ho],by simp; omega⟩,by omega,?_⟩;refine dr ?_;repeat (refine oB (by simp<;>rfl) ?_; first | refine dr ?_ | exact dz)
   trivial
  ·refine dr ?_;refine ⟨k+1,out,⟨by omega,by rw [qr hk' (by simp [h2]),ho],by omega⟩,by omega,?_⟩;refine dr ?_;trivial
 have hkl:k=t.length:=by omega
 rw [hkl,List.take_length] at ho;refine dr ?_;repeat (refine oB (by simp) ?_; first | refine dr ?_ | exact dz)
 rw [offT,← ho]<;>rfl
def zfs:XC:=(.s (.r [.ex 6 (.asn (.k .nil) 3 39)]) (.s (.r [.ex 10 .bsl0,.a1 7 10 3 39]) (.s (.s (.r [.m1 8 (.i 0)]) (.blk 0 (.loop (.s (.s (.r [.mv 11 8,.mv 12 0,.n1 13 12,.b1 14 .lss 11 13]) (.cnd 14 .skip (.exit 0))) (.s (.blk 1 (.s (.r [.mv 17 0,.mv 18 8,.i1 19 3 17 18,.l2 20 3 19,.ex 9 (.alloc [sE,(B false),sE]),.s1 3 9 20]) (.s (.r [.f1 22 0 9,.l1 23 1 22,.mv 24 1,.mv 25 2,.c1 26 236 [23,24,25],.mv 21 26,.e1 27 21 0,.e1 28 21 1,.f1 29 0 9,.s1 1 29 27]) (.r [.mv 30 7,.l2 31 3 9,.c1 32 178 [30,31],.a1 7 32 3 39])))) (.r [.mv 15 8,.b1 16 .add 15 (.i 1),.mv 8 16])))))) (.s (.r [.mv 33 7,.a1 6 33 3 39]) .ret))))
theorem zmJ:zc Tryz.prog [] 203=some (zfs.ac,[(.t 6)],34):=by kernel_rfl
theorem zo5 (W0:World) (t:List Ent) (f to:Str) (ht:t.length≤1000000):Fn Tryz.prog W0 203 [za t,CS f,CS to] (.c (za (movT t f to))) []:=by
 refine fnX (c:=zfs) mixed zmJ (by simp) rfl fun hg=>?_
 refine dr ?_;refine lz2 112 (fun (k:Nat) (out:List Ent)=>[(0,.c (za t)),(1,.c (CS f)),(2,.c (CS to)),(7,.c (za out)),(8,I k)]) (fun _ _=>[]) (fun k out=>k≤t.length∧out=(t.take k).foldl (fun out e=>put out (ji f to e)) []∧out.length≤k) (fun k _=>t.length - k) 0 [] ⟨by simp,rfl,by simp⟩ ?_ ?_
 ·refine dr ?_;trivial
 rintro k out ⟨hk,ho,hle⟩;refine dr ?_;apply cP<;>intro h1
 ·have hk':k < t.length:=by omega
  have hn:(t.take (k+1)).foldl (fun out e=>put out (ji f to e)) []=put out (ji f to t[k]):=by rw [qX hk',← ho]
  have hpl:(put out (ji f to t[k])).length≤out.length+1:=qQ;have hp:=zhB W0 t[k].path f to;rw [YS] at hp;refine dEr ?_;repeat ((first | refine c0 hp rfl ?_ | refine c0 (Jo W0 _ (ji f to t[k]) (by omega)) rfl ?_); first | refine dEr ?_ | exact dz)
  refine ⟨k+1,_,⟨by omega,hn.symm,by omega⟩,by omega,?_⟩;refine dr ?_;trivial
 have hkl:k=t.length:=by omega
 rw [hkl,List.take_length] at ho;refine dr ?_;rw [movT,← ho]
def zfo:XC:=(.s (.r [.ex 3 (.box 1),.ex 4 (.asn (.k .nil) 3 39)]) (.s (.s (.r [.f1 5 0 3,.l1 6 1 5]) (.blk 0 (.s (.r [.b1 8 .eql 6 (.i 1),.mv 7 8]) (.cnd 7 (.s (.r [.mv 9 0,.f1 10 1 3,.l1 11 1 10,.ex 12 (.build [sE,(B false),sE] [(0,(1,11)),(1,(1,.y))]),.c1 13 178 [9,12],.a1 4 13 3 39]) .ret) (.s (.r [.b1 15 .eql 6 (.i 2),.mv 14 15]) (.cnd 14 (.s (.r [.mv 16 0,.f1 17 1 3,.l1 18 1 17,.f1 19 3 3,.l1 20 1 19,.ex 21 (.build [sE,(B false),sE] [(0,(1,18)),(2,(1,20))]),.c1 22 178 [16,21],.a1 4 22 3 39]) .ret) (.s (.r [.b1 24 .eql 6 (.i 5),.mv 23 24]) (.cnd 23 (.s (.r [.mv 25 0,.f1 26 1 3,.l1 27 1 26,.f1 28 2 3,.l1 29 1 28,.c1 30 203 [25,27,29],.a1 4 30 3 39]) .ret) .skip)))))))) (.s (.r [.mv 31 0,.f1 32 1 3,.l1 33 1 32,.c1 34 204 [31,33],.a1 4 34 3 39]) .ret)))
theorem zmE:zc Tryz.prog [] 167=some (zfo.ac,[(.t 4)],35):=by kernel_rfl
theorem zo4 (W0:World) (t:List Ent) (op:Op) (ht:t.length≤100000):Fn Tryz.prog W0 167 [za t,eOp op] (.c (za (doT t op))) []:=by
 refine fnX (c:=zfo) mixed zmE (by simp) rfl fun hg=>?_
 refine dr ?_;apply cP<;>intro h1
 ·refine dEr ?_;repeat (refine c0 (Jo W0 _ ⟨op.path,true,[]⟩ (by omega)) rfl ?_; first | refine dEr ?_ | exact dz)
  rw [doT,if_pos h1]
 refine dr ?_;apply cP<;>intro h2
 ·refine dEr ?_;repeat (refine c0 (Jo W0 _ ⟨op.path,false,op.data⟩ (by omega)) rfl ?_; first | refine dEr ?_ | exact dz)
  rw [doT,if_neg h1,if_pos h2]
 refine dr ?_;apply cP<;>intro h3
 ·refine dEr ?_;repeat (refine c0 (zo5 W0 _ _ _ (by omega)) rfl ?_; first | refine dEr ?_ | exact dz)
  rw [doT,if_neg h1,if_neg h2,if_pos h3]
 refine dEr ?_;repeat (refine c0 (zo7 W0 _ _ (by omega)) rfl ?_; first | refine dEr ?_ | exact dz)
 rw [doT,if_neg h1,if_neg h2,if_neg h3]
def ze8:XC:=(.s (.r [.ex 3 (.box 1),.ex 4 (.asn (.k .nil) 3 39),.m1 5 (.i 0)]) (.s (.s (.r [.mv 7 0,.c1 8 119 [7],.ex 9 (.un .not 8)]) (.cnd 9 (.s (.r [.ex 10 .bsl0,.a1 4 10 3 39,.m1 5 (.i 1)]) .ret) .skip)) (.s (.s (.r [.l2 11 4 3,.c1 12 165 [11],.ex 13 (.un .not 12)]) (.cnd 13 (.s (.r [.ex 14 .bsl0,.mv 15 0,.ex 16 (.app true 3 40 39 14 15),.a1 4 16 3 39,.m1 5 (.i 1)]) .ret) .skip)) (.s (.r [.mv 17 0,.l2 18 4 3,.c1 19 166 [17,18],.mv 6 19]) (.s (.s (.r [.mv 20 6,.b1 21 .neq 20 (.i 0)]) (.cnd 21 (.s (.r [.ex 22 .bsl0,.mv 23 0,.ex 24 (.app true 3 40 39 22 23),.mv 25 6,.a1 4 24 3 39,.mv 5 25]) .ret) .skip)) (.s (.r [.mv 26 0,.l2 27 4 3,.c1 28 167 [26,27],.mv 29 6,.a1 4 28 3 39,.mv 5 29]) .ret))))))
theorem zmo:zc Tryz.prog [] 107=some (ze8.ac,[(.t 4),(.t 5)],30):=by kernel_rfl
theorem J4 (W0:World) (t:List Ent) (op:Op):Fn Tryz.prog W0 107 [za t,eOp op] (.c (eTD (zE t op))) []:=by
 refine fnX (c:=ze8) mixed zmo (by simp) rfl fun hg=>?_
 refine dEr ?_;repeat (refine c0 (zbM W0 _) rfl ?_; first | refine dEr ?_ | exact dz)
 apply cP<;>intro h1
 ·refine dr ?_;repeat (refine oB (by simp) ?_; first | refine dr ?_ | exact dz)
  rw [zE,if_neg (by simp [h1])]<;>rfl
 have hl:=(yt h1).1;rw [zE,if_pos h1];refine dEr ?_;repeat (refine c0 (zpW W0 op) rfl ?_; first | refine dEr ?_ | exact dz)
 apply cP<;>intro h2
 ·refine dr ?_;repeat ((first | refine oB (by simp; omega) ?_ | refine oB (by simp) ?_); first | refine dr ?_ | exact dz)
  rw [if_neg (by simp [h2])]<;>rfl
 rw [if_pos h2];refine dEr ?_;repeat (refine c0 (zo3 W0 t op (by omega)) rfl ?_; first | refine dEr ?_ | exact dz)
 apply cP<;>intro h3
 ·refine dr ?_;repeat ((first | refine oB (by simp; omega) ?_ | refine oB (by simp) ?_); first | refine dr ?_ | exact dz)
  rw [if_neg h3]<;>rfl
 ·refine dEr ?_;repeat (refine c0 (zo4 W0 t op (by omega)) rfl ?_; first | refine dEr ?_ | exact dz)
  rw [if_pos h3,h3]<;>rfl

def zfH:XC:=(.s (.r [.m1 4 (.i 0)]) (.s (.s (.r [.m1 5 (.i 0)]) (.blk 0 (.loop (.s (.s (.r [.mv 6 5,.mv 7 0,.n1 8 7,.b1 9 .lss 6 8]) (.cnd 9 .skip (.exit 0))) (.s (.blk 1 (.s (.r [.mv 12 0,.mv 13 5,.i1 14 3 12 13,.f1 15 0 14,.l1 16 1 15,.mv 17 1,.b1 18 .eql 16 17]) (.cnd 18 (.s (.r [.mv 19 5,.mv 4 19]) .ret) .skip))) (.r [.mv 10 5,.b1 11 .add 10 (.i 1),.mv 5 11])))))) (.s (.r [.ex 4 (.mv (.k (.c (.sc (.int .i64 (.negSucc 0))))))]) .ret)))
theorem zmX:zc Tryz.prog [] 214=some (zfH.ac,[(.t 4)],20):=by kernel_rfl
theorem zpc (W0:World) (t:List Mark) (p:Str):Fn Tryz.prog W0 214 [ze t,CS p] (.c (CI (midx t p))) []:=by
 refine fnX (c:=zfH) mixed zmX (by simp) rfl fun hg=>?_
 have g1:=zZ (hg _ (by simp:ze t∈_));refine dr ?_;refine lp (σ:=Nat) (fun k=>[(0,.c (ze t)),(1,.c (CS p)),(5,I k)]) (fun _=>[]) (fun k=>k≤t.length∧∀ i (h':i < t.length),i < k→t[i].path≠p) (fun k=>t.length - k) 0 ⟨by simp,by simp⟩ ?_ ?_
 ·refine dr ?_;trivial
 rintro k ⟨hk,ha⟩;refine dr ?_;apply cP<;>intro h1
 ·refine dr ?_;apply cP<;>intro h2
  ·refine dr ?_;rw [zrc (by omega) h2 ha]
  ·refine dr ?_;refine ⟨k+1,⟨by omega,fun i h' hi=>?_⟩,by omega,?_⟩
   ·by_cases e:i=k
    ·subst e; exact h2
    ·exact ha i h' (by omega)
   ·refine dr ?_;trivial
 ·refine dr ?_;rw [zrd fun i h'=>ha i h' (by omega)]; rfl
def zfL:XC:=(.s (.r [.m1 4 (.i 0)]) (.s (.r [.mv 6 0,.mv 7 1,.c1 8 214 [6,7],.mv 5 8]) (.s (.s (.r [.mv 9 5,.b1 10 .lss 9 (.i 0)]) (.cnd 10 (.s (.r [.m1 4 (.i 0)]) .ret) .skip)) (.s (.r [.mv 11 0,.mv 12 5,.i1 13 3 11 12,.f1 14 1 13,.l1 15 1 14,.mv 4 15]) .ret))))
theorem zm1:zc Tryz.prog [] 181=some (zfL.ac,[(.t 4)],16):=by kernel_rfl
theorem Y5 (W0:World) (t:List Mark) (p:Str):Fn Tryz.prog W0 181 [ze t,CS p] (.c (CI (kind t p))) []:=by
 refine fnX (c:=zfL) mixed zm1 (by simp) rfl fun hg=>?_
 refine dr ?_;repeat (refine c0 (zpc W0 t p) rfl ?_; first | refine dr ?_ | exact dz)
 intro hg1;rcases zct t p with ⟨e1,e2,_⟩ | ⟨j,hj,e1,e2,_⟩
 ·rw [kind,e1,e2];refine dr ?_;apply cP<;>intro h2
  ·exact dz
  ·omega
 ·rw [kind,e1,e2];refine dr ?_;apply cP<;>intro h2
  ·omega
  ·exact dz
def zfE:XC:=(.s (.r [.m1 4 .n]) (.s (.s (.r [.m1 5 (.i 0)]) (.blk 0 (.loop (.s (.s (.r [.mv 6 5,.mv 7 0,.n1 8 7,.b1 9 .lss 6 8]) (.cnd 9 .skip (.exit 0))) (.s (.blk 1 (.s (.r [.mv 12 0,.mv 13 5,.i1 14 3 12 13,.f1 15 1 14,.l1 16 1 15,.b1 17 .eql 16 (.i 4),.mv 18 17,.gt 19 (.mv 1) 18,.gt 20 (.mv 0) 18,.gt 21 (.mv 5) 18,.gt 22 (.ia 3 20 21) 18,.gt 23 (.fa 0 22) 18,.gt 24 (.ld false 1 23) 18,.gt 25 (.call 235 [19,24]) 18,.ex 26 (.pick 18 25 .n)]) (.cnd 26 (.s (.r [.m1 4 .y]) .ret) .skip))) (.r [.mv 10 5,.b1 11 .add 10 (.i 1),.mv 5 11])))))) (.s (.r [.m1 4 .n]) .ret)))
theorem zmU:zc Tryz.prog [] 206=some (zfE.ac,[(.t 4)],27):=by kernel_rfl
theorem QX (W0:World) (t:List Mark) (p:Str):Fn Tryz.prog W0 206 [ze t,CS p] (.c (CB (ja t p))) []:=by
 refine fnX (c:=zfE) mixed zmU (by simp) rfl fun hg=>?_
 have g1:=zZ (hg _ (by simp:ze t∈_));refine dr ?_;refine lp (σ:=Nat) (fun k=>[(0,.c (ze t)),(1,.c (CS p)),(5,I k)]) (fun _=>[]) (fun k=>k≤t.length∧ja (t.take k) p=false) (fun k=>t.length - k) 0 ⟨by simp,by simp [ja]⟩ ?_ ?_
 ·refine dr ?_;trivial
 rintro k ⟨hk,ha⟩;refine dr ?_;apply cP<;>intro h1
 ·have hk':k < t.length:=by omega
  have no:(t[k].kind==4&&und p t[k].path)=false→ja (t.take (k+1)) p=false:=fun h=>by
   rw [ja] at ha ⊢;rw [List.take_succ_eq_append_getElem hk',List.any_append,ha]; simpa using h
  have yes:(t[k].kind==4&&und p t[k].path)=true→CB true=CB (ja t p):=fun h=>bT (by
   rw [ja,List.any_eq_true]; exact ⟨t[k],List.getElem_mem hk',h⟩)
  refine dr ?_;apply cP<;>intro h2
  ·refine dEr ?_;repeat (refine c0 (Y2 W0 _ _) rfl ?_; first | refine dEr ?_ | exact dz)
   apply cP<;>intro h3
   ·refine dr ?_;exact yes (by simp [h2,h3])
   ·refine dr ?_;refine ⟨k+1,⟨by omega,no (by simp [h3])⟩,by omega,?_⟩;refine dr ?_;trivial
  ·refine dr ?_;refine ⟨k+1,⟨by omega,no (by simp [h2])⟩,by omega,?_⟩;refine dr ?_;trivial
 ·refine dr ?_;have:k=t.length:=by omega
  subst this;rw [List.take_length] at ha;rw [ha]
def zfJ:XC:=(.s (.r [.m1 4 .n]) (.s (.r [.mv 7 1,.c1 8 123 [7],.mv 5 8]) (.s (.r [.mv 9 0,.mv 10 5,.c1 11 181 [9,10],.mv 6 11]) (.s (.r [.mv 12 5,.ex 13 (.bin .eql 12 (.s [47])),.mv 14 13,.gf 15 (.mv 6) 14,.gf 16 (.bin .eql 15 (.i 2)) 14,.ex 17 (.pick 14 .y 16),.mv 18 17,.gf 19 (.mv 6) 18,.gf 20 (.bin .eql 19 (.i 4)) 18,.ex 21 (.pick 18 .y 20),.mv 4 21]) .ret))))
theorem zmZ:zc Tryz.prog [] 205=some (zfJ.ac,[(.t 4)],22):=by kernel_rfl
theorem Y4 (W0:World) (t:List Mark) (p:Str):Fn Tryz.prog W0 205 [ze t,CS p] (.c (CB (inD t p))) []:=by
 refine fnX (c:=zfJ) mixed zmZ (by simp) rfl fun hg=>?_
 refine dr ?_;repeat (refine c0 (y7 W0 _) rfl ?_; first | refine dr ?_ | exact dz)
 intro hg1;refine dr ?_;repeat (refine c0 (Y5 W0 _ _) rfl ?_; first | refine dr ?_ | exact dz)
 intro hg1;refine dr ?_;apply cP<;>intro h1
 ·refine dr ?_;exact bT (by simp [inD,h1])
 ·refine dr ?_;apply cP<;>intro h2
  ·refine dr ?_;exact bT (by simp [inD,h2])
  ·refine dr ?_;refine congrArg CB ?_;rw [Bool.eq_iff_iff]; simp [inD,h1,h2,y4]
def zfI:XC:=(.s (.r [.m1 4 .n]) (.s (.s (.r [.m1 5 (.i 0)]) (.blk 0 (.loop (.s (.s (.r [.mv 6 5,.mv 7 0,.n1 8 7,.b1 9 .lss 6 8]) (.cnd 9 .skip (.exit 0))) (.s (.blk 1 (.s (.r [.mv 12 0,.mv 13 5,.i1 14 3 12 13,.f1 15 0 14,.l1 16 1 15,.mv 17 1,.b1 18 .eql 16 17,.mv 19 18,.gt 20 (.mv 0) 19,.gt 21 (.mv 5) 19,.gt 22 (.ia 3 20 21) 19,.gt 23 (.fa 1 22) 19,.gt 24 (.ld false 1 23) 19,.gt 25 (.bin .neq 24 (.i 2)) 19,.ex 26 (.pick 19 25 .n),.mv 27 26,.gf 28 (.mv 0) 27,.gf 29 (.mv 5) 27,.gf 30 (.ia 3 28 29) 27,.gf 31 (.fa 1 30) 27,.gf 32 (.ld false 1 31) 27,.gf 33 (.bin .neq 32 (.i 2)) 27,.gf 34 (.mv 33) 27,.gt 35 (.mv 1) 34,.gt 36 (.mv 0) 34,.gt 37 (.mv 5) 34,.gt 38 (.ia 3 36 37) 34,.gt 39 (.fa 0 38) 34,.gt 40 (.ld false 1 39) 34,.gt 41 (.call 235 [35,40]) 34,.gf 42 (.pick 34 41 .n) 27,.ex 43 (.pick 27 .y 42)]) (.cnd 43 (.s (.r [.m1 4 .y]) .ret) .skip))) (.r [.mv 10 5,.b1 11 .add 10 (.i 1),.mv 5 11])))))) (.s (.r [.m1 4 .n]) .ret)))
theorem zmY:zc Tryz.prog [] 207=some (zfI.ac,[(.t 4)],44):=by kernel_rfl
theorem zho (W0:World) (t:List Mark) (p:Str):Fn Tryz.prog W0 207 [ze t,CS p] (.c (CB (zJ t p))) []:=by
 refine fnX (c:=zfI) mixed zmY (by simp) rfl fun hg=>?_
 have g1:=zZ (hg _ (by simp:ze t∈_));refine dr ?_;refine lp (σ:=Nat) (fun k=>[(0,.c (ze t)),(1,.c (CS p)),(5,I k)]) (fun _=>[]) (fun k=>k≤t.length∧zJ (t.take k) p=false) (fun k=>t.length - k) 0 ⟨by simp,by simp [zJ]⟩ ?_ ?_
 ·refine dr ?_;trivial
 rintro k ⟨hk,ha⟩;refine dr ?_;apply cP<;>intro h1
 ·have hk':k < t.length:=by omega
  have no:hidP p t[k]=false→zJ (t.take (k+1)) p=false:=fun h=>by
   rw [zJ] at ha ⊢;rw [List.take_succ_eq_append_getElem hk',List.any_append,ha]; simpa using h
  have yes:hidP p t[k]=true→CB true=CB (zJ t p):=fun h=>bT (by
   rw [zJ,List.any_eq_true]; exact ⟨t[k],List.getElem_mem hk',h⟩)
  refine dr ?_;have nx:hidP p t[k]=false→∃ x',(x'≤t.length∧zJ (t.take x') p=false)∧x'=k+1:=fun h=>⟨k+1,⟨by omega,no h⟩,rfl⟩
  apply cP<;>intro h2
  ·refine dr ?_;apply cP<;>intro h3
   ·refine dr ?_;exact yes (by simp [hidP,h2,h3])
   ·refine dr ?_;apply cP<;>intro h4
    ·omega
    ·refine dr ?_;refine ⟨k+1,⟨by omega,no (by simp [hidP,h3])⟩,by omega,?_⟩;refine dr ?_;trivial
  ·refine dr ?_;apply cP<;>intro h3
   ·refine dEr ?_;repeat (refine c0 (Y2 W0 _ _) rfl ?_; first | refine dEr ?_ | exact dz)
    apply cP<;>intro h5
    ·refine dr ?_;exact yes (by simp [hidP,h3,h5])
    ·refine dr ?_;refine ⟨k+1,⟨by omega,no (by simp [hidP,h2,h5])⟩,by omega,?_⟩;refine dr ?_;trivial
   ·refine dr ?_;refine ⟨k+1,⟨by omega,no (by simp [hidP,h3])⟩,by omega,?_⟩;refine dr ?_;trivial
 ·refine dr ?_;have:k=t.length:=by omega
  subst this;rw [List.take_length] at ha;rw [ha]
def zeV:XC:=(.s (.r [.m1 2 .n]) (.s (.s (.r [.m1 3 (.i 0)]) (.blk 0 (.loop (.s (.s (.r [.mv 5 3,.mv 6 0,.n1 7 6,.b1 8 .lss 5 7]) (.cnd 8 .skip (.exit 0))) (.s (.blk 1 (.s (.r [.mv 11 0,.mv 12 3,.i1 13 3 11 12,.l2 14 3 13,.ex 4 (.alloc [sE,(I 0),sE]),.s1 3 4 14]) (.s (.s (.r [.f1 15 1 4,.l1 16 1 15,.b1 17 .lss 16 (.i 1),.mv 18 17,.gf 19 (.fa 1 4) 18,.gf 20 (.ld false 1 19) 18,.gf 21 (.bin .gtr 20 (.i 4)) 18,.ex 22 (.pick 18 .y 21),.mv 23 22,.gf 24 (.fa 0 4) 23,.gf 25 (.ld false 1 24) 23,.gf 26 (.call 106 [25]) 23,.gf 27 (.un .not 26) 23,.ex 28 (.pick 23 .y 27),.mv 29 28,.gf 30 (.fa 2 4) 29,.gf 31 (.ld false 1 30) 29,.gf 32 (.call 177 [31]) 29,.gf 33 (.un .not 32) 29,.ex 34 (.pick 29 .y 33),.mv 35 34,.gf 36 (.fa 1 4) 35,.gf 37 (.ld false 1 36) 35,.gf 38 (.bin .neq 37 (.i 1)) 35,.gf 39 (.mv 38) 35,.gt 40 (.fa 2 4) 39,.gt 41 (.ld false 1 40) 39,.gt 42 (.bin .neq 41 (.s [])) 39,.gf 43 (.pick 39 42 .n) 35,.ex 44 (.pick 35 .y 43)]) (.cnd 44 (.s (.r [.m1 2 .n]) .ret) .skip)) (.s (.s (.d [.mv 45 3,.b1 46 .gtr 45 (.i 0),.mv 47 46,.gt 48 (.mv 0) 47,.gt 49 (.mv 3) 47,.gt 50 (.bin .sub 49 (.i 1)) 47,.gt 51 (.ia 3 48 50) 47,.gt 52 (.fa 0 51) 47,.gt 53 (.ld false 1 52) 47,.gt 54 (.fa 0 4) 47,.gt 55 (.ld false 1 54) 47,.gt 56 (.bin .geq 53 55) 47,.ex 57 (.pick 47 56 .n),.mv 58 57,.gf 59 (.mv 0) 58,.gf 60 (.mv 3) 58,.gf 61 (.slr 3 59 .none (.some 60)) 58,.gf 62 (.fa 0 4) 58,.gf 63 (.ld false 1 62) 58,.gf 64 (.call 205 [61,63]) 58,.gf 65 (.un .not 64) 58,.ex 66 (.pick 58 .y 65)]) (.cnd 66 (.s (.r [.m1 2 .n]) .ret) .skip)) (.s (.d [.f1 67 1 4,.l1 68 1 67,.b1 69 .gtr 68 (.i 2),.mv 70 69,.gt 71 (.mv 0) 70,.gt 72 (.mv 3) 70,.gt 73 (.slr 3 71 .none (.some 72)) 70,.gt 74 (.fa 0 4) 70,.gt 75 (.ld false 1 74) 70,.gt 76 (.call 206 [73,75]) 70,.ex 77 (.pick 70 76 .n)]) (.cnd 77 (.s (.r [.m1 2 .n]) .ret) .skip)))))) (.r [.mv 9 3,.b1 10 .add 9 (.i 1),.mv 3 10])))))) (.s (.r [.mv 78 0,.n1 79 78,.b1 80 .leq 79 (.i 32),.mv 2 80]) .ret)))
theorem zmb:zc Tryz.prog [] 171=some (zeV.ac,[(.t 2)],81):=by kernel_rfl
theorem QY (W0:World) (t:List Mark):Fn Tryz.prog W0 171 [ze t] (.c (CB (lOk t))) []:=by
 refine fnX (c:=zeV) mixed zmb (by simp) rfl fun hg=>?_
 have g1:=zZ (hg _ (by simp:ze t∈_));refine dr ?_;refine lp (σ:=Nat) (fun k=>[(0,.c (ze t)),(3,I k)]) (fun _=>[]) (fun k=>k≤t.length∧∀ j (h:j < t.length),j < k→jp (t.take j) t[j]=true) (fun k=>t.length - k) 0 ⟨by simp,by simp⟩ ?_ ?_
 ·refine dr ?_;trivial
 rintro k ⟨hk,ha⟩;refine dr ?_;apply cP<;>intro h2;rotate_left
 ·refine dr ?_;refine congrArg CB ?_;rw [lOk,zaB.2 fun j h=>ha j h (by omega),Bool.eq_iff_iff]; simp [Q7]; omega
 have hk':k < t.length:=by omega
 have no:jp (t.take k) t[k]=false→CB false=CB (lOk t):=fun h=>bF (by
  rw [lOk,Bool.and_eq_false_iff]; right;rw [Bool.eq_false_iff]; intro e;have:=zaB.1 e k hk';rw [h] at this; cases this)
 refine dr ?_;apply cP<;>intro h3
 ·refine dr ?_;exact no (by simp [jp]; omega)
 refine dr ?_;apply cP<;>intro h4
 ·refine dr ?_;exact no (by simp [jp]; omega)
 have h34:(decide (1≤t[k].kind)&&decide (t[k].kind≤4))=true:=by simp; omega
 refine dr ?_;repeat (refine c0 (qE W0 _) rfl ?_; first | refine dr ?_ | exact dz)
 apply cP<;>intro h5
 ·refine dr ?_;exact no (by simp [jp,h5])
 refine dr ?_;repeat (refine c0 (zbH W0 _) rfl ?_; first | refine dr ?_ | exact dz)
 apply cP<;>intro h6
 ·refine dr ?_;exact no (by simp [jp,h6])
 refine dr ?_;apply cP<;>intro h70
 ·refine dr ?_;apply cP<;>intro h71
  ·refine dr ?_;exact no (by simp [jp,h70,h71])
  ·have h7:(!(t[k].kind != 1&&t[k].data != []))=true:=by simp [h71]
   clear h71;refine dr ?_;apply cP<;>intro h8
   ·have hl:(t.take k).getLast? = some t[k - 1]:=by
     rw [List.getLast?_take,if_neg (by omega),List.getElem?_eq_getElem (by omega)];rfl
    refine dr ?_;repeat (refine aM (j:=k - 1) (by omega) (by omega) ?_; first | refine dr ?_ | exact dz)
    cases hlt:ltS t[k - 1].path t[k].path
    ·refine dr ?_;exact no (by simp [jp,yU,hl,hlt])
    ·have hlast:yU (t.take k) t[k].path=true:=by rw [yU,hl]; exact hlt
     refine dEr ?_;repeat ((first | refine sHiM k rfl (by omega) ?_ | refine c0 (Y4 W0 (t.take k) _) rfl ?_); first | refine dEr ?_ | exact dz)
     apply cP<;>intro h9
     ·refine dr ?_;exact no (by simp [jp,h9])
     ·refine dr ?_;apply cP<;>intro h10
      ·refine dEr ?_;repeat ((first | refine sHiM k rfl (by omega) ?_ | refine c0 (QX W0 (t.take k) _) rfl ?_); first | refine dEr ?_ | exact dz)
       apply cP<;>intro h11
       ·refine dr ?_;exact no (by simp [jp,h10,h11])
       ·refine dr ?_;refine ⟨k+1,⟨by omega,fun j h hj=>?_⟩,by omega,?_⟩
        ·by_cases e:j=k
         ·subst e; rw [jp,h34,h5,h6,h7,hlast,h9,h11]; simp
         ·exact ha j h (by omega)
        ·refine dr ?_;trivial
      ·refine dr ?_;refine ⟨k+1,⟨by omega,fun j h hj=>?_⟩,by omega,?_⟩
       ·by_cases e:j=k
        ·subst e; rw [jp,h34,h5,h6,h7,hlast,h9]; simp; omega
        ·exact ha j h (by omega)
       ·refine dr ?_;trivial
   ·have hlast:yU (t.take k) t[k].path=true:=by
     have hk0:k=0:=by omega
     subst hk0; rfl
    refine dEr ?_;repeat ((first | refine sHiM k rfl (by omega) ?_ | refine c0 (Y4 W0 (t.take k) _) rfl ?_); first | refine dEr ?_ | exact dz)
    apply cP<;>intro h9
    ·refine dr ?_;exact no (by simp [jp,h9])
    ·refine dr ?_;apply cP<;>intro h10
     ·refine dEr ?_;repeat ((first | refine sHiM k rfl (by omega) ?_ | refine c0 (QX W0 (t.take k) _) rfl ?_); first | refine dEr ?_ | exact dz)
      apply cP<;>intro h11
      ·refine dr ?_;exact no (by simp [jp,h10,h11])
      ·refine dr ?_;refine ⟨k+1,⟨by omega,fun j h hj=>?_⟩,by omega,?_⟩
       ·by_cases e:j=k
        ·subst e; rw [jp,h34,h5,h6,h7,hlast,h9,h11]; simp
        ·exact ha j h (by omega)
       ·refine dr ?_;trivial
     ·refine dr ?_;refine ⟨k+1,⟨by omega,fun j h hj=>?_⟩,by omega,?_⟩
      ·by_cases e:j=k
       ·subst e; rw [jp,h34,h5,h6,h7,hlast,h9]; simp; omega
       ·exact ha j h (by omega)
      ·refine dr ?_;trivial
 ·have h7:(!(t[k].kind != 1&&t[k].data != []))=true:=by simp [h70]
  refine dr ?_;apply cP<;>intro h8
  ·have hl:(t.take k).getLast? = some t[k - 1]:=by
    rw [List.getLast?_take,if_neg (by omega),List.getElem?_eq_getElem (by omega)];rfl
   refine dr ?_;repeat (refine aM (j:=k - 1) (by omega) (by omega) ?_; first | refine dr ?_ | exact dz)
   cases hlt:ltS t[k - 1].path t[k].path
   ·refine dr ?_;exact no (by simp [jp,yU,hl,hlt])
   ·have hlast:yU (t.take k) t[k].path=true:=by rw [yU,hl]; exact hlt
    refine dEr ?_;repeat ((first | refine sHiM k rfl (by omega) ?_ | refine c0 (Y4 W0 (t.take k) _) rfl ?_); first | refine dEr ?_ | exact dz)
    apply cP<;>intro h9
    ·refine dr ?_;exact no (by simp [jp,h9])
    ·refine dr ?_;apply cP<;>intro h10
     ·refine dEr ?_;repeat ((first | refine sHiM k rfl (by omega) ?_ | refine c0 (QX W0 (t.take k) _) rfl ?_); first | refine dEr ?_ | exact dz)
      apply cP<;>intro h11
      ·refine dr ?_;exact no (by simp [jp,h10,h11])
      ·refine dr ?_;refine ⟨k+1,⟨by omega,fun j h hj=>?_⟩,by omega,?_⟩
       ·by_cases e:j=k
        ·subst e; rw [jp,h34,h5,h6,h7,hlast,h9,h11]; simp
        ·exact ha j h (by omega)
       ·refine dr ?_;trivial
     ·refine dr ?_;refine ⟨k+1,⟨by omega,fun j h hj=>?_⟩,by omega,?_⟩
      ·by_cases e:j=k
       ·subst e; rw [jp,h34,h5,h6,h7,hlast,h9]; simp; omega
       ·exact ha j h (by omega)
      ·refine dr ?_;trivial
  ·have hlast:yU (t.take k) t[k].path=true:=by
    have hk0:k=0:=by omega
    subst hk0; rfl
   refine dEr ?_;repeat ((first | refine sHiM k rfl (by omega) ?_ | refine c0 (Y4 W0 (t.take k) _) rfl ?_); first | refine dEr ?_ | exact dz)
   apply cP<;>intro h9
   ·refine dr ?_;exact no (by simp [jp,h9])
   ·refine dr ?_;apply cP<;>intro h10
    ·refine dEr ?_;repeat ((first | refine sHiM k rfl (by omega) ?_ | refine c0 (QX W0 (t.take k) _) rfl ?_); first | refine dEr ?_ | exact dz)
     apply cP<;>intro h11
     ·refine dr ?_;exact no (by simp [jp,h10,h11])
     ·refine dr ?_;refine ⟨k+1,⟨by omega,fun j h hj=>?_⟩,by omega,?_⟩
      ·by_cases e:j=k
       ·subst e; rw [jp,h34,h5,h6,h7,hlast,h9,h11]; simp
       ·exact ha j h (by omega)
      ·refine dr ?_;trivial
    ·refine dr ?_;refine ⟨k+1,⟨by omega,fun j h hj=>?_⟩,by omega,?_⟩
     ·by_cases e:j=k
      ·subst e; rw [jp,h34,h5,h6,h7,hlast,h9]; simp; omega
      ·exact ha j h (by omega)
     ·refine dr ?_;trivial

def zeX:XC:=(.s (.r [.m1 4 .n]) (.s (.s (.r [.mv 6 0,.n1 7 6,.mv 8 1,.n1 9 8,.b1 10 .neq 7 9]) (.cnd 10 (.s (.r [.m1 4 .n]) .ret) .skip)) (.s (.s (.r [.m1 5 (.i 0)]) (.blk 0 (.loop (.s (.s (.r [.mv 11 5,.mv 12 0,.n1 13 12,.b1 14 .lss 11 13]) (.cnd 14 .skip (.exit 0))) (.s (.blk 1 (.s (.d [.mv 17 0,.mv 18 5,.i1 19 3 17 18,.l2 20 3 19,.mv 21 1,.mv 22 5,.i1 23 3 21 22,.l2 24 3 23,.ex 25 (.beq true [.s,(.i .i64),.s] 20 24)]) (.cnd 25 (.s (.r [.m1 4 .n]) .ret) .skip))) (.r [.mv 15 5,.b1 16 .add 15 (.i 1),.mv 5 16])))))) (.s (.r [.m1 4 .y]) .ret))))
theorem zmd:zc Tryz.prog [] 75=some (zeX.ac,[(.t 4)],26):=by kernel_rfl
theorem zpV (W0:World) (a b:List Mark):Fn Tryz.prog W0 75 [ze a,ze b] (.c (CB (decide (a=b)))) []:=by
 refine fnX (c:=zeX) mixed zmd (by simp) rfl fun hg=>?_
 have g1:=zZ (hg _ (by simp:ze a∈_));refine dr ?_;apply cP<;>intro h1
 ·conv=>whnf
  exact dF (ZB (by omega))
 conv=>whnf
 refine lp (σ:=Nat) (fun k=>[(0,.c (ze a)),(1,.c (ze b)),(5,I k)]) (fun _=>[]) (fun k=>k≤a.length∧a.take k=b.take k) (fun k=>a.length - k) 0 ⟨by simp,by simp⟩ ?_ ?_
 ·refine dr ?_;trivial
 rintro k ⟨hk,he⟩;refine dr ?_;apply cP<;>intro h2
 ·refine dr ?_;rw [bqMark];apply cP<;>intro h3;rotate_left
  ·refine dr ?_;refine ⟨k+1,⟨by omega,ZG (by omega) (by omega) he (by simpa using h3)⟩,by omega,?_⟩;refine dr ?_;trivial
  ·conv=>whnf
   exact dF (ZA (k:=k) (by omega) (by omega) (by simpa using h3))
 ·refine dr ?_;have:k=a.length:=by omega
  subst this;exact dT (Zs (by omega) he)
def zdC:XC:=(.s (.r [.m1 4 .n]) (.s (.s (.r [.mv 6 0,.n1 7 6,.mv 8 1,.n1 9 8,.b1 10 .neq 7 9]) (.cnd 10 (.s (.r [.m1 4 .n]) .ret) .skip)) (.s (.s (.r [.mv 11 0,.n1 12 11,.m1 13 (.i 0)]) (.blk 0 (.loop (.s (.r [.b1 14 .lss 13 12]) (.s (.cnd 14 .skip (.exit 0)) (.s (.blk 1 (.s (.r [.mv 15 13,.mv 5 15]) (.s (.d [.mv 16 0,.mv 17 5,.i1 18 3 16 17,.l2 19 3 18,.mv 20 1,.mv 21 5,.i1 22 3 20 21,.l2 23 3 22,.ex 24 (.beq true [.s,.b,.s] 19 23)]) (.cnd 24 (.s (.r [.m1 4 .n]) .ret) .skip)))) (.r [.b1 25 .add 13 (.i 1),.mv 13 25]))))))) (.s (.r [.m1 4 .y]) .ret))))
theorem zkS:zc Tryz.prog [] 91=some (zdC.ac,[(.t 4)],26):=by kernel_rfl
theorem zok (W0:World) (a b:List Ent):Fn Tryz.prog W0 91 [za a,za b] (.c (CB (decide (a=b)))) []:=by
 refine fnX (c:=zdC) mixed zkS (by simp) rfl fun hg=>?_
 have g1:=zZ (hg _ (by simp:za a∈_));refine dr ?_;apply cP<;>intro h1
 ·conv=>whnf
  exact dF (ZB (by omega))
 refine dr ?_;refine lp (σ:=Nat) (fun k=>[(0,.c (za a)),(1,.c (za b)),(12,I a.length),(13,I k)]) (fun _=>[]) (fun k=>k≤a.length∧a.take k=b.take k) (fun k=>a.length - k) 0 ⟨by simp,by simp⟩ ?_ ?_
 ·refine dr ?_;trivial
 rintro k ⟨hk,he⟩;refine dr ?_;apply cP<;>intro h2
 ·refine dr ?_;rw [Jf];apply cP<;>intro h3;rotate_left
  ·refine dr ?_;refine ⟨k+1,⟨by omega,ZG (by omega) (by omega) he (by simpa using h3)⟩,by omega,?_⟩;refine dr ?_;trivial
  ·conv=>whnf
   exact dF (ZA (k:=k) (by omega) (by omega) (by simpa using h3))
 ·refine dr ?_;have:k=a.length:=by omega
  subst this;exact dT (Zs (by omega) he)
def zdI:XC:=(.s (.r [.m1 4 .n]) (.s (.s (.r [.mv 6 0,.n1 7 6,.mv 8 1,.n1 9 8,.b1 10 .neq 7 9]) (.cnd 10 (.s (.r [.m1 4 .n]) .ret) .skip)) (.s (.s (.r [.mv 11 0,.n1 12 11,.m1 13 (.i 0)]) (.blk 0 (.loop (.s (.r [.b1 14 .lss 13 12]) (.s (.cnd 14 .skip (.exit 0)) (.s (.blk 1 (.s (.r [.mv 15 13,.mv 5 15]) (.s (.d [.mv 16 0,.mv 17 5,.i1 18 3 16 17,.l2 19 3 18,.mv 20 1,.mv 21 5,.i1 22 3 20 21,.l2 23 3 22,.ex 24 (.beq true [.s,(.i .i64),.s] 19 23)]) (.cnd 24 (.s (.r [.m1 4 .n]) .ret) .skip)))) (.r [.b1 25 .add 13 (.i 1),.mv 13 25]))))))) (.s (.r [.m1 4 .y]) .ret))))
theorem zkY:zc Tryz.prog [] 138=some (zdI.ac,[(.t 4)],26):=by kernel_rfl
theorem zoq (W0:World) (a b:List Mark):Fn Tryz.prog W0 138 [ze a,ze b] (.c (CB (decide (a=b)))) []:=by
 refine fnX (c:=zdI) mixed zkY (by simp) rfl fun hg=>?_
 have g1:=zZ (hg _ (by simp:ze a∈_));refine dr ?_;apply cP<;>intro h1
 ·conv=>whnf
  exact dF (ZB (by omega))
 refine dr ?_;refine lp (σ:=Nat) (fun k=>[(0,.c (ze a)),(1,.c (ze b)),(12,I a.length),(13,I k)]) (fun _=>[]) (fun k=>k≤a.length∧a.take k=b.take k) (fun k=>a.length - k) 0 ⟨by simp,by simp⟩ ?_ ?_
 ·refine dr ?_;trivial
 rintro k ⟨hk,he⟩;refine dr ?_;apply cP<;>intro h2
 ·refine dr ?_;rw [bqMark];apply cP<;>intro h3;rotate_left
  ·refine dr ?_;refine ⟨k+1,⟨by omega,ZG (by omega) (by omega) he (by simpa using h3)⟩,by omega,?_⟩;refine dr ?_;trivial
  ·conv=>whnf
   exact dF (ZA (k:=k) (by omega) (by omega) (by simpa using h3))
 ·refine dr ?_;have:k=a.length:=by omega
  subst this;exact dT (Zs (by omega) he)
def zdF:XC:=(.s (.r [.m1 4 .n]) (.s (.s (.r [.mv 6 0,.n1 7 6,.mv 8 1,.n1 9 8,.b1 10 .neq 7 9]) (.cnd 10 (.s (.r [.m1 4 .n]) .ret) .skip)) (.s (.s (.r [.mv 11 0,.n1 12 11,.m1 13 (.i 0)]) (.blk 0 (.loop (.s (.r [.b1 14 .lss 13 12]) (.s (.cnd 14 .skip (.exit 0)) (.s (.blk 1 (.s (.r [.mv 15 13,.mv 5 15]) (.s (.d [.mv 16 0,.mv 17 5,.i1 18 7 16 17,.l2 19 7 18,.mv 20 1,.mv 21 5,.i1 22 7 20 21,.l2 23 7 22,.ex 24 (.beq true [.s,.b,.s,.b,.s,(.i .i64),(.i .i64)] 19 23)]) (.cnd 24 (.s (.r [.m1 4 .n]) .ret) .skip)))) (.r [.b1 25 .add 13 (.i 1),.mv 13 25]))))))) (.s (.r [.m1 4 .y]) .ret))))
theorem zkV:zc Tryz.prog [] 47=some (zdF.ac,[(.t 4)],26):=by kernel_rfl
theorem zon (W0:World) (a b:List Hold):Fn Tryz.prog W0 47 [zf a,zf b] (.c (CB (decide (a=b)))) []:=by
 refine fnX (c:=zdF) mixed zkV (by simp) rfl fun hg=>?_
 have g1:=zZ (hg _ (by simp:zf a∈_));refine dr ?_;apply cP<;>intro h1
 ·conv=>whnf
  exact dF (ZB (by omega))
 refine dr ?_;refine lp (σ:=Nat) (fun k=>[(0,.c (zf a)),(1,.c (zf b)),(12,I a.length),(13,I k)]) (fun _=>[]) (fun k=>k≤a.length∧a.take k=b.take k) (fun k=>a.length - k) 0 ⟨by simp,by simp⟩ ?_ ?_
 ·refine dr ?_;trivial
 rintro k ⟨hk,he⟩;refine dr ?_;apply cP<;>intro h2
 ·refine dr ?_;rw [zbc];apply cP<;>intro h3;rotate_left
  ·refine dr ?_;refine ⟨k+1,⟨by omega,ZG (by omega) (by omega) he (by simpa using h3)⟩,by omega,?_⟩;refine dr ?_;trivial
  ·conv=>whnf
   exact dF (ZA (k:=k) (by omega) (by omega) (by simpa using h3))
 ·refine dr ?_;have:k=a.length:=by omega
  subst this;exact dT (Zs (by omega) he)
def zdH:XC:=(.s (.r [.m1 4 .n]) (.s (.s (.r [.mv 6 0,.n1 7 6,.mv 8 1,.n1 9 8,.b1 10 .neq 7 9]) (.cnd 10 (.s (.r [.m1 4 .n]) .ret) .skip)) (.s (.s (.r [.mv 11 0,.n1 12 11,.m1 13 (.i 0)]) (.blk 0 (.loop (.s (.r [.b1 14 .lss 13 12]) (.s (.cnd 14 .skip (.exit 0)) (.s (.blk 1 (.s (.r [.mv 15 13,.mv 5 15]) (.s (.d [.mv 16 0,.mv 17 5,.i1 18 4 16 17,.l2 19 4 18,.mv 20 1,.mv 21 5,.i1 22 4 20 21,.l2 23 4 22,.ex 24 (.beq true [(.i .i64),.s,(.i .i64),(.i .i64)] 19 23)]) (.cnd 24 (.s (.r [.m1 4 .n]) .ret) .skip)))) (.r [.b1 25 .add 13 (.i 1),.mv 13 25]))))))) (.s (.r [.m1 4 .y]) .ret))))
theorem zkX:zc Tryz.prog [] 48=some (zdH.ac,[(.t 4)],26):=by kernel_rfl
theorem zop (W0:World) (a b:List Lease):Fn Tryz.prog W0 48 [zw a,zw b] (.c (CB (decide (a=b)))) []:=by
 refine fnX (c:=zdH) mixed zkX (by simp) rfl fun hg=>?_
 have g1:=zZ (hg _ (by simp:zw a∈_));refine dr ?_;apply cP<;>intro h1
 ·conv=>whnf
  exact dF (ZB (by omega))
 refine dr ?_;refine lp (σ:=Nat) (fun k=>[(0,.c (zw a)),(1,.c (zw b)),(12,I a.length),(13,I k)]) (fun _=>[]) (fun k=>k≤a.length∧a.take k=b.take k) (fun k=>a.length - k) 0 ⟨by simp,by simp⟩ ?_ ?_
 ·refine dr ?_;trivial
 rintro k ⟨hk,he⟩;refine dr ?_;apply cP<;>intro h2
 ·refine dr ?_;rw [bqLease];apply cP<;>intro h3;rotate_left
  ·refine dr ?_;refine ⟨k+1,⟨by omega,ZG (by omega) (by omega) he (by simpa using h3)⟩,by omega,?_⟩;refine dr ?_;trivial
  ·conv=>whnf
   exact dF (ZA (k:=k) (by omega) (by omega) (by simpa using h3))
 ·refine dr ?_;have:k=a.length:=by omega
  subst this;exact dT (Zs (by omega) he)
def zdJ:XC:=(.s (.r [.m1 4 .n]) (.s (.s (.r [.mv 6 0,.n1 7 6,.mv 8 1,.n1 9 8,.b1 10 .neq 7 9]) (.cnd 10 (.s (.r [.m1 4 .n]) .ret) .skip)) (.s (.s (.r [.mv 11 0,.n1 12 11,.m1 13 (.i 0)]) (.blk 0 (.loop (.s (.r [.b1 14 .lss 13 12]) (.s (.cnd 14 .skip (.exit 0)) (.s (.blk 1 (.s (.r [.mv 15 13,.mv 5 15]) (.s (.d [.mv 16 0,.mv 17 5,.i1 18 9 16 17,.l2 19 9 18,.mv 20 1,.mv 21 5,.i1 22 9 20 21,.l2 23 9 22,.ex 24 (.beq true [(.i .i64),(.i .i64),.s,.b,.s,.b,.s,(.i .i64),(.i .i64)] 19 23)]) (.cnd 24 (.s (.r [.m1 4 .n]) .ret) .skip)))) (.r [.b1 25 .add 13 (.i 1),.mv 13 25]))))))) (.s (.r [.m1 4 .y]) .ret))))
theorem zkZ:zc Tryz.prog [] 51=some (zdJ.ac,[(.t 4)],26):=by kernel_rfl
theorem zor (W0:World) (a b:List Msg):Fn Tryz.prog W0 51 [jI a,jI b] (.c (CB (decide (a=b)))) []:=by
 refine fnX (c:=zdJ) mixed zkZ (by simp) rfl fun hg=>?_
 have g1:=zZ (hg _ (by simp:jI a∈_));refine dr ?_;apply cP<;>intro h1
 ·conv=>whnf
  exact dF (ZB (by omega))
 refine dr ?_;refine lp (σ:=Nat) (fun k=>[(0,.c (jI a)),(1,.c (jI b)),(12,I a.length),(13,I k)]) (fun _=>[]) (fun k=>k≤a.length∧a.take k=b.take k) (fun k=>a.length - k) 0 ⟨by simp,by simp⟩ ?_ ?_
 ·refine dr ?_;trivial
 rintro k ⟨hk,he⟩;refine dr ?_;apply cP<;>intro h2
 ·refine dr ?_;rw [bqMsg];apply cP<;>intro h3;rotate_left
  ·refine dr ?_;refine ⟨k+1,⟨by omega,ZG (by omega) (by omega) he (by simpa using h3)⟩,by omega,?_⟩;refine dr ?_;trivial
  ·conv=>whnf
   exact dF (ZA (k:=k) (by omega) (by omega) (by simpa using h3))
 ·refine dr ?_;have:k=a.length:=by omega
  subst this;exact dT (Zs (by omega) he)
def zdN:XC:=(.s (.r [.m1 4 .n]) (.s (.r [.mv 5 0,.mv 6 1,.c1 7 91 [5,6],.mv 4 7]) .ret))
theorem zk3:zc Tryz.prog [] 32=some (zdN.ac,[(.t 4)],8):=by kernel_rfl
theorem zha (W0:World) (a b:List Ent):Fn Tryz.prog W0 32 [za a,za b] (.c (CB (decide (a=b)))) []:=by
 refine fnX (c:=zdN) mixed zk3 (by simp) rfl fun hg=>?_
 refine dr ?_;repeat (refine c0 (zok W0 a b) rfl ?_; first | refine dr ?_ | exact dz)
def zdO:XC:=(.s (.r [.m1 4 .n]) (.s (.r [.mv 5 0,.mv 6 1,.c1 7 138 [5,6],.mv 4 7]) .ret))
theorem zk4:zc Tryz.prog [] 86=some (zdO.ac,[(.t 4)],8):=by kernel_rfl
theorem YZ (W0:World) (a b:List Mark):Fn Tryz.prog W0 86 [ze a,ze b] (.c (CB (decide (a=b)))) []:=by
 refine fnX (c:=zdO) mixed zk4 (by simp) rfl fun hg=>?_
 refine dr ?_;repeat (refine c0 (zoq W0 a b) rfl ?_; first | refine dr ?_ | exact dz)
def zdE:XC:=(.s (.r [.m1 6 .n]) (.s (.s (.r [.mv 10 0,.n1 11 10,.mv 12 1,.n1 13 12,.b1 14 .neq 11 13]) (.cnd 14 (.s (.r [.m1 6 .n]) .ret) .skip)) (.s (.s (.r [.mv 15 0,.n1 16 15,.m1 17 (.i 0)]) (.blk 0 (.loop (.s (.r [.b1 18 .lss 17 16]) (.s (.cnd 18 .skip (.exit 0)) (.s (.blk 1 (.s (.r [.mv 19 17,.i1 20 1 15 17,.l1 21 1 20,.mv 7 19,.a1 8 21 3 133]) (.s (.r [.mv 22 1,.mv 23 7,.i1 24 1 22 23,.l1 25 1 24,.a1 9 25 3 133]) (.s (.r [.mv 26 2,.mv 27 8,.mv 28 9,.ex 29 (.callv 26 [27,28]),.ex 30 (.un .not 29)]) (.cnd 30 (.s (.r [.m1 6 .n]) .ret) .skip))))) (.r [.b1 31 .add 17 (.i 1),.mv 17 31]))))))) (.s (.r [.m1 6 .y]) .ret))))
theorem zkU:zc Tryz.prog [] 85=some (zdE.ac,[(.t 6)],32):=by kernel_rfl
theorem zom (W0:World) (a b:List (List Mark)):Fn Tryz.prog W0 85 [zx a,zx b,.sc (.func (.func 86) #[] #[])] (.c (CB (decide (a=b)))) []:=by
 refine fnX (c:=zdE) mixed zkU (by simp) rfl fun hg=>?_
 have g1:=zZ (hg _ (by simp:zx a∈_));refine dr ?_;apply cP<;>intro h1
 ·conv=>whnf
  exact dF (ZB (by omega))
 refine dr ?_;refine lp (σ:=Nat) (fun k=>[(0,.c (zx a)),(1,.c (zx b)),(2,.c (.sc (.func (.func 86) #[] #[]))),(15,.c (zx a)),(16,I a.length),(17,I k)]) (fun _=>[]) (fun k=>k≤a.length∧a.take k=b.take k) (fun k=>a.length - k) 0 ⟨by simp,by simp⟩ ?_ ?_
 ·refine dr ?_;trivial
 rintro k ⟨hk,he⟩;refine dr ?_;apply cP<;>intro h2
 ·refine dr ?_;repeat ((first | refine oB ⟨by kernel_rfl,by simp⟩ ?_ | refine c0 (YZ W0 _ _) rfl ?_); first | refine dr ?_ | exact dz)
  apply cP<;>intro h3;rotate_left
  ·refine dr ?_;refine ⟨k+1,⟨by omega,ZG (by omega) (by omega) he (by simpa using h3)⟩,by omega,?_⟩;refine dr ?_;trivial
  ·conv=>whnf
   exact dF (ZA (k:=k) (by omega) (by omega) (by simpa using h3))
 ·refine dr ?_;have:k=a.length:=by omega
  subst this;exact dT (Zs (by omega) he)
def zdY:XC:=(.s (.r [.ex 2 (.box 0),.ex 3 (.box 1),.m1 4 .n]) (.s (.r [.f1 5 0 2,.l1 6 1 5,.f1 7 0 3,.l1 8 1 7,.c1 9 32 [6,8],.mv 10 9,.gt 11 (.fa 1 2) 10,.gt 12 (.ld false 1 11) 10,.gt 13 (.fa 1 3) 10,.gt 14 (.ld false 1 13) 10,.gt 15 (.call 85 [12,14,(.k (.c (.sc (.func (.func 86) #[] #[]))))]) 10,.ex 16 (.pick 10 15 .n),.mv 17 16,.gt 18 (.fa 2 2) 17,.gt 19 (.ld false 1 18) 17,.gt 20 (.fa 2 3) 17,.gt 21 (.ld false 1 20) 17,.gt 22 (.call 86 [19,21]) 17,.ex 23 (.pick 17 22 .n),.mv 4 23]) .ret))
theorem zle:zc Tryz.prog [] 30=some (zdY.ac,[(.t 4)],24):=by kernel_rfl
theorem zhd (W0:World) (a b:Over):Fn Tryz.prog W0 30 [jL a,jL b] (.c (CB (decide (a=b)))) []:=by
 refine fnX (c:=zdY) mixed zle (by simp) rfl fun hg=>?_
 refine dr ?_;repeat (refine c0 (zha W0 a.base b.base) rfl ?_; first | refine dr ?_ | exact dz)
 apply cP<;>intro h1;rotate_left
 ·refine dr ?_;exact dF fun e=>by simp [e] at h1
 refine dr ?_;repeat (refine c0 (zom W0 a.layers b.layers) rfl ?_; first | refine dr ?_ | exact dz)
 apply cP<;>intro h2;rotate_left
 ·refine dr ?_;exact dF fun e=>by simp [e] at h2
 refine dr ?_;repeat (refine c0 (YZ W0 a.upper b.upper) rfl ?_; first | refine dr ?_ | exact dz)
 exact congrArg CB (by cases a; cases b; simp_all)

def zfN:XC:=(.s (.r [.ex 4 (.asn (.k .nil) 3 39)]) (.s (.r [.ex 8 .bsl0,.a1 5 8 3 39]) (.s (.s (.r [.m1 6 (.i 0)]) (.blk 0 (.loop (.s (.s (.r [.mv 9 6,.mv 10 1,.n1 11 10,.b1 12 .lss 9 11]) (.cnd 12 .skip (.exit 0))) (.s (.blk 1 (.s (.r [.mv 15 0,.mv 16 1,.mv 17 6,.i1 18 3 16 17,.f1 19 0 18,.l1 20 1 19,.c1 21 207 [15,20],.ex 22 (.un .not 21)]) (.cnd 22 (.r [.mv 23 5,.mv 24 1,.mv 25 6,.i1 26 3 24 25,.l2 27 3 26,.ex 28 (.bsl 3 39 [27]),.ex 29 (.app false 3 40 39 23 28),.a1 5 29 3 39]) .skip))) (.r [.mv 13 6,.b1 14 .add 13 (.i 1),.mv 6 14])))))) (.s (.s (.r [.m1 7 (.i 0)]) (.blk 2 (.loop (.s (.s (.r [.mv 30 7,.mv 31 0,.n1 32 31,.b1 33 .lss 30 32]) (.cnd 33 .skip (.exit 2))) (.s (.blk 3 (.s (.r [.mv 36 0,.mv 37 7,.i1 38 3 36 37,.f1 39 1 38,.l1 40 1 39]) (.blk 4 (.s (.r [.b1 42 .eql 40 (.i 1),.mv 41 42]) (.cnd 41 (.d [.mv 43 5,.mv 44 0,.mv 45 7,.i1 46 3 44 45,.f1 47 0 46,.l1 48 1 47,.mv 49 0,.mv 50 7,.i1 51 3 49 50,.f1 52 2 51,.l1 53 1 52,.ex 54 (.build [sE,(B false),sE] [(0,(1,48)),(2,(1,53))]),.c1 55 178 [43,54],.a1 5 55 3 39]) (.s (.s (.r [.b1 57 .eql 40 (.i 2),.mv 56 57]) (.cnd 56 .skip (.r [.b1 58 .eql 40 (.i 4),.mv 56 58]))) (.cnd 56 (.r [.mv 59 5,.mv 60 0,.mv 61 7,.i1 62 3 60 61,.f1 63 0 62,.l1 64 1 63,.ex 65 (.build [sE,(B false),sE] [(0,(1,64)),(1,(1,.y))]),.c1 66 178 [59,65],.a1 5 66 3 39]) .skip))))))) (.r [.mv 34 7,.b1 35 .add 34 (.i 1),.mv 7 35])))))) (.s (.r [.mv 67 5,.a1 4 67 3 39]) .ret)))))
theorem zm3:zc Tryz.prog [] 172=some (zfN.ac,[(.t 4)],68):=by kernel_rfl
theorem zpf (W0:World) (l:List Mark) (t:List Ent) (ht:t.length+l.length≤1000000):Fn Tryz.prog W0 172 [ze l,za t] (.c (za (jC l t))) []:=by
 refine fnX (c:=zfN) mixed zm3 (by simp) rfl fun hg=>?_
 refine dr ?_;refine lp (σ:=Nat) (fun k=>[(0,.c (ze l)),(1,.c (za t)),(5,.own 80 ((t.take k).filter fun e=>!zJ l e.path).length),(6,I k)]) (fun k=>[(80,.row (((t.take k).filter fun e=>!zJ l e.path).map eEnt) 3 39)]) (fun k=>k≤t.length) (fun k=>t.length - k) 0 (by simp) ?_ ?_
 ·refine dr ?_;trivial
 intro k hk;have hfl:=zhI (q:=fun e:Ent=>!zJ l e.path) (l:=t) (k:=k);refine dr ?_;apply cP<;>intro h1
 ·have hk':k < t.length:=by omega
  refine dEr ?_;repeat (refine c0 (zho W0 _ _) rfl ?_; first | refine dEr ?_ | exact dz)
  apply cP<;>intro h2
  ·refine dr ?_;repeat ((first | refine oB (by simp; omega) ?_ | refine oB (by simp) ?_); first | refine dr ?_ | exact dz)
   refine ⟨k+1,by omega,by omega,?_⟩;refine dr ?_;repeat (refine oB (by rw [qF hk' (by simp [h2])]; simp) ?_; first | refine dr ?_ | exact dz)
   trivial
  ·refine dr ?_;refine ⟨k+1,by omega,by omega,?_⟩;refine dr ?_;repeat (refine oB (by rw [qr hk' (by simp [h2])]) ?_; first | refine dr ?_ | exact dz)
   trivial
 have hkl:k=t.length:=by omega
 subst hkl;rw [List.take_length] at hfl ⊢;have hR:jC l t=l.foldl onP (t.filter fun e=>!zJ l e.path):=rfl;rw [hR];generalize (t.filter fun e=>!zJ l e.path)=t0 at *;refine dr ?_;refine lz (σ:=Nat) 80 (fun k=>[(0,.c (ze l)),(1,.c (za t)),(5,.c (za ((l.take k).foldl onP t0))),(7,I k)]) (fun _=>[]) (fun k=>k≤l.length) (fun k=>l.length - k) 0 (by simp) ?_ ?_
 ·refine dr ?_;repeat (refine oB (by simp) ?_; first | refine dr ?_ | exact dz)
  trivial
 clear h1;intro k hk;have hlk:=zh5 (l.take k) t0;have hlk2:=List.length_take_le' k l;refine dr ?_;apply cP<;>intro h1
 ·have hk':k < l.length:=by omega
  refine dr ?_;apply cP<;>intro h2
  ·refine dr ?_;repeat (refine c0 (Jo W0 _ ⟨_,_,_⟩ (by omega)) rfl ?_; first | refine dr ?_ | exact dz)
   intro hg1;refine dr ?_;refine ⟨k+1,by omega,by omega,?_⟩;refine dr ?_;repeat (refine oB (by rw [qX hk',onP,if_pos h2]) ?_; first | refine dr ?_ | exact dz)
   trivial
  ·refine dr ?_;apply cP<;>intro h3
   ·refine dr ?_;apply cP<;>intro h30;rotate_left
    ·omega
    refine dr ?_;repeat (refine c0 (Jo W0 _ ⟨_,_,_⟩ (by omega)) rfl ?_; first | refine dr ?_ | exact dz)
    intro hg1;refine dr ?_;refine ⟨k+1,by omega,by omega,?_⟩;refine dr ?_;repeat (refine oB (by rw [qX hk',onP,if_neg h2,if_pos (.inl h3)]) ?_; first | refine dr ?_ | exact dz)
    trivial
   ·refine dr ?_;apply cP<;>intro h4
    ·refine dr ?_;repeat (refine c0 (Jo W0 _ ⟨_,_,_⟩ (by omega)) rfl ?_; first | refine dr ?_ | exact dz)
     intro hg1;refine dr ?_;refine ⟨k+1,by omega,by omega,?_⟩;refine dr ?_;repeat (refine oB (by rw [qX hk',onP,if_neg h2,if_pos (.inr h4)]) ?_; first | refine dr ?_ | exact dz)
     trivial
    ·refine dr ?_;refine ⟨k+1,by omega,by omega,?_⟩;refine dr ?_;repeat (refine oB (by rw [qX hk',onP,if_neg h2,if_neg (by omega)]) ?_; first | refine dr ?_ | exact dz)
     trivial
 have hkl:k=l.length:=by omega
 refine dr ?_;rw [hkl,List.take_length]
def zeW:XC:=(.s (.r [.ex 4 (.asn (.k .nil) 3 39),.m1 5 .n]) (.s (.s (.r [.mv 7 0,.c1 8 171 [7],.ex 9 (.un .not 8),.mv 10 9,.gf 11 (.mv 1) 10,.gf 12 (.call 119 [11]) 10,.gf 13 (.un .not 12) 10,.ex 14 (.pick 10 .y 13)]) (.cnd 14 (.s (.r [.ex 15 .bsl0,.a1 4 15 3 39,.m1 5 .n]) .ret) .skip)) (.s (.r [.mv 16 0,.mv 17 1,.c1 18 172 [16,17],.a1 6 18 3 39]) (.s (.s (.r [.mv 19 6,.n1 20 19,.b1 21 .gtr 20 (.i 16)]) (.cnd 21 (.s (.r [.ex 22 .bsl0,.a1 4 22 3 39,.m1 5 .n]) .ret) .skip)) (.s (.r [.mv 23 6,.a1 4 23 3 39,.m1 5 .y]) .ret)))))
theorem zmc:zc Tryz.prog [] 111=some (zeW.ac,[(.t 4),(.t 5)],24):=by kernel_rfl
theorem zhA (W0:World) (l:List Mark) (t:List Ent):Fn Tryz.prog W0 111 [ze l,za t] (.c (Jm (lOn l t))) []:=by
 refine fnX (c:=zeW) mixed zmc (by simp) rfl fun hg=>?_
 refine dr ?_;repeat (refine c0 (QY W0 _) rfl ?_; first | refine dr ?_ | exact dz)
 apply cP<;>intro h1
 ·refine dEr ?_;rw [lOn,if_neg (by simp [h1])]; rfl
 refine dEr ?_;repeat (refine c0 (zbM W0 _) rfl ?_; first | refine dEr ?_ | exact dz)
 apply cP<;>intro h2
 ·refine dr ?_;rw [lOn,if_neg (by simp [h2])]; rfl
 have hl:l.length≤32:=by simp only [lOk,Bool.and_eq_true,decide_eq_true_eq] at h1; exact h1.1
 have ht:=(yt h2).1;refine dr ?_;repeat (refine c0 (zpf W0 _ _ (by omega)) rfl ?_; first | refine dr ?_ | exact dz)
 intro hg2;refine dr ?_;rw [lOn,if_pos (by simp [h1,h2])];apply cP<;>intro h3
 ·refine dr ?_;rw [if_neg (by omega)]; rfl
 ·refine dr ?_;rw [if_pos (by omega)]; rfl
def zfQ:XC:=(.s (.r [.ex 4 (.asn (.k .nil) 3 133)]) (.s (.r [.mv 6 1,.c1 7 123 [6],.mv 5 7]) (.s (.s (.r [.mv 8 5,.ex 9 (.bin .eql 8 (.s [47]))]) (.cnd 9 (.s (.r [.mv 10 0,.a1 4 10 3 133]) .ret) .skip)) (.s (.s (.r [.mv 11 0,.mv 12 5,.c1 13 181 [11,12],.b1 14 .eql 13 (.i 0)]) (.cnd 14 (.r [.mv 15 0,.mv 16 5,.ex 17 (.build [sE,(I 0),sE] [(0,(1,16)),(1,(1,(.i 2)))]),.c1 18 125 [15,17],.a1 0 18 3 133]) .skip)) (.s (.r [.mv 19 0,.mv 20 5,.c1 21 124 [19,20],.a1 4 21 3 133]) .ret)))))
theorem zm6:zc Tryz.prog [] 124=some (zfQ.ac,[(.t 4)],22):=by kernel_rfl
theorem J0 (W0:World):∀ (n:Nat) (l:List Mark) (p:Str),pOk p=true→(names p).length≤n→l.length+n≤1000000→Fn Tryz.prog W0 124 [ze l,CS p] (.c (ze ((jF n p).foldl upsP l))) []
 | 0,l,p,hp,hn,_=>by have:=(ye hp).1.1; omega
 | n+1,l,p,hp,hn,hl=>by
  refine fnX (c:=zfQ) mixed zm6 (by simp) rfl fun hg=>?_
  refine dr ?_;repeat (refine c0 (y7 W0 _) rfl ?_; first | refine dr ?_ | exact dz)
  intro hg1;rw [jF];apply cP<;>intro h1
  ·refine dr ?_;rw [if_pos h1]; rfl
  rw [if_neg h1];obtain ⟨u1,_,u2⟩:=yo hp h1;have e:((pUp p::jF n (pUp p)).foldl upsP l)=(jF n (pUp p)).foldl upsP (upsP l (pUp p)):=rfl;rw [e,upsP];refine dr ?_;repeat (refine c0 (Y5 W0 _ _) rfl ?_; first | refine dr ?_ | exact dz)
  intro hg2;apply cP<;>intro h2
  ·rw [if_pos h2];have hpl:(jE l ⟨pUp p,2,[]⟩).length≤l.length+1:=qQ;refine dr ?_;repeat (refine c0 (Jp W0 _ ⟨pUp p,2,[]⟩ (by omega)) rfl ?_; first | refine dr ?_ | exact dz)
   intro hg3;refine dr ?_;repeat (refine c0 (J0 W0 n _ _ u1 (by omega) (by omega)) rfl ?_; first | refine dr ?_ | exact dz)
   intro hg4;exact dz
  ·rw [if_neg h2];refine dr ?_;repeat (refine c0 (J0 W0 n _ _ u1 (by omega) (by omega)) rfl ?_; first | refine dr ?_ | exact dz)
   intro hg4;exact dz
def zfG:XC:=(.s (.r [.ex 4 (.asn (.k .nil) 3 133)]) (.s (.r [.ex 11 .bsl0,.a1 5 11 3 133]) (.s (.r [.mv 12 0,.mv 13 1,.c1 14 120 [12,13],.a1 6 14 1 9]) (.s (.s (.r [.m1 7 (.i 0)]) (.blk 0 (.loop (.s (.s (.r [.mv 15 7,.mv 16 6,.n1 17 16,.b1 18 .lss 15 17]) (.cnd 18 .skip (.exit 0))) (.s (.blk 1 (.s (.r [.mv 22 1,.mv 23 6,.mv 24 7,.i1 25 1 23 24,.l1 26 1 25,.c1 27 121 [22,26],.mv 21 27,.e1 28 21 0,.e1 29 21 1,.ex 8 (.alloc [sE,(B false),sE]),.s1 3 8 28,.mv 9 29]) (.s (.r [.mv 30 6,.mv 31 7,.i1 32 1 30 31,.l1 33 1 32,.ex 34 (.build [sE,(I 0),sE] [(0,(1,33)),(1,(1,(.i 3)))]),.ex 10 (.alloc [sE,(I 0),sE]),.s1 3 10 34]) (.s (.s (.r [.mv 35 9]) (.cnd 35 (.d [.mv 36 6,.mv 37 7,.i1 38 1 36 37,.l1 39 1 38,.f1 40 2 8,.l1 41 1 40,.ex 42 (.build [sE,(I 0),sE] [(0,(1,39)),(1,(1,(.i 1))),(2,(1,41))]),.s1 3 10 42]) .skip)) (.s (.s (.r [.mv 43 9,.mv 44 43,.gt 45 (.fa 1 8) 44,.gt 46 (.ld false 1 45) 44,.ex 47 (.pick 44 46 .n)]) (.cnd 47 (.r [.f1 48 1 10,.nu (.st 1 48 (.i 2))]) .skip)) (.s (.r [.mv 49 9,.mv 50 49,.gf 51 (.mv 1) 50,.gf 52 (.mv 6) 50,.gf 53 (.mv 7) 50,.gf 54 (.ia 1 52 53) 50,.gf 55 (.ld false 1 54) 50,.gf 56 (.call 123 [55]) 50,.gf 57 (.call 122 [51,56]) 50,.ex 58 (.pick 50 .y 57)]) (.cnd 58 (.d [.mv 59 5,.l2 60 3 10,.c1 61 125 [59,60],.mv 62 6,.mv 63 7,.i1 64 1 62 63,.l1 65 1 64,.c1 66 124 [61,65],.a1 5 66 3 133]) .skip))))))) (.r [.mv 19 7,.b1 20 .add 19 (.i 1),.mv 7 20])))))) (.s (.r [.mv 67 5,.a1 4 67 3 133]) .ret)))))
theorem zmW:zc Tryz.prog [] 76=some (zfG.ac,[(.t 4)],68):=by kernel_rfl
theorem zhn (W0:World) (a b:List Ent) (ha:tOk a=true) (hb:tOk b=true):Fn Tryz.prog W0 76 [za a,za b] (.c (ze (jb a b))) []:=by
 have la:=(yt ha).1;have lb:=(yt hb).1;have lt:=zdb (a:=a) (b:=b);have hok:∀ p∈z8 a b,pOk p=true:=fun p hp=>zko ha hb hp
 refine fnX (c:=zfG) mixed zmW (by simp) rfl fun hg=>?_
 refine dr ?_;repeat (refine c0 (zhl W0 _ _ (by omega)) rfl ?_; first | refine dr ?_ | exact dz)
 intro hg1;rw [jb];generalize z8 a b=L at *;refine dr ?_;refine lz (σ:=Nat) 80 (fun k=>[(1,.c (za b)),(6,.c (js L)),(5,.c (ze ((L.take k).foldl (difP b) []))),(7,I k)]) (fun _=>[]) (fun k=>k≤L.length) (fun k=>L.length - k) 0 (by simp) ?_ ?_
 ·refine dr ?_;trivial
 intro k hk;have hlk:=zh4 (b:=b) (L.take k) [];have hlk2:=List.length_take_le' k L;simp only [List.length_nil] at hlk;refine dr ?_;apply cP<;>intro h1
 ·have hk':k < L.length:=by omega
  have hp:=hok _ (List.getElem_mem hk');have hc:=yM W0 b L[k];have hn:=(ye hp).1.2;have hpl:∀ m,(jE ((L.take k).foldl (difP b) []) m).length≤((L.take k).foldl (difP b) []).length+1:=fun m=>qQ
  cases hx:get b L[k] with
  | none =>
   rw [hx] at hc;refine dr ?_;repeat (refine c0 hc rfl ?_; first | refine dr ?_ | exact dz)
   intro hg2;refine dr ?_;repeat ((first | refine c0 (y7 W0 _) rfl ?_ | refine c0 (QW W0 _ _) rfl ?_); first | refine dr ?_ | exact dz)
   intro hg3;apply cP<;>intro h2
   ·refine dEr ?_;repeat ((first | refine c0 (Jp W0 _ ⟨L[k],3,[]⟩ (by omega)) rfl ?_ | refine c0 (J0 W0 3 _ _ hp hn (by have:=hpl ⟨L[k],3,[]⟩; omega)) rfl ?_); first | refine dEr ?_ | exact dz)
    refine ⟨k+1,by omega,by omega,?_⟩;refine dr ?_;repeat (refine oB (by rw [qX hk',difP,zV,hx]; simp only [if_pos h2]; rfl) ?_; first | refine dr ?_ | exact dz)
    trivial
   ·refine dr ?_;refine ⟨k+1,by omega,by omega,?_⟩;refine dr ?_;repeat (refine oB (by rw [qX hk',difP,zV,hx]; simp [h2]) ?_; first | refine dr ?_ | exact dz)
    trivial
  | some e =>
   rw [hx] at hc;refine dr ?_;repeat (refine c0 hc rfl ?_; first | refine dr ?_ | exact dz)
   intro hg2;refine dr ?_;apply cP<;>intro h2
   ·refine dEr ?_;repeat ((first | refine c0 (Jp W0 _ ⟨L[k],2,e.data⟩ (by omega)) rfl ?_ | refine c0 (J0 W0 3 _ _ hp hn (by have:=hpl ⟨L[k],2,e.data⟩; omega)) rfl ?_); first | refine dEr ?_ | exact dz)
    refine ⟨k+1,by omega,by omega,?_⟩;refine dr ?_;repeat (refine oB (by rw [qX hk',difP,zV,hx]; simp only [if_pos h2]; rfl) ?_; first | refine dr ?_ | exact dz)
    trivial
   ·refine dEr ?_;repeat ((first | refine c0 (Jp W0 _ ⟨L[k],1,e.data⟩ (by omega)) rfl ?_ | refine c0 (J0 W0 3 _ _ hp hn (by have:=hpl ⟨L[k],1,e.data⟩; omega)) rfl ?_); first | refine dEr ?_ | exact dz)
    refine ⟨k+1,by omega,by omega,?_⟩;refine dr ?_;repeat (refine oB (by rw [qX hk',difP,zV,hx]; simp [h2]; rfl) ?_; first | refine dr ?_ | exact dz)
    trivial
 have hkl:k=L.length:=by omega
 refine dr ?_;rw [hkl,List.take_length]

def zfS:XC:=(.s (.r [.ex 1 (.box 0),.ex 2 (.asn (.k .nil) 3 39),.m1 3 .n]) (.s (.r [.f1 7 0 1,.l1 8 1 7,.a1 4 8 3 39]) (.s (.s (.r [.mv 9 4,.c1 10 119 [9],.ex 11 (.un .not 10),.mv 12 11,.gf 13 (.fa 1 1) 12,.gf 14 (.ld false 1 13) 12,.gf 15 (.len false 14) 12,.gf 16 (.bin .gtr 15 (.i 4)) 12,.ex 17 (.pick 12 .y 16)]) (.cnd 17 (.s (.r [.ex 18 .bsl0,.a1 2 18 3 39,.m1 3 .n]) .ret) .skip)) (.s (.s (.r [.m1 5 (.i 0)]) (.blk 0 (.loop (.s (.s (.r [.mv 19 5,.f1 20 1 1,.l1 21 1 20,.n1 22 21,.b1 23 .lss 19 22]) (.cnd 23 .skip (.exit 0))) (.s (.blk 1 (.s (.r [.m1 6 .n]) (.s (.r [.f1 27 1 1,.l1 28 1 27,.mv 29 5,.i1 30 1 28 29,.l1 31 1 30,.mv 32 4,.c1 33 111 [31,32],.mv 26 33,.e1 34 26 0,.e1 35 26 1,.a1 4 34 3 39,.mv 6 35]) (.s (.r [.mv 36 6,.ex 37 (.un .not 36)]) (.cnd 37 (.s (.r [.ex 38 .bsl0,.a1 2 38 3 39,.m1 3 .n]) .ret) .skip))))) (.r [.mv 24 5,.b1 25 .add 24 (.i 1),.mv 5 25])))))) (.s (.r [.ex 39 .bsl0,.mv 40 4,.ex 41 (.app true 3 40 39 39 40),.a1 2 41 3 39,.m1 3 .y]) .ret)))))
theorem zm7:zc Tryz.prog [] 74=some (zfS.ac,[(.t 2),(.t 3)],42):=by kernel_rfl
theorem zbK (W0:World) (o:Over):Fn Tryz.prog W0 74 [jL o] (.c (Jm (jt o))) []:=by
 refine fnX (c:=zfS) mixed zm7 (by simp) rfl fun hg=>?_
 refine dEr ?_;repeat (refine c0 (zbM W0 _) rfl ?_; first | refine dEr ?_ | exact dz)
 apply cP<;>intro h1
 ·refine dr ?_;rw [jt,if_neg (by simp [h1])]; rfl
 refine dr ?_;apply cP<;>intro h2
 ·refine dr ?_;rw [jt,if_neg (by omega)]; rfl
 rw [jt,if_pos ⟨h1,by omega⟩];refine dr ?_;refine lp2 (fun (k:Nat) (t:List Ent)=>[(1,.ptr 16 0),(4,.c (za t)),(5,I k)]) (fun _ _=>[(16,.box [.c (za o.base),.c (zx o.layers),.c (ze o.upper)])]) (fun k t=>k≤o.layers.length∧jA (o.layers.take k) o.base=some t∧tOk t=true) (fun k _=>o.layers.length - k) 0 o.base ⟨by simp,rfl,h1⟩ ?_ ?_
 ·refine dr ?_;trivial
 rintro k t ⟨hk,ha,ht⟩;refine dr ?_;apply cP<;>intro h3
 ·have hk':k < o.layers.length:=by omega
  have hn:jA (o.layers.take (k+1)) o.base=lOn o.layers[k] t:=by
   rw [List.take_succ_eq_append_getElem hk',Qh,ha];simp only [jA];cases lOn o.layers[k] t<;>rfl
  have hc:=zhA W0 o.layers[k] t;cases hx:lOn o.layers[k] t with
  | none =>
   rw [hx] at hc;refine dr ?_;repeat (refine c0 hc rfl ?_; first | refine dr ?_ | exact dz)
   intro hg1;refine dr ?_;have:jA o.layers o.base=none:=by
    have e:o.layers=o.layers.take (k+1)++o.layers.drop (k+1):=by rw [List.take_append_drop]
    rw [e,Qh,hn,hx]
   rw [this]; rfl
  | some t' =>
   rw [hx] at hc;refine dr ?_;repeat (refine c0 hc rfl ?_; first | refine dr ?_ | exact dz)
   intro hg1;refine dr ?_;refine ⟨k+1,t',⟨by omega,by rw [hn,hx],Qg hx⟩,by omega,?_⟩;refine dr ?_;trivial
 have hkl:k=o.layers.length:=by omega
 rw [hkl,List.take_length] at ha;have hl:=(yt ht).1;refine dr ?_;repeat (refine oB (by simp; omega) ?_; first | refine dr ?_ | exact dz)
 rw [ha]; rfl
def zfU:XC:=(.s (.r [.ex 1 (.box 0),.ex 2 (.asn (.k .nil) 3 39),.m1 3 .n]) (.s (.r [.l2 7 3 1,.c1 8 74 [7],.mv 6 8,.e1 9 6 0,.e1 10 6 1,.a1 4 9 3 39,.mv 5 10]) (.s (.s (.r [.mv 11 5,.ex 12 (.un .not 11)]) (.cnd 12 (.s (.r [.ex 13 .bsl0,.a1 2 13 3 39,.m1 3 .n]) .ret) .skip)) (.s (.r [.f1 14 2 1,.l1 15 1 14,.mv 16 4,.c1 17 111 [15,16],.e1 18 17 0,.e1 19 17 1,.a1 2 18 3 39,.mv 3 19]) .ret))))
theorem zm9:zc Tryz.prog [] 69=some (zfU.ac,[(.t 2),(.t 3)],20):=by kernel_rfl
theorem Zu (W0:World) (o:Over):Fn Tryz.prog W0 69 [jL o] (.c (Jm (jg o))) []:=by
 refine fnX (c:=zfU) mixed zm9 (by simp) rfl fun hg=>?_
 have hc:=zbK W0 o;cases hx:jt o with
 | none =>
  rw [hx] at hc;refine dr ?_;repeat (refine c0 hc rfl ?_; first | refine dr ?_ | exact dz)
  intro hg1;refine dr ?_;rw [jg,hx]; rfl
 | some t =>
  rw [hx] at hc;have hv:jg o=lOn o.upper t:=by rw [jg,hx]
  have hc2:=zhA W0 o.upper t;rw [hv];cases hy:lOn o.upper t with
  | none =>
   rw [hy] at hc2;refine dr ?_;repeat (refine c0 hc rfl ?_; first | refine dr ?_ | exact dz)
   intro hg1;refine dr ?_;repeat (refine c0 hc2 rfl ?_; first | refine dr ?_ | exact dz)
   intro hg2;refine dr ?_;rfl
  | some x =>
   rw [hy] at hc2;refine dr ?_;repeat (refine c0 hc rfl ?_; first | refine dr ?_ | exact dz)
   intro hg1;refine dr ?_;repeat (refine c0 hc2 rfl ?_; first | refine dr ?_ | exact dz)
   intro hg2;refine dr ?_;rfl
def ze1:XC:=(.s (.r [.ex 1 (.box 0),.m1 2 .n]) (.s (.r [.l2 8 3 1,.c1 9 74 [8],.mv 7 9,.e1 10 7 0,.e1 11 7 1,.a1 3 10 3 39,.mv 4 11]) (.s (.r [.l2 13 3 1,.c1 14 69 [13],.mv 12 14,.e1 15 12 0,.e1 16 12 1,.a1 5 15 3 39,.mv 6 16]) (.s (.d [.mv 17 4,.mv 18 17,.gt 19 (.mv 6) 18,.ex 20 (.pick 18 19 .n),.mv 21 20,.gt 22 (.fa 2 1) 21,.gt 23 (.ld false 1 22) 21,.gt 24 (.mv 3) 21,.gt 25 (.mv 5) 21,.gt 26 (.call 76 [24,25]) 21,.gt 27 (.call 75 [23,26]) 21,.ex 28 (.pick 21 27 .n),.mv 2 28]) .ret))))
theorem zmh:zc Tryz.prog [] 25=some (ze1.ac,[(.t 2)],29):=by kernel_rfl
theorem J3 (W0:World) (o:Over):Fn Tryz.prog W0 25 [jL o] (.c (CB (oOk o))) []:=by
 refine fnX (c:=ze1) mixed zmh (by simp) rfl fun hg=>?_
 have hc:=zbK W0 o;have hc2:=Zu W0 o;cases hx:jt o with
 | none =>
  have hv:jg o=none:=by rw [jg,hx]
  rw [hx] at hc;rw [hv] at hc2;refine dr ?_;repeat (refine c0 hc rfl ?_; first | refine dr ?_ | exact dz)
  intro hg1;refine dr ?_;repeat (refine c0 hc2 rfl ?_; first | refine dr ?_ | exact dz)
  intro hg2;refine dr ?_;rw [oOk,hx]
 | some t =>
  rw [hx] at hc;cases hy:jg o with
  | none =>
   rw [hy] at hc2;refine dr ?_;repeat (refine c0 hc rfl ?_; first | refine dr ?_ | exact dz)
   intro hg1;refine dr ?_;repeat (refine c0 hc2 rfl ?_; first | refine dr ?_ | exact dz)
   intro hg2;refine dr ?_;rw [oOk,hx,hy]
  | some x =>
   rw [hy] at hc2;refine dr ?_;repeat (refine c0 hc rfl ?_; first | refine dr ?_ | exact dz)
   intro hg1;refine dr ?_;repeat (refine c0 hc2 rfl ?_; first | refine dr ?_ | exact dz)
   intro hg2;refine dr ?_;repeat ((first | refine c0 (zhn W0 t x (zax hx) (Ys hy)) rfl ?_ | refine c0 (zpV W0 _ _) rfl ?_); first | refine dr ?_ | exact dz)
   intro hg3;refine dr ?_;rw [oOk,hx,hy]
def ze3:XC:=(.s (.r [.ex 1 (.box 0),.ex 2 (.asn (.k .nil) 3 39),.m1 3 .n]) (.s (.s (.r [.l2 4 3 1,.c1 5 25 [4],.ex 6 (.un .not 5)]) (.cnd 6 (.s (.r [.ex 7 .bsl0,.a1 2 7 3 39,.m1 3 .n]) .ret) .skip)) (.s (.r [.l2 8 3 1,.c1 9 69 [8],.e1 10 9 0,.e1 11 9 1,.a1 2 10 3 39,.mv 3 11]) .ret)))
theorem zmj:zc Tryz.prog [] 62=some (ze3.ac,[(.t 2),(.t 3)],12):=by kernel_rfl
theorem zpZ (W0:World) (o:Over):Fn Tryz.prog W0 62 [jL o] (.c (Jm (if oOk o=true then jg o else none))) []:=by
 refine fnX (c:=ze3) mixed zmj (by simp) rfl fun hg=>?_
 refine dEr ?_;repeat (refine c0 (J3 W0 _) rfl ?_; first | refine dEr ?_ | exact dz)
 apply cP<;>intro h1
 ·refine dr ?_;rw [if_neg (by simp [h1])]; rfl
 rw [if_pos h1];have hc:=Zu W0 o;cases hy:jg o with
 | none =>
  rw [hy] at hc;refine dr ?_;repeat (refine c0 hc rfl ?_; first | refine dr ?_ | exact dz)
  intro hg1;refine dr ?_;rfl
 | some x =>
  rw [hy] at hc;refine dr ?_;repeat (refine c0 hc rfl ?_; first | refine dr ?_ | exact dz)
  intro hg1;refine dr ?_;rfl

def zfF:XC:=(.s (.r [.m1 4 (.i 0)]) (.s (.s (.r [.mv 5 0,.b1 6 .eql 5 (.i 2),.mv 7 6,.gt 8 (.mv 1) 7,.gt 9 (.bin .neq 8 (.i 0)) 7,.ex 10 (.pick 7 9 .n),.mv 11 10,.gt 12 (.mv 1) 11,.gt 13 (.bin .neq 12 (.i 2)) 11,.ex 14 (.pick 11 13 .n)]) (.cnd 14 (.s (.r [.m1 4 (.i 4)]) .ret) .skip)) (.s (.r [.mv 15 0,.mv 4 15]) .ret)))
theorem zmV:zc Tryz.prog [] 246=some (zfF.ac,[(.t 4)],16):=by kernel_rfl
theorem zpb (W0:World) (a b:Int):Fn Tryz.prog W0 246 [CI a,CI b] (.c (CI (qo a b))) []:=by
 refine fnX (c:=zfF) mixed zmV (by simp) rfl fun hg=>?_
 refine dr ?_;apply cP<;>intro h1
 ·refine dr ?_;apply cP<;>intro h2
  ·refine dr ?_;apply cP<;>intro h3
   ·refine dr ?_;exact congrArg CI (by rw [qo,if_pos ⟨h1,h2,h3⟩])
   ·refine dr ?_;exact congrArg CI (by rw [qo,if_neg (fun h=>h.2.2 h3)])
  ·refine dr ?_;exact congrArg CI (by rw [qo,if_neg (fun h=>h.2.1 h2)])
 ·refine dr ?_;exact congrArg CI (by rw [qo,if_neg (fun h=>h1 h.1)])
def zfP:XC:=(.s (.r [.ex 2 (.asn (.k .nil) 3 133)]) (.s (.r [.ex 6 .bsl0,.a1 3 6 3 133]) (.s (.s (.r [.m1 4 (.i 0)]) (.blk 0 (.loop (.s (.s (.r [.mv 7 4,.mv 8 0,.n1 9 8,.b1 10 .lss 7 9]) (.cnd 10 .skip (.exit 0))) (.s (.blk 1 (.s (.r [.mv 13 0,.mv 14 4,.i1 15 3 13 14,.l2 16 3 15,.ex 5 (.alloc [sE,(I 0),sE]),.s1 3 5 16]) (.s (.s (.r [.mv 17 3,.f1 18 0 5,.l1 19 1 18,.c1 20 206 [17,19]]) (.cnd 20 (.s (.s (.r [.f1 21 1 5,.l1 22 1 21,.b1 23 .eql 22 (.i 3)]) (.cnd 23 (.exit 1) .skip)) (.s (.r [.f1 24 1 5,.l1 25 1 24,.b1 26 .eql 25 (.i 4)]) (.cnd 26 (.r [.f1 27 1 5,.nu (.st 1 27 (.i 2))]) .skip))) .skip)) (.r [.mv 28 3,.l2 29 3 5,.ex 30 (.bsl 3 133 [29]),.ex 31 (.app false 3 40 133 28 30),.a1 3 31 3 133])))) (.r [.mv 11 4,.b1 12 .add 11 (.i 1),.mv 4 12])))))) (.s (.r [.mv 32 3,.a1 2 32 3 133]) .ret))))
theorem zm5:zc Tryz.prog [] 228=some (zfP.ac,[(.t 2)],33):=by kernel_rfl
theorem zs3 {out:List Mark} {m:Mark}:(qt out m).length≤out.length+1:=by
 unfold qt; split
 ·split<;>simp
 ·simp
theorem zpg (W0:World) (l:List Mark) (hl:l.length≤1000000):Fn Tryz.prog W0 228 [ze l] (.c (ze (l.foldl qt []))) []:=by
 refine fnX (c:=zfP) mixed zm5 (by simp) rfl fun hg=>?_
 refine dr ?_;refine lp2 (fun (k:Nat) (out:List Mark)=>[(0,.c (ze l)),(3,.own 48 out.length),(4,I k)]) (fun _ out=>[(48,.row (out.map qh) 3 133)]) (fun k out=>k≤l.length∧out=(l.take k).foldl qt []∧out.length≤k) (fun k _=>l.length - k) 0 [] ⟨by simp,rfl,by simp⟩ ?_ ?_
 ·refine dr ?_;trivial
 rintro k out ⟨hk,ho,hle⟩;refine dr ?_;apply cP<;>intro h1
 ·have hk':k < l.length:=by omega
  have hn:(l.take (k+1)).foldl qt []=qt out l[k]:=by rw [qX hk',← ho]
  have hn2:(qt out l[k]).length≤k+1:=by have:=zs3 (out:=out) (m:=l[k]); omega
  refine dr ?_;repeat (refine c0 (QX W0 out _) rfl ?_; first | refine dr ?_ | exact dz)
  apply cP<;>intro h2
  ·refine dr ?_;apply cP<;>intro h3
   ·refine dr ?_;have e:qt out l[k]=out:=by rw [qt,if_pos h2,if_pos h3]
    refine ⟨k+1,out,⟨by omega,by rw [hn,e],by omega⟩,by omega,?_⟩;refine dr ?_;trivial
   ·refine dr ?_;apply cP<;>intro h4
    ·refine dr ?_;repeat ((first | refine oB (by simp; omega) ?_ | refine oB (by simp) ?_); first | refine dr ?_ | exact dz)
     have e:qt out l[k]=out++[⟨l[k].path,2,l[k].data⟩]:=by rw [qt,if_pos h2,if_neg h3,if_pos h4]
     refine ⟨k+1,out++[⟨l[k].path,2,l[k].data⟩],⟨by omega,by rw [hn,e],by simp; omega⟩,by omega,?_⟩;refine dr ?_;repeat (refine oB (by simp<;>rfl) ?_; first | refine dr ?_ | exact dz)
     trivial
    ·refine dr ?_;repeat ((first | refine oB (by simp; omega) ?_ | refine oB (by simp) ?_); first | refine dr ?_ | exact dz)
     have e:qt out l[k]=out++[l[k]]:=by rw [qt,if_pos h2,if_neg h3,if_neg h4]
     refine ⟨k+1,out++[l[k]],⟨by omega,by rw [hn,e],by simp; omega⟩,by omega,?_⟩;refine dr ?_;repeat (refine oB (by simp<;>rfl) ?_; first | refine dr ?_ | exact dz)
     trivial
  ·refine dr ?_;repeat ((first | refine oB (by simp; omega) ?_ | refine oB (by simp) ?_); first | refine dr ?_ | exact dz)
   have e:qt out l[k]=out++[l[k]]:=by rw [qt,if_neg (by simp [h2])]
   refine ⟨k+1,out++[l[k]],⟨by omega,by rw [hn,e],by simp; omega⟩,by omega,?_⟩;refine dr ?_;repeat (refine oB (by simp<;>rfl) ?_; first | refine dr ?_ | exact dz)
   trivial
 have hkl:k=l.length:=by omega
 rw [hkl,List.take_length] at ho;refine dr ?_;repeat (refine oB (by simp) ?_; first | refine dr ?_ | exact dz)
 rw [ho]; rfl
def zfK:XC:=(.s (.r [.ex 4 (.asn (.k .nil) 3 133)]) (.s (.r [.ex 9 .bsl0,.a1 5 9 3 133]) (.s (.s (.r [.m1 6 (.i 0)]) (.blk 0 (.loop (.s (.s (.r [.mv 10 6,.mv 11 1,.n1 12 11,.b1 13 .lss 10 12]) (.cnd 13 .skip (.exit 0))) (.s (.blk 1 (.s (.r [.mv 16 0,.mv 17 1,.mv 18 6,.i1 19 3 17 18,.f1 20 0 19,.l1 21 1 20,.c1 22 207 [16,21],.ex 23 (.un .not 22),.mv 24 23,.gt 25 (.mv 0) 24,.gt 26 (.mv 1) 24,.gt 27 (.mv 6) 24,.gt 28 (.ia 3 26 27) 24,.gt 29 (.fa 0 28) 24,.gt 30 (.ld false 1 29) 24,.gt 31 (.call 181 [25,30]) 24,.gt 32 (.bin .eql 31 (.i 0)) 24,.ex 33 (.pick 24 32 .n)]) (.cnd 33 (.r [.mv 34 5,.mv 35 1,.mv 36 6,.i1 37 3 35 36,.l2 38 3 37,.c1 39 125 [34,38],.a1 5 39 3 133]) .skip))) (.r [.mv 14 6,.b1 15 .add 14 (.i 1),.mv 6 15])))))) (.s (.s (.r [.m1 7 (.i 0)]) (.blk 2 (.loop (.s (.s (.r [.mv 40 7,.mv 41 0,.n1 42 41,.b1 43 .lss 40 42]) (.cnd 43 .skip (.exit 2))) (.s (.blk 3 (.s (.r [.mv 46 0,.mv 47 7,.i1 48 3 46 47,.l2 49 3 48,.ex 8 (.alloc [sE,(I 0),sE]),.s1 3 8 49]) (.s (.d [.f1 50 1 8,.l1 51 1 50,.mv 52 1,.f1 53 0 8,.l1 54 1 53,.c1 55 181 [52,54],.c1 56 246 [51,55],.f1 57 1 8,.s1 1 57 56]) (.r [.mv 58 5,.l2 59 3 8,.c1 60 125 [58,59],.a1 5 60 3 133])))) (.r [.mv 44 7,.b1 45 .add 44 (.i 1),.mv 7 45])))))) (.s (.r [.mv 61 5,.a1 4 61 3 133]) .ret)))))
theorem zm0:zc Tryz.prog [] 229=some (zfK.ac,[(.t 4)],62):=by kernel_rfl
theorem zpd (W0:World) (a b:List Mark) (hl:a.length+b.length≤1000000):Fn Tryz.prog W0 229 [ze a,ze b] (.c (ze (ql a b))) []:=by
 refine fnX (c:=zfK) mixed zm0 (by simp) rfl fun hg=>?_
 refine dr ?_;refine lz2 80 (fun (k:Nat) (out:List Mark)=>[(0,.c (ze a)),(1,.c (ze b)),(5,.c (ze out)),(6,I k)]) (fun _ _=>[]) (fun k out=>k≤b.length∧out=((b.take k).filter (qf a)).foldl jE []∧out.length≤k) (fun k _=>b.length - k) 0 [] ⟨by simp,rfl,by simp⟩ ?_ ?_
 ·refine dr ?_;trivial
 rintro k out ⟨hk,ho,hle⟩;refine dr ?_;apply cP<;>intro h1
 ·have hk':k < b.length:=by omega
  have no:qf a b[k]=false→out=((b.take (k+1)).filter (qf a)).foldl jE []:=fun h=>by rw [qr hk' h,ho]
  have yes:qf a b[k]=true→jE out b[k]=((b.take (k+1)).filter (qf a)).foldl jE []:=fun h=>by rw [qF hk' h,List.foldl_append,← ho]; rfl
  refine dEr ?_;repeat (refine c0 (zho W0 _ _) rfl ?_; first | refine dEr ?_ | exact dz)
  apply cP<;>intro h2
  ·refine dEr ?_;repeat (refine c0 (Y5 W0 _ _) rfl ?_; first | refine dEr ?_ | exact dz)
   apply cP<;>intro h3
   ·have hpl:(jE out b[k]).length≤out.length+1:=qQ;refine dEr ?_;repeat (refine c0 (Jp W0 _ b[k] (by omega)) rfl ?_; first | refine dEr ?_ | exact dz)
    refine ⟨k+1,jE out b[k],⟨by omega,yes (by simp [qf,h2,h3]),by omega⟩,by omega,?_⟩;refine dr ?_;trivial
   ·refine dr ?_;refine ⟨k+1,out,⟨by omega,no (by simp [qf,h3]),by omega⟩,by omega,?_⟩;refine dr ?_;trivial
  ·refine dr ?_;refine ⟨k+1,out,⟨by omega,no (by simp [qf,h2]),by omega⟩,by omega,?_⟩;refine dr ?_;trivial
 have hkl:k=b.length:=by omega
 rw [hkl,List.take_length] at ho;have hj:ql a b=(a.map (jU b)).foldl jE out:=by rw [ql,ho]
 rw [hj];have hob:out.length≤b.length:=by omega
 clear ho hk hle hj h1 hkl;generalize hoo:out=o0 at *;refine dr ?_;refine lp2 (fun (k:Nat) (out:List Mark)=>[(0,.c (ze a)),(1,.c (ze b)),(5,.c (ze out)),(7,I k)]) (fun _ _=>[]) (fun k out=>k≤a.length∧out=((a.take k).map (jU b)).foldl jE o0∧out.length≤o0.length+k) (fun k _=>a.length - k) 0 o0 ⟨by simp,rfl,by simp⟩ ?_ ?_
 ·refine dr ?_;trivial
 clear hoo;rintro k out ⟨hk,ho,hle⟩;refine dr ?_;apply cP<;>intro h1
 ·have hk':k < a.length:=by omega
  have hn:((a.take (k+1)).map (jU b)).foldl jE o0=jE out (jU b a[k]):=by
   rw [List.take_succ_eq_append_getElem hk',List.map_append,List.foldl_append,← ho]; rfl
  have hpl:(jE out (jU b a[k])).length≤out.length+1:=qQ;refine dEr ?_;repeat ((first | refine c0 (Y5 W0 _ _) rfl ?_ | refine c0 (zpb W0 _ _) rfl ?_ | refine c0 (Jp W0 _ (jU b a[k]) (by omega)) rfl ?_); first | refine dEr ?_ | exact dz)
  refine ⟨k+1,_,⟨by omega,hn.symm,by omega⟩,by omega,?_⟩;refine dr ?_;trivial
 have hkl:k=a.length:=by omega
 rw [hkl,List.take_length] at ho;refine dr ?_;rw [ho]
def zeU:XC:=(.s (.r [.ex 4 (.asn (.k .nil) 3 133),.m1 5 .n]) (.s (.s (.r [.mv 7 0,.c1 8 171 [7],.ex 9 (.un .not 8),.mv 10 9,.gf 11 (.mv 1) 10,.gf 12 (.call 171 [11]) 10,.gf 13 (.un .not 12) 10,.ex 14 (.pick 10 .y 13)]) (.cnd 14 (.s (.r [.ex 15 .bsl0,.a1 4 15 3 133,.m1 5 .n]) .ret) .skip)) (.s (.r [.mv 16 0,.mv 17 1,.c1 18 229 [16,17],.c1 19 228 [18],.a1 6 19 3 133]) (.s (.s (.r [.mv 20 6,.n1 21 20,.b1 22 .gtr 21 (.i 32)]) (.cnd 22 (.s (.r [.ex 23 .bsl0,.a1 4 23 3 133,.m1 5 .n]) .ret) .skip)) (.s (.r [.mv 24 6,.a1 4 24 3 133,.m1 5 .y]) .ret)))))
theorem zma:zc Tryz.prog [] 192=some (zeU.ac,[(.t 4),(.t 5)],25):=by kernel_rfl
theorem zpU (W0:World) (a b:List Mark):Fn Tryz.prog W0 192 [ze a,ze b] (.c (eMarksO (ym a b))) []:=by
 refine fnX (c:=zeU) mixed zma (by simp) rfl fun hg=>?_
 refine dEr ?_;repeat (refine c0 (QY W0 _) rfl ?_; first | refine dEr ?_ | exact dz)
 apply cP<;>intro h1
 ·refine dEr ?_;rw [ym,if_neg (by simp [h1])]; rfl
 refine dEr ?_;repeat (refine c0 (QY W0 _) rfl ?_; first | refine dEr ?_ | exact dz)
 apply cP<;>intro h2
 ·refine dr ?_;rw [ym,if_neg (by simp [h2])]; rfl
 have ga:=LG.of h1;have gb:=LG.of h2;have hla:=(jo.1 h1).1;have hlb:=(jo.1 h2).1;have hjl:(ql a b).length≤1000000:=by
  have e1:(ql a b).length≤((b.filter (qf a)).foldl jE []).length+(a.map (jU b)).length:=J8 (key:=Mark.path) (a.map (jU b)) ((b.filter (qf a)).foldl jE []);have e2:((b.filter (qf a)).foldl jE []).length≤0+(b.filter (qf a)).length:=J8 (key:=Mark.path) (b.filter (qf a)) [];have e3:=List.length_filter_le (qf a) b;rw [List.length_map] at e1;omega
 have hc:=zpg W0 (ql a b) hjl;rw [zs4 (Q4 ga gb)] at hc;have e:ym a b=if (qZ a b).length≤32 then some (qZ a b) else none:=by rw [ym,if_pos (by simp [h1,h2])]
 rw [e];unfold qZ at *;refine dr ?_;repeat ((first | refine c0 (zpd W0 _ _ (by omega)) rfl ?_ | refine c0 hc rfl ?_); first | refine dr ?_ | exact dz)
 intro hg3 hg4;refine dr ?_;apply cP<;>intro h3
 ·refine dr ?_;rw [if_neg (by omega)]; rfl
 ·refine dr ?_;rw [if_pos (by omega)]; rfl

theorem aCode {k:Int} {s:Str} {K:CV→Prop} (h1:0≤k) (h2:k < s.length) (h:∀ n:Int,0≤n→n≤255→K (CU n)):AtX k (s.map fun b=>CU b.toNat) K:=by
 have hk:k.toNat < s.length:=by omega
 refine ⟨k.toNat,by omega,_,?_,h (s[k.toNat].toNat:Int) (by omega) ?_⟩
 ·rw [List.getElem?_map,List.getElem?_eq_getElem hk]; rfl
 ·have:=UInt8.toNat_lt s[k.toNat]; omega
theorem aX {α:Type} {f:α→CV} {L:List α} {k:Int} {K:CV→Prop} (h1:0≤k) (h2:k < L.length) (h:∀ x∈L,K (f x)):AtX k (L.map f) K:=by
 have hk:k.toNat < L.length:=by omega
 exact ⟨k.toNat,by omega,_,by rw [List.getElem?_map,List.getElem?_eq_getElem hk]; rfl,h _ (List.getElem_mem hk)⟩
theorem zto {a b:Int} (ha:0≤a) (ha2:a < 4611686018427387904) (hb:0≤b) (hb2:b < 4611686018427387904):0≤IntKind.wrap .i64 ((BitVec.ofInt (IntKind.bits .i64) a ^^^ BitVec.ofInt (IntKind.bits .i64) b).toNat:Int):=by
 have e:∀ x:Int,0≤x→x < 4611686018427387904→(BitVec.ofInt 64 x).toNat=x.toNat:=fun x h1 h2=>by
  rw [BitVec.toNat_ofInt]; omega
 show 0≤IntKind.wrap .i64 ((BitVec.ofInt 64 a ^^^ BitVec.ofInt 64 b).toNat:Int);rw [BitVec.toNat_xor,e a ha ha2,e b hb hb2];have h:a.toNat ^^^ b.toNat < 2 ^ 62:=Nat.xor_lt_two_pow (by omega) (by omega);rw [zkC (by omega)];omega
theorem retI {k0:List Nat} {m:XM} {ok:Int→Prop} {M:Int→XM} {x:Int} (h:ok x) (hk:zn k0 none [(0,.c (CI x))] m [(0,.c (CI x))] (M x)):RetX k0 (.c (CI x)) m (fun r mx=>∃ a,ok a∧r = .c (CI a)∧mx=M a):=⟨none,_,_,hk,x,h,rfl,rfl⟩
theorem JR {k0:List Nat} {a:(Fr→XM→Prop)→Fr→XM→Prop} {b:Fr→XM→Prop} {F:Fr} {m:XM} {α β:Type} (fr:α→β→Fr) (mm:α→β→XM) (inv:α→β→Prop)
  (ha:a (fun F' m'=>∃ x y,inv x y∧zn k0 none F' m' (fr x y) (mm x y)) F m) (hb:∀ x y,inv x y→b (fr x y) (mm x y)):CutX k0 a b F m :=
 ⟨α × β,fun x=>fr x.1 x.2,fun x=>mm x.1 x.2,fun x=>inv x.1 x.2,none,fun F' m'=>∃ x y,inv x y∧zn k0 none F' m' (fr x y) (mm x y),ha,fun _ _ ⟨x,y,h⟩=>⟨(x,y),h⟩,fun x h=>hb x.1 x.2 h⟩
theorem lz3 {k0:List Nat} {body:(Fr→XM→Prop)→Fr→XM→Prop} {F:Fr} {m:XM} {α β γ:Type} (z:Nat) (fr:α→β→γ→Fr) (mm:α→β→γ→XM) (inv:α→β→γ→Prop) (me:α→β→γ→Nat) (a0:α) (b0:β) (c0:γ) (h0:inv a0 b0 c0) (hk:zn k0 (some z) F m (fr a0 b0 c0) (mm a0 b0 c0))
  (hb:∀ a b c,inv a b c→body (fun F' m'=>∃ a' b' c',inv a' b' c'∧me a' b' c' < me a b c∧zn k0 none F' m' (fr a' b' c') (mm a' b' c')) (fr a b c) (mm a b c)):LoopX k0 body F m :=
 ⟨α × β × γ,fun x=>fr x.1 x.2.1 x.2.2,fun x=>mm x.1 x.2.1 x.2.2,fun x=>inv x.1 x.2.1 x.2.2,fun x=>me x.1 x.2.1 x.2.2,some z,none,fun x F' m'=>∃ a' b' c',inv a' b' c'∧me a' b' c' < me x.1 x.2.1 x.2.2∧zn k0 none F' m' (fr a' b' c') (mm a' b' c'),
  ⟨(a0,b0,c0),h0,hk⟩,fun _ _ _ ⟨a,b,c,h⟩=>⟨(a,b,c),h⟩,fun x h=>hb x.1 x.2.1 x.2.2 h⟩
abbrev Rd (s:Str) (p:Int):XM:=[(1,.box [.c (qe s),.c (CI p)])]
def zeQ:XC:=(.s (.r [.m1 4 (.i 0)]) (.s (.r [.mv 7 0,.mv 8 0,.ex 9 (.nck 8),.f1 10 1 9,.l1 11 1 10,.b1 12 .add 11 (.i 1),.ex 13 (.nck 7),.f1 14 1 13,.s1 1 14 12]) (.s (.s (.r [.mv 15 1,.b1 16 .lss 15 (.i 1),.mv 17 16,.gf 18 (.mv 0) 17,.gf 19 (.nck 18) 17,.gf 20 (.fa 0 19) 17,.gf 21 (.ld false 1 20) 17,.gf 22 (.len false 21) 17,.gf 23 (.bin .eql 22 (.i 0)) 17,.ex 24 (.pick 17 .y 23)]) (.cnd 24 (.s (.r [.m1 4 (.i 0)]) .ret) .skip)) (.s (.r [.mv 25 0,.ex 26 (.nck 25),.f1 27 1 26,.l1 28 1 27,.b1 29 .sub 28 (.i 1),.mv 5 29]) (.s (.s (.r [.mv 30 5,.mv 31 0,.ex 32 (.nck 31),.f1 33 0 32,.l1 34 1 33,.n1 35 34,.b1 36 .lss 30 35]) (.cnd 36 (.s (.r [.mv 37 0,.ex 38 (.nck 37),.f1 39 0 38,.l1 40 1 39,.mv 41 5,.i1 42 1 40 41,.l1 43 1 42,.ex 44 (.conv .i64 43),.mv 45 1,.b1 46 .rem 44 45,.mv 4 46]) .ret) .skip)) (.s (.d [.mv 47 0,.ex 48 (.nck 47),.f1 49 0 48,.l1 50 1 49,.mv 51 5,.mv 52 0,.ex 53 (.nck 52),.f1 54 0 53,.l1 55 1 54,.n1 56 55,.b1 57 .rem 51 56,.i1 58 1 50 57,.l1 59 1 58,.ex 60 (.conv .i64 59),.b1 61 .mul 60 (.i 131),.mv 62 0,.ex 63 (.nck 62),.f1 64 0 63,.l1 65 1 64,.mv 66 5,.b1 67 .mul 66 (.i 7),.b1 68 .add 67 (.i 3),.mv 69 0,.ex 70 (.nck 69),.f1 71 0 70,.l1 72 1 71,.n1 73 72,.b1 74 .rem 68 73,.i1 75 1 65 74,.l1 76 1 75,.ex 77 (.conv .i64 76),.b1 78 .mul 77 (.i 1117),.b1 79 .add 61 78,.mv 80 5,.b1 81 .mul 80 (.i 29),.b1 82 .add 79 81,.mv 83 5,.mv 84 0,.ex 85 (.nck 84),.f1 86 0 85,.l1 87 1 86,.n1 88 87,.b1 89 .quo 83 88,.b1 90 .mul 89 (.i 53),.b1 91 .add 82 90,.mv 6 91]) (.s (.r [.mv 92 6,.mv 93 6,.b1 94 .quo 93 (.i 64),.b1 95 .xor 92 94,.mv 6 95]) (.s (.r [.mv 96 6,.mv 97 1,.b1 98 .rem 96 97,.mv 4 98]) .ret))))))))
theorem zl6:zc Tryz.prog [] 38=some (zeQ.ac,[(.t 4)],99):=by kernel_rfl
theorem zU (W0:World) (s:Str) (p n:Int) (hs:s.length≤2000) (hp:0≤p∧p≤1000000) (hn:n≤1000000) :
  zv Tryz.prog W0 38 [.ptr 1 0,.c (CI n)] (Rd s p) (fun k:Int=>0≤k∧(1≤n→k < n)) (fun k => .c (CI k)) (fun _=>Rd s (p+1)):=by
 refine funW (c:=zeQ) mixed zl6 (by simp) rfl rfl fun hg=>?_
 refine dr ?_;apply cP<;>intro h1
 ·refine dr ?_;refine retI (x:=0) ⟨by omega,by omega⟩ ?_;refine dr ?_;trivial
 refine dr ?_;apply cP<;>intro h2
 ·refine dr ?_;refine retI (x:=0) ⟨by omega,by omega⟩ ?_;refine dr ?_;trivial
 have fin:∀ x:Int,0≤x % n∧(1≤n→x % n < n):=fun x=>⟨Int.emod_nonneg _ (by omega),fun _=>Int.emod_lt_of_pos _ (by omega)⟩
 have hl:0 < (s.length:Int):=by omega
 have hq:0≤(p+1 - 1) / (s.length:Int)∧(p+1 - 1) / (s.length:Int)≤p+1 - 1:=⟨Int.ediv_nonneg (by omega) (by omega),Int.ediv_le_self _ (by omega)⟩;refine dr ?_;apply cP<;>intro h3
 ·refine dr ?_;repeat (refine aCode (by omega) (by omega) fun v hv0 hv1=>?_; first | refine dr ?_ | exact dz)
  refine retI (fin v) ?_;refine dr ?_;trivial
 ·refine dr ?_;repeat ((first | refine aCode (Int.emod_nonneg _ (by omega)) (Int.emod_lt_of_pos _ (by omega)) fun v hv0 hv1=>?_ | refine oB ⟨zto (by omega) (by omega) (by omega) (by omega),by omega,by omega⟩ ?_); first | refine dr ?_ | exact dz)
  refine retI (fin _) ?_;refine dr ?_;trivial
def zfe:XC:=(.s (.r [.ex 2 (.mv (.k .np))]) (.s (.s (.r [.mv 3 0,.n1 4 3,.b1 5 .gtr 4 (.i 2000)]) (.cnd 5 (.r [.mv 6 0,.ex 7 (.slr 1 6 .none (.some (.i 2000))),.a1 0 7 1 5]) .skip)) (.s (.r [.mv 8 0,.ex 9 (.build [.nil,(I 0)] [(0,(1,8))]),.ex 10 (.box 9),.mv 2 10]) .ret)))
theorem zmu:zc Tryz.prog [] 33=some (zfe.ac,[(.t 2)],11):=by kernel_rfl
theorem zo0 (W0:World) (s:Str):zv Tryz.prog W0 33 [.c (qe s)] [] (fun x:Str=>x.length≤2000) (fun _ => .ptr 160 0) (fun x=>[(160,.box [.c (qe x),.c (CI 0)])]):=by
 refine funW (c:=zfe) mixed zmu (by simp) rfl rfl fun hg=>?_
 refine dr ?_;apply cP<;>intro h1
 ·refine dr ?_;repeat (refine sHiM 2000 rfl (by omega) ?_; first | refine dr ?_ | exact dz)
  refine ⟨none,_,_,?_,s.take 2000,by simp; omega,rfl,rfl⟩;refine dr ?_;trivial
 ·refine dr ?_;refine ⟨none,_,_,?_,s,by omega,rfl,rfl⟩;refine dr ?_;trivial
theorem zoZ (W0:World) (s:Str):zv Tryz.prog W0 33 [.c (qe s)] [] (fun x:Str=>x.length≤2000) (fun _ => .ptr 1 0) (fun x=>Rd x 0):=(zo0 W0 s).swp 160 1
def zeR:XC:=(.s (.r [.m1 4 (.i 0)]) (.s (.r [.mv 5 1,.mv 6 0,.mv 7 1,.n1 8 7,.o1 9 38 [6,8],.i1 10 1 5 9,.l1 11 1 10,.mv 4 11]) .ret))
theorem zl7:zc Tryz.prog [38] 36=some (zeR.ac,[(.t 4)],12):=by kernel_rfl
theorem yl (W0:World) (s:Str) (p:Int) (l:List Int) (hs:s.length≤2000) (hp:0≤p∧p≤1000000) (hl:1≤l.length∧l.length≤1000) :
  zv Tryz.prog W0 36 [.ptr 1 0,.c (jN l)] (Rd s p) (fun x:Int=>x∈l) (fun x => .c (CI x)) (fun _=>Rd s (p+1)):=by
 refine funW (c:=zeR) mixed zl7 (by simp) rfl rfl fun hg=>?_
 refine dr ?_;refine oW (zU W0 s p l.length hs hp (by omega)) rfl ⟨rfl,trivial⟩ rfl rfl ⟨0,by omega,by omega⟩ fun k hk=>⟨rfl,?_⟩
 refine dr ?_;refine aX hk.1 (hk.2 (by omega)) fun x hx=>?_
 refine dEr ?_;refine ⟨none,_,_,?_,x,hx,rfl,rfl⟩;refine dr ?_;trivial
def zeS:XC:=(.s (.r [.ex 4 (.mv (.s []))]) (.s (.r [.mv 5 1,.mv 6 0,.mv 7 1,.n1 8 7,.o1 9 38 [6,8],.i1 10 1 5 9,.l1 11 1 10,.mv 4 11]) .ret))
theorem zl8:zc Tryz.prog [38] 95=some (zeS.ac,[(.t 4)],12):=by kernel_rfl
theorem f_of (W0:World) (s:Str) (p:Int) (l:List Str) (hs:s.length≤2000) (hp:0≤p∧p≤1000000) (hl:1≤l.length∧l.length≤1000) :
  zv Tryz.prog W0 95 [.ptr 1 0,.c (js l)] (Rd s p) (fun x:Str=>x∈l) (fun x => .c (CS x)) (fun _=>Rd s (p+1)):=by
 refine funW (c:=zeS) mixed zl8 (by simp) rfl rfl fun hg=>?_
 refine dr ?_;refine oW (zU W0 s p l.length hs hp (by omega)) rfl ⟨rfl,trivial⟩ rfl rfl ⟨0,by omega,by omega⟩ fun k hk=>⟨rfl,?_⟩
 refine dr ?_;refine aX hk.1 (hk.2 (by omega)) fun x hx=>?_
 refine dEr ?_;refine ⟨none,_,_,?_,x,hx,rfl,rfl⟩;refine dr ?_;trivial
def zbu:List Str:=[[47,97],[47,98],[47,97,47,98],[47,97,47,99],[47,98,47,97],[47,97,98],[47,97,47,98,47,99],[47,97,47,98,47,97],[47,98,47,98],[47,99]]
def zgV:List Str:=[[],[120],[121],[49,50],[97,98,99],[122,57]]
def zfi:XC:=(.s (.r [.ex 2 (.mv (.s []))]) (.s (.r [.mv 3 0,.ex 4 (.bsl 1 9 [(.s [47,97]),(.s [47,98]),(.s [47,97,47,98]),(.s [47,97,47,99]),(.s [47,98,47,97]),(.s [47,97,98]),(.s [47,97,47,98,47,99]),(.s [47,97,47,98,47,97]),(.s [47,98,47,98]),(.s [47,99])]),.o1 5 95 [3,4],.mv 2 5]) .ret))
theorem zmy:zc Tryz.prog [95] 92=some (zfi.ac,[(.t 2)],6):=by kernel_rfl
theorem qW (W0:World) (s:Str) (p:Int) (hs:s.length≤2000) (hp:0≤p∧p≤1000000) :
  zv Tryz.prog W0 92 [.ptr 1 0] (Rd s p) (fun x:Str=>x∈zbu) (fun x => .c (CS x)) (fun _=>Rd s (p+1)):=by
 refine funW (c:=zfi) mixed zmy (by simp) rfl rfl fun hg=>?_
 refine dr ?_;refine oW (f_of W0 s p zbu hs hp (by decide)) rfl ⟨rfl,trivial⟩ rfl rfl ⟨_,List.mem_cons_self⟩ fun x hx=>⟨rfl,?_⟩
 refine dEr ?_;refine ⟨none,_,_,?_,x,hx,rfl,rfl⟩;refine dr ?_;trivial
def zfA:XC:=(.s (.r [.ex 2 (.mv (.s []))]) (.s (.r [.mv 3 0,.ex 4 (.bsl 1 9 [(.s []),(.s [120]),(.s [121]),(.s [49,50]),(.s [97,98,99]),(.s [122,57])]),.o1 5 95 [3,4],.mv 2 5]) .ret))
theorem zmQ:zc Tryz.prog [95] 173=some (zfA.ac,[(.t 2)],6):=by kernel_rfl
theorem zhk (W0:World) (s:Str) (p:Int) (hs:s.length≤2000) (hp:0≤p∧p≤1000000) :
  zv Tryz.prog W0 173 [.ptr 1 0] (Rd s p) (fun x:Str=>x∈zgV) (fun x => .c (CS x)) (fun _=>Rd s (p+1)):=by
 refine funW (c:=zfA) mixed zmQ (by simp) rfl rfl fun hg=>?_
 refine dr ?_;refine oW (f_of W0 s p zgV hs hp (by decide)) rfl ⟨rfl,trivial⟩ rfl rfl ⟨_,List.mem_cons_self⟩ fun x hx=>⟨rfl,?_⟩
 refine dEr ?_;refine ⟨none,_,_,?_,x,hx,rfl,rfl⟩;refine dr ?_;trivial

theorem lq {k0:List Nat} {body:(Fr→XM→Prop)→Fr→XM→Prop} {F:Fr} {m:XM} {σ:Type} (fr:σ→Fr) (mm:σ→XM) (inv:σ→Prop) (me:σ→Nat) (x0:σ) (h0:inv x0) (hk:zn k0 (some 3) F m (fr x0) (mm x0))
  (hb:∀ x,inv x→body (fun F' m'=>∃ x',inv x'∧me x' < me x∧zn k0 (some 3) F' m' (fr x') (mm x')) (fr x) (mm x)):LoopX k0 body F m :=
 ⟨σ,fr,mm,inv,me,some 3,some 3,_,⟨x0,h0,hk⟩,fun _ _ _ h=>h,hb⟩
theorem lq3 {k0:List Nat} {body:(Fr→XM→Prop)→Fr→XM→Prop} {F:Fr} {m:XM} {α β γ:Type} (fr:α→β→γ→Fr) (mm:α→β→γ→XM) (inv:α→β→γ→Prop) (me:α→β→γ→Nat) (a0:α) (b0:β) (c0:γ) (h0:inv a0 b0 c0) (hk:zn k0 (some 3) F m (fr a0 b0 c0) (mm a0 b0 c0))
  (hb:∀ a b c,inv a b c→body (fun F' m'=>∃ a' b' c',inv a' b' c'∧me a' b' c' < me a b c∧zn k0 (some 3) F' m' (fr a' b' c') (mm a' b' c')) (fr a b c) (mm a b c)):LoopX k0 body F m :=
 ⟨α × β × γ,fun x=>fr x.1 x.2.1 x.2.2,fun x=>mm x.1 x.2.1 x.2.2,fun x=>inv x.1 x.2.1 x.2.2,fun x=>me x.1 x.2.1 x.2.2,some 3,some 3,fun x F' m'=>∃ a' b' c',inv a' b' c'∧me a' b' c' < me x.1 x.2.1 x.2.2∧zn k0 (some 3) F' m' (fr a' b' c') (mm a' b' c'),
  ⟨(a0,b0,c0),h0,hk⟩,fun _ _ _ ⟨a,b,c,h⟩=>⟨(a,b,c),h⟩,fun x h=>hb x.1 x.2.1 x.2.2 h⟩
structure OZ (k:Nat) (o:Over):Prop where
 b:o.base.length≤k
 n:o.layers.length≤k
 l:∀ l∈o.layers,l.length≤k
 u:o.upper.length≤k
theorem OS.oz {o:Over} (h:OS o):OZ 32 o:=⟨by have:=h.b; omega,by have:=h.n; omega,h.l,h.u⟩
theorem OZ.mono {o:Over} {n m:Nat} (h:OZ n o) (hm:n≤m):OZ m o:=⟨by have:=h.b; omega,by have:=h.n; omega,fun l hl=>by have:=h.l l hl; omega,by have:=h.u; omega⟩
def zbd:XC:=(.s (.r [.ex 1 (.box 0),.ex 2 (.alloc [.nil,.nil,.nil])]) (.s (.d [.ex 5 .bsl0,.f1 6 0 1,.l1 7 1 6,.ex 8 (.app true 3 40 39 5 7),.ex 9 .bsl0,.f1 10 2 1,.l1 11 1 10,.ex 12 (.app true 3 40 133 9 11),.ex 13 (.build [.nil,.nil,.nil] [(0,(1,8)),(2,(1,12))]),.ex 3 (.alloc [.nil,.nil,.nil]),.s1 3 3 13]) (.s (.s (.r [.m1 4 (.i 0)]) (.blk 0 (.loop (.s (.s (.r [.mv 14 4,.f1 15 1 1,.l1 16 1 15,.n1 17 16,.b1 18 .lss 14 17]) (.cnd 18 .skip (.exit 0))) (.s (.blk 1 (.d [.f1 21 1 3,.l1 22 1 21,.ex 23 .bsl0,.f1 24 1 1,.l1 25 1 24,.mv 26 4,.i1 27 1 25 26,.l1 28 1 27,.ex 29 (.app true 3 40 133 23 28),.ex 30 (.bsl 1 25 [29]),.ex 31 (.app false 1 24 25 22 30),.f1 32 1 3,.s1 1 32 31])) (.r [.mv 19 4,.b1 20 .add 19 (.i 1),.mv 4 20])))))) (.s (.r [.l2 33 3 3,.s1 3 2 33]) .ret))))
theorem zfR:zc Tryz.prog [] 102=some (zbd.ac,[(.cell 2 true 3)],34):=by kernel_rfl
theorem zbJ (W0:World) (o:Over) (h:OZ 1000000 o):zv Tryz.prog W0 102 [.c (jL o)] [] (fun _:Unit=>True) (fun _ => .agg [.c (za o.base),.own 4 o.layers.length,.c (ze o.upper)]) (fun _=>[(4,.row (o.layers.map ze) 1 25)]):=by
 refine funW (c:=zbd) mixed zfR (by simp) rfl rfl fun hg=>?_
 obtain ⟨z1,z2,z3,z4⟩:=h;refine dr ?_;refine lq (σ:=Nat) (fun k=>[(1,.ptr 16 0),(2,.ptr 32 0),(3,.ptr 48 0),(4,I k)]) (fun k=>[(4,.row ((o.layers.take k).map ze) 1 25),(16,.box [.c (za o.base),.c (zx o.layers),.c (ze o.upper)]),(32,.box [.nil,.nil,.nil]),(48,.box [.c (za o.base),.own 4 k,.c (ze o.upper)])]) (fun k=>k≤o.layers.length) (fun k=>o.layers.length - k) 0 (by simp) ?_ ?_
 ·refine zn.trans (z:=some 128) (z':=some 3) (F1:=[(1,.ptr 16 0),(2,.ptr 32 0),(3,.ptr 48 0),(4,I 0)]) (m1:=[(16,.box [.c (za o.base),.c (zx o.layers),.c (ze o.upper)]),(32,.box [.nil,.nil,.nil]),(48,.box [.c (za o.base),.nil,.own 192 o.upper.length]),(192,.row (o.upper.map qh) 3 133)]) ?_ ?_
  ·refine dr ?_;repeat (refine oB (by simp<;>rfl) ?_; first | refine dr ?_ | exact dz)
   trivial
  refine zn.trans (z:=some 192) (z':=some 3) (F1:=[(1,.ptr 16 0),(2,.ptr 32 0),(3,.ptr 48 0),(4,I 0)]) (m1:=[(16,.box [.c (za o.base),.c (zx o.layers),.c (ze o.upper)]),(32,.box [.nil,.nil,.nil]),(48,.box [.c (za o.base),.nil,.c (ze o.upper)])]) ?_ ?_
  ·refine dr ?_;repeat (refine oB (by simp<;>rfl) ?_; first | refine dr ?_ | exact dz)
   trivial
  ·show zj _ _ _ _ _;exact zj.nilB 48 [.c (za o.base),.nil,.c (ze o.upper)] [.c (za o.base),.own 4 0,.c (ze o.upper)] 4 25 rfl rfl ⟨nr0,nr1,nr0,trivial⟩
 intro k hk;refine dr ?_;apply cP<;>intro h1
 ·have hk':k < o.layers.length:=by omega
  have hz:=z3 _ (List.getElem_mem hk');refine dr ?_;repeat ((first | refine oB (by simp; omega) ?_ | refine oB (by simp) ?_); first | refine dr ?_ | exact dz)
  refine ⟨k+1,by omega,by omega,?_⟩;rw [List.take_succ_eq_append_getElem hk',List.map_append];refine zj.push (C:=(o.layers.take k).map ze) (L:=o.layers[k].map qh) 4 464 rfl rfl (by simp) ?_;refine dr ?_;trivial
 have hkl:k=o.layers.length:=by omega
 subst hkl;rw [List.take_length];refine dr ?_;refine ⟨none,_,_,?_,(),trivial,rfl,rfl⟩;refine dr ?_;trivial
theorem J1 (W0:World) (o:Over) (h:OZ 1000000 o):Fn Tryz.prog W0 102 [jL o] (.c (jL o)) []:=by
 refine fnX (c:=zbd) mixed zfR (by simp) rfl fun hg=>?_
 obtain ⟨z1,z2,z3,z4⟩:=h;refine dr ?_;refine lq (σ:=Nat) (fun k=>[(1,.ptr 16 0),(2,.ptr 32 0),(3,.ptr 48 0),(4,I k)]) (fun k=>[(4,.row ((o.layers.take k).map ze) 1 25),(16,.box [.c (za o.base),.c (zx o.layers),.c (ze o.upper)]),(32,.box [.nil,.nil,.nil]),(48,.box [.c (za o.base),.own 4 k,.c (ze o.upper)])]) (fun k=>k≤o.layers.length) (fun k=>o.layers.length - k) 0 (by simp) ?_ ?_
 ·refine zn.trans (z:=some 128) (z':=some 3) (F1:=[(1,.ptr 16 0),(2,.ptr 32 0),(3,.ptr 48 0),(4,I 0)]) (m1:=[(16,.box [.c (za o.base),.c (zx o.layers),.c (ze o.upper)]),(32,.box [.nil,.nil,.nil]),(48,.box [.c (za o.base),.nil,.own 192 o.upper.length]),(192,.row (o.upper.map qh) 3 133)]) ?_ ?_
  ·refine dr ?_;repeat (refine oB (by simp<;>rfl) ?_; first | refine dr ?_ | exact dz)
   trivial
  refine zn.trans (z:=some 192) (z':=some 3) (F1:=[(1,.ptr 16 0),(2,.ptr 32 0),(3,.ptr 48 0),(4,I 0)]) (m1:=[(16,.box [.c (za o.base),.c (zx o.layers),.c (ze o.upper)]),(32,.box [.nil,.nil,.nil]),(48,.box [.c (za o.base),.nil,.c (ze o.upper)])]) ?_ ?_
  ·refine dr ?_;repeat (refine oB (by simp<;>rfl) ?_; first | refine dr ?_ | exact dz)
   trivial
  ·show zj _ _ _ _ _;exact zj.nilB 48 [.c (za o.base),.nil,.c (ze o.upper)] [.c (za o.base),.own 4 0,.c (ze o.upper)] 4 25 rfl rfl ⟨nr0,nr1,nr0,trivial⟩
 intro k hk;refine dr ?_;apply cP<;>intro h1
 ·have hk':k < o.layers.length:=by omega
  have hz:=z3 _ (List.getElem_mem hk');refine dr ?_;repeat ((first | refine oB (by simp; omega) ?_ | refine oB (by simp) ?_); first | refine dr ?_ | exact dz)
  refine ⟨k+1,by omega,by omega,?_⟩;rw [List.take_succ_eq_append_getElem hk',List.map_append];refine zj.push (C:=(o.layers.take k).map ze) (L:=o.layers[k].map qh) 4 464 rfl rfl (by simp) ?_;refine dr ?_;trivial
 have hkl:k=o.layers.length:=by omega
 subst hkl;rw [List.take_length];refine dr ?_;rfl
def zfV:XC:=(.s (.r [.ex 2 (.box 0),.ex 4 (.alloc [.nil,.nil,.nil])]) (.s (.r [.l2 8 3 2,.c1 9 74 [8],.mv 7 9,.e1 10 7 0,.e1 11 7 1,.a1 5 10 3 39,.mv 6 11]) (.s (.r [.mv 12 5,.mv 13 1,.c1 14 76 [12,13],.f1 15 2 2,.s1 1 15 14]) (.s (.r [.l2 16 3 2,.s1 3 4 16]) .ret))))
theorem zna:zc Tryz.prog [] 149=some (zfV.ac,[(.cell 4 true 3)],17):=by kernel_rfl
theorem zpi (W0:World) (o:Over) (t x:List Ent) (h1:jt o=some t) (ht:tOk t=true) (hx:tOk x=true):Fn Tryz.prog W0 149 [jL o,za x] (.c (jL ⟨o.base,o.layers,jb t x⟩)) []:=by
 refine fnX (c:=zfV) mixed zna (by simp) rfl fun hg=>?_
 have q:=zbK W0 o;rw [h1] at q;refine dEr ?_;repeat ((first | refine c0 q rfl ?_ | refine c0 (zhn W0 t x ht hx) rfl ?_); first | refine dEr ?_ | exact dz)
 rfl
def zeZ:XC:=(.s (.r [.ex 2 (.box 0),.ex 3 (.box 1),.ex 4 (.alloc [.nil,.nil,.nil]),.m1 5 (.i 0)]) (.s (.s (.r [.l2 10 3 2,.c1 11 25 [10],.ex 12 (.un .not 11)]) (.cnd 12 (.s (.r [.ex 13 (.build [.nil,.nil,.nil] []),.s1 3 4 13,.m1 5 (.i 1)]) .ret) .skip)) (.s (.r [.l2 15 3 2,.c1 16 69 [15],.mv 14 16,.e1 17 14 0,.e1 18 14 1,.a1 6 17 3 39,.mv 7 18]) (.s (.r [.mv 20 6,.l2 21 4 3,.c1 22 107 [20,21],.mv 19 22,.e1 23 19 0,.e1 24 19 1,.a1 8 23 3 39,.mv 9 24]) (.s (.s (.r [.mv 25 9,.b1 26 .neq 25 (.i 0)]) (.cnd 26 (.s (.r [.l2 27 3 2,.c1 28 102 [27],.mv 29 9,.s1 3 4 28,.mv 5 29]) .ret) .skip)) (.s (.r [.l2 30 3 2,.c1 31 102 [30],.mv 32 8,.c1 33 149 [31,32],.mv 34 9,.s1 3 4 33,.mv 5 34]) .ret))))))
theorem zmf:zc Tryz.prog [] 93=some (zeZ.ac,[(.cell 4 true 3),(.t 5)],35):=by kernel_rfl
theorem zaa (W0:World) (o:Over) (op:Op):Fn Tryz.prog W0 93 [jL o,eOp op] (.c (eOC (oDo o op))) []:=by
 refine fnX (c:=zeZ) mixed zmf (by simp) rfl fun hg=>?_
 refine dEr ?_;repeat (refine c0 (J3 W0 o) rfl ?_; first | refine dEr ?_ | exact dz)
 apply cP<;>intro h1
 ·refine dr ?_;rw [oDo,if_neg (by simp [h1])]<;>rfl
 obtain ⟨t,x,g⟩:=OG.of h1;rw [g.doEq];have q1:=Zu W0 o;rw [g.vw] at q1;have q2:=J4 W0 x op;have q3:=J1 W0 o (g.os.oz.mono (by omega));have q4:=(Yp g.gx (op:=op));generalize zE x op=r at *;obtain ⟨y,c⟩:=r;refine dEr ?_;repeat ((first | refine c0 q1 rfl ?_ | refine c0 q2 rfl ?_); first | refine dEr ?_ | exact dz)
 apply cP<;>intro h2
 ·refine dEr ?_;repeat (refine c0 q3 rfl ?_; first | refine dEr ?_ | exact dz)
  rw [if_neg h2]<;>rfl
 ·obtain ⟨_,_,k1,k2⟩:=q4 h2;simp only at k1;have q5:=zpi W0 o t y g.low g.gt (by rw [k1]; exact k2);refine dEr ?_;repeat ((first | refine c0 q3 rfl ?_ | refine c0 q5 rfl ?_); first | refine dEr ?_ | exact dz)
  rw [if_pos h2,h2]<;>rfl
def ze2:XC:=(.s (.r [.ex 1 (.box 0),.ex 2 (.alloc [.nil,.nil,.nil]),.m1 3 .n]) (.s (.s (.r [.l2 5 3 1,.c1 6 25 [5],.ex 7 (.un .not 6)]) (.cnd 7 (.s (.r [.ex 8 (.build [.nil,.nil,.nil] []),.s1 3 2 8,.m1 3 .n]) .ret) .skip)) (.s (.r [.l2 9 3 1,.o1 10 102 [9],.ex 4 (.alloc [.nil,.nil,.nil]),.s1 3 4 10]) (.s (.s (.r [.f1 11 1 1,.l1 12 1 11,.n1 13 12,.b1 14 .geq 13 (.i 4)]) (.cnd 14 (.s (.r [.l2 15 3 4,.s1 3 2 15,.m1 3 .n]) .ret) .skip)) (.s (.r [.f1 16 1 4,.l1 17 1 16,.f1 18 2 4,.l1 19 1 18,.ex 20 (.bsl 1 25 [19]),.ex 21 (.app false 1 24 25 17 20),.f1 22 1 4,.s1 1 22 21]) (.s (.r [.ex 23 .bsl0,.f1 24 2 4,.s1 1 24 23]) (.s (.r [.l2 25 3 4,.s1 3 2 25,.m1 3 .y]) .ret)))))))
theorem zmi:zc Tryz.prog [102] 152=some (ze2.ac,[(.cell 2 true 3),(.t 3)],26):=by kernel_rfl
theorem zpY (W0:World) (o:Over):Fn Tryz.prog W0 152 [jL o] (.c (eOB (Zi o))) []:=by
 refine fnX (c:=ze2) mixed zmi (by simp) rfl fun hg=>?_
 refine dEr ?_;repeat (refine c0 (J3 W0 o) rfl ?_; first | refine dEr ?_ | exact dz)
 apply cP<;>intro h1
 ·refine dr ?_;rw [Zi,if_neg (by simp [h1])]<;>rfl
 have hz:=OS.ok h1;rw [Zi,if_pos h1];refine dr ?_;refine oW (zbJ W0 o (hz.oz.mono (by omega))) rfl trivial rfl rfl ⟨(),trivial⟩ fun _ _=>⟨rfl,?_⟩
 refine dEr ?_;apply cP<;>intro h2
 ·refine dr ?_;repeat (refine oB (by simp) ?_; first | refine dr ?_ | exact dz)
  rw [if_pos (by omega)]<;>rfl
 ·have:=hz.n;refine dr ?_;repeat ((first | refine oB (by simp; omega) ?_ | refine oB (by simp) ?_); first | refine dr ?_ | exact dz)
  rw [if_neg (by omega)];exact congrArg (fun y=>CV.tup [.agg [za o.base,y,ze []],CB true]) (by simp [zx])
def ze0:XC:=(.s (.r [.ex 1 (.box 0),.ex 2 (.alloc [.nil,.nil,.nil]),.m1 3 .n]) (.s (.s (.r [.l2 8 3 1,.c1 9 25 [8],.ex 10 (.un .not 9)]) (.cnd 10 (.s (.r [.ex 11 (.build [.nil,.nil,.nil] []),.s1 3 2 11,.m1 3 .n]) .ret) .skip)) (.s (.r [.l2 12 3 1,.c1 13 102 [12],.ex 4 (.alloc [.nil,.nil,.nil]),.s1 3 4 13]) (.s (.s (.r [.f1 14 1 4,.l1 15 1 14,.n1 16 15,.b1 17 .lss 16 (.i 2)]) (.cnd 17 (.s (.r [.l2 18 3 4,.s1 3 2 18,.m1 3 .n]) .ret) .skip)) (.s (.r [.f1 19 1 4,.l1 20 1 19,.ex 21 (.ia 1 20 (.i 0)),.l1 22 1 21,.a1 5 22 3 133]) (.s (.s (.r [.m1 6 (.i 1)]) (.blk 0 (.loop (.s (.s (.r [.mv 23 6,.f1 24 1 4,.l1 25 1 24,.n1 26 25,.b1 27 .lss 23 26]) (.cnd 27 .skip (.exit 0))) (.s (.blk 1 (.s (.r [.m1 7 .n]) (.s (.r [.f1 31 1 4,.l1 32 1 31,.mv 33 6,.i1 34 1 32 33,.l1 35 1 34,.mv 36 5,.c1 37 192 [35,36],.mv 30 37,.e1 38 30 0,.e1 39 30 1,.a1 5 38 3 133,.mv 7 39]) (.s (.r [.mv 40 7,.ex 41 (.un .not 40)]) (.cnd 41 (.s (.r [.l2 42 3 4,.s1 3 2 42,.m1 3 .n]) .ret) .skip))))) (.r [.mv 28 6,.b1 29 .add 28 (.i 1),.mv 6 29])))))) (.s (.r [.mv 43 5,.ex 44 (.bsl 1 25 [43]),.f1 45 1 4,.s1 1 45 44]) (.s (.r [.l2 46 3 4,.s1 3 2 46,.m1 3 .y]) .ret))))))))
theorem zmg:zc Tryz.prog [] 153=some (ze0.ac,[(.cell 2 true 3),(.t 3)],47):=by kernel_rfl
theorem zp8 {one l:List Mark} {r:List (List Mark)}:yx one (l::r)=match ym l one with
  | some j=>yx j r
  | none=>none:=by rw [yx]; cases ym l one<;>rfl
theorem zpX (W0:World) (o:Over):Fn Tryz.prog W0 153 [jL o] (.c (eOB (ZC o))) []:=by
 refine fnX (c:=ze0) mixed zmg (by simp) rfl fun hg=>?_
 refine dEr ?_;repeat (refine c0 (J3 W0 o) rfl ?_; first | refine dEr ?_ | exact dz)
 apply cP<;>intro h1
 ·refine dr ?_;rw [ZC,if_neg (by simp [h1])]<;>rfl
 have hz:=OS.ok h1;rw [ZC,if_pos h1];refine dEr ?_;repeat (refine c0 (J1 W0 o (hz.oz.mono (by omega))) rfl ?_; first | refine dEr ?_ | exact dz)
 apply cP<;>intro h2
 ·refine dr ?_;have e:ZR o=none:=by
   unfold ZR;split
   ·rename_i a b r he; rw [he] at h2; simp at h2; omega
   ·rfl
  rw [e]<;>rfl
 have h0:0 < o.layers.length:=by omega
 obtain ⟨a,b,r,hl⟩:∃ a b r,o.layers=a::b::r:=by
  cases hl:o.layers with
  | nil=>rw [hl] at h0; simp at h0
  | cons a s=>cases s with
   | nil=>rw [hl] at h2; simp at h2
   | cons b r=>exact ⟨a,b,r,rfl⟩
 have e0:ZR o=yx o.layers[0] (o.layers.drop 1):=by
  have e:o.layers[0]=a:=by simp [hl]
  rw [e];unfold ZR;rw [hl]; rfl
 rw [e0];have hn4:=hz.n;refine dr ?_;repeat (refine aM (j:=0) rfl (by omega) ?_; first | refine dr ?_ | exact dz)
 refine lp2 (fun (k:Nat) (one:List Mark)=>[(2,.ptr 32 0),(4,.ptr 64 0),(5,.c (ze one)),(6,I k)]) (fun _ _=>[(32,.box [.nil,.nil,.nil]),(64,.box [.c (za o.base),.c (zx o.layers),.c (ze o.upper)])]) (fun k one=>1≤k∧k≤o.layers.length∧yx one (o.layers.drop k)=yx o.layers[0] (o.layers.drop 1)) (fun k _=>o.layers.length - k) 1 o.layers[0] ⟨by omega,by omega,rfl⟩ ?_ ?_
 ·refine dr ?_;trivial
 rintro k one ⟨k1,k2,k3⟩;refine dr ?_;apply cP<;>intro h3
 ·have hk':k < o.layers.length:=by omega
  rw [List.drop_eq_getElem_cons hk',zp8] at k3;have q:=zpU W0 o.layers[k] one;cases hj:ym o.layers[k] one with
  | none =>
   rw [hj] at q k3;refine dEr ?_;repeat (refine c0 q rfl ?_; first | refine dEr ?_ | exact dz)
   rw [← k3]<;>rfl
  | some j =>
   rw [hj] at q k3;refine dEr ?_;repeat (refine c0 q rfl ?_; first | refine dEr ?_ | exact dz)
   refine ⟨k+1,j,⟨by omega,by omega,k3⟩,by omega,?_⟩;refine dr ?_;trivial
 ·have hkl:k=o.layers.length:=by omega
  rw [hkl,List.drop_length,yx] at k3;refine dr ?_;rw [← k3]<;>rfl

abbrev wCs (w:Wld):List PV:=[.c (za w.over.base),.c (zx w.over.layers),.c (ze w.over.upper),I w.clock,I w.count,.c (zw w.leases),.c (jx w.holds),.c (jN w.floors),.c (jI w.net),B w.waits,I w.op.kind,.c (CS w.op.path),.c (CS w.op.dest),.c (CS w.op.data)]
abbrev wBx (w:Wld):XB := .box (wCs w)
abbrev hCs (h:Hold):List PV:=[.c (CS h.path),B h.has,.c (CS h.ent.path),B h.ent.dir,.c (CS h.ent.data),I h.num,I h.til]
abbrev lCs (l:Lease):List PV:=[I l.who,.c (CS l.path),I l.num,I l.til]
abbrev mCs (m:Msg):List PV:=[I m.kind,I m.who,.c (CS m.hold.path),B m.hold.has,.c (CS m.hold.ent.path),B m.hold.ent.dir,.c (CS m.hold.ent.data),I m.hold.num,I m.hold.til]
theorem aHd {w:Wld} {who:Int} (hw:isW who) (hl:w.holds.length=3) {K:CV→Prop} (h:K (zf (hdW w who))):AtX who (w.holds.map zf) K:=by
 have:=hw.1; have:=hw.2;have hk:who.toNat < w.holds.length:=by omega
 refine ⟨who.toNat,by omega,_,by rw [List.getElem?_map,List.getElem?_eq_getElem hk]; rfl,?_⟩;have e:hdW w who=w.holds[who.toNat]:=by unfold hdW; rw [List.getD_eq_getElem?_getD,List.getElem?_eq_getElem hk]; rfl
 rw [← e]; exact h
theorem aFl {w:Wld} {who:Int} (hw:isW who) (hl:w.floors.length=3) {K:CV→Prop} (h:K (CI (flW w who))):AtX who (w.floors.map CI) K:=by
 have:=hw.1; have:=hw.2;have hk:who.toNat < w.floors.length:=by omega
 refine ⟨who.toNat,by omega,_,by rw [List.getElem?_map,List.getElem?_eq_getElem hk]; rfl,?_⟩;have e:flW w who=w.floors[who.toNat]:=by unfold flW; rw [List.getD_eq_getElem?_getD,List.getElem?_eq_getElem hk]; rfl
 rw [← e]; exact h
theorem zaV {a b:Int}:leI a b=tb (a≤b):=by rw [Bool.eq_iff_iff,Jv,tb_i]
theorem zs2 {a b:Int}:ltI a b=tb (a < b):=by rw [Bool.eq_iff_iff,zcl,tb_i]
def zgk:XC:=(.s (.r [.m1 2 .n]) (.s (.r [.mv 3 0,.b1 4 .geq 3 (.i 0),.mv 5 4,.gt 6 (.mv 0) 5,.gt 7 (.bin .lss 6 (.i 3)) 5,.ex 8 (.pick 5 7 .n),.mv 2 8]) .ret))
theorem znx:zc Tryz.prog [] 37=some (zgk.ac,[(.t 2)],9):=by kernel_rfl
theorem Y6 (W0:World) (who:Int):Fn Tryz.prog W0 37 [CI who] (.c (CB (tb (isW who)))) []:=by
 refine fnX (c:=zgk) mixed znx (by simp) rfl fun hg=>?_
 refine dr ?_;apply cP<;>intro h1
 ·refine dr ?_;rw [zs2];exact congrArg CB (tb_c ⟨fun h=>⟨h1,h⟩,fun h=>h.2⟩)
 ·refine dr ?_;exact pF fun h=>by have:=h.1; omega
def noL:Lease:=⟨0,[],0,0⟩
def eLO (x:Option Lease):CV := .tup [jy (x.getD noL),CB x.isSome]
theorem zqV {l:List Lease} {k:Nat} (h:k < l.length) {who:Int} {p:Str} (hn:jh (l.take k) who p=none) (h1:l[k].who=who) (h2:l[k].path=p):jh l who p=some l[k]:=by
 have e:l=l.take k++(l[k]::l.drop (k+1)):=by rw [← List.drop_eq_getElem_cons h,List.take_append_drop]
 have e2:jh (l.take k++(l[k]::l.drop (k+1))) who p=some l[k]:=by
  rw [zau,hn];unfold jh;rw [List.find?_cons,h1,h2]; simp
 rw [← e] at e2; exact e2
theorem ziF {l:List Lease} {k:Nat} (h:k < l.length) {who:Int} {p:Str} (hn:jh (l.take k) who p=none) (h1:¬ (l[k].who=who∧l[k].path=p)):jh (l.take (k+1)) who p=none:=by
 rw [List.take_succ_eq_append_getElem h,zau,hn];exact ziE fun x hx=>by rw [List.mem_singleton.1 hx]; exact h1
def zf5:XC:=(.s (.r [.ex 3 (.box 0),.ex 6 (.alloc [(I 0),sE,(I 0),(I 0)]),.m1 7 .n]) (.s (.s (.r [.m1 8 (.i 0)]) (.blk 0 (.loop (.s (.s (.r [.mv 9 8,.f1 10 5 3,.l1 11 1 10,.n1 12 11,.b1 13 .lss 9 12]) (.cnd 13 .skip (.exit 0))) (.s (.blk 1 (.s (.r [.f1 16 5 3,.l1 17 1 16,.mv 18 8,.i1 19 4 17 18,.f1 20 0 19,.l1 21 1 20,.mv 22 1,.b1 23 .eql 21 22,.mv 24 23,.gt 25 (.fa 5 3) 24,.gt 26 (.ld false 1 25) 24,.gt 27 (.mv 8) 24,.gt 28 (.ia 4 26 27) 24,.gt 29 (.fa 1 28) 24,.gt 30 (.ld false 1 29) 24,.gt 31 (.mv 2) 24,.gt 32 (.bin .eql 30 31) 24,.ex 33 (.pick 24 32 .n)]) (.cnd 33 (.s (.r [.f1 34 5 3,.l1 35 1 34,.mv 36 8,.i1 37 4 35 36,.l2 38 4 37,.s1 4 6 38,.m1 7 .y]) .ret) .skip))) (.r [.mv 14 8,.b1 15 .add 14 (.i 1),.mv 8 15])))))) (.s (.r [.ex 39 (.build [(I 0),sE,(I 0),(I 0)] []),.s1 4 6 39,.m1 7 .n]) .ret)))
theorem znj:zc Tryz.prog [] 168=some (zf5.ac,[(.cell 6 true 4),(.t 7)],40):=by kernel_rfl
theorem zps (W0:World) (w:Wld) (who:Int) (p:Str):Fn Tryz.prog W0 168 [zA w,CI who,CS p] (.c (eLO (jh w.leases who p))) []:=by
 refine fnX (c:=zf5) mixed znj (by simp) rfl fun hg=>?_
 have g0:=yQ (hg _ (by simp:zA w∈_));have g1:w.leases.length≤9223372036854775807:=zZ (g0 _ (by simp:zw w.leases∈_));refine dr ?_;refine lp (σ:=Nat) (fun k=>[(1,.c (CI who)),(2,.c (CS p)),(3,.ptr 48 0),(6,.ptr 96 0),(8,I k)]) (fun _=>[(48,wBx w),(96,.box (lCs noL))]) (fun k=>k≤w.leases.length∧jh (w.leases.take k) who p=none) (fun k=>w.leases.length - k) 0 ⟨by omega,rfl⟩ ?_ ?_
 ·refine dr ?_;trivial
 rintro k ⟨hk,hn⟩;refine dr ?_;apply cP<;>intro h1
 ·have hk':k < w.leases.length:=by omega
  refine dr ?_;apply cP<;>intro h2
  ·refine dr ?_;apply cP<;>intro h3
   ·refine dr ?_;rw [zqV hk' hn h2 h3]<;>rfl
   ·refine dr ?_;refine ⟨k+1,⟨by omega,ziF hk' hn fun h=>h3 h.2⟩,by omega,?_⟩;refine dr ?_;trivial
  ·refine dr ?_;refine ⟨k+1,⟨by omega,ziF hk' hn fun h=>h2 h.1⟩,by omega,?_⟩;refine dr ?_;trivial
 ·have hkl:k=w.leases.length:=by omega
  rw [hkl,List.take_length] at hn;refine dr ?_;rw [hn]<;>rfl
def zf6:XC:=(.s (.r [.ex 1 (.box 0),.m1 2 .n]) (.s (.s (.r [.m1 3 (.i 0)]) (.blk 0 (.loop (.s (.s (.r [.mv 6 3,.f1 7 5 1,.l1 8 1 7,.n1 9 8,.b1 10 .lss 6 9]) (.cnd 10 .skip (.exit 0))) (.s (.blk 1 (.s (.r [.f1 13 5 1,.l1 14 1 13,.mv 15 3,.i1 16 4 14 15,.l2 17 4 16,.ex 4 (.alloc [(I 0),sE,(I 0),(I 0)]),.s1 4 4 17]) (.s (.s (.r [.f1 18 0 4,.l1 19 1 18,.c1 20 37 [19],.ex 21 (.un .not 20),.mv 22 21,.gf 23 (.fa 1 4) 22,.gf 24 (.ld false 1 23) 22,.gf 25 (.call 106 [24]) 22,.gf 26 (.un .not 25) 22,.ex 27 (.pick 22 .y 26),.mv 28 27,.gf 29 (.fa 2 4) 28,.gf 30 (.ld false 1 29) 28,.gf 31 (.bin .lss 30 (.i 1)) 28,.ex 32 (.pick 28 .y 31),.mv 33 32,.gf 34 (.fa 2 4) 33,.gf 35 (.ld false 1 34) 33,.gf 36 (.fa 4 1) 33,.gf 37 (.ld false 1 36) 33,.gf 38 (.bin .gtr 35 37) 33,.ex 39 (.pick 33 .y 38),.mv 40 39,.gf 41 (.fa 3 4) 40,.gf 42 (.ld false 1 41) 40,.gf 43 (.fa 3 1) 40,.gf 44 (.ld false 1 43) 40,.gf 45 (.bin .add 44 (.i 5)) 40,.gf 46 (.bin .gtr 42 45) 40,.ex 47 (.pick 40 .y 46)]) (.cnd 47 (.s (.r [.m1 2 .n]) .ret) .skip)) (.s (.r [.m1 5 (.i 0)]) (.blk 2 (.loop (.s (.s (.r [.mv 48 5,.mv 49 3,.b1 50 .lss 48 49]) (.cnd 50 .skip (.exit 2))) (.s (.blk 3 (.s (.d [.f1 53 5 1,.l1 54 1 53,.mv 55 5,.i1 56 4 54 55,.f1 57 0 56,.l1 58 1 57,.f1 59 0 4,.l1 60 1 59,.b1 61 .eql 58 60,.mv 62 61,.gt 63 (.fa 5 1) 62,.gt 64 (.ld false 1 63) 62,.gt 65 (.mv 5) 62,.gt 66 (.ia 4 64 65) 62,.gt 67 (.fa 1 66) 62,.gt 68 (.ld false 1 67) 62,.gt 69 (.fa 1 4) 62,.gt 70 (.ld false 1 69) 62,.gt 71 (.bin .eql 68 70) 62,.ex 72 (.pick 62 71 .n)]) (.cnd 72 (.s (.r [.m1 2 .n]) .ret) .skip))) (.r [.mv 51 5,.b1 52 .add 51 (.i 1),.mv 5 52]))))))))) (.r [.mv 11 3,.b1 12 .add 11 (.i 1),.mv 3 12])))))) (.s (.r [.m1 2 .y]) .ret)))
theorem znk:zc Tryz.prog [] 64=some (zf6.ac,[(.t 2)],73):=by kernel_rfl
theorem zpt (W0:World) (w:Wld) (hp:w.clock≤10000):Fn Tryz.prog W0 64 [zA w] (.c (CB (tb (LsOk w)))) []:=by
 refine fnX (c:=zf6) mixed znk (by simp) rfl fun hg=>?_
 have g0:=yQ (hg _ (by simp:zA w∈_));have g1:w.leases.length≤9223372036854775807:=zZ (g0 _ (by simp:zw w.leases∈_));have g2:=goodI (g0 _ (by simp:CI w.clock∈_));refine dr ?_;refine lp (σ:=Nat) (fun k=>[(1,.ptr 16 0),(3,I k)]) (fun _=>[(16,wBx w)]) (fun k=>k≤w.leases.length∧(∀ l∈w.leases.take k,LsG w l)∧(w.leases.take k).Pairwise LsD) (fun k=>w.leases.length - k) 0 ⟨by omega,by simp,by simp⟩ ?_ ?_
 ·refine dr ?_;trivial
 rintro k ⟨hk,hA,hP⟩;refine dr ?_;apply cP<;>intro h1;rotate_left
 ·have hkl:k=w.leases.length:=by omega
  rw [hkl,List.take_length] at hA hP;refine dr ?_;exact pT ⟨hA,hP⟩
 have hk':k < w.leases.length:=by omega
 have no:¬ LsG w w.leases[k]→CB false=CB (tb (LsOk w)):=fun h=>pF fun hh=>h (hh.g _ (List.getElem_mem hk'))
 refine dr ?_;refine c0 (Y6 W0 _) rfl ?_;refine dEr ?_;apply cP<;>intro a1
 ·refine dr ?_;exact no fun h=>a1 h.1
 refine dEr ?_;repeat (refine c0 (qE W0 _) rfl ?_; first | refine dEr ?_ | exact dz)
 apply cP<;>intro a2
 ·refine dr ?_;exact no fun h=>by rw [h.2.1] at a2; cases a2
 refine dr ?_;apply cP<;>intro a3
 ·refine dr ?_;exact no fun h=>by have:=h.2.2.1; omega
 refine dr ?_;apply cP<;>intro a4
 ·refine dr ?_;exact no fun h=>by have:=h.2.2.2.1; omega
 refine dr ?_;repeat (refine oB (by omega) ?_; first | refine dr ?_ | exact dz)
 apply cP<;>intro a5
 ·refine dr ?_;exact no fun h=>by have:=h.2.2.2.2; omega
 refine dr ?_;refine lp (σ:=Nat) (fun j=>[(1,.ptr 16 0),(3,I k),(4,.ptr 64 0),(5,I j)]) (fun _=>[(16,wBx w),(64,.box (lCs w.leases[k]))]) (fun j=>j≤k∧∀ l∈w.leases.take j,LsD l w.leases[k]) (fun j=>k - j) 0 ⟨by omega,by simp⟩ ?_ ?_
 ·refine dr ?_;trivial
 rintro j ⟨hj,hD⟩;refine dr ?_;apply cP<;>intro b1;rotate_left
 ·have hjk:j=k:=by omega
  rw [hjk] at hD;refine dr ?_;refine ⟨k+1,⟨by omega,?_,?_⟩,by omega,?_⟩
  ·rw [List.take_succ_eq_append_getElem hk'];intro l hl;rcases List.mem_append.1 hl with h | h
   ·exact hA l h
   ·rw [List.mem_singleton.1 h]; exact ⟨a1,a2,by omega,by omega,by omega⟩
  ·rw [List.take_succ_eq_append_getElem hk',List.pairwise_append];exact ⟨hP,by simp,fun a ha b hb=>by rw [List.mem_singleton.1 hb]; exact hD a ha⟩
  refine dr ?_;trivial
 have hjl:j < w.leases.length:=by omega
 have next:¬ (w.leases[j].who=w.leases[k].who∧w.leases[j].path=w.leases[k].path)→∀ l∈w.leases.take (j+1),LsD l w.leases[k]:=fun h l hl=>by
  rw [List.take_succ_eq_append_getElem hjl] at hl;rcases List.mem_append.1 hl with h' | h'
  ·exact hD l h'
  ·rw [List.mem_singleton.1 h']; exact h
 refine dr ?_;apply cP<;>intro b2
 ·refine dr ?_;apply cP<;>intro b3
  ·refine dr ?_;refine pF fun hh=>?_
   have:=List.pairwise_iff_getElem.1 hh.d j k hjl hk' (by omega);exact this ⟨b2,b3⟩
  ·refine dr ?_;refine ⟨j+1,⟨by omega,next fun h=>b3 h.2⟩,by omega,?_⟩;refine dr ?_;trivial
 ·refine dr ?_;refine ⟨j+1,⟨by omega,next fun h=>b2 h.1⟩,by omega,?_⟩;refine dr ?_;trivial
def zge:XC:=(.s (.r [.ex 4 (.box 0),.ex 7 (.box 3),.m1 8 .n]) (.s (.s (.r [.f1 13 3 4,.l1 14 1 13,.f1 15 6 7,.l1 16 1 15,.b1 17 .geq 14 16]) (.cnd 17 (.s (.r [.m1 8 .y]) .ret) .skip)) (.s (.r [.mv 19 1,.f1 20 0 7,.l1 21 1 20,.c1 22 121 [19,21],.mv 18 22,.e1 23 18 0,.e1 24 18 1,.ex 9 (.alloc [sE,(B false),sE]),.s1 3 9 23,.mv 10 24]) (.s (.r [.l2 26 14 4,.mv 27 2,.f1 28 0 7,.l1 29 1 28,.c1 30 168 [26,27,29],.mv 25 30,.e1 31 25 0,.e1 32 25 1,.ex 11 (.alloc [(I 0),sE,(I 0),(I 0)]),.s1 4 11 31,.mv 12 32]) (.s (.r [.mv 33 10,.f1 34 1 7,.l1 35 1 34,.ex 36 (.bb false 33 35),.mv 37 36,.gt 38 (.ld true 3 9) 37,.gt 39 (.fa 2 7) 37,.gt 40 (.ld true 3 39) 37,.gt 41 (.beq false [.s,.b,.s] 38 40) 37,.ex 42 (.pick 37 41 .n),.mv 43 42,.gt 44 (.mv 12) 43,.ex 45 (.pick 43 44 .n),.mv 46 45,.gt 47 (.fa 3 4) 46,.gt 48 (.ld false 1 47) 46,.gt 49 (.fa 3 11) 46,.gt 50 (.ld false 1 49) 46,.gt 51 (.bin .lss 48 50) 46,.ex 52 (.pick 46 51 .n),.mv 53 52,.gt 54 (.fa 2 11) 53,.gt 55 (.ld false 1 54) 53,.gt 56 (.fa 5 7) 53,.gt 57 (.ld false 1 56) 53,.gt 58 (.bin .geq 55 57) 53,.ex 59 (.pick 53 58 .n),.mv 60 59,.gt 61 (.fa 3 11) 60,.gt 62 (.ld false 1 61) 60,.gt 63 (.fa 6 7) 60,.gt 64 (.ld false 1 63) 60,.gt 65 (.bin .geq 62 64) 60,.ex 66 (.pick 60 65 .n),.mv 8 66]) .ret)))))
theorem znr:zc Tryz.prog [] 108=some (zge.ac,[(.t 8)],67):=by kernel_rfl
theorem zcZ {w:Wld} {t:List Ent} {who:Int} {h:Hold} (ha:w.clock < h.til):So w t who h↔((get t h.path).isSome=h.has∧(get t h.path).getD noE=h.ent∧(jh w.leases who h.path).isSome=true ∧
  w.clock < ((jh w.leases who h.path).getD noL).til∧h.num≤((jh w.leases who h.path).getD noL).num∧h.til≤((jh w.leases who h.path).getD noL).til):=by
 constructor
 ·intro hs;obtain ⟨l,h1,h2,h3,h4,h5,h6⟩:=hs ha;rw [h1];exact ⟨h2,h3,rfl,h4,h5,h6⟩
 ·rintro ⟨h2,h3,h1,h4,h5,h6⟩ _;obtain ⟨l,hl⟩:=Option.isSome_iff_exists.1 h1;rw [hl] at h4 h5 h6;exact ⟨l,hl,h2,h3,h4,h5,h6⟩
theorem zhv (W0:World) (w:Wld) (t:List Ent) (who:Int) (h:Hold):Fn Tryz.prog W0 108 [zA w,za t,CI who,zD h] (.c (CB (tb (So w t who h)))) []:=by
 refine fnX (c:=zge) mixed znr (by simp) rfl fun hg=>?_
 have hc:=yM W0 t h.path;rw [qL] at hc;have hl:=zps W0 w who h.path;refine dr ?_;apply cP<;>intro h1
 ·refine dr ?_;exact pT fun ha=>by omega
 rw [tb_c (zcZ (by omega))];have e1:=@zcZ w t who h (by omega);generalize (get t h.path)=x at *;unfold eLO at hl;generalize (jh w.leases who h.path)=y at *;refine dEr ?_;repeat ((first | refine c0 hc rfl ?_ | refine c0 hl rfl ?_); first | refine dEr ?_ | exact dz)
 apply cP<;>intro h2;rotate_left
 ·refine dr ?_;exact pF fun hh=>h2 hh.1
 refine dr ?_;rw [Jf];apply cP<;>intro h3;rotate_left
 ·refine dr ?_;exact pF fun hh=>h3 hh.2.1
 refine dr ?_;apply cP<;>intro h4;rotate_left
 ·refine dr ?_;exact pF fun hh=>by rw [hh.2.2.1] at h4; cases h4
 refine dr ?_;apply cP<;>intro h5;rotate_left
 ·refine dr ?_;exact pF fun hh=>by have:=hh.2.2.2.1; omega
 refine dr ?_;apply cP<;>intro h6;rotate_left
 ·refine dr ?_;exact pF fun hh=>by have:=hh.2.2.2.2.1; omega
 refine dr ?_;rw [zaV];exact congrArg CB (tb_c ⟨fun h=>⟨h2,h3,h4,h5,h6,h⟩,fun h=>h.2.2.2.2.2⟩)
def zf3:XC:=(.s (.r [.ex 3 (.box 0),.m1 6 .n]) (.s (.r [.f1 11 6 3,.l1 12 1 11,.mv 13 2,.i1 14 1 12 13,.l1 15 1 14,.a1 7 15 7 53]) (.s (.s (.r [.m1 8 (.i 0)]) (.blk 0 (.loop (.s (.s (.r [.mv 16 8,.mv 17 7,.n1 18 17,.b1 19 .lss 16 18]) (.cnd 19 .skip (.exit 0))) (.s (.blk 1 (.s (.r [.mv 22 7,.mv 23 8,.i1 24 7 22 23,.l2 25 7 24,.ex 9 (.alloc [sE,(B false),sE,(B false),sE,(I 0),(I 0)]),.s1 7 9 25]) (.s (.s (.r [.f1 26 0 9,.l1 27 1 26,.c1 28 106 [27],.ex 29 (.un .not 28),.mv 30 29,.gf 31 (.fa 5 9) 30,.gf 32 (.ld false 1 31) 30,.gf 33 (.bin .lss 32 (.i 0)) 30,.ex 34 (.pick 30 .y 33),.mv 35 34,.gf 36 (.fa 5 9) 35,.gf 37 (.ld false 1 36) 35,.gf 38 (.fa 4 3) 35,.gf 39 (.ld false 1 38) 35,.gf 40 (.bin .gtr 37 39) 35,.ex 41 (.pick 35 .y 40),.mv 42 41,.gf 43 (.ld true 14 3) 42,.gf 44 (.mv 1) 42,.gf 45 (.mv 2) 42,.gf 46 (.ld true 7 9) 42,.gf 47 (.call 108 [43,44,45,46]) 42,.gf 48 (.un .not 47) 42,.ex 49 (.pick 42 .y 48)]) (.cnd 49 (.s (.r [.m1 6 .n]) .ret) .skip)) (.s (.r [.m1 10 (.i 0)]) (.blk 2 (.loop (.s (.s (.r [.mv 50 10,.mv 51 8,.b1 52 .lss 50 51]) (.cnd 52 .skip (.exit 2))) (.s (.blk 3 (.s (.d [.mv 55 7,.mv 56 10,.i1 57 7 55 56,.f1 58 0 57,.l1 59 1 58,.f1 60 0 9,.l1 61 1 60,.b1 62 .eql 59 61]) (.cnd 62 (.s (.r [.m1 6 .n]) .ret) .skip))) (.r [.mv 53 10,.b1 54 .add 53 (.i 1),.mv 10 54]))))))))) (.r [.mv 20 8,.b1 21 .add 20 (.i 1),.mv 8 21])))))) (.s (.r [.m1 6 .y]) .ret))))
theorem znh:zc Tryz.prog [] 66=some (zf3.ac,[(.t 6)],63):=by kernel_rfl
theorem zpr (W0:World) (w:Wld) (t:List Ent) (who:Int) (hw:isW who) (hl:w.holds.length=3):Fn Tryz.prog W0 66 [zA w,za t,CI who] (.c (CB (tb (HdOk w t who)))) []:=by
 refine fnX (c:=zf3) mixed znh (by simp) rfl fun hg=>?_
 refine dr ?_;repeat (refine aHd hw hl ?_; first | refine dr ?_ | exact dz)
 have e0:HdOk w t who↔(∀ h∈hdW w who,HdG w t who h)∧(hdW w who).Pairwise fun a b=>a.path≠b.path:=⟨fun h=>⟨h.g,h.d⟩,fun h=>⟨h.1,h.2⟩⟩
 rw [tb_c e0];have g0:=yQ (hg _ (by simp:zA w∈_));have g1:(hdW w who).length≤9223372036854775807:=by
  have hk:who.toNat < w.holds.length:=by have:=hw.1; have:=hw.2; omega
  have e:hdW w who=w.holds[who.toNat]:=by unfold hdW; rw [List.getD_eq_getElem?_getD,List.getElem?_eq_getElem hk]; rfl
  have:=zan (g0 _ (by simp:jx w.holds∈_)) _ (List.getElem_mem hk) (zf w.holds[who.toNat]) (by simp [zf,CV.cells]);rw [e]; exact zZ this
 generalize hL:hdW w who=L at *;refine lp (σ:=Nat) (fun k=>[(1,.c (za t)),(2,.c (CI who)),(3,.ptr 48 0),(7,.c (zf L)),(8,I k)]) (fun _=>[(48,wBx w)]) (fun k=>k≤L.length∧(∀ h∈L.take k,HdG w t who h)∧(L.take k).Pairwise fun a b=>a.path≠b.path) (fun k=>L.length - k) 0 ⟨by omega,by simp,by simp⟩ ?_ ?_
 ·refine dr ?_;trivial
 rintro k ⟨hk,hA,hP⟩;refine dr ?_;apply cP<;>intro h1;rotate_left
 ·have hkl:k=L.length:=by omega
  rw [hkl,List.take_length] at hA hP;refine dr ?_;exact pT ⟨hA,hP⟩
 have hk':k < L.length:=by omega
 have no:¬ HdG w t who L[k]→CB false=CB (tb ((∀ h∈L,HdG w t who h)∧L.Pairwise fun a b=>a.path≠b.path)):=fun h=>pF fun hh=>h (hh.1 _ (List.getElem_mem hk'))
 refine dEr ?_;repeat (refine c0 (qE W0 _) rfl ?_; first | refine dEr ?_ | exact dz)
 apply cP<;>intro a1
 ·refine dr ?_;exact no fun h=>by rw [h.1] at a1; cases a1
 refine dr ?_;apply cP<;>intro a2
 ·refine dr ?_;exact no fun h=>by have:=h.2.1; omega
 refine dr ?_;apply cP<;>intro a3
 ·refine dr ?_;exact no fun h=>by have:=h.2.2.1; omega
 refine dEr ?_;repeat (refine c0 (zhv W0 w t who L[k]) rfl ?_; first | refine dEr ?_ | exact dz)
 apply cP<;>intro a4
 ·refine dr ?_;exact no fun h=>a4 h.2.2.2
 refine dr ?_;refine lp (σ:=Nat) (fun j=>[(1,.c (za t)),(2,.c (CI who)),(3,.ptr 48 0),(7,.c (zf L)),(8,I k),(9,.ptr 144 0),(10,I j)]) (fun _=>[(48,wBx w),(144,.box (hCs L[k]))]) (fun j=>j≤k∧∀ l∈L.take j,l.path≠L[k].path) (fun j=>k - j) 0 ⟨by omega,by simp⟩ ?_ ?_
 ·refine dr ?_;trivial
 rintro j ⟨hj,hD⟩;refine dr ?_;apply cP<;>intro b1;rotate_left
 ·have hjk:j=k:=by omega
  rw [hjk] at hD;refine dr ?_;refine ⟨k+1,⟨by omega,?_,?_⟩,by omega,?_⟩
  ·rw [List.take_succ_eq_append_getElem hk'];intro l hl;rcases List.mem_append.1 hl with h | h
   ·exact hA l h
   ·rw [List.mem_singleton.1 h]; exact ⟨a1,by omega,by omega,a4⟩
  ·rw [List.take_succ_eq_append_getElem hk',List.pairwise_append];exact ⟨hP,by simp,fun a ha b hb=>by rw [List.mem_singleton.1 hb]; exact hD a ha⟩
  refine dr ?_;trivial
 have hjl:j < L.length:=by omega
 refine dr ?_;apply cP<;>intro b2
 ·refine dr ?_;refine pF fun hh=>?_
  have:=List.pairwise_iff_getElem.1 hh.2 j k hjl hk' (by omega);exact this b2
 ·refine dr ?_;refine ⟨j+1,⟨by omega,fun l hl=>?_⟩,by omega,?_⟩
  ·rw [List.take_succ_eq_append_getElem hjl] at hl;rcases List.mem_append.1 hl with h' | h'
   ·exact hD l h'
   ·rw [List.mem_singleton.1 h']; exact b2
  refine dr ?_;trivial
def zf1:XC:=(.s (.r [.ex 2 (.box 0),.ex 3 (.box 1),.m1 4 .n]) (.s (.r [.f1 7 6 2,.l1 8 1 7,.f1 9 1 3,.l1 10 1 9,.i1 11 1 8 10,.l1 12 1 11,.a1 5 12 7 53]) (.s (.s (.r [.m1 6 (.i 0)]) (.blk 0 (.loop (.s (.s (.r [.mv 13 6,.mv 14 5,.n1 15 14,.b1 16 .lss 13 15]) (.cnd 16 .skip (.exit 0))) (.s (.blk 1 (.s (.d [.mv 19 5,.mv 20 6,.i1 21 7 19 20,.f1 22 0 21,.l1 23 1 22,.f1 24 2 3,.f1 25 0 24,.l1 26 1 25,.b1 27 .eql 23 26,.mv 28 27,.gt 29 (.mv 5) 28,.gt 30 (.mv 6) 28,.gt 31 (.ia 7 29 30) 28,.gt 32 (.fa 5 31) 28,.gt 33 (.ld false 1 32) 28,.gt 34 (.fa 2 3) 28,.gt 35 (.fa 5 34) 28,.gt 36 (.ld false 1 35) 28,.gt 37 (.bin .leq 33 36) 28,.ex 38 (.pick 28 37 .n)]) (.cnd 38 (.s (.r [.m1 4 .n]) .ret) .skip))) (.r [.mv 17 6,.b1 18 .add 17 (.i 1),.mv 6 18])))))) (.s (.d [.f1 39 2 3,.f1 40 5 39,.l1 41 1 40,.f1 42 7 2,.l1 43 1 42,.f1 44 1 3,.l1 45 1 44,.i1 46 1 43 45,.l1 47 1 46,.b1 48 .leq 41 47,.mv 4 48]) .ret))))
theorem znf:zc Tryz.prog [] 109=some (zf1.ac,[(.t 4)],49):=by kernel_rfl
theorem zpp (W0:World) (w:Wld) (m:Msg) (hw:isW m.who) (hl:w.holds.length=3) (hf:w.floors.length=3):Fn Tryz.prog W0 109 [zA w,eMsg m] (.c (CB (tb (Jb w m)))) []:=by
 refine fnX (c:=zf1) mixed znf (by simp) rfl fun hg=>?_
 refine dr ?_;repeat (refine aHd hw hl ?_; first | refine dr ?_ | exact dz)
 have g0:=yQ (hg _ (by simp:zA w∈_));have g1:(hdW w m.who).length≤9223372036854775807:=by
  have hk:m.who.toNat < w.holds.length:=by have:=hw.1; have:=hw.2; omega
  have e:hdW w m.who=w.holds[m.who.toNat]:=by unfold hdW; rw [List.getD_eq_getElem?_getD,List.getElem?_eq_getElem hk]; rfl
  have:=zan (g0 _ (by simp:jx w.holds∈_)) _ (List.getElem_mem hk) (zf w.holds[m.who.toNat]) (by simp [zf,CV.cells]);rw [e]; exact zZ this
 have e0:Jb w m↔m.hold.num≤flW w m.who∧∀ h∈hdW w m.who,h.path=m.hold.path→m.hold.num < h.num:=Iff.rfl;rw [tb_c e0];generalize hL:hdW w m.who=L at *;refine lp (σ:=Nat) (fun k=>[(2,.ptr 32 0),(3,.ptr 48 0),(5,.c (zf L)),(6,I k)]) (fun _=>[(32,wBx w),(48,.box (mCs m))]) (fun k=>k≤L.length∧∀ h∈L.take k,h.path=m.hold.path→m.hold.num < h.num) (fun k=>L.length - k) 0 ⟨by omega,by simp⟩ ?_ ?_
 ·refine dr ?_;trivial
 rintro k ⟨hk,hA⟩;refine dr ?_;apply cP<;>intro h1;rotate_left
 ·have hkl:k=L.length:=by omega
  rw [hkl,List.take_length] at hA;refine dr ?_;repeat (refine aFl hw hf ?_; first | refine dr ?_ | exact dz)
  rw [zaV];exact congrArg CB (tb_c ⟨fun h=>⟨h,hA⟩,fun h=>h.1⟩)
 have hk':k < L.length:=by omega
 have next:(L[k].path=m.hold.path→m.hold.num < L[k].num)→∀ h∈L.take (k+1),h.path=m.hold.path→m.hold.num < h.num:=fun h l hl=>by
  rw [List.take_succ_eq_append_getElem hk'] at hl;rcases List.mem_append.1 hl with h' | h'
  ·exact hA l h'
  ·rw [List.mem_singleton.1 h']; exact h
 refine dr ?_;apply cP<;>intro h2
 ·refine dr ?_;apply cP<;>intro h3
  ·refine dr ?_;exact pF fun hh=>by have:=hh.2 _ (List.getElem_mem hk') h2; omega
  ·refine dr ?_;refine ⟨k+1,⟨by omega,next fun _=>by omega⟩,by omega,?_⟩;refine dr ?_;trivial
 ·refine dr ?_;refine ⟨k+1,⟨by omega,next fun h=>absurd h h2⟩,by omega,?_⟩;refine dr ?_;trivial
def zf8:XC:=(.s (.r [.ex 3 (.box 0),.ex 5 (.box 2),.m1 6 .n]) (.s (.r [.f1 8 2 5,.l2 9 7 8,.ex 7 (.alloc [sE,(B false),sE,(B false),sE,(I 0),(I 0)]),.s1 7 7 9]) (.s (.s (.r [.f1 10 1 5,.l1 11 1 10,.c1 12 37 [11],.ex 13 (.un .not 12),.mv 14 13,.gf 15 (.fa 0 7) 14,.gf 16 (.ld false 1 15) 14,.gf 17 (.call 106 [16]) 14,.gf 18 (.un .not 17) 14,.ex 19 (.pick 14 .y 18),.mv 20 19,.gf 21 (.fa 5 7) 20,.gf 22 (.ld false 1 21) 20,.gf 23 (.bin .lss 22 (.i 0)) 20,.ex 24 (.pick 20 .y 23),.mv 25 24,.gf 26 (.fa 5 7) 25,.gf 27 (.ld false 1 26) 25,.gf 28 (.fa 4 3) 25,.gf 29 (.ld false 1 28) 25,.gf 30 (.bin .gtr 27 29) 25,.ex 31 (.pick 25 .y 30),.mv 32 31,.gf 33 (.fa 0 5) 32,.gf 34 (.ld false 1 33) 32,.gf 35 (.bin .lss 34 (.i 1)) 32,.ex 36 (.pick 32 .y 35),.mv 37 36,.gf 38 (.fa 0 5) 37,.gf 39 (.ld false 1 38) 37,.gf 40 (.bin .gtr 39 (.i 4)) 37,.ex 41 (.pick 37 .y 40)]) (.cnd 41 (.s (.r [.m1 6 .n]) .ret) .skip)) (.s (.s (.r [.f1 42 0 5,.l1 43 1 42,.b1 44 .eql 43 (.i 2)]) (.cnd 44 (.s (.d [.f1 45 5 7,.l1 46 1 45,.f1 47 7 3,.l1 48 1 47,.f1 49 1 5,.l1 50 1 49,.i1 51 1 48 50,.l1 52 1 51,.b1 53 .leq 46 52,.mv 54 53,.gf 55 (.ld true 14 3) 54,.gf 56 (.mv 1) 54,.gf 57 (.fa 1 5) 54,.gf 58 (.ld false 1 57) 54,.gf 59 (.ld true 7 7) 54,.gf 60 (.call 108 [55,56,58,59]) 54,.ex 61 (.pick 54 .y 60),.mv 6 61]) .ret) .skip)) (.s (.s (.r [.l2 62 7 7,.f1 63 0 7,.l1 64 1 63,.f1 65 5 7,.l1 66 1 65,.ex 67 (.build [sE,(B false),sE,(B false),sE,(I 0),(I 0)] [(0,(1,64)),(5,(1,66))]),.ex 68 (.beq true [.s,.b,.s,.b,.s,(.i .i64),(.i .i64)] 62 67)]) (.cnd 68 (.s (.r [.m1 6 .n]) .ret) .skip)) (.s (.r [.f1 69 0 5,.l1 70 1 69,.b1 71 .neq 70 (.i 4),.mv 72 71,.gf 73 (.ld true 14 3) 72,.gf 74 (.ld true 9 5) 72,.gf 75 (.call 109 [73,74]) 72,.ex 76 (.pick 72 .y 75),.mv 6 76]) .ret))))))
theorem znm:zc Tryz.prog [] 67=some (zf8.ac,[(.t 6)],77):=by kernel_rfl
theorem zpv (W0:World) (w:Wld) (t:List Ent) (m:Msg) (hl:w.holds.length=3) (hf:w.floors.length=3):Fn Tryz.prog W0 67 [zA w,za t,eMsg m] (.c (CB (tb (MsOk w t m)))) []:=by
 refine fnX (c:=zf8) mixed znm (by simp) rfl fun hg=>?_
 refine dr ?_;refine c0 (Y6 W0 _) rfl ?_;refine dEr ?_;apply cP<;>intro a1
 ·refine dr ?_;exact pF fun h=>a1 h.who
 refine dEr ?_;repeat (refine c0 (qE W0 _) rfl ?_; first | refine dEr ?_ | exact dz)
 apply cP<;>intro a2
 ·refine dr ?_;exact pF fun h=>by rw [h.path] at a2; cases a2
 refine dr ?_;apply cP<;>intro a3
 ·refine dr ?_;exact pF fun h=>by have:=h.num; omega
 refine dr ?_;apply cP<;>intro a4
 ·refine dr ?_;exact pF fun h=>by have:=h.num; omega
 refine dr ?_;apply cP<;>intro a5
 ·refine dr ?_;exact pF fun h=>by have:=h.kind; omega
 refine dr ?_;apply cP<;>intro a6
 ·refine dr ?_;exact pF fun h=>by have:=h.kind; omega
 refine dr ?_;apply cP<;>intro a7
 ·refine dr ?_;repeat (refine aFl a1 hf ?_; first | refine dr ?_ | exact dz)
  apply cP<;>intro a8
  ·refine dr ?_;exact pT ⟨a1,a2,⟨by omega,by omega⟩,⟨by omega,by omega⟩,fun _ => .inl a8,fun h=>absurd a7 h,fun h=>by omega⟩
  ·refine dEr ?_;repeat (refine c0 (zhv W0 w t m.who m.hold) rfl ?_; first | refine dEr ?_ | exact dz)
   refine congrArg CB (tb_c ⟨fun h=>⟨a1,a2,⟨by omega,by omega⟩,⟨by omega,by omega⟩,fun _ => .inr h,fun h=>absurd a7 h,fun h=>by omega⟩,fun h=>?_⟩);rcases h.grant a7 with h | h
   ·omega
   ·exact h
 refine dr ?_;rw [show (eqS m.hold.path m.hold.path&&(eqB m.hold.has false&&(eqS m.hold.ent.path []&&(eqB m.hold.ent.dir false&&(eqS m.hold.ent.data []&&(eqI m.hold.num m.hold.num&&(eqI m.hold.til 0&&true)))))))=decide (m.hold=JC m.hold) from zbc m.hold (JC m.hold)];apply cP<;>intro a8
 ·refine dr ?_;exact pF fun h=>a8 (h.plain a7)
 refine dr ?_;apply cP<;>intro a9
 ·refine dr ?_;exact pT ⟨a1,a2,⟨by omega,by omega⟩,⟨by omega,by omega⟩,fun h=>absurd h a7,fun _=>a8,fun h=>absurd h a9⟩
 ·refine dEr ?_;repeat (refine c0 (zpp W0 w m a1 hl hf) rfl ?_; first | refine dEr ?_ | exact dz)
  exact congrArg CB (tb_c ⟨fun h=>⟨a1,a2,⟨by omega,by omega⟩,⟨by omega,by omega⟩,fun h=>absurd h a7,fun _=>a8,fun _=>h⟩,fun h=>h.back (by omega)⟩)
def zgb:XC:=(.s (.r [.ex 1 (.box 0),.m1 2 .n]) (.s (.s (.r [.f1 4 3 1,.l1 5 1 4,.b1 6 .lss 5 (.i 0),.mv 7 6,.gf 8 (.fa 3 1) 7,.gf 9 (.ld false 1 8) 7,.gf 10 (.bin .gtr 9 (.i 10000)) 7,.ex 11 (.pick 7 .y 10),.mv 12 11,.gf 13 (.fa 4 1) 12,.gf 14 (.ld false 1 13) 12,.gf 15 (.bin .lss 14 (.i 0)) 12,.ex 16 (.pick 12 .y 15),.mv 17 16,.gf 18 (.fa 4 1) 17,.gf 19 (.ld false 1 18) 17,.gf 20 (.bin .gtr 19 (.i 10000)) 17,.ex 21 (.pick 17 .y 20),.mv 22 21,.gf 23 (.fa 6 1) 22,.gf 24 (.ld false 1 23) 22,.gf 25 (.len false 24) 22,.gf 26 (.bin .neq 25 (.i 3)) 22,.ex 27 (.pick 22 .y 26),.mv 28 27,.gf 29 (.fa 7 1) 28,.gf 30 (.ld false 1 29) 28,.gf 31 (.len false 30) 28,.gf 32 (.bin .neq 31 (.i 3)) 28,.ex 33 (.pick 28 .y 32),.mv 34 33,.gf 35 (.fa 8 1) 34,.gf 36 (.ld false 1 35) 34,.gf 37 (.len false 36) 34,.gf 38 (.bin .gtr 37 (.i 12)) 34,.ex 39 (.pick 34 .y 38)]) (.cnd 39 (.s (.r [.m1 2 .n]) .ret) .skip)) (.s (.s (.r [.m1 3 (.i 0)]) (.blk 0 (.loop (.s (.s (.r [.mv 40 3,.b1 41 .lss 40 (.i 3)]) (.cnd 41 .skip (.exit 0))) (.s (.blk 1 (.s (.d [.f1 44 7 1,.l1 45 1 44,.mv 46 3,.i1 47 1 45 46,.l1 48 1 47,.b1 49 .lss 48 (.i 0),.mv 50 49,.gf 51 (.fa 7 1) 50,.gf 52 (.ld false 1 51) 50,.gf 53 (.mv 3) 50,.gf 54 (.ia 1 52 53) 50,.gf 55 (.ld false 1 54) 50,.gf 56 (.fa 4 1) 50,.gf 57 (.ld false 1 56) 50,.gf 58 (.bin .gtr 55 57) 50,.ex 59 (.pick 50 .y 58)]) (.cnd 59 (.s (.r [.m1 2 .n]) .ret) .skip))) (.r [.mv 42 3,.b1 43 .add 42 (.i 1),.mv 3 43])))))) (.s (.r [.m1 2 .y]) .ret))))
theorem zno:zc Tryz.prog [] 63=some (zgb.ac,[(.t 2)],60):=by kernel_rfl
theorem zpz (W0:World) (w:Wld):Fn Tryz.prog W0 63 [zA w] (.c (CB (tb (PlW w)))) []:=by
 refine fnX (c:=zgb) mixed zno (by simp) rfl fun hg=>?_
 refine dr ?_;apply cP<;>intro a1
 ·refine dr ?_;exact pF fun h=>by have:=h.ck; omega
 refine dr ?_;apply cP<;>intro a2
 ·refine dr ?_;exact pF fun h=>by have:=h.ck; omega
 refine dr ?_;apply cP<;>intro a3
 ·refine dr ?_;exact pF fun h=>by have:=h.ct; omega
 refine dr ?_;apply cP<;>intro a4
 ·refine dr ?_;exact pF fun h=>by have:=h.ct; omega
 refine dr ?_;apply cP<;>intro a5
 ·refine dr ?_;exact pF fun h=>by have:=h.hl; omega
 refine dr ?_;apply cP<;>intro a6
 ·refine dr ?_;exact pF fun h=>by have:=h.fl; omega
 refine dr ?_;apply cP<;>intro a7
 ·refine dr ?_;exact pF fun h=>by have:=h.nl; omega
 have hf:w.floors.length=3:=by omega
 refine dr ?_;refine lp (σ:=Nat) (fun k=>[(1,.ptr 16 0),(3,I k)]) (fun _=>[(16,wBx w)]) (fun k=>k≤3∧∀ f∈w.floors.take k,0≤f∧f≤w.count) (fun k=>3 - k) 0 ⟨by omega,by simp⟩ ?_ ?_
 ·refine dr ?_;trivial
 rintro k ⟨hk,hA⟩;refine dr ?_;apply cP<;>intro h1;rotate_left
 ·have hkl:k=w.floors.length:=by omega
  rw [hkl,List.take_length] at hA;refine dr ?_;exact pT ⟨⟨by omega,by omega⟩,⟨by omega,by omega⟩,by omega,by omega,by omega,hA⟩
 have hk':k < w.floors.length:=by omega
 refine dr ?_;apply cP<;>intro h2
 ·refine dr ?_;exact pF fun h=>by have:=h.fr _ (List.getElem_mem hk'); omega
 refine dr ?_;apply cP<;>intro h3
 ·refine dr ?_;exact pF fun h=>by have:=h.fr _ (List.getElem_mem hk'); omega
 ·refine dr ?_;refine ⟨k+1,⟨by omega,fun l hl=>?_⟩,by omega,?_⟩
  ·rw [List.take_succ_eq_append_getElem hk'] at hl;rcases List.mem_append.1 hl with h' | h'
   ·exact hA l h'
   ·rw [List.mem_singleton.1 h']; exact ⟨by omega,by omega⟩
  refine dr ?_;trivial
def zgj:XC:=(.s (.r [.ex 2 (.box 0),.m1 4 .n]) (.s (.s (.r [.f1 7 9 2,.l1 8 1 7,.ex 9 (.un .not 8)]) (.cnd 9 (.s (.r [.f1 10 10 2,.l2 11 4 10,.ex 12 (.build [(I 0),sE,sE,sE] []),.ex 13 (.beq false [(.i .i64),.s,.s,.s] 11 12),.mv 4 13]) .ret) .skip)) (.s (.r [.mv 15 1,.f1 16 10 2,.l2 17 4 16,.c1 18 107 [15,17],.mv 14 18,.e1 19 14 0,.e1 20 14 1,.a1 5 19 3 39,.mv 6 20]) (.s (.r [.mv 21 6,.b1 22 .eql 21 (.i 0),.mv 4 22]) .ret))))
theorem znw:zc Tryz.prog [] 65=some (zgj.ac,[(.t 4)],23):=by kernel_rfl
theorem zpD (W0:World) (w:Wld) (t:List Ent):Fn Tryz.prog W0 65 [zA w,za t] (.c (CB (tb (WtOk w t)))) []:=by
 refine fnX (c:=zgj) mixed znw (by simp) rfl fun hg=>?_
 refine dr ?_;apply cP<;>intro h1
 ·refine dr ?_;rw [show (eqI w.op.kind 0&&(eqS w.op.path []&&(eqS w.op.dest []&&(eqS w.op.data []&&true))))=decide (w.op=jc) from bqOp w.op jc];by_cases h2:w.op=jc
  ·rw [decide_eq_true h2];exact pT ⟨fun _=>h2,fun h=>by rw [h1] at h; cases h⟩
  ·rw [decide_eq_false h2];exact pF fun h=>h2 (h.1 h1)
 ·refine dEr ?_;repeat (refine c0 (J4 W0 t w.op) rfl ?_; first | refine dEr ?_ | exact dz)
  refine congrArg CB ?_;rw [Bool.eq_iff_iff,yL,tb_i];exact ⟨fun h=>⟨fun h2=>(by rw [h1] at h2; cases h2),fun _=>h⟩,fun h=>h.2 h1⟩
def zfc:XC:=(.s (.r [.ex 1 (.box 0),.m1 2 .n]) (.s (.r [.f1 8 0 1,.l2 9 3 8,.c1 10 62 [9],.mv 7 10,.e1 11 7 0,.e1 12 7 1,.a1 3 11 3 39,.mv 4 12]) (.s (.s (.r [.mv 13 4,.ex 14 (.un .not 13),.mv 15 14,.gf 16 (.ld true 14 1) 15,.gf 17 (.call 63 [16]) 15,.gf 18 (.un .not 17) 15,.ex 19 (.pick 15 .y 18),.mv 20 19,.gf 21 (.ld true 14 1) 20,.gf 22 (.call 64 [21]) 20,.gf 23 (.un .not 22) 20,.ex 24 (.pick 20 .y 23),.mv 25 24,.gf 26 (.ld true 14 1) 25,.gf 27 (.mv 3) 25,.gf 28 (.call 65 [26,27]) 25,.gf 29 (.un .not 28) 25,.ex 30 (.pick 25 .y 29)]) (.cnd 30 (.s (.r [.m1 2 .n]) .ret) .skip)) (.s (.s (.r [.m1 5 (.i 0)]) (.blk 0 (.loop (.s (.s (.r [.mv 31 5,.b1 32 .lss 31 (.i 3)]) (.cnd 32 .skip (.exit 0))) (.s (.blk 1 (.s (.r [.l2 35 14 1,.mv 36 3,.mv 37 5,.c1 38 66 [35,36,37],.ex 39 (.un .not 38)]) (.cnd 39 (.s (.r [.m1 2 .n]) .ret) .skip))) (.r [.mv 33 5,.b1 34 .add 33 (.i 1),.mv 5 34])))))) (.s (.s (.r [.m1 6 (.i 0)]) (.blk 2 (.loop (.s (.s (.r [.mv 40 6,.f1 41 8 1,.l1 42 1 41,.n1 43 42,.b1 44 .lss 40 43]) (.cnd 44 .skip (.exit 2))) (.s (.blk 3 (.s (.d [.l2 47 14 1,.mv 48 3,.f1 49 8 1,.l1 50 1 49,.mv 51 6,.i1 52 9 50 51,.l2 53 9 52,.c1 54 67 [47,48,53],.ex 55 (.un .not 54)]) (.cnd 55 (.s (.r [.m1 2 .n]) .ret) .skip))) (.r [.mv 45 6,.b1 46 .add 45 (.i 1),.mv 6 46])))))) (.s (.r [.m1 2 .y]) .ret))))))
theorem zms:zc Tryz.prog [] 21=some (zfc.ac,[(.t 2)],56):=by kernel_rfl
theorem zab (W0:World) (w:Wld):Fn Tryz.prog W0 21 [zA w] (.c (CB (tb (WG w)))) []:=by
 refine fnX (c:=zfc) mixed zms (by simp) rfl fun hg=>?_
 have hv:=zpZ W0 w.over;cases h1:oOk w.over with
 | false =>
  rw [h1] at hv;refine dEr ?_;repeat (refine c0 hv rfl ?_; first | refine dEr ?_ | exact dz)
  exact pF fun h=>by rw [h.ov] at h1; cases h1
 | true =>
  obtain ⟨t',x,g⟩:=OG.of h1;have ev:vwG w.over=x:=g.vwG;rw [h1,if_pos rfl,g.vw] at hv;have g0:=yQ (hg _ (by simp:zA w∈_));have g1:w.net.length≤9223372036854775807:=zZ (g0 _ (by simp:jI w.net∈_));refine dEr ?_;repeat ((first | refine c0 hv rfl ?_ | refine c0 (zpz W0 w) rfl ?_); first | refine dEr ?_ | exact dz)
  apply cP<;>intro a1
  ·refine dr ?_;exact pF fun h=>a1 h.pl
  refine dEr ?_;repeat (refine c0 (zpt W0 w a1.ck.2) rfl ?_; first | refine dEr ?_ | exact dz)
  apply cP<;>intro a2
  ·refine dr ?_;exact pF fun h=>a2 h.ls
  refine dEr ?_;repeat (refine c0 (zpD W0 w x) rfl ?_; first | refine dEr ?_ | exact dz)
  apply cP<;>intro a3
  ·refine dr ?_;exact pF fun h=>a3 (by have:=h.wt; rwa [ev] at this)
  refine dr ?_;refine lp (σ:=Nat) (fun k=>[(1,.ptr 16 0),(3,.c (za x)),(5,I k)]) (fun _=>[(16,wBx w)]) (fun k=>k≤3∧∀ i:Nat,i < k→HdOk w x i) (fun k=>3 - k) 0 ⟨by omega,fun i hi=>by omega⟩ ?_ ?_
  ·refine dr ?_;trivial
  rintro k ⟨hk,hA⟩;refine dr ?_;apply cP<;>intro b1
  ·refine dEr ?_;repeat (refine c0 (zpr W0 w x (k:Int) ⟨by omega,by omega⟩ a1.hl) rfl ?_; first | refine dEr ?_ | exact dz)
   apply cP<;>intro b2
   ·refine dr ?_;exact pF fun h=>b2 (by have:=h.hd k (by omega); rwa [ev] at this)
   ·refine dr ?_;refine ⟨k+1,⟨by omega,fun i hi=>?_⟩,by omega,?_⟩
    ·by_cases he:i=k
     ·subst he; exact b2
     ·exact hA i (by omega)
    refine dr ?_;trivial
  have hA:∀ i:Nat,i < 3→HdOk w x i:=fun i hi=>hA i (by omega)
  refine dr ?_;refine lp (σ:=Nat) (fun k=>[(1,.ptr 16 0),(3,.c (za x)),(6,I k)]) (fun _=>[(16,wBx w)]) (fun k=>k≤w.net.length∧∀ m∈w.net.take k,MsOk w x m) (fun k=>w.net.length - k) 0 ⟨by omega,by simp⟩ ?_ ?_
  ·refine dr ?_;trivial
  rintro k ⟨hk,hM⟩;refine dr ?_;apply cP<;>intro c1
  ·have hk':k < w.net.length:=by omega
   refine dEr ?_;repeat (refine c0 (zpv W0 w x w.net[k] a1.hl a1.fl) rfl ?_; first | refine dEr ?_ | exact dz)
   apply cP<;>intro c2
   ·refine dr ?_;exact pF fun h=>c2 (by have:=h.ms _ (List.getElem_mem hk'); rwa [ev] at this)
   ·refine dr ?_;refine ⟨k+1,⟨by omega,fun l hl=>?_⟩,by omega,?_⟩
    ·rw [List.take_succ_eq_append_getElem hk'] at hl;rcases List.mem_append.1 hl with h' | h'
     ·exact hM l h'
     ·rw [List.mem_singleton.1 h']; exact c2
    refine dr ?_;trivial
  have hkl:k=w.net.length:=by omega
  rw [hkl,List.take_length] at hM;refine dr ?_;exact pT ⟨h1,a1,a2,by rw [ev]; exact a3,by rw [ev]; exact hA,by rw [ev]; exact hM⟩

section
variable {w:Wld}
theorem zig {who:Int} {p:Str}:(qN w who p).over=w.over∧(qN w who p).clock=w.clock∧(qN w who p).holds=w.holds∧(qN w who p).floors=w.floors∧(qN w who p).waits=w.waits∧(qN w who p).op=w.op:=by
 rw [Q1];split
 ·exact ⟨rfl,rfl,rfl,rfl,rfl,rfl⟩
 ·obtain ⟨a,b,_,_,c,d,e,f⟩:=@jZ (grantL w who p) (jO w who p);exact ⟨a,b,c,d,e,f⟩
theorem znZ {m:Msg}:(zH w m).over=w.over∧(zH w m).clock=w.clock∧(zH w m).waits=w.waits∧(zH w m).op=w.op:=by
 unfold zH;split
 ·obtain ⟨a,b,_,_,c,d⟩:=@zig w m.who m.hold.path; exact ⟨a,b,c,d⟩
 ·split
  ·split<;>exact ⟨rfl,rfl,rfl,rfl⟩
  ·split
   ·obtain ⟨a,b,_,_,_,_,c,d⟩:=@jZ { w with holds:=w.holds.set m.who.toNat (zW (hdW w m.who) m.hold.path m.hold.num),floors:=w.floors.set m.who.toNat (zL (flW w m.who) m.hold.num) } ⟨4,m.who,m.hold⟩;exact ⟨a,b,c,d⟩
   ·split<;>exact ⟨rfl,rfl,rfl,rfl⟩
theorem zcv (ev:Ev):(netW w ev).1.over=w.over∧(netW w ev).1.clock=w.clock∧(netW w ev).1.waits=w.waits∧(netW w ev).1.op=w.op:=by
 unfold netW;split
 ·exact ⟨rfl,rfl,rfl,rfl⟩
 ·split
  ·obtain ⟨a,b,_,_,_,_,c,d⟩:=@jZ w (w.net.getD ev.pos.toNat noMs); exact ⟨a,b,c,d⟩
  ·split
   ·exact @znZ { w with net:=w.net.eraseIdx ev.pos.toNat } (w.net.getD ev.pos.toNat noMs)
   ·exact ⟨rfl,rfl,rfl,rfl⟩
def yv (w x:Wld):Prop:=(x.count=w.count∧∀ l∈x.leases,l∈w.leases) ∨
 ∃ who p,x.count=w.count+1∧x.leases=jj w.leases who p (w.count+1)++[⟨who,p,w.count+1,w.clock+5⟩]
theorem yv.refl {x:Wld} (h1:x.count=w.count) (h2:x.leases=w.leases):yv w x := .inl ⟨h1,fun l hl=>by rw [h2] at hl; exact hl⟩
theorem zqy {who:Int} {p:Str}:yv w (qN w who p):=by
 rw [Q1];split
 ·exact .refl rfl rfl
 ·obtain ⟨_,_,a,b,_⟩:=@jZ (grantL w who p) (jO w who p);exact .inr ⟨who,p,a,b⟩
theorem znY {m:Msg}:yv w (zH w m):=by
 unfold zH;split
 ·exact zqy
 ·split
  ·split<;>exact .refl rfl rfl
  ·split
   ·obtain ⟨_,_,a,b,_⟩:=@jZ { w with holds:=w.holds.set m.who.toNat (zW (hdW w m.who) m.hold.path m.hold.num),floors:=w.floors.set m.who.toNat (zL (flW w m.who) m.hold.num) } ⟨4,m.who,m.hold⟩;exact .refl a b
   ·split
    ·exact .inl ⟨rfl,fun l hl=>(Jy.1 hl).1⟩
    ·exact .refl rfl rfl
theorem zre (ev:Ev):yv w (netW w ev).1:=by
 unfold netW;split
 ·exact .refl rfl rfl
 ·split
  ·obtain ⟨_,_,a,b,_⟩:=@jZ w (w.net.getD ev.pos.toNat noMs); exact .refl a b
  ·split
   ·exact @znY { w with net:=w.net.eraseIdx ev.pos.toNat } (w.net.getD ev.pos.toNat noMs)
   ·exact .refl rfl rfl
theorem ztl {op:Op}:yv w (jD w op).1:=by
 unfold jD;split
 ·exact .refl rfl rfl
 ·split
  ·exact .refl rfl rfl
  ·split
   ·obtain ⟨_,_,a,b,_⟩:=@qG (zI w op) { w with waits:=true,op:=op }; exact .refl a b
   ·exact .refl rfl rfl
theorem zta:yv w (tryW w).1:=by
 unfold tryW;split
 ·exact .refl rfl rfl
 ·split
  ·obtain ⟨_,_,a,b,_⟩:=@qG (zI w w.op) w; exact .refl a b
  ·exact .refl rfl rfl
theorem zg4 (ev:Ev):yv w (evW w ev).1:=by
 unfold evW;split
 ·split
  ·obtain ⟨_,_,a,b,_⟩:=@jZ w ⟨1,ev.who,⟨ev.path,false,noE,0,0⟩⟩; exact .refl a b
  ·exact .refl rfl rfl
 ·split
  ·exact ztl
  ·split
   ·exact zta
   ·split
    ·exact .inl ⟨rfl,fun l hl=>(List.mem_filter.1 hl).1⟩
    ·split
     ·exact zre ev
     ·exact .refl rfl rfl
theorem ztk {op:Op}:(jD w op).1.clock=w.clock:=by
 unfold jD;split
 ·rfl
 ·split
  ·rfl
  ·split
   ·exact (@qG (zI w op) { w with waits:=true,op:=op }).2.1
   ·rfl
theorem zs9:(tryW w).1.clock=w.clock:=by
 unfold tryW;split
 ·rfl
 ·split
  ·exact (@qG (zI w w.op) w).2.1
  ·rfl
theorem zg3 (ev:Ev):w.clock≤(evW w ev).1.clock∧(evW w ev).1.clock≤w.clock+1:=by
 have h0:∀ {x:Wld},x.clock=w.clock→w.clock≤x.clock∧x.clock≤w.clock+1:=fun e=>by omega
 unfold evW;split
 ·split
  ·exact h0 (@jZ w ⟨1,ev.who,⟨ev.path,false,noE,0,0⟩⟩).2.1
  ·exact h0 rfl
 ·split
  ·exact h0 ztk
  ·split
   ·exact h0 zs9
   ·split
    ·exact zkf
    ·split
     ·exact h0 (zcv ev).2.1
     ·exact h0 rfl
theorem yv.count {x:Wld} (h:yv w x):w.count≤x.count∧x.count≤w.count+1:=by
 rcases h with ⟨h,_⟩ | ⟨_,_,h,_⟩<;>omega
theorem yv.fresh {x:Wld} (h:yv w x) (hw:WG w):((x.leases.filter fun l=>decide (w.count < l.num)).length:Int)=x.count - w.count:=by
 have hf:∀ l∈w.leases,¬ decide (w.count < l.num)=true:=fun l hl=>by have:=(hw.ls.g l hl).2.2.2.1; simp; omega
 rcases h with ⟨h1,h2⟩ | ⟨who,p,h1,h2⟩
 ·have:x.leases.filter (fun l=>decide (w.count < l.num))=[]:=List.filter_eq_nil_iff.2 fun l hl=>hf l (h2 l hl)
  rw [this,h1]; simp
 ·rw [h2,List.filter_append];have:(jj w.leases who p (w.count+1)).filter (fun l=>decide (w.count < l.num))=[]:=List.filter_eq_nil_iff.2 fun l hl=>hf l (Jy.1 hl).1
  rw [this];rw [List.filter_cons,if_pos (by simp only [decide_eq_true_eq]; omega)];rw [h1]; simp; omega
theorem zsa {l:List Int} {k:Nat} {v:Int} (h:l.getD k 0≤v) (i:Nat):l.getD i 0≤(l.set k v).getD i 0:=by
 simp only [List.getD,List.getElem?_set];split
 ·rename_i hk;subst hk;split
  ·simpa [List.getD] using h
  ·rename_i hl; rw [List.getElem?_eq_none (by omega)]; exact Int.le_refl _
 ·exact Int.le_refl _
theorem znX {m:Msg} (i:Nat):w.floors.getD i 0≤(zH w m).floors.getD i 0:=by
 unfold zH;split
 ·rw [(@zig w m.who m.hold.path).2.2.2.1]; exact Int.le_refl _
 ·split
  ·split<;>exact Int.le_refl _
  ·split
   ·rw [(@jZ { w with holds:=w.holds.set m.who.toNat (zW (hdW w m.who) m.hold.path m.hold.num),floors:=w.floors.set m.who.toNat (zL (flW w m.who) m.hold.num) } ⟨4,m.who,m.hold⟩).2.2.2.2.2.1];refine zsa ?_ i;unfold zL flW;split<;>omega
   ·split<;>exact Int.le_refl _
theorem zog (ev:Ev) (i:Nat):w.floors.getD i 0≤(evW w ev).1.floors.getD i 0:=by
 unfold evW;split
 ·split
  ·rw [(@jZ w ⟨1,ev.who,⟨ev.path,false,noE,0,0⟩⟩).2.2.2.2.2.1]; exact Int.le_refl _
  ·exact Int.le_refl _
 ·split
  ·unfold jD;split
   ·exact Int.le_refl _
   ·split
    ·exact Int.le_refl _
    ·split
     ·rw [(@qG (zI w ev.op) { w with waits:=true,op:=ev.op }).2.2.2.2.2.1]; exact Int.le_refl _
     ·exact Int.le_refl _
  ·split
   ·unfold tryW;split
    ·exact Int.le_refl _
    ·split
     ·rw [(@qG (zI w w.op) w).2.2.2.2.2.1]; exact Int.le_refl _
     ·exact Int.le_refl _
   ·split
    ·exact Int.le_refl _
    ·split
     ·unfold netW;split
      ·exact Int.le_refl _
      ·split
       ·rw [(@jZ w (w.net.getD ev.pos.toNat noMs)).2.2.2.2.2.1]; exact Int.le_refl _
       ·split
        ·exact @znX { w with net:=w.net.eraseIdx ev.pos.toNat } (w.net.getD ev.pos.toNat noMs) i
        ·exact Int.le_refl _
     ·exact Int.le_refl _
theorem zkN {op:Op} (h:zI w op≠[]):(zE (vwG w.over) op).2=0:=by
 refine Classical.byContradiction fun hc=>h ?_
 unfold zI qg;rw [if_neg hc];rw [List.filter_eq_nil_iff];intro l _;simp
theorem ztj {op:Op}:(w.waits=true∧jD w op=(w,21))∨(w.waits=false∧(zE (vwG w.over) op).2≠0∧zI w op=[]∧jD w op=(w,(zE (vwG w.over) op).2)) ∨
  (w.waits=false∧(zE (vwG w.over) op).2=0∧zI w op≠[]∧jD w op=(jP { w with waits:=true,op:=op } (zI w op),20)) ∨
  (w.waits=false∧(zE (vwG w.over) op).2=0∧zI w op=[]∧jD w op=({ w with over:=(oDo w.over op).1 },0)):=by
 unfold jD;cases hw:w.waits with
 | true=>left; exact ⟨rfl,by rw [if_pos rfl]⟩
 | false =>
  right;rw [if_neg (by simp)];by_cases hc:(zE (vwG w.over) op).2=0
  ·right;rw [if_neg (by simp [hc])];by_cases hb:zI w op=[]
   ·right; rw [if_neg (by simp [hb])]; exact ⟨rfl,hc,hb,rfl⟩
   ·left; rw [if_pos hb]; exact ⟨rfl,hc,hb,rfl⟩
  ·left;rw [if_pos hc];refine ⟨rfl,hc,?_,rfl⟩;exact Classical.byContradiction fun hb=>hc (zkN hb)
theorem zs8:(w.waits=false∧tryW w=(w,22))∨(w.waits=true∧zI w w.op≠[]∧tryW w=(jP w (zI w w.op),20)) ∨
  (w.waits=true∧zI w w.op=[]∧tryW w=({ w with over:=(oDo w.over w.op).1,waits:=false,op:=jc },0)):=by
 unfold tryW;cases hw:w.waits with
 | false=>left; exact ⟨rfl,by rw [if_pos rfl]⟩
 | true =>
  right;rw [if_neg (by simp)];by_cases hb:zI w w.op=[]
  ·right; rw [if_neg (by simp [hb])]; exact ⟨rfl,hb,rfl⟩
  ·left; rw [if_pos hb]; exact ⟨rfl,hb,rfl⟩
end

def zfx:XC:=(.s (.r [.ex 4 (.alloc [(I 0),sE,sE,sE])]) (.s (.r [.mv 6 0,.ex 7 (.bsl 1 3 [(.i 1),(.i 2),(.i 2),(.i 3),(.i 4),(.i 5),(.i 1),(.i 5)]),.o1 8 36 [6,7],.mv 9 0,.o1 10 92 [9],.ex 11 (.build [(I 0),sE,sE,sE] [(0,(1,8)),(1,(1,10))]),.ex 5 (.alloc [(I 0),sE,sE,sE]),.s1 4 5 11]) (.cut (.s (.r [.mv 12 1,.n1 13 12,.b1 14 .gtr 13 (.i 0),.mv 15 14,.gt 16 (.fa 0 5) 15,.gt 17 (.ld false 1 16) 15,.gt 18 (.bin .gtr 17 (.i 2)) 15,.ex 19 (.pick 15 18 .n),.mv 20 19,.gt 21 (.mv 0) 20,.gt 22 (.opn 38 [21,(.i 4)]) 20,.gt 23 (.bin .gtr 22 (.i 0)) 20,.ex 24 (.pick 20 23 .n)]) (.cnd 24 (.r [.mv 25 1,.mv 26 0,.mv 27 1,.n1 28 27,.o1 29 38 [26,28],.i1 30 3 25 29,.f1 31 0 30,.l1 32 1 31,.f1 33 1 5,.s1 1 33 32]) .skip)) (.cut (.s (.r [.f1 34 0 5,.l1 35 1 34,.b1 36 .eql 35 (.i 2)]) (.cnd 36 (.r [.mv 37 0,.o1 38 173 [37],.f1 39 3 5,.s1 1 39 38]) .skip)) (.cut (.s (.r [.f1 40 0 5,.l1 41 1 40,.b1 42 .eql 41 (.i 5)]) (.cnd 42 (.r [.mv 43 0,.o1 44 92 [43],.f1 45 2 5,.s1 1 45 44]) .skip)) (.cut (.s (.r [.mv 46 0,.o1 47 38 [46,(.i 50)]]) (.blk 0 (.s (.r [.b1 49 .eql 47 (.i 0),.mv 48 49]) (.cnd 48 (.r [.mv 50 0,.ex 51 (.bsl 1 3 [(.i 0),(.i 6),(.k (.c (.sc (.int .i64 (.negSucc 0))))),(.i 1)]),.o1 52 36 [50,51],.f1 53 0 5,.s1 1 53 52]) (.s (.r [.b1 55 .eql 47 (.i 1),.mv 54 55]) (.cnd 54 (.r [.mv 56 0,.ex 57 (.bsl 1 9 [(.s [47]),(.s []),(.s [47,65]),(.s [47,97,47,98,47,99,47,100])]),.o1 58 95 [56,57],.f1 59 1 5,.s1 1 59 58]) (.s (.r [.b1 61 .eql 47 (.i 2),.mv 60 61]) (.cnd 60 (.r [.mv 62 0,.ex 63 (.bsl 1 9 [(.s [47]),(.s [47,97]),(.s [47,99,47,99,47,99]),(.s [])]),.o1 64 95 [62,63],.f1 65 2 5,.s1 1 65 64]) (.s (.r [.b1 67 .eql 47 (.i 3),.mv 66 67]) (.cnd 66 (.r [.mv 68 0,.ex 69 (.bsl 1 9 [(.s [113]),(.s [65]),(.s [97,98,99,100,101,102,103]),(.s [97,98,99,100,101,102])]),.o1 70 95 [68,69],.f1 71 3 5,.s1 1 71 70]) .skip)))))))))) (.s (.r [.l2 72 4 5,.s1 4 4 72]) .ret)))))))
theorem zmN:zc Tryz.prog [38,36,95,92,173] 112=some (zfx.ac,[(.cell 4 true 4)],73):=by kernel_rfl
theorem Y3 (W0:World) (s:Str) (p:Int) (t:List Ent) (hs:s.length≤2000) (hp:0≤p∧p≤100000) (ht:t.length≤100000) :
  zv Tryz.prog W0 112 [.ptr 1 0,.c (za t)] (Rd s p) (fun x:Op × Int=>p≤x.2∧x.2≤p+8) (fun x => .c (eOp x.1)) (fun x=>Rd s x.2):=by
 refine funW (c:=zfx) mixed zmN (by simp) rfl rfl fun hg=>?_
 refine dr ?_;refine oW (yl W0 s p [1,2,2,3,4,5,1,5] hs (by omega) (by decide)) rfl ⟨rfl,trivial⟩ rfl rfl ⟨1,by decide⟩ fun k hk=>⟨rfl,?_⟩
 refine dr ?_;refine oW (qW W0 s (p+1) hs (by omega)) rfl ⟨rfl,trivial⟩ rfl rfl ⟨_,List.mem_cons_self⟩ fun x hx=>⟨rfl,?_⟩
 refine dEr ?_;refine JR (fun (o:Op) (q:Int)=>[(0,.ptr 1 0),(4,.ptr 64 0),(5,.ptr 80 0)]) (fun o q=>[(1,.box [.c (qe s),.c (CI q)]),(64,.box [.c (CI 0),.c (CS []),.c (CS []),.c (CS [])]),(80,.box [.c (CI o.kind),.c (CS o.path),.c (CS o.dest),.c (CS o.data)])]) (fun o q=>p≤q∧q≤p+4) ?_ ?_
 ·refine dr ?_;apply cP<;>intro h1
  ·refine dr ?_;apply cP<;>intro h2
   ·refine dr ?_;refine oW (zU W0 s (p+1+1) 4 hs (by omega) (by omega)) rfl ⟨rfl,trivial⟩ rfl rfl ⟨0,by omega,by omega⟩ fun k1 hk1=>⟨rfl,?_⟩
    refine dEr ?_;apply cP<;>intro h3
    ·refine dEr ?_;refine oW (zU W0 s (p+1+1+1) t.length hs (by omega) (by omega)) rfl ⟨rfl,trivial⟩ rfl rfl ⟨0,by omega,by omega⟩ fun k2 hk2=>⟨rfl,?_⟩
     refine dEr ?_;repeat (refine aX hk2.1 (hk2.2 (by omega)) fun e he=>?_; first | refine dEr ?_ | exact dz)
     refine ⟨⟨k,e.path,[],[]⟩,p+1+1+1+1,⟨by omega,by omega⟩,?_⟩;refine dr ?_;trivial
    ·refine dEr ?_;refine ⟨⟨k,x,[],[]⟩,p+1+1+1,⟨by omega,by omega⟩,?_⟩;refine dr ?_;trivial
   ·refine dr ?_;refine ⟨⟨k,x,[],[]⟩,p+1+1,⟨by omega,by omega⟩,?_⟩;refine dr ?_;trivial
  ·refine dr ?_;refine ⟨⟨k,x,[],[]⟩,p+1+1,⟨by omega,by omega⟩,?_⟩;refine dr ?_;trivial
 rintro o q ⟨hq1,hq2⟩;refine dr ?_;refine JR (fun (o:Op) (q:Int)=>[(0,.ptr 1 0),(4,.ptr 64 0),(5,.ptr 80 0)]) (fun o q=>[(1,.box [.c (qe s),.c (CI q)]),(64,.box [.c (CI 0),.c (CS []),.c (CS []),.c (CS [])]),(80,.box [.c (CI o.kind),.c (CS o.path),.c (CS o.dest),.c (CS o.data)])]) (fun o q=>p≤q∧q≤p+5) ?_ ?_
 ·refine dr ?_;apply cP<;>intro h1
  ·refine dr ?_;refine oW (zhk W0 s q hs (by omega)) rfl ⟨rfl,trivial⟩ rfl rfl ⟨_,List.mem_cons_self⟩ fun y hy=>⟨rfl,?_⟩
   refine dEr ?_;refine ⟨⟨o.kind,o.path,o.dest,y⟩,q+1,⟨by omega,by omega⟩,?_⟩;refine dr ?_;trivial
  ·refine dr ?_;refine ⟨o,q,⟨by omega,by omega⟩,?_⟩;refine dr ?_;trivial
 rintro o q ⟨hq1,hq2⟩;refine dr ?_;refine JR (fun (o:Op) (q:Int)=>[(0,.ptr 1 0),(4,.ptr 64 0),(5,.ptr 80 0)]) (fun o q=>[(1,.box [.c (qe s),.c (CI q)]),(64,.box [.c (CI 0),.c (CS []),.c (CS []),.c (CS [])]),(80,.box [.c (CI o.kind),.c (CS o.path),.c (CS o.dest),.c (CS o.data)])]) (fun o q=>p≤q∧q≤p+6) ?_ ?_
 ·refine dr ?_;apply cP<;>intro h1
  ·refine dr ?_;refine oW (qW W0 s q hs (by omega)) rfl ⟨rfl,trivial⟩ rfl rfl ⟨_,List.mem_cons_self⟩ fun y hy=>⟨rfl,?_⟩
   refine dEr ?_;refine ⟨⟨o.kind,o.path,y,o.data⟩,q+1,⟨by omega,by omega⟩,?_⟩;refine dr ?_;trivial
  ·refine dr ?_;refine ⟨o,q,⟨by omega,by omega⟩,?_⟩;refine dr ?_;trivial
 rintro o q ⟨hq1,hq2⟩;refine dr ?_;refine JR (fun (o:Op) (q:Int)=>[(0,.ptr 1 0),(4,.ptr 64 0),(5,.ptr 80 0)]) (fun o q=>[(1,.box [.c (qe s),.c (CI q)]),(64,.box [.c (CI 0),.c (CS []),.c (CS []),.c (CS [])]),(80,.box [.c (CI o.kind),.c (CS o.path),.c (CS o.dest),.c (CS o.data)])]) (fun o q=>p≤q∧q≤p+8) ?_ ?_
 ·refine dr ?_;refine oW (zU W0 s q 50 hs (by omega) (by omega)) rfl ⟨rfl,trivial⟩ rfl rfl ⟨0,by omega,by omega⟩ fun v hv=>⟨rfl,?_⟩
  refine dEr ?_;apply cP<;>intro h1
  ·refine dr ?_;refine oW (yl W0 s (q+1) [0,6,-1,1] hs (by omega) (by decide)) rfl ⟨rfl,trivial⟩ rfl rfl ⟨0,by decide⟩ fun y hy=>⟨rfl,?_⟩
   refine dEr ?_;refine ⟨⟨y,o.path,o.dest,o.data⟩,q+1+1,⟨by omega,by omega⟩,?_⟩;refine dr ?_;trivial
  refine dr ?_;apply cP<;>intro h2
  ·refine dr ?_;refine oW (f_of W0 s (q+1) [[47],[],[47,65],[47,97,47,98,47,99,47,100]] hs (by omega) (by decide)) rfl ⟨rfl,trivial⟩ rfl rfl ⟨_,List.mem_cons_self⟩ fun y hy=>⟨rfl,?_⟩
   refine dEr ?_;refine ⟨⟨o.kind,y,o.dest,o.data⟩,q+1+1,⟨by omega,by omega⟩,?_⟩;refine dr ?_;trivial
  refine dr ?_;apply cP<;>intro h3
  ·refine dr ?_;refine oW (f_of W0 s (q+1) [[47],[47,97],[47,99,47,99,47,99],[]] hs (by omega) (by decide)) rfl ⟨rfl,trivial⟩ rfl rfl ⟨_,List.mem_cons_self⟩ fun y hy=>⟨rfl,?_⟩
   refine dEr ?_;refine ⟨⟨o.kind,o.path,y,o.data⟩,q+1+1,⟨by omega,by omega⟩,?_⟩;refine dr ?_;trivial
  refine dr ?_;apply cP<;>intro h4
  ·refine dr ?_;refine oW (f_of W0 s (q+1) [[113],[65],[97,98,99,100,101,102,103],[97,98,99,100,101,102]] hs (by omega) (by decide)) rfl ⟨rfl,trivial⟩ rfl rfl ⟨_,List.mem_cons_self⟩ fun y hy=>⟨rfl,?_⟩
   refine dEr ?_;refine ⟨⟨o.kind,o.path,o.dest,y⟩,q+1+1,⟨by omega,by omega⟩,?_⟩;refine dr ?_;trivial
  refine dr ?_;refine ⟨o,q+1,⟨by omega,by omega⟩,?_⟩;refine dr ?_;trivial
 rintro o q ⟨hq1,hq2⟩;refine dr ?_;refine ⟨none,_,_,?_,(o,q),⟨by omega,by omega⟩,rfl,rfl⟩;refine dr ?_;trivial
def zfB:XC:=(.s (.r [.ex 2 (.asn (.k .nil) 3 39)]) (.s (.r [.ex 6 .bsl0,.a1 3 6 3 39]) (.s (.s (.r [.mv 7 0,.ex 8 (.bsl 1 3 [(.i 6),(.i 12),(.i 18),(.i 24),(.i 30),(.i 3),(.i 0)]),.o1 9 36 [7,8],.mv 4 9]) (.blk 0 (.loop (.s (.s (.r [.mv 10 4,.b1 11 .gtr 10 (.i 0)]) (.cnd 11 .skip (.exit 0))) (.s (.blk 1 (.r [.mv 15 3,.mv 16 0,.mv 17 3,.o1 18 112 [16,17],.c1 19 107 [15,18],.mv 14 19,.e1 20 14 0,.e1 21 14 1,.a1 3 20 3 39])) (.r [.mv 12 4,.b1 13 .sub 12 (.i 1),.mv 4 13])))))) (.s (.s (.r [.mv 22 0,.o1 23 38 [22,(.i 20)],.b1 24 .eql 23 (.i 0)]) (.cnd 24 (.s (.r [.m1 5 (.i 0)]) (.blk 2 (.loop (.s (.s (.r [.mv 25 5,.b1 26 .lss 25 (.i 26),.mv 27 26,.gt 28 (.mv 3) 27,.gt 29 (.len false 28) 27,.gt 30 (.bin .lss 29 (.i 16)) 27,.ex 31 (.pick 27 30 .n)]) (.cnd 31 .skip (.exit 2))) (.s (.blk 3 (.r [.mv 35 3,.mv 36 5,.b1 37 .add (.i 97) 36,.ex 38 (.conv .u8 37),.ex 39 (.bsl 1 5 [38]),.ex 40 (.b2s 39),.ex 41 (.bin .add (.s [47,122]) 40),.ex 42 (.build [(I 0),sE,sE,sE] [(0,(1,(.i 2))),(1,(1,41))]),.c1 43 107 [35,42],.mv 34 43,.e1 44 34 0,.e1 45 34 1,.a1 3 44 3 39])) (.r [.mv 32 5,.b1 33 .add 32 (.i 1),.mv 5 33])))))) .skip)) (.s (.r [.mv 46 3,.a1 2 46 3 39]) .ret)))))
theorem zmR:zc Tryz.prog [112,38,36] 150=some (zfB.ac,[(.t 2)],47):=by kernel_rfl
theorem zpa (W0:World) (s:Str) (p:Int) (hs:s.length≤2000) (hp:0≤p∧p≤50000) :
  zv Tryz.prog W0 150 [.ptr 1 0] (Rd s p) (fun x:List Ent × Int=>x.1.length≤17∧p≤x.2∧x.2≤p+242) (fun x => .c (za x.1)) (fun x=>Rd s x.2):=by
 refine funW (c:=zfB) mixed zmR (by simp) rfl rfl fun hg=>?_
 refine dr ?_;refine oW (yl W0 s p [6,12,18,24,30,3,0] hs (by omega) (by decide)) rfl ⟨rfl,trivial⟩ rfl rfl ⟨0,by decide⟩ fun k hk=>⟨rfl,?_⟩
 have hk2:0≤k∧k≤30:=by
  have:∀ x∈([6,12,18,24,30,3,0]:List Int),0≤x∧x≤30:=by decide
  exact this k hk
 refine dEr ?_;refine lz3 48 (fun (t:List Ent) (i q:Int)=>[(0,.ptr 1 0),(3,.c (za t)),(4,.c (CI i))]) (fun _ _ q=>[(1,.box [.c (qe s),.c (CI q)])]) (fun t i q=>t.length≤17∧0≤i∧i≤30∧p≤q∧q≤p+1+8 * (30 - i)) (fun _ i _=>i.toNat) [] k (p+1) ⟨by simp,by omega,by omega,by omega,by omega⟩ ?_ ?_
 ·refine dr ?_;trivial
 rintro t i q ⟨h1,h2,h3,h4,h5⟩;refine dr ?_;apply cP<;>intro h6
 ·refine dr ?_;refine oW (Y3 W0 s q t hs (by omega) (by omega)) rfl ⟨rfl,trivial⟩ rfl rfl ⟨(⟨0,[],[],[]⟩,q),by omega,by omega⟩ fun x hx=>⟨rfl,?_⟩
  obtain ⟨o,q2⟩:=x;have hx1:q≤q2:=hx.1;have hx2:q2≤q+8:=hx.2;refine dEr ?_;repeat (refine c0 (J4 W0 t o) rfl ?_; first | refine dEr ?_ | exact dz)
  refine ⟨(zE t o).1,i - 1,q2,⟨zaY,by omega,by omega,by omega,by omega⟩,by omega,?_⟩;refine dr ?_;trivial
 refine dr ?_;refine oW (zU W0 s q 20 hs (by omega) (by omega)) rfl ⟨rfl,trivial⟩ rfl rfl ⟨0,by omega,by omega⟩ fun v hv=>⟨rfl,?_⟩
 refine dEr ?_;apply cP<;>intro h7
 ·refine dr ?_;refine lp2 (fun (t:List Ent) (j:Nat)=>[(0,.ptr 1 0),(3,.c (za t)),(5,I j)]) (fun _ _=>[(1,.box [.c (qe s),.c (CI (q+1))])]) (fun t j=>t.length≤17∧j≤26) (fun _ j=>26 - j) t 0 ⟨by omega,by omega⟩ ?_ ?_
  ·refine dr ?_;trivial
  rintro t j ⟨g1,g2⟩;refine dr ?_;apply cP<;>intro h8
  ·refine dr ?_;apply cP<;>intro h9
   ·refine dEr ?_;repeat ((first | refine c0 (J4 W0 t ⟨2,_,[],[]⟩) rfl ?_ | refine oB (by simp) ?_); first | refine dEr ?_ | exact dz)
    refine ⟨(zE t ⟨2,[47,122]++[UInt8.ofNat (97+(j:Int)).toNat],[],[]⟩).1,j+1,⟨zaY,by omega⟩,by omega,?_⟩;refine dr ?_;trivial
   ·refine dr ?_;refine ⟨none,_,_,?_,(t,q+1),⟨by omega,by omega,by omega⟩,rfl,rfl⟩;refine dr ?_;trivial
  ·refine dr ?_;refine ⟨none,_,_,?_,(t,q+1),⟨by omega,by omega,by omega⟩,rfl,rfl⟩;refine dr ?_;trivial
 ·refine dr ?_;refine ⟨none,_,_,?_,(t,q+1),⟨by omega,by omega,by omega⟩,rfl,rfl⟩;refine dr ?_;trivial

def zfM:XC:=(.s (.r [.ex 2 (.asn (.k .nil) 3 133)]) (.s (.r [.ex 7 .bsl0,.a1 3 7 3 133]) (.s (.s (.r [.mv 8 0,.ex 9 (.bsl 1 3 [(.i 3),(.i 5),(.i 8),(.i 2),(.i 1),(.i 0),(.i 12)]),.o1 10 36 [8,9],.mv 4 10]) (.blk 0 (.loop (.s (.s (.r [.mv 11 4,.b1 12 .gtr 11 (.i 0)]) (.cnd 12 .skip (.exit 0))) (.s (.blk 1 (.s (.r [.mv 15 0,.o1 16 92 [15],.mv 17 0,.ex 18 (.bsl 1 3 [(.i 1),(.i 2),(.i 3),(.i 4),(.i 1),(.i 3)]),.o1 19 36 [17,18],.ex 20 (.build [sE,(I 0),sE] [(0,(1,16)),(1,(1,19))]),.ex 5 (.alloc [sE,(I 0),sE]),.s1 3 5 20]) (.cut (.s (.r [.f1 21 1 5,.l1 22 1 21,.b1 23 .eql 22 (.i 1)]) (.cnd 23 (.r [.mv 24 0,.o1 25 173 [24],.f1 26 2 5,.s1 1 26 25]) .skip)) (.s (.r [.mv 27 3,.l2 28 3 5,.c1 29 125 [27,28],.a1 6 29 3 133]) (.s (.s (.r [.mv 30 6,.c1 31 171 [30]]) (.cnd 31 (.s (.r [.mv 32 6,.a1 3 32 3 133]) (.exit 1)) .skip)) (.s (.r [.mv 33 6,.f1 34 0 5,.l1 35 1 34,.c1 36 124 [33,35],.a1 6 36 3 133]) (.s (.r [.mv 37 6,.c1 38 171 [37]]) (.cnd 38 (.r [.mv 39 6,.a1 3 39 3 133]) .skip)))))))) (.r [.mv 13 4,.b1 14 .sub 13 (.i 1),.mv 4 14])))))) (.s (.r [.mv 40 3,.a1 2 40 3 133]) .ret))))
theorem zm2:zc Tryz.prog [36,92,173] 151=some (zfM.ac,[(.t 2)],41):=by kernel_rfl
theorem zoe:∀ x∈zbu,pOk x=true:=by decide
theorem zpe (W0:World) (s:Str) (p:Int) (hs:s.length≤2000) (hp:0≤p∧p≤50000) :
  zv Tryz.prog W0 151 [.ptr 1 0] (Rd s p) (fun x:List Mark × Int=>x.1.length≤32∧p≤x.2∧x.2≤p+37) (fun x => .c (ze x.1)) (fun x=>Rd s x.2):=by
 refine funW (c:=zfM) mixed zm2 (by simp) rfl rfl fun hg=>?_
 refine dr ?_;refine oW (yl W0 s p [3,5,8,2,1,0,12] hs (by omega) (by decide)) rfl ⟨rfl,trivial⟩ rfl rfl ⟨0,by decide⟩ fun k hk=>⟨rfl,?_⟩
 have hk2:0≤k∧k≤12:=by
  have:∀ x∈([3,5,8,2,1,0,12]:List Int),0≤x∧x≤12:=by decide
  exact this k hk
 refine dEr ?_;refine lz3 48 (fun (t:List Mark) (i q:Int)=>[(0,.ptr 1 0),(3,.c (ze t)),(4,.c (CI i))]) (fun _ _ q=>[(1,.box [.c (qe s),.c (CI q)])]) (fun t i q=>t.length≤32∧0≤i∧i≤12∧p≤q∧q≤p+1+3 * (12 - i)) (fun _ i _=>i.toNat) [] k (p+1) ⟨by simp,by omega,by omega,by omega,by omega⟩ ?_ ?_
 ·refine dr ?_;trivial
 rintro t i q ⟨h1,h2,h3,h4,h5⟩;refine dr ?_;apply cP<;>intro h6;rotate_left
 ·refine dr ?_;refine ⟨none,_,_,?_,(t,q),⟨by omega,by omega,by omega⟩,rfl,rfl⟩;refine dr ?_;trivial
 refine dr ?_;refine oW (qW W0 s q hs (by omega)) rfl ⟨rfl,trivial⟩ rfl rfl ⟨_,List.mem_cons_self⟩ fun x hx=>⟨rfl,?_⟩
 have hx1:=zoe x hx;refine dr ?_;refine oW (yl W0 s (q+1) [1,2,3,4,1,3] hs (by omega) (by decide)) rfl ⟨rfl,trivial⟩ rfl rfl ⟨1,by decide⟩ fun v hv=>⟨rfl,?_⟩
 refine dEr ?_;refine JR (fun (m:Mark) (r:Int)=>[(0,.ptr 1 0),(3,.c (ze t)),(4,.c (CI i)),(5,.ptr 80 0)]) (fun m r=>[(1,.box [.c (qe s),.c (CI r)]),(80,.box [.c (CS m.path),.c (CI m.kind),.c (CS m.data)])]) (fun m r=>pOk m.path=true∧q≤r∧r≤q+3) ?_ ?_
 ·refine dr ?_;apply cP<;>intro h7
  ·refine dr ?_;refine oW (zhk W0 s (q+1+1) hs (by omega)) rfl ⟨rfl,trivial⟩ rfl rfl ⟨_,List.mem_cons_self⟩ fun y hy=>⟨rfl,?_⟩
   refine dEr ?_;refine ⟨⟨x,v,y⟩,q+1+1+1,⟨hx1,by omega,by omega⟩,?_⟩;refine dr ?_;trivial
  ·refine dr ?_;refine ⟨⟨x,v,[]⟩,q+1+1,⟨hx1,by omega,by omega⟩,?_⟩;refine dr ?_;trivial
 rintro m r ⟨g1,g2,g3⟩;have hpl:(jE t m).length≤t.length+1:=qQ;have hu:=J0 W0 3 (jE t m) m.path g1 (ye g1).1.2 (by omega);refine dEr ?_;repeat ((first | refine c0 (Jp W0 t m (by omega)) rfl ?_ | refine c0 (QY W0 _) rfl ?_); first | refine dEr ?_ | exact dz)
 apply cP<;>intro h7
 ·refine dr ?_;refine ⟨jE t m,i - 1,r,⟨(jo.1 h7).1,by omega,by omega,by omega,by omega⟩,by omega,?_⟩;refine dr ?_;trivial
 ·refine dEr ?_;repeat ((first | refine c0 hu rfl ?_ | refine c0 (QY W0 _) rfl ?_); first | refine dEr ?_ | exact dz)
  apply cP<;>intro h8
  ·refine dr ?_;refine ⟨_,i - 1,r,⟨(jo.1 h8).1,by omega,by omega,by omega,by omega⟩,by omega,?_⟩;refine dr ?_;trivial
  ·refine dr ?_;refine ⟨t,i - 1,r,⟨by omega,by omega,by omega,by omega,by omega⟩,by omega,?_⟩;refine dr ?_;trivial

def NC (x y:PV):Prop:=y=x∨(x = .nil∧y = .c (.row []))
theorem NC.rep {κ:Kap} {m:Mem} {w:World} {x y:PV} {v:Value} (h:NC x y) (hr:zd κ m w x v):zd κ m w y v:=by
 rcases h with rfl | ⟨rfl,rfl⟩
 ·exact hr
 ·obtain ⟨o,rfl⟩:=hr;exact .nil (Nat.zero_le _)
theorem zj.nilC {k0:List Nat} {A:Fr} {m:XM} (bx:Nat) (cs cs':List PV) (hb:lkX m bx=some (.box cs)) (hc:zb NC cs cs'):zj k0 A m A (updX m bx (.box cs')):=fun W0 F K hA hK=>by
 intro w0 κ0 m0 N κ act w hk0 hr;have hmw:=hr.mw;have hW:=hr.big;have hb':lk (Go.Proofs.YteheahbjaddooaaGreatDoor.er m) bx=some (.box cs):=by rw [zT,hb]; rfl
 have all2:∀ {cs cs':List PV} {vs:List Value} {κ:Kap} {m:Mem},zb NC cs cs'→zb (zd κ m w) cs vs→zb (zd κ m w) cs' vs:=by
  intro cs;induction cs with
  | nil=>intro cs' vs κ m h1 h2; cases cs' with | nil=>(cases vs with | nil=>trivial | cons=>exact h2.elim) | cons=>exact h1.elim
  | cons c cs ih =>
   intro cs' vs κ m h1 h2;cases cs' with
   | nil=>exact h1.elim
   | cons d ds=>cases vs with
    | nil=>exact h2.elim
    | cons v vs=>exact ⟨NC.rep h1.1 h2.1,ih h1.2 h2.2⟩
 obtain ⟨g1,g2⟩:=hmw.turn (κ':=κ) (w':=w) (x := .box cs') hW hb' rfl rfl rfl (Nat.le_refl _) rfl (fun _ _=>rfl) (fun _ _ _=>rfl) (.inl rfl) (fun _ h=>⟨⟨cs',rfl⟩,rfl⟩) (fun _ _ _ h=>by cases h) (fun hp=>by
  obtain ⟨g,vs,e,q1,q2,q3⟩:=hmw.mem.blk bx _ hb';exact ⟨g,vs,e,q1,q2,all2 hc (q3.imp fun _ _=>zd.pres hp)⟩) (.inl fun _ _ _ h=>by cases h)
 refine ⟨κ,A,_,⟨g1,hr.start,hr.low0,hr.s0,hr.size,hr.defers,fun t x hx=>?_⟩,?_⟩
 ·obtain ⟨q1,q2⟩:=hr.tmps t x (by rw [← hA t]; exact hx);exact ⟨q1,Rep.pres g2 q2⟩
 ·rw [yi] at hK; exact hK
theorem nc0 {x:PV}:NC x x := .inl rfl
theorem nc1:NC .nil (.c (.row [])) := .inr ⟨rfl,rfl⟩
theorem app1 {α:Type} {f:α→CV} {t:List α} {x:α}:t.map f++[f x]=(t++[x]).map f:=by rw [List.map_append]; rfl
theorem set1 {α:Type} {f:α→CV} {t:List α} {k:Nat} {x:α}:(t.map f).set k (f x)=(t.set k x).map f:=List.map_set.symm
abbrev ovB (o:Over):XB := .box [.c (za o.base),.c (zx o.layers),.c (ze o.upper)]
abbrev ni3:XB := .box [.nil,.nil,.nil]
abbrev rdB (s:Str) (q:Int):XB := .box [.c (qe s),.c (CI q)]
def zfT:XC:=(.s (.r [.ex 2 (.alloc [.nil,.nil,.nil])]) (.s (.r [.mv 9 0,.o1 10 150 [9],.ex 11 (.build [.nil,.nil,.nil] [(0,(1,10))]),.ex 3 (.alloc [.nil,.nil,.nil]),.s1 3 3 11]) (.s (.s (.r [.mv 12 0,.o1 13 38 [12,(.i 3)],.mv 4 13]) (.blk 0 (.loop (.s (.s (.r [.mv 14 4,.b1 15 .gtr 14 (.i 0)]) (.cnd 15 .skip (.exit 0))) (.s (.blk 1 (.s (.r [.l2 18 3 3,.o1 19 102 [18],.ex 5 (.alloc [.nil,.nil,.nil]),.s1 3 5 19]) (.s (.d [.f1 20 1 5,.exl 21 (.ld false 1 20),.mv 22 0,.exl 23 (.opn 151 [22]),.exl 24 (.bsl 1 25 [23]),.ex 25 (.app false 1 24 25 21 24),.f1 26 1 5,.s1 1 26 25]) (.s (.r [.l2 27 3 5,.c1 28 25 [27]]) (.cnd 28 (.r [.l2 29 3 5,.s1 3 3 29]) .skip))))) (.r [.mv 16 4,.b1 17 .sub 16 (.i 1),.mv 4 17])))))) (.s (.s (.r [.mv 30 0,.o1 31 38 [30,(.i 12)],.mv 6 31]) (.blk 2 (.loop (.s (.s (.r [.mv 32 6,.b1 33 .gtr 32 (.i 0)]) (.cnd 33 .skip (.exit 2))) (.s (.blk 3 (.s (.r [.l2 37 3 3,.c1 38 69 [37],.mv 36 38,.e1 39 36 0,.e1 40 36 1,.a1 7 39 3 39,.mv 8 40]) (.s (.r [.mv 41 0,.o1 42 38 [41,(.i 8)]]) (.blk 4 (.s (.r [.b1 52 .eql 42 (.i 0),.mv 51 52]) (.cnd 51 (.r [.l2 54 3 3,.c1 55 152 [54],.mv 53 55,.e1 56 53 0,.e1 57 53 1,.s1 3 3 56]) (.s (.r [.b1 59 .eql 42 (.i 1),.mv 58 59]) (.cnd 58 (.s (.r [.mv 60 0,.o1 61 38 [60,(.i 3)],.b1 62 .eql 61 (.i 0)]) (.cnd 62 (.r [.l2 64 3 3,.c1 65 153 [64],.mv 63 65,.e1 66 63 0,.e1 67 63 1,.s1 3 3 66]) .skip)) (.d [.exl 44 (.ld true 3 3),.mv 45 0,.mv 46 7,.exl 47 (.opn 112 [45,46]),.c1 48 93 [44,47],.mv 43 48,.e1 49 43 0,.e1 50 43 1,.s1 3 3 49]))))))))) (.r [.mv 34 6,.b1 35 .sub 34 (.i 1),.mv 6 35])))))) (.s (.r [.l2 68 3 3,.o1 69 102 [68],.s1 3 2 69]) .ret)))))
theorem zm8:zc Tryz.prog [150,38,102,151,112] 94=some (zfT.ac,[(.cell 2 true 3)],70):=by kernel_rfl
theorem zph (W0:World) (s:Str) (p:Int) (hs:s.length≤2000) (hp:0≤p∧p≤20000) :
  zv Tryz.prog W0 94 [.ptr 1 0] (Rd s p) (fun x:Over × Int=>OS x.1∧p≤x.2∧x.2≤p+600) (fun x => .c (jL x.1)) (fun x=>Rd s x.2):=by
 refine funW (c:=zfT) mixed zm8 (by simp) rfl rfl fun hg=>?_
 refine dr ?_;refine oW (zpa W0 s p hs (by omega)) rfl ⟨rfl,trivial⟩ rfl rfl ⟨([],p),by simp; omega⟩ fun x hx=>⟨rfl,?_⟩
 obtain ⟨b,q0⟩:=x;obtain ⟨hb,hq1,hq2⟩:b.length≤17∧p≤q0∧q0≤p+242:=hx;refine dEr ?_;refine oW (zU W0 s q0 3 hs (by omega) (by omega)) rfl ⟨rfl,trivial⟩ rfl rfl ⟨0,by omega,by omega⟩ fun n hn=>⟨rfl,?_⟩
 have hn2:=hn.2 (by omega);have hn1:=hn.1;refine dEr ?_;refine lq3 (fun (o:Over) (i q:Int)=>[(0,.ptr 1 0),(2,.ptr 32 0),(3,.ptr 48 0),(4,.c (CI i))]) (fun o _ q=>[(1,rdB s q),(32,ni3),(48,ovB o)]) (fun o i q=>OS o∧0≤i∧i≤2∧p≤q∧q≤p+243+37 * (2 - i)) (fun _ i _=>i.toNat) ⟨b,[],[]⟩ n (q0+1) ⟨⟨hb,by simp,by simp,by simp⟩,by omega,by omega,by omega,by omega⟩ ?_ ?_
 ·refine zj.trans (F1:=_) (m1:=_) (zj.nilC 48 [.c (za b),.nil,.nil] [.c (za b),.c (.row []),.c (.row [])] rfl ⟨nc0,nc1,nc1,trivial⟩) (z:=none) ?_;refine dr ?_;trivial
 rintro o i q ⟨ho,hi1,hi2,hq3,hq4⟩;refine dr ?_;apply cP<;>intro h1
 ·refine dr ?_;refine oW (zbJ W0 o (ho.oz.mono (by omega))) rfl trivial rfl rfl ⟨(),trivial⟩ fun _ _=>⟨rfl,?_⟩
  refine dEr ?_;refine oW (zpe W0 s q hs (by omega)) rfl ⟨rfl,trivial⟩ rfl rfl ⟨([],q),by simp; omega⟩ fun x hx=>⟨rfl,?_⟩
  obtain ⟨l,q2⟩:=x;obtain ⟨hl,hr1,hr2⟩:l.length≤32∧q≤q2∧q2≤q+37:=hx;have hn:=ho.n;have q9:=J3 W0 ⟨o.base,o.layers++[l],o.upper⟩;rw [show jL ⟨o.base,o.layers++[l],o.upper⟩ = .agg [za o.base,.row (o.layers.map ze++[ze l]),ze o.upper] by rw [app1]; rfl] at q9;refine dEr ?_;repeat ((first | refine oB (by simp; omega) ?_ | refine oB (by simp) ?_ | refine c0 q9 rfl ?_); first | refine dEr ?_ | exact dz)
  apply cP<;>intro h2
  ·refine dr ?_;refine ⟨⟨o.base,o.layers++[l],o.upper⟩,i - 1,q2,⟨OS.ok h2,by omega,by omega,by omega,by omega⟩,by omega,?_⟩;refine zn.s (z:=some 4) ?_;refine dr ?_;repeat ((first | refine oB (congrArg (fun L=>XB.box [.c (za o.base),.c (.row L),.c (ze o.upper)]) app1) ?_ | refine oB (by simp) ?_); first | refine dr ?_ | exact dz)
   trivial
  ·refine dr ?_;refine ⟨o,i - 1,q2,⟨ho,by omega,by omega,by omega,by omega⟩,by omega,?_⟩;refine zn.s (z:=none) ?_;refine dr ?_;trivial
 refine dr ?_;refine oW (zU W0 s q 12 hs (by omega) (by omega)) rfl ⟨rfl,trivial⟩ rfl rfl ⟨0,by omega,by omega⟩ fun n hn=>⟨rfl,?_⟩
 have hn2:=hn.2 (by omega);have hn1:=hn.1;clear h1;refine dEr ?_;refine lp3 (fun (o:Over) (i r:Int)=>[(0,.ptr 1 0),(2,.ptr 32 0),(3,.ptr 48 0),(6,.c (CI i))]) (fun o _ r=>[(1,rdB s r),(32,ni3),(48,ovB o)]) (fun o i r=>OS o∧0≤i∧i≤11∧p≤r∧r≤p+320+10 * (11 - i)) (fun _ i _=>i.toNat) o n (q+1) ⟨ho,by omega,by omega,by omega,by omega⟩ ?_ ?_
 ·refine dr ?_;trivial
 clear hq3 hq4 ho;rintro o i q ⟨ho,hi1,hi2,hq3,hq4⟩;refine dr ?_;apply cP<;>intro h1
 ·have hv:=Zu W0 o;have hvl:((jg o).getD []).length≤16:=by
   cases hx:jg o with
   | none=>simp
   | some x=>exact (yt (Ys hx)).1
  rw [YQ] at hv;generalize (jg o).getD []=t at *;refine dEr ?_;repeat (refine c0 hv rfl ?_; first | refine dEr ?_ | exact dz)
  refine oW (zU W0 s q 8 hs (by omega) (by omega)) rfl ⟨rfl,trivial⟩ rfl rfl ⟨0,by omega,by omega⟩ fun v hv=>⟨rfl,?_⟩
  refine dEr ?_;apply cP<;>intro h2
  ·refine dEr ?_;repeat (refine c0 (zpY W0 o) rfl ?_; first | refine dEr ?_ | exact dz)
   refine ⟨(Zi o).1,i - 1,q+1,⟨OS.push,by omega,by omega,by omega,by omega⟩,by omega,?_⟩;refine dr ?_;trivial
  refine dr ?_;apply cP<;>intro h3
  ·refine dr ?_;refine oW (zU W0 s (q+1) 3 hs (by omega) (by omega)) rfl ⟨rfl,trivial⟩ rfl rfl ⟨0,by omega,by omega⟩ fun v hv=>⟨rfl,?_⟩
   refine dEr ?_;apply cP<;>intro h4
   ·refine dEr ?_;repeat (refine c0 (zpX W0 o) rfl ?_; first | refine dEr ?_ | exact dz)
    refine ⟨(ZC o).1,i - 1,q+1+1,⟨OS.flat,by omega,by omega,by omega,by omega⟩,by omega,?_⟩;refine dr ?_;trivial
   ·refine dr ?_;refine ⟨o,i - 1,q+1+1,⟨ho,by omega,by omega,by omega,by omega⟩,by omega,?_⟩;refine dr ?_;trivial
  ·refine dr ?_;refine oW (Y3 W0 s (q+1) t hs (by omega) (by omega)) rfl ⟨rfl,trivial⟩ rfl rfl ⟨((⟨0,[],[],[]⟩,q+1):Op × Int),by omega,by omega⟩ fun x hx=>⟨rfl,?_⟩
   obtain ⟨op,r⟩:=x;obtain ⟨hr1,hr2⟩:q+1≤r∧r≤q+1+8:=hx;refine dEr ?_;repeat (refine c0 (zaa W0 o op) rfl ?_; first | refine dEr ?_ | exact dz)
   refine ⟨(oDo o op).1,i - 1,r,⟨OS.do op,by omega,by omega,by omega,by omega⟩,by omega,?_⟩;refine dr ?_;trivial
 ·refine dr ?_;refine oW (zbJ W0 o (ho.oz.mono (by omega))) rfl trivial rfl rfl ⟨(),trivial⟩ fun _ _=>⟨rfl,?_⟩
  refine dEr ?_;refine ⟨some 4,_,_,?_,(o,q),⟨ho,by omega,by omega⟩,rfl,rfl⟩;refine dr ?_;repeat (refine oB (by simp) ?_; first | refine dr ?_ | exact dz)
  trivial
theorem OZ.put {o:Over} {n:Nat} (h:OZ n o) {ls:List (List Mark)} {m:Nat} (h1:ls.length≤m) (h2:∀ l∈ls,l.length≤m) (hm:n≤m):OZ m ⟨o.base,ls,o.upper⟩:=⟨by have:=h.b; simp only; omega,h1,h2,by have:=h.u; simp only; omega⟩
theorem za3 {o:Over}:((jg o).getD []).length≤16:=by
 cases hx:jg o with
 | none=>simp
 | some x=>exact (yt (Ys hx)).1

abbrev wCo (n:Nat) (w:Wld):List PV:=[.c (za w.over.base),.c (zx w.over.layers),.c (ze w.over.upper),I w.clock,I w.count,.c (zw w.leases),.own 4 w.holds.length,.own 5 w.floors.length,.own n w.net.length,B w.waits,I w.op.kind,.c (CS w.op.path),.c (CS w.op.dest),.c (CS w.op.data)]
abbrev wAn (n:Nat) (w:Wld):PV := .agg (wCo n w)
abbrev wMn (n:Nat) (w:Wld):XM:=[(4,.row (w.holds.map zf) 1 56),(5,.row (w.floors.map CI) 1 3),(n,.row (w.net.map eMsg) 9 55)]
abbrev zWB:XB := .box [.nil,.nil,.nil,I 0,I 0,.nil,.nil,.nil,.nil,B false,I 0,.c (CS []),.c (CS []),.c (CS [])]
theorem zj.nilF {k0:List Nat} {m:XM} (A:Fr) (t0:Nat) (h0:lkX A t0=some .nil):zj k0 A m ((t0,.c (.row []))::A) m:=fun W0 F K hA hK=>by
 intro w0 κ0 m0 N κ act w hk0 hr;refine ⟨κ,_,_,⟨hr.mw,hr.start,hr.low0,hr.s0,hr.size,hr.defers,fun t x hx=>?_⟩,hK⟩;rw [zp] at hx;split at hx
 ·rename_i h;subst h;cases hx;have h1:lk F t=some .nil:=by rw [← hA t,← yS]; exact h0
  obtain ⟨q1,q2⟩:=hr.tmps t _ h1;obtain ⟨o,ho⟩:=(show zd κ (Go.Proofs.YteheahbjaddooaaGreatDoor.er m) w .nil (act.tmps.getD t undef) from q2);exact ⟨q1,by rw [ho]; exact RepC.nil (Nat.zero_le _)⟩
 ·exact hr.tmps t x (by rw [← hA t]; exact hx)
theorem zjJ {w:Wld} {m:Msg} (h:w.net.length < 12):zS w m={ w with net:=w.net++[m] }:=by unfold zS; rw [if_pos h]
theorem zjH {w:Wld} {m:Msg} (h:12≤w.net.length):zS w m=w:=by unfold zS; rw [if_neg (by omega)]
theorem zjI {w:Wld} {m:Msg} (h:w.net.length≤1000):(zS w m).net.length≤1000:=by
 unfold zS; split
 ·simp; omega
 ·exact h
theorem xrow1 {α:Type} {f:α→CV} {t:List α} {x:α} {n e:Nat}:XB.row (t.map f++[f x]) n e = .row ((t++[x]).map f) n e:=by rw [List.map_append]; rfl
theorem QA {α:Type} {t:List α} {x:α} {n:Nat}:PV.own n (t.length+1) = .own n (t++[x]).length:=by simp
def zgd:XC:=(.s (.r [.ex 2 (.box 0),.ex 3 (.box 1),.ex 4 (.alloc [.nil,.nil,.nil,(I 0),(I 0),.nil,.nil,.nil,.nil,(B false),(I 0),sE,sE,sE])]) (.s (.s (.r [.f1 5 8 2,.l1 6 1 5,.n1 7 6,.b1 8 .lss 7 (.i 12)]) (.cnd 8 (.r [.f1 9 8 2,.l1 10 1 9,.l2 11 9 3,.ex 12 (.bsl 9 55 [11]),.ex 13 (.app false 9 96 55 10 12),.f1 14 8 2,.s1 1 14 13]) .skip)) (.s (.r [.l2 15 14 2,.s1 14 4 15]) .ret)))
theorem znq:zc Tryz.prog [] 114=some (zgd.ac,[(.cell 4 true 14)],16):=by kernel_rfl
theorem J2 (W0:World) (w:Wld) (m:Msg) (h:w.net.length≤1000):zv Tryz.prog W0 114 [wAn 6 w,.c (eMsg m)] (wMn 6 w) (fun _:Unit=>True) (fun _=>wAn 6 (zS w m)) (fun _=>wMn 6 (zS w m)):=by
 refine funW (c:=zgd) mixed znq (by simp) rfl rfl fun hg=>?_
 refine dr ?_;apply cP<;>intro h1
 ·rw [zjJ (by omega)];refine dr ?_;repeat ((first | refine oB (by simp) ?_ | refine oB (by simp; omega) ?_); first | refine dr ?_ | exact dz)
  refine ⟨none,_,_,?_,(),trivial,rfl,rfl⟩;refine dr ?_;repeat ((first | refine oB (congrArg (fun y=>PV.agg [.c (za w.over.base),.c (zx w.over.layers),.c (ze w.over.upper),I w.clock,I w.count,.c (zw w.leases),.own 4 w.holds.length,.own 5 w.floors.length,y,B w.waits,I w.op.kind,.c (CS w.op.path),.c (CS w.op.dest),.c (CS w.op.data)]) QA) ?_ | refine oB xrow1 ?_); first | refine dr ?_ | exact dz)
  trivial
 ·rw [zjH (by omega)];refine dr ?_;repeat (refine oB (by simp) ?_; first | refine dr ?_ | exact dz)
  refine ⟨none,_,_,?_,(),trivial,rfl,rfl⟩;refine dr ?_;repeat (refine oB (by simp) ?_; first | refine dr ?_ | exact dz)
  trivial
def zgc:XC:=(.s (.r [.ex 2 (.box 0),.ex 4 (.alloc [.nil,.nil,.nil,(I 0),(I 0),.nil,.nil,.nil,.nil,(B false),(I 0),sE,sE,sE])]) (.s (.s (.r [.m1 5 (.i 0)]) (.blk 0 (.loop (.s (.s (.r [.mv 6 5,.mv 7 1,.n1 8 7,.b1 9 .lss 6 8]) (.cnd 9 .skip (.exit 0))) (.s (.blk 1 (.d [.l2 12 14 2,.mv 13 1,.mv 14 5,.i1 15 4 13 14,.f1 16 0 15,.l1 17 1 16,.mv 18 1,.mv 19 5,.i1 20 4 18 19,.f1 21 1 20,.l1 22 1 21,.f1 23 4 2,.l1 24 1 23,.ex 25 (.build [sE,(B false),sE,(B false),sE,(I 0),(I 0)] [(0,(1,22)),(5,(1,24))]),.ex 26 (.build [(I 0),(I 0),sE,(B false),sE,(B false),sE,(I 0),(I 0)] [(0,(1,(.i 3))),(1,(1,17)),(2,(7,25))]),.o1 27 114 [12,26],.s1 14 2 27])) (.r [.mv 10 5,.b1 11 .add 10 (.i 1),.mv 5 11])))))) (.s (.r [.l2 28 14 2,.s1 14 4 28]) .ret)))
theorem znp:zc Tryz.prog [114] 175=some (zgc.ac,[(.cell 4 true 14)],29):=by kernel_rfl
theorem zjv {w:Wld} {b:List Lease} {k:Nat} (h:k < b.length):jP w (b.take (k+1))=zS (jP w (b.take k)) (rclM w.count b[k]):=by
 have e:(jP w (b.take k)).count=w.count:=qG.2.2.1;unfold jP at e ⊢;rw [qX h,e]
theorem zhu (W0:World) (w:Wld) (b:List Lease) (h:w.net.length≤1000) (hb:b.length≤1000000):zv Tryz.prog W0 175 [wAn 6 w,.c (zw b)] (wMn 6 w) (fun _:Unit=>True) (fun _=>wAn 6 (jP w b)) (fun _=>wMn 6 (jP w b)):=by
 refine funW (c:=zgc) mixed znp (by simp) rfl rfl fun hg=>?_
 refine dr ?_;refine lp2 (fun (k:Nat) (x:Wld)=>[(1,.c (zw b)),(2,.ptr 32 0),(4,.ptr 64 0),(5,I k)]) (fun _ x=>[(32,.box (wCo 6 x)),(64,zWB)]++wMn 6 x) (fun k x=>k≤b.length∧x=jP w (b.take k)∧x.net.length≤1000) (fun k _=>b.length - k) 0 w ⟨by omega,rfl,h⟩ ?_ ?_
 ·refine dr ?_;trivial
 rintro k x ⟨hk,hx,hn⟩;refine dr ?_;apply cP<;>intro h1
 ·have hk':k < b.length:=by omega
  have hc:x.count=w.count:=by rw [hx]; exact qG.2.2.1
  refine dr ?_;refine oW (J2 W0 x (rclM x.count b[k]) hn) rfl ⟨rfl,rfl,rfl,trivial⟩ rfl rfl ⟨(),trivial⟩ fun _ _=>⟨rfl,?_⟩
  refine dEr ?_;refine ⟨k+1,zS x (rclM x.count b[k]),⟨by omega,by rw [zjv hk',← hx,hc],zjI hn⟩,by omega,?_⟩;refine dr ?_;trivial
 ·have hkl:k=b.length:=by omega
  rw [hkl,List.take_length] at hx;rw [← hx];refine dr ?_;refine ⟨none,_,_,?_,(),trivial,rfl,rfl⟩;refine dr ?_;trivial
def zf4:XC:=(.s (.r [.m1 4 .n]) (.s (.s (.r [.m1 5 (.i 0)]) (.blk 0 (.loop (.s (.s (.r [.mv 6 5,.mv 7 0,.n1 8 7,.b1 9 .lss 6 8]) (.cnd 9 .skip (.exit 0))) (.s (.blk 1 (.s (.r [.mv 12 0,.mv 13 5,.i1 14 1 12 13,.l1 15 1 14,.mv 16 1,.b1 17 .eql 15 16]) (.cnd 17 (.s (.r [.m1 4 .y]) .ret) .skip))) (.r [.mv 10 5,.b1 11 .add 10 (.i 1),.mv 5 11])))))) (.s (.r [.m1 4 .n]) .ret)))
theorem zni:zc Tryz.prog [] 209=some (zf4.ac,[(.t 4)],18):=by kernel_rfl
theorem zhs (W0:World) (l:List Str) (p:Str) (hl:l.length≤1000000):Fn Tryz.prog W0 209 [js l,CS p] (.c (CB (l.contains p))) []:=by
 refine fnX (c:=zf4) mixed zni (by simp) rfl fun hg=>?_
 refine dr ?_;refine lp (σ:=Nat) (fun k=>[(0,.c (js l)),(1,.c (CS p)),(5,I k)]) (fun _=>[]) (fun k=>k≤l.length∧p ∉ l.take k) (fun k=>l.length - k) 0 ⟨by omega,by simp⟩ ?_ ?_
 ·refine dr ?_;trivial
 rintro k ⟨hk,hA⟩;refine dr ?_;apply cP<;>intro h1
 ·have hk':k < l.length:=by omega
  refine dr ?_;apply cP<;>intro h2
  ·refine dr ?_;exact bT (by rw [List.contains_eq_mem,decide_eq_true_iff,← h2]; exact List.getElem_mem hk')
  ·refine dr ?_;refine ⟨k+1,⟨by omega,fun hl=>?_⟩,by omega,?_⟩
   ·rw [List.take_succ_eq_append_getElem hk'] at hl;rcases List.mem_append.1 hl with h' | h'
    ·exact hA h'
    ·rw [List.mem_singleton] at h'; exact h2 h'.symm
   refine dr ?_;trivial
 ·have hkl:k=l.length:=by omega
  rw [hkl,List.take_length] at hA;refine dr ?_;exact bF (by rw [List.contains_eq_mem,decide_eq_false_iff_not]; exact hA)
theorem zkq {w:Wld} {op:Op}:(qg w op).length≤1000:=by
 unfold qg;split
 ·refine Nat.le_trans zdb ?_;have h1:=@za3 w.over;have h2:=@zaY (vwG w.over) op;have h3:(vwG w.over).length≤16:=h1;omega
 ·simp
def zgi:XC:=(.s (.r [.ex 2 (.box 0),.ex 3 (.box 1),.ex 4 (.asn (.k .nil) 1 9)]) (.s (.r [.f1 10 0 2,.l2 11 3 10,.c1 12 69 [11],.mv 9 12,.e1 13 9 0,.e1 14 9 1,.a1 5 13 3 39,.mv 6 14]) (.s (.r [.mv 16 5,.l2 17 4 3,.c1 18 107 [16,17],.mv 15 18,.e1 19 15 0,.e1 20 15 1,.a1 7 19 3 39,.mv 8 20]) (.s (.s (.r [.mv 21 8,.b1 22 .neq 21 (.i 0)]) (.cnd 22 (.s (.r [.ex 23 .bsl0,.a1 4 23 1 9]) .ret) .skip)) (.s (.r [.mv 24 5,.mv 25 7,.c1 26 120 [24,25],.a1 4 26 1 9]) .ret)))))
theorem znv:zc Tryz.prog [] 208=some (zgi.ac,[(.t 4)],27):=by kernel_rfl
theorem zhw (W0:World) (w:Wld) (op:Op):zv Tryz.prog W0 208 [wAn 6 w,.c (eOp op)] (wMn 6 w) (fun _:Unit=>True) (fun _ => .c (js (qg w op))) (fun _=>wMn 6 w):=by
 refine funW (c:=zgi) mixed znv (by simp) rfl rfl fun hg=>?_
 have hv:=Zu W0 w.over;rw [YQ] at hv;have hvl:=@za3 w.over;have e:qg w op=if (zE ((jg w.over).getD []) op).2=0 then z8 ((jg w.over).getD []) (zE ((jg w.over).getD []) op).1 else []:=rfl
 rw [e];clear e;generalize (jg w.over).getD []=t at *;have hd:=J4 W0 t op;have hdl:=@zaY t op;have ht:=zhl W0 t (zE t op).1 (by omega);generalize zE t op=r at *;refine dEr ?_;repeat ((first | refine c0 hv rfl ?_ | refine c0 hd rfl ?_); first | refine dEr ?_ | exact dz)
 apply cP<;>intro h1
 ·rw [if_neg h1];refine dr ?_;repeat (refine oB (by simp) ?_; first | refine dr ?_ | exact dz)
  refine ⟨some 3,_,_,?_,(),trivial,rfl,rfl⟩;refine zj.trans (z:=none) (zj.nilF _ 0 rfl) ?_;refine dr ?_;repeat (refine oB (by simp) ?_; first | refine dr ?_ | exact dz)
  trivial
 ·rw [if_pos h1];refine dEr ?_;repeat (refine c0 ht rfl ?_; first | refine dEr ?_ | exact dz)
  refine ⟨none,_,_,?_,(),trivial,rfl,rfl⟩;refine dr ?_;repeat (refine oB (by simp) ?_; first | refine dr ?_ | exact dz)
  trivial
theorem zds {w:Wld} {op:Op}:zI w op=w.leases.filter (fun l=>decide (w.clock < l.til)&&(qg w op).contains l.path):=rfl
def zeK:XC:=(.s (.r [.ex 2 (.box 0),.ex 3 (.box 1),.ex 4 (.asn (.k .nil) 4 72)]) (.s (.r [.ex 8 .bsl0,.a1 5 8 4 72]) (.s (.r [.l2 9 14 2,.l2 10 4 3,.o1 11 208 [9,10],.a1 6 11 1 9]) (.s (.s (.r [.m1 7 (.i 0)]) (.blk 0 (.loop (.s (.s (.r [.mv 12 7,.f1 13 5 2,.l1 14 1 13,.n1 15 14,.b1 16 .lss 12 15]) (.cnd 16 .skip (.exit 0))) (.s (.blk 1 (.s (.d [.f1 19 3 2,.l1 20 1 19,.f1 21 5 2,.l1 22 1 21,.mv 23 7,.i1 24 4 22 23,.f1 25 3 24,.l1 26 1 25,.b1 27 .lss 20 26,.mv 28 27,.gt 29 (.mv 6) 28,.gt 30 (.fa 5 2) 28,.gt 31 (.ld false 1 30) 28,.gt 32 (.mv 7) 28,.gt 33 (.ia 4 31 32) 28,.gt 34 (.fa 1 33) 28,.gt 35 (.ld false 1 34) 28,.gt 36 (.call 209 [29,35]) 28,.ex 37 (.pick 28 36 .n)]) (.cnd 37 (.r [.mv 38 5,.f1 39 5 2,.l1 40 1 39,.mv 41 7,.i1 42 4 40 41,.l2 43 4 42,.ex 44 (.bsl 4 72 [43]),.ex 45 (.app false 4 40 72 38 44),.a1 5 45 4 72]) .skip))) (.r [.mv 17 7,.b1 18 .add 17 (.i 1),.mv 7 18])))))) (.s (.r [.mv 46 5,.a1 4 46 4 72]) .ret)))))
theorem zl0:zc Tryz.prog [208] 174=some (zeK.ac,[(.t 4)],47):=by kernel_rfl
theorem zhp (W0:World) (w:Wld) (op:Op) (hl:w.leases.length≤1000000):zv Tryz.prog W0 174 [wAn 6 w,.c (eOp op)] (wMn 6 w) (fun _:Unit=>True) (fun _ => .c (zw (zI w op))) (fun _=>wMn 6 w):=by
 refine funW (c:=zeK) mixed zl0 (by simp) rfl rfl fun hg=>?_
 have ht:=zhw W0 w op;have htl:=@zkq w op;rw [zds];generalize qg w op=ts at *;refine dr ?_;refine oW ht rfl ⟨rfl,rfl,rfl,trivial⟩ rfl rfl ⟨(),trivial⟩ fun _ _=>⟨rfl,?_⟩
 refine dEr ?_;refine lp2 (fun (k:Nat) (out:List Lease)=>[(2,.ptr 32 0),(5,.own 80 out.length),(6,.c (js ts)),(7,I k)]) (fun _ out=>[(32,.box (wCo 6 w)),(80,.row (out.map jy) 4 72)]++wMn 6 w) (fun k out=>k≤w.leases.length∧out=(w.leases.take k).filter (fun l=>decide (w.clock < l.til)&&ts.contains l.path)∧out.length≤k) (fun k _=>w.leases.length - k) 0 [] ⟨by simp,rfl,by simp⟩ ?_ ?_
 ·refine dr ?_;trivial
 rintro k out ⟨hk,ho,hle⟩;refine dr ?_;apply cP<;>intro h1
 ·have hk':k < w.leases.length:=by omega
  refine dr ?_;apply cP<;>intro h2
  ·refine dEr ?_;repeat (refine c0 (zhs W0 ts _ (by omega)) rfl ?_; first | refine dEr ?_ | exact dz)
   apply cP<;>intro h3
   ·refine dr ?_;repeat ((first | refine oB (by simp; omega) ?_ | refine oB (by simp) ?_); first | refine dr ?_ | exact dz)
    refine ⟨k+1,out++[w.leases[k]],⟨by omega,by rw [qF hk' (by rw [decide_eq_true h2,h3]<;>rfl),ho],by simp; omega⟩,by omega,?_⟩;refine dr ?_;repeat (refine oB (by simp<;>rfl) ?_; first | refine dr ?_ | exact dz)
    trivial
   ·refine dr ?_;refine ⟨k+1,out,⟨by omega,by rw [qr hk' (by rw [h3,Bool.and_false]),ho],by omega⟩,by omega,?_⟩;refine dr ?_;trivial
  ·refine dr ?_;refine ⟨k+1,out,⟨by omega,by rw [qr hk' (by rw [decide_eq_false (by omega),Bool.false_and]),ho],by omega⟩,by omega,?_⟩;refine dr ?_;trivial
 have hkl:k=w.leases.length:=by omega
 rw [hkl,List.take_length] at ho;rw [← ho];refine dr ?_;repeat (refine oB (by simp) ?_; first | refine dr ?_ | exact dz)
 refine ⟨some 80,_,_,?_,(),trivial,rfl,rfl⟩;refine dr ?_;repeat (refine oB (by simp<;>rfl) ?_; first | refine dr ?_ | exact dz)
 trivial

def zgm:XC:=(.s (.r [.ex 2 (.box 0),.ex 3 (.box 1),.ex 4 (.alloc [.nil,.nil,.nil,(I 0),(I 0),.nil,.nil,.nil,.nil,(B false),(I 0),sE,sE,sE]),.m1 5 (.i 0)]) (.s (.r [.f1 12 0 2,.l2 13 3 12,.c1 14 69 [13],.mv 11 14,.e1 15 11 0,.e1 16 11 1,.a1 6 15 3 39,.mv 7 16]) (.s (.r [.mv 18 6,.l2 19 4 3,.c1 20 107 [18,19],.mv 17 20,.e1 21 17 0,.e1 22 17 1,.a1 8 21 3 39,.mv 9 22]) (.s (.s (.r [.f1 23 9 2,.l1 24 1 23]) (.cnd 24 (.s (.r [.l2 25 14 2,.s1 14 4 25,.m1 5 (.i 21)]) .ret) .skip)) (.s (.s (.r [.mv 26 9,.b1 27 .neq 26 (.i 0)]) (.cnd 27 (.s (.r [.l2 28 14 2,.mv 29 9,.s1 14 4 28,.mv 5 29]) .ret) .skip)) (.s (.r [.l2 30 14 2,.l2 31 4 3,.o1 32 174 [30,31],.a1 10 32 4 72]) (.s (.s (.r [.mv 33 10,.n1 34 33,.b1 35 .gtr 34 (.i 0)]) (.cnd 35 (.s (.r [.f1 36 9 2,.nu (.st 1 36 .y)]) (.s (.r [.l2 37 4 3,.f1 38 10 2,.s1 4 38 37]) (.s (.r [.l2 39 14 2,.mv 40 10,.o1 41 175 [39,40],.s1 14 4 41,.m1 5 (.i 20)]) .ret))) .skip)) (.s (.r [.f1 43 0 2,.l2 44 3 43,.l2 45 4 3,.c1 46 93 [44,45],.mv 42 46,.e1 47 42 0,.e1 48 42 1,.f1 49 0 2,.s1 3 49 47]) (.s (.r [.l2 50 14 2,.s1 14 4 50,.m1 5 (.i 0)]) .ret)))))))))
theorem znz:zc Tryz.prog [174,175] 115=some (zgm.ac,[(.cell 4 true 14),(.t 5)],51):=by kernel_rfl
theorem za4 {w:Wld} (h:WG w):jg w.over=some (vwG w.over):=by
 obtain ⟨t,g⟩:=h.og;exact g.vw
theorem zpF (W0:World) (w:Wld) (op:Op) (h:WG w) (hl:w.leases.length≤1000000):zv Tryz.prog W0 115 [wAn 6 w,.c (eOp op)] (wMn 6 w) (fun _:Unit=>True) (fun _ => .tup [wAn 6 (jD w op).1,.c (CI (jD w op).2)]) (fun _=>wMn 6 (jD w op).1):=by
 refine funW (c:=zgm) mixed znz (by simp) rfl rfl fun hg=>?_
 have hv:=Zu W0 w.over;rw [za4 h] at hv;have hd:=J4 W0 (vwG w.over) op;have hn:w.net.length≤1000:=by have:=h.pl.nl; omega
 have hb:=zhp W0 w op hl;have hbl:(zI w op).length≤1000000:=Nat.le_trans (List.length_filter_le _ _) hl;have ho:=zaa W0 w.over op;have hw:jD w op=if w.waits=true then (w,21) else if (zE (vwG w.over) op).2≠0 then (w,(zE (vwG w.over) op).2)
  else if zI w op≠[] then (jP { w with waits:=true,op:=op } (zI w op),20)
  else ({ w with over:=(oDo w.over op).1 },0):=rfl
 rw [hw];generalize hb2:zI w op=b at *;generalize zE (vwG w.over) op=r at *;generalize oDo w.over op=o2 at *;refine dEr ?_;repeat ((first | refine c0 hv rfl ?_ | refine c0 hd rfl ?_); first | refine dEr ?_ | exact dz)
 apply cP<;>intro h1
 ·rw [if_pos h1];refine dr ?_;refine ⟨none,_,_,?_,(),trivial,rfl,rfl⟩;refine dr ?_;trivial
 rw [if_neg (by simp [h1])];refine dr ?_;apply cP<;>intro h2
 ·rw [if_pos h2];refine dr ?_;refine ⟨none,_,_,?_,(),trivial,rfl,rfl⟩;refine dr ?_;trivial
 rw [if_neg (fun hh=>hh h2)];refine dr ?_;refine oW hb rfl ⟨rfl,rfl,rfl,trivial⟩ rfl rfl ⟨(),trivial⟩ fun _ _=>⟨rfl,?_⟩
 refine dEr ?_;apply cP<;>intro h3
 ·rw [if_pos (by rintro rfl; simp at h3)];refine dr ?_;refine oW (zhu W0 { w with waits:=true,op:=op } b hn hbl) rfl ⟨rfl,rfl,rfl,trivial⟩ rfl rfl ⟨(),trivial⟩ fun _ _=>⟨rfl,?_⟩
  refine dEr ?_;refine ⟨none,_,_,?_,(),trivial,rfl,rfl⟩;refine dr ?_;trivial
 ·have hb0:b=[]:=List.eq_nil_of_length_eq_zero (by omega);rw [if_neg (by simp [hb0])];refine dEr ?_;repeat (refine c0 ho rfl ?_; first | refine dEr ?_ | exact dz)
  refine ⟨none,_,_,?_,(),trivial,rfl,rfl⟩;refine dr ?_;trivial
def zgh:XC:=(.s (.r [.ex 1 (.box 0),.ex 2 (.alloc [.nil,.nil,.nil,(I 0),(I 0),.nil,.nil,.nil,.nil,(B false),(I 0),sE,sE,sE]),.m1 3 (.i 0)]) (.s (.s (.r [.f1 5 9 1,.l1 6 1 5,.ex 7 (.un .not 6)]) (.cnd 7 (.s (.r [.l2 8 14 1,.s1 14 2 8,.m1 3 (.i 22)]) .ret) .skip)) (.s (.r [.l2 9 14 1,.f1 10 10 1,.l2 11 4 10,.o1 12 174 [9,11],.a1 4 12 4 72]) (.s (.s (.r [.mv 13 4,.n1 14 13,.b1 15 .gtr 14 (.i 0)]) (.cnd 15 (.s (.r [.l2 16 14 1,.mv 17 4,.o1 18 175 [16,17],.s1 14 2 18,.m1 3 (.i 20)]) .ret) .skip)) (.s (.r [.f1 20 0 1,.l2 21 3 20,.f1 22 10 1,.l2 23 4 22,.c1 24 93 [21,23],.mv 19 24,.e1 25 19 0,.e1 26 19 1,.f1 27 0 1,.s1 3 27 25]) (.s (.r [.f1 28 9 1,.nu (.st 1 28 .n)]) (.s (.r [.ex 29 (.build [(I 0),sE,sE,sE] []),.f1 30 10 1,.s1 4 30 29]) (.s (.r [.l2 31 14 1,.s1 14 2 31,.m1 3 (.i 0)]) .ret))))))))
theorem znu:zc Tryz.prog [174,175] 116=some (zgh.ac,[(.cell 2 true 14),(.t 3)],32):=by kernel_rfl
theorem zpC (W0:World) (w:Wld) (h:WG w) (hl:w.leases.length≤1000000):zv Tryz.prog W0 116 [wAn 6 w] (wMn 6 w) (fun _:Unit=>True) (fun _ => .tup [wAn 6 (tryW w).1,.c (CI (tryW w).2)]) (fun _=>wMn 6 (tryW w).1):=by
 refine funW (c:=zgh) mixed znu (by simp) rfl rfl fun hg=>?_
 have hn:w.net.length≤1000:=by have:=h.pl.nl; omega
 have hb:=zhp W0 w w.op hl;have hbl:(zI w w.op).length≤1000000:=Nat.le_trans (List.length_filter_le _ _) hl;have ho:=zaa W0 w.over w.op;have hw:tryW w=if w.waits=false then (w,22) else if zI w w.op≠[] then (jP w (zI w w.op),20)
  else ({ w with over:=(oDo w.over w.op).1,waits:=false,op:=jc },0):=rfl
 rw [hw];generalize hb2:zI w w.op=b at *;generalize oDo w.over w.op=o2 at *;refine dr ?_;apply cP<;>intro h1
 ·rw [if_pos h1];refine dr ?_;refine ⟨none,_,_,?_,(),trivial,rfl,rfl⟩;refine dr ?_;trivial
 rw [if_neg (by simp [h1])];refine dr ?_;refine oW hb rfl ⟨rfl,rfl,rfl,trivial⟩ rfl rfl ⟨(),trivial⟩ fun _ _=>⟨rfl,?_⟩
 refine dEr ?_;apply cP<;>intro h3
 ·rw [if_pos (by rintro rfl; simp at h3)];refine dr ?_;refine oW (zhu W0 w b hn hbl) rfl ⟨rfl,rfl,rfl,trivial⟩ rfl rfl ⟨(),trivial⟩ fun _ _=>⟨rfl,?_⟩
  refine dEr ?_;refine ⟨none,_,_,?_,(),trivial,rfl,rfl⟩;refine dr ?_;trivial
 ·have hb0:b=[]:=List.eq_nil_of_length_eq_zero (by omega);rw [if_neg (by simp [hb0])];refine dEr ?_;repeat (refine c0 ho rfl ?_; first | refine dEr ?_ | exact dz)
  refine ⟨none,_,_,?_,(),trivial,rfl,rfl⟩;refine dr ?_;trivial
theorem zaF {l:List Lease} {who:Int} {p:Str} {num:Int}:jj l who p num=l.filter fun x=>!(x.who==who&&(x.path==p&&decide (x.num≤num))):=rfl
def zbf:XC:=(.s (.r [.ex 8 (.asn (.k .nil) 4 72)]) (.s (.r [.ex 11 .bsl0,.a1 9 11 4 72]) (.s (.s (.r [.m1 10 (.i 0)]) (.blk 0 (.loop (.s (.s (.r [.mv 12 10,.mv 13 0,.n1 14 13,.b1 15 .lss 12 14]) (.cnd 15 .skip (.exit 0))) (.s (.blk 1 (.s (.r [.mv 18 0,.mv 19 10,.i1 20 4 18 19,.f1 21 0 20,.l1 22 1 21,.mv 23 1,.b1 24 .neq 22 23,.mv 25 24,.gf 26 (.mv 0) 25,.gf 27 (.mv 10) 25,.gf 28 (.ia 4 26 27) 25,.gf 29 (.fa 1 28) 25,.gf 30 (.ld false 1 29) 25,.gf 31 (.mv 2) 25,.gf 32 (.bin .neq 30 31) 25,.ex 33 (.pick 25 .y 32),.mv 34 33,.gf 35 (.mv 0) 34,.gf 36 (.mv 10) 34,.gf 37 (.ia 4 35 36) 34,.gf 38 (.fa 2 37) 34,.gf 39 (.ld false 1 38) 34,.gf 40 (.mv 3) 34,.gf 41 (.bin .gtr 39 40) 34,.ex 42 (.pick 34 .y 41)]) (.cnd 42 (.r [.mv 43 9,.mv 44 0,.mv 45 10,.i1 46 4 44 45,.l2 47 4 46,.ex 48 (.bsl 4 72 [47]),.ex 49 (.app false 4 40 72 43 48),.a1 9 49 4 72]) .skip))) (.r [.mv 16 10,.b1 17 .add 16 (.i 1),.mv 10 17])))))) (.s (.r [.mv 50 9,.a1 8 50 4 72]) .ret))))
theorem zga:zc Tryz.prog [] 213=some (zbf.ac,[(.t 8)],51):=by kernel_rfl
theorem zpx (W0:World) (l:List Lease) (who:Int) (p:Str) (num:Int) (hl:l.length≤1000000):Fn Tryz.prog W0 213 [zw l,CI who,CS p,CI num] (.c (zw (jj l who p num))) []:=by
 refine fnX (c:=zbf) mixed zga (by simp) rfl fun hg=>?_
 refine dr ?_;refine lp2 (fun (k:Nat) (out:List Lease)=>[(0,.c (zw l)),(1,.c (CI who)),(2,.c (CS p)),(3,.c (CI num)),(9,.own 144 out.length),(10,I k)]) (fun _ out=>[(144,.row (out.map jy) 4 72)]) (fun k out=>k≤l.length∧out=(l.take k).filter (fun x=>!(x.who==who&&(x.path==p&&decide (x.num≤num))))∧out.length≤k) (fun k _=>l.length - k) 0 [] ⟨by simp,rfl,by simp⟩ ?_ ?_
 ·refine dr ?_;trivial
 rintro k out ⟨hk,ho,hle⟩;refine dr ?_;apply cP<;>intro h1
 ·have hk':k < l.length:=by omega
  have keep:(!(l[k].who==who&&(l[k].path==p&&decide (l[k].num≤num))))=true→out++[l[k]]=(l.take (k+1)).filter (fun x=>!(x.who==who&&(x.path==p&&decide (x.num≤num)))):=fun h=>by rw [qF hk' h,ho]
  refine dr ?_;apply cP<;>intro h2
  ·refine dr ?_;repeat ((first | refine oB (by simp; omega) ?_ | refine oB (by simp) ?_); first | refine dr ?_ | exact dz)
   refine ⟨k+1,out++[l[k]],⟨by omega,keep (by simp [h2]),by simp; omega⟩,by omega,?_⟩;refine dr ?_;repeat (refine oB (by simp<;>rfl) ?_; first | refine dr ?_ | exact dz)
   trivial
  refine dr ?_;apply cP<;>intro h3
  ·refine dr ?_;repeat ((first | refine oB (by simp; omega) ?_ | refine oB (by simp) ?_); first | refine dr ?_ | exact dz)
   refine ⟨k+1,out++[l[k]],⟨by omega,keep (by simp [h3]),by simp; omega⟩,by omega,?_⟩;refine dr ?_;repeat (refine oB (by simp<;>rfl) ?_; first | refine dr ?_ | exact dz)
   trivial
  refine dr ?_;apply cP<;>intro h4
  ·refine dr ?_;repeat ((first | refine oB (by simp; omega) ?_ | refine oB (by simp) ?_); first | refine dr ?_ | exact dz)
   refine ⟨k+1,out++[l[k]],⟨by omega,keep (by simp; omega),by simp; omega⟩,by omega,?_⟩;refine dr ?_;repeat (refine oB (by simp<;>rfl) ?_; first | refine dr ?_ | exact dz)
   trivial
  ·refine dr ?_;refine ⟨k+1,out,⟨by omega,by rw [qr hk' (by simp [h2,h3]; omega),ho],by omega⟩,by omega,?_⟩;refine dr ?_;trivial
 have hkl:k=l.length:=by omega
 rw [hkl,List.take_length] at ho;rw [zaF,← ho];refine dr ?_;repeat (refine oB (by simp) ?_; first | refine dr ?_ | exact dz)
 rfl
theorem zpy (W0:World) (l:List Lease) (who:Int) (p:Str) (num:Int) (hl:l.length≤1000000):zv Tryz.prog W0 213 [.c (zw l),.c (CI who),.c (CS p),.c (CI num)] [] (fun _:Unit=>True) (fun _ => .own 144 (jj l who p num).length) (fun _=>[(144,.row ((jj l who p num).map jy) 4 72)]):=by
 refine funW (c:=zbf) mixed zga (by simp) rfl rfl fun hg=>?_
 refine dr ?_;refine lp2 (fun (k:Nat) (out:List Lease)=>[(0,.c (zw l)),(1,.c (CI who)),(2,.c (CS p)),(3,.c (CI num)),(9,.own 144 out.length),(10,I k)]) (fun _ out=>[(144,.row (out.map jy) 4 72)]) (fun k out=>k≤l.length∧out=(l.take k).filter (fun x=>!(x.who==who&&(x.path==p&&decide (x.num≤num))))∧out.length≤k) (fun k _=>l.length - k) 0 [] ⟨by simp,rfl,by simp⟩ ?_ ?_
 ·refine dr ?_;trivial
 rintro k out ⟨hk,ho,hle⟩;refine dr ?_;apply cP<;>intro h1
 ·have hk':k < l.length:=by omega
  have keep:(!(l[k].who==who&&(l[k].path==p&&decide (l[k].num≤num))))=true→out++[l[k]]=(l.take (k+1)).filter (fun x=>!(x.who==who&&(x.path==p&&decide (x.num≤num)))):=fun h=>by rw [qF hk' h,ho]
  refine dr ?_;apply cP<;>intro h2
  ·refine dr ?_;repeat ((first | refine oB (by simp; omega) ?_ | refine oB (by simp) ?_); first | refine dr ?_ | exact dz)
   refine ⟨k+1,out++[l[k]],⟨by omega,keep (by simp [h2]),by simp; omega⟩,by omega,?_⟩;refine dr ?_;repeat (refine oB (by simp<;>rfl) ?_; first | refine dr ?_ | exact dz)
   trivial
  refine dr ?_;apply cP<;>intro h3
  ·refine dr ?_;repeat ((first | refine oB (by simp; omega) ?_ | refine oB (by simp) ?_); first | refine dr ?_ | exact dz)
   refine ⟨k+1,out++[l[k]],⟨by omega,keep (by simp [h3]),by simp; omega⟩,by omega,?_⟩;refine dr ?_;repeat (refine oB (by simp<;>rfl) ?_; first | refine dr ?_ | exact dz)
   trivial
  refine dr ?_;apply cP<;>intro h4
  ·refine dr ?_;repeat ((first | refine oB (by simp; omega) ?_ | refine oB (by simp) ?_); first | refine dr ?_ | exact dz)
   refine ⟨k+1,out++[l[k]],⟨by omega,keep (by simp; omega),by simp; omega⟩,by omega,?_⟩;refine dr ?_;repeat (refine oB (by simp<;>rfl) ?_; first | refine dr ?_ | exact dz)
   trivial
  ·refine dr ?_;refine ⟨k+1,out,⟨by omega,by rw [qr hk' (by simp [h2,h3]; omega),ho],by omega⟩,by omega,?_⟩;refine dr ?_;trivial
 have hkl:k=l.length:=by omega
 rw [hkl,List.take_length] at ho;rw [zaF,← ho];refine dr ?_;refine ⟨none,_,_,?_,(),trivial,rfl,rfl⟩;refine dr ?_;trivial
theorem zht (W0:World) (l:List Lease) (who:Int) (p:Str) (num:Int) (hl:l.length≤1000000):zv Tryz.prog W0 213 [.c (zw l),.c (CI who),.c (CS p),.c (CI num)] [] (fun _:Unit=>True) (fun _ => .own 7 (jj l who p num).length) (fun _=>[(7,.row ((jj l who p num).map jy) 4 72)]):=(zpy W0 l who p num hl).swp 144 7
def zgg:XC:=(.s (.r [.ex 1 (.box 0),.ex 2 (.alloc [.nil,.nil,.nil,(I 0),(I 0),.nil,.nil,.nil,.nil,(B false),(I 0),sE,sE,sE])]) (.s (.s (.r [.f1 5 3 1,.l1 6 1 5,.b1 7 .lss 6 (.i 10000)]) (.cnd 7 (.r [.f1 8 3 1,.l1 9 1 8,.b1 10 .add 9 (.i 1),.f1 11 3 1,.s1 1 11 10]) .skip)) (.s (.r [.ex 12 .bsl0,.a1 3 12 4 72]) (.s (.s (.r [.m1 4 (.i 0)]) (.blk 0 (.loop (.s (.s (.r [.mv 13 4,.f1 14 5 1,.l1 15 1 14,.n1 16 15,.b1 17 .lss 13 16]) (.cnd 17 .skip (.exit 0))) (.s (.blk 1 (.s (.d [.f1 20 3 1,.l1 21 1 20,.f1 22 5 1,.l1 23 1 22,.mv 24 4,.i1 25 4 23 24,.f1 26 3 25,.l1 27 1 26,.b1 28 .lss 21 27]) (.cnd 28 (.r [.mv 29 3,.f1 30 5 1,.l1 31 1 30,.mv 32 4,.i1 33 4 31 32,.l2 34 4 33,.ex 35 (.bsl 4 72 [34]),.ex 36 (.app false 4 40 72 29 35),.a1 3 36 4 72]) .skip))) (.r [.mv 18 4,.b1 19 .add 18 (.i 1),.mv 4 19])))))) (.s (.r [.mv 37 3,.f1 38 5 1,.s1 1 38 37]) (.s (.r [.l2 39 14 1,.s1 14 2 39]) .ret))))))
theorem znt:zc Tryz.prog [] 117=some (zgg.ac,[(.cell 2 true 14)],40):=by kernel_rfl
theorem zpB (W0:World) (w:Wld) (h:WG w) (hl:w.leases.length≤1000000):zv Tryz.prog W0 117 [wAn 6 w] (wMn 6 w) (fun _:Unit=>True) (fun _=>wAn 6 (yF w)) (fun _=>wMn 6 (yF w)):=by
 refine funW (c:=zgg) mixed znt (by simp) rfl rfl fun hg=>?_
 have hc:=h.pl.ck;have e0:yF w={ w with clock:=j3 w,leases:=w.leases.filter fun l=>decide (j3 w < l.til) }:=rfl;refine dr ?_;apply cP<;>intro h1
 ·have e1:j3 w=w.clock+1:=by unfold j3; rw [if_pos (by omega)]
  rw [e0,e1];clear e0 e1;refine dr ?_;refine lp2 (fun (k:Nat) (out:List Lease)=>[(1,.ptr 16 0),(2,.ptr 32 0),(3,.own 48 out.length),(4,I k)]) (fun _ out=>[(16,.box (wCo 6 { w with clock:=w.clock+1 })),(32,zWB),(48,.row (out.map jy) 4 72)]++wMn 6 w) (fun k out=>k≤w.leases.length∧out=(w.leases.take k).filter (fun l=>decide (w.clock+1 < l.til))∧out.length≤k) (fun k _=>w.leases.length - k) 0 [] ⟨by simp,rfl,by simp⟩ ?_ ?_
  ·refine dr ?_;trivial
  rintro k out ⟨hk,ho,hle⟩;refine dr ?_;apply cP<;>intro h2
  ·have hk':k < w.leases.length:=by have:(k:Int) < (w.leases.length:Int):=h2; omega
   refine dr ?_;apply cP<;>intro h3
   ·refine dr ?_;repeat ((first | refine oB (by simp; omega) ?_ | refine oB (by simp) ?_); first | refine dr ?_ | exact dz)
    refine ⟨k+1,out++[w.leases[k]],⟨by omega,by rw [qF hk' (decide_eq_true h3),ho],by simp; omega⟩,by omega,?_⟩;refine dr ?_;repeat (refine oB (by simp<;>rfl) ?_; first | refine dr ?_ | exact dz)
    trivial
   ·refine dr ?_;refine ⟨k+1,out,⟨by omega,by rw [qr hk' (decide_eq_false (Int.not_lt.2 h3)),ho],by omega⟩,by omega,?_⟩;refine dr ?_;trivial
  have hkl:k=w.leases.length:=by have:(w.leases.length:Int)≤(k:Int):=h2; omega
  rw [hkl,List.take_length] at ho;rw [← ho];refine dr ?_;refine ⟨some 48,_,_,?_,(),trivial,rfl,rfl⟩;refine dr ?_;repeat (refine oB (by simp<;>rfl) ?_; first | refine dr ?_ | exact dz)
  trivial
 ·have e1:j3 w=w.clock:=by unfold j3; rw [if_neg (by omega)]
  rw [e0,e1];clear e0 e1;refine dr ?_;refine lp2 (fun (k:Nat) (out:List Lease)=>[(1,.ptr 16 0),(2,.ptr 32 0),(3,.own 48 out.length),(4,I k)]) (fun _ out=>[(16,.box (wCo 6 w)),(32,zWB),(48,.row (out.map jy) 4 72)]++wMn 6 w) (fun k out=>k≤w.leases.length∧out=(w.leases.take k).filter (fun l=>decide (w.clock < l.til))∧out.length≤k) (fun k _=>w.leases.length - k) 0 [] ⟨by simp,rfl,by simp⟩ ?_ ?_
  ·refine dr ?_;trivial
  rintro k out ⟨hk,ho,hle⟩;refine dr ?_;apply cP<;>intro h2
  ·have hk':k < w.leases.length:=by have:(k:Int) < (w.leases.length:Int):=h2; omega
   refine dr ?_;apply cP<;>intro h3
   ·refine dr ?_;repeat ((first | refine oB (by simp; omega) ?_ | refine oB (by simp) ?_); first | refine dr ?_ | exact dz)
    refine ⟨k+1,out++[w.leases[k]],⟨by omega,by rw [qF hk' (decide_eq_true h3),ho],by simp; omega⟩,by omega,?_⟩;refine dr ?_;repeat (refine oB (by simp<;>rfl) ?_; first | refine dr ?_ | exact dz)
    trivial
   ·refine dr ?_;refine ⟨k+1,out,⟨by omega,by rw [qr hk' (decide_eq_false (Int.not_lt.2 h3)),ho],by omega⟩,by omega,?_⟩;refine dr ?_;trivial
  have hkl:k=w.leases.length:=by have:(w.leases.length:Int)≤(k:Int):=h2; omega
  rw [hkl,List.take_length] at ho;rw [← ho];refine dr ?_;refine ⟨some 48,_,_,?_,(),trivial,rfl,rfl⟩;refine dr ?_;repeat (refine oB (by simp<;>rfl) ?_; first | refine dr ?_ | exact dz)
  trivial
def zgf:XC:=(.s (.r [.ex 3 (.box 1),.ex 4 (.asn (.k .nil) 7 53)]) (.s (.r [.ex 7 .bsl0,.a1 5 7 7 53]) (.s (.s (.r [.m1 6 (.i 0)]) (.blk 0 (.loop (.s (.s (.r [.mv 8 6,.mv 9 0,.n1 10 9,.b1 11 .lss 8 10]) (.cnd 11 .skip (.exit 0))) (.s (.blk 1 (.s (.s (.d [.mv 14 0,.mv 15 6,.i1 16 7 14 15,.f1 17 0 16,.l1 18 1 17,.f1 19 0 3,.l1 20 1 19,.b1 21 .eql 18 20,.mv 22 21,.gt 23 (.mv 0) 22,.gt 24 (.mv 6) 22,.gt 25 (.ia 7 23 24) 22,.gt 26 (.fa 5 25) 22,.gt 27 (.ld false 1 26) 22,.gt 28 (.fa 5 3) 22,.gt 29 (.ld false 1 28) 22,.gt 30 (.bin .geq 27 29) 22,.ex 31 (.pick 22 30 .n)]) (.cnd 31 (.s (.r [.mv 32 0,.a1 4 32 7 53]) .ret) .skip)) (.s (.d [.mv 33 0,.mv 34 6,.i1 35 7 33 34,.f1 36 0 35,.l1 37 1 36,.f1 38 0 3,.l1 39 1 38,.b1 40 .neq 37 39]) (.cnd 40 (.r [.mv 41 5,.mv 42 0,.mv 43 6,.i1 44 7 42 43,.l2 45 7 44,.ex 46 (.bsl 7 53 [45]),.ex 47 (.app false 7 80 53 41 46),.a1 5 47 7 53]) .skip)))) (.r [.mv 12 6,.b1 13 .add 12 (.i 1),.mv 6 13])))))) (.s (.r [.mv 48 5,.l2 49 7 3,.ex 50 (.bsl 7 53 [49]),.ex 51 (.app false 7 80 53 48 50),.a1 4 51 7 53]) .ret))))
theorem zns:zc Tryz.prog [] 211=some (zgf.ac,[(.t 4)],52):=by kernel_rfl
theorem zs0 {l:List Hold} {h:Hold} {k:Nat} (hk:k < l.length) (h1:l[k].path=h.path) (h2:h.num≤l[k].num):jd l h=l:=by
 unfold jd;rw [if_pos];rw [List.any_eq_true];exact ⟨l[k],List.getElem_mem hk,by simp [h1,h2]⟩
theorem zsZ {l:List Hold} {h:Hold} (hn:∀ x∈l,¬ (x.path=h.path∧h.num≤x.num)):jd l h=(l.filter fun x=>x.path != h.path)++[h]:=by
 unfold jd;rw [if_neg];rw [List.any_eq_true];rintro ⟨x,hx,h2⟩;simp only [Bool.and_eq_true,beq_iff_eq,decide_eq_true_eq] at h2;exact hn x hx h2
theorem zpA (W0:World) (l:List Hold) (h:Hold) (hl:l.length≤1000000):Fn Tryz.prog W0 211 [zf l,zD h] (.c (zf (jd l h))) []:=by
 refine fnX (c:=zgf) mixed zns (by simp) rfl fun hg=>?_
 refine dr ?_;refine lp2 (fun (k:Nat) (out:List Hold)=>[(0,.c (zf l)),(3,.ptr 48 0),(5,.own 80 out.length),(6,I k)]) (fun _ out=>[(48,.box (hCs h)),(80,.row (out.map zD) 7 53)]) (fun k out=>k≤l.length∧out=(l.take k).filter (fun x=>x.path != h.path)∧out.length≤k∧∀ x∈l.take k,¬ (x.path=h.path∧h.num≤x.num)) (fun k _=>l.length - k) 0 [] ⟨by simp,rfl,by simp,by simp⟩ ?_ ?_
 ·refine dr ?_;trivial
 rintro k out ⟨hk,ho,hle,hA⟩;refine dr ?_;apply cP<;>intro h1
 ·have hk':k < l.length:=by omega
  have next:¬ (l[k].path=h.path∧h.num≤l[k].num)→∀ x∈l.take (k+1),¬ (x.path=h.path∧h.num≤x.num):=fun hh x hx=>by
   rw [List.take_succ_eq_append_getElem hk'] at hx;rcases List.mem_append.1 hx with h' | h'
   ·exact hA x h'
   ·rw [List.mem_singleton.1 h']; exact hh
  refine dr ?_;apply cP<;>intro h2
  ·refine dr ?_;apply cP<;>intro h3
   ·refine dr ?_;rw [zs0 hk' h2 h3]<;>rfl
   refine dr ?_;apply cP<;>intro h4
   ·exact absurd h2 h4
   refine dr ?_;refine ⟨k+1,out,⟨by omega,by rw [qr hk' (by simp [h2]),ho],by omega,next (by omega)⟩,by omega,?_⟩;refine dr ?_;trivial
  refine dr ?_;apply cP<;>intro h4
  ·refine dr ?_;repeat ((first | refine oB (by simp; omega) ?_ | refine oB (by simp) ?_); first | refine dr ?_ | exact dz)
   refine ⟨k+1,out++[l[k]],⟨by omega,by rw [qF hk' (by simp [h2]),ho],by simp; omega,next fun hh=>h2 hh.1⟩,by omega,?_⟩;refine dr ?_;repeat (refine oB (by simp<;>rfl) ?_; first | refine dr ?_ | exact dz)
   trivial
  ·exact absurd h4 h2
 have hkl:k=l.length:=by omega
 rw [hkl,List.take_length] at ho hA;rw [zsZ hA,← ho];refine dr ?_;repeat ((first | refine oB (by simp; omega) ?_ | refine oB (by simp) ?_); first | refine dr ?_ | exact dz)
 simp [zf];rfl
def zf7:XC:=(.s (.r [.ex 6 (.asn (.k .nil) 7 53)]) (.s (.r [.ex 9 .bsl0,.a1 7 9 7 53]) (.s (.s (.r [.m1 8 (.i 0)]) (.blk 0 (.loop (.s (.s (.r [.mv 10 8,.mv 11 0,.n1 12 11,.b1 13 .lss 10 12]) (.cnd 13 .skip (.exit 0))) (.s (.blk 1 (.s (.r [.mv 16 0,.mv 17 8,.i1 18 7 16 17,.f1 19 0 18,.l1 20 1 19,.mv 21 1,.b1 22 .neq 20 21,.mv 23 22,.gf 24 (.mv 0) 23,.gf 25 (.mv 8) 23,.gf 26 (.ia 7 24 25) 23,.gf 27 (.fa 5 26) 23,.gf 28 (.ld false 1 27) 23,.gf 29 (.mv 2) 23,.gf 30 (.bin .gtr 28 29) 23,.ex 31 (.pick 23 .y 30)]) (.cnd 31 (.r [.mv 32 7,.mv 33 0,.mv 34 8,.i1 35 7 33 34,.l2 36 7 35,.ex 37 (.bsl 7 53 [36]),.ex 38 (.app false 7 80 53 32 37),.a1 7 38 7 53]) .skip))) (.r [.mv 14 8,.b1 15 .add 14 (.i 1),.mv 8 15])))))) (.s (.r [.mv 39 7,.a1 6 39 7 53]) .ret))))
theorem znl:zc Tryz.prog [] 212=some (zf7.ac,[(.t 6)],40):=by kernel_rfl
theorem ziD {l:List Hold} {p:Str} {n:Int}:zW l p n=l.filter fun x=>!(x.path==p&&decide (x.num≤n)):=rfl
theorem zpu (W0:World) (l:List Hold) (p:Str) (n:Int) (hl:l.length≤1000000):Fn Tryz.prog W0 212 [zf l,CS p,CI n] (.c (zf (zW l p n))) []:=by
 refine fnX (c:=zf7) mixed znl (by simp) rfl fun hg=>?_
 refine dr ?_;refine lp2 (fun (k:Nat) (out:List Hold)=>[(0,.c (zf l)),(1,.c (CS p)),(2,.c (CI n)),(7,.own 112 out.length),(8,I k)]) (fun _ out=>[(112,.row (out.map zD) 7 53)]) (fun k out=>k≤l.length∧out=(l.take k).filter (fun x=>!(x.path==p&&decide (x.num≤n)))∧out.length≤k) (fun k _=>l.length - k) 0 [] ⟨by simp,rfl,by simp⟩ ?_ ?_
 ·refine dr ?_;trivial
 rintro k out ⟨hk,ho,hle⟩;refine dr ?_;apply cP<;>intro h1
 ·have hk':k < l.length:=by omega
  have keep:(!(l[k].path==p&&decide (l[k].num≤n)))=true→out++[l[k]]=(l.take (k+1)).filter (fun x=>!(x.path==p&&decide (x.num≤n))):=fun h=>by rw [qF hk' h,ho]
  refine dr ?_;apply cP<;>intro h2
  ·refine dr ?_;repeat ((first | refine oB (by simp; omega) ?_ | refine oB (by simp) ?_); first | refine dr ?_ | exact dz)
   refine ⟨k+1,out++[l[k]],⟨by omega,keep (by simp [h2]),by simp; omega⟩,by omega,?_⟩;refine dr ?_;repeat (refine oB (by simp<;>rfl) ?_; first | refine dr ?_ | exact dz)
   trivial
  refine dr ?_;apply cP<;>intro h3
  ·refine dr ?_;repeat ((first | refine oB (by simp; omega) ?_ | refine oB (by simp) ?_); first | refine dr ?_ | exact dz)
   refine ⟨k+1,out++[l[k]],⟨by omega,keep (by simp; omega),by simp; omega⟩,by omega,?_⟩;refine dr ?_;repeat (refine oB (by simp<;>rfl) ?_; first | refine dr ?_ | exact dz)
   trivial
  ·refine dr ?_;refine ⟨k+1,out,⟨by omega,by rw [qr hk' (by simp [h2]; omega),ho],by omega⟩,by omega,?_⟩;refine dr ?_;trivial
 have hkl:k=l.length:=by omega
 rw [hkl,List.take_length] at ho;rw [ziD,← ho];refine dr ?_;repeat (refine oB (by simp) ?_; first | refine dr ?_ | exact dz)
 rfl
def zff:XC:=(.s (.r [.m1 4 (.i 0)]) (.s (.s (.r [.mv 5 0,.mv 6 1,.b1 7 .gtr 5 6]) (.cnd 7 (.s (.r [.mv 8 0,.mv 4 8]) .ret) .skip)) (.s (.r [.mv 9 1,.mv 4 9]) .ret)))
theorem zmv:zc Tryz.prog [] 113=some (zff.ac,[(.t 4)],10):=by kernel_rfl
theorem zhg (W0:World) (a b:Int):Fn Tryz.prog W0 113 [CI a,CI b] (.c (CI (zL a b))) []:=by
 refine fnX (c:=zff) mixed zmv (by simp) rfl fun hg=>?_
 refine dr ?_;apply cP<;>intro h1
 ·refine dr ?_;unfold zL; rw [if_pos (by omega)]
 ·refine dr ?_;unfold zL; rw [if_neg (by omega)]

section
variable {w x:Wld}
theorem zrg {ev:Ev} (h:ev.kind=1∨ev.kind=6∨ev.kind=7):(evW w ev).1.over=w.over∧(evW w ev).1.leases=w.leases∧(evW w ev).1.clock=w.clock∧(evW w ev).1.waits=w.waits:=by
 unfold evW;rcases h with h | h
 ·rw [if_pos h];split
  ·obtain ⟨a,b,_,c,_,_,d,_⟩:=@jZ w ⟨1,ev.who,⟨ev.path,false,noE,0,0⟩⟩;exact ⟨a,c,b,d⟩
  ·exact ⟨rfl,rfl,rfl,rfl⟩
 ·rw [if_neg (by omega),if_neg (by omega),if_neg (by omega),if_neg (by omega),if_pos (by omega)];unfold netW;split
  ·exact ⟨rfl,rfl,rfl,rfl⟩
  ·split
   ·obtain ⟨a,b,_,c,_,_,d,_⟩:=@jZ w (w.net.getD ev.pos.toNat noMs);exact ⟨a,c,b,d⟩
   ·rw [if_neg (by omega)]; exact ⟨rfl,rfl,rfl,rfl⟩
theorem zri {ev:Ev} (h:ev.kind=5∨ev.kind=4):(evW w ev).1.over=w.over∧(evW w ev).1.waits=w.waits:=by
 unfold evW;rcases h with h | h
 ·rw [if_neg (by omega),if_neg (by omega),if_neg (by omega),if_neg (by omega),if_pos (by omega)];exact ⟨(zcv ev).1,(zcv ev).2.2.1⟩
 ·rw [if_neg (by omega),if_neg (by omega),if_neg (by omega),if_pos h];exact ⟨rfl,rfl⟩
theorem ztm {op:Op}:(jD w op).2=0∨(jD w op).1.over=w.over:=by
 rcases @ztj w op with ⟨_,h⟩ | ⟨_,_,_,h⟩ | ⟨_,_,_,h⟩ | ⟨_,_,_,h⟩<;>rw [h]
 ·exact .inr rfl
 ·exact .inr rfl
 ·exact .inr (@qG (zI w op) { w with waits:=true,op:=op }).1
 ·exact .inl rfl
theorem ztb:(tryW w).2=0∨(tryW w).1.over=w.over:=by
 rcases @zs8 w with ⟨_,h⟩ | ⟨_,_,h⟩ | ⟨_,_,h⟩<;>rw [h]
 ·exact .inr rfl
 ·exact .inr (@qG (zI w w.op) w).1
 ·exact .inl rfl
theorem zrh {ev:Ev} (h:ev.kind=2∨ev.kind=3):(evW w ev).2=0∨(evW w ev).1.over=w.over:=by
 unfold evW;rcases h with h | h
 ·rw [if_neg (by omega),if_pos h]; exact ztm
 ·rw [if_neg (by omega),if_neg (by omega),if_pos h]; exact ztb
theorem zrf {ev:Ev} (h:¬ (1≤ev.kind∧ev.kind≤7)):evW w ev=(w,1):=by
 unfold evW;rw [if_neg (by omega),if_neg (by omega),if_neg (by omega),if_neg (by omega),if_neg (by omega)]
theorem take_take {l:List Hold} {h:Hold}:jd (jd l h) h=jd l h:=by
 have:(jd l h).any (fun x=>x.path==h.path&&decide (h.num≤x.num))=true:=by
  unfold jd;split
  ·assumption
  ·simp
 generalize jd l h=l' at *;unfold jd;rw [if_pos this]
theorem zqA {w:Wld} {L:List (List Hold)} {f:List Int} {n:List Msg} {ls:List Lease} {k:Int} {a:List Hold} (hk:isW k) (hl:w.holds.length=3) (e:L=w.holds.set k.toNat a):hdW { w with holds:=L,floors:=f,net:=n,leases:=ls } k=a:=by
 unfold hdW;subst e;have:=hk.1; have:=hk.2;simp only [List.getD,List.getElem?_set];rw [if_pos trivial,if_pos (by omega)]; rfl
theorem zp6 {w:Wld} {L:List (List Hold)} {f:List Int} {n:List Msg} {k:Int} {a:Int} (hk:isW k) (hl:w.floors.length=3) (e:f=w.floors.set k.toNat a):flW { w with holds:=L,floors:=f,net:=n } k=a:=by
 unfold flW;subst e;have:=hk.1; have:=hk.2;simp only [List.getD,List.getElem?_set];rw [if_pos trivial,if_pos (by omega)]; rfl
structure Later (w x:Wld):Prop where
 g:WG x
 o:x.over=w.over
 wt:x.waits=w.waits
 op:x.op=w.op
 h:x.holds=w.holds
 l:∀ l∈x.leases,l∈w.leases∧(x.clock=w.clock∨x.clock < l.til)
theorem Later.refl (h:WG w):Later w w:=⟨h,rfl,rfl,rfl,rfl,fun l hl=>⟨hl,.inl rfl⟩⟩
theorem Later.tick (h:Later w x):Later w (yF x) :=
 ⟨h.g.tick,h.o,h.wt,h.op,h.h,fun l hl=>⟨(h.l l (List.mem_filter.1 hl).1).1,.inr (of_decide_eq_true (List.mem_filter.1 hl).2)⟩⟩
theorem Later.bars (h:Later w x) {op:Op}:∀ l∈zI x op,l∈zI w op∨w.clock < x.clock∨x.clock < w.clock:=fun l hl=>by
 obtain ⟨h1,h2,h3⟩:=JN.1 hl;by_cases hc:x.clock=w.clock
 ·left;refine JN.2 ⟨(h.l l h1).1,by omega,?_⟩;unfold qg at h3 ⊢; rw [h.o] at h3; exact h3
 ·right; omega
theorem Later.none (h:Later w x) {late:Int} (h1:∀ l∈zI w w.op,l.til≤late) (h2:x.clock=late) (h3:w.clock≤late):zI x x.op=[]:=by
 cases hb:zI x x.op with
 | nil=>rfl
 | cons l r =>
  exfalso;obtain ⟨g1,g2,g3⟩:=JN.1 (show l∈zI x x.op by rw [hb]; simp);have hm:=(h.l l g1).1;have:l∈zI w w.op:=by
   refine JN.2 ⟨hm,by omega,?_⟩;unfold qg at g3 ⊢; rw [h.o,h.op] at g3; exact g3
  have:=h1 l this;omega
end

def Qa (k:Int):Ev:=⟨5,0,[],jc,k⟩
def copyE (k:Int):Ev:=⟨7,0,[],jc,k⟩
section
variable {w:Wld}
theorem zr8 {m:Msg} (h:w.net.length < 12):zS w m={ w with net:=w.net++[m] }:=by unfold zS; rw [if_pos h]
theorem zb1 {k:Nat} (h:k < w.net.length):evW w (Qa k)=(zH { w with net:=w.net.eraseIdx k } (w.net.getD k noMs),0):=by
 unfold evW Qa;rw [if_neg (by simp),if_neg (by simp),if_neg (by simp),if_neg (by simp),if_pos (by simp)];unfold netW;rw [if_neg (by simp; omega),if_neg (by simp),if_pos rfl];simp
theorem zn2 {k:Nat} (h:k < w.net.length) (h2:w.net.length < 12):evW w (copyE k)=({ w with net:=w.net++[w.net.getD k noMs] },0):=by
 unfold evW copyE;rw [if_neg (by simp),if_neg (by simp),if_neg (by simp),if_neg (by simp),if_pos (by simp)];unfold netW;rw [if_neg (by simp; omega),if_pos rfl];simp only;rw [zr8 h2]; simp
theorem zdq {a:List Msg} {m:Msg} {r:List Msg}:(a++m::r).getD a.length noMs=m∧(a++m::r).eraseIdx a.length=a++r:=by
 constructor
 ·simp [List.getD]
 ·rw [List.eraseIdx_append_of_length_le (Nat.le_refl _)]; simp
def zaq (w:Wld) (who:Int) (p:Str):Wld:=zH (grantL w who p) (jO w who p)
structure GO (w:Wld) (who:Int) (p:Str):Prop where
 g:WG w
 iw:isW who
 pth:pOk p=true
 wt:w.waits=false
 ct:w.count < 10000
variable {who:Int} {p:Str}
theorem zqz {x:Wld} {L:List (List Hold)} {k:Int} {a:List Hold} (hk:isW k) (hl:L.length=3) (e:x.holds=L.set k.toNat a):hdW x k=a:=by
 unfold hdW;rw [e];have:=hk.1; have:=hk.2;simp only [List.getD,List.getElem?_set];rw [if_pos trivial,if_pos (by omega)]; rfl
theorem GO.take (h:GO w who p):zaq w who p={ grantL w who p with holds:=w.holds.set who.toNat (jd (hdW w who) (jO w who p).hold) }:=by
 unfold zaq zH;rw [if_neg (by simp [jO]),if_pos (show (jO w who p).kind=2 from rfl)];have hf:=h.g.pl.fr _ (zhN h.iw h.g.pl.fl);rw [if_pos]
 ·rfl
 ·refine ⟨by show w.clock < w.clock+5; omega,?_⟩;show flW w who < w.count+1;omega
theorem GO.hd (h:GO w who p):hdW (zaq w who p) who=jd (hdW w who) (jO w who p).hold:=by
 rw [h.take];exact zqz h.iw h.g.pl.hl rfl
theorem zn0 {m:Msg} {n:List Msg} (hk:m.kind=2):zH { w with net:=n } m={ zH w m with net:=n }:=by
 unfold zH;rw [if_neg (show ¬ m.kind=1 by omega),if_neg (show ¬ m.kind=1 by omega),if_pos hk,if_pos hk];show (if w.clock < m.hold.til∧flW w m.who < m.hold.num then _ else _)=_;by_cases hc:w.clock < m.hold.til∧flW w m.who < m.hold.num
 ·rw [if_pos hc,if_pos hc]; rfl
 ·rw [if_neg hc,if_neg hc]
theorem GO.late (h:GO w who p) (hn:w.net.length≤8) :
  evW { grantL w who p with net:=w.net++[jO w who p] } (copyE w.net.length)=({ grantL w who p with net:=w.net++[jO w who p,jO w who p] },0) ∧
  evW { grantL w who p with net:=w.net++[jO w who p,jO w who p] } (Qa w.net.length)=({ zaq w who p with net:=w.net++[jO w who p] },0):=by
 constructor
 ·rw [zn2 (by simp) (by simp; omega)];obtain ⟨e1,_⟩:=@zdq w.net (jO w who p) [];simp only [e1,List.append_assoc,List.singleton_append]
 ·rw [zb1 (by simp)];obtain ⟨e1,e2⟩:=@zdq w.net (jO w who p) [jO w who p];simp only [e1,e2];refine congrArg (·,0) ?_;exact zn0 (w:=grantL w who p) rfl
theorem zkA {who:Int} {p:Str} (h:∀ x∈hdW w who,x.path≠p):wRead w who p=none:=by
 unfold wRead;split
 ·rw [List.find?_eq_none.2]
  ·rfl
  ·intro x hx;simp [h x hx]
 ·rfl
theorem gone {x:Wld} {who:Int} {p:Str} {m g:Msg} {k n:Nat} (hx:WG x) (hw:isW who) (hk:k < x.net.length) (hm:x.net.getD k noMs=m) (h1:m.kind=3) (h2:m.who=who) (h3:m.hold.path=p) (h4:m.hold.num=x.count)
  (hn:n < k) (hg:x.net.getD n noMs=g) (g1:g.kind=2) (g2:g.who=who) (g3:g.hold.num≤x.count) :
  wRead (evW x (Qa k)).1 who p=none∧wRead (evW (evW x (Qa k)).1 (Qa n)).1 who p=none:=by
 have hmm:m∈x.net:=by rw [← hm]; exact zib hk
 have hms:=hx.ms m hmm;obtain ⟨i,hi,hiw⟩:=Jt hw;rw [zb1 hk,hm];simp only;have e:zH { x with net:=x.net.eraseIdx k } m=zS { x with net:=x.net.eraseIdx k,holds:=x.holds.set m.who.toNat (zW (hdW x m.who) m.hold.path m.hold.num),floors:=x.floors.set m.who.toNat (zL (flW x m.who) m.hold.num) } ⟨4,m.who,m.hold⟩:=by
  unfold zH; rw [if_neg (by omega),if_neg (by omega),if_pos h1]; rfl
 obtain ⟨s1,s2,s3,s4,s5,s6,s7,s8⟩:=@jZ { x with net:=x.net.eraseIdx k,holds:=x.holds.set m.who.toNat (zW (hdW x m.who) m.hold.path m.hold.num),floors:=x.floors.set m.who.toNat (zL (flW x m.who) m.hold.num) } ⟨4,m.who,m.hold⟩;rw [← e] at s1 s2 s3 s4 s5 s6 s7 s8;have hnet:(zH { x with net:=x.net.eraseIdx k } m).net.getD n noMs=g∧n < (zH { x with net:=x.net.eraseIdx k } m).net.length:=by
  have hl:n < (x.net.eraseIdx k).length:=by rw [List.length_eraseIdx,if_pos hk]; omega
  have hq:(x.net.eraseIdx k).getD n noMs=g:=by
   rw [← hg];simp only [List.getD];rw [List.getElem?_eraseIdx,if_pos hn]
  rw [e];unfold zS;split
  ·refine ⟨?_,by simp; omega⟩;simp only [List.getD] at hq ⊢;rw [List.getElem?_append_left hl]; exact hq
  ·exact ⟨hq,hl⟩
 generalize hy:zH { x with net:=x.net.eraseIdx k } m=y at *;have hh:hdW y who=zW (hdW x who) p x.count:=by
  have:=zqA (w:=x) (f:=x.floors) (n:=x.net) (ls:=x.leases) (L:=y.holds) (a:=zW (hdW x m.who) m.hold.path m.hold.num) hms.who hx.pl.hl s5;rw [h2,h3,h4] at this;unfold hdW at this ⊢; exact this
 have hf:flW y who=zL (flW x who) x.count:=by
  have:=zp6 (w:=x) (n:=x.net) (L:=x.holds) (f:=y.floors) (a:=zL (flW x m.who) m.hold.num) hms.who hx.pl.fl s6;rw [h2,h4] at this;unfold flW at this ⊢; exact this
 have hno:∀ z∈hdW y who,z.path≠p:=fun z hz hp=>by
  rw [hh] at hz;obtain ⟨z1,z2⟩:=zcq.1 hz;have:=z2 hp;rw [hiw] at z1;have:=((hx.hd i hi).g z z1).2.2.1;omega
 refine ⟨zkA hno,?_⟩;rw [zb1 hnet.2,hnet.1];have e2:zH { y with net:=y.net.eraseIdx n } g={ y with net:=y.net.eraseIdx n }:=by
  unfold zH;rw [if_neg (by omega),if_pos g1,if_neg];rintro ⟨_,hc⟩;have e3:flW { y with net:=y.net.eraseIdx n } g.who=zL (flW x who) x.count:=by rw [g2,← hf]; rfl
  rw [e3] at hc;have:x.count≤zL (flW x who) x.count:=by unfold zL; split<;>omega
  omega
 simp only [e2];exact zkA hno
end

theorem cuts {k0:List Nat} {a:(Fr→XM→Prop)→Fr→XM→Prop} {b:Fr→XM→Prop} {F:Fr} {m:XM} {σ:Type} (fr:σ→Fr) (mm:σ→XM) (inv:σ→Prop)
  (ha:a (fun F' m'=>∃ x,inv x∧zn k0 (some 3) F' m' (fr x) (mm x)) F m) (hb:∀ x,inv x→b (fr x) (mm x)):CutX k0 a b F m:=⟨σ,fr,mm,inv,some 3,_,ha,fun _ _ h=>h,hb⟩
def zf2:XC:=(.s (.r [.ex 3 (.box 0),.ex 6 (.alloc [.nil,.nil,.nil,(I 0),(I 0),.nil,.nil,.nil,.nil,(B false),(I 0),sE,sE,sE])]) (.s (.s (.r [.f1 12 9 3,.l1 13 1 12,.mv 14 13,.gt 15 (.ld true 14 3) 14,.gt 16 (.fa 10 3) 14,.gt 17 (.ld true 4 16) 14,.gt 18 (.opn 208 [15,17]) 14,.gt 19 (.mv 2) 14,.gt 20 (.call 209 [18,19]) 14,.ex 21 (.pick 14 20 .n),.mv 22 21,.gf 23 (.fa 4 3) 22,.gf 24 (.ld false 1 23) 22,.gf 25 (.bin .geq 24 (.i 10000)) 22,.ex 26 (.pick 22 .y 25)]) (.cnd 26 (.s (.r [.l2 27 14 3,.s1 14 6 27]) .ret) .skip)) (.s (.r [.f1 29 0 3,.l2 30 3 29,.c1 31 69 [30],.mv 28 31,.e1 32 28 0,.e1 33 28 1,.a1 7 32 3 39,.mv 8 33]) (.s (.r [.mv 35 7,.mv 36 2,.c1 37 121 [35,36],.mv 34 37,.e1 38 34 0,.e1 39 34 1,.ex 9 (.alloc [sE,(B false),sE]),.s1 3 9 38,.mv 10 39]) (.s (.r [.f1 40 4 3,.l1 41 1 40,.b1 42 .add 41 (.i 1),.f1 43 4 3,.s1 1 43 42]) (.s (.r [.f1 44 3 3,.l1 45 1 44,.b1 46 .add 45 (.i 5),.mv 11 46]) (.cut (.d [.f1 47 5 3,.exo [7] 48 (.ld false 1 47),.mv 49 1,.mv 50 2,.f1 51 4 3,.exo [7] 52 (.ld false 1 51),.exo [7] 53 (.opn 213 [48,49,50,52]),.mv 54 1,.mv 55 2,.f1 56 4 3,.exo [7] 57 (.ld false 1 56),.mv 58 11,.ex 59 (.build [(I 0),sE,(I 0),(I 0)] [(0,(1,54)),(1,(1,55)),(2,(1,57)),(3,(1,58))]),.exo [7] 60 (.bsl 4 72 [59]),.ex 61 (.app false 4 40 72 53 60),.f1 62 5 3,.s1 1 62 61]) (.s (.r [.l2 63 14 3,.mv 64 1,.mv 65 2,.mv 66 10,.l2 67 3 9,.f1 68 4 3,.l1 69 1 68,.mv 70 11,.ex 71 (.build [sE,(B false),sE,(B false),sE,(I 0),(I 0)] [(0,(1,65)),(1,(1,66)),(2,(3,67)),(5,(1,69)),(6,(1,70))]),.ex 72 (.build [(I 0),(I 0),sE,(B false),sE,(B false),sE,(I 0),(I 0)] [(0,(1,(.i 2))),(1,(1,64)),(2,(7,71))]),.o1 73 114 [63,72],.s1 14 6 73]) .ret))))))))
theorem zng:zc Tryz.prog [208,213,114,1000007] 210=some (zf2.ac,[(.cell 6 true 14)],74):=by kernel_rfl
theorem zpq (W0:World) (w:Wld) (who:Int) (p:Str) (h:WG w) (hl:w.leases.length≤1000000):zv Tryz.prog W0 210 [wAn 6 w,.c (CI who),.c (CS p)] (wMn 6 w) (fun _:Unit=>True) (fun _=>wAn 6 (qN w who p)) (fun _=>wMn 6 (qN w who p)):=by
 refine funW (c:=zf2) mixed zng (by simp) rfl rfl fun hg=>?_
 have hv:=Zu W0 w.over;rw [za4 h] at hv;have ht:=zhw W0 w w.op;have htl:=@zkq w w.op;have hc:=h.pl.ck;have hct:=h.pl.ct;have hn:w.net.length≤1000:=by have:=h.pl.nl; omega
 rw [Q1];generalize hts:qg w w.op=ts at *;have hget:=yM W0 (vwG w.over) p;rw [qL] at hget;have hofl:(jj w.leases who p (w.count+1)).length≤1000000:=Nat.le_trans (List.length_filter_le _ _) hl;refine dr ?_;apply cP<;>intro h1
 ·refine dr ?_;refine oW ht rfl ⟨rfl,rfl,rfl,trivial⟩ rfl rfl ⟨(),trivial⟩ fun _ _=>⟨rfl,?_⟩
  refine dEr ?_;repeat (refine c0 (zhs W0 ts p (by omega)) rfl ?_; first | refine dEr ?_ | exact dz)
  apply cP<;>intro h2
  ·rw [if_pos (.inl ⟨h1,by rw [List.contains_eq_mem,decide_eq_true_iff] at h2; exact h2⟩)];refine dEr ?_;refine ⟨none,_,_,?_,(),trivial,rfl,rfl⟩;refine dr ?_;trivial
  have h2':p ∉ ts:=by rw [List.contains_eq_mem,decide_eq_false_iff_not] at h2; exact h2
  refine dEr ?_;apply cP<;>intro h3
  ·rw [if_pos (.inr h3)];refine dEr ?_;refine ⟨none,_,_,?_,(),trivial,rfl,rfl⟩;refine dr ?_;trivial
  rw [if_neg (by rintro (⟨_,h⟩ | h); exact h2' h; omega)];refine dEr ?_;repeat ((first | refine c0 hv rfl ?_ | refine c0 hget rfl ?_); first | refine dEr ?_ | exact dz)
  refine cuts (σ:=List Lease) (fun _=>[(1,.c (CI who)),(2,.c (CS p)),(3,.ptr 48 0),(6,.ptr 96 0),(9,.ptr 144 0),(10,.c (CB (get (vwG w.over) p).isSome)),(11,I (w.clock+5))])
   (fun L=>[(48,.box [.c (za w.over.base),.c (zx w.over.layers),.c (ze w.over.upper),I w.clock,I (w.count+1),.c (zw L),.own 4 w.holds.length,.own 5 w.floors.length,.own 6 w.net.length,B w.waits,I w.op.kind,.c (CS w.op.path),.c (CS w.op.dest),.c (CS w.op.data)]),(96,zWB),(144,.box [.c (CS ((get (vwG w.over) p).getD noE).path),B ((get (vwG w.over) p).getD noE).dir,.c (CS ((get (vwG w.over) p).getD noE).data)])]++wMn 6 w) (fun L=>L=(grantL w who p).leases) ?_ ?_
  ·refine dr ?_;refine oW (zht W0 w.leases who p (w.count+1) hl) rfl trivial rfl rfl ⟨(),trivial⟩ fun _ _=>⟨rfl,?_⟩
   refine dEr ?_;repeat ((first | refine oB (by simp; omega) ?_ | refine oB (by simp) ?_); first | refine dEr ?_ | exact dz)
   refine ⟨_,rfl,?_⟩;refine zn.s (z:=some 7) ?_;refine dr ?_;repeat ((first | refine oB (by simp [grantL,zw]<;>rfl) ?_ | refine oB (by simp) ?_); first | refine dr ?_ | exact dz)
   trivial
  rintro L hL;refine dr ?_;refine oW (J2 W0 ⟨w.over,w.clock,w.count+1,L,w.holds,w.floors,w.net,w.waits,w.op⟩ (jO w who p) hn) rfl ⟨rfl,rfl,rfl,trivial⟩ rfl rfl ⟨(),trivial⟩ fun _ _=>⟨rfl,?_⟩
  rw [show (⟨w.over,w.clock,w.count+1,L,w.holds,w.floors,w.net,w.waits,w.op⟩:Wld)=grantL w who p by rw [hL]<;>rfl];refine dEr ?_;refine ⟨none,_,_,?_,(),trivial,rfl,rfl⟩;refine dr ?_;trivial
 ·refine dr ?_;apply cP<;>intro h3
  ·rw [if_pos (.inr h3)];refine dr ?_;refine ⟨none,_,_,?_,(),trivial,rfl,rfl⟩;refine dr ?_;trivial
  rw [if_neg (by rintro (⟨h,_⟩ | h); rw [h] at h1; cases h1; omega)];refine dEr ?_;repeat ((first | refine c0 hv rfl ?_ | refine c0 hget rfl ?_); first | refine dEr ?_ | exact dz)
  refine cuts (σ:=List Lease) (fun _=>[(1,.c (CI who)),(2,.c (CS p)),(3,.ptr 48 0),(6,.ptr 96 0),(9,.ptr 144 0),(10,.c (CB (get (vwG w.over) p).isSome)),(11,I (w.clock+5))])
   (fun L=>[(48,.box [.c (za w.over.base),.c (zx w.over.layers),.c (ze w.over.upper),I w.clock,I (w.count+1),.c (zw L),.own 4 w.holds.length,.own 5 w.floors.length,.own 6 w.net.length,B w.waits,I w.op.kind,.c (CS w.op.path),.c (CS w.op.dest),.c (CS w.op.data)]),(96,zWB),(144,.box [.c (CS ((get (vwG w.over) p).getD noE).path),B ((get (vwG w.over) p).getD noE).dir,.c (CS ((get (vwG w.over) p).getD noE).data)])]++wMn 6 w) (fun L=>L=(grantL w who p).leases) ?_ ?_
  ·refine dr ?_;refine oW (zht W0 w.leases who p (w.count+1) hl) rfl trivial rfl rfl ⟨(),trivial⟩ fun _ _=>⟨rfl,?_⟩
   refine dEr ?_;repeat ((first | refine oB (by simp; omega) ?_ | refine oB (by simp) ?_); first | refine dEr ?_ | exact dz)
   refine ⟨_,rfl,?_⟩;refine zn.s (z:=some 7) ?_;refine dr ?_;repeat ((first | refine oB (by simp [grantL,zw]<;>rfl) ?_ | refine oB (by simp) ?_); first | refine dr ?_ | exact dz)
   trivial
  rintro L hL;refine dr ?_;refine oW (J2 W0 ⟨w.over,w.clock,w.count+1,L,w.holds,w.floors,w.net,w.waits,w.op⟩ (jO w who p) hn) rfl ⟨rfl,rfl,rfl,trivial⟩ rfl rfl ⟨(),trivial⟩ fun _ _=>⟨rfl,?_⟩
  rw [show (⟨w.over,w.clock,w.count+1,L,w.holds,w.floors,w.net,w.waits,w.op⟩:Wld)=grantL w who p by rw [hL]<;>rfl];refine dEr ?_;refine ⟨none,_,_,?_,(),trivial,rfl,rfl⟩;refine dr ?_;trivial
def zfX:XC:=(.s (.r [.ex 2 (.box 0),.ex 3 (.box 1),.ex 4 (.alloc [.nil,.nil,.nil,(I 0),(I 0),.nil,.nil,.nil,.nil,(B false),(I 0),sE,sE,sE])]) (.s (.r [.f1 6 2 3,.l2 7 7 6,.ex 5 (.alloc [sE,(B false),sE,(B false),sE,(I 0),(I 0)]),.s1 7 5 7]) (.s (.s (.r [.f1 8 0 3,.l1 9 1 8]) (.blk 0 (.s (.r [.b1 11 .eql 9 (.i 1),.mv 10 11]) (.cnd 10 (.s (.r [.l2 12 14 2,.f1 13 1 3,.l1 14 1 13,.f1 15 0 5,.l1 16 1 15,.o1 17 210 [12,14,16],.s1 14 4 17]) .ret) (.s (.r [.b1 19 .eql 9 (.i 2),.mv 18 19]) (.cnd 18 (.s (.d [.f1 20 3 2,.l1 21 1 20,.f1 22 6 5,.l1 23 1 22,.b1 24 .lss 21 23,.mv 25 24,.gt 26 (.fa 5 5) 25,.gt 27 (.ld false 1 26) 25,.gt 28 (.fa 7 2) 25,.gt 29 (.ld false 1 28) 25,.gt 30 (.fa 1 3) 25,.gt 31 (.ld false 1 30) 25,.gt 32 (.ia 1 29 31) 25,.gt 33 (.ld false 1 32) 25,.gt 34 (.bin .gtr 27 33) 25,.ex 35 (.pick 25 34 .n)]) (.cnd 35 (.d [.f1 36 6 2,.l1 37 1 36,.f1 38 1 3,.l1 39 1 38,.f1 40 6 2,.l1 41 1 40,.f1 42 1 3,.l1 43 1 42,.i1 44 1 41 43,.l1 45 1 44,.l2 46 7 5,.c1 47 211 [45,46],.i1 48 1 37 39,.s1 1 48 47]) .skip)) (.s (.r [.b1 50 .eql 9 (.i 3),.mv 49 50]) (.cnd 49 (.s (.d [.f1 51 6 2,.l1 52 1 51,.f1 53 1 3,.l1 54 1 53,.f1 55 6 2,.l1 56 1 55,.f1 57 1 3,.l1 58 1 57,.i1 59 1 56 58,.l1 60 1 59,.f1 61 0 5,.l1 62 1 61,.f1 63 5 5,.l1 64 1 63,.c1 65 212 [60,62,64],.i1 66 1 52 54,.s1 1 66 65]) (.s (.d [.f1 67 7 2,.l1 68 1 67,.f1 69 1 3,.l1 70 1 69,.f1 71 7 2,.l1 72 1 71,.f1 73 1 3,.l1 74 1 73,.i1 75 1 72 74,.l1 76 1 75,.f1 77 5 5,.l1 78 1 77,.c1 79 113 [76,78],.i1 80 1 68 70,.s1 1 80 79]) (.s (.r [.l2 81 14 2,.f1 82 1 3,.l1 83 1 82,.l2 84 7 5,.ex 85 (.build [(I 0),(I 0),sE,(B false),sE,(B false),sE,(I 0),(I 0)] [(0,(1,(.i 4))),(1,(1,83)),(2,(7,84))]),.o1 86 114 [81,85],.s1 14 4 86]) .ret))) (.s (.r [.b1 88 .eql 9 (.i 4),.mv 87 88]) (.cnd 87 (.r [.f1 89 5 2,.l1 90 1 89,.f1 91 1 3,.l1 92 1 91,.f1 93 0 5,.l1 94 1 93,.f1 95 5 5,.l1 96 1 95,.c1 97 213 [90,92,94,96],.f1 98 5 2,.s1 1 98 97]) .skip)))))))))) (.s (.r [.l2 99 14 2,.s1 14 4 99]) .ret))))
theorem znc:zc Tryz.prog [210,114] 176=some (zfX.ac,[(.cell 4 true 14)],100):=by kernel_rfl
theorem zhO {w:Wld} {i:Nat} (h:i < w.floors.length):flW w (i:Int)=w.floors[i]:=by
 unfold flW; simp [h]
theorem zb9 {w:Wld} {i:Nat} (h:i < w.holds.length):hdW w (i:Int)=w.holds[i]:=by
 unfold hdW; simp [h]
structure HZ (n:Nat) (w:Wld):Prop where
 l:w.leases.length≤n
 h:∀ x∈w.holds,x.length≤n
theorem zpk (W0:World) (w:Wld) (m:Msg) (h:WG w) (hz:HZ 1000000 w) (hw:isW m.who):zv Tryz.prog W0 176 [wAn 6 w,.c (eMsg m)] (wMn 6 w) (fun _:Unit=>True) (fun _=>wAn 6 (zH w m)) (fun _=>wMn 6 (zH w m)):=by
 refine funW (c:=zfX) mixed znc (by simp) rfl rfl fun hg=>?_
 have hl:=hz.l;have hn:w.net.length≤1000:=by have:=h.pl.nl; omega
 have h3:=h.pl.hl;have f3:=h.pl.fl;obtain ⟨i,hi,hwi⟩:=Jt hw;obtain ⟨mk,mw,mh⟩:=m;simp only at hwi;subst hwi;have hi':i < w.holds.length:=by omega
 have hi'':i < w.floors.length:=by omega
 have hzi:=hz.h _ (List.getElem_mem hi');refine dr ?_;apply cP<;>intro k1
 ·have e:zH w ⟨mk,i,mh⟩=qN w i mh.path:=by unfold zH; rw [if_pos k1]
  rw [e];refine dr ?_;refine oW (zpq W0 w i mh.path h hl) rfl ⟨rfl,rfl,rfl,trivial⟩ rfl rfl ⟨(),trivial⟩ fun _ _=>⟨rfl,?_⟩
  refine dEr ?_;refine ⟨none,_,_,?_,(),trivial,rfl,rfl⟩;refine dr ?_;trivial
 refine dr ?_;apply cP<;>intro k2
 ·have e:zH w ⟨mk,i,mh⟩=if w.clock < mh.til∧w.floors[i] < mh.num then { w with holds:=w.holds.set i (jd w.holds[i] mh) } else w:=by
   unfold zH; rw [if_neg k1,if_pos k2]; simp only [zhO hi'',zb9 hi',Int.toNat_natCast]
  rw [e];refine dr ?_;apply cP<;>intro k3
  ·refine dr ?_;apply cP<;>intro k4
   ·rw [if_pos ⟨k3,k4⟩];refine dEr ?_;repeat (refine c0 (zpA W0 _ _ hzi) rfl ?_; first | refine dEr ?_ | exact dz)
    refine ⟨none,_,_,?_,(),trivial,rfl,rfl⟩;refine dr ?_;repeat ((first | refine oB (by simp) ?_ | refine oB (congrArg (fun L=>XB.row L 1 56) set1) ?_); first | refine dr ?_ | exact dz)
    trivial
   ·rw [if_neg (fun hh=>absurd hh.2 (Int.not_lt.2 k4))];refine dr ?_;refine ⟨none,_,_,?_,(),trivial,rfl,rfl⟩;refine dr ?_;trivial
  ·rw [if_neg (fun hh=>absurd hh.1 (Int.not_lt.2 k3))];refine dr ?_;refine ⟨none,_,_,?_,(),trivial,rfl,rfl⟩;refine dr ?_;trivial
 refine dr ?_;apply cP<;>intro k3
 ·have e:zH w ⟨mk,i,mh⟩=zS { w with holds:=w.holds.set i (zW w.holds[i] mh.path mh.num),floors:=w.floors.set i (zL w.floors[i] mh.num) } ⟨4,i,mh⟩:=by
   unfold zH; rw [if_neg k1,if_neg k2,if_pos k3]; simp only [zhO hi'',zb9 hi',Int.toNat_natCast]
  rw [e];refine dEr ?_;repeat ((first | refine c0 (zpu W0 _ _ _ hzi) rfl ?_ | refine c0 (zhg W0 _ _) rfl ?_); first | refine dEr ?_ | exact dz)
  refine oW (J2 W0 { w with holds:=w.holds.set i (zW w.holds[i] mh.path mh.num),floors:=w.floors.set i (zL w.floors[i] mh.num) } ⟨4,i,mh⟩ hn) (by simp<;>rfl) ⟨congrArg some (congrArg (fun L=>XB.row L 1 56) set1),congrArg some (congrArg (fun L=>XB.row L 1 3) set1),rfl,trivial⟩ rfl rfl ⟨(),trivial⟩ fun _ _=>⟨rfl,?_⟩
  refine dEr ?_;refine ⟨none,_,_,?_,(),trivial,rfl,rfl⟩;refine dr ?_;trivial
 refine dr ?_;apply cP<;>intro k4
 ·have e:zH w ⟨mk,i,mh⟩={ w with leases:=jj w.leases i mh.path mh.num }:=by unfold zH; rw [if_neg k1,if_neg k2,if_neg k3,if_pos k4]
  rw [e];refine dEr ?_;repeat (refine c0 (zpx W0 _ _ _ _ hl) rfl ?_; first | refine dEr ?_ | exact dz)
  refine ⟨none,_,_,?_,(),trivial,rfl,rfl⟩;refine dr ?_;trivial
 ·have e:zH w ⟨mk,i,mh⟩=w:=by unfold zH; rw [if_neg k1,if_neg k2,if_neg k3,if_neg k4]
  rw [e];refine dr ?_;refine ⟨none,_,_,?_,(),trivial,rfl,rfl⟩;refine dr ?_;trivial
def zf9:XC:=(.s (.r [.ex 2 (.box 0),.ex 3 (.box 1),.ex 4 (.alloc [.nil,.nil,.nil,(I 0),(I 0),.nil,.nil,.nil,.nil,(B false),(I 0),sE,sE,sE]),.m1 5 (.i 0)]) (.s (.s (.r [.f1 7 7 3,.l1 8 1 7,.b1 9 .lss 8 (.i 0),.mv 10 9,.gf 11 (.fa 7 3) 10,.gf 12 (.ld false 1 11) 10,.gf 13 (.fa 8 2) 10,.gf 14 (.ld false 1 13) 10,.gf 15 (.len false 14) 10,.gf 16 (.bin .geq 12 15) 10,.ex 17 (.pick 10 .y 16)]) (.cnd 17 (.s (.r [.l2 18 14 2,.s1 14 4 18,.m1 5 (.i 22)]) .ret) .skip)) (.s (.r [.f1 19 8 2,.l1 20 1 19,.f1 21 7 3,.l1 22 1 21,.i1 23 9 20 22,.l2 24 9 23,.ex 6 (.alloc [(I 0),(I 0),sE,(B false),sE,(B false),sE,(I 0),(I 0)]),.s1 9 6 24]) (.cut (.s (.r [.f1 25 0 3,.l1 26 1 25,.b1 27 .eql 26 (.i 7)]) (.cnd 27 (.s (.r [.l2 28 14 2,.l2 29 9 6,.o1 30 114 [28,29],.s1 14 4 30,.m1 5 (.i 0)]) .ret) .skip)) (.s (.d [.ex 31 .bsl0,.f1 32 8 2,.l1 33 1 32,.f1 34 7 3,.l1 35 1 34,.ex 36 (.slr 9 33 .none (.some 35)),.ex 37 (.app true 9 96 55 31 36),.f1 38 8 2,.l1 39 1 38,.f1 40 7 3,.l1 41 1 40,.b1 42 .add 41 (.i 1),.ex 43 (.slr 9 39 (.some 42) .none),.ex 44 (.app false 9 96 55 37 43),.f1 45 8 2,.s1 1 45 44]) (.s (.s (.r [.f1 46 0 3,.l1 47 1 46,.b1 48 .eql 47 (.i 5)]) (.cnd 48 (.r [.l2 49 14 2,.l2 50 9 6,.o1 51 176 [49,50],.s1 14 2 51]) .skip)) (.s (.r [.l2 52 14 2,.s1 14 4 52,.m1 5 (.i 0)]) .ret)))))))
theorem znn:zc Tryz.prog [114,176] 118=some (zf9.ac,[(.cell 4 true 14),(.t 5)],53):=by kernel_rfl
abbrev nbN (b:Bool):Nat:=match b with
 | true=>592
 | false=>6
abbrev wMb (b:Bool) (w:Wld):XM:=match b with
 | true=>(6,.dead 9 55)::wMn 592 w
 | false=>wMn 6 w
theorem zg2 {α β:Type} {f:α→β} {l:List α} {k:Nat}:(l.take k).map f++(l.drop (k+1)).map f=(l.eraseIdx k).map f:=by
 rw [List.eraseIdx_eq_take_drop_succ,List.map_append]
theorem zg1 {α:Type} {l:List α} {k:Nat}:(l.take k).length+(l.drop (k+1)).length=(l.eraseIdx k).length:=by
 rw [List.eraseIdx_eq_take_drop_succ,List.length_append]
theorem zkw {w:Wld} {n L:Nat} (e:L=w.net.length):PV.agg [.c (za w.over.base),.c (zx w.over.layers),.c (ze w.over.upper),I w.clock,I w.count,.c (zw w.leases),.own 4 w.holds.length,.own 5 w.floors.length,.own n L,B w.waits,I w.op.kind,.c (CS w.op.path),.c (CS w.op.dest),.c (CS w.op.data)]=wAn n w:=by rw [e]
theorem zpw (W0:World) (w:Wld) (ev:Ev) (h:WG w) (hz:HZ 1000000 w):zv Tryz.prog W0 118 [wAn 6 w,.c (eEv ev)] (wMn 6 w) (fun _:Bool=>True) (fun b => .tup [wAn (nbN b) (netW w ev).1,.c (CI (netW w ev).2)]) (fun b=>wMb b (netW w ev).1):=by
 obtain ⟨ek,ew,ep,eo,pos⟩:=ev;show zv _ _ _ [wAn 6 w,.c (.agg [CI ek,CI ew,CS ep,CI eo.kind,CS eo.path,CS eo.dest,CS eo.data,CI pos])] _ _ _ _;refine funW (c:=zf9) mixed znn (by simp) rfl rfl fun hg=>?_
 have hn:w.net.length≤1000:=by have:=h.pl.nl; omega
 have hw:netW w ⟨ek,ew,ep,eo,pos⟩=if pos < 0∨(w.net.length:Int)≤pos then (w,22)
  else if ek=7 then (zS w (w.net.getD pos.toNat noMs),0)
  else if ek=5 then (zH { w with net:=w.net.eraseIdx pos.toNat } (w.net.getD pos.toNat noMs),0)
  else ({ w with net:=w.net.eraseIdx pos.toNat },0):=rfl
 rw [hw];refine dr ?_;apply cP<;>intro h1
 ·rw [if_pos (.inl h1)];refine dr ?_;refine ⟨none,_,_,?_,false,trivial,rfl,rfl⟩;refine dr ?_;trivial
 refine dr ?_;apply cP<;>intro h2
 ·rw [if_pos (.inr h2)];refine dr ?_;refine ⟨none,_,_,?_,false,trivial,rfl,rfl⟩;refine dr ?_;trivial
 have h1':0≤pos:=h1;have h2':pos < (w.net.length:Int):=h2;rw [if_neg (by omega)];obtain ⟨k,rfl⟩:∃ k:Nat,pos=(k:Int):=⟨pos.toNat,by omega⟩;have hk:k < w.net.length:=by omega
 have hgd:w.net.getD (k:Int).toNat noMs=w.net[k]:=by rw [Int.toNat_natCast,List.getD_eq_getElem?_getD,List.getElem?_eq_getElem hk]; rfl
 rw [hgd];have hms:=h.ms _ (List.getElem_mem hk);rw [Int.toNat_natCast];refine dr ?_;refine cuts (σ:=Unit) (fun _=>[(2,.ptr 32 0),(3,.ptr 48 0),(4,.ptr 64 0),(6,.ptr 96 0)])
  (fun _=>(6,.dead 9 55)::[(32,.box [.c (za w.over.base),.c (zx w.over.layers),.c (ze w.over.upper),I w.clock,I w.count,.c (zw w.leases),.own 4 w.holds.length,.own 5 w.floors.length,.c (jI w.net),B w.waits,I w.op.kind,.c (CS w.op.path),.c (CS w.op.dest),.c (CS w.op.data)]),
   (48,.box [I ek,I ew,.c (CS ep),I eo.kind,.c (CS eo.path),.c (CS eo.dest),.c (CS eo.data),I (k:Int)]),(64,zWB),(96,.box (mCs w.net[k])),(4,.row (w.holds.map zf) 1 56),(5,.row (w.floors.map CI) 1 3)]) (fun _=>ek≠7) ?_ ?_
 ·refine dr ?_;apply cP<;>intro h3
  ·have h3':ek=7:=h3;rw [if_pos h3'];refine dr ?_;refine oW (J2 W0 w w.net[k] hn) rfl ⟨rfl,rfl,rfl,trivial⟩ rfl rfl ⟨(),trivial⟩ fun _ _=>⟨rfl,?_⟩
   refine dEr ?_;refine ⟨none,_,_,?_,false,trivial,rfl,rfl⟩;refine dr ?_;trivial
  ·refine dr ?_;refine ⟨(),h3,?_⟩;refine zj.give (L:=w.net.map eMsg) 6 rfl ?_;refine dr ?_;repeat ((first | refine oB (by simp; omega) ?_ | refine oB (by simp) ?_); first | refine dr ?_ | exact dz)
   trivial
 rintro _ h3;rw [if_neg h3];refine dr ?_;repeat ((first | refine sHiM k rfl (by omega) ?_ | refine sLoM (k+1) (by omega) (by omega) ?_ | refine oB (by simp; omega) ?_ | refine oB (by simp) ?_); first | refine dr ?_ | exact dz)
 apply cP<;>intro h4
 ·have h4':ek=5:=h4;rw [if_pos h4'];have hc:=(zpk W0 { w with net:=w.net.eraseIdx k } w.net[k] (h.lose k) ⟨hz.l,hz.h⟩ hms.who).swp 6 592;refine dr ?_;refine oW hc (congrArg (fun x=>[x,PV.c (eMsg w.net[k])]) (zkw (w:={ w with net:=w.net.eraseIdx k }) zg1)) ⟨rfl,rfl,congrArg some (congrArg (fun L=>XB.row L 9 55) zg2),trivial⟩ rfl rfl ⟨(),trivial⟩ fun _ _=>⟨rfl,?_⟩
  refine dEr ?_;refine ⟨none,_,_,?_,true,trivial,rfl,rfl⟩;refine dr ?_;trivial
 ·have h4':ek≠5:=h4;rw [if_neg h4'];refine dr ?_;refine ⟨none,_,_,?_,true,trivial,rfl,rfl⟩;refine dr ?_;repeat ((first | refine oB (congrArg (fun x=>PV.tup [x,I 0]) (zkw (w:={ w with net:=w.net.eraseIdx k }) zg1)) ?_ | refine oB (congrArg (fun L=>XB.row L 9 55) zg2) ?_); first | refine dr ?_ | exact dz)
  trivial

theorem HZ.mono {n m:Nat} {w:Wld} (h:HZ n w) (hm:n≤m):HZ m w:=⟨by have:=h.l; omega,fun x hx=>by have:=h.h x hx; omega⟩
theorem zsY {l:List Hold} {h:Hold}:(jd l h).length≤l.length+1:=by
 unfold jd;split
 ·omega
 ·have:=List.length_filter_le (fun x:Hold=>x.path != h.path) l;simp; omega
theorem HZ.set {n:Nat} {w:Wld} {k:Nat} {L:List Hold} (h:HZ n w) (hL:L.length≤n+1):∀ x∈w.holds.set k L,x.length≤n+1:=fun x hx=>by
 rcases List.mem_or_eq_of_mem_set hx with h' | h'
 ·have:=h.h x h'; omega
 ·rw [h']; exact hL
theorem yR {n:Nat} {w:Wld} (h:HZ n w) (k:Int):(hdW w k).length≤n:=by
 unfold hdW;rw [List.getD_eq_getElem?_getD];by_cases hk:k.toNat < w.holds.length
 ·rw [List.getElem?_eq_getElem hk]; exact h.h _ (List.getElem_mem hk)
 ·rw [List.getElem?_eq_none (by omega)]; simp
theorem HZ.of_eq {n:Nat} {w x:Wld} (h:HZ n w) (h1:x.leases=w.leases) (h2:x.holds=w.holds):HZ (n+1) x:=⟨by rw [h1]; have:=h.l; omega,fun y hy=>by rw [h2] at hy; have:=h.h y hy; omega⟩
theorem HZ.come {n:Nat} {w:Wld} (h:HZ n w) (m:Msg):HZ (n+1) (zH w m):=by
 have hl:=h.l;unfold zH;split
 ·unfold qN;split
  ·exact h.mono (by omega)
  ·refine ⟨?_,fun y hy=>?_⟩
   ·rw [jZ.2.2.2.1];have:=List.length_filter_le (fun x:Lease=>!(x.who==m.who&&(x.path==m.hold.path&&decide (x.num≤w.count+1)))) w.leases;show (jj w.leases m.who m.hold.path (w.count+1)++_).length≤n+1;rw [List.length_append,zaF];simp only [List.length_cons,List.length_nil]; omega
   ·rw [jZ.2.2.2.2.1] at hy;have:=h.h y hy; omega
 ·split
  ·split
   ·exact ⟨by show w.leases.length≤n+1; omega,h.set (by have:=@zsY (hdW w m.who) m.hold; have:=yR h m.who; omega)⟩
   ·exact h.mono (by omega)
  ·split
   ·refine ⟨?_,fun y hy=>?_⟩
    ·rw [jZ.2.2.2.1]; show w.leases.length≤n+1; omega
    ·rw [jZ.2.2.2.2.1] at hy;exact h.set (by have:=List.length_filter_le (fun x:Hold=>!(x.path==m.hold.path&&decide (x.num≤m.hold.num))) (hdW w m.who); have:=yR h m.who; rw [ziD]; omega) y hy
   ·split
    ·refine ⟨?_,fun y hy=>by have:=h.h y hy; omega⟩;have:=List.length_filter_le (fun x:Lease=>!(x.who==m.who&&(x.path==m.hold.path&&decide (x.num≤m.hold.num)))) w.leases;show (jj w.leases m.who m.hold.path m.hold.num).length≤n+1;rw [zaF]; omega
    ·exact h.mono (by omega)
theorem HZ.ev {n:Nat} {w:Wld} (h:HZ n w) (e:Ev):HZ (n+1) (evW w e).1:=by
 have hl:=h.l;have id1:HZ (n+1) w:=h.mono (by omega);unfold evW;split
 ·split
  ·exact h.of_eq jZ.2.2.2.1 jZ.2.2.2.2.1
  ·exact id1
 ·split
  ·unfold jD;split
   ·exact id1
   ·split
    ·exact id1
    ·split
     ·exact h.of_eq qG.2.2.2.1 qG.2.2.2.2.1
     ·exact h.of_eq rfl rfl
  ·split
   ·unfold tryW;split
    ·exact id1
    ·split
     ·exact h.of_eq qG.2.2.2.1 qG.2.2.2.2.1
     ·exact h.of_eq rfl rfl
   ·split
    ·refine ⟨?_,fun y hy=>by have:=h.h y hy; omega⟩;have:=List.length_filter_le (fun l:Lease=>decide (j3 w < l.til)) w.leases;show (w.leases.filter fun l=>decide (j3 w < l.til)).length≤n+1;omega
    ·split
     ·unfold netW;split
      ·exact id1
      ·split
       ·exact h.of_eq jZ.2.2.2.1 jZ.2.2.2.2.1
       ·split
        ·exact HZ.come (w:={ w with net:=w.net.eraseIdx e.pos.toNat }) ⟨h.l,h.h⟩ _
        ·exact h.of_eq rfl rfl
     ·exact id1
theorem HZ.new {o:Over}:HZ 0 (newW o):=⟨by simp [newW],by simp [newW]⟩
def zfZ:XC:=(.s (.r [.ex 2 (.box 0),.ex 3 (.box 1),.ex 4 (.alloc [.nil,.nil,.nil,(I 0),(I 0),.nil,.nil,.nil,.nil,(B false),(I 0),sE,sE,sE]),.m1 5 (.i 0)]) (.s (.s (.r [.f1 6 0 3,.l1 7 1 6]) (.blk 0 (.s (.r [.b1 9 .eql 7 (.i 1),.mv 8 9]) (.cnd 8 (.s (.s (.r [.f1 10 1 3,.l1 11 1 10,.c1 12 37 [11],.ex 13 (.un .not 12),.mv 14 13,.gf 15 (.fa 2 3) 14,.gf 16 (.ld false 1 15) 14,.gf 17 (.call 106 [16]) 14,.gf 18 (.un .not 17) 14,.ex 19 (.pick 14 .y 18)]) (.cnd 19 (.s (.r [.l2 20 14 2,.s1 14 4 20,.m1 5 (.i 1)]) .ret) .skip)) (.s (.r [.l2 21 14 2,.f1 22 1 3,.l1 23 1 22,.f1 24 2 3,.l1 25 1 24,.ex 26 (.build [sE,(B false),sE,(B false),sE,(I 0),(I 0)] [(0,(1,25))]),.ex 27 (.build [(I 0),(I 0),sE,(B false),sE,(B false),sE,(I 0),(I 0)] [(0,(1,(.i 1))),(1,(1,23)),(2,(7,26))]),.o1 28 114 [21,27],.s1 14 4 28,.m1 5 (.i 0)]) .ret)) (.s (.r [.b1 30 .eql 7 (.i 2),.mv 29 30]) (.cnd 29 (.s (.r [.l2 31 14 2,.f1 32 3 3,.l2 33 4 32,.o1 34 115 [31,33],.e1 35 34 0,.e1 36 34 1,.s1 14 4 35,.mv 5 36]) .ret) (.s (.r [.b1 38 .eql 7 (.i 3),.mv 37 38]) (.cnd 37 (.s (.r [.l2 39 14 2,.o1 40 116 [39],.e1 41 40 0,.e1 42 40 1,.s1 14 4 41,.mv 5 42]) .ret) (.s (.r [.b1 44 .eql 7 (.i 4),.mv 43 44]) (.cnd 43 (.s (.r [.l2 45 14 2,.o1 46 117 [45],.s1 14 4 46,.m1 5 (.i 0)]) .ret) (.s (.s (.r [.b1 48 .eql 7 (.i 5),.mv 47 48]) (.cnd 47 .skip (.s (.r [.b1 49 .eql 7 (.i 6),.mv 47 49]) (.cnd 47 .skip (.r [.b1 50 .eql 7 (.i 7),.mv 47 50]))))) (.cnd 47 (.s (.r [.l2 51 14 2,.l2 52 8 3,.o1 53 118 [51,52],.e1 54 53 0,.e1 55 53 1,.s1 14 4 54,.mv 5 55]) .ret) .skip)))))))))))) (.s (.r [.l2 56 14 2,.s1 14 4 56,.m1 5 (.i 1)]) .ret)))
theorem znd:zc Tryz.prog [114,115,116,117,118] 73=some (zfZ.ac,[(.cell 4 true 14),(.t 5)],57):=by kernel_rfl
theorem zhq (W0:World) (w:Wld) (ev:Ev) (h:WG w) (hz:HZ 1000000 w):zv Tryz.prog W0 73 [wAn 6 w,.c (eEv ev)] (wMn 6 w) (fun _:Bool=>True) (fun b => .tup [wAn (nbN b) (evW w ev).1,.c (CI (evW w ev).2)]) (fun b=>wMb b (evW w ev).1):=by
 obtain ⟨ek,ew,ep,eo,pos⟩:=ev;show zv _ _ _ [wAn 6 w,.c (.agg [CI ek,CI ew,CS ep,CI eo.kind,CS eo.path,CS eo.dest,CS eo.data,CI pos])] _ _ _ _;refine funW (c:=zfZ) mixed znd (by simp) rfl rfl fun hg=>?_
 have hn:w.net.length≤1000:=by have:=h.pl.nl; omega
 have ww:=zpF W0 w eo h hz.l;have wt:=zpC W0 w h hz.l;have wk:=zpB W0 w h hz.l;have wn:=zpw W0 w ⟨ek,ew,ep,eo,pos⟩ h hz;refine dr ?_;apply cP<;>intro k1
 ·by_cases a:isW ew∧pOk ep=true
  ·have e:evW w ⟨ek,ew,ep,eo,pos⟩=(zS w ⟨1,ew,⟨ep,false,noE,0,0⟩⟩,0):=by
    unfold evW; rw [if_pos k1,if_pos a]
   rw [e];refine dEr ?_;repeat (refine c0 (Y6 W0 _) rfl ?_; first | refine dEr ?_ | exact dz)
   apply cP<;>intro k2
   ·exact absurd a.1 k2
   refine dEr ?_;repeat (refine c0 (qE W0 _) rfl ?_; first | refine dEr ?_ | exact dz)
   apply cP<;>intro k3
   ·rw [a.2] at k3; cases k3
   refine dr ?_;refine oW (J2 W0 w ⟨1,ew,⟨ep,false,noE,0,0⟩⟩ hn) rfl ⟨rfl,rfl,rfl,trivial⟩ rfl rfl ⟨(),trivial⟩ fun _ _=>⟨rfl,?_⟩
   refine dEr ?_;refine ⟨none,_,_,?_,false,trivial,rfl,rfl⟩;refine dr ?_;trivial
  ·have e:evW w ⟨ek,ew,ep,eo,pos⟩=(w,1):=by
    unfold evW; rw [if_pos k1,if_neg a]
   rw [e];refine dEr ?_;repeat (refine c0 (Y6 W0 _) rfl ?_; first | refine dEr ?_ | exact dz)
   apply cP<;>intro k2
   ·refine dEr ?_;refine ⟨none,_,_,?_,false,trivial,rfl,rfl⟩;refine dr ?_;trivial
   refine dEr ?_;repeat (refine c0 (qE W0 _) rfl ?_; first | refine dEr ?_ | exact dz)
   apply cP<;>intro k3
   ·refine dEr ?_;refine ⟨none,_,_,?_,false,trivial,rfl,rfl⟩;refine dr ?_;trivial
   ·exact absurd ⟨k2,k3⟩ a
 refine dr ?_;apply cP<;>intro k2
 ·have e:evW w ⟨ek,ew,ep,eo,pos⟩=jD w eo:=by unfold evW; rw [if_neg k1,if_pos k2]
  rw [e];refine dr ?_;refine oW ww rfl ⟨rfl,rfl,rfl,trivial⟩ rfl rfl ⟨(),trivial⟩ fun _ _=>⟨rfl,?_⟩
  refine dEr ?_;refine ⟨none,_,_,?_,false,trivial,rfl,rfl⟩;refine dr ?_;trivial
 refine dr ?_;apply cP<;>intro k3
 ·have e:evW w ⟨ek,ew,ep,eo,pos⟩=tryW w:=by unfold evW; rw [if_neg k1,if_neg k2,if_pos k3]
  rw [e];refine dr ?_;refine oW wt rfl ⟨rfl,rfl,rfl,trivial⟩ rfl rfl ⟨(),trivial⟩ fun _ _=>⟨rfl,?_⟩
  refine dEr ?_;refine ⟨none,_,_,?_,false,trivial,rfl,rfl⟩;refine dr ?_;trivial
 refine dr ?_;apply cP<;>intro k4
 ·have e:evW w ⟨ek,ew,ep,eo,pos⟩=(yF w,0):=by unfold evW; rw [if_neg k1,if_neg k2,if_neg k3,if_pos k4]
  rw [e];refine dr ?_;refine oW wk rfl ⟨rfl,rfl,rfl,trivial⟩ rfl rfl ⟨(),trivial⟩ fun _ _=>⟨rfl,?_⟩
  refine dEr ?_;refine ⟨none,_,_,?_,false,trivial,rfl,rfl⟩;refine dr ?_;trivial
 by_cases a:5≤ek∧ek≤7
 ·have e:evW w ⟨ek,ew,ep,eo,pos⟩=netW w ⟨ek,ew,ep,eo,pos⟩:=by
   have a':5≤(⟨ek,ew,ep,eo,pos⟩:Ev).kind∧(⟨ek,ew,ep,eo,pos⟩:Ev).kind≤7:=a;unfold evW; rw [if_neg k1,if_neg k2,if_neg k3,if_neg k4,if_pos a']
  rw [e];refine dr ?_;apply cP<;>intro k5
  ·refine dr ?_;apply cP<;>intro j5;rotate_left
   ·exact absurd k5 j5
   refine dr ?_;refine oW wn rfl ⟨rfl,rfl,rfl,trivial⟩ rfl rfl ⟨false,trivial⟩ fun b _=>?_
   cases b with
   | true =>
    refine ⟨rfl,?_⟩;refine dEr ?_;refine ⟨none,_,_,?_,true,trivial,rfl,rfl⟩;refine dr ?_;trivial
   | false =>
    refine ⟨rfl,?_⟩;refine dEr ?_;refine ⟨none,_,_,?_,false,trivial,rfl,rfl⟩;refine dr ?_;trivial
  refine dr ?_;apply cP<;>intro k6
  ·refine dr ?_;apply cP<;>intro j6;rotate_left
   ·exact absurd k6 j6
   refine dr ?_;refine oW wn rfl ⟨rfl,rfl,rfl,trivial⟩ rfl rfl ⟨false,trivial⟩ fun b _=>?_
   cases b with
   | true =>
    refine ⟨rfl,?_⟩;refine dEr ?_;refine ⟨none,_,_,?_,true,trivial,rfl,rfl⟩;refine dr ?_;trivial
   | false =>
    refine ⟨rfl,?_⟩;refine dEr ?_;refine ⟨none,_,_,?_,false,trivial,rfl,rfl⟩;refine dr ?_;trivial
  refine dr ?_;apply cP<;>intro k7
  ·refine dr ?_;refine oW wn rfl ⟨rfl,rfl,rfl,trivial⟩ rfl rfl ⟨false,trivial⟩ fun b _=>?_
   cases b with
   | true =>
    refine ⟨rfl,?_⟩;refine dEr ?_;refine ⟨none,_,_,?_,true,trivial,rfl,rfl⟩;refine dr ?_;trivial
   | false =>
    refine ⟨rfl,?_⟩;refine dEr ?_;refine ⟨none,_,_,?_,false,trivial,rfl,rfl⟩;refine dr ?_;trivial
  ·omega
 ·have e:evW w ⟨ek,ew,ep,eo,pos⟩=(w,1):=by
   have a':¬ (5≤(⟨ek,ew,ep,eo,pos⟩:Ev).kind∧(⟨ek,ew,ep,eo,pos⟩:Ev).kind≤7):=a;unfold evW; rw [if_neg k1,if_neg k2,if_neg k3,if_neg k4,if_neg a']
  rw [e];refine dr ?_;apply cP<;>intro k5
  ·exact absurd ⟨by omega,by omega⟩ a
  refine dr ?_;apply cP<;>intro k6
  ·exact absurd ⟨by omega,by omega⟩ a
  refine dr ?_;apply cP<;>intro k7
  ·exact absurd ⟨by omega,by omega⟩ a
  ·refine dr ?_;refine ⟨none,_,_,?_,false,trivial,rfl,rfl⟩;refine dr ?_;trivial

structure WZ (n:Nat) (w:Wld):Prop where
 o:OZ n w.over
 z:HZ n w
 h:w.holds.length≤n
 f:w.floors.length≤n
 t:w.net.length≤n
theorem WG.wz {n:Nat} {w:Wld} (h:WG w) (hz:HZ n w) (hn:32≤n):WZ n w:=by
 obtain ⟨t,g⟩:=h.og;exact ⟨g.os.oz.mono hn,hz,by have:=h.pl.hl; omega,by have:=h.pl.fl; omega,by have:=h.pl.nl; omega⟩
theorem zj.nilS {k0:List Nat} {A:Fr} {m:XM} (bx:Nat) (cs cs':List PV) (id sz:Nat) (e:TypeId) (h0:0 < sz) (hb:lkX m bx=some (.box cs)) (hid:lkX m id=none) (hc:zb (NR1 id) cs cs') :
  zj k0 A m A ((id,.row [] sz e)::updX m bx (.box cs')):=fun W0 F K hA hK=>by
 have hb':lk (Go.Proofs.YteheahbjaddooaaGreatDoor.er m) bx=some (.box cs):=by rw [zT,hb]; rfl
 have hup:Go.Proofs.YteheahbjaddooaaGreatDoor.er (updX m bx (.box cs'))=upd (Go.Proofs.YteheahbjaddooaaGreatDoor.er m) bx (.box cs'):=yi;refine jk.nil (F2:=A) (m2:=upd (Go.Proofs.YteheahbjaddooaaGreatDoor.er m) bx (.box cs')) id sz e (by rw [zT,hid]; rfl) h0 (fun t x hx=>⟨x,by rw [← hA t]; exact hx,.inl (.inl rfl)⟩) (fun i b hi=>?_) (fun i hi=>by rw [Js]; exact hi) ?_
 ·by_cases h:i=bx
  ·subst h;rw [Zg hb'] at hi;cases hi;exact ⟨_,hb',.inr ⟨cs,cs',rfl,rfl,hc⟩⟩
  ·rw [Ya h] at hi;exact ⟨b,hi,.inl rfl⟩
 ·have:Go.Proofs.YteheahbjaddooaaGreatDoor.er ((id,XB.row [] sz e)::updX m bx (.box cs'))=(id,.row [] sz e)::upd (Go.Proofs.YteheahbjaddooaaGreatDoor.er m) bx (.box cs'):=by simp only [Go.Proofs.YteheahbjaddooaaGreatDoor.er,XB.er,hup]; rfl
  rw [this] at hK; exact hK
theorem zj.pull {k0:List Nat} {A F2:Fr} {m m3:XM} {L:List CV} {Lp Lp':List PV} {sz:Nat} {e e':TypeId} (rid id:Nat) (hr:lkX m rid=some (.rowP Lp e)) (hl:lkX m id=some (.row L sz e')) (hL:Lp.map (frA (some (id,L.length,L)))=Lp') (hin:inBX ((rid,.box [])::m3) (.rowP Lp' e)=true) (h:Yu k0 rid id L A m F2 m3) :
  zj k0 A m F2 ((rid,.rowP Lp' e)::m3):=fun W0 F K hA hK=>by
 unfold Yu at h;split at h
 case h_2=>exact h.elim
 rename_i hn1 hn2;split at h
 case h_2=>exact h.elim
 rename_i hne hk hk0 hm3 hF2;obtain ⟨f1,h⟩:=QS h;obtain ⟨f2,_⟩:=QT h;have eF:=Q5 hA f1;have eM:=Q6 f2;have hz:qJ (some (id,L))=some (id,(L.map PV.c).length,L):=by simp [qJ]
 rw [hz] at eF eM;have hrid:rid≠id:=Nat.ne_of_beq_eq_false hne;have eR:mapL (frB (some (id,(L.map PV.c).length,L))) (jz (Go.Proofs.YteheahbjaddooaaGreatDoor.er m) (rid::m3.map (·.1)))=Go.Proofs.YteheahbjaddooaaGreatDoor.er ((rid,.rowP Lp' e)::m3):=by
  have e1:lk (Go.Proofs.YteheahbjaddooaaGreatDoor.er m) rid=some (.row Lp 1 e):=by rw [zT,hr]; rfl
  simp only [jz,e1,mapL,List.map_cons] at eM ⊢;rw [eM];simp only [Go.Proofs.YteheahbjaddooaaGreatDoor.er,XB.er,frB];rw [← hL,List.length_map]
 have dom:∀ i,(lkX ((rid,XB.box [])::m3) i).isSome=(lkX ((rid,XB.rowP Lp' e)::m3) i).isSome:=fun i=>by
  simp only [lkX]; split<;>rfl
 obtain ⟨d1,d2⟩:=zin dom;refine jk.of (l:=[⟨some id,F2.map (·.1),rid::m3.map (·.1)⟩]) ?_;show Tr.on k0 _ F (Go.Proofs.YteheahbjaddooaaGreatDoor.er m) K;unfold Tr.on;simp only [];refine ⟨hk,?_,?_⟩
 ·rw [List.contains_cons,zi3 hn1];simp [Ne.symm hrid]
 ·simp only [zT,hl,Option.map_some,XB.er];refine zy (Jj L) ?_;unfold Tr.go;rw [eR,eF];refine ⟨?_,?_,?_,hK⟩
  ·rw [List.all_eq_true] at hk0 ⊢;intro i hi;have:=hk0 i hi;rw [Bool.or_eq_true] at this;rw [List.contains_cons];rcases this with h | h
   ·rw [Nat.eq_of_beq_eq_true h]; simp
   ·rw [zcc h,Bool.or_true]
  ·refine zat ?_;unfold inMX;rw [List.all_cons];rw [Bool.and_eq_true];refine ⟨by rw [← d2]; exact hin,?_⟩;rw [← hm3]
   congr 1
   funext p;exact (d2 p.2).symm
  ·rw [List.all_eq_true] at hF2 ⊢;intro p hp;rw [← Q3,← d1]; exact hF2 p hp
def zbe:XC:=(.s (.r [.ex 1 (.box 0),.ex 2 (.alloc [.nil,.nil,.nil,(I 0),(I 0),.nil,.nil,.nil,.nil,(B false),(I 0),sE,sE,sE])]) (.s (.r [.l2 5 14 1,.ex 3 (.alloc [.nil,.nil,.nil,(I 0),(I 0),.nil,.nil,.nil,.nil,(B false),(I 0),sE,sE,sE]),.s1 14 3 5]) (.s (.r [.f1 6 0 1,.l2 7 3 6,.c1 8 102 [7],.f1 9 0 3,.s1 3 9 8]) (.s (.r [.ex 10 .bsl0,.f1 11 5 1,.l1 12 1 11,.ex 13 (.app true 4 40 72 10 12),.f1 14 5 3,.s1 1 14 13]) (.s (.r [.ex 15 .bsl0,.f1 16 6 3,.s1 1 16 15]) (.s (.s (.r [.m1 4 (.i 0)]) (.blk 0 (.loop (.s (.s (.r [.mv 17 4,.f1 18 6 1,.l1 19 1 18,.n1 20 19,.b1 21 .lss 17 20]) (.cnd 21 .skip (.exit 0))) (.s (.blk 1 (.d [.f1 24 6 3,.l1 25 1 24,.ex 26 .bsl0,.f1 27 6 1,.l1 28 1 27,.mv 29 4,.i1 30 1 28 29,.l1 31 1 30,.ex 32 (.app true 7 80 53 26 31),.ex 33 (.bsl 1 56 [32]),.ex 34 (.app false 1 24 56 25 33),.f1 35 6 3,.s1 1 35 34])) (.r [.mv 22 4,.b1 23 .add 22 (.i 1),.mv 4 23])))))) (.s (.r [.ex 36 .bsl0,.f1 37 7 1,.l1 38 1 37,.ex 39 (.app true 1 8 3 36 38),.f1 40 7 3,.s1 1 40 39]) (.s (.r [.ex 41 .bsl0,.f1 42 8 1,.l1 43 1 42,.ex 44 (.app true 9 96 55 41 43),.f1 45 8 3,.s1 1 45 44]) (.s (.r [.l2 46 14 3,.s1 14 2 46]) .ret)))))))))
theorem zfY:zc Tryz.prog [] 45=some (zbe.ac,[(.cell 2 true 14)],47):=by kernel_rfl
theorem zpo (W0:World) (w:Wld) (hz:WZ 1000000 w):zv Tryz.prog W0 45 [.c (zA w)] [] (fun _:Unit=>True) (fun _ => .agg [.c (za w.over.base),.c (zx w.over.layers),.c (ze w.over.upper),I w.clock,I w.count,.c (zw w.leases),.own 14 w.holds.length,.own 624 w.floors.length,.own 704 w.net.length,B w.waits,I w.op.kind,.c (CS w.op.path),.c (CS w.op.dest),.c (CS w.op.data)]) (fun _=>[(14,.row (w.holds.map zf) 1 56),(624,.row (w.floors.map CI) 1 3),(704,.row (w.net.map eMsg) 9 55)]):=by
 refine funW (c:=zbe) mixed zfY (by simp) rfl rfl fun hg=>?_
 obtain ⟨hzo,⟨hzl,hzh⟩,hh,hf,hn⟩:=hz;refine dEr ?_;repeat ((first | refine c0 (J1 W0 _ (hzo.mono (by omega))) rfl ?_ | refine oB (by simp; omega) ?_ | refine oB (by simp) ?_); first | refine dEr ?_ | exact dz)
 refine lq (σ:=Nat) (fun k=>[(1,.ptr 16 0),(2,.ptr 32 0),(3,.ptr 48 0),(4,I k)]) (fun k=>[(14,.row ((w.holds.take k).map zf) 1 56),(16,wBx w),(32,zWB),(48,.box [.c (za w.over.base),.c (zx w.over.layers),.c (ze w.over.upper),I w.clock,I w.count,.c (zw w.leases),.own 14 k,.c (jN w.floors),.c (jI w.net),B w.waits,I w.op.kind,.c (CS w.op.path),.c (CS w.op.dest),.c (CS w.op.data)])]) (fun k=>k≤w.holds.length) (fun k=>w.holds.length - k) 0 (by simp) ?_ ?_
 ·refine zn.trans (z:=some 208) (z':=some 3) (F1:=[(1,.ptr 16 0),(2,.ptr 32 0),(3,.ptr 48 0),(4,I 0)]) (m1:=[(16,wBx w),(32,zWB),(48,.box [.c (za w.over.base),.c (zx w.over.layers),.c (ze w.over.upper),I w.clock,I w.count,.c (zw w.leases),.nil,.c (jN w.floors),.c (jI w.net),B w.waits,I w.op.kind,.c (CS w.op.path),.c (CS w.op.dest),.c (CS w.op.data)])]) ?_ ?_
  ·refine dr ?_;repeat (refine oB (by simp<;>rfl) ?_; first | refine dr ?_ | exact dz)
   trivial
  ·show zj _ _ _ _ _;exact zj.nilB 48 [.c (za w.over.base),.c (zx w.over.layers),.c (ze w.over.upper),I w.clock,I w.count,.c (zw w.leases),.nil,.c (jN w.floors),.c (jI w.net),B w.waits,I w.op.kind,.c (CS w.op.path),.c (CS w.op.dest),.c (CS w.op.data)] [.c (za w.over.base),.c (zx w.over.layers),.c (ze w.over.upper),I w.clock,I w.count,.c (zw w.leases),.own 14 0,.c (jN w.floors),.c (jI w.net),B w.waits,I w.op.kind,.c (CS w.op.path),.c (CS w.op.dest),.c (CS w.op.data)] 14 56 rfl rfl ⟨nr0,nr0,nr0,nr0,nr0,nr0,nr1,nr0,nr0,nr0,nr0,nr0,nr0,nr0,trivial⟩
 intro k hk;refine dr ?_;apply cP<;>intro h1
 ·have hk':k < w.holds.length:=by omega
  have hzk:=hzh _ (List.getElem_mem hk');refine dr ?_;repeat ((first | refine oB (by simp; omega) ?_ | refine oB (by simp) ?_); first | refine dr ?_ | exact dz)
  refine ⟨k+1,by omega,by omega,?_⟩;rw [List.take_succ_eq_append_getElem hk',List.map_append];refine zj.push (C:=(w.holds.take k).map zf) (L:=w.holds[k].map zD) 14 512 rfl rfl (by simp) ?_;refine dr ?_;trivial
 have hkl:k=w.holds.length:=by omega
 subst hkl;rw [List.take_length];refine dr ?_;repeat ((first | refine oB (by simp; omega) ?_ | refine oB (by simp) ?_); first | refine dr ?_ | exact dz)
 refine ⟨none,_,_,?_,(),trivial,rfl,rfl⟩;refine dr ?_;repeat (refine oB (by simp) ?_; first | refine dr ?_ | exact dz)
 trivial
theorem zpn (W0:World) (w:Wld) (hz:WZ 1000000 w):zv Tryz.prog W0 45 [.c (zA w)] [] (fun _:Unit=>True) (fun _=>wAn 6 w) (fun _=>wMn 6 w) :=
 (((zpo W0 w hz).swp 14 4).swp 624 5).swp 704 6
theorem zbL (W0:World) (w:Wld) (hz:WZ 1000000 w):zv Tryz.prog W0 45 [wAn 6 w] (wMn 6 w) (fun _:Unit=>True) (fun _ => .c (zA w)) (fun _=>wMn 6 w):=by
 refine funW (c:=zbe) mixed zfY (by simp) rfl rfl fun hg=>?_
 obtain ⟨hzo,⟨hzl,hzh⟩,hh,hf,hn⟩:=hz;refine dEr ?_;repeat ((first | refine c0 (J1 W0 _ (hzo.mono (by omega))) rfl ?_ | refine oB (by simp; omega) ?_ | refine oB (by simp) ?_); first | refine dEr ?_ | exact dz)
 refine lq (σ:=Nat) (fun k=>[(1,.ptr 16 0),(2,.ptr 32 0),(3,.ptr 48 0),(4,I k)]) (fun k=>[(14,.row ((w.holds.take k).map zf) 1 56),(16,.box (wCo 6 w)),(32,zWB),(48,.box [.c (za w.over.base),.c (zx w.over.layers),.c (ze w.over.upper),I w.clock,I w.count,.c (zw w.leases),.own 14 k,.own 5 w.floors.length,.own 6 w.net.length,B w.waits,I w.op.kind,.c (CS w.op.path),.c (CS w.op.dest),.c (CS w.op.data)])]++wMn 6 w) (fun k=>k≤w.holds.length) (fun k=>w.holds.length - k) 0 (by simp) ?_ ?_
 ·refine zn.trans (z:=some 208) (z':=some 3) (F1:=[(1,.ptr 16 0),(2,.ptr 32 0),(3,.ptr 48 0),(4,I 0)]) (m1:=[(16,.box (wCo 6 w)),(32,zWB),(48,.box [.c (za w.over.base),.c (zx w.over.layers),.c (ze w.over.upper),I w.clock,I w.count,.c (zw w.leases),.nil,.own 5 w.floors.length,.own 6 w.net.length,B w.waits,I w.op.kind,.c (CS w.op.path),.c (CS w.op.dest),.c (CS w.op.data)])]++wMn 6 w) ?_ ?_
  ·refine dr ?_;repeat (refine oB (by simp<;>rfl) ?_; first | refine dr ?_ | exact dz)
   trivial
  ·show zj _ _ _ _ _;exact zj.nilB 48 [.c (za w.over.base),.c (zx w.over.layers),.c (ze w.over.upper),I w.clock,I w.count,.c (zw w.leases),.nil,.own 5 w.floors.length,.own 6 w.net.length,B w.waits,I w.op.kind,.c (CS w.op.path),.c (CS w.op.dest),.c (CS w.op.data)] [.c (za w.over.base),.c (zx w.over.layers),.c (ze w.over.upper),I w.clock,I w.count,.c (zw w.leases),.own 14 0,.own 5 w.floors.length,.own 6 w.net.length,B w.waits,I w.op.kind,.c (CS w.op.path),.c (CS w.op.dest),.c (CS w.op.data)] 14 56 rfl rfl ⟨nr0,nr0,nr0,nr0,nr0,nr0,nr1,nr0,nr0,nr0,nr0,nr0,nr0,nr0,trivial⟩
 intro k hk;refine dr ?_;apply cP<;>intro h1
 ·have hk':k < w.holds.length:=by omega
  have hzk:=hzh _ (List.getElem_mem hk');refine dr ?_;repeat ((first | refine oB (by simp; omega) ?_ | refine oB (by simp) ?_); first | refine dr ?_ | exact dz)
  refine ⟨k+1,by omega,by omega,?_⟩;rw [List.take_succ_eq_append_getElem hk',List.map_append];refine zj.push (C:=(w.holds.take k).map zf) (L:=w.holds[k].map zD) 14 512 rfl rfl (by simp) ?_;refine dr ?_;trivial
 have hkl:k=w.holds.length:=by omega
 subst hkl;rw [List.take_length];refine dr ?_;repeat ((first | refine oB (by simp; omega) ?_ | refine oB (by simp) ?_); first | refine dr ?_ | exact dz)
 refine ⟨some 3,_,_,?_,(),trivial,rfl,rfl⟩;refine zn.trans (z:=some 14) (z':=some 3) (F1:=[(0,.agg [.c (za w.over.base),.c (zx w.over.layers),.c (ze w.over.upper),I w.clock,I w.count,.c (zw w.leases),.c (jx w.holds),.own 624 w.floors.length,.own 704 w.net.length,B w.waits,I w.op.kind,.c (CS w.op.path),.c (CS w.op.dest),.c (CS w.op.data)])]) (m1:=[(624,.row (w.floors.map CI) 1 3),(704,.row (w.net.map eMsg) 9 55)]++wMn 6 w) ?_ ?_
 ·refine dr ?_;repeat ((first | refine oB (by simp<;>rfl) ?_ | refine oB (by simp) ?_); first | refine dr ?_ | exact dz)
  trivial
 refine zn.trans (z:=some 624) (z':=some 704) (F1:=[(0,.agg [.c (za w.over.base),.c (zx w.over.layers),.c (ze w.over.upper),I w.clock,I w.count,.c (zw w.leases),.c (jx w.holds),.c (jN w.floors),.own 704 w.net.length,B w.waits,I w.op.kind,.c (CS w.op.path),.c (CS w.op.dest),.c (CS w.op.data)])]) (m1:=[(704,.row (w.net.map eMsg) 9 55)]++wMn 6 w) ?_ ?_
 ·refine dr ?_;repeat ((first | refine oB (by simp<;>rfl) ?_ | refine oB (by simp) ?_); first | refine dr ?_ | exact dz)
  trivial
 ·refine dr ?_;repeat ((first | refine oB (by simp<;>rfl) ?_ | refine oB (by simp) ?_); first | refine dr ?_ | exact dz)
  trivial

def zfb:XC:=(.s (.r [.ex 1 (.box 0),.ex 2 (.alloc [.nil,.nil,.nil,(I 0),(I 0),.nil,.nil,.nil,.nil,(B false),(I 0),sE,sE,sE])]) (.s (.d [.l2 3 3 1,.c1 4 102 [3],.ex 5 (.mks 1 24 56 (.c (.row [])) (.i 3)),.ex 6 (.mks 1 8 3 (I 0) (.i 3)),.ex 7 (.build [.nil,.nil,.nil,(I 0),(I 0),.nil,.nil,.nil,.nil,(B false),(I 0),sE,sE,sE] [(0,(3,4)),(6,(1,5)),(7,(1,6))]),.s1 14 2 7]) .ret))
theorem zmr:zc Tryz.prog [] 72=some (zfb.ac,[(.cell 2 true 14)],8):=by kernel_rfl
theorem zp2 (W0:World) (o:Over) (h:OZ 1000000 o):zv Tryz.prog W0 72 [.c (jL o)] [] (fun _:Unit=>True) (fun _ => .agg [.c (za o.base),.c (zx o.layers),.c (ze o.upper),I 0,I 0,.nil,.own 80 3,.own 96 3,.nil,B false,I 0,.c (CS []),.c (CS []),.c (CS [])])
  (fun _=>[(80,.row (([[],[],[]]:List (List Hold)).map zf) 1 56),(96,.row (([0,0,0]:List Int).map CI) 1 3)]):=by
 refine funW (c:=zfb) mixed zmr (by simp) rfl rfl fun hg=>?_
 refine dEr ?_;repeat ((first | refine c0 (J1 W0 o h) rfl ?_ | refine nE (j:=3) rfl ?_ | refine oB (by simp) ?_); first | refine dEr ?_ | exact dz)
 refine ⟨none,_,_,?_,(),trivial,rfl,rfl⟩;refine dr ?_;repeat (refine oB (by simp) ?_; first | refine dr ?_ | exact dz)
 trivial
theorem zp1 (W0:World) (o:Over) (h:OZ 1000000 o):zv Tryz.prog W0 72 [.c (jL o)] [] (fun _:Unit=>True) (fun _ => .agg [.c (za o.base),.c (zx o.layers),.c (ze o.upper),I 0,I 0,.nil,.own 4 3,.own 5 3,.nil,B false,I 0,.c (CS []),.c (CS []),.c (CS [])])
  (fun _=>[(4,.row (([[],[],[]]:List (List Hold)).map zf) 1 56),(5,.row (([0,0,0]:List Int).map CI) 1 3)]):=((zp2 W0 o h).swp 80 4).swp 96 5
theorem zj.newB {k0:List Nat} {A:Fr} {m:XM} (bx:Nat) (o:Over) (hb:lkX m bx=some (.box [.c (za o.base),.c (zx o.layers),.c (ze o.upper),I 0,I 0,.nil,.own 4 3,.own 5 3,.nil,B false,I 0,.c (CS []),.c (CS []),.c (CS [])])) (h6:lkX m 6=none) (hne:bx≠6)
  {F2:Fr} {m2:XM} {z:Option Nat} (h:zn k0 z A ((6,.row [] 9 55)::updX (updX m bx (.box [.c (za o.base),.c (zx o.layers),.c (ze o.upper),I 0,I 0,.c (.row []),.own 4 3,.own 5 3,.nil,B false,I 0,.c (CS []),.c (CS []),.c (CS [])])) bx (.box [.c (za o.base),.c (zx o.layers),.c (ze o.upper),I 0,I 0,.c (.row []),.own 4 3,.own 5 3,.own 6 0,B false,I 0,.c (CS []),.c (CS []),.c (CS [])])) F2 m2):zn k0 (some 3) A m F2 m2:=by
 refine zj.trans (z:=some 3) (zj.nilC bx _ [.c (za o.base),.c (zx o.layers),.c (ze o.upper),I 0,I 0,.c (.row []),.own 4 3,.own 5 3,.nil,B false,I 0,.c (CS []),.c (CS []),.c (CS [])] hb ⟨nc0,nc0,nc0,nc0,nc0,nc1,nc0,nc0,nc0,nc0,nc0,nc0,nc0,nc0,trivial⟩) ?_;have key:∀ {m:XM} {b b':XB},lkX m bx=some b→lkX (updX m bx b') bx=some b':=by
  intro m b b' hm;induction m with
  | nil=>cases hm
  | cons p l ih =>
   obtain ⟨k,x⟩:=p;rw [lkX] at hm;rw [updX];cases hk:Nat.beq k bx with
   | true=>simp only [lkX]; rw [Nat.eq_of_beq_eq_true hk]; simp
   | false =>
    have hk':Nat.beq bx k=false:=by
     cases h':Nat.beq bx k with
     | false=>rfl
     | true=>rw [Nat.eq_of_beq_eq_true h'] at hk; simp at hk
    rw [hk'] at hm;simp only [lkX,hk'];exact ih hm
 have key2:∀ {m:XM} {b':XB},lkX m 6=none→lkX (updX m bx b') 6=none:=by
  intro m b' hm;induction m with
  | nil=>rfl
  | cons p l ih =>
   obtain ⟨k,x⟩:=p;rw [lkX] at hm;rw [updX];cases hk6:Nat.beq 6 k with
   | true=>rw [hk6] at hm; cases hm
   | false =>
    rw [hk6] at hm;cases hk:Nat.beq k bx with
    | true=>simp only [lkX,hk6]; exact hm
    | false=>simp only [lkX,hk6]; exact ih hm
 exact zj.trans (zj.nilS bx _ [.c (za o.base),.c (zx o.layers),.c (ze o.upper),I 0,I 0,.c (.row []),.own 4 3,.own 5 3,.own 6 0,B false,I 0,.c (CS []),.c (CS []),.c (CS [])] 6 9 55 (by omega) (key hb) (key2 h6) ⟨nr0,nr0,nr0,nr0,nr0,nr0,nr0,nr0,nr1,nr0,nr0,nr0,nr0,nr0,trivial⟩) h
theorem zcx {α:Type} {q:α→Bool} {l:List α} {k:Nat} (h:k < l.length) (hn:∀ x∈l.take k,q x=false) (h1:q l[k]=false):∀ x∈l.take (k+1),q x=false:=fun x hx=>by
 rw [List.take_succ_eq_append_getElem h] at hx;rcases List.mem_append.1 hx with h' | h'
 ·exact hn x h'
 ·rw [List.mem_singleton.1 h']; exact h1
end Go.Proofs.YteheahbjaddooaaGreatDoor
