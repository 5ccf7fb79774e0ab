/- The texts Pb3, Pb8, Pb9, Pb4, Bm2, Pb5, Pb6, Pb7, Db1, Pc1, Pd1, Qb2, Db2, Db3, Dc1, Pd2, Pd3, Qb3, Qb4, Pd4, Pd5, Pd6, joined; no condition. -/
import Derived.Test.YteheahbjaddooaaGreatDoorWqC

namespace Go.Proofs.YteheahbjaddooaaGreatDoor
set_option linter.unusedSimpArgs false
set_option linter.unusedVariables false
open Go Go.RowKit
def zaQ:XC:=(.s (.r [.ex 3 (.box 1),.ex 4 (.asn (.k .nil) 3 39)]) (.s (.r [.ex 7 .bsl0,.a1 5 7 3 39]) (.s (.r [.m1 6 (.i 0)]) (.s (.blk 0 (.loop (.s (.s (.d [.mv 8 6,.mv 9 0,.n1 10 9,.b1 11 .lss 8 10,.mv 12 11,.gt 13 (.mv 0) 12,.gt 14 (.mv 6) 12,.gt 15 (.ia 3 13 14) 12,.gt 16 (.fa 0 15) 12,.gt 17 (.ld false 1 16) 12,.gt 18 (.fa 0 3) 12,.gt 19 (.ld false 1 18) 12,.gt 20 (.bin .lss 17 19) 12,.ex 21 (.pick 12 20 .n)]) (.cnd 21 .skip (.exit 0))) (.blk 1 (.s (.r [.mv 22 5,.mv 23 0,.mv 24 6,.i1 25 3 23 24,.l2 26 3 25,.ex 27 (.bsl 3 39 [26]),.ex 28 (.app false 3 40 39 22 27),.a1 5 28 3 39]) (.r [.mv 29 6,.b1 30 .add 29 (.i 1),.mv 6 30])))))) (.s (.r [.mv 31 5,.l2 32 3 3,.ex 33 (.bsl 3 39 [32]),.ex 34 (.app false 3 40 39 31 33),.a1 5 34 3 39]) (.s (.s (.d [.mv 35 6,.mv 36 0,.n1 37 36,.b1 38 .lss 35 37,.mv 39 38,.gt 40 (.mv 0) 39,.gt 41 (.mv 6) 39,.gt 42 (.ia 3 40 41) 39,.gt 43 (.fa 0 42) 39,.gt 44 (.ld false 1 43) 39,.gt 45 (.fa 0 3) 39,.gt 46 (.ld false 1 45) 39,.gt 47 (.bin .eql 44 46) 39,.ex 48 (.pick 39 47 .n)]) (.cnd 48 (.r [.mv 49 6,.b1 50 .add 49 (.i 1),.mv 6 50]) .skip)) (.s (.r [.mv 51 5,.mv 52 0,.mv 53 6,.ex 54 (.slr 3 52 (.some 53) .none),.ex 55 (.app false 3 40 39 51 54),.a1 4 55 3 39]) .ret)))))))
theorem zaT:compF Tryz.prog [] 178=some (zaQ.ac,[(.t 4)],56):=by kernel_rfl
theorem js (W0:World) (t:List Ent) (e:Ent) (ht:t.length≤1000000):Fn Tryz.prog W0 178 [eEnts t,eEnt e] (.c (eEnts (put t e))) []:=by
 refine fnX (c:=zaQ) mixed zaT (by simp) rfl fun hg=>?_
 refine dr ?_
 refine lp (σ:=Nat) (fun k=>[(0,.c (eEnts t)),(3,.ptr 48 0),(5,.own 80 k),(6,I k)]) (fun k=>[(48,.box [.c (CS e.path),(.c (CB e.dir)),.c (CS e.data)]),(80,.row ((t.take k).map eEnt) 3 39)]) (fun k=>k≤t.length∧(t.take k).all (fun x=>ltS x.path e.path)=true) (fun k=>t.length - k) 0 ⟨by simp,by simp⟩ ?_ ?_
 ·refine dr ?_
  trivial
 rintro k ⟨hk,ha⟩
 refine dr ?_
 refine cP ?_ ?_<;>intro h1
 ·have hk':k < t.length:=by omega
  refine dr ?_
  refine cP ?_ ?_<;>intro h2
  ·refine dr ?_
   repeat ((first | refine oB (by simp; omega) ?_ | refine oB (by simp) ?_); first | refine dr ?_ | exact dz)
   refine ⟨k+1,⟨by omega,y3 hk' ha h2⟩,by omega,?_⟩
   refine dr ?_
   repeat ((first | refine oB (by simp; omega) ?_ | refine oB (tmn hk') ?_); first | refine dr ?_ | exact dz)
   trivial
  ·refine dr ?_
   repeat ((first | refine oB (by simp; omega) ?_ | refine oB (by simp) ?_); first | refine dr ?_ | exact dz)
   refine cP ?_ ?_<;>intro h3
   rotate_left
   ·omega
   refine dr ?_
   refine cP ?_ ?_<;>intro h4
   ·refine dr ?_
    repeat ((first | refine sLoM (k+1) (by omega) (by omega) ?_ | refine oB (by simp; omega) ?_ | refine oB (by simp) ?_); first | refine dr ?_ | exact dz)
    show _=eEnts (putG _ t e)
    rw [zkS hk' ha h2 h4]; simp [eEnts]; rfl
   ·refine dr ?_
    repeat ((first | refine sLoM k (by omega) (by omega) ?_ | refine oB (by simp; omega) ?_ | refine oB (by simp) ?_); first | refine dr ?_ | exact dz)
    show _=eEnts (putG _ t e)
    rw [zkX hk' ha h2 h4]; simp [eEnts]; rfl
 ·refine dr ?_
  repeat ((first | refine oB (by simp; omega) ?_ | refine oB (by simp) ?_); first | refine dr ?_ | exact dz)
  refine cP ?_ ?_<;>intro h3
  ·omega
  refine dr ?_
  repeat ((first | refine sLoM k (by omega) (by omega) ?_ | refine oB (by simp; omega) ?_ | refine oB (by simp) ?_); first | refine dr ?_ | exact dz)
  show _=eEnts (putG _ t e)
  rw [zkV (by omega) ha]
  have:k=t.length:=by omega
  simp [eEnts,this]; rfl
def zbm:XC:=(.s (.r [.ex 3 (.box 1),.ex 4 (.asn (.k .nil) 3 133)]) (.s (.r [.ex 7 .bsl0,.a1 5 7 3 133]) (.s (.r [.m1 6 (.i 0)]) (.s (.blk 0 (.loop (.s (.s (.d [.mv 8 6,.mv 9 0,.n1 10 9,.b1 11 .lss 8 10,.mv 12 11,.gt 13 (.mv 0) 12,.gt 14 (.mv 6) 12,.gt 15 (.ia 3 13 14) 12,.gt 16 (.fa 0 15) 12,.gt 17 (.ld false 1 16) 12,.gt 18 (.fa 0 3) 12,.gt 19 (.ld false 1 18) 12,.gt 20 (.bin .lss 17 19) 12,.ex 21 (.pick 12 20 .n)]) (.cnd 21 .skip (.exit 0))) (.blk 1 (.s (.r [.mv 22 5,.mv 23 0,.mv 24 6,.i1 25 3 23 24,.l2 26 3 25,.ex 27 (.bsl 3 133 [26]),.ex 28 (.app false 3 40 133 22 27),.a1 5 28 3 133]) (.r [.mv 29 6,.b1 30 .add 29 (.i 1),.mv 6 30])))))) (.s (.r [.mv 31 5,.l2 32 3 3,.ex 33 (.bsl 3 133 [32]),.ex 34 (.app false 3 40 133 31 33),.a1 5 34 3 133]) (.s (.s (.d [.mv 35 6,.mv 36 0,.n1 37 36,.b1 38 .lss 35 37,.mv 39 38,.gt 40 (.mv 0) 39,.gt 41 (.mv 6) 39,.gt 42 (.ia 3 40 41) 39,.gt 43 (.fa 0 42) 39,.gt 44 (.ld false 1 43) 39,.gt 45 (.fa 0 3) 39,.gt 46 (.ld false 1 45) 39,.gt 47 (.bin .eql 44 46) 39,.ex 48 (.pick 39 47 .n)]) (.cnd 48 (.r [.mv 49 6,.b1 50 .add 49 (.i 1),.mv 6 50]) .skip)) (.s (.r [.mv 51 5,.mv 52 0,.mv 53 6,.ex 54 (.slr 3 52 (.some 53) .none),.ex 55 (.app false 3 40 133 51 54),.a1 4 55 3 133]) .ret)))))))
theorem zbn:compF Tryz.prog [] 125=some (zbm.ac,[(.t 4)],56):=by kernel_rfl
theorem ju (W0:World) (t:List Mark) (e:Mark) (ht:t.length≤1000000):Fn Tryz.prog W0 125 [eMarks t,eMark e] (.c (eMarks (lput t e))) []:=by
 refine fnX (c:=zbm) mixed zbn (by simp) rfl fun hg=>?_
 refine dr ?_
 refine lp (σ:=Nat) (fun k=>[(0,.c (eMarks t)),(3,.ptr 48 0),(5,.own 80 k),(6,I k)]) (fun k=>[(48,.box [.c (CS e.path),(I e.kind),.c (CS e.data)]),(80,.row ((t.take k).map eMark) 3 133)]) (fun k=>k≤t.length∧(t.take k).all (fun x=>ltS x.path e.path)=true) (fun k=>t.length - k) 0 ⟨by simp,by simp⟩ ?_ ?_
 ·refine dr ?_
  trivial
 rintro k ⟨hk,ha⟩
 refine dr ?_
 refine cP ?_ ?_<;>intro h1
 ·have hk':k < t.length:=by omega
  refine dr ?_
  refine cP ?_ ?_<;>intro h2
  ·refine dr ?_
   repeat ((first | refine oB (by simp; omega) ?_ | refine oB (by simp) ?_); first | refine dr ?_ | exact dz)
   refine ⟨k+1,⟨by omega,y3 hk' ha h2⟩,by omega,?_⟩
   refine dr ?_
   repeat ((first | refine oB (by simp; omega) ?_ | refine oB (tmn hk') ?_); first | refine dr ?_ | exact dz)
   trivial
  ·refine dr ?_
   repeat ((first | refine oB (by simp; omega) ?_ | refine oB (by simp) ?_); first | refine dr ?_ | exact dz)
   refine cP ?_ ?_<;>intro h3
   rotate_left
   ·omega
   refine dr ?_
   refine cP ?_ ?_<;>intro h4
   ·refine dr ?_
    repeat ((first | refine sLoM (k+1) (by omega) (by omega) ?_ | refine oB (by simp; omega) ?_ | refine oB (by simp) ?_); first | refine dr ?_ | exact dz)
    show _=eMarks (putG _ t e)
    rw [zkS hk' ha h2 h4]; simp [eMarks]; rfl
   ·refine dr ?_
    repeat ((first | refine sLoM k (by omega) (by omega) ?_ | refine oB (by simp; omega) ?_ | refine oB (by simp) ?_); first | refine dr ?_ | exact dz)
    show _=eMarks (putG _ t e)
    rw [zkX hk' ha h2 h4]; simp [eMarks]; rfl
 ·refine dr ?_
  repeat ((first | refine oB (by simp; omega) ?_ | refine oB (by simp) ?_); first | refine dr ?_ | exact dz)
  refine cP ?_ ?_<;>intro h3
  ·omega
  refine dr ?_
  repeat ((first | refine sLoM k (by omega) (by omega) ?_ | refine oB (by simp; omega) ?_ | refine oB (by simp) ?_); first | refine dr ?_ | exact dz)
  show _=eMarks (putG _ t e)
  rw [zkV (by omega) ha]
  have:k=t.length:=by omega
  simp [eMarks,this]; rfl
def zaY:XC:=(.s (.r [.ex 4 (.asn (.k .nil) 1 9)]) (.s (.r [.mv 13 0,.a1 5 13 3 39]) (.s (.s (.r [.m1 6 (.i 0)]) (.blk 0 (.loop (.s (.s (.r [.mv 14 6,.mv 15 1,.n1 16 15,.b1 17 .lss 14 16]) (.cnd 17 .skip (.exit 0))) (.s (.blk 1 (.r [.mv 20 5,.mv 21 1,.mv 22 6,.i1 23 3 21 22,.l2 24 3 23,.c1 25 178 [20,24],.a1 5 25 3 39])) (.r [.mv 18 6,.b1 19 .add 18 (.i 1),.mv 6 19])))))) (.s (.r [.ex 26 .bsl0,.a1 7 26 1 9]) (.s (.s (.r [.m1 8 (.i 0)]) (.blk 2 (.loop (.s (.s (.r [.mv 27 8,.mv 28 5,.n1 29 28,.b1 30 .lss 27 29]) (.cnd 30 .skip (.exit 2))) (.s (.blk 3 (.s (.r [.mv 34 0,.mv 35 5,.mv 36 8,.i1 37 3 35 36,.f1 38 0 37,.l1 39 1 38,.c1 40 121 [34,39],.mv 33 40,.e1 41 33 0,.e1 42 33 1,.ex 9 (.alloc [sE,(B false),sE]),.s1 3 9 41,.mv 10 42]) (.s (.r [.mv 44 1,.mv 45 5,.mv 46 8,.i1 47 3 45 46,.f1 48 0 47,.l1 49 1 48,.c1 50 121 [44,49],.mv 43 50,.e1 51 43 0,.e1 52 43 1,.ex 11 (.alloc [sE,(B false),sE]),.s1 3 11 51,.mv 12 52]) (.s (.r [.mv 53 10,.mv 54 12,.ex 55 (.bb true 53 54),.mv 56 55,.gf 57 (.ld true 3 9) 56,.gf 58 (.ld true 3 11) 56,.gf 59 (.beq true [.s,.b,.s] 57 58) 56,.ex 60 (.pick 56 .y 59)]) (.cnd 60 (.r [.mv 61 7,.mv 62 5,.mv 63 8,.i1 64 3 62 63,.f1 65 0 64,.l1 66 1 65,.ex 67 (.bsl 1 9 [66]),.ex 68 (.app false 1 16 9 61 67),.a1 7 68 1 9]) .skip))))) (.r [.mv 31 8,.b1 32 .add 31 (.i 1),.mv 8 32])))))) (.s (.r [.mv 69 7,.a1 4 69 1 9]) .ret))))))
theorem zaZ:compF Tryz.prog [] 120=some (zaY.ac,[(.t 4)],70):=by kernel_rfl
theorem ze1 (W0:World) (a b:List Ent) (ht:a.length+b.length≤1000000):Fn Tryz.prog W0 120 [eEnts a,eEnts b] (.c (eStrs (turned a b))) []:=by
 refine fnX (c:=zaY) mixed zaZ (by simp) rfl fun hg=>?_
 refine dr ?_
 refine lp (σ:=Nat) (fun k=>[(0,.c (eEnts a)),(1,.c (eEnts b)),(5,.c (eEnts ((b.take k).foldl put a))),(6,I k)]) (fun _=>[]) (fun k=>k≤b.length) (fun k=>b.length - k) 0 (by simp) ?_ ?_
 ·refine dr ?_
  trivial
 intro k hk
 have hlk:((b.take k).foldl put a).length≤a.length+b.length:=zhb b a k
 refine dr ?_
 refine cP ?_ ?_<;>intro h1
 ·have hk':k < b.length:=by omega
  refine dr ?_
  repeat (refine c0 (js W0 _ _ (by omega)) rfl ?_; first | refine dr ?_ | exact dz)
  intro hg1
  refine dr ?_
  refine ⟨k+1,by omega,by omega,?_⟩
  refine dr ?_
  repeat (refine oB (by rw [jX hk']) ?_; first | refine dr ?_ | exact dz)
  trivial
 have hkl:k=b.length:=by omega
 subst hkl
 rw [List.take_length] at hlk ⊢
 have hB:b.foldl put a=both a b:=rfl
 rw [hB] at hlk ⊢
 generalize hBB:both a b=B at *
 refine dr ?_
 refine lp (σ:=Nat) (fun k=>[(0,.c (eEnts a)),(1,.c (eEnts b)),(5,.c (eEnts B)),(8,I k),(7,.own 112 ((B.take k).filter (tudP a b)).length)]) (fun k=>[(112,.row (((B.take k).filter (tudP a b)).map fun e=>CS e.path) 1 9)]) (fun k=>k≤B.length) (fun k=>B.length - k) 0 (by simp) ?_ ?_
 ·refine dr ?_
  trivial
 intro k hk
 have hfl:=zgu (q:=tudP a b) (l:=B) (k:=k)
 refine dr ?_
 refine cP ?_ ?_<;>intro h2
 ·have hk':k < B.length:=by omega
  refine dr ?_
  repeat ((first | refine c0 (jr W0 _ _) rfl ?_ | rw [zL]); first | refine dr ?_ | exact dz)
  intro hg1
  refine dr ?_
  repeat ((first | refine c0 (jr W0 _ _) rfl ?_ | rw [zL]); first | refine dr ?_ | exact dz)
  intro hg1
  refine dr ?_
  have hq:tudP a b B[k]=!(decide ((get a B[k].path).isSome=(get b B[k].path).isSome)&&decide ((get a B[k].path).getD noE=(get b B[k].path).getD noE)):=by
   rw [tudP,Bool.eq_iff_iff]; simp [zl9 (d:=noE)]
  refine cP ?_ ?_<;>intro h3
  ·refine dr ?_
   repeat ((first | refine oB (by simp; omega) ?_ | refine oB (by simp) ?_); first | refine dr ?_ | exact dz)
   have hT:tudP a b B[k]=true:=by rw [hq]; simp [h3]
   refine ⟨k+1,by omega,by omega,?_⟩
   refine dr ?_
   repeat (refine oB (by rw [jK hk' hT]; simp) ?_; first | refine dr ?_ | exact dz)
   trivial
  ·refine dr ?_
   refine cP ?_ ?_<;>intro h4
   ·refine dr ?_
    repeat ((first | refine oB (by simp; omega) ?_ | refine oB (by simp) ?_); first | refine dr ?_ | exact dz)
    have hT:tudP a b B[k]=true:=by rw [hq,← bqEnt,h4]; simp
    refine ⟨k+1,by omega,by omega,?_⟩
    refine dr ?_
    repeat (refine oB (by rw [jK hk' hT]; simp) ?_; first | refine dr ?_ | exact dz)
    trivial
   ·refine dr ?_
    have hT:tudP a b B[k]=false:=by rw [hq,← bqEnt,h4]; simp [h3]
    refine ⟨k+1,by omega,by omega,?_⟩
    refine dr ?_
    repeat (refine oB (by rw [jJ hk' hT]) ?_; first | refine dr ?_ | exact dz)
    trivial
 have hkl:k=B.length:=by omega
 refine dr ?_
 repeat (refine oB (by simp) ?_; first | refine dr ?_ | exact dz)
 rw [turned,hBB,hkl,List.take_length]
 simp [eStrs]

def Yy:XC:=(.s (.r [.ex 1 (.box 0),.m1 2 .n]) (.s (.s (.r [.f1 3 0 1,.l1 4 1 3,.b1 5 .lss 4 (.i 1),.mv 6 5,.gf 7 (.fa 0 1) 6,.gf 8 (.ld false 1 7) 6,.gf 9 (.bin .gtr 8 (.i 5)) 6,.ex 10 (.pick 6 .y 9),.mv 11 10,.gf 12 (.fa 1 1) 11,.gf 13 (.ld false 1 12) 11,.gf 14 (.call 106 [13]) 11,.gf 15 (.un .not 14) 11,.ex 16 (.pick 11 .y 15)]) (.cnd 16 (.s (.r [.m1 2 .n]) .ret) .skip)) (.s (.s (.r [.f1 17 0 1,.l1 18 1 17,.b1 19 .eql 18 (.i 5)]) (.cnd 19 (.s (.r [.f1 20 2 1,.l1 21 1 20,.c1 22 106 [21],.mv 23 22,.gt 24 (.fa 3 1) 23,.gt 25 (.ld false 1 24) 23,.gt 26 (.bin .eql 25 (.s [])) 23,.ex 27 (.pick 23 26 .n),.mv 2 27]) .ret) .skip)) (.s (.r [.f1 28 2 1,.l1 29 1 28,.ex 30 (.bin .eql 29 (.s [])),.mv 31 30,.gt 32 (.fa 3 1) 31,.gt 33 (.ld false 1 32) 31,.gt 34 (.call 177 [33]) 31,.ex 35 (.pick 31 34 .n),.mv 36 35,.gt 37 (.fa 0 1) 36,.gt 38 (.ld false 1 37) 36,.gt 39 (.bin .eql 38 (.i 2)) 36,.gt 40 (.mv 39) 36,.gf 41 (.fa 3 1) 40,.gf 42 (.ld false 1 41) 40,.gf 43 (.bin .eql 42 (.s [])) 40,.gt 44 (.pick 40 .y 43) 36,.ex 45 (.pick 36 44 .n),.mv 2 45]) .ret))))
theorem Yz:compF Tryz.prog [] 165=some (Yy.ac,[(.t 2)],46):=by kernel_rfl
theorem zf8 (W0:World) (op:Op):Fn Tryz.prog W0 165 [eOp op] (.c (CB (opOkB op))) []:=by
 refine fnX (c:=Yy) mixed Yz (by simp) rfl fun hg=>?_
 refine dr ?_
 refine cP ?_ ?_<;>intro h1
 ·refine dr ?_
  exact bF (by simp [opOkB]; omega)
 refine dr ?_
 refine cP ?_ ?_<;>intro h2
 ·refine dr ?_
  exact bF (by simp [opOkB]; omega)
 refine dr ?_
 repeat (refine c0 (jE W0 _) rfl ?_; first | refine dr ?_ | exact dz)
 refine cP ?_ ?_<;>intro h3
 ·refine dr ?_
  exact bF (by simp [opOkB,h3])
 have hk:(decide (1≤op.kind)&&decide (op.kind≤5))=true:=by simp; omega
 refine dr ?_
 refine cP ?_ ?_<;>intro h4
 ·refine dEr ?_
  repeat (refine c0 (jE W0 _) rfl ?_; first | refine dEr ?_ | exact dz)
  have e:opOkB op=(pOk op.dest&&op.data==[]):=by rw [opOkB,hk,h3,if_pos h4]<;>rfl
  rw [e]
  refine cP ?_ ?_<;>intro h5
  ·refine dr ?_
   refine congrArg CB ?_
   rw [Bool.eq_iff_iff]; simp [h5,zV]
  ·refine dr ?_
   exact bF (by simp [h5])
 have e:opOkB op=(op.dest==[]&&(dataOk op.data&&(op.kind==2||op.data==[]))):=by rw [opOkB,hk,h3,if_neg h4]<;>rfl
 rw [e]
 refine dr ?_
 refine cP ?_ ?_<;>intro h5
 ·refine dEr ?_
  repeat (refine c0 (zeO W0 _) rfl ?_; first | refine dEr ?_ | exact dz)
  refine cP ?_ ?_<;>intro h6
  ·refine dr ?_
   refine cP ?_ ?_<;>intro h7
   ·refine dr ?_
    exact bT (by simp [h5,h6,h7])
   ·refine dr ?_
    refine congrArg CB ?_
    rw [Bool.eq_iff_iff]; simp [h5,h6,h7,zV]
  ·refine dr ?_
   exact bF (by simp [h6])
 ·refine dr ?_
  exact bF (by simp [h5])
def zaC:XC:=(.s (.r [.ex 4 (.asn (.k .nil) 1 9)]) (.s (.r [.ex 7 .bsl0,.a1 5 7 1 9]) (.s (.s (.r [.m1 6 (.i 0)]) (.blk 0 (.loop (.s (.s (.r [.mv 8 6,.mv 9 0,.n1 10 9,.b1 11 .lss 8 10]) (.cnd 11 .skip (.exit 0))) (.s (.blk 1 (.s (.r [.mv 14 0,.mv 15 6,.i1 16 3 14 15,.f1 17 0 16,.l1 18 1 17,.c1 19 123 [18],.mv 20 1,.b1 21 .eql 19 20]) (.cnd 21 (.r [.mv 22 5,.mv 23 0,.mv 24 6,.i1 25 3 23 24,.f1 26 0 25,.l1 27 1 26,.c1 28 257 [27],.ex 29 (.bsl 1 9 [28]),.ex 30 (.app false 1 16 9 22 29),.a1 5 30 1 9]) .skip))) (.r [.mv 12 6,.b1 13 .add 12 (.i 1),.mv 6 13])))))) (.s (.r [.mv 31 5,.a1 4 31 1 9]) .ret))))
theorem zaD:compF Tryz.prog [] 237=some (zaC.ac,[(.t 4)],32):=by kernel_rfl
theorem zeR (W0:World) (t:List Ent) (p:Str) (ht:t.length≤1000000):Fn Tryz.prog W0 237 [eEnts t,CS p] (.c (eStrs (kids t p))) []:=by
 refine fnX (c:=zaC) mixed zaD (by simp) rfl fun hg=>?_
 refine dr ?_
 refine lp2 (fun (k:Nat) (out:List Ent)=>[(0,.c (eEnts t)),(1,.c (CS p)),(5,.own 80 out.length),(6,I k)]) (fun _ out=>[(80,.row (out.map fun e=>CS (pName e.path)) 1 9)]) (fun k out=>k≤t.length∧out=(t.take k).filter (fun e=>pUp e.path==p)∧out.length≤k) (fun k _=>t.length - k) 0 [] ⟨by simp,rfl,by simp⟩ ?_ ?_
 ·refine dr ?_
  trivial
 rintro k out ⟨hk,ho,hle⟩
 refine dr ?_
 refine cP ?_ ?_<;>intro h1
 ·have hk':k < t.length:=by omega
  refine dEr ?_
  repeat (refine c0 (jF W0 _) rfl ?_; first | refine dEr ?_ | exact dz)
  refine cP ?_ ?_<;>intro h2
  ·refine dEr ?_
   repeat ((first | refine c0 (zgf W0 _) rfl ?_ | refine oB (by simp; omega) ?_ | refine oB (by simp) ?_); first | refine dEr ?_ | exact dz)
   refine ⟨k+1,out++[t[k]],⟨by omega,by rw [jK hk' (by simp [h2]),ho],by simp; omega⟩,by omega,?_⟩
   refine dr ?_
   repeat (refine oB (by simp<;>rfl) ?_; first | refine dr ?_ | exact dz)
   trivial
  ·refine dr ?_
   refine ⟨k+1,out,⟨by omega,by rw [jJ hk' (by simp [h2]),ho],by omega⟩,by omega,?_⟩
   refine dr ?_
   trivial
 have hkl:k=t.length:=by omega
 rw [hkl,List.take_length] at ho
 refine dr ?_
 repeat (refine oB (by simp) ?_; first | refine dr ?_ | exact dz)
 rw [kids,← ho]; simp [eStrs]
def za0:XC:=(.s (.r [.m1 4 (.i 0)]) (.s (.r [.mv 8 0,.mv 9 1,.c1 10 123 [9],.c1 11 121 [8,10],.mv 7 11,.e1 12 7 0,.e1 13 7 1,.ex 5 (.alloc [sE,(B false),sE]),.s1 3 5 12,.mv 6 13]) (.s (.blk 0 (.s (.r [.mv 15 6,.ex 16 (.un .not 15),.mv 14 16]) (.cnd 14 (.s (.r [.m1 4 (.i 2)]) .ret) (.s (.r [.f1 18 1 5,.l1 19 1 18,.ex 20 (.un .not 19),.mv 17 20]) (.cnd 17 (.s (.r [.m1 4 (.i 3)]) .ret) .skip))))) (.s (.r [.m1 4 (.i 0)]) .ret))))
theorem za1:compF Tryz.prog [] 234=some (za0.ac,[(.t 4)],21):=by kernel_rfl
theorem ze2 (W0:World) (t:List Ent) (p:Str):Fn Tryz.prog W0 234 [eEnts t,CS p] (.c (CI (upC t p))) []:=by
 refine fnX (c:=za0) mixed za1 (by simp) rfl fun hg=>?_
 have hc:=jr W0 t (pUp p)
 cases hx:get t (pUp p) with
 | none =>
  rw [hx] at hc
  refine dEr ?_
  repeat ((first | refine c0 (jF W0 _) rfl ?_ | refine c0 hc rfl ?_); first | refine dEr ?_ | exact dz)
  rw [upC,hx]<;>rfl
 | some e =>
  rw [hx] at hc
  refine dEr ?_
  repeat ((first | refine c0 (jF W0 _) rfl ?_ | refine c0 hc rfl ?_); first | refine dEr ?_ | exact dz)
  refine cP ?_ ?_<;>intro h1
  ·refine dr ?_
   rw [upC,hx]; exact congrArg CI (by simp [h1])
  ·refine dr ?_
   rw [upC,hx]; exact congrArg CI (by simp [h1])
def zaI:XC:=(.s (.r [.m1 4 (.i 0)]) (.s (.r [.mv 8 0,.mv 9 1,.c1 10 234 [8,9],.mv 5 10]) (.s (.r [.mv 12 0,.mv 13 1,.c1 14 121 [12,13],.mv 11 14,.e1 15 11 0,.e1 16 11 1,.ex 6 (.alloc [sE,(B false),sE]),.s1 3 6 15,.mv 7 16]) (.s (.blk 0 (.s (.r [.mv 18 5,.b1 19 .neq 18 (.i 0),.mv 17 19]) (.cnd 17 (.s (.r [.mv 20 5,.mv 4 20]) .ret) (.s (.r [.mv 22 7,.mv 21 22]) (.cnd 21 (.s (.r [.m1 4 (.i 4)]) .ret) (.s (.r [.mv 24 0,.n1 25 24,.b1 26 .geq 25 (.i 16),.mv 23 26]) (.cnd 23 (.s (.r [.m1 4 (.i 8)]) .ret) .skip))))))) (.s (.r [.m1 4 (.i 0)]) .ret)))))
theorem zaJ:compF Tryz.prog [] 199=some (zaI.ac,[(.t 4)],27):=by kernel_rfl
theorem zeU (W0:World) (t:List Ent) (p:Str):Fn Tryz.prog W0 199 [eEnts t,CS p] (.c (CI (newC t p))) []:=by
 refine fnX (c:=zaI) mixed zaJ (by simp) rfl fun hg=>?_
 have hc:=jr W0 t p
 rw [zL] at hc
 refine dEr ?_
 repeat ((first | refine c0 (ze2 W0 _ _) rfl ?_ | refine c0 hc rfl ?_); first | refine dEr ?_ | exact dz)
 refine cP ?_ ?_<;>intro h1
 ·refine dr ?_
  rw [newC,if_pos h1]
 have h1':¬ upC t p≠0:=fun h=>h h1
 refine dr ?_
 refine cP ?_ ?_<;>intro h2
 ·refine dr ?_
  rw [newC,if_neg h1',if_pos h2]<;>rfl
 have h2':¬ (get t p).isSome=true:=by simp [h2]
 refine dr ?_
 refine cP ?_ ?_<;>intro h3
 ·refine dr ?_
  rw [newC,if_neg h1',if_neg h2',if_pos (by omega)]<;>rfl
 ·refine dr ?_
  rw [newC,if_neg h1',if_neg h2',if_neg (by omega)]<;>rfl
def zaR:XC:=(.s (.r [.m1 4 (.i 0)]) (.s (.r [.mv 8 0,.mv 9 1,.c1 10 199 [8,9],.mv 5 10]) (.s (.r [.mv 12 0,.mv 13 1,.c1 14 121 [12,13],.mv 11 14,.e1 15 11 0,.e1 16 11 1,.ex 6 (.alloc [sE,(B false),sE]),.s1 3 6 15,.mv 7 16]) (.s (.s (.r [.mv 17 5,.b1 18 .eql 17 (.i 4),.mv 19 18,.gt 20 (.fa 1 6) 19,.gt 21 (.ld false 1 20) 19,.ex 22 (.pick 19 21 .n)]) (.cnd 22 (.s (.r [.m1 4 (.i 5)]) .ret) .skip)) (.s (.s (.r [.mv 23 5,.b1 24 .eql 23 (.i 4)]) (.cnd 24 (.s (.r [.m1 4 (.i 0)]) .ret) .skip)) (.s (.r [.mv 25 5,.mv 4 25]) .ret))))))
theorem zaS:compF Tryz.prog [] 200=some (zaR.ac,[(.t 4)],26):=by kernel_rfl
theorem zeY (W0:World) (t:List Ent) (p:Str):Fn Tryz.prog W0 200 [eEnts t,CS p] (.c (CI (putC t p))) []:=by
 refine fnX (c:=zaR) mixed zaS (by simp) rfl fun hg=>?_
 have hc:=jr W0 t p
 rw [zL] at hc
 refine dEr ?_
 repeat ((first | refine c0 (zeU W0 _ _) rfl ?_ | refine c0 hc rfl ?_); first | refine dEr ?_ | exact dz)
 refine cP ?_ ?_<;>intro h1
 ·refine dr ?_
  refine cP ?_ ?_<;>intro h2
  ·refine dr ?_
   rw [putC,if_pos h1,if_pos h2]<;>rfl
  ·refine dr ?_
   refine cP ?_ ?_<;>intro h3
   ·refine dr ?_
    rw [putC,if_pos h1,if_neg (by simp [h2])]<;>rfl
   ·exact absurd h1 h3
 ·refine dr ?_
  refine cP ?_ ?_<;>intro h3
  ·exact absurd h3 h1
  ·refine dr ?_
   rw [putC,if_neg h1]
def zaL:XC:=(.s (.r [.ex 3 (.box 1),.m1 4 (.i 0)]) (.s (.r [.mv 8 0,.f1 9 1 3,.l1 10 1 9,.c1 11 121 [8,10],.mv 7 11,.e1 12 7 0,.e1 13 7 1,.ex 5 (.alloc [sE,(B false),sE]),.s1 3 5 12,.mv 6 13]) (.s (.blk 0 (.s (.r [.mv 15 6,.ex 16 (.un .not 15),.mv 14 16]) (.cnd 14 (.s (.r [.m1 4 (.i 2)]) .ret) (.s (.r [.f1 18 0 3,.l1 19 1 18,.b1 20 .eql 19 (.i 3),.mv 21 20,.gt 22 (.fa 1 5) 21,.gt 23 (.ld false 1 22) 21,.ex 24 (.pick 21 23 .n),.mv 17 24]) (.cnd 17 (.s (.r [.m1 4 (.i 5)]) .ret) (.s (.r [.f1 26 0 3,.l1 27 1 26,.b1 28 .eql 27 (.i 4),.mv 29 28,.gt 30 (.fa 1 5) 29,.gt 31 (.ld false 1 30) 29,.gt 32 (.un .not 31) 29,.ex 33 (.pick 29 32 .n),.mv 25 33]) (.cnd 25 (.s (.r [.m1 4 (.i 3)]) .ret) (.s (.r [.mv 35 0,.f1 36 1 3,.l1 37 1 36,.c1 38 237 [35,37],.n1 39 38,.b1 40 .gtr 39 (.i 0),.mv 34 40]) (.cnd 34 (.s (.r [.m1 4 (.i 6)]) .ret) .skip))))))))) (.s (.r [.m1 4 (.i 0)]) .ret))))
theorem zaM:compF Tryz.prog [] 202=some (zaL.ac,[(.t 4)],41):=by kernel_rfl
theorem zeW (W0:World) (t:List Ent) (op:Op) (ht:t.length≤1000000):Fn Tryz.prog W0 202 [eEnts t,eOp op] (.c (CI (offC t op))) []:=by
 refine fnX (c:=zaL) mixed zaM (by simp) rfl fun hg=>?_
 have hc:=jr W0 t op.path
 cases hx:get t op.path with
 | none =>
  rw [hx] at hc
  refine dEr ?_
  repeat (refine c0 hc rfl ?_; first | refine dEr ?_ | exact dz)
  rw [offC,hx]<;>rfl
 | some e =>
  rw [hx] at hc
  have e0:offC t op=if op.kind=3∧e.dir=true then 5 else if op.kind=4∧e.dir=false then 3 else if 0 < (kids t op.path).length then 6 else 0:=by rw [offC,hx]
  rw [e0]
  have rest:∀ {A:Prop},A→A:=fun a=>a
  refine dEr ?_
  repeat (refine c0 hc rfl ?_; first | refine dEr ?_ | exact dz)
  refine cP ?_ ?_<;>intro h1
  ·refine dr ?_
   refine cP ?_ ?_<;>intro h2
   ·refine dr ?_
    rw [if_pos ⟨h1,h2⟩]<;>rfl
   ·have n1:¬ (op.kind=3∧e.dir=true):=by simp [h2]
    have n2:¬ (op.kind=4∧e.dir=false):=by omega
    rw [if_neg n1,if_neg n2]
    refine dr ?_
    refine cP ?_ ?_<;>intro h3
    ·omega
    ·refine dEr ?_
     repeat (refine c0 (zeR W0 _ _ ht) rfl ?_; first | refine dEr ?_ | exact dz)
     refine cP ?_ ?_<;>intro h4
     ·refine dr ?_
      rw [if_pos (by omega)]<;>rfl
     ·refine dr ?_
      rw [if_neg (by omega)]<;>rfl
  ·have n1:¬ (op.kind=3∧e.dir=true):=fun h=>h1 h.1
   rw [if_neg n1]
   refine dr ?_
   refine cP ?_ ?_<;>intro h3
   ·refine dr ?_
    refine cP ?_ ?_<;>intro h2
    ·refine dr ?_
     rw [if_pos ⟨h3,by simpa using h2⟩]<;>rfl
    ·rw [if_neg (fun h=>by rw [h.2] at h2; simp at h2)]
     refine dEr ?_
     repeat (refine c0 (zeR W0 _ _ ht) rfl ?_; first | refine dEr ?_ | exact dz)
     refine cP ?_ ?_<;>intro h4
     ·refine dr ?_
      rw [if_pos (by omega)]<;>rfl
     ·refine dr ?_
      rw [if_neg (by omega)]<;>rfl
   ·rw [if_neg (fun h=>h3 h.1)]
    refine dEr ?_
    repeat (refine c0 (zeR W0 _ _ ht) rfl ?_; first | refine dEr ?_ | exact dz)
    refine cP ?_ ?_<;>intro h4
    ·refine dr ?_
     rw [if_pos (by omega)]<;>rfl
    ·refine dr ?_
     rw [if_neg (by omega)]<;>rfl
def zaF:XC:=(.s (.r [.ex 3 (.box 1),.m1 4 (.i 0)]) (.s (.r [.mv 14 0,.f1 15 1 3,.l1 16 1 15,.c1 17 121 [14,16],.mv 13 17,.e1 18 13 0,.e1 19 13 1,.ex 5 (.alloc [sE,(B false),sE]),.s1 3 5 18,.mv 6 19]) (.s (.r [.mv 20 0,.f1 21 2 3,.l1 22 1 21,.c1 23 234 [20,22],.mv 7 23]) (.s (.r [.mv 25 0,.f1 26 2 3,.l1 27 1 26,.c1 28 121 [25,27],.mv 24 28,.e1 29 24 0,.e1 30 24 1,.ex 8 (.alloc [sE,(B false),sE]),.s1 3 8 29,.mv 9 30]) (.s (.blk 0 (.s (.r [.mv 32 6,.ex 33 (.un .not 32),.mv 31 33]) (.cnd 31 (.s (.r [.m1 4 (.i 2)]) .ret) (.s (.r [.mv 35 7,.b1 36 .neq 35 (.i 0),.mv 34 36]) (.cnd 34 (.s (.r [.mv 37 7,.mv 4 37]) .ret) (.s (.r [.mv 39 9,.mv 38 39]) (.cnd 38 (.s (.r [.m1 4 (.i 4)]) .ret) (.s (.r [.f1 41 2 3,.l1 42 1 41,.f1 43 1 3,.l1 44 1 43,.c1 45 235 [42,44],.mv 40 45]) (.cnd 40 (.s (.r [.m1 4 (.i 7)]) .ret) .skip))))))))) (.s (.s (.r [.m1 10 (.i 0)]) (.blk 1 (.loop (.s (.s (.r [.mv 46 10,.mv 47 0,.n1 48 47,.b1 49 .lss 46 48]) (.cnd 49 .skip (.exit 1))) (.s (.blk 2 (.s (.d [.mv 53 0,.mv 54 10,.i1 55 3 53 54,.f1 56 0 55,.l1 57 1 56,.f1 58 1 3,.l1 59 1 58,.f1 60 2 3,.l1 61 1 60,.c1 62 236 [57,59,61],.mv 52 62,.e1 63 52 0,.e1 64 52 1,.mv 11 63,.mv 12 64]) (.s (.r [.mv 65 12,.ex 66 (.un .not 65)]) (.cnd 66 (.s (.r [.m1 4 (.i 8)]) .ret) .skip)))) (.r [.mv 50 10,.b1 51 .add 50 (.i 1),.mv 10 51])))))) (.s (.r [.m1 4 (.i 0)]) .ret)))))))
theorem zaG:compF Tryz.prog [] 201=some (zaF.ac,[(.t 4)],67):=by kernel_rfl
theorem zeT (W0:World) (t:List Ent) (op:Op) (ht:t.length≤1000000):Fn Tryz.prog W0 201 [eEnts t,eOp op] (.c (CI (movC t op))) []:=by
 refine fnX (c:=zaF) mixed zaG (by simp) rfl fun hg=>?_
 have hc:=jr W0 t op.path
 rw [zL] at hc
 have hc2:=jr W0 t op.dest
 rw [zL] at hc2
 refine dEr ?_
 repeat ((first | refine c0 hc rfl ?_ | refine c0 hc2 rfl ?_ | refine c0 (ze2 W0 _ _) rfl ?_); first | refine dEr ?_ | exact dz)
 refine cP ?_ ?_<;>intro h1
 rotate_left
 ·have h1':(get t op.path).isSome=true:=by simpa using h1
  refine dr ?_
  refine cP ?_ ?_<;>intro h2
  ·refine dr ?_
   rw [movC,if_neg (by simp [h1']),if_pos h2]
  have h2':¬ upC t op.dest≠0:=fun h=>h h2
  refine dr ?_
  refine cP ?_ ?_<;>intro h3
  ·refine dr ?_
   rw [movC,if_neg (by simp [h1']),if_neg h2',if_pos h3]<;>rfl
  refine dEr ?_
  repeat (refine c0 (zeM W0 _ _) rfl ?_; first | refine dEr ?_ | exact dz)
  refine cP ?_ ?_<;>intro h4
  ·refine dr ?_
   rw [movC,if_neg (by simp [h1']),if_neg h2',if_neg (by simp [h3]),if_pos h4]<;>rfl
  have e:movC t op=if t.all (fun e=>(pMove e.path op.path op.dest).isSome)=true then 0 else 8:=by rw [movC,if_neg (by simp [h1']),if_neg h2',if_neg (by simp [h3]),if_neg (by simp [h4])]
  rw [e]
  refine dr ?_
  refine lp (σ:=Nat) (fun k=>[(0,.c (eEnts t)),(3,.ptr 48 0),(10,I k)]) (fun _=>[(48,.box [.c (CI op.kind),.c (CS op.path),.c (CS op.dest),.c (CS op.data)])]) (fun k=>k≤t.length∧(t.take k).all (fun e=>(pMove e.path op.path op.dest).isSome)=true) (fun k=>t.length - k) 0 ⟨by simp,by simp⟩ ?_ ?_
  ·refine dr ?_
   trivial
  rintro k ⟨hk,ha⟩
  refine dr ?_
  refine cP ?_ ?_<;>intro h5
  ·have hk':k < t.length:=by omega
   have hp:=zge W0 t[k].path op.path op.dest
   rw [zdB] at hp
   refine dEr ?_
   repeat (refine c0 hp rfl ?_; first | refine dEr ?_ | exact dz)
   refine cP ?_ ?_<;>intro h6
   ·refine dr ?_
    rw [if_neg (by rw [zh hk' (by simpa using h6)]; simp)]<;>rfl
   ·refine dr ?_
    refine ⟨k+1,⟨by omega,y3 hk' ha (by simpa using h6)⟩,by omega,?_⟩
    refine dr ?_
    trivial
  ·have hkl:k=t.length:=by omega
   rw [hkl,List.take_length] at ha
   refine dr ?_
   rw [if_pos ha]<;>rfl
 ·refine dr ?_
  rw [movC,if_pos (by simpa using h1)]<;>rfl
def zaq:XC:=(.s (.r [.ex 3 (.box 1),.m1 4 (.i 0)]) (.s (.s (.r [.f1 5 0 3,.l1 6 1 5]) (.blk 0 (.s (.r [.b1 8 .eql 6 (.i 1),.mv 7 8]) (.cnd 7 (.s (.r [.mv 9 0,.f1 10 1 3,.l1 11 1 10,.c1 12 199 [9,11],.mv 4 12]) .ret) (.s (.r [.b1 14 .eql 6 (.i 2),.mv 13 14]) (.cnd 13 (.s (.r [.mv 15 0,.f1 16 1 3,.l1 17 1 16,.c1 18 200 [15,17],.mv 4 18]) .ret) (.s (.r [.b1 20 .eql 6 (.i 5),.mv 19 20]) (.cnd 19 (.s (.r [.mv 21 0,.l2 22 4 3,.c1 23 201 [21,22],.mv 4 23]) .ret) .skip)))))))) (.s (.r [.mv 24 0,.l2 25 4 3,.c1 26 202 [24,25],.mv 4 26]) .ret)))
theorem zar:compF Tryz.prog [] 166=some (zaq.ac,[(.t 4)],27):=by kernel_rfl
theorem zeN (W0:World) (t:List Ent) (op:Op) (ht:t.length≤1000000):Fn Tryz.prog W0 166 [eEnts t,eOp op] (.c (CI (codeT t op))) []:=by
 refine fnX (c:=zaq) mixed zar (by simp) rfl fun hg=>?_
 refine dr ?_
 refine cP ?_ ?_<;>intro h1
 ·refine dEr ?_
  repeat (refine c0 (zeU W0 _ _) rfl ?_; first | refine dEr ?_ | exact dz)
  rw [codeT,if_pos h1]
 refine dr ?_
 refine cP ?_ ?_<;>intro h2
 ·refine dEr ?_
  repeat (refine c0 (zeY W0 _ _) rfl ?_; first | refine dEr ?_ | exact dz)
  rw [codeT,if_neg h1,if_pos h2]
 refine dr ?_
 refine cP ?_ ?_<;>intro h3
 ·refine dEr ?_
  repeat (refine c0 (zeT W0 _ op ht) rfl ?_; first | refine dEr ?_ | exact dz)
  rw [codeT,if_neg h1,if_neg h2,if_pos h3]
 refine dEr ?_
 repeat (refine c0 (zeW W0 _ op ht) rfl ?_; first | refine dEr ?_ | exact dz)
 rw [codeT,if_neg h1,if_neg h2,if_neg h3]

def zaK:XC:=(.s (.r [.ex 4 (.asn (.k .nil) 3 39)]) (.s (.r [.ex 7 .bsl0,.a1 5 7 3 39]) (.s (.s (.r [.m1 6 (.i 0)]) (.blk 0 (.loop (.s (.s (.r [.mv 8 6,.mv 9 0,.n1 10 9,.b1 11 .lss 8 10]) (.cnd 11 .skip (.exit 0))) (.s (.blk 1 (.s (.r [.mv 14 0,.mv 15 6,.i1 16 3 14 15,.f1 17 0 16,.l1 18 1 17,.mv 19 1,.b1 20 .neq 18 19]) (.cnd 20 (.r [.mv 21 5,.mv 22 0,.mv 23 6,.i1 24 3 22 23,.l2 25 3 24,.ex 26 (.bsl 3 39 [25]),.ex 27 (.app false 3 40 39 21 26),.a1 5 27 3 39]) .skip))) (.r [.mv 12 6,.b1 13 .add 12 (.i 1),.mv 6 13])))))) (.s (.r [.mv 28 5,.a1 4 28 3 39]) .ret))))
theorem zaN:compF Tryz.prog [] 204=some (zaK.ac,[(.t 4)],29):=by kernel_rfl
theorem zeV (W0:World) (t:List Ent) (p:Str) (ht:t.length≤1000000):Fn Tryz.prog W0 204 [eEnts t,CS p] (.c (eEnts (offT t p))) []:=by
 refine fnX (c:=zaK) mixed zaN (by simp) rfl fun hg=>?_
 refine dr ?_
 refine lp2 (fun (k:Nat) (out:List Ent)=>[(0,.c (eEnts t)),(1,.c (CS p)),(5,.own 80 out.length),(6,I k)]) (fun _ out=>[(80,.row (out.map eEnt) 3 39)]) (fun k out=>k≤t.length∧out=(t.take k).filter (fun e=>e.path != p)∧out.length≤k) (fun k _=>t.length - k) 0 [] ⟨by simp,rfl,by simp⟩ ?_ ?_
 ·refine dr ?_
  trivial
 rintro k out ⟨hk,ho,hle⟩
 refine dr ?_
 refine cP ?_ ?_<;>intro h1
 ·have hk':k < t.length:=by omega
  refine dr ?_
  refine cP ?_ ?_<;>intro h2
  ·refine dr ?_
   repeat ((first | refine oB (by simp; omega) ?_ | refine oB (by simp) ?_); first | refine dr ?_ | exact dz)
   refine ⟨k+1,out++[t[k]],⟨by omega,by rw [jK hk' (by simp [h2]),ho],by simp; omega⟩,by omega,?_⟩
   refine dr ?_
   repeat (refine oB (by simp<;>rfl) ?_; first | refine dr ?_ | exact dz)
   trivial
  ·refine dr ?_
   refine ⟨k+1,out,⟨by omega,by rw [jJ hk' (by simp [h2]),ho],by omega⟩,by omega,?_⟩
   refine dr ?_
   trivial
 have hkl:k=t.length:=by omega
 rw [hkl,List.take_length] at ho
 refine dr ?_
 repeat (refine oB (by simp) ?_; first | refine dr ?_ | exact dz)
 rw [offT,← ho]<;>rfl
def zaE:XC:=(.s (.r [.ex 6 (.asn (.k .nil) 3 39)]) (.s (.r [.ex 10 .bsl0,.a1 7 10 3 39]) (.s (.s (.r [.m1 8 (.i 0)]) (.blk 0 (.loop (.s (.s (.r [.mv 11 8,.mv 12 0,.n1 13 12,.b1 14 .lss 11 13]) (.cnd 14 .skip (.exit 0))) (.s (.blk 1 (.s (.r [.mv 17 0,.mv 18 8,.i1 19 3 17 18,.l2 20 3 19,.ex 9 (.alloc [sE,(B false),sE]),.s1 3 9 20]) (.s (.r [.f1 22 0 9,.l1 23 1 22,.mv 24 1,.mv 25 2,.c1 26 236 [23,24,25],.mv 21 26,.e1 27 21 0,.e1 28 21 1,.f1 29 0 9,.s1 1 29 27]) (.r [.mv 30 7,.l2 31 3 9,.c1 32 178 [30,31],.a1 7 32 3 39])))) (.r [.mv 15 8,.b1 16 .add 15 (.i 1),.mv 8 16])))))) (.s (.r [.mv 33 7,.a1 6 33 3 39]) .ret))))
theorem zaH:compF Tryz.prog [] 203=some (zaE.ac,[(.t 6)],34):=by kernel_rfl
theorem zeS (W0:World) (t:List Ent) (f to:Str) (ht:t.length≤1000000):Fn Tryz.prog W0 203 [eEnts t,CS f,CS to] (.c (eEnts (movT t f to))) []:=by
 refine fnX (c:=zaE) mixed zaH (by simp) rfl fun hg=>?_
 refine dr ?_
 refine lz2 112 (fun (k:Nat) (out:List Ent)=>[(0,.c (eEnts t)),(1,.c (CS f)),(2,.c (CS to)),(7,.c (eEnts out)),(8,I k)]) (fun _ _=>[]) (fun k out=>k≤t.length∧out=(t.take k).foldl (fun out e=>put out (movE f to e)) []∧out.length≤k) (fun k _=>t.length - k) 0 [] ⟨by simp,rfl,by simp⟩ ?_ ?_
 ·refine dr ?_
  trivial
 rintro k out ⟨hk,ho,hle⟩
 refine dr ?_
 refine cP ?_ ?_<;>intro h1
 ·have hk':k < t.length:=by omega
  have hn:(t.take (k+1)).foldl (fun out e=>put out (movE f to e)) []=put out (movE f to t[k]):=by rw [jX hk',← ho]
  have hpl:(put out (movE f to t[k])).length≤out.length+1:=yy
  have hp:=zge W0 t[k].path f to
  rw [zdB] at hp
  refine dEr ?_
  repeat ((first | refine c0 hp rfl ?_ | refine c0 (js W0 _ (movE f to t[k]) (by omega)) rfl ?_); first | refine dEr ?_ | exact dz)
  refine ⟨k+1,_,⟨by omega,hn.symm,by omega⟩,by omega,?_⟩
  refine dr ?_
  trivial
 have hkl:k=t.length:=by omega
 rw [hkl,List.take_length] at ho
 refine dr ?_
 rw [movT,← ho]
def zaw:XC:=(.s (.r [.ex 3 (.box 1),.ex 4 (.asn (.k .nil) 3 39)]) (.s (.s (.r [.f1 5 0 3,.l1 6 1 5]) (.blk 0 (.s (.r [.b1 8 .eql 6 (.i 1),.mv 7 8]) (.cnd 7 (.s (.r [.mv 9 0,.f1 10 1 3,.l1 11 1 10,.ex 12 (.build [sE,(B false),sE] [(0,(1,11)),(1,(1,.y))]),.c1 13 178 [9,12],.a1 4 13 3 39]) .ret) (.s (.r [.b1 15 .eql 6 (.i 2),.mv 14 15]) (.cnd 14 (.s (.r [.mv 16 0,.f1 17 1 3,.l1 18 1 17,.f1 19 3 3,.l1 20 1 19,.ex 21 (.build [sE,(B false),sE] [(0,(1,18)),(2,(1,20))]),.c1 22 178 [16,21],.a1 4 22 3 39]) .ret) (.s (.r [.b1 24 .eql 6 (.i 5),.mv 23 24]) (.cnd 23 (.s (.r [.mv 25 0,.f1 26 1 3,.l1 27 1 26,.f1 28 2 3,.l1 29 1 28,.c1 30 203 [25,27,29],.a1 4 30 3 39]) .ret) .skip)))))))) (.s (.r [.mv 31 0,.f1 32 1 3,.l1 33 1 32,.c1 34 204 [31,33],.a1 4 34 3 39]) .ret)))
theorem zax:compF Tryz.prog [] 167=some (zaw.ac,[(.t 4)],35):=by kernel_rfl
theorem zeP (W0:World) (t:List Ent) (op:Op) (ht:t.length≤100000):Fn Tryz.prog W0 167 [eEnts t,eOp op] (.c (eEnts (doT t op))) []:=by
 refine fnX (c:=zaw) mixed zax (by simp) rfl fun hg=>?_
 refine dr ?_
 refine cP ?_ ?_<;>intro h1
 ·refine dEr ?_
  repeat (refine c0 (js W0 _ ⟨op.path,true,[]⟩ (by omega)) rfl ?_; first | refine dEr ?_ | exact dz)
  rw [doT,if_pos h1]
 refine dr ?_
 refine cP ?_ ?_<;>intro h2
 ·refine dEr ?_
  repeat (refine c0 (js W0 _ ⟨op.path,false,op.data⟩ (by omega)) rfl ?_; first | refine dEr ?_ | exact dz)
  rw [doT,if_neg h1,if_pos h2]
 refine dr ?_
 refine cP ?_ ?_<;>intro h3
 ·refine dEr ?_
  repeat (refine c0 (zeS W0 _ _ _ (by omega)) rfl ?_; first | refine dEr ?_ | exact dz)
  rw [doT,if_neg h1,if_neg h2,if_pos h3]
 refine dEr ?_
 repeat (refine c0 (zeV W0 _ _ (by omega)) rfl ?_; first | refine dEr ?_ | exact dz)
 rw [doT,if_neg h1,if_neg h2,if_neg h3]
def YU:XC:=(.s (.r [.ex 3 (.box 1),.ex 4 (.asn (.k .nil) 3 39),.m1 5 (.i 0)]) (.s (.s (.r [.mv 7 0,.c1 8 119 [7],.ex 9 (.un .not 8)]) (.cnd 9 (.s (.r [.ex 10 .bsl0,.a1 4 10 3 39,.m1 5 (.i 1)]) .ret) .skip)) (.s (.s (.r [.l2 11 4 3,.c1 12 165 [11],.ex 13 (.un .not 12)]) (.cnd 13 (.s (.r [.ex 14 .bsl0,.mv 15 0,.ex 16 (.app true 3 40 39 14 15),.a1 4 16 3 39,.m1 5 (.i 1)]) .ret) .skip)) (.s (.r [.mv 17 0,.l2 18 4 3,.c1 19 166 [17,18],.mv 6 19]) (.s (.s (.r [.mv 20 6,.b1 21 .neq 20 (.i 0)]) (.cnd 21 (.s (.r [.ex 22 .bsl0,.mv 23 0,.ex 24 (.app true 3 40 39 22 23),.mv 25 6,.a1 4 24 3 39,.mv 5 25]) .ret) .skip)) (.s (.r [.mv 26 0,.l2 27 4 3,.c1 28 167 [26,27],.mv 29 6,.a1 4 28 3 39,.mv 5 29]) .ret))))))
theorem YV:compF Tryz.prog [] 107=some (YU.ac,[(.t 4),(.t 5)],30):=by kernel_rfl
theorem jG (W0:World) (t:List Ent) (op:Op):Fn Tryz.prog W0 107 [eEnts t,eOp op] (.c (eTD (treeDo t op))) []:=by
 refine fnX (c:=YU) mixed YV (by simp) rfl fun hg=>?_
 refine dEr ?_
 repeat (refine c0 (zgg W0 _) rfl ?_; first | refine dEr ?_ | exact dz)
 refine cP ?_ ?_<;>intro h1
 ·refine dr ?_
  repeat (refine oB (by simp) ?_; first | refine dr ?_ | exact dz)
  rw [treeDo,if_neg (by simp [h1])]<;>rfl
 have hl:=(yY h1).1
 rw [treeDo,if_pos h1]
 refine dEr ?_
 repeat (refine c0 (zf8 W0 op) rfl ?_; first | refine dEr ?_ | exact dz)
 refine cP ?_ ?_<;>intro h2
 ·refine dr ?_
  repeat ((first | refine oB (by simp; omega) ?_ | refine oB (by simp) ?_); first | refine dr ?_ | exact dz)
  rw [if_neg (by simp [h2])]<;>rfl
 rw [if_pos h2]
 refine dEr ?_
 repeat (refine c0 (zeN W0 t op (by omega)) rfl ?_; first | refine dEr ?_ | exact dz)
 refine cP ?_ ?_<;>intro h3
 ·refine dr ?_
  repeat ((first | refine oB (by simp; omega) ?_ | refine oB (by simp) ?_); first | refine dr ?_ | exact dz)
  rw [if_neg h3]<;>rfl
 ·refine dEr ?_
  repeat (refine c0 (zeP W0 t op (by omega)) rfl ?_; first | refine dEr ?_ | exact dz)
  rw [if_pos h3,h3]<;>rfl

def za8:XC:=(.s (.r [.m1 4 (.i 0)]) (.s (.s (.r [.m1 5 (.i 0)]) (.blk 0 (.loop (.s (.s (.r [.mv 6 5,.mv 7 0,.n1 8 7,.b1 9 .lss 6 8]) (.cnd 9 .skip (.exit 0))) (.s (.blk 1 (.s (.r [.mv 12 0,.mv 13 5,.i1 14 3 12 13,.f1 15 0 14,.l1 16 1 15,.mv 17 1,.b1 18 .eql 16 17]) (.cnd 18 (.s (.r [.mv 19 5,.mv 4 19]) .ret) .skip))) (.r [.mv 10 5,.b1 11 .add 10 (.i 1),.mv 5 11])))))) (.s (.r [.ex 4 (.mv (.k (.c (.sc (.int .i64 (.negSucc 0))))))]) .ret)))
theorem za9:compF Tryz.prog [] 214=some (za8.ac,[(.t 4)],20):=by kernel_rfl
theorem ze5 (W0:World) (t:List Mark) (p:Str):Fn Tryz.prog W0 214 [eMarks t,CS p] (.c (CI (midx t p))) []:=by
 refine fnX (c:=za8) mixed za9 (by simp) rfl fun hg=>?_
 have g1:=goodRow (hg _ (by simp:eMarks t∈_))
 refine dr ?_
 refine lp (σ:=Nat) (fun k=>[(0,.c (eMarks t)),(1,.c (CS p)),(5,I k)]) (fun _=>[]) (fun k=>k≤t.length∧∀ i (h':i < t.length),i < k→t[i].path≠p) (fun k=>t.length - k) 0 ⟨by simp,by simp⟩ ?_ ?_
 ·refine dr ?_
  trivial
 rintro k ⟨hk,ha⟩
 refine dr ?_
 refine cP ?_ ?_<;>intro h1
 ·refine dr ?_
  refine cP ?_ ?_<;>intro h2
  ·refine dr ?_
   rw [zjD (by omega) h2 ha]
  ·refine dr ?_
   refine ⟨k+1,⟨by omega,fun i h' hi=>?_⟩,by omega,?_⟩
   ·by_cases e:i=k
    ·subst e; exact h2
    ·exact ha i h' (by omega)
   ·refine dr ?_
    trivial
 ·refine dr ?_
  rw [zjE fun i h'=>ha i h' (by omega)]; rfl
def zbg:XC:=(.s (.r [.m1 4 (.i 0)]) (.s (.r [.mv 6 0,.mv 7 1,.c1 8 214 [6,7],.mv 5 8]) (.s (.s (.r [.mv 9 5,.b1 10 .lss 9 (.i 0)]) (.cnd 10 (.s (.r [.m1 4 (.i 0)]) .ret) .skip)) (.s (.r [.mv 11 0,.mv 12 5,.i1 13 3 11 12,.f1 14 1 13,.l1 15 1 14,.mv 4 15]) .ret))))
theorem zbh:compF Tryz.prog [] 181=some (zbg.ac,[(.t 4)],16):=by kernel_rfl
theorem ze9 (W0:World) (t:List Mark) (p:Str):Fn Tryz.prog W0 181 [eMarks t,CS p] (.c (CI (kind t p))) []:=by
 refine fnX (c:=zbg) mixed zbh (by simp) rfl fun hg=>?_
 refine dr ?_
 repeat (refine c0 (ze5 W0 t p) rfl ?_; first | refine dr ?_ | exact dz)
 intro hg1
 rcases zjC t p with ⟨e1,e2,_⟩ | ⟨j,hj,e1,e2,_⟩
 ·rw [kind,e1,e2]
  refine dr ?_
  refine cP ?_ ?_<;>intro h2
  ·exact dz
  ·omega
 ·rw [kind,e1,e2]
  refine dr ?_
  refine cP ?_ ?_<;>intro h2
  ·omega
  ·exact dz
def za2:XC:=(.s (.r [.m1 4 .n]) (.s (.s (.r [.m1 5 (.i 0)]) (.blk 0 (.loop (.s (.s (.r [.mv 6 5,.mv 7 0,.n1 8 7,.b1 9 .lss 6 8]) (.cnd 9 .skip (.exit 0))) (.s (.blk 1 (.s (.r [.mv 12 0,.mv 13 5,.i1 14 3 12 13,.f1 15 1 14,.l1 16 1 15,.b1 17 .eql 16 (.i 4),.mv 18 17,.gt 19 (.mv 1) 18,.gt 20 (.mv 0) 18,.gt 21 (.mv 5) 18,.gt 22 (.ia 3 20 21) 18,.gt 23 (.fa 0 22) 18,.gt 24 (.ld false 1 23) 18,.gt 25 (.call 235 [19,24]) 18,.ex 26 (.pick 18 25 .n)]) (.cnd 26 (.s (.r [.m1 4 .y]) .ret) .skip))) (.r [.mv 10 5,.b1 11 .add 10 (.i 1),.mv 5 11])))))) (.s (.r [.m1 4 .n]) .ret)))
theorem za3:compF Tryz.prog [] 206=some (za2.ac,[(.t 4)],27):=by kernel_rfl
theorem jt (W0:World) (t:List Mark) (p:Str):Fn Tryz.prog W0 206 [eMarks t,CS p] (.c (CB (bare t p))) []:=by
 refine fnX (c:=za2) mixed za3 (by simp) rfl fun hg=>?_
 have g1:=goodRow (hg _ (by simp:eMarks t∈_))
 refine dr ?_
 refine lp (σ:=Nat) (fun k=>[(0,.c (eMarks t)),(1,.c (CS p)),(5,I k)]) (fun _=>[]) (fun k=>k≤t.length∧bare (t.take k) p=false) (fun k=>t.length - k) 0 ⟨by simp,by simp [bare]⟩ ?_ ?_
 ·refine dr ?_
  trivial
 rintro k ⟨hk,ha⟩
 refine dr ?_
 refine cP ?_ ?_<;>intro h1
 ·have hk':k < t.length:=by omega
  have no:(t[k].kind==4&&und p t[k].path)=false→bare (t.take (k+1)) p=false:=fun h=>by
   rw [bare] at ha ⊢
   rw [List.take_succ_eq_append_getElem hk',List.any_append,ha]; simpa using h
  have yes:(t[k].kind==4&&und p t[k].path)=true→CB true=CB (bare t p):=fun h=>bT (by
   rw [bare,List.any_eq_true]; exact ⟨t[k],List.getElem_mem hk',h⟩)
  refine dr ?_
  refine cP ?_ ?_<;>intro h2
  ·refine dEr ?_
   repeat (refine c0 (zeM W0 _ _) rfl ?_; first | refine dEr ?_ | exact dz)
   refine cP ?_ ?_<;>intro h3
   ·refine dr ?_
    exact yes (by simp [h2,h3])
   ·refine dr ?_
    refine ⟨k+1,⟨by omega,no (by simp [h3])⟩,by omega,?_⟩
    refine dr ?_
    trivial
  ·refine dr ?_
   refine ⟨k+1,⟨by omega,no (by simp [h2])⟩,by omega,?_⟩
   refine dr ?_
   trivial
 ·refine dr ?_
  have:k=t.length:=by omega
  subst this
  rw [List.take_length] at ha
  rw [ha]
def zbc:XC:=(.s (.r [.m1 4 .n]) (.s (.r [.mv 7 1,.c1 8 123 [7],.mv 5 8]) (.s (.r [.mv 9 0,.mv 10 5,.c1 11 181 [9,10],.mv 6 11]) (.s (.r [.mv 12 5,.ex 13 (.bin .eql 12 (.s [47])),.mv 14 13,.gf 15 (.mv 6) 14,.gf 16 (.bin .eql 15 (.i 2)) 14,.ex 17 (.pick 14 .y 16),.mv 18 17,.gf 19 (.mv 6) 18,.gf 20 (.bin .eql 19 (.i 4)) 18,.ex 21 (.pick 18 .y 20),.mv 4 21]) .ret))))
theorem zbd:compF Tryz.prog [] 205=some (zbc.ac,[(.t 4)],22):=by kernel_rfl
theorem ze7 (W0:World) (t:List Mark) (p:Str):Fn Tryz.prog W0 205 [eMarks t,CS p] (.c (CB (inD t p))) []:=by
 refine fnX (c:=zbc) mixed zbd (by simp) rfl fun hg=>?_
 refine dr ?_
 repeat (refine c0 (jF W0 _) rfl ?_; first | refine dr ?_ | exact dz)
 intro hg1
 refine dr ?_
 repeat (refine c0 (ze9 W0 _ _) rfl ?_; first | refine dr ?_ | exact dz)
 intro hg1
 refine dr ?_
 refine cP ?_ ?_<;>intro h1
 ·refine dr ?_
  exact bT (by simp [inD,h1])
 ·refine dr ?_
  refine cP ?_ ?_<;>intro h2
  ·refine dr ?_
   exact bT (by simp [inD,h2])
  ·refine dr ?_
   refine congrArg CB ?_
   rw [Bool.eq_iff_iff]; simp [inD,h1,h2,zS]
def zba:XC:=(.s (.r [.m1 4 .n]) (.s (.s (.r [.m1 5 (.i 0)]) (.blk 0 (.loop (.s (.s (.r [.mv 6 5,.mv 7 0,.n1 8 7,.b1 9 .lss 6 8]) (.cnd 9 .skip (.exit 0))) (.s (.blk 1 (.s (.r [.mv 12 0,.mv 13 5,.i1 14 3 12 13,.f1 15 0 14,.l1 16 1 15,.mv 17 1,.b1 18 .eql 16 17,.mv 19 18,.gt 20 (.mv 0) 19,.gt 21 (.mv 5) 19,.gt 22 (.ia 3 20 21) 19,.gt 23 (.fa 1 22) 19,.gt 24 (.ld false 1 23) 19,.gt 25 (.bin .neq 24 (.i 2)) 19,.ex 26 (.pick 19 25 .n),.mv 27 26,.gf 28 (.mv 0) 27,.gf 29 (.mv 5) 27,.gf 30 (.ia 3 28 29) 27,.gf 31 (.fa 1 30) 27,.gf 32 (.ld false 1 31) 27,.gf 33 (.bin .neq 32 (.i 2)) 27,.gf 34 (.mv 33) 27,.gt 35 (.mv 1) 34,.gt 36 (.mv 0) 34,.gt 37 (.mv 5) 34,.gt 38 (.ia 3 36 37) 34,.gt 39 (.fa 0 38) 34,.gt 40 (.ld false 1 39) 34,.gt 41 (.call 235 [35,40]) 34,.gf 42 (.pick 34 41 .n) 27,.ex 43 (.pick 27 .y 42)]) (.cnd 43 (.s (.r [.m1 4 .y]) .ret) .skip))) (.r [.mv 10 5,.b1 11 .add 10 (.i 1),.mv 5 11])))))) (.s (.r [.m1 4 .n]) .ret)))
theorem zbb:compF Tryz.prog [] 207=some (zba.ac,[(.t 4)],44):=by kernel_rfl
theorem ze6 (W0:World) (t:List Mark) (p:Str):Fn Tryz.prog W0 207 [eMarks t,CS p] (.c (CB (hides t p))) []:=by
 refine fnX (c:=zba) mixed zbb (by simp) rfl fun hg=>?_
 have g1:=goodRow (hg _ (by simp:eMarks t∈_))
 refine dr ?_
 refine lp (σ:=Nat) (fun k=>[(0,.c (eMarks t)),(1,.c (CS p)),(5,I k)]) (fun _=>[]) (fun k=>k≤t.length∧hides (t.take k) p=false) (fun k=>t.length - k) 0 ⟨by simp,by simp [hides]⟩ ?_ ?_
 ·refine dr ?_
  trivial
 rintro k ⟨hk,ha⟩
 refine dr ?_
 refine cP ?_ ?_<;>intro h1
 ·have hk':k < t.length:=by omega
  have no:hidP p t[k]=false→hides (t.take (k+1)) p=false:=fun h=>by
   rw [hides] at ha ⊢
   rw [List.take_succ_eq_append_getElem hk',List.any_append,ha]; simpa using h
  have yes:hidP p t[k]=true→CB true=CB (hides t p):=fun h=>bT (by
   rw [hides,List.any_eq_true]; exact ⟨t[k],List.getElem_mem hk',h⟩)
  refine dr ?_
  have nx:hidP p t[k]=false→∃ x',(x'≤t.length∧hides (t.take x') p=false)∧x'=k+1:=fun h=>⟨k+1,⟨by omega,no h⟩,rfl⟩
  refine cP ?_ ?_<;>intro h2
  ·refine dr ?_
   refine cP ?_ ?_<;>intro h3
   ·refine dr ?_
    exact yes (by simp [hidP,h2,h3])
   ·refine dr ?_
    refine cP ?_ ?_<;>intro h4
    ·omega
    ·refine dr ?_
     refine ⟨k+1,⟨by omega,no (by simp [hidP,h3])⟩,by omega,?_⟩
     refine dr ?_
     trivial
  ·refine dr ?_
   refine cP ?_ ?_<;>intro h3
   ·refine dEr ?_
    repeat (refine c0 (zeM W0 _ _) rfl ?_; first | refine dEr ?_ | exact dz)
    refine cP ?_ ?_<;>intro h5
    ·refine dr ?_
     exact yes (by simp [hidP,h3,h5])
    ·refine dr ?_
     refine ⟨k+1,⟨by omega,no (by simp [hidP,h2,h5])⟩,by omega,?_⟩
     refine dr ?_
     trivial
   ·refine dr ?_
    refine ⟨k+1,⟨by omega,no (by simp [hidP,h3])⟩,by omega,?_⟩
    refine dr ?_
    trivial
 ·refine dr ?_
  have:k=t.length:=by omega
  subst this
  rw [List.take_length] at ha
  rw [ha]
def Ys:XC:=(.s (.r [.m1 2 .n]) (.s (.s (.r [.m1 3 (.i 0)]) (.blk 0 (.loop (.s (.s (.r [.mv 5 3,.mv 6 0,.n1 7 6,.b1 8 .lss 5 7]) (.cnd 8 .skip (.exit 0))) (.s (.blk 1 (.s (.r [.mv 11 0,.mv 12 3,.i1 13 3 11 12,.l2 14 3 13,.ex 4 (.alloc [sE,(I 0),sE]),.s1 3 4 14]) (.s (.s (.r [.f1 15 1 4,.l1 16 1 15,.b1 17 .lss 16 (.i 1),.mv 18 17,.gf 19 (.fa 1 4) 18,.gf 20 (.ld false 1 19) 18,.gf 21 (.bin .gtr 20 (.i 4)) 18,.ex 22 (.pick 18 .y 21),.mv 23 22,.gf 24 (.fa 0 4) 23,.gf 25 (.ld false 1 24) 23,.gf 26 (.call 106 [25]) 23,.gf 27 (.un .not 26) 23,.ex 28 (.pick 23 .y 27),.mv 29 28,.gf 30 (.fa 2 4) 29,.gf 31 (.ld false 1 30) 29,.gf 32 (.call 177 [31]) 29,.gf 33 (.un .not 32) 29,.ex 34 (.pick 29 .y 33),.mv 35 34,.gf 36 (.fa 1 4) 35,.gf 37 (.ld false 1 36) 35,.gf 38 (.bin .neq 37 (.i 1)) 35,.gf 39 (.mv 38) 35,.gt 40 (.fa 2 4) 39,.gt 41 (.ld false 1 40) 39,.gt 42 (.bin .neq 41 (.s [])) 39,.gf 43 (.pick 39 42 .n) 35,.ex 44 (.pick 35 .y 43)]) (.cnd 44 (.s (.r [.m1 2 .n]) .ret) .skip)) (.s (.s (.d [.mv 45 3,.b1 46 .gtr 45 (.i 0),.mv 47 46,.gt 48 (.mv 0) 47,.gt 49 (.mv 3) 47,.gt 50 (.bin .sub 49 (.i 1)) 47,.gt 51 (.ia 3 48 50) 47,.gt 52 (.fa 0 51) 47,.gt 53 (.ld false 1 52) 47,.gt 54 (.fa 0 4) 47,.gt 55 (.ld false 1 54) 47,.gt 56 (.bin .geq 53 55) 47,.ex 57 (.pick 47 56 .n),.mv 58 57,.gf 59 (.mv 0) 58,.gf 60 (.mv 3) 58,.gf 61 (.slr 3 59 .none (.some 60)) 58,.gf 62 (.fa 0 4) 58,.gf 63 (.ld false 1 62) 58,.gf 64 (.call 205 [61,63]) 58,.gf 65 (.un .not 64) 58,.ex 66 (.pick 58 .y 65)]) (.cnd 66 (.s (.r [.m1 2 .n]) .ret) .skip)) (.s (.d [.f1 67 1 4,.l1 68 1 67,.b1 69 .gtr 68 (.i 2),.mv 70 69,.gt 71 (.mv 0) 70,.gt 72 (.mv 3) 70,.gt 73 (.slr 3 71 .none (.some 72)) 70,.gt 74 (.fa 0 4) 70,.gt 75 (.ld false 1 74) 70,.gt 76 (.call 206 [73,75]) 70,.ex 77 (.pick 70 76 .n)]) (.cnd 77 (.s (.r [.m1 2 .n]) .ret) .skip)))))) (.r [.mv 9 3,.b1 10 .add 9 (.i 1),.mv 3 10])))))) (.s (.r [.mv 78 0,.n1 79 78,.b1 80 .leq 79 (.i 32),.mv 2 80]) .ret)))
theorem Yt:compF Tryz.prog [] 171=some (Ys.ac,[(.t 2)],81):=by kernel_rfl
theorem jC (W0:World) (t:List Mark):Fn Tryz.prog W0 171 [eMarks t] (.c (CB (lOk t))) []:=by
 refine fnX (c:=Ys) mixed Yt (by simp) rfl fun hg=>?_
 have g1:=goodRow (hg _ (by simp:eMarks t∈_))
 refine dr ?_
 refine lp (σ:=Nat) (fun k=>[(0,.c (eMarks t)),(3,I k)]) (fun _=>[]) (fun k=>k≤t.length∧∀ j (h:j < t.length),j < k→mok1 (t.take j) t[j]=true) (fun k=>t.length - k) 0 ⟨by simp,by simp⟩ ?_ ?_
 ·refine dr ?_
  trivial
 rintro k ⟨hk,ha⟩
 refine dr ?_
 refine cP ?_ ?_<;>intro h2
 rotate_left
 ·refine dr ?_
  refine congrArg CB ?_
  rw [lOk,mokA0.2 fun j h=>ha j h (by omega),Bool.eq_iff_iff]; simp [qr]; omega
 have hk':k < t.length:=by omega
 have no:mok1 (t.take k) t[k]=false→CB false=CB (lOk t):=fun h=>bF (by
  rw [lOk,Bool.and_eq_false_iff]; right
  rw [Bool.eq_false_iff]; intro e
  have:=mokA0.1 e k hk'
  rw [h] at this; cases this)
 refine dr ?_
 refine cP ?_ ?_<;>intro h3
 ·refine dr ?_
  exact no (by simp [mok1]; omega)
 refine dr ?_
 refine cP ?_ ?_<;>intro h4
 ·refine dr ?_
  exact no (by simp [mok1]; omega)
 have h34:(decide (1≤t[k].kind)&&decide (t[k].kind≤4))=true:=by simp; omega
 refine dr ?_
 repeat (refine c0 (jE W0 _) rfl ?_; first | refine dr ?_ | exact dz)
 refine cP ?_ ?_<;>intro h5
 ·refine dr ?_
  exact no (by simp [mok1,h5])
 refine dr ?_
 repeat (refine c0 (zeO W0 _) rfl ?_; first | refine dr ?_ | exact dz)
 refine cP ?_ ?_<;>intro h6
 ·refine dr ?_
  exact no (by simp [mok1,h6])
 refine dr ?_
 refine cP ?_ ?_<;>intro h70
 ·refine dr ?_
  refine cP ?_ ?_<;>intro h71
  ·refine dr ?_
   exact no (by simp [mok1,h70,h71])
  ·have h7:(!(t[k].kind != 1&&t[k].data != []))=true:=by simp [h71]
   clear h71
   refine dr ?_
   refine cP ?_ ?_<;>intro h8
   ·have hl:(t.take k).getLast? = some t[k - 1]:=by
     rw [List.getLast?_take,if_neg (by omega),List.getElem?_eq_getElem (by omega)]
     rfl
    refine dr ?_
    repeat (refine aM (j:=k - 1) (by omega) (by omega) ?_; first | refine dr ?_ | exact dz)
    cases hlt:ltS t[k - 1].path t[k].path
    ·refine dr ?_
     exact no (by simp [mok1,mlast,hl,hlt])
    ·have hlast:mlast (t.take k) t[k].path=true:=by rw [mlast,hl]; exact hlt
     refine dEr ?_
     repeat ((first | refine sHiM k rfl (by omega) ?_ | refine c0 (ze7 W0 (t.take k) _) rfl ?_); first | refine dEr ?_ | exact dz)
     refine cP ?_ ?_<;>intro h9
     ·refine dr ?_
      exact no (by simp [mok1,h9])
     ·refine dr ?_
      refine cP ?_ ?_<;>intro h10
      ·refine dEr ?_
       repeat ((first | refine sHiM k rfl (by omega) ?_ | refine c0 (jt W0 (t.take k) _) rfl ?_); first | refine dEr ?_ | exact dz)
       refine cP ?_ ?_<;>intro h11
       ·refine dr ?_
        exact no (by simp [mok1,h10,h11])
       ·refine dr ?_
        refine ⟨k+1,⟨by omega,fun j h hj=>?_⟩,by omega,?_⟩
        ·by_cases e:j=k
         ·subst e; rw [mok1,h34,h5,h6,h7,hlast,h9,h11]; simp
         ·exact ha j h (by omega)
        ·refine dr ?_
         trivial
      ·refine dr ?_
       refine ⟨k+1,⟨by omega,fun j h hj=>?_⟩,by omega,?_⟩
       ·by_cases e:j=k
        ·subst e; rw [mok1,h34,h5,h6,h7,hlast,h9]; simp; omega
        ·exact ha j h (by omega)
       ·refine dr ?_
        trivial
   ·have hlast:mlast (t.take k) t[k].path=true:=by
     have hk0:k=0:=by omega
     subst hk0; rfl
    refine dEr ?_
    repeat ((first | refine sHiM k rfl (by omega) ?_ | refine c0 (ze7 W0 (t.take k) _) rfl ?_); first | refine dEr ?_ | exact dz)
    refine cP ?_ ?_<;>intro h9
    ·refine dr ?_
     exact no (by simp [mok1,h9])
    ·refine dr ?_
     refine cP ?_ ?_<;>intro h10
     ·refine dEr ?_
      repeat ((first | refine sHiM k rfl (by omega) ?_ | refine c0 (jt W0 (t.take k) _) rfl ?_); first | refine dEr ?_ | exact dz)
      refine cP ?_ ?_<;>intro h11
      ·refine dr ?_
       exact no (by simp [mok1,h10,h11])
      ·refine dr ?_
       refine ⟨k+1,⟨by omega,fun j h hj=>?_⟩,by omega,?_⟩
       ·by_cases e:j=k
        ·subst e; rw [mok1,h34,h5,h6,h7,hlast,h9,h11]; simp
        ·exact ha j h (by omega)
       ·refine dr ?_
        trivial
     ·refine dr ?_
      refine ⟨k+1,⟨by omega,fun j h hj=>?_⟩,by omega,?_⟩
      ·by_cases e:j=k
       ·subst e; rw [mok1,h34,h5,h6,h7,hlast,h9]; simp; omega
       ·exact ha j h (by omega)
      ·refine dr ?_
       trivial
 ·have h7:(!(t[k].kind != 1&&t[k].data != []))=true:=by simp [h70]
  refine dr ?_
  refine cP ?_ ?_<;>intro h8
  ·have hl:(t.take k).getLast? = some t[k - 1]:=by
    rw [List.getLast?_take,if_neg (by omega),List.getElem?_eq_getElem (by omega)]
    rfl
   refine dr ?_
   repeat (refine aM (j:=k - 1) (by omega) (by omega) ?_; first | refine dr ?_ | exact dz)
   cases hlt:ltS t[k - 1].path t[k].path
   ·refine dr ?_
    exact no (by simp [mok1,mlast,hl,hlt])
   ·have hlast:mlast (t.take k) t[k].path=true:=by rw [mlast,hl]; exact hlt
    refine dEr ?_
    repeat ((first | refine sHiM k rfl (by omega) ?_ | refine c0 (ze7 W0 (t.take k) _) rfl ?_); first | refine dEr ?_ | exact dz)
    refine cP ?_ ?_<;>intro h9
    ·refine dr ?_
     exact no (by simp [mok1,h9])
    ·refine dr ?_
     refine cP ?_ ?_<;>intro h10
     ·refine dEr ?_
      repeat ((first | refine sHiM k rfl (by omega) ?_ | refine c0 (jt W0 (t.take k) _) rfl ?_); first | refine dEr ?_ | exact dz)
      refine cP ?_ ?_<;>intro h11
      ·refine dr ?_
       exact no (by simp [mok1,h10,h11])
      ·refine dr ?_
       refine ⟨k+1,⟨by omega,fun j h hj=>?_⟩,by omega,?_⟩
       ·by_cases e:j=k
        ·subst e; rw [mok1,h34,h5,h6,h7,hlast,h9,h11]; simp
        ·exact ha j h (by omega)
       ·refine dr ?_
        trivial
     ·refine dr ?_
      refine ⟨k+1,⟨by omega,fun j h hj=>?_⟩,by omega,?_⟩
      ·by_cases e:j=k
       ·subst e; rw [mok1,h34,h5,h6,h7,hlast,h9]; simp; omega
       ·exact ha j h (by omega)
      ·refine dr ?_
       trivial
  ·have hlast:mlast (t.take k) t[k].path=true:=by
    have hk0:k=0:=by omega
    subst hk0; rfl
   refine dEr ?_
   repeat ((first | refine sHiM k rfl (by omega) ?_ | refine c0 (ze7 W0 (t.take k) _) rfl ?_); first | refine dEr ?_ | exact dz)
   refine cP ?_ ?_<;>intro h9
   ·refine dr ?_
    exact no (by simp [mok1,h9])
   ·refine dr ?_
    refine cP ?_ ?_<;>intro h10
    ·refine dEr ?_
     repeat ((first | refine sHiM k rfl (by omega) ?_ | refine c0 (jt W0 (t.take k) _) rfl ?_); first | refine dEr ?_ | exact dz)
     refine cP ?_ ?_<;>intro h11
     ·refine dr ?_
      exact no (by simp [mok1,h10,h11])
     ·refine dr ?_
      refine ⟨k+1,⟨by omega,fun j h hj=>?_⟩,by omega,?_⟩
      ·by_cases e:j=k
       ·subst e; rw [mok1,h34,h5,h6,h7,hlast,h9,h11]; simp
       ·exact ha j h (by omega)
      ·refine dr ?_
       trivial
    ·refine dr ?_
     refine ⟨k+1,⟨by omega,fun j h hj=>?_⟩,by omega,?_⟩
     ·by_cases e:j=k
      ·subst e; rw [mok1,h34,h5,h6,h7,hlast,h9]; simp; omega
      ·exact ha j h (by omega)
     ·refine dr ?_
      trivial

theorem zkB {a b:Over} (h1:a.base=b.base) (h2:a.layers=b.layers) (h3:a.upper=b.upper):a=b:=by cases a; cases b; simp_all
def YY:XC:=(.s (.r [.m1 4 .n]) (.s (.s (.r [.mv 6 0,.n1 7 6,.mv 8 1,.n1 9 8,.b1 10 .neq 7 9]) (.cnd 10 (.s (.r [.m1 4 .n]) .ret) .skip)) (.s (.s (.r [.m1 5 (.i 0)]) (.blk 0 (.loop (.s (.s (.r [.mv 11 5,.mv 12 0,.n1 13 12,.b1 14 .lss 11 13]) (.cnd 14 .skip (.exit 0))) (.s (.blk 1 (.s (.d [.mv 17 0,.mv 18 5,.i1 19 3 17 18,.l2 20 3 19,.mv 21 1,.mv 22 5,.i1 23 3 21 22,.l2 24 3 23,.ex 25 (.beq true [.s,.b,.s] 20 24)]) (.cnd 25 (.s (.r [.m1 4 .n]) .ret) .skip))) (.r [.mv 15 5,.b1 16 .add 15 (.i 1),.mv 5 16])))))) (.s (.r [.m1 4 .y]) .ret))))
theorem YZ:compF Tryz.prog [] 103=some (YY.ac,[(.t 4)],26):=by kernel_rfl
theorem zgh (W0:World) (a b:List Ent):Fn Tryz.prog W0 103 [eEnts a,eEnts b] (.c (CB (decide (a=b)))) []:=by
 refine fnX (c:=YY) mixed YZ (by simp) rfl fun hg=>?_
 have g1:=goodRow (hg _ (by simp:eEnts a∈_))
 refine dr ?_
 refine cP ?_ ?_<;>intro h1
 ·conv=>whnf
  exact dF (yd (by omega))
 conv=>whnf
 refine lp (σ:=Nat) (fun k=>[(0,.c (eEnts a)),(1,.c (eEnts b)),(5,I k)]) (fun _=>[]) (fun k=>k≤a.length∧a.take k=b.take k) (fun k=>a.length - k) 0 ⟨by simp,by simp⟩ ?_ ?_
 ·refine dr ?_
  trivial
 rintro k ⟨hk,he⟩
 refine dr ?_
 refine cP ?_ ?_<;>intro h2
 ·refine dr ?_
  rw [bqEnt]
  refine cP ?_ ?_<;>intro h3
  rotate_left
  ·refine dr ?_
   refine ⟨k+1,⟨by omega,y4 (by omega) (by omega) he (by simpa using h3)⟩,by omega,?_⟩
   refine dr ?_
   trivial
  ·conv=>whnf
   exact dF (yc (k:=k) (by omega) (by omega) (by simpa using h3))
 ·refine dr ?_
  have:k=a.length:=by omega
  subst this
  exact dT (zX (by omega) he)
def Yw:XC:=(.s (.r [.m1 4 .n]) (.s (.s (.r [.mv 6 0,.n1 7 6,.mv 8 1,.n1 9 8,.b1 10 .neq 7 9]) (.cnd 10 (.s (.r [.m1 4 .n]) .ret) .skip)) (.s (.s (.r [.m1 5 (.i 0)]) (.blk 0 (.loop (.s (.s (.r [.mv 11 5,.mv 12 0,.n1 13 12,.b1 14 .lss 11 13]) (.cnd 14 .skip (.exit 0))) (.s (.blk 1 (.s (.d [.mv 17 0,.mv 18 5,.i1 19 3 17 18,.l2 20 3 19,.mv 21 1,.mv 22 5,.i1 23 3 21 22,.l2 24 3 23,.ex 25 (.beq true [.s,(.i .i64),.s] 20 24)]) (.cnd 25 (.s (.r [.m1 4 .n]) .ret) .skip))) (.r [.mv 15 5,.b1 16 .add 15 (.i 1),.mv 5 16])))))) (.s (.r [.m1 4 .y]) .ret))))
theorem Yx:compF Tryz.prog [] 75=some (Yw.ac,[(.t 4)],26):=by kernel_rfl
theorem zf7 (W0:World) (a b:List Mark):Fn Tryz.prog W0 75 [eMarks a,eMarks b] (.c (CB (decide (a=b)))) []:=by
 refine fnX (c:=Yw) mixed Yx (by simp) rfl fun hg=>?_
 have g1:=goodRow (hg _ (by simp:eMarks a∈_))
 refine dr ?_
 refine cP ?_ ?_<;>intro h1
 ·conv=>whnf
  exact dF (yd (by omega))
 conv=>whnf
 refine lp (σ:=Nat) (fun k=>[(0,.c (eMarks a)),(1,.c (eMarks b)),(5,I k)]) (fun _=>[]) (fun k=>k≤a.length∧a.take k=b.take k) (fun k=>a.length - k) 0 ⟨by simp,by simp⟩ ?_ ?_
 ·refine dr ?_
  trivial
 rintro k ⟨hk,he⟩
 refine dr ?_
 refine cP ?_ ?_<;>intro h2
 ·refine dr ?_
  rw [bqMark]
  refine cP ?_ ?_<;>intro h3
  rotate_left
  ·refine dr ?_
   refine ⟨k+1,⟨by omega,y4 (by omega) (by omega) he (by simpa using h3)⟩,by omega,?_⟩
   refine dr ?_
   trivial
  ·conv=>whnf
   exact dF (yc (k:=k) (by omega) (by omega) (by simpa using h3))
 ·refine dr ?_
  have:k=a.length:=by omega
  subst this
  exact dT (zX (by omega) he)
def zbS:XC:=(.s (.r [.m1 4 .n]) (.s (.s (.r [.mv 6 0,.n1 7 6,.mv 8 1,.n1 9 8,.b1 10 .neq 7 9]) (.cnd 10 (.s (.r [.m1 4 .n]) .ret) .skip)) (.s (.s (.r [.m1 5 (.i 0)]) (.blk 0 (.loop (.s (.s (.r [.mv 11 5,.mv 12 0,.n1 13 12,.b1 14 .lss 11 13]) (.cnd 14 .skip (.exit 0))) (.s (.blk 1 (.s (.d [.mv 17 0,.mv 18 5,.i1 19 7 17 18,.l2 20 7 19,.mv 21 1,.mv 22 5,.i1 23 7 21 22,.l2 24 7 23,.ex 25 (.beq true [.s,.b,.s,.b,.s,(.i .i64),(.i .i64)] 20 24)]) (.cnd 25 (.s (.r [.m1 4 .n]) .ret) .skip))) (.r [.mv 15 5,.b1 16 .add 15 (.i 1),.mv 5 16])))))) (.s (.r [.m1 4 .y]) .ret))))
theorem zbT:compF Tryz.prog [] 54=some (zbS.ac,[(.t 4)],26):=by kernel_rfl
theorem zgn (W0:World) (a b:List Hold):Fn Tryz.prog W0 54 [eHolds a,eHolds b] (.c (CB (decide (a=b)))) []:=by
 refine fnX (c:=zbS) mixed zbT (by simp) rfl fun hg=>?_
 have g1:=goodRow (hg _ (by simp:eHolds a∈_))
 refine dr ?_
 refine cP ?_ ?_<;>intro h1
 ·conv=>whnf
  exact dF (yd (by omega))
 conv=>whnf
 refine lp (σ:=Nat) (fun k=>[(0,.c (eHolds a)),(1,.c (eHolds b)),(5,I k)]) (fun _=>[]) (fun k=>k≤a.length∧a.take k=b.take k) (fun k=>a.length - k) 0 ⟨by simp,by simp⟩ ?_ ?_
 ·refine dr ?_
  trivial
 rintro k ⟨hk,he⟩
 refine dr ?_
 refine cP ?_ ?_<;>intro h2
 ·refine dr ?_
  rw [bqHold]
  refine cP ?_ ?_<;>intro h3
  rotate_left
  ·refine dr ?_
   refine ⟨k+1,⟨by omega,y4 (by omega) (by omega) he (by simpa using h3)⟩,by omega,?_⟩
   refine dr ?_
   trivial
  ·conv=>whnf
   exact dF (yc (k:=k) (by omega) (by omega) (by simpa using h3))
 ·refine dr ?_
  have:k=a.length:=by omega
  subst this
  exact dT (zX (by omega) he)
def Z2:XC:=(.s (.r [.m1 4 .n]) (.s (.s (.r [.mv 6 0,.n1 7 6,.mv 8 1,.n1 9 8,.b1 10 .neq 7 9]) (.cnd 10 (.s (.r [.m1 4 .n]) .ret) .skip)) (.s (.s (.r [.mv 11 0,.n1 12 11,.m1 13 (.i 0)]) (.blk 0 (.loop (.s (.r [.b1 14 .lss 13 12]) (.s (.cnd 14 .skip (.exit 0)) (.s (.blk 1 (.s (.r [.mv 15 13,.mv 5 15]) (.s (.d [.mv 16 0,.mv 17 5,.i1 18 3 16 17,.l2 19 3 18,.mv 20 1,.mv 21 5,.i1 22 3 20 21,.l2 23 3 22,.ex 24 (.beq true [.s,.b,.s] 19 23)]) (.cnd 24 (.s (.r [.m1 4 .n]) .ret) .skip)))) (.r [.b1 25 .add 13 (.i 1),.mv 13 25]))))))) (.s (.r [.m1 4 .y]) .ret))))
theorem Z3:compF Tryz.prog [] 91=some (Z2.ac,[(.t 4)],26):=by kernel_rfl
theorem zdY (W0:World) (a b:List Ent):Fn Tryz.prog W0 91 [eEnts a,eEnts b] (.c (CB (decide (a=b)))) []:=by
 refine fnX (c:=Z2) mixed Z3 (by simp) rfl fun hg=>?_
 have g1:=goodRow (hg _ (by simp:eEnts a∈_))
 refine dr ?_
 refine cP ?_ ?_<;>intro h1
 ·conv=>whnf
  exact dF (yd (by omega))
 refine dr ?_
 refine lp (σ:=Nat) (fun k=>[(0,.c (eEnts a)),(1,.c (eEnts b)),(12,I a.length),(13,I k)]) (fun _=>[]) (fun k=>k≤a.length∧a.take k=b.take k) (fun k=>a.length - k) 0 ⟨by simp,by simp⟩ ?_ ?_
 ·refine dr ?_
  trivial
 rintro k ⟨hk,he⟩
 refine dr ?_
 refine cP ?_ ?_<;>intro h2
 ·refine dr ?_
  rw [bqEnt]
  refine cP ?_ ?_<;>intro h3
  rotate_left
  ·refine dr ?_
   refine ⟨k+1,⟨by omega,y4 (by omega) (by omega) he (by simpa using h3)⟩,by omega,?_⟩
   refine dr ?_
   trivial
  ·conv=>whnf
   exact dF (yc (k:=k) (by omega) (by omega) (by simpa using h3))
 ·refine dr ?_
  have:k=a.length:=by omega
  subst this
  exact dT (zX (by omega) he)
def Je:XC:=(.s (.r [.m1 4 .n]) (.s (.s (.r [.mv 6 0,.n1 7 6,.mv 8 1,.n1 9 8,.b1 10 .neq 7 9]) (.cnd 10 (.s (.r [.m1 4 .n]) .ret) .skip)) (.s (.s (.r [.mv 11 0,.n1 12 11,.m1 13 (.i 0)]) (.blk 0 (.loop (.s (.r [.b1 14 .lss 13 12]) (.s (.cnd 14 .skip (.exit 0)) (.s (.blk 1 (.s (.r [.mv 15 13,.mv 5 15]) (.s (.d [.mv 16 0,.mv 17 5,.i1 18 3 16 17,.l2 19 3 18,.mv 20 1,.mv 21 5,.i1 22 3 20 21,.l2 23 3 22,.ex 24 (.beq true [.s,(.i .i64),.s] 19 23)]) (.cnd 24 (.s (.r [.m1 4 .n]) .ret) .skip)))) (.r [.b1 25 .add 13 (.i 1),.mv 13 25]))))))) (.s (.r [.m1 4 .y]) .ret))))
theorem Jf:compF Tryz.prog [] 138=some (Je.ac,[(.t 4)],26):=by kernel_rfl
theorem zd4 (W0:World) (a b:List Mark):Fn Tryz.prog W0 138 [eMarks a,eMarks b] (.c (CB (decide (a=b)))) []:=by
 refine fnX (c:=Je) mixed Jf (by simp) rfl fun hg=>?_
 have g1:=goodRow (hg _ (by simp:eMarks a∈_))
 refine dr ?_
 refine cP ?_ ?_<;>intro h1
 ·conv=>whnf
  exact dF (yd (by omega))
 refine dr ?_
 refine lp (σ:=Nat) (fun k=>[(0,.c (eMarks a)),(1,.c (eMarks b)),(12,I a.length),(13,I k)]) (fun _=>[]) (fun k=>k≤a.length∧a.take k=b.take k) (fun k=>a.length - k) 0 ⟨by simp,by simp⟩ ?_ ?_
 ·refine dr ?_
  trivial
 rintro k ⟨hk,he⟩
 refine dr ?_
 refine cP ?_ ?_<;>intro h2
 ·refine dr ?_
  rw [bqMark]
  refine cP ?_ ?_<;>intro h3
  rotate_left
  ·refine dr ?_
   refine ⟨k+1,⟨by omega,y4 (by omega) (by omega) he (by simpa using h3)⟩,by omega,?_⟩
   refine dr ?_
   trivial
  ·conv=>whnf
   exact dF (yc (k:=k) (by omega) (by omega) (by simpa using h3))
 ·refine dr ?_
  have:k=a.length:=by omega
  subst this
  exact dT (zX (by omega) he)
def Z8:XC:=(.s (.r [.m1 4 .n]) (.s (.s (.r [.mv 6 0,.n1 7 6,.mv 8 1,.n1 9 8,.b1 10 .neq 7 9]) (.cnd 10 (.s (.r [.m1 4 .n]) .ret) .skip)) (.s (.s (.r [.mv 11 0,.n1 12 11,.m1 13 (.i 0)]) (.blk 0 (.loop (.s (.r [.b1 14 .lss 13 12]) (.s (.cnd 14 .skip (.exit 0)) (.s (.blk 1 (.s (.r [.mv 15 13,.mv 5 15]) (.s (.d [.mv 16 0,.mv 17 5,.i1 18 7 16 17,.l2 19 7 18,.mv 20 1,.mv 21 5,.i1 22 7 20 21,.l2 23 7 22,.ex 24 (.beq true [.s,.b,.s,.b,.s,(.i .i64),(.i .i64)] 19 23)]) (.cnd 24 (.s (.r [.m1 4 .n]) .ret) .skip)))) (.r [.b1 25 .add 13 (.i 1),.mv 13 25]))))))) (.s (.r [.m1 4 .y]) .ret))))
theorem Z9:compF Tryz.prog [] 47=some (Z8.ac,[(.t 4)],26):=by kernel_rfl
theorem zd1 (W0:World) (a b:List Hold):Fn Tryz.prog W0 47 [eHolds a,eHolds b] (.c (CB (decide (a=b)))) []:=by
 refine fnX (c:=Z8) mixed Z9 (by simp) rfl fun hg=>?_
 have g1:=goodRow (hg _ (by simp:eHolds a∈_))
 refine dr ?_
 refine cP ?_ ?_<;>intro h1
 ·conv=>whnf
  exact dF (yd (by omega))
 refine dr ?_
 refine lp (σ:=Nat) (fun k=>[(0,.c (eHolds a)),(1,.c (eHolds b)),(12,I a.length),(13,I k)]) (fun _=>[]) (fun k=>k≤a.length∧a.take k=b.take k) (fun k=>a.length - k) 0 ⟨by simp,by simp⟩ ?_ ?_
 ·refine dr ?_
  trivial
 rintro k ⟨hk,he⟩
 refine dr ?_
 refine cP ?_ ?_<;>intro h2
 ·refine dr ?_
  rw [bqHold]
  refine cP ?_ ?_<;>intro h3
  rotate_left
  ·refine dr ?_
   refine ⟨k+1,⟨by omega,y4 (by omega) (by omega) he (by simpa using h3)⟩,by omega,?_⟩
   refine dr ?_
   trivial
  ·conv=>whnf
   exact dF (yc (k:=k) (by omega) (by omega) (by simpa using h3))
 ·refine dr ?_
  have:k=a.length:=by omega
  subst this
  exact dT (zX (by omega) he)
def Jc:XC:=(.s (.r [.m1 4 .n]) (.s (.s (.r [.mv 6 0,.n1 7 6,.mv 8 1,.n1 9 8,.b1 10 .neq 7 9]) (.cnd 10 (.s (.r [.m1 4 .n]) .ret) .skip)) (.s (.s (.r [.mv 11 0,.n1 12 11,.m1 13 (.i 0)]) (.blk 0 (.loop (.s (.r [.b1 14 .lss 13 12]) (.s (.cnd 14 .skip (.exit 0)) (.s (.blk 1 (.s (.r [.mv 15 13,.mv 5 15]) (.s (.d [.mv 16 0,.mv 17 5,.i1 18 4 16 17,.l2 19 4 18,.mv 20 1,.mv 21 5,.i1 22 4 20 21,.l2 23 4 22,.ex 24 (.beq true [(.i .i64),.s,(.i .i64),(.i .i64)] 19 23)]) (.cnd 24 (.s (.r [.m1 4 .n]) .ret) .skip)))) (.r [.b1 25 .add 13 (.i 1),.mv 13 25]))))))) (.s (.r [.m1 4 .y]) .ret))))
theorem Jd:compF Tryz.prog [] 48=some (Jc.ac,[(.t 4)],26):=by kernel_rfl
theorem zd3 (W0:World) (a b:List Lease):Fn Tryz.prog W0 48 [eLeases a,eLeases b] (.c (CB (decide (a=b)))) []:=by
 refine fnX (c:=Jc) mixed Jd (by simp) rfl fun hg=>?_
 have g1:=goodRow (hg _ (by simp:eLeases a∈_))
 refine dr ?_
 refine cP ?_ ?_<;>intro h1
 ·conv=>whnf
  exact dF (yd (by omega))
 refine dr ?_
 refine lp (σ:=Nat) (fun k=>[(0,.c (eLeases a)),(1,.c (eLeases b)),(12,I a.length),(13,I k)]) (fun _=>[]) (fun k=>k≤a.length∧a.take k=b.take k) (fun k=>a.length - k) 0 ⟨by simp,by simp⟩ ?_ ?_
 ·refine dr ?_
  trivial
 rintro k ⟨hk,he⟩
 refine dr ?_
 refine cP ?_ ?_<;>intro h2
 ·refine dr ?_
  rw [bqLease]
  refine cP ?_ ?_<;>intro h3
  rotate_left
  ·refine dr ?_
   refine ⟨k+1,⟨by omega,y4 (by omega) (by omega) he (by simpa using h3)⟩,by omega,?_⟩
   refine dr ?_
   trivial
  ·conv=>whnf
   exact dF (yc (k:=k) (by omega) (by omega) (by simpa using h3))
 ·refine dr ?_
  have:k=a.length:=by omega
  subst this
  exact dT (zX (by omega) he)
def Jg:XC:=(.s (.r [.m1 4 .n]) (.s (.s (.r [.mv 6 0,.n1 7 6,.mv 8 1,.n1 9 8,.b1 10 .neq 7 9]) (.cnd 10 (.s (.r [.m1 4 .n]) .ret) .skip)) (.s (.s (.r [.mv 11 0,.n1 12 11,.m1 13 (.i 0)]) (.blk 0 (.loop (.s (.r [.b1 14 .lss 13 12]) (.s (.cnd 14 .skip (.exit 0)) (.s (.blk 1 (.s (.r [.mv 15 13,.mv 5 15]) (.s (.d [.mv 16 0,.mv 17 5,.i1 18 9 16 17,.l2 19 9 18,.mv 20 1,.mv 21 5,.i1 22 9 20 21,.l2 23 9 22,.ex 24 (.beq true [(.i .i64),(.i .i64),.s,.b,.s,.b,.s,(.i .i64),(.i .i64)] 19 23)]) (.cnd 24 (.s (.r [.m1 4 .n]) .ret) .skip)))) (.r [.b1 25 .add 13 (.i 1),.mv 13 25]))))))) (.s (.r [.m1 4 .y]) .ret))))
theorem Jh:compF Tryz.prog [] 51=some (Jg.ac,[(.t 4)],26):=by kernel_rfl
theorem zd5 (W0:World) (a b:List Msg):Fn Tryz.prog W0 51 [eMsgs a,eMsgs b] (.c (CB (decide (a=b)))) []:=by
 refine fnX (c:=Jg) mixed Jh (by simp) rfl fun hg=>?_
 have g1:=goodRow (hg _ (by simp:eMsgs a∈_))
 refine dr ?_
 refine cP ?_ ?_<;>intro h1
 ·conv=>whnf
  exact dF (yd (by omega))
 refine dr ?_
 refine lp (σ:=Nat) (fun k=>[(0,.c (eMsgs a)),(1,.c (eMsgs b)),(12,I a.length),(13,I k)]) (fun _=>[]) (fun k=>k≤a.length∧a.take k=b.take k) (fun k=>a.length - k) 0 ⟨by simp,by simp⟩ ?_ ?_
 ·refine dr ?_
  trivial
 rintro k ⟨hk,he⟩
 refine dr ?_
 refine cP ?_ ?_<;>intro h2
 ·refine dr ?_
  rw [bqMsg]
  refine cP ?_ ?_<;>intro h3
  rotate_left
  ·refine dr ?_
   refine ⟨k+1,⟨by omega,y4 (by omega) (by omega) he (by simpa using h3)⟩,by omega,?_⟩
   refine dr ?_
   trivial
  ·conv=>whnf
   exact dF (yc (k:=k) (by omega) (by omega) (by simpa using h3))
 ·refine dr ?_
  have:k=a.length:=by omega
  subst this
  exact dT (zX (by omega) he)
def Jm:XC:=(.s (.r [.m1 4 .n]) (.s (.r [.mv 5 0,.mv 6 1,.c1 7 91 [5,6],.mv 4 7]) .ret))
theorem Jn:compF Tryz.prog [] 32=some (Jm.ac,[(.t 4)],8):=by kernel_rfl
theorem zep (W0:World) (a b:List Ent):Fn Tryz.prog W0 32 [eEnts a,eEnts b] (.c (CB (decide (a=b)))) []:=by
 refine fnX (c:=Jm) mixed Jn (by simp) rfl fun hg=>?_
 refine dr ?_
 repeat (refine c0 (zdY W0 a b) rfl ?_; first | refine dr ?_ | exact dz)
def Jo:XC:=(.s (.r [.m1 4 .n]) (.s (.r [.mv 5 0,.mv 6 1,.c1 7 138 [5,6],.mv 4 7]) .ret))
theorem Jp:compF Tryz.prog [] 86=some (Jo.ac,[(.t 4)],8):=by kernel_rfl
theorem zet (W0:World) (a b:List Mark):Fn Tryz.prog W0 86 [eMarks a,eMarks b] (.c (CB (decide (a=b)))) []:=by
 refine fnX (c:=Jo) mixed Jp (by simp) rfl fun hg=>?_
 refine dr ?_
 repeat (refine c0 (zd4 W0 a b) rfl ?_; first | refine dr ?_ | exact dz)
def Z6:XC:=(.s (.r [.m1 6 .n]) (.s (.s (.r [.mv 10 0,.n1 11 10,.mv 12 1,.n1 13 12,.b1 14 .neq 11 13]) (.cnd 14 (.s (.r [.m1 6 .n]) .ret) .skip)) (.s (.s (.r [.mv 15 0,.n1 16 15,.m1 17 (.i 0)]) (.blk 0 (.loop (.s (.r [.b1 18 .lss 17 16]) (.s (.cnd 18 .skip (.exit 0)) (.s (.blk 1 (.s (.r [.mv 19 17,.i1 20 1 15 17,.l1 21 1 20,.mv 7 19,.a1 8 21 3 133]) (.s (.r [.mv 22 1,.mv 23 7,.i1 24 1 22 23,.l1 25 1 24,.a1 9 25 3 133]) (.s (.r [.mv 26 2,.mv 27 8,.mv 28 9,.ex 29 (.callv 26 [27,28]),.ex 30 (.un .not 29)]) (.cnd 30 (.s (.r [.m1 6 .n]) .ret) .skip))))) (.r [.b1 31 .add 17 (.i 1),.mv 17 31]))))))) (.s (.r [.m1 6 .y]) .ret))))
theorem Z7:compF Tryz.prog [] 85=some (Z6.ac,[(.t 6)],32):=by kernel_rfl
theorem zd0 (W0:World) (a b:List (List Mark)):Fn Tryz.prog W0 85 [eMarkss a,eMarkss b,.sc (.func (.func 86) #[] #[])] (.c (CB (decide (a=b)))) []:=by
 refine fnX (c:=Z6) mixed Z7 (by simp) rfl fun hg=>?_
 have g1:=goodRow (hg _ (by simp:eMarkss a∈_))
 refine dr ?_
 refine cP ?_ ?_<;>intro h1
 ·conv=>whnf
  exact dF (yd (by omega))
 refine dr ?_
 refine lp (σ:=Nat) (fun k=>[(0,.c (eMarkss a)),(1,.c (eMarkss b)),(2,.c (.sc (.func (.func 86) #[] #[]))),(15,.c (eMarkss a)),(16,I a.length),(17,I k)]) (fun _=>[]) (fun k=>k≤a.length∧a.take k=b.take k) (fun k=>a.length - k) 0 ⟨by simp,by simp⟩ ?_ ?_
 ·refine dr ?_
  trivial
 rintro k ⟨hk,he⟩
 refine dr ?_
 refine cP ?_ ?_<;>intro h2
 ·refine dr ?_
  repeat ((first | refine oB ⟨by kernel_rfl,by simp⟩ ?_ | refine c0 (zet W0 _ _) rfl ?_); first | refine dr ?_ | exact dz)
  refine cP ?_ ?_<;>intro h3
  rotate_left
  ·refine dr ?_
   refine ⟨k+1,⟨by omega,y4 (by omega) (by omega) he (by simpa using h3)⟩,by omega,?_⟩
   refine dr ?_
   trivial
  ·conv=>whnf
   exact dF (yc (k:=k) (by omega) (by omega) (by simpa using h3))
 ·refine dr ?_
  have:k=a.length:=by omega
  subst this
  exact dT (zX (by omega) he)
def JE:XC:=(.s (.r [.ex 2 (.box 0),.ex 3 (.box 1),.m1 4 .n]) (.s (.r [.f1 5 0 2,.l1 6 1 5,.f1 7 0 3,.l1 8 1 7,.c1 9 32 [6,8],.mv 10 9,.gt 11 (.fa 1 2) 10,.gt 12 (.ld false 1 11) 10,.gt 13 (.fa 1 3) 10,.gt 14 (.ld false 1 13) 10,.gt 15 (.call 85 [12,14,(.k (.c (.sc (.func (.func 86) #[] #[]))))]) 10,.ex 16 (.pick 10 15 .n),.mv 17 16,.gt 18 (.fa 2 2) 17,.gt 19 (.ld false 1 18) 17,.gt 20 (.fa 2 3) 17,.gt 21 (.ld false 1 20) 17,.gt 22 (.call 86 [19,21]) 17,.ex 23 (.pick 17 22 .n),.mv 4 23]) .ret))
theorem JF:compF Tryz.prog [] 30=some (JE.ac,[(.t 4)],24):=by kernel_rfl
theorem zev (W0:World) (a b:Over):Fn Tryz.prog W0 30 [eOver a,eOver b] (.c (CB (decide (a=b)))) []:=by
 refine fnX (c:=JE) mixed JF (by simp) rfl fun hg=>?_
 refine dr ?_
 repeat (refine c0 (zep W0 a.base b.base) rfl ?_; first | refine dr ?_ | exact dz)
 refine cP ?_ ?_<;>intro h1
 rotate_left
 ·refine dr ?_
  exact dF fun e=>by simp [e] at h1
 refine dr ?_
 repeat (refine c0 (zd0 W0 a.layers b.layers) rfl ?_; first | refine dr ?_ | exact dz)
 refine cP ?_ ?_<;>intro h2
 rotate_left
 ·refine dr ?_
  exact dF fun e=>by simp [e] at h2
 refine dr ?_
 repeat (refine c0 (zet W0 a.upper b.upper) rfl ?_; first | refine dr ?_ | exact dz)
 exact congrArg CB (by cases a; cases b; simp_all)
def YI:XC:=(.s (.r [.ex 2 (.box 0),.ex 3 (.box 1),.m1 4 .n]) (.s (.s (.r [.f1 6 0 2,.l1 7 1 6,.f1 8 0 3,.l1 9 1 8,.c1 10 103 [7,9],.ex 11 (.un .not 10),.mv 12 11,.gf 13 (.fa 2 2) 12,.gf 14 (.ld false 1 13) 12,.gf 15 (.fa 2 3) 12,.gf 16 (.ld false 1 15) 12,.gf 17 (.call 75 [14,16]) 12,.gf 18 (.un .not 17) 12,.ex 19 (.pick 12 .y 18),.mv 20 19,.gf 21 (.fa 1 2) 20,.gf 22 (.ld false 1 21) 20,.gf 23 (.len false 22) 20,.gf 24 (.fa 1 3) 20,.gf 25 (.ld false 1 24) 20,.gf 26 (.len false 25) 20,.gf 27 (.bin .neq 23 26) 20,.ex 28 (.pick 20 .y 27)]) (.cnd 28 (.s (.r [.m1 4 .n]) .ret) .skip)) (.s (.s (.r [.m1 5 (.i 0)]) (.blk 0 (.loop (.s (.s (.r [.mv 29 5,.f1 30 1 2,.l1 31 1 30,.n1 32 31,.b1 33 .lss 29 32]) (.cnd 33 .skip (.exit 0))) (.s (.blk 1 (.s (.d [.f1 36 1 2,.l1 37 1 36,.mv 38 5,.i1 39 1 37 38,.l1 40 1 39,.f1 41 1 3,.l1 42 1 41,.mv 43 5,.i1 44 1 42 43,.l1 45 1 44,.c1 46 75 [40,45],.ex 47 (.un .not 46)]) (.cnd 47 (.s (.r [.m1 4 .n]) .ret) .skip))) (.r [.mv 34 5,.b1 35 .add 34 (.i 1),.mv 5 35])))))) (.s (.r [.m1 4 .y]) .ret))))
theorem YJ:compF Tryz.prog [] 52=some (YI.ac,[(.t 4)],48):=by kernel_rfl
theorem zgc (W0:World) (a b:Over):Fn Tryz.prog W0 52 [eOver a,eOver b] (.c (CB (decide (a=b)))) []:=by
 refine fnX (c:=YI) mixed YJ (by simp) rfl fun hg=>?_
 have g0:=hg _ (by simp:eOver a∈_)
 have g1:a.layers.length≤9223372036854775807:=goodRow (goodAgg g0 _ (by simp:eMarkss a.layers∈_))
 refine dr ?_
 repeat (refine c0 (zgh W0 a.base b.base) rfl ?_; first | refine dr ?_ | exact dz)
 refine cP ?_ ?_<;>intro h1
 ·refine dr ?_
  exact dF fun e=>by simp [e] at h1
 refine dr ?_
 repeat (refine c0 (zf7 W0 a.upper b.upper) rfl ?_; first | refine dr ?_ | exact dz)
 refine cP ?_ ?_<;>intro h2
 ·refine dr ?_
  exact dF fun e=>by simp [e] at h2
 refine dr ?_
 refine cP ?_ ?_<;>intro h3
 ·conv=>whnf
  exact dF fun e=>by simp [e] at h3
 refine dr ?_
 refine lp (σ:=Nat) (fun k=>[(2,.ptr 32 0),(3,.ptr 48 0),(5,I k)]) (fun _=>[(32,.box [.c (eEnts a.base),.c (eMarkss a.layers),.c (eMarks a.upper)]),(48,.box [.c (eEnts b.base),.c (eMarkss b.layers),.c (eMarks b.upper)])]) (fun k=>k≤a.layers.length∧a.layers.take k=b.layers.take k) (fun k=>a.layers.length - k) 0 ⟨by simp,by simp⟩ ?_ ?_
 ·refine dr ?_
  trivial
 rintro k ⟨hk,he⟩
 refine dr ?_
 refine cP ?_ ?_<;>intro h4
 ·refine dr ?_
  repeat (refine c0 (zf7 W0 _ _) rfl ?_; first | refine dr ?_ | exact dz)
  refine cP ?_ ?_<;>intro h5
  rotate_left
  ·refine dr ?_
   refine ⟨k+1,⟨by omega,y4 (by omega) (by omega) he (by simpa using h5)⟩,by omega,?_⟩
   refine dr ?_
   trivial
  ·conv=>whnf
   have:=yc (a:=a.layers) (b:=b.layers) (k:=k) (by omega) (by omega) (by simpa using h5)
   exact dF fun e=>this (by rw [e])
 ·refine dr ?_
  have:k=a.layers.length:=by omega
  subst this
  exact dT (zkB (by simpa using h1) (zX (by omega) he) (by simpa using h2))

def zbk:XC:=(.s (.r [.ex 4 (.asn (.k .nil) 3 39)]) (.s (.r [.ex 8 .bsl0,.a1 5 8 3 39]) (.s (.s (.r [.m1 6 (.i 0)]) (.blk 0 (.loop (.s (.s (.r [.mv 9 6,.mv 10 1,.n1 11 10,.b1 12 .lss 9 11]) (.cnd 12 .skip (.exit 0))) (.s (.blk 1 (.s (.r [.mv 15 0,.mv 16 1,.mv 17 6,.i1 18 3 16 17,.f1 19 0 18,.l1 20 1 19,.c1 21 207 [15,20],.ex 22 (.un .not 21)]) (.cnd 22 (.r [.mv 23 5,.mv 24 1,.mv 25 6,.i1 26 3 24 25,.l2 27 3 26,.ex 28 (.bsl 3 39 [27]),.ex 29 (.app false 3 40 39 23 28),.a1 5 29 3 39]) .skip))) (.r [.mv 13 6,.b1 14 .add 13 (.i 1),.mv 6 14])))))) (.s (.s (.r [.m1 7 (.i 0)]) (.blk 2 (.loop (.s (.s (.r [.mv 30 7,.mv 31 0,.n1 32 31,.b1 33 .lss 30 32]) (.cnd 33 .skip (.exit 2))) (.s (.blk 3 (.s (.r [.mv 36 0,.mv 37 7,.i1 38 3 36 37,.f1 39 1 38,.l1 40 1 39]) (.blk 4 (.s (.r [.b1 42 .eql 40 (.i 1),.mv 41 42]) (.cnd 41 (.d [.mv 43 5,.mv 44 0,.mv 45 7,.i1 46 3 44 45,.f1 47 0 46,.l1 48 1 47,.mv 49 0,.mv 50 7,.i1 51 3 49 50,.f1 52 2 51,.l1 53 1 52,.ex 54 (.build [sE,(B false),sE] [(0,(1,48)),(2,(1,53))]),.c1 55 178 [43,54],.a1 5 55 3 39]) (.s (.s (.r [.b1 57 .eql 40 (.i 2),.mv 56 57]) (.cnd 56 .skip (.r [.b1 58 .eql 40 (.i 4),.mv 56 58]))) (.cnd 56 (.r [.mv 59 5,.mv 60 0,.mv 61 7,.i1 62 3 60 61,.f1 63 0 62,.l1 64 1 63,.ex 65 (.build [sE,(B false),sE] [(0,(1,64)),(1,(1,.y))]),.c1 66 178 [59,65],.a1 5 66 3 39]) .skip))))))) (.r [.mv 34 7,.b1 35 .add 34 (.i 1),.mv 7 35])))))) (.s (.r [.mv 67 5,.a1 4 67 3 39]) .ret)))))
theorem zbl:compF Tryz.prog [] 172=some (zbk.ac,[(.t 4)],68):=by kernel_rfl
theorem zfb (W0:World) (l:List Mark) (t:List Ent) (ht:t.length+l.length≤1000000):Fn Tryz.prog W0 172 [eMarks l,eEnts t] (.c (eEnts (onRaw l t))) []:=by
 refine fnX (c:=zbk) mixed zbl (by simp) rfl fun hg=>?_
 refine dr ?_
 refine lp (σ:=Nat) (fun k=>[(0,.c (eMarks l)),(1,.c (eEnts t)),(5,.own 80 ((t.take k).filter fun e=>!hides l e.path).length),(6,I k)]) (fun k=>[(80,.row (((t.take k).filter fun e=>!hides l e.path).map eEnt) 3 39)]) (fun k=>k≤t.length) (fun k=>t.length - k) 0 (by simp) ?_ ?_
 ·refine dr ?_
  trivial
 intro k hk
 have hfl:=zgu (q:=fun e:Ent=>!hides l e.path) (l:=t) (k:=k)
 refine dr ?_
 refine cP ?_ ?_<;>intro h1
 ·have hk':k < t.length:=by omega
  refine dEr ?_
  repeat (refine c0 (ze6 W0 _ _) rfl ?_; first | refine dEr ?_ | exact dz)
  refine cP ?_ ?_<;>intro h2
  ·refine dr ?_
   repeat ((first | refine oB (by simp; omega) ?_ | refine oB (by simp) ?_); first | refine dr ?_ | exact dz)
   refine ⟨k+1,by omega,by omega,?_⟩
   refine dr ?_
   repeat (refine oB (by rw [jK hk' (by simp [h2])]; simp) ?_; first | refine dr ?_ | exact dz)
   trivial
  ·refine dr ?_
   refine ⟨k+1,by omega,by omega,?_⟩
   refine dr ?_
   repeat (refine oB (by rw [jJ hk' (by simp [h2])]) ?_; first | refine dr ?_ | exact dz)
   trivial
 have hkl:k=t.length:=by omega
 subst hkl
 rw [List.take_length] at hfl ⊢
 have hR:onRaw l t=l.foldl onP (t.filter fun e=>!hides l e.path):=rfl
 rw [hR]
 generalize (t.filter fun e=>!hides l e.path)=t0 at *
 refine dr ?_
 refine lz (σ:=Nat) 80 (fun k=>[(0,.c (eMarks l)),(1,.c (eEnts t)),(5,.c (eEnts ((l.take k).foldl onP t0))),(7,I k)]) (fun _=>[]) (fun k=>k≤l.length) (fun k=>l.length - k) 0 (by simp) ?_ ?_
 ·refine dr ?_
  repeat (refine oB (by simp) ?_; first | refine dr ?_ | exact dz)
  trivial
 clear h1
 intro k hk
 have hlk:=zg8 (l.take k) t0
 have hlk2:=List.length_take_le' k l
 refine dr ?_
 refine cP ?_ ?_<;>intro h1
 ·have hk':k < l.length:=by omega
  refine dr ?_
  refine cP ?_ ?_<;>intro h2
  ·refine dr ?_
   repeat (refine c0 (js W0 _ ⟨_,_,_⟩ (by omega)) rfl ?_; first | refine dr ?_ | exact dz)
   intro hg1
   refine dr ?_
   refine ⟨k+1,by omega,by omega,?_⟩
   refine dr ?_
   repeat (refine oB (by rw [jX hk',onP,if_pos h2]) ?_; first | refine dr ?_ | exact dz)
   trivial
  ·refine dr ?_
   refine cP ?_ ?_<;>intro h3
   ·refine dr ?_
    refine cP ?_ ?_<;>intro h30
    rotate_left
    ·omega
    refine dr ?_
    repeat (refine c0 (js W0 _ ⟨_,_,_⟩ (by omega)) rfl ?_; first | refine dr ?_ | exact dz)
    intro hg1
    refine dr ?_
    refine ⟨k+1,by omega,by omega,?_⟩
    refine dr ?_
    repeat (refine oB (by rw [jX hk',onP,if_neg h2,if_pos (.inl h3)]) ?_; first | refine dr ?_ | exact dz)
    trivial
   ·refine dr ?_
    refine cP ?_ ?_<;>intro h4
    ·refine dr ?_
     repeat (refine c0 (js W0 _ ⟨_,_,_⟩ (by omega)) rfl ?_; first | refine dr ?_ | exact dz)
     intro hg1
     refine dr ?_
     refine ⟨k+1,by omega,by omega,?_⟩
     refine dr ?_
     repeat (refine oB (by rw [jX hk',onP,if_neg h2,if_pos (.inr h4)]) ?_; first | refine dr ?_ | exact dz)
     trivial
    ·refine dr ?_
     refine ⟨k+1,by omega,by omega,?_⟩
     refine dr ?_
     repeat (refine oB (by rw [jX hk',onP,if_neg h2,if_neg (by omega)]) ?_; first | refine dr ?_ | exact dz)
     trivial
 have hkl:k=l.length:=by omega
 refine dr ?_
 rw [hkl,List.take_length]
def Yu:XC:=(.s (.r [.ex 4 (.asn (.k .nil) 3 39),.m1 5 .n]) (.s (.s (.r [.mv 7 0,.c1 8 171 [7],.ex 9 (.un .not 8),.mv 10 9,.gf 11 (.mv 1) 10,.gf 12 (.call 119 [11]) 10,.gf 13 (.un .not 12) 10,.ex 14 (.pick 10 .y 13)]) (.cnd 14 (.s (.r [.ex 15 .bsl0,.a1 4 15 3 39,.m1 5 .n]) .ret) .skip)) (.s (.r [.mv 16 0,.mv 17 1,.c1 18 172 [16,17],.a1 6 18 3 39]) (.s (.s (.r [.mv 19 6,.n1 20 19,.b1 21 .gtr 20 (.i 16)]) (.cnd 21 (.s (.r [.ex 22 .bsl0,.a1 4 22 3 39,.m1 5 .n]) .ret) .skip)) (.s (.r [.mv 23 6,.a1 4 23 3 39,.m1 5 .y]) .ret)))))
theorem Yv:compF Tryz.prog [] 111=some (Yu.ac,[(.t 4),(.t 5)],24):=by kernel_rfl
theorem zf6 (W0:World) (l:List Mark) (t:List Ent):Fn Tryz.prog W0 111 [eMarks l,eEnts t] (.c (eEntsO (lOn l t))) []:=by
 refine fnX (c:=Yu) mixed Yv (by simp) rfl fun hg=>?_
 refine dr ?_
 repeat (refine c0 (jC W0 _) rfl ?_; first | refine dr ?_ | exact dz)
 refine cP ?_ ?_<;>intro h1
 ·refine dEr ?_
  rw [lOn,if_neg (by simp [h1])]; rfl
 refine dEr ?_
 repeat (refine c0 (zgg W0 _) rfl ?_; first | refine dEr ?_ | exact dz)
 refine cP ?_ ?_<;>intro h2
 ·refine dr ?_
  rw [lOn,if_neg (by simp [h2])]; rfl
 have hl:l.length≤32:=by simp only [lOk,Bool.and_eq_true,decide_eq_true_eq] at h1; exact h1.1
 have ht:=(yY h2).1
 refine dr ?_
 repeat (refine c0 (zfb W0 _ _ (by omega)) rfl ?_; first | refine dr ?_ | exact dz)
 intro hg2
 refine dr ?_
 rw [lOn,if_pos (by simp [h1,h2])]
 refine cP ?_ ?_<;>intro h3
 ·refine dr ?_
  rw [if_neg (by omega)]; rfl
 ·refine dr ?_
  rw [if_pos (by omega)]; rfl
def zbq:XC:=(.s (.r [.ex 4 (.asn (.k .nil) 3 133)]) (.s (.r [.mv 6 1,.c1 7 123 [6],.mv 5 7]) (.s (.s (.r [.mv 8 5,.ex 9 (.bin .eql 8 (.s [47]))]) (.cnd 9 (.s (.r [.mv 10 0,.a1 4 10 3 133]) .ret) .skip)) (.s (.s (.r [.mv 11 0,.mv 12 5,.c1 13 181 [11,12],.b1 14 .eql 13 (.i 0)]) (.cnd 14 (.r [.mv 15 0,.mv 16 5,.ex 17 (.build [sE,(I 0),sE] [(0,(1,16)),(1,(1,(.i 2)))]),.c1 18 125 [15,17],.a1 0 18 3 133]) .skip)) (.s (.r [.mv 19 0,.mv 20 5,.c1 21 124 [19,20],.a1 4 21 3 133]) .ret)))))
theorem zbr:compF Tryz.prog [] 124=some (zbq.ac,[(.t 4)],22):=by kernel_rfl
theorem jv (W0:World):∀ (n:Nat) (l:List Mark) (p:Str),pOk p=true→(names p).length≤n→l.length+n≤1000000→Fn Tryz.prog W0 124 [eMarks l,CS p] (.c (eMarks ((upsN n p).foldl upsP l))) []
 | 0,l,p,hp,hn,_=>by have:=(yt hp).1.1; omega
 | n+1,l,p,hp,hn,hl=>by
  refine fnX (c:=zbq) mixed zbr (by simp) rfl fun hg=>?_
  refine dr ?_
  repeat (refine c0 (jF W0 _) rfl ?_; first | refine dr ?_ | exact dz)
  intro hg1
  rw [upsN]
  refine cP ?_ ?_<;>intro h1
  ·refine dr ?_
   rw [if_pos h1]; rfl
  rw [if_neg h1]
  obtain ⟨u1,_,u2⟩:=yv hp h1
  have e:((pUp p::upsN n (pUp p)).foldl upsP l)=(upsN n (pUp p)).foldl upsP (upsP l (pUp p)):=rfl
  rw [e,upsP]
  refine dr ?_
  repeat (refine c0 (ze9 W0 _ _) rfl ?_; first | refine dr ?_ | exact dz)
  intro hg2
  refine cP ?_ ?_<;>intro h2
  ·rw [if_pos h2]
   have hpl:(lput l ⟨pUp p,2,[]⟩).length≤l.length+1:=yy
   refine dr ?_
   repeat (refine c0 (ju W0 _ ⟨pUp p,2,[]⟩ (by omega)) rfl ?_; first | refine dr ?_ | exact dz)
   intro hg3
   refine dr ?_
   repeat (refine c0 (jv W0 n _ _ u1 (by omega) (by omega)) rfl ?_; first | refine dr ?_ | exact dz)
   intro hg4
   exact dz
  ·rw [if_neg h2]
   refine dr ?_
   repeat (refine c0 (jv W0 n _ _ u1 (by omega) (by omega)) rfl ?_; first | refine dr ?_ | exact dz)
   intro hg4
   exact dz
def za6:XC:=(.s (.r [.ex 4 (.asn (.k .nil) 3 133)]) (.s (.r [.ex 11 .bsl0,.a1 5 11 3 133]) (.s (.r [.mv 12 0,.mv 13 1,.c1 14 120 [12,13],.a1 6 14 1 9]) (.s (.s (.r [.m1 7 (.i 0)]) (.blk 0 (.loop (.s (.s (.r [.mv 15 7,.mv 16 6,.n1 17 16,.b1 18 .lss 15 17]) (.cnd 18 .skip (.exit 0))) (.s (.blk 1 (.s (.r [.mv 22 1,.mv 23 6,.mv 24 7,.i1 25 1 23 24,.l1 26 1 25,.c1 27 121 [22,26],.mv 21 27,.e1 28 21 0,.e1 29 21 1,.ex 8 (.alloc [sE,(B false),sE]),.s1 3 8 28,.mv 9 29]) (.s (.r [.mv 30 6,.mv 31 7,.i1 32 1 30 31,.l1 33 1 32,.ex 34 (.build [sE,(I 0),sE] [(0,(1,33)),(1,(1,(.i 3)))]),.ex 10 (.alloc [sE,(I 0),sE]),.s1 3 10 34]) (.s (.s (.r [.mv 35 9]) (.cnd 35 (.d [.mv 36 6,.mv 37 7,.i1 38 1 36 37,.l1 39 1 38,.f1 40 2 8,.l1 41 1 40,.ex 42 (.build [sE,(I 0),sE] [(0,(1,39)),(1,(1,(.i 1))),(2,(1,41))]),.s1 3 10 42]) .skip)) (.s (.s (.r [.mv 43 9,.mv 44 43,.gt 45 (.fa 1 8) 44,.gt 46 (.ld false 1 45) 44,.ex 47 (.pick 44 46 .n)]) (.cnd 47 (.r [.f1 48 1 10,.nu (.st 1 48 (.i 2))]) .skip)) (.s (.r [.mv 49 9,.mv 50 49,.gf 51 (.mv 1) 50,.gf 52 (.mv 6) 50,.gf 53 (.mv 7) 50,.gf 54 (.ia 1 52 53) 50,.gf 55 (.ld false 1 54) 50,.gf 56 (.call 123 [55]) 50,.gf 57 (.call 122 [51,56]) 50,.ex 58 (.pick 50 .y 57)]) (.cnd 58 (.d [.mv 59 5,.l2 60 3 10,.c1 61 125 [59,60],.mv 62 6,.mv 63 7,.i1 64 1 62 63,.l1 65 1 64,.c1 66 124 [61,65],.a1 5 66 3 133]) .skip))))))) (.r [.mv 19 7,.b1 20 .add 19 (.i 1),.mv 7 20])))))) (.s (.r [.mv 67 5,.a1 4 67 3 133]) .ret)))))
theorem za7:compF Tryz.prog [] 76=some (za6.ac,[(.t 4)],68):=by kernel_rfl
theorem ze4 (W0:World) (a b:List Ent) (ha:tOk a=true) (hb:tOk b=true):Fn Tryz.prog W0 76 [eEnts a,eEnts b] (.c (eMarks (diff a b))) []:=by
 have la:=(yY ha).1
 have lb:=(yY hb).1
 have lt:=znE (a:=a) (b:=b)
 have hok:∀ p∈turned a b,pOk p=true:=fun p hp=>znF ha hb hp
 refine fnX (c:=za6) mixed za7 (by simp) rfl fun hg=>?_
 refine dr ?_
 repeat (refine c0 (ze1 W0 _ _ (by omega)) rfl ?_; first | refine dr ?_ | exact dz)
 intro hg1
 rw [diff]
 generalize turned a b=L at *
 refine dr ?_
 refine lz (σ:=Nat) 80 (fun k=>[(1,.c (eEnts b)),(6,.c (eStrs L)),(5,.c (eMarks ((L.take k).foldl (difP b) []))),(7,I k)]) (fun _=>[]) (fun k=>k≤L.length) (fun k=>L.length - k) 0 (by simp) ?_ ?_
 ·refine dr ?_
  trivial
 intro k hk
 have hlk:=zg7 (b:=b) (L.take k) []
 have hlk2:=List.length_take_le' k L
 simp only [List.length_nil] at hlk
 refine dr ?_
 refine cP ?_ ?_<;>intro h1
 ·have hk':k < L.length:=by omega
  have hp:=hok _ (List.getElem_mem hk')
  have hc:=jr W0 b L[k]
  have hn:=(yt hp).1.2
  have hpl:∀ m,(lput ((L.take k).foldl (difP b) []) m).length≤((L.take k).foldl (difP b) []).length+1:=fun m=>yy
  cases hx:get b L[k] with
  | none =>
   rw [hx] at hc
   refine dr ?_
   repeat (refine c0 hc rfl ?_; first | refine dr ?_ | exact dz)
   intro hg2
   refine dr ?_
   repeat ((first | refine c0 (jF W0 _) rfl ?_ | refine c0 (jq W0 _ _) rfl ?_); first | refine dr ?_ | exact dz)
   intro hg3
   refine cP ?_ ?_<;>intro h2
   ·refine dEr ?_
    repeat ((first | refine c0 (ju W0 _ ⟨L[k],3,[]⟩ (by omega)) rfl ?_ | refine c0 (jv W0 3 _ _ hp hn (by have:=hpl ⟨L[k],3,[]⟩; omega)) rfl ?_); first | refine dEr ?_ | exact dz)
    refine ⟨k+1,by omega,by omega,?_⟩
    refine dr ?_
    repeat (refine oB (by rw [jX hk',difP,difM,hx]; simp only [if_pos h2]; rfl) ?_; first | refine dr ?_ | exact dz)
    trivial
   ·refine dr ?_
    refine ⟨k+1,by omega,by omega,?_⟩
    refine dr ?_
    repeat (refine oB (by rw [jX hk',difP,difM,hx]; simp [h2]) ?_; first | refine dr ?_ | exact dz)
    trivial
  | some e =>
   rw [hx] at hc
   refine dr ?_
   repeat (refine c0 hc rfl ?_; first | refine dr ?_ | exact dz)
   intro hg2
   refine dr ?_
   refine cP ?_ ?_<;>intro h2
   ·refine dEr ?_
    repeat ((first | refine c0 (ju W0 _ ⟨L[k],2,e.data⟩ (by omega)) rfl ?_ | refine c0 (jv W0 3 _ _ hp hn (by have:=hpl ⟨L[k],2,e.data⟩; omega)) rfl ?_); first | refine dEr ?_ | exact dz)
    refine ⟨k+1,by omega,by omega,?_⟩
    refine dr ?_
    repeat (refine oB (by rw [jX hk',difP,difM,hx]; simp only [if_pos h2]; rfl) ?_; first | refine dr ?_ | exact dz)
    trivial
   ·refine dEr ?_
    repeat ((first | refine c0 (ju W0 _ ⟨L[k],1,e.data⟩ (by omega)) rfl ?_ | refine c0 (jv W0 3 _ _ hp hn (by have:=hpl ⟨L[k],1,e.data⟩; omega)) rfl ?_); first | refine dEr ?_ | exact dz)
    refine ⟨k+1,by omega,by omega,?_⟩
    refine dr ?_
    repeat (refine oB (by rw [jX hk',difP,difM,hx]; simp [h2]; rfl) ?_; first | refine dr ?_ | exact dz)
    trivial
 have hkl:k=L.length:=by omega
 refine dr ?_
 rw [hkl,List.take_length]

def zbu:XC:=(.s (.r [.ex 1 (.box 0),.ex 2 (.asn (.k .nil) 3 39),.m1 3 .n]) (.s (.r [.f1 7 0 1,.l1 8 1 7,.a1 4 8 3 39]) (.s (.s (.r [.mv 9 4,.c1 10 119 [9],.ex 11 (.un .not 10),.mv 12 11,.gf 13 (.fa 1 1) 12,.gf 14 (.ld false 1 13) 12,.gf 15 (.len false 14) 12,.gf 16 (.bin .gtr 15 (.i 4)) 12,.ex 17 (.pick 12 .y 16)]) (.cnd 17 (.s (.r [.ex 18 .bsl0,.a1 2 18 3 39,.m1 3 .n]) .ret) .skip)) (.s (.s (.r [.m1 5 (.i 0)]) (.blk 0 (.loop (.s (.s (.r [.mv 19 5,.f1 20 1 1,.l1 21 1 20,.n1 22 21,.b1 23 .lss 19 22]) (.cnd 23 .skip (.exit 0))) (.s (.blk 1 (.s (.r [.m1 6 .n]) (.s (.r [.f1 27 1 1,.l1 28 1 27,.mv 29 5,.i1 30 1 28 29,.l1 31 1 30,.mv 32 4,.c1 33 111 [31,32],.mv 26 33,.e1 34 26 0,.e1 35 26 1,.a1 4 34 3 39,.mv 6 35]) (.s (.r [.mv 36 6,.ex 37 (.un .not 36)]) (.cnd 37 (.s (.r [.ex 38 .bsl0,.a1 2 38 3 39,.m1 3 .n]) .ret) .skip))))) (.r [.mv 24 5,.b1 25 .add 24 (.i 1),.mv 5 25])))))) (.s (.r [.ex 39 .bsl0,.mv 40 4,.ex 41 (.app true 3 40 39 39 40),.a1 2 41 3 39,.m1 3 .y]) .ret)))))
theorem zbv:compF Tryz.prog [] 74=some (zbu.ac,[(.t 2),(.t 3)],42):=by kernel_rfl
theorem zfe (W0:World) (o:Over):Fn Tryz.prog W0 74 [eOver o] (.c (eEntsO (lower4 o))) []:=by
 refine fnX (c:=zbu) mixed zbv (by simp) rfl fun hg=>?_
 refine dEr ?_
 repeat (refine c0 (zgg W0 _) rfl ?_; first | refine dEr ?_ | exact dz)
 refine cP ?_ ?_<;>intro h1
 ·refine dr ?_
  rw [lower4,if_neg (by simp [h1])]; rfl
 refine dr ?_
 refine cP ?_ ?_<;>intro h2
 ·refine dr ?_
  rw [lower4,if_neg (by omega)]; rfl
 rw [lower4,if_pos ⟨h1,by omega⟩]
 refine dr ?_
 refine lp2 (fun (k:Nat) (t:List Ent)=>[(1,.ptr 16 0),(4,.c (eEnts t)),(5,I k)]) (fun _ _=>[(16,.box [.c (eEnts o.base),.c (eMarkss o.layers),.c (eMarks o.upper)])]) (fun k t=>k≤o.layers.length∧lowerA (o.layers.take k) o.base=some t∧tOk t=true) (fun k _=>o.layers.length - k) 0 o.base ⟨by simp,rfl,h1⟩ ?_ ?_
 ·refine dr ?_
  trivial
 rintro k t ⟨hk,ha,ht⟩
 refine dr ?_
 refine cP ?_ ?_<;>intro h3
 ·have hk':k < o.layers.length:=by omega
  have hn:lowerA (o.layers.take (k+1)) o.base=lOn o.layers[k] t:=by
   rw [List.take_succ_eq_append_getElem hk',qK,ha]
   simp only [lowerA]
   cases lOn o.layers[k] t<;>rfl
  have hc:=zf6 W0 o.layers[k] t
  cases hx:lOn o.layers[k] t with
  | none =>
   rw [hx] at hc
   refine dr ?_
   repeat (refine c0 hc rfl ?_; first | refine dr ?_ | exact dz)
   intro hg1
   refine dr ?_
   have:lowerA o.layers o.base=none:=by
    have e:o.layers=o.layers.take (k+1)++o.layers.drop (k+1):=by rw [List.take_append_drop]
    rw [e,qK,hn,hx]
   rw [this]; rfl
  | some t' =>
   rw [hx] at hc
   refine dr ?_
   repeat (refine c0 hc rfl ?_; first | refine dr ?_ | exact dz)
   intro hg1
   refine dr ?_
   refine ⟨k+1,t',⟨by omega,by rw [hn,hx],qp hx⟩,by omega,?_⟩
   refine dr ?_
   trivial
 have hkl:k=o.layers.length:=by omega
 rw [hkl,List.take_length] at ha
 have hl:=(yY ht).1
 refine dr ?_
 repeat (refine oB (by simp; omega) ?_; first | refine dr ?_ | exact dz)
 rw [ha]; rfl
def zby:XC:=(.s (.r [.ex 1 (.box 0),.ex 2 (.asn (.k .nil) 3 39),.m1 3 .n]) (.s (.r [.l2 7 3 1,.c1 8 74 [7],.mv 6 8,.e1 9 6 0,.e1 10 6 1,.a1 4 9 3 39,.mv 5 10]) (.s (.s (.r [.mv 11 5,.ex 12 (.un .not 11)]) (.cnd 12 (.s (.r [.ex 13 .bsl0,.a1 2 13 3 39,.m1 3 .n]) .ret) .skip)) (.s (.r [.f1 14 2 1,.l1 15 1 14,.mv 16 4,.c1 17 111 [15,16],.e1 18 17 0,.e1 19 17 1,.a1 2 18 3 39,.mv 3 19]) .ret))))
theorem zbz:compF Tryz.prog [] 69=some (zby.ac,[(.t 2),(.t 3)],20):=by kernel_rfl
theorem jx (W0:World) (o:Over):Fn Tryz.prog W0 69 [eOver o] (.c (eEntsO (view4 o))) []:=by
 refine fnX (c:=zby) mixed zbz (by simp) rfl fun hg=>?_
 have hc:=zfe W0 o
 cases hx:lower4 o with
 | none =>
  rw [hx] at hc
  refine dr ?_
  repeat (refine c0 hc rfl ?_; first | refine dr ?_ | exact dz)
  intro hg1
  refine dr ?_
  rw [view4,hx]; rfl
 | some t =>
  rw [hx] at hc
  have hv:view4 o=lOn o.upper t:=by rw [view4,hx]
  have hc2:=zf6 W0 o.upper t
  rw [hv]
  cases hy:lOn o.upper t with
  | none =>
   rw [hy] at hc2
   refine dr ?_
   repeat (refine c0 hc rfl ?_; first | refine dr ?_ | exact dz)
   intro hg1
   refine dr ?_
   repeat (refine c0 hc2 rfl ?_; first | refine dr ?_ | exact dz)
   intro hg2
   refine dr ?_
   rfl
  | some x =>
   rw [hy] at hc2
   refine dr ?_
   repeat (refine c0 hc rfl ?_; first | refine dr ?_ | exact dz)
   intro hg1
   refine dr ?_
   repeat (refine c0 hc2 rfl ?_; first | refine dr ?_ | exact dz)
   intro hg2
   refine dr ?_
   rfl
def YE:XC:=(.s (.r [.ex 1 (.box 0),.m1 2 .n]) (.s (.r [.l2 8 3 1,.c1 9 74 [8],.mv 7 9,.e1 10 7 0,.e1 11 7 1,.a1 3 10 3 39,.mv 4 11]) (.s (.r [.l2 13 3 1,.c1 14 69 [13],.mv 12 14,.e1 15 12 0,.e1 16 12 1,.a1 5 15 3 39,.mv 6 16]) (.s (.d [.mv 17 4,.mv 18 17,.gt 19 (.mv 6) 18,.ex 20 (.pick 18 19 .n),.mv 21 20,.gt 22 (.fa 2 1) 21,.gt 23 (.ld false 1 22) 21,.gt 24 (.mv 3) 21,.gt 25 (.mv 5) 21,.gt 26 (.call 76 [24,25]) 21,.gt 27 (.call 75 [23,26]) 21,.ex 28 (.pick 21 27 .n),.mv 2 28]) .ret))))
theorem YF:compF Tryz.prog [] 25=some (YE.ac,[(.t 2)],29):=by kernel_rfl
theorem jD (W0:World) (o:Over):Fn Tryz.prog W0 25 [eOver o] (.c (CB (oOk o))) []:=by
 refine fnX (c:=YE) mixed YF (by simp) rfl fun hg=>?_
 have hc:=zfe W0 o
 have hc2:=jx W0 o
 cases hx:lower4 o with
 | none =>
  have hv:view4 o=none:=by rw [view4,hx]
  rw [hx] at hc
  rw [hv] at hc2
  refine dr ?_
  repeat (refine c0 hc rfl ?_; first | refine dr ?_ | exact dz)
  intro hg1
  refine dr ?_
  repeat (refine c0 hc2 rfl ?_; first | refine dr ?_ | exact dz)
  intro hg2
  refine dr ?_
  rw [oOk,hx]
 | some t =>
  rw [hx] at hc
  cases hy:view4 o with
  | none =>
   rw [hy] at hc2
   refine dr ?_
   repeat (refine c0 hc rfl ?_; first | refine dr ?_ | exact dz)
   intro hg1
   refine dr ?_
   repeat (refine c0 hc2 rfl ?_; first | refine dr ?_ | exact dz)
   intro hg2
   refine dr ?_
   rw [oOk,hx,hy]
  | some x =>
   rw [hy] at hc2
   refine dr ?_
   repeat (refine c0 hc rfl ?_; first | refine dr ?_ | exact dz)
   intro hg1
   refine dr ?_
   repeat (refine c0 hc2 rfl ?_; first | refine dr ?_ | exact dz)
   intro hg2
   refine dr ?_
   repeat ((first | refine c0 (ze4 W0 t x (zi6 hx) (Zf hy)) rfl ?_ | refine c0 (zf7 W0 _ _) rfl ?_); first | refine dr ?_ | exact dz)
   intro hg3
   refine dr ?_
   rw [oOk,hx,hy]
def YK:XC:=(.s (.r [.ex 1 (.box 0),.ex 2 (.asn (.k .nil) 3 39),.m1 3 .n]) (.s (.s (.r [.l2 4 3 1,.c1 5 25 [4],.ex 6 (.un .not 5)]) (.cnd 6 (.s (.r [.ex 7 .bsl0,.a1 2 7 3 39,.m1 3 .n]) .ret) .skip)) (.s (.r [.l2 8 3 1,.c1 9 69 [8],.e1 10 9 0,.e1 11 9 1,.a1 2 10 3 39,.mv 3 11]) .ret)))
theorem YL:compF Tryz.prog [] 62=some (YK.ac,[(.t 2),(.t 3)],12):=by kernel_rfl
theorem zgd (W0:World) (o:Over):Fn Tryz.prog W0 62 [eOver o] (.c (eEntsO (if oOk o=true then view4 o else none))) []:=by
 refine fnX (c:=YK) mixed YL (by simp) rfl fun hg=>?_
 refine dEr ?_
 repeat (refine c0 (jD W0 _) rfl ?_; first | refine dEr ?_ | exact dz)
 refine cP ?_ ?_<;>intro h1
 ·refine dr ?_
  rw [if_neg (by simp [h1])]; rfl
 rw [if_pos h1]
 have hc:=jx W0 o
 cases hy:view4 o with
 | none =>
  rw [hy] at hc
  refine dr ?_
  repeat (refine c0 hc rfl ?_; first | refine dr ?_ | exact dz)
  intro hg1
  refine dr ?_
  rfl
 | some x =>
  rw [hy] at hc
  refine dr ?_
  repeat (refine c0 hc rfl ?_; first | refine dr ?_ | exact dz)
  intro hg1
  refine dr ?_
  rfl

def za4:XC:=(.s (.r [.m1 4 (.i 0)]) (.s (.s (.r [.mv 5 0,.b1 6 .eql 5 (.i 2),.mv 7 6,.gt 8 (.mv 1) 7,.gt 9 (.bin .neq 8 (.i 0)) 7,.ex 10 (.pick 7 9 .n),.mv 11 10,.gt 12 (.mv 1) 11,.gt 13 (.bin .neq 12 (.i 2)) 11,.ex 14 (.pick 11 13 .n)]) (.cnd 14 (.s (.r [.m1 4 (.i 4)]) .ret) .skip)) (.s (.r [.mv 15 0,.mv 4 15]) .ret)))
theorem za5:compF Tryz.prog [] 246=some (za4.ac,[(.t 4)],16):=by kernel_rfl
theorem ze3 (W0:World) (a b:Int):Fn Tryz.prog W0 246 [CI a,CI b] (.c (CI (bothK a b))) []:=by
 refine fnX (c:=za4) mixed za5 (by simp) rfl fun hg=>?_
 refine dr ?_
 refine cP ?_ ?_<;>intro h1
 ·refine dr ?_
  refine cP ?_ ?_<;>intro h2
  ·refine dr ?_
   refine cP ?_ ?_<;>intro h3
   ·refine dr ?_
    exact congrArg CI (by rw [bothK,if_pos ⟨h1,h2,h3⟩])
   ·refine dr ?_
    exact congrArg CI (by rw [bothK,if_neg (fun h=>h.2.2 h3)])
  ·refine dr ?_
   exact congrArg CI (by rw [bothK,if_neg (fun h=>h.2.1 h2)])
 ·refine dr ?_
  exact congrArg CI (by rw [bothK,if_neg (fun h=>h1 h.1)])
def zbo:XC:=(.s (.r [.ex 2 (.asn (.k .nil) 3 133)]) (.s (.r [.ex 6 .bsl0,.a1 3 6 3 133]) (.s (.s (.r [.m1 4 (.i 0)]) (.blk 0 (.loop (.s (.s (.r [.mv 7 4,.mv 8 0,.n1 9 8,.b1 10 .lss 7 9]) (.cnd 10 .skip (.exit 0))) (.s (.blk 1 (.s (.r [.mv 13 0,.mv 14 4,.i1 15 3 13 14,.l2 16 3 15,.ex 5 (.alloc [sE,(I 0),sE]),.s1 3 5 16]) (.s (.s (.r [.mv 17 3,.f1 18 0 5,.l1 19 1 18,.c1 20 206 [17,19]]) (.cnd 20 (.s (.s (.r [.f1 21 1 5,.l1 22 1 21,.b1 23 .eql 22 (.i 3)]) (.cnd 23 (.exit 1) .skip)) (.s (.r [.f1 24 1 5,.l1 25 1 24,.b1 26 .eql 25 (.i 4)]) (.cnd 26 (.r [.f1 27 1 5,.nu (.st 1 27 (.i 2))]) .skip))) .skip)) (.r [.mv 28 3,.l2 29 3 5,.ex 30 (.bsl 3 133 [29]),.ex 31 (.app false 3 40 133 28 30),.a1 3 31 3 133])))) (.r [.mv 11 4,.b1 12 .add 11 (.i 1),.mv 4 12])))))) (.s (.r [.mv 32 3,.a1 2 32 3 133]) .ret))))
theorem zbp:compF Tryz.prog [] 228=some (zbo.ac,[(.t 2)],33):=by kernel_rfl
theorem znn {out:List Mark} {m:Mark}:(tidyF out m).length≤out.length+1:=by
 unfold tidyF; split
 ·split<;>simp
 ·simp
theorem zfc (W0:World) (l:List Mark) (hl:l.length≤1000000):Fn Tryz.prog W0 228 [eMarks l] (.c (eMarks (l.foldl tidyF []))) []:=by
 refine fnX (c:=zbo) mixed zbp (by simp) rfl fun hg=>?_
 refine dr ?_
 refine lp2 (fun (k:Nat) (out:List Mark)=>[(0,.c (eMarks l)),(3,.own 48 out.length),(4,I k)]) (fun _ out=>[(48,.row (out.map eMark) 3 133)]) (fun k out=>k≤l.length∧out=(l.take k).foldl tidyF []∧out.length≤k) (fun k _=>l.length - k) 0 [] ⟨by simp,rfl,by simp⟩ ?_ ?_
 ·refine dr ?_
  trivial
 rintro k out ⟨hk,ho,hle⟩
 refine dr ?_
 refine cP ?_ ?_<;>intro h1
 ·have hk':k < l.length:=by omega
  have hn:(l.take (k+1)).foldl tidyF []=tidyF out l[k]:=by rw [jX hk',← ho]
  have hn2:(tidyF out l[k]).length≤k+1:=by have:=znn (out:=out) (m:=l[k]); omega
  refine dr ?_
  repeat (refine c0 (jt W0 out _) rfl ?_; first | refine dr ?_ | exact dz)
  refine cP ?_ ?_<;>intro h2
  ·refine dr ?_
   refine cP ?_ ?_<;>intro h3
   ·refine dr ?_
    have e:tidyF out l[k]=out:=by rw [tidyF,if_pos h2,if_pos h3]
    refine ⟨k+1,out,⟨by omega,by rw [hn,e],by omega⟩,by omega,?_⟩
    refine dr ?_
    trivial
   ·refine dr ?_
    refine cP ?_ ?_<;>intro h4
    ·refine dr ?_
     repeat ((first | refine oB (by simp; omega) ?_ | refine oB (by simp) ?_); first | refine dr ?_ | exact dz)
     have e:tidyF out l[k]=out++[⟨l[k].path,2,l[k].data⟩]:=by rw [tidyF,if_pos h2,if_neg h3,if_pos h4]
     refine ⟨k+1,out++[⟨l[k].path,2,l[k].data⟩],⟨by omega,by rw [hn,e],by simp; omega⟩,by omega,?_⟩
     refine dr ?_
     repeat (refine oB (by simp<;>rfl) ?_; first | refine dr ?_ | exact dz)
     trivial
    ·refine dr ?_
     repeat ((first | refine oB (by simp; omega) ?_ | refine oB (by simp) ?_); first | refine dr ?_ | exact dz)
     have e:tidyF out l[k]=out++[l[k]]:=by rw [tidyF,if_pos h2,if_neg h3,if_neg h4]
     refine ⟨k+1,out++[l[k]],⟨by omega,by rw [hn,e],by simp; omega⟩,by omega,?_⟩
     refine dr ?_
     repeat (refine oB (by simp<;>rfl) ?_; first | refine dr ?_ | exact dz)
     trivial
  ·refine dr ?_
   repeat ((first | refine oB (by simp; omega) ?_ | refine oB (by simp) ?_); first | refine dr ?_ | exact dz)
   have e:tidyF out l[k]=out++[l[k]]:=by rw [tidyF,if_neg (by simp [h2])]
   refine ⟨k+1,out++[l[k]],⟨by omega,by rw [hn,e],by simp; omega⟩,by omega,?_⟩
   refine dr ?_
   repeat (refine oB (by simp<;>rfl) ?_; first | refine dr ?_ | exact dz)
   trivial
 have hkl:k=l.length:=by omega
 rw [hkl,List.take_length] at ho
 refine dr ?_
 repeat (refine oB (by simp) ?_; first | refine dr ?_ | exact dz)
 rw [ho]; rfl
def zbe:XC:=(.s (.r [.ex 4 (.asn (.k .nil) 3 133)]) (.s (.r [.ex 9 .bsl0,.a1 5 9 3 133]) (.s (.s (.r [.m1 6 (.i 0)]) (.blk 0 (.loop (.s (.s (.r [.mv 10 6,.mv 11 1,.n1 12 11,.b1 13 .lss 10 12]) (.cnd 13 .skip (.exit 0))) (.s (.blk 1 (.s (.r [.mv 16 0,.mv 17 1,.mv 18 6,.i1 19 3 17 18,.f1 20 0 19,.l1 21 1 20,.c1 22 207 [16,21],.ex 23 (.un .not 22),.mv 24 23,.gt 25 (.mv 0) 24,.gt 26 (.mv 1) 24,.gt 27 (.mv 6) 24,.gt 28 (.ia 3 26 27) 24,.gt 29 (.fa 0 28) 24,.gt 30 (.ld false 1 29) 24,.gt 31 (.call 181 [25,30]) 24,.gt 32 (.bin .eql 31 (.i 0)) 24,.ex 33 (.pick 24 32 .n)]) (.cnd 33 (.r [.mv 34 5,.mv 35 1,.mv 36 6,.i1 37 3 35 36,.l2 38 3 37,.c1 39 125 [34,38],.a1 5 39 3 133]) .skip))) (.r [.mv 14 6,.b1 15 .add 14 (.i 1),.mv 6 15])))))) (.s (.s (.r [.m1 7 (.i 0)]) (.blk 2 (.loop (.s (.s (.r [.mv 40 7,.mv 41 0,.n1 42 41,.b1 43 .lss 40 42]) (.cnd 43 .skip (.exit 2))) (.s (.blk 3 (.s (.r [.mv 46 0,.mv 47 7,.i1 48 3 46 47,.l2 49 3 48,.ex 8 (.alloc [sE,(I 0),sE]),.s1 3 8 49]) (.s (.d [.f1 50 1 8,.l1 51 1 50,.mv 52 1,.f1 53 0 8,.l1 54 1 53,.c1 55 181 [52,54],.c1 56 246 [51,55],.f1 57 1 8,.s1 1 57 56]) (.r [.mv 58 5,.l2 59 3 8,.c1 60 125 [58,59],.a1 5 60 3 133])))) (.r [.mv 44 7,.b1 45 .add 44 (.i 1),.mv 7 45])))))) (.s (.r [.mv 61 5,.a1 4 61 3 133]) .ret)))))
theorem zbf:compF Tryz.prog [] 229=some (zbe.ac,[(.t 4)],62):=by kernel_rfl
theorem ze8 (W0:World) (a b:List Mark) (hl:a.length+b.length≤1000000):Fn Tryz.prog W0 229 [eMarks a,eMarks b] (.c (eMarks (join0 a b))) []:=by
 refine fnX (c:=zbe) mixed zbf (by simp) rfl fun hg=>?_
 refine dr ?_
 refine lz2 80 (fun (k:Nat) (out:List Mark)=>[(0,.c (eMarks a)),(1,.c (eMarks b)),(5,.c (eMarks out)),(6,I k)]) (fun _ _=>[]) (fun k out=>k≤b.length∧out=((b.take k).filter (joinB a)).foldl lput []∧out.length≤k) (fun k _=>b.length - k) 0 [] ⟨by simp,rfl,by simp⟩ ?_ ?_
 ·refine dr ?_
  trivial
 rintro k out ⟨hk,ho,hle⟩
 refine dr ?_
 refine cP ?_ ?_<;>intro h1
 ·have hk':k < b.length:=by omega
  have no:joinB a b[k]=false→out=((b.take (k+1)).filter (joinB a)).foldl lput []:=fun h=>by rw [jJ hk' h,ho]
  have yes:joinB a b[k]=true→lput out b[k]=((b.take (k+1)).filter (joinB a)).foldl lput []:=fun h=>by rw [jK hk' h,List.foldl_append,← ho]; rfl
  refine dEr ?_
  repeat (refine c0 (ze6 W0 _ _) rfl ?_; first | refine dEr ?_ | exact dz)
  refine cP ?_ ?_<;>intro h2
  ·refine dEr ?_
   repeat (refine c0 (ze9 W0 _ _) rfl ?_; first | refine dEr ?_ | exact dz)
   refine cP ?_ ?_<;>intro h3
   ·have hpl:(lput out b[k]).length≤out.length+1:=yy
    refine dEr ?_
    repeat (refine c0 (ju W0 _ b[k] (by omega)) rfl ?_; first | refine dEr ?_ | exact dz)
    refine ⟨k+1,lput out b[k],⟨by omega,yes (by simp [joinB,h2,h3]),by omega⟩,by omega,?_⟩
    refine dr ?_
    trivial
   ·refine dr ?_
    refine ⟨k+1,out,⟨by omega,no (by simp [joinB,h3]),by omega⟩,by omega,?_⟩
    refine dr ?_
    trivial
  ·refine dr ?_
   refine ⟨k+1,out,⟨by omega,no (by simp [joinB,h2]),by omega⟩,by omega,?_⟩
   refine dr ?_
   trivial
 have hkl:k=b.length:=by omega
 rw [hkl,List.take_length] at ho
 have hj:join0 a b=(a.map (joinM b)).foldl lput out:=by rw [join0,ho]
 rw [hj]
 have hob:out.length≤b.length:=by omega
 clear ho hk hle hj h1 hkl
 generalize hoo:out=o0 at *
 refine dr ?_
 refine lp2 (fun (k:Nat) (out:List Mark)=>[(0,.c (eMarks a)),(1,.c (eMarks b)),(5,.c (eMarks out)),(7,I k)]) (fun _ _=>[]) (fun k out=>k≤a.length∧out=((a.take k).map (joinM b)).foldl lput o0∧out.length≤o0.length+k) (fun k _=>a.length - k) 0 o0 ⟨by simp,rfl,by simp⟩ ?_ ?_
 ·refine dr ?_
  trivial
 clear hoo
 rintro k out ⟨hk,ho,hle⟩
 refine dr ?_
 refine cP ?_ ?_<;>intro h1
 ·have hk':k < a.length:=by omega
  have hn:((a.take (k+1)).map (joinM b)).foldl lput o0=lput out (joinM b a[k]):=by
   rw [List.take_succ_eq_append_getElem hk',List.map_append,List.foldl_append,← ho]; rfl
  have hpl:(lput out (joinM b a[k])).length≤out.length+1:=yy
  refine dEr ?_
  repeat ((first | refine c0 (ze9 W0 _ _) rfl ?_ | refine c0 (ze3 W0 _ _) rfl ?_ | refine c0 (ju W0 _ (joinM b a[k]) (by omega)) rfl ?_); first | refine dEr ?_ | exact dz)
  refine ⟨k+1,_,⟨by omega,hn.symm,by omega⟩,by omega,?_⟩
  refine dr ?_
  trivial
 have hkl:k=a.length:=by omega
 rw [hkl,List.take_length] at ho
 refine dr ?_
 rw [ho]
def Yq:XC:=(.s (.r [.ex 4 (.asn (.k .nil) 3 133),.m1 5 .n]) (.s (.s (.r [.mv 7 0,.c1 8 171 [7],.ex 9 (.un .not 8),.mv 10 9,.gf 11 (.mv 1) 10,.gf 12 (.call 171 [11]) 10,.gf 13 (.un .not 12) 10,.ex 14 (.pick 10 .y 13)]) (.cnd 14 (.s (.r [.ex 15 .bsl0,.a1 4 15 3 133,.m1 5 .n]) .ret) .skip)) (.s (.r [.mv 16 0,.mv 17 1,.c1 18 229 [16,17],.c1 19 228 [18],.a1 6 19 3 133]) (.s (.s (.r [.mv 20 6,.n1 21 20,.b1 22 .gtr 21 (.i 32)]) (.cnd 22 (.s (.r [.ex 23 .bsl0,.a1 4 23 3 133,.m1 5 .n]) .ret) .skip)) (.s (.r [.mv 24 6,.a1 4 24 3 133,.m1 5 .y]) .ret)))))
theorem Yr:compF Tryz.prog [] 192=some (Yq.ac,[(.t 4),(.t 5)],25):=by kernel_rfl
theorem zf5 (W0:World) (a b:List Mark):Fn Tryz.prog W0 192 [eMarks a,eMarks b] (.c (eMarksO (lJoin a b))) []:=by
 refine fnX (c:=Yq) mixed Yr (by simp) rfl fun hg=>?_
 refine dEr ?_
 repeat (refine c0 (jC W0 _) rfl ?_; first | refine dEr ?_ | exact dz)
 refine cP ?_ ?_<;>intro h1
 ·refine dEr ?_
  rw [lJoin,if_neg (by simp [h1])]; rfl
 refine dEr ?_
 repeat (refine c0 (jC W0 _) rfl ?_; first | refine dEr ?_ | exact dz)
 refine cP ?_ ?_<;>intro h2
 ·refine dr ?_
  rw [lJoin,if_neg (by simp [h2])]; rfl
 have ga:=LG.of h1
 have gb:=LG.of h2
 have hla:=(qn.1 h1).1
 have hlb:=(qn.1 h2).1
 have hjl:(join0 a b).length≤1000000:=by
  have e1:(join0 a b).length≤((b.filter (joinB a)).foldl lput []).length+(a.map (joinM b)).length:=jY (key:=Mark.path) (a.map (joinM b)) ((b.filter (joinB a)).foldl lput [])
  have e2:((b.filter (joinB a)).foldl lput []).length≤0+(b.filter (joinB a)).length:=jY (key:=Mark.path) (b.filter (joinB a)) []
  have e3:=List.length_filter_le (joinB a) b
  rw [List.length_map] at e1
  omega
 have hc:=zfc W0 (join0 a b) hjl
 rw [zns (qj ga gb)] at hc
 have e:lJoin a b=if (joinL a b).length≤32 then some (joinL a b) else none:=by rw [lJoin,if_pos (by simp [h1,h2])]
 rw [e]
 unfold joinL at *
 refine dr ?_
 repeat ((first | refine c0 (ze8 W0 _ _ (by omega)) rfl ?_ | refine c0 hc rfl ?_); first | refine dr ?_ | exact dz)
 intro hg3 hg4
 refine dr ?_
 refine cP ?_ ?_<;>intro h3
 ·refine dr ?_
  rw [if_neg (by omega)]; rfl
 ·refine dr ?_
  rw [if_pos (by omega)]; rfl

theorem aCode {k:Int} {s:Str} {K:CV→Prop} (h1:0≤k) (h2:k < s.length) (h:∀ n:Int,0≤n→n≤255→K (CU n)):AtX k (s.map fun b=>CU b.toNat) K:=by
 have hk:k.toNat < s.length:=by omega
 refine ⟨k.toNat,by omega,_,?_,h (s[k.toNat].toNat:Int) (by omega) ?_⟩
 ·rw [List.getElem?_map,List.getElem?_eq_getElem hk]; rfl
 ·have:=UInt8.toNat_lt s[k.toNat]; omega
theorem aX {α:Type} {f:α→CV} {L:List α} {k:Int} {K:CV→Prop} (h1:0≤k) (h2:k < L.length) (h:∀ x∈L,K (f x)):AtX k (L.map f) K:=by
 have hk:k.toNat < L.length:=by omega
 exact ⟨k.toNat,by omega,_,by rw [List.getElem?_map,List.getElem?_eq_getElem hk]; rfl,h _ (List.getElem_mem hk)⟩
theorem zob {a b:Int} (ha:0≤a) (ha2:a < 4611686018427387904) (hb:0≤b) (hb2:b < 4611686018427387904):0≤IntKind.wrap .i64 ((BitVec.ofInt (IntKind.bits .i64) a ^^^ BitVec.ofInt (IntKind.bits .i64) b).toNat:Int):=by
 have e:∀ x:Int,0≤x→x < 4611686018427387904→(BitVec.ofInt 64 x).toNat=x.toNat:=fun x h1 h2=>by
  rw [BitVec.toNat_ofInt]; omega
 show 0≤IntKind.wrap .i64 ((BitVec.ofInt 64 a ^^^ BitVec.ofInt 64 b).toNat:Int)
 rw [BitVec.toNat_xor,e a ha ha2,e b hb hb2]
 have h:a.toNat ^^^ b.toNat < 2 ^ 62:=Nat.xor_lt_two_pow (by omega) (by omega)
 rw [zoa (by omega)]
 omega
theorem retI {k0:List Nat} {m:XM} {ok:Int→Prop} {M:Int→XM} {x:Int} (h:ok x) (hk:KeepX k0 none [(0,.c (CI x))] m [(0,.c (CI x))] (M x)):RetX k0 (.c (CI x)) m (fun r mx=>∃ a,ok a∧r = .c (CI a)∧mx=M a):=⟨none,_,_,hk,x,h,rfl,rfl⟩
theorem cutp2 {k0:List Nat} {a:(Fr→XM→Prop)→Fr→XM→Prop} {b:Fr→XM→Prop} {F:Fr} {m:XM} {α β:Type} (fr:α→β→Fr) (mm:α→β→XM) (inv:α→β→Prop)
  (ha:a (fun F' m'=>∃ x y,inv x y∧KeepX k0 none F' m' (fr x y) (mm x y)) F m) (hb:∀ x y,inv x y→b (fr x y) (mm x y)):CutX k0 a b F m :=
 ⟨α × β,fun x=>fr x.1 x.2,fun x=>mm x.1 x.2,fun x=>inv x.1 x.2,none,fun F' m'=>∃ x y,inv x y∧KeepX k0 none F' m' (fr x y) (mm x y),ha,fun _ _ ⟨x,y,h⟩=>⟨(x,y),h⟩,fun x h=>hb x.1 x.2 h⟩
theorem lz3 {k0:List Nat} {body:(Fr→XM→Prop)→Fr→XM→Prop} {F:Fr} {m:XM} {α β γ:Type} (z:Nat) (fr:α→β→γ→Fr) (mm:α→β→γ→XM) (inv:α→β→γ→Prop) (me:α→β→γ→Nat) (a0:α) (b0:β) (c0:γ) (h0:inv a0 b0 c0) (hk:KeepX k0 (some z) F m (fr a0 b0 c0) (mm a0 b0 c0))
  (hb:∀ a b c,inv a b c→body (fun F' m'=>∃ a' b' c',inv a' b' c'∧me a' b' c' < me a b c∧KeepX k0 none F' m' (fr a' b' c') (mm a' b' c')) (fr a b c) (mm a b c)):LoopX k0 body F m :=
 ⟨α × β × γ,fun x=>fr x.1 x.2.1 x.2.2,fun x=>mm x.1 x.2.1 x.2.2,fun x=>inv x.1 x.2.1 x.2.2,fun x=>me x.1 x.2.1 x.2.2,some z,none,fun x F' m'=>∃ a' b' c',inv a' b' c'∧me a' b' c' < me x.1 x.2.1 x.2.2∧KeepX k0 none F' m' (fr a' b' c') (mm a' b' c'),
  ⟨(a0,b0,c0),h0,hk⟩,fun _ _ _ ⟨a,b,c,h⟩=>⟨(a,b,c),h⟩,fun x h=>hb x.1 x.2.1 x.2.2 h⟩
abbrev Rd (s:Str) (p:Int):XM:=[(1,.box [.c (eCode s),.c (CI p)])]
def Ye:XC:=(.s (.r [.m1 4 (.i 0)]) (.s (.r [.mv 7 0,.mv 8 0,.ex 9 (.nck 8),.f1 10 1 9,.l1 11 1 10,.b1 12 .add 11 (.i 1),.ex 13 (.nck 7),.f1 14 1 13,.s1 1 14 12]) (.s (.s (.r [.mv 15 1,.b1 16 .lss 15 (.i 1),.mv 17 16,.gf 18 (.mv 0) 17,.gf 19 (.nck 18) 17,.gf 20 (.fa 0 19) 17,.gf 21 (.ld false 1 20) 17,.gf 22 (.len false 21) 17,.gf 23 (.bin .eql 22 (.i 0)) 17,.ex 24 (.pick 17 .y 23)]) (.cnd 24 (.s (.r [.m1 4 (.i 0)]) .ret) .skip)) (.s (.r [.mv 25 0,.ex 26 (.nck 25),.f1 27 1 26,.l1 28 1 27,.b1 29 .sub 28 (.i 1),.mv 5 29]) (.s (.s (.r [.mv 30 5,.mv 31 0,.ex 32 (.nck 31),.f1 33 0 32,.l1 34 1 33,.n1 35 34,.b1 36 .lss 30 35]) (.cnd 36 (.s (.r [.mv 37 0,.ex 38 (.nck 37),.f1 39 0 38,.l1 40 1 39,.mv 41 5,.i1 42 1 40 41,.l1 43 1 42,.ex 44 (.conv .i64 43),.mv 45 1,.b1 46 .rem 44 45,.mv 4 46]) .ret) .skip)) (.s (.d [.mv 47 0,.ex 48 (.nck 47),.f1 49 0 48,.l1 50 1 49,.mv 51 5,.mv 52 0,.ex 53 (.nck 52),.f1 54 0 53,.l1 55 1 54,.n1 56 55,.b1 57 .rem 51 56,.i1 58 1 50 57,.l1 59 1 58,.ex 60 (.conv .i64 59),.b1 61 .mul 60 (.i 131),.mv 62 0,.ex 63 (.nck 62),.f1 64 0 63,.l1 65 1 64,.mv 66 5,.b1 67 .mul 66 (.i 7),.b1 68 .add 67 (.i 3),.mv 69 0,.ex 70 (.nck 69),.f1 71 0 70,.l1 72 1 71,.n1 73 72,.b1 74 .rem 68 73,.i1 75 1 65 74,.l1 76 1 75,.ex 77 (.conv .i64 76),.b1 78 .mul 77 (.i 1117),.b1 79 .add 61 78,.mv 80 5,.b1 81 .mul 80 (.i 29),.b1 82 .add 79 81,.mv 83 5,.mv 84 0,.ex 85 (.nck 84),.f1 86 0 85,.l1 87 1 86,.n1 88 87,.b1 89 .quo 83 88,.b1 90 .mul 89 (.i 53),.b1 91 .add 82 90,.mv 6 91]) (.s (.r [.mv 92 6,.mv 93 6,.b1 94 .quo 93 (.i 64),.b1 95 .xor 92 94,.mv 6 95]) (.s (.r [.mv 96 6,.mv 97 1,.b1 98 .rem 96 97,.mv 4 98]) .ret))))))))
theorem Yf:compF Tryz.prog [] 38=some (Ye.ac,[(.t 4)],99):=by kernel_rfl
theorem jB (W0:World) (s:Str) (p n:Int) (hs:s.length≤2000) (hp:0≤p∧p≤1000000) (hn:n≤1000000) :
  FunW Tryz.prog W0 38 [.ptr 1 0,.c (CI n)] (Rd s p) (fun k:Int=>0≤k∧(1≤n→k < n)) (fun k => .c (CI k)) (fun _=>Rd s (p+1)):=by
 refine funW (c:=Ye) mixed Yf (by simp) rfl rfl fun hg=>?_
 refine dr ?_
 refine cP ?_ ?_<;>intro h1
 ·refine dr ?_
  refine retI (x:=0) ⟨by omega,by omega⟩ ?_
  refine dr ?_
  trivial
 refine dr ?_
 refine cP ?_ ?_<;>intro h2
 ·refine dr ?_
  refine retI (x:=0) ⟨by omega,by omega⟩ ?_
  refine dr ?_
  trivial
 have fin:∀ x:Int,0≤x % n∧(1≤n→x % n < n):=fun x=>⟨Int.emod_nonneg _ (by omega),fun _=>Int.emod_lt_of_pos _ (by omega)⟩
 have hl:0 < (s.length:Int):=by omega
 have hq:0≤(p+1 - 1) / (s.length:Int)∧(p+1 - 1) / (s.length:Int)≤p+1 - 1:=⟨Int.ediv_nonneg (by omega) (by omega),Int.ediv_le_self _ (by omega)⟩
 refine dr ?_
 refine cP ?_ ?_<;>intro h3
 ·refine dr ?_
  repeat (refine aCode (by omega) (by omega) fun v hv0 hv1=>?_; first | refine dr ?_ | exact dz)
  refine retI (fin v) ?_
  refine dr ?_
  trivial
 ·refine dr ?_
  repeat ((first | refine aCode (Int.emod_nonneg _ (by omega)) (Int.emod_lt_of_pos _ (by omega)) fun v hv0 hv1=>?_ | refine oB ⟨zob (by omega) (by omega) (by omega) (by omega),by omega,by omega⟩ ?_); first | refine dr ?_ | exact dz)
  refine retI (fin _) ?_
  refine dr ?_
  trivial
def zaa:XC:=(.s (.r [.ex 2 (.mv (.k .np))]) (.s (.s (.r [.mv 3 0,.n1 4 3,.b1 5 .gtr 4 (.i 2000)]) (.cnd 5 (.r [.mv 6 0,.ex 7 (.slr 1 6 .none (.some (.i 2000))),.a1 0 7 1 5]) .skip)) (.s (.r [.mv 8 0,.ex 9 (.build [.nil,(I 0)] [(0,(1,8))]),.ex 10 (.box 9),.mv 2 10]) .ret)))
theorem zab:compF Tryz.prog [] 33=some (zaa.ac,[(.t 2)],11):=by kernel_rfl
theorem zeG (W0:World) (s:Str):FunW Tryz.prog W0 33 [.c (eCode s)] [] (fun x:Str=>x.length≤2000) (fun _ => .ptr 160 0) (fun x=>[(160,.box [.c (eCode x),.c (CI 0)])]):=by
 refine funW (c:=zaa) mixed zab (by simp) rfl rfl fun hg=>?_
 refine dr ?_
 refine cP ?_ ?_<;>intro h1
 ·refine dr ?_
  repeat (refine sHiM 2000 rfl (by omega) ?_; first | refine dr ?_ | exact dz)
  refine ⟨none,_,_,?_,s.take 2000,by simp; omega,rfl,rfl⟩
  refine dr ?_
  trivial
 ·refine dr ?_
  refine ⟨none,_,_,?_,s,by omega,rfl,rfl⟩
  refine dr ?_
  trivial
theorem zeF (W0:World) (s:Str):FunW Tryz.prog W0 33 [.c (eCode s)] [] (fun x:Str=>x.length≤2000) (fun _ => .ptr 1 0) (fun x=>Rd x 0):=(zeG W0 s).swp 160 1
def Yg:XC:=(.s (.r [.m1 4 (.i 0)]) (.s (.r [.mv 5 1,.mv 6 0,.mv 7 1,.n1 8 7,.o1 9 38 [6,8],.i1 10 1 5 9,.l1 11 1 10,.mv 4 11]) .ret))
theorem Yh:compF Tryz.prog [38] 36=some (Yg.ac,[(.t 4)],12):=by kernel_rfl
theorem jA (W0:World) (s:Str) (p:Int) (l:List Int) (hs:s.length≤2000) (hp:0≤p∧p≤1000000) (hl:1≤l.length∧l.length≤1000) :
  FunW Tryz.prog W0 36 [.ptr 1 0,.c (eInts l)] (Rd s p) (fun x:Int=>x∈l) (fun x => .c (CI x)) (fun _=>Rd s (p+1)):=by
 refine funW (c:=Yg) mixed Yh (by simp) rfl rfl fun hg=>?_
 refine dr ?_
 refine oW (jB W0 s p l.length hs hp (by omega)) rfl ⟨rfl,trivial⟩ rfl rfl ⟨0,by omega,by omega⟩ fun k hk=>⟨rfl,?_⟩
 refine dr ?_
 refine aX hk.1 (hk.2 (by omega)) fun x hx=>?_
 refine dEr ?_
 refine ⟨none,_,_,?_,x,hx,rfl,rfl⟩
 refine dr ?_
 trivial
def Yi:XC:=(.s (.r [.ex 4 (.mv (.s []))]) (.s (.r [.mv 5 1,.mv 6 0,.mv 7 1,.n1 8 7,.o1 9 38 [6,8],.i1 10 1 5 9,.l1 11 1 10,.mv 4 11]) .ret))
theorem Yj:compF Tryz.prog [38] 95=some (Yi.ac,[(.t 4)],12):=by kernel_rfl
theorem f_of (W0:World) (s:Str) (p:Int) (l:List Str) (hs:s.length≤2000) (hp:0≤p∧p≤1000000) (hl:1≤l.length∧l.length≤1000) :
  FunW Tryz.prog W0 95 [.ptr 1 0,.c (eStrs l)] (Rd s p) (fun x:Str=>x∈l) (fun x => .c (CS x)) (fun _=>Rd s (p+1)):=by
 refine funW (c:=Yi) mixed Yj (by simp) rfl rfl fun hg=>?_
 refine dr ?_
 refine oW (jB W0 s p l.length hs hp (by omega)) rfl ⟨rfl,trivial⟩ rfl rfl ⟨0,by omega,by omega⟩ fun k hk=>⟨rfl,?_⟩
 refine dr ?_
 refine aX hk.1 (hk.2 (by omega)) fun x hx=>?_
 refine dEr ?_
 refine ⟨none,_,_,?_,x,hx,rfl,rfl⟩
 refine dr ?_
 trivial
def drawnPaths:List Str:=[[47,97],[47,98],[47,97,47,98],[47,97,47,99],[47,98,47,97],[47,97,98],[47,97,47,98,47,99],[47,97,47,98,47,97],[47,98,47,98],[47,99]]
def drawnData:List Str:=[[],[120],[121],[49,50],[97,98,99],[122,57]]
def zai:XC:=(.s (.r [.ex 2 (.mv (.s []))]) (.s (.r [.mv 3 0,.ex 4 (.bsl 1 9 [(.s [47,97]),(.s [47,98]),(.s [47,97,47,98]),(.s [47,97,47,99]),(.s [47,98,47,97]),(.s [47,97,98]),(.s [47,97,47,98,47,99]),(.s [47,97,47,98,47,97]),(.s [47,98,47,98]),(.s [47,99])]),.o1 5 95 [3,4],.mv 2 5]) .ret))
theorem zaj:compF Tryz.prog [95] 92=some (zai.ac,[(.t 2)],6):=by kernel_rfl
theorem jp (W0:World) (s:Str) (p:Int) (hs:s.length≤2000) (hp:0≤p∧p≤1000000) :
  FunW Tryz.prog W0 92 [.ptr 1 0] (Rd s p) (fun x:Str=>x∈drawnPaths) (fun x => .c (CS x)) (fun _=>Rd s (p+1)):=by
 refine funW (c:=zai) mixed zaj (by simp) rfl rfl fun hg=>?_
 refine dr ?_
 refine oW (f_of W0 s p drawnPaths hs hp (by decide)) rfl ⟨rfl,trivial⟩ rfl rfl ⟨_,List.mem_cons_self⟩ fun x hx=>⟨rfl,?_⟩
 refine dEr ?_
 refine ⟨none,_,_,?_,x,hx,rfl,rfl⟩
 refine dr ?_
 trivial
def zaU:XC:=(.s (.r [.ex 2 (.mv (.s []))]) (.s (.r [.mv 3 0,.ex 4 (.bsl 1 9 [(.s []),(.s [120]),(.s [121]),(.s [49,50]),(.s [97,98,99]),(.s [122,57])]),.o1 5 95 [3,4],.mv 2 5]) .ret))
theorem zaV:compF Tryz.prog [95] 173=some (zaU.ac,[(.t 2)],6):=by kernel_rfl
theorem zeZ (W0:World) (s:Str) (p:Int) (hs:s.length≤2000) (hp:0≤p∧p≤1000000) :
  FunW Tryz.prog W0 173 [.ptr 1 0] (Rd s p) (fun x:Str=>x∈drawnData) (fun x => .c (CS x)) (fun _=>Rd s (p+1)):=by
 refine funW (c:=zaU) mixed zaV (by simp) rfl rfl fun hg=>?_
 refine dr ?_
 refine oW (f_of W0 s p drawnData hs hp (by decide)) rfl ⟨rfl,trivial⟩ rfl rfl ⟨_,List.mem_cons_self⟩ fun x hx=>⟨rfl,?_⟩
 refine dEr ?_
 refine ⟨none,_,_,?_,x,hx,rfl,rfl⟩
 refine dr ?_
 trivial

theorem lq {k0:List Nat} {body:(Fr→XM→Prop)→Fr→XM→Prop} {F:Fr} {m:XM} {σ:Type} (fr:σ→Fr) (mm:σ→XM) (inv:σ→Prop) (me:σ→Nat) (x0:σ) (h0:inv x0) (hk:KeepX k0 (some 3) F m (fr x0) (mm x0))
  (hb:∀ x,inv x→body (fun F' m'=>∃ x',inv x'∧me x' < me x∧KeepX k0 (some 3) F' m' (fr x') (mm x')) (fr x) (mm x)):LoopX k0 body F m :=
 ⟨σ,fr,mm,inv,me,some 3,some 3,_,⟨x0,h0,hk⟩,fun _ _ _ h=>h,hb⟩
theorem lq3 {k0:List Nat} {body:(Fr→XM→Prop)→Fr→XM→Prop} {F:Fr} {m:XM} {α β γ:Type} (fr:α→β→γ→Fr) (mm:α→β→γ→XM) (inv:α→β→γ→Prop) (me:α→β→γ→Nat) (a0:α) (b0:β) (c0:γ) (h0:inv a0 b0 c0) (hk:KeepX k0 (some 3) F m (fr a0 b0 c0) (mm a0 b0 c0))
  (hb:∀ a b c,inv a b c→body (fun F' m'=>∃ a' b' c',inv a' b' c'∧me a' b' c' < me a b c∧KeepX k0 (some 3) F' m' (fr a' b' c') (mm a' b' c')) (fr a b c) (mm a b c)):LoopX k0 body F m :=
 ⟨α × β × γ,fun x=>fr x.1 x.2.1 x.2.2,fun x=>mm x.1 x.2.1 x.2.2,fun x=>inv x.1 x.2.1 x.2.2,fun x=>me x.1 x.2.1 x.2.2,some 3,some 3,fun x F' m'=>∃ a' b' c',inv a' b' c'∧me a' b' c' < me x.1 x.2.1 x.2.2∧KeepX k0 (some 3) F' m' (fr a' b' c') (mm a' b' c'),
  ⟨(a0,b0,c0),h0,hk⟩,fun _ _ _ ⟨a,b,c,h⟩=>⟨(a,b,c),h⟩,fun x h=>hb x.1 x.2.1 x.2.2 h⟩
structure OZ (k:Nat) (o:Over):Prop where
 b:o.base.length≤k
 n:o.layers.length≤k
 l:∀ l∈o.layers,l.length≤k
 u:o.upper.length≤k
theorem OS.oz {o:Over} (h:OS o):OZ 32 o:=⟨by have:=h.b; omega,by have:=h.n; omega,h.l,h.u⟩
theorem OZ.mono {o:Over} {n m:Nat} (h:OZ n o) (hm:n≤m):OZ m o:=⟨by have:=h.b; omega,by have:=h.n; omega,fun l hl=>by have:=h.l l hl; omega,by have:=h.u; omega⟩
def zbs:XC:=(.s (.r [.ex 1 (.box 0),.ex 2 (.alloc [.nil,.nil,.nil])]) (.s (.d [.ex 5 .bsl0,.f1 6 0 1,.l1 7 1 6,.ex 8 (.app true 3 40 39 5 7),.ex 9 .bsl0,.f1 10 2 1,.l1 11 1 10,.ex 12 (.app true 3 40 133 9 11),.ex 13 (.build [.nil,.nil,.nil] [(0,(1,8)),(2,(1,12))]),.ex 3 (.alloc [.nil,.nil,.nil]),.s1 3 3 13]) (.s (.s (.r [.m1 4 (.i 0)]) (.blk 0 (.loop (.s (.s (.r [.mv 14 4,.f1 15 1 1,.l1 16 1 15,.n1 17 16,.b1 18 .lss 14 17]) (.cnd 18 .skip (.exit 0))) (.s (.blk 1 (.d [.f1 21 1 3,.l1 22 1 21,.ex 23 .bsl0,.f1 24 1 1,.l1 25 1 24,.mv 26 4,.i1 27 1 25 26,.l1 28 1 27,.ex 29 (.app true 3 40 133 23 28),.ex 30 (.bsl 1 25 [29]),.ex 31 (.app false 1 24 25 22 30),.f1 32 1 3,.s1 1 32 31])) (.r [.mv 19 4,.b1 20 .add 19 (.i 1),.mv 4 20])))))) (.s (.r [.l2 33 3 3,.s1 3 2 33]) .ret))))
theorem zbt:compF Tryz.prog [] 102=some (zbs.ac,[(.cell 2 true 3)],34):=by kernel_rfl
theorem zfd (W0:World) (o:Over) (h:OZ 1000000 o):FunW Tryz.prog W0 102 [.c (eOver o)] [] (fun _:Unit=>True) (fun _ => .agg [.c (eEnts o.base),.own 4 o.layers.length,.c (eMarks o.upper)]) (fun _=>[(4,.row (o.layers.map eMarks) 1 25)]):=by
 refine funW (c:=zbs) mixed zbt (by simp) rfl rfl fun hg=>?_
 obtain ⟨z1,z2,z3,z4⟩:=h
 refine dr ?_
 refine lq (σ:=Nat) (fun k=>[(1,.ptr 16 0),(2,.ptr 32 0),(3,.ptr 48 0),(4,I k)]) (fun k=>[(4,.row ((o.layers.take k).map eMarks) 1 25),(16,.box [.c (eEnts o.base),.c (eMarkss o.layers),.c (eMarks o.upper)]),(32,.box [.nil,.nil,.nil]),(48,.box [.c (eEnts o.base),.own 4 k,.c (eMarks o.upper)])]) (fun k=>k≤o.layers.length) (fun k=>o.layers.length - k) 0 (by simp) ?_ ?_
 ·refine KeepX.trans (z:=some 128) (z':=some 3) (F1:=[(1,.ptr 16 0),(2,.ptr 32 0),(3,.ptr 48 0),(4,I 0)]) (m1:=[(16,.box [.c (eEnts o.base),.c (eMarkss o.layers),.c (eMarks o.upper)]),(32,.box [.nil,.nil,.nil]),(48,.box [.c (eEnts o.base),.nil,.own 192 o.upper.length]),(192,.row (o.upper.map eMark) 3 133)]) ?_ ?_
  ·refine dr ?_
   repeat (refine oB (by simp<;>rfl) ?_; first | refine dr ?_ | exact dz)
   trivial
  refine KeepX.trans (z:=some 192) (z':=some 3) (F1:=[(1,.ptr 16 0),(2,.ptr 32 0),(3,.ptr 48 0),(4,I 0)]) (m1:=[(16,.box [.c (eEnts o.base),.c (eMarkss o.layers),.c (eMarks o.upper)]),(32,.box [.nil,.nil,.nil]),(48,.box [.c (eEnts o.base),.nil,.c (eMarks o.upper)])]) ?_ ?_
  ·refine dr ?_
   repeat (refine oB (by simp<;>rfl) ?_; first | refine dr ?_ | exact dz)
   trivial
  ·show KeepS _ _ _ _ _
   exact KeepS.nilB 48 [.c (eEnts o.base),.nil,.c (eMarks o.upper)] [.c (eEnts o.base),.own 4 0,.c (eMarks o.upper)] 4 25 rfl rfl ⟨nr0,nr1,nr0,trivial⟩
 intro k hk
 refine dr ?_
 refine cP ?_ ?_<;>intro h1
 ·have hk':k < o.layers.length:=by omega
  have hz:=z3 _ (List.getElem_mem hk')
  refine dr ?_
  repeat ((first | refine oB (by simp; omega) ?_ | refine oB (by simp) ?_); first | refine dr ?_ | exact dz)
  refine ⟨k+1,by omega,by omega,?_⟩
  rw [List.take_succ_eq_append_getElem hk',List.map_append]
  refine KeepS.push (C:=(o.layers.take k).map eMarks) (L:=o.layers[k].map eMark) 4 464 rfl rfl (by simp) ?_
  refine dr ?_
  trivial
 have hkl:k=o.layers.length:=by omega
 subst hkl
 rw [List.take_length]
 refine dr ?_
 refine ⟨none,_,_,?_,(),trivial,rfl,rfl⟩
 refine dr ?_
 trivial
theorem jw (W0:World) (o:Over) (h:OZ 1000000 o):Fn Tryz.prog W0 102 [eOver o] (.c (eOver o)) []:=by
 refine fnX (c:=zbs) mixed zbt (by simp) rfl fun hg=>?_
 obtain ⟨z1,z2,z3,z4⟩:=h
 refine dr ?_
 refine lq (σ:=Nat) (fun k=>[(1,.ptr 16 0),(2,.ptr 32 0),(3,.ptr 48 0),(4,I k)]) (fun k=>[(4,.row ((o.layers.take k).map eMarks) 1 25),(16,.box [.c (eEnts o.base),.c (eMarkss o.layers),.c (eMarks o.upper)]),(32,.box [.nil,.nil,.nil]),(48,.box [.c (eEnts o.base),.own 4 k,.c (eMarks o.upper)])]) (fun k=>k≤o.layers.length) (fun k=>o.layers.length - k) 0 (by simp) ?_ ?_
 ·refine KeepX.trans (z:=some 128) (z':=some 3) (F1:=[(1,.ptr 16 0),(2,.ptr 32 0),(3,.ptr 48 0),(4,I 0)]) (m1:=[(16,.box [.c (eEnts o.base),.c (eMarkss o.layers),.c (eMarks o.upper)]),(32,.box [.nil,.nil,.nil]),(48,.box [.c (eEnts o.base),.nil,.own 192 o.upper.length]),(192,.row (o.upper.map eMark) 3 133)]) ?_ ?_
  ·refine dr ?_
   repeat (refine oB (by simp<;>rfl) ?_; first | refine dr ?_ | exact dz)
   trivial
  refine KeepX.trans (z:=some 192) (z':=some 3) (F1:=[(1,.ptr 16 0),(2,.ptr 32 0),(3,.ptr 48 0),(4,I 0)]) (m1:=[(16,.box [.c (eEnts o.base),.c (eMarkss o.layers),.c (eMarks o.upper)]),(32,.box [.nil,.nil,.nil]),(48,.box [.c (eEnts o.base),.nil,.c (eMarks o.upper)])]) ?_ ?_
  ·refine dr ?_
   repeat (refine oB (by simp<;>rfl) ?_; first | refine dr ?_ | exact dz)
   trivial
  ·show KeepS _ _ _ _ _
   exact KeepS.nilB 48 [.c (eEnts o.base),.nil,.c (eMarks o.upper)] [.c (eEnts o.base),.own 4 0,.c (eMarks o.upper)] 4 25 rfl rfl ⟨nr0,nr1,nr0,trivial⟩
 intro k hk
 refine dr ?_
 refine cP ?_ ?_<;>intro h1
 ·have hk':k < o.layers.length:=by omega
  have hz:=z3 _ (List.getElem_mem hk')
  refine dr ?_
  repeat ((first | refine oB (by simp; omega) ?_ | refine oB (by simp) ?_); first | refine dr ?_ | exact dz)
  refine ⟨k+1,by omega,by omega,?_⟩
  rw [List.take_succ_eq_append_getElem hk',List.map_append]
  refine KeepS.push (C:=(o.layers.take k).map eMarks) (L:=o.layers[k].map eMark) 4 464 rfl rfl (by simp) ?_
  refine dr ?_
  trivial
 have hkl:k=o.layers.length:=by omega
 subst hkl
 rw [List.take_length]
 refine dr ?_
 rfl
def zbA:XC:=(.s (.r [.ex 2 (.box 0),.ex 4 (.alloc [.nil,.nil,.nil])]) (.s (.r [.l2 8 3 2,.c1 9 74 [8],.mv 7 9,.e1 10 7 0,.e1 11 7 1,.a1 5 10 3 39,.mv 6 11]) (.s (.r [.mv 12 5,.mv 13 1,.c1 14 76 [12,13],.f1 15 2 2,.s1 1 15 14]) (.s (.r [.l2 16 3 2,.s1 3 4 16]) .ret))))
theorem zbB:compF Tryz.prog [] 149=some (zbA.ac,[(.cell 4 true 3)],17):=by kernel_rfl
theorem zfg (W0:World) (o:Over) (t x:List Ent) (h1:lower4 o=some t) (ht:tOk t=true) (hx:tOk x=true):Fn Tryz.prog W0 149 [eOver o,eEnts x] (.c (eOver ⟨o.base,o.layers,diff t x⟩)) []:=by
 refine fnX (c:=zbA) mixed zbB (by simp) rfl fun hg=>?_
 have q:=zfe W0 o
 rw [h1] at q
 refine dEr ?_
 repeat ((first | refine c0 q rfl ?_ | refine c0 (ze4 W0 t x ht hx) rfl ?_); first | refine dEr ?_ | exact dz)
 rfl
def YA:XC:=(.s (.r [.ex 2 (.box 0),.ex 3 (.box 1),.ex 4 (.alloc [.nil,.nil,.nil]),.m1 5 (.i 0)]) (.s (.s (.r [.l2 10 3 2,.c1 11 25 [10],.ex 12 (.un .not 11)]) (.cnd 12 (.s (.r [.ex 13 (.build [.nil,.nil,.nil] []),.s1 3 4 13,.m1 5 (.i 1)]) .ret) .skip)) (.s (.r [.l2 15 3 2,.c1 16 69 [15],.mv 14 16,.e1 17 14 0,.e1 18 14 1,.a1 6 17 3 39,.mv 7 18]) (.s (.r [.mv 20 6,.l2 21 4 3,.c1 22 107 [20,21],.mv 19 22,.e1 23 19 0,.e1 24 19 1,.a1 8 23 3 39,.mv 9 24]) (.s (.s (.r [.mv 25 9,.b1 26 .neq 25 (.i 0)]) (.cnd 26 (.s (.r [.l2 27 3 2,.c1 28 102 [27],.mv 29 9,.s1 3 4 28,.mv 5 29]) .ret) .skip)) (.s (.r [.l2 30 3 2,.c1 31 102 [30],.mv 32 8,.c1 33 149 [31,32],.mv 34 9,.s1 3 4 33,.mv 5 34]) .ret))))))
theorem YB:compF Tryz.prog [] 93=some (YA.ac,[(.cell 4 true 3),(.t 5)],35):=by kernel_rfl
theorem zf9 (W0:World) (o:Over) (op:Op):Fn Tryz.prog W0 93 [eOver o,eOp op] (.c (eOC (oDo o op))) []:=by
 refine fnX (c:=YA) mixed YB (by simp) rfl fun hg=>?_
 refine dEr ?_
 repeat (refine c0 (jD W0 o) rfl ?_; first | refine dEr ?_ | exact dz)
 refine cP ?_ ?_<;>intro h1
 ·refine dr ?_
  rw [oDo,if_neg (by simp [h1])]<;>rfl
 obtain ⟨t,x,g⟩:=OG.of h1
 rw [g.doEq]
 have q1:=jx W0 o
 rw [g.vw] at q1
 have q2:=jG W0 x op
 have q3:=jw W0 o (g.os.oz.mono (by omega))
 have q4:=(znB g.gx (op:=op))
 generalize treeDo x op=r at *
 obtain ⟨y,c⟩:=r
 refine dEr ?_
 repeat ((first | refine c0 q1 rfl ?_ | refine c0 q2 rfl ?_); first | refine dEr ?_ | exact dz)
 refine cP ?_ ?_<;>intro h2
 ·refine dEr ?_
  repeat (refine c0 q3 rfl ?_; first | refine dEr ?_ | exact dz)
  rw [if_neg h2]<;>rfl
 ·obtain ⟨_,_,k1,k2⟩:=q4 h2
  simp only at k1
  have q5:=zfg W0 o t y g.low g.gt (by rw [k1]; exact k2)
  refine dEr ?_
  repeat ((first | refine c0 q3 rfl ?_ | refine c0 q5 rfl ?_); first | refine dEr ?_ | exact dz)
  rw [if_pos h2,h2]<;>rfl
def YG:XC:=(.s (.r [.ex 1 (.box 0),.ex 2 (.alloc [.nil,.nil,.nil]),.m1 3 .n]) (.s (.s (.r [.l2 5 3 1,.c1 6 25 [5],.ex 7 (.un .not 6)]) (.cnd 7 (.s (.r [.ex 8 (.build [.nil,.nil,.nil] []),.s1 3 2 8,.m1 3 .n]) .ret) .skip)) (.s (.r [.l2 9 3 1,.o1 10 102 [9],.ex 4 (.alloc [.nil,.nil,.nil]),.s1 3 4 10]) (.s (.s (.r [.f1 11 1 1,.l1 12 1 11,.n1 13 12,.b1 14 .geq 13 (.i 4)]) (.cnd 14 (.s (.r [.l2 15 3 4,.s1 3 2 15,.m1 3 .n]) .ret) .skip)) (.s (.r [.f1 16 1 4,.l1 17 1 16,.f1 18 2 4,.l1 19 1 18,.ex 20 (.bsl 1 25 [19]),.ex 21 (.app false 1 24 25 17 20),.f1 22 1 4,.s1 1 22 21]) (.s (.r [.ex 23 .bsl0,.f1 24 2 4,.s1 1 24 23]) (.s (.r [.l2 25 3 4,.s1 3 2 25,.m1 3 .y]) .ret)))))))
theorem YH:compF Tryz.prog [102] 152=some (YG.ac,[(.cell 2 true 3),(.t 3)],26):=by kernel_rfl
theorem zgb (W0:World) (o:Over):Fn Tryz.prog W0 152 [eOver o] (.c (eOB (oPush o))) []:=by
 refine fnX (c:=YG) mixed YH (by simp) rfl fun hg=>?_
 refine dEr ?_
 repeat (refine c0 (jD W0 o) rfl ?_; first | refine dEr ?_ | exact dz)
 refine cP ?_ ?_<;>intro h1
 ·refine dr ?_
  rw [oPush,if_neg (by simp [h1])]<;>rfl
 have hz:=OS.ok h1
 rw [oPush,if_pos h1]
 refine dr ?_
 refine oW (zfd W0 o (hz.oz.mono (by omega))) rfl trivial rfl rfl ⟨(),trivial⟩ fun _ _=>⟨rfl,?_⟩
 refine dEr ?_
 refine cP ?_ ?_<;>intro h2
 ·refine dr ?_
  repeat (refine oB (by simp) ?_; first | refine dr ?_ | exact dz)
  rw [if_pos (by omega)]<;>rfl
 ·have:=hz.n
  refine dr ?_
  repeat ((first | refine oB (by simp; omega) ?_ | refine oB (by simp) ?_); first | refine dr ?_ | exact dz)
  rw [if_neg (by omega)]
  exact congrArg (fun y=>CV.tup [.agg [eEnts o.base,y,eMarks []],CB true]) (by simp [eMarkss])
def YC:XC:=(.s (.r [.ex 1 (.box 0),.ex 2 (.alloc [.nil,.nil,.nil]),.m1 3 .n]) (.s (.s (.r [.l2 8 3 1,.c1 9 25 [8],.ex 10 (.un .not 9)]) (.cnd 10 (.s (.r [.ex 11 (.build [.nil,.nil,.nil] []),.s1 3 2 11,.m1 3 .n]) .ret) .skip)) (.s (.r [.l2 12 3 1,.c1 13 102 [12],.ex 4 (.alloc [.nil,.nil,.nil]),.s1 3 4 13]) (.s (.s (.r [.f1 14 1 4,.l1 15 1 14,.n1 16 15,.b1 17 .lss 16 (.i 2)]) (.cnd 17 (.s (.r [.l2 18 3 4,.s1 3 2 18,.m1 3 .n]) .ret) .skip)) (.s (.r [.f1 19 1 4,.l1 20 1 19,.ex 21 (.ia 1 20 (.i 0)),.l1 22 1 21,.a1 5 22 3 133]) (.s (.s (.r [.m1 6 (.i 1)]) (.blk 0 (.loop (.s (.s (.r [.mv 23 6,.f1 24 1 4,.l1 25 1 24,.n1 26 25,.b1 27 .lss 23 26]) (.cnd 27 .skip (.exit 0))) (.s (.blk 1 (.s (.r [.m1 7 .n]) (.s (.r [.f1 31 1 4,.l1 32 1 31,.mv 33 6,.i1 34 1 32 33,.l1 35 1 34,.mv 36 5,.c1 37 192 [35,36],.mv 30 37,.e1 38 30 0,.e1 39 30 1,.a1 5 38 3 133,.mv 7 39]) (.s (.r [.mv 40 7,.ex 41 (.un .not 40)]) (.cnd 41 (.s (.r [.l2 42 3 4,.s1 3 2 42,.m1 3 .n]) .ret) .skip))))) (.r [.mv 28 6,.b1 29 .add 28 (.i 1),.mv 6 29])))))) (.s (.r [.mv 43 5,.ex 44 (.bsl 1 25 [43]),.f1 45 1 4,.s1 1 45 44]) (.s (.r [.l2 46 3 4,.s1 3 2 46,.m1 3 .y]) .ret))))))))
theorem YD:compF Tryz.prog [] 153=some (YC.ac,[(.cell 2 true 3),(.t 3)],47):=by kernel_rfl
theorem zgG {one l:List Mark} {r:List (List Mark)}:flatA one (l::r)=match lJoin l one with
  | some j=>flatA j r
  | none=>none:=by rw [flatA]; cases lJoin l one<;>rfl
theorem zga (W0:World) (o:Over):Fn Tryz.prog W0 153 [eOver o] (.c (eOB (oFlat o))) []:=by
 refine fnX (c:=YC) mixed YD (by simp) rfl fun hg=>?_
 refine dEr ?_
 repeat (refine c0 (jD W0 o) rfl ?_; first | refine dEr ?_ | exact dz)
 refine cP ?_ ?_<;>intro h1
 ·refine dr ?_
  rw [oFlat,if_neg (by simp [h1])]<;>rfl
 have hz:=OS.ok h1
 rw [oFlat,if_pos h1]
 refine dEr ?_
 repeat (refine c0 (jw W0 o (hz.oz.mono (by omega))) rfl ?_; first | refine dEr ?_ | exact dz)
 refine cP ?_ ?_<;>intro h2
 ·refine dr ?_
  have e:flatO o=none:=by
   unfold flatO
   split
   ·rename_i a b r he; rw [he] at h2; simp at h2; omega
   ·rfl
  rw [e]<;>rfl
 have h0:0 < o.layers.length:=by omega
 obtain ⟨a,b,r,hl⟩:∃ a b r,o.layers=a::b::r:=by
  cases hl:o.layers with
  | nil=>rw [hl] at h0; simp at h0
  | cons a s=>cases s with
   | nil=>rw [hl] at h2; simp at h2
   | cons b r=>exact ⟨a,b,r,rfl⟩
 have e0:flatO o=flatA o.layers[0] (o.layers.drop 1):=by
  have e:o.layers[0]=a:=by simp [hl]
  rw [e]
  unfold flatO
  rw [hl]; rfl
 rw [e0]
 have hn4:=hz.n
 refine dr ?_
 repeat (refine aM (j:=0) rfl (by omega) ?_; first | refine dr ?_ | exact dz)
 refine lp2 (fun (k:Nat) (one:List Mark)=>[(2,.ptr 32 0),(4,.ptr 64 0),(5,.c (eMarks one)),(6,I k)]) (fun _ _=>[(32,.box [.nil,.nil,.nil]),(64,.box [.c (eEnts o.base),.c (eMarkss o.layers),.c (eMarks o.upper)])]) (fun k one=>1≤k∧k≤o.layers.length∧flatA one (o.layers.drop k)=flatA o.layers[0] (o.layers.drop 1)) (fun k _=>o.layers.length - k) 1 o.layers[0] ⟨by omega,by omega,rfl⟩ ?_ ?_
 ·refine dr ?_
  trivial
 rintro k one ⟨k1,k2,k3⟩
 refine dr ?_
 refine cP ?_ ?_<;>intro h3
 ·have hk':k < o.layers.length:=by omega
  rw [List.drop_eq_getElem_cons hk',zgG] at k3
  have q:=zf5 W0 o.layers[k] one
  cases hj:lJoin o.layers[k] one with
  | none =>
   rw [hj] at q k3
   refine dEr ?_
   repeat (refine c0 q rfl ?_; first | refine dEr ?_ | exact dz)
   rw [← k3]<;>rfl
  | some j =>
   rw [hj] at q k3
   refine dEr ?_
   repeat (refine c0 q rfl ?_; first | refine dEr ?_ | exact dz)
   refine ⟨k+1,j,⟨by omega,by omega,k3⟩,by omega,?_⟩
   refine dr ?_
   trivial
 ·have hkl:k=o.layers.length:=by omega
  rw [hkl,List.drop_length,flatA] at k3
  refine dr ?_
  rw [← k3]<;>rfl

abbrev wCs (w:Wld):List PV:=[.c (eEnts w.over.base),.c (eMarkss w.over.layers),.c (eMarks w.over.upper),I w.clock,I w.count,.c (eLeases w.leases),.c (eHoldss w.holds),.c (eInts w.floors),.c (eMsgs w.net),B w.waits,I w.op.kind,.c (CS w.op.path),.c (CS w.op.dest),.c (CS w.op.data)]
abbrev wBx (w:Wld):XB := .box (wCs w)
abbrev hCs (h:Hold):List PV:=[.c (CS h.path),B h.has,.c (CS h.ent.path),B h.ent.dir,.c (CS h.ent.data),I h.num,I h.til]
abbrev lCs (l:Lease):List PV:=[I l.who,.c (CS l.path),I l.num,I l.til]
abbrev mCs (m:Msg):List PV:=[I m.kind,I m.who,.c (CS m.hold.path),B m.hold.has,.c (CS m.hold.ent.path),B m.hold.ent.dir,.c (CS m.hold.ent.data),I m.hold.num,I m.hold.til]
theorem aHd {w:Wld} {who:Int} (hw:isW who) (hl:w.holds.length=3) {K:CV→Prop} (h:K (eHolds (hdW w who))):AtX who (w.holds.map eHolds) K:=by
 have:=hw.1; have:=hw.2
 have hk:who.toNat < w.holds.length:=by omega
 refine ⟨who.toNat,by omega,_,by rw [List.getElem?_map,List.getElem?_eq_getElem hk]; rfl,?_⟩
 have e:hdW w who=w.holds[who.toNat]:=by unfold hdW; rw [List.getD_eq_getElem?_getD,List.getElem?_eq_getElem hk]; rfl
 rw [← e]; exact h
theorem aFl {w:Wld} {who:Int} (hw:isW who) (hl:w.floors.length=3) {K:CV→Prop} (h:K (CI (flW w who))):AtX who (w.floors.map CI) K:=by
 have:=hw.1; have:=hw.2
 have hk:who.toNat < w.floors.length:=by omega
 refine ⟨who.toNat,by omega,_,by rw [List.getElem?_map,List.getElem?_eq_getElem hk]; rfl,?_⟩
 have e:flW w who=w.floors[who.toNat]:=by unfold flW; rw [List.getD_eq_getElem?_getD,List.getElem?_eq_getElem hk]; rfl
 rw [← e]; exact h
theorem znk {a b:Int}:leI a b=tb (a≤b):=by rw [Bool.eq_iff_iff,ziN,tb_i]
theorem znl {a b:Int}:ltI a b=tb (a < b):=by rw [Bool.eq_iff_iff,zjc,tb_i]
def zcs:XC:=(.s (.r [.m1 2 .n]) (.s (.r [.mv 3 0,.b1 4 .geq 3 (.i 0),.mv 5 4,.gt 6 (.mv 0) 5,.gt 7 (.bin .lss 6 (.i 3)) 5,.ex 8 (.pick 5 7 .n),.mv 2 8]) .ret))
theorem zct:compF Tryz.prog [] 37=some (zcs.ac,[(.t 2)],9):=by kernel_rfl
theorem jz (W0:World) (who:Int):Fn Tryz.prog W0 37 [CI who] (.c (CB (tb (isW who)))) []:=by
 refine fnX (c:=zcs) mixed zct (by simp) rfl fun hg=>?_
 refine dr ?_
 refine cP ?_ ?_<;>intro h1
 ·refine dr ?_
  rw [znl]
  exact congrArg CB (tb_c ⟨fun h=>⟨h1,h⟩,fun h=>h.2⟩)
 ·refine dr ?_
  exact pF fun h=>by have:=h.1; omega
def noL:Lease:=⟨0,[],0,0⟩
def eLO (x:Option Lease):CV := .tup [eLease (x.getD noL),CB x.isSome]
theorem ziS {l:List Lease} {k:Nat} (h:k < l.length) {who:Int} {p:Str} (hn:lfind (l.take k) who p=none) (h1:l[k].who=who) (h2:l[k].path=p):lfind l who p=some l[k]:=by
 have e:l=l.take k++(l[k]::l.drop (k+1)):=by rw [← List.drop_eq_getElem_cons h,List.take_append_drop]
 have e2:lfind (l.take k++(l[k]::l.drop (k+1))) who p=some l[k]:=by
  rw [ziP,hn]
  unfold lfind
  rw [List.find?_cons,h1,h2]; simp
 rw [← e] at e2; exact e2
theorem ziU {l:List Lease} {k:Nat} (h:k < l.length) {who:Int} {p:Str} (hn:lfind (l.take k) who p=none) (h1:¬ (l[k].who=who∧l[k].path=p)):lfind (l.take (k+1)) who p=none:=by
 rw [List.take_succ_eq_append_getElem h,ziP,hn]
 exact ziT fun x hx=>by rw [List.mem_singleton.1 hx]; exact h1
def zbW:XC:=(.s (.r [.ex 3 (.box 0),.ex 6 (.alloc [(I 0),sE,(I 0),(I 0)]),.m1 7 .n]) (.s (.s (.r [.m1 8 (.i 0)]) (.blk 0 (.loop (.s (.s (.r [.mv 9 8,.f1 10 5 3,.l1 11 1 10,.n1 12 11,.b1 13 .lss 9 12]) (.cnd 13 .skip (.exit 0))) (.s (.blk 1 (.s (.r [.f1 16 5 3,.l1 17 1 16,.mv 18 8,.i1 19 4 17 18,.f1 20 0 19,.l1 21 1 20,.mv 22 1,.b1 23 .eql 21 22,.mv 24 23,.gt 25 (.fa 5 3) 24,.gt 26 (.ld false 1 25) 24,.gt 27 (.mv 8) 24,.gt 28 (.ia 4 26 27) 24,.gt 29 (.fa 1 28) 24,.gt 30 (.ld false 1 29) 24,.gt 31 (.mv 2) 24,.gt 32 (.bin .eql 30 31) 24,.ex 33 (.pick 24 32 .n)]) (.cnd 33 (.s (.r [.f1 34 5 3,.l1 35 1 34,.mv 36 8,.i1 37 4 35 36,.l2 38 4 37,.s1 4 6 38,.m1 7 .y]) .ret) .skip))) (.r [.mv 14 8,.b1 15 .add 14 (.i 1),.mv 8 15])))))) (.s (.r [.ex 39 (.build [(I 0),sE,(I 0),(I 0)] []),.s1 4 6 39,.m1 7 .n]) .ret)))
theorem zbX:compF Tryz.prog [] 168=some (zbW.ac,[(.cell 6 true 4),(.t 7)],40):=by kernel_rfl
theorem zfu (W0:World) (w:Wld) (who:Int) (p:Str):Fn Tryz.prog W0 168 [eWld w,CI who,CS p] (.c (eLO (lfind w.leases who p))) []:=by
 refine fnX (c:=zbW) mixed zbX (by simp) rfl fun hg=>?_
 have g0:=goodAgg (hg _ (by simp:eWld w∈_))
 have g1:w.leases.length≤9223372036854775807:=goodRow (g0 _ (by simp:eLeases w.leases∈_))
 refine dr ?_
 refine lp (σ:=Nat) (fun k=>[(1,.c (CI who)),(2,.c (CS p)),(3,.ptr 48 0),(6,.ptr 96 0),(8,I k)]) (fun _=>[(48,wBx w),(96,.box (lCs noL))]) (fun k=>k≤w.leases.length∧lfind (w.leases.take k) who p=none) (fun k=>w.leases.length - k) 0 ⟨by omega,rfl⟩ ?_ ?_
 ·refine dr ?_
  trivial
 rintro k ⟨hk,hn⟩
 refine dr ?_
 refine cP ?_ ?_<;>intro h1
 ·have hk':k < w.leases.length:=by omega
  refine dr ?_
  refine cP ?_ ?_<;>intro h2
  ·refine dr ?_
   refine cP ?_ ?_<;>intro h3
   ·refine dr ?_
    rw [ziS hk' hn h2 h3]<;>rfl
   ·refine dr ?_
    refine ⟨k+1,⟨by omega,ziU hk' hn fun h=>h3 h.2⟩,by omega,?_⟩
    refine dr ?_
    trivial
  ·refine dr ?_
   refine ⟨k+1,⟨by omega,ziU hk' hn fun h=>h2 h.1⟩,by omega,?_⟩
   refine dr ?_
   trivial
 ·have hkl:k=w.leases.length:=by omega
  rw [hkl,List.take_length] at hn
  refine dr ?_
  rw [hn]<;>rfl
def zbY:XC:=(.s (.r [.ex 1 (.box 0),.m1 2 .n]) (.s (.s (.r [.m1 3 (.i 0)]) (.blk 0 (.loop (.s (.s (.r [.mv 6 3,.f1 7 5 1,.l1 8 1 7,.n1 9 8,.b1 10 .lss 6 9]) (.cnd 10 .skip (.exit 0))) (.s (.blk 1 (.s (.r [.f1 13 5 1,.l1 14 1 13,.mv 15 3,.i1 16 4 14 15,.l2 17 4 16,.ex 4 (.alloc [(I 0),sE,(I 0),(I 0)]),.s1 4 4 17]) (.s (.s (.r [.f1 18 0 4,.l1 19 1 18,.c1 20 37 [19],.ex 21 (.un .not 20),.mv 22 21,.gf 23 (.fa 1 4) 22,.gf 24 (.ld false 1 23) 22,.gf 25 (.call 106 [24]) 22,.gf 26 (.un .not 25) 22,.ex 27 (.pick 22 .y 26),.mv 28 27,.gf 29 (.fa 2 4) 28,.gf 30 (.ld false 1 29) 28,.gf 31 (.bin .lss 30 (.i 1)) 28,.ex 32 (.pick 28 .y 31),.mv 33 32,.gf 34 (.fa 2 4) 33,.gf 35 (.ld false 1 34) 33,.gf 36 (.fa 4 1) 33,.gf 37 (.ld false 1 36) 33,.gf 38 (.bin .gtr 35 37) 33,.ex 39 (.pick 33 .y 38),.mv 40 39,.gf 41 (.fa 3 4) 40,.gf 42 (.ld false 1 41) 40,.gf 43 (.fa 3 1) 40,.gf 44 (.ld false 1 43) 40,.gf 45 (.bin .add 44 (.i 5)) 40,.gf 46 (.bin .gtr 42 45) 40,.ex 47 (.pick 40 .y 46)]) (.cnd 47 (.s (.r [.m1 2 .n]) .ret) .skip)) (.s (.r [.m1 5 (.i 0)]) (.blk 2 (.loop (.s (.s (.r [.mv 48 5,.mv 49 3,.b1 50 .lss 48 49]) (.cnd 50 .skip (.exit 2))) (.s (.blk 3 (.s (.d [.f1 53 5 1,.l1 54 1 53,.mv 55 5,.i1 56 4 54 55,.f1 57 0 56,.l1 58 1 57,.f1 59 0 4,.l1 60 1 59,.b1 61 .eql 58 60,.mv 62 61,.gt 63 (.fa 5 1) 62,.gt 64 (.ld false 1 63) 62,.gt 65 (.mv 5) 62,.gt 66 (.ia 4 64 65) 62,.gt 67 (.fa 1 66) 62,.gt 68 (.ld false 1 67) 62,.gt 69 (.fa 1 4) 62,.gt 70 (.ld false 1 69) 62,.gt 71 (.bin .eql 68 70) 62,.ex 72 (.pick 62 71 .n)]) (.cnd 72 (.s (.r [.m1 2 .n]) .ret) .skip))) (.r [.mv 51 5,.b1 52 .add 51 (.i 1),.mv 5 52]))))))))) (.r [.mv 11 3,.b1 12 .add 11 (.i 1),.mv 3 12])))))) (.s (.r [.m1 2 .y]) .ret)))
theorem zbZ:compF Tryz.prog [] 64=some (zbY.ac,[(.t 2)],73):=by kernel_rfl
theorem zfv (W0:World) (w:Wld) (hp:w.clock≤10000):Fn Tryz.prog W0 64 [eWld w] (.c (CB (tb (LsOk w)))) []:=by
 refine fnX (c:=zbY) mixed zbZ (by simp) rfl fun hg=>?_
 have g0:=goodAgg (hg _ (by simp:eWld w∈_))
 have g1:w.leases.length≤9223372036854775807:=goodRow (g0 _ (by simp:eLeases w.leases∈_))
 have g2:=goodI (g0 _ (by simp:CI w.clock∈_))
 refine dr ?_
 refine lp (σ:=Nat) (fun k=>[(1,.ptr 16 0),(3,I k)]) (fun _=>[(16,wBx w)]) (fun k=>k≤w.leases.length∧(∀ l∈w.leases.take k,LsG w l)∧(w.leases.take k).Pairwise LsD) (fun k=>w.leases.length - k) 0 ⟨by omega,by simp,by simp⟩ ?_ ?_
 ·refine dr ?_
  trivial
 rintro k ⟨hk,hA,hP⟩
 refine dr ?_
 refine cP ?_ ?_<;>intro h1
 rotate_left
 ·have hkl:k=w.leases.length:=by omega
  rw [hkl,List.take_length] at hA hP
  refine dr ?_
  exact pT ⟨hA,hP⟩
 have hk':k < w.leases.length:=by omega
 have no:¬ LsG w w.leases[k]→CB false=CB (tb (LsOk w)):=fun h=>pF fun hh=>h (hh.g _ (List.getElem_mem hk'))
 refine dr ?_
 refine c0 (jz W0 _) rfl ?_
 refine dEr ?_
 refine cP ?_ ?_<;>intro a1
 ·refine dr ?_
  exact no fun h=>a1 h.1
 refine dEr ?_
 repeat (refine c0 (jE W0 _) rfl ?_; first | refine dEr ?_ | exact dz)
 refine cP ?_ ?_<;>intro a2
 ·refine dr ?_
  exact no fun h=>by rw [h.2.1] at a2; cases a2
 refine dr ?_
 refine cP ?_ ?_<;>intro a3
 ·refine dr ?_
  exact no fun h=>by have:=h.2.2.1; omega
 refine dr ?_
 refine cP ?_ ?_<;>intro a4
 ·refine dr ?_
  exact no fun h=>by have:=h.2.2.2.1; omega
 refine dr ?_
 repeat (refine oB (by omega) ?_; first | refine dr ?_ | exact dz)
 refine cP ?_ ?_<;>intro a5
 ·refine dr ?_
  exact no fun h=>by have:=h.2.2.2.2; omega
 refine dr ?_
 refine lp (σ:=Nat) (fun j=>[(1,.ptr 16 0),(3,I k),(4,.ptr 64 0),(5,I j)]) (fun _=>[(16,wBx w),(64,.box (lCs w.leases[k]))]) (fun j=>j≤k∧∀ l∈w.leases.take j,LsD l w.leases[k]) (fun j=>k - j) 0 ⟨by omega,by simp⟩ ?_ ?_
 ·refine dr ?_
  trivial
 rintro j ⟨hj,hD⟩
 refine dr ?_
 refine cP ?_ ?_<;>intro b1
 rotate_left
 ·have hjk:j=k:=by omega
  rw [hjk] at hD
  refine dr ?_
  refine ⟨k+1,⟨by omega,?_,?_⟩,by omega,?_⟩
  ·rw [List.take_succ_eq_append_getElem hk']
   intro l hl
   rcases List.mem_append.1 hl with h | h
   ·exact hA l h
   ·rw [List.mem_singleton.1 h]; exact ⟨a1,a2,by omega,by omega,by omega⟩
  ·rw [List.take_succ_eq_append_getElem hk',List.pairwise_append]
   exact ⟨hP,by simp,fun a ha b hb=>by rw [List.mem_singleton.1 hb]; exact hD a ha⟩
  refine dr ?_
  trivial
 have hjl:j < w.leases.length:=by omega
 have next:¬ (w.leases[j].who=w.leases[k].who∧w.leases[j].path=w.leases[k].path)→∀ l∈w.leases.take (j+1),LsD l w.leases[k]:=fun h l hl=>by
  rw [List.take_succ_eq_append_getElem hjl] at hl
  rcases List.mem_append.1 hl with h' | h'
  ·exact hD l h'
  ·rw [List.mem_singleton.1 h']; exact h
 refine dr ?_
 refine cP ?_ ?_<;>intro b2
 ·refine dr ?_
  refine cP ?_ ?_<;>intro b3
  ·refine dr ?_
   refine pF fun hh=>?_
   have:=List.pairwise_iff_getElem.1 hh.d j k hjl hk' (by omega)
   exact this ⟨b2,b3⟩
  ·refine dr ?_
   refine ⟨j+1,⟨by omega,next fun h=>b3 h.2⟩,by omega,?_⟩
   refine dr ?_
   trivial
 ·refine dr ?_
  refine ⟨j+1,⟨by omega,next fun h=>b2 h.1⟩,by omega,?_⟩
  refine dr ?_
  trivial
def zcg:XC:=(.s (.r [.ex 4 (.box 0),.ex 7 (.box 3),.m1 8 .n]) (.s (.s (.r [.f1 13 3 4,.l1 14 1 13,.f1 15 6 7,.l1 16 1 15,.b1 17 .geq 14 16]) (.cnd 17 (.s (.r [.m1 8 .y]) .ret) .skip)) (.s (.r [.mv 19 1,.f1 20 0 7,.l1 21 1 20,.c1 22 121 [19,21],.mv 18 22,.e1 23 18 0,.e1 24 18 1,.ex 9 (.alloc [sE,(B false),sE]),.s1 3 9 23,.mv 10 24]) (.s (.r [.l2 26 14 4,.mv 27 2,.f1 28 0 7,.l1 29 1 28,.c1 30 168 [26,27,29],.mv 25 30,.e1 31 25 0,.e1 32 25 1,.ex 11 (.alloc [(I 0),sE,(I 0),(I 0)]),.s1 4 11 31,.mv 12 32]) (.s (.r [.mv 33 10,.f1 34 1 7,.l1 35 1 34,.ex 36 (.bb false 33 35),.mv 37 36,.gt 38 (.ld true 3 9) 37,.gt 39 (.fa 2 7) 37,.gt 40 (.ld true 3 39) 37,.gt 41 (.beq false [.s,.b,.s] 38 40) 37,.ex 42 (.pick 37 41 .n),.mv 43 42,.gt 44 (.mv 12) 43,.ex 45 (.pick 43 44 .n),.mv 46 45,.gt 47 (.fa 3 4) 46,.gt 48 (.ld false 1 47) 46,.gt 49 (.fa 3 11) 46,.gt 50 (.ld false 1 49) 46,.gt 51 (.bin .lss 48 50) 46,.ex 52 (.pick 46 51 .n),.mv 53 52,.gt 54 (.fa 2 11) 53,.gt 55 (.ld false 1 54) 53,.gt 56 (.fa 5 7) 53,.gt 57 (.ld false 1 56) 53,.gt 58 (.bin .geq 55 57) 53,.ex 59 (.pick 53 58 .n),.mv 60 59,.gt 61 (.fa 3 11) 60,.gt 62 (.ld false 1 61) 60,.gt 63 (.fa 6 7) 60,.gt 64 (.ld false 1 63) 60,.gt 65 (.bin .geq 62 64) 60,.ex 66 (.pick 60 65 .n),.mv 8 66]) .ret)))))
theorem zch:compF Tryz.prog [] 108=some (zcg.ac,[(.t 8)],67):=by kernel_rfl
theorem zl8 {w:Wld} {t:List Ent} {who:Int} {h:Hold} (ha:w.clock < h.til):So w t who h↔((get t h.path).isSome=h.has∧(get t h.path).getD noE=h.ent∧(lfind w.leases who h.path).isSome=true ∧
  w.clock < ((lfind w.leases who h.path).getD noL).til∧h.num≤((lfind w.leases who h.path).getD noL).num∧h.til≤((lfind w.leases who h.path).getD noL).til):=by
 constructor
 ·intro hs
  obtain ⟨l,h1,h2,h3,h4,h5,h6⟩:=hs ha
  rw [h1]
  exact ⟨h2,h3,rfl,h4,h5,h6⟩
 ·rintro ⟨h2,h3,h1,h4,h5,h6⟩ _
  obtain ⟨l,hl⟩:=Option.isSome_iff_exists.1 h1
  rw [hl] at h4 h5 h6
  exact ⟨l,hl,h2,h3,h4,h5,h6⟩
theorem zfF (W0:World) (w:Wld) (t:List Ent) (who:Int) (h:Hold):Fn Tryz.prog W0 108 [eWld w,eEnts t,CI who,eHold h] (.c (CB (tb (So w t who h)))) []:=by
 refine fnX (c:=zcg) mixed zch (by simp) rfl fun hg=>?_
 have hc:=jr W0 t h.path
 rw [zL] at hc
 have hl:=zfu W0 w who h.path
 refine dr ?_
 refine cP ?_ ?_<;>intro h1
 ·refine dr ?_
  exact pT fun ha=>by omega
 rw [tb_c (zl8 (by omega))]
 have e1:=@zl8 w t who h (by omega)
 generalize (get t h.path)=x at *
 unfold eLO at hl
 generalize (lfind w.leases who h.path)=y at *
 refine dEr ?_
 repeat ((first | refine c0 hc rfl ?_ | refine c0 hl rfl ?_); first | refine dEr ?_ | exact dz)
 refine cP ?_ ?_<;>intro h2
 rotate_left
 ·refine dr ?_
  exact pF fun hh=>h2 hh.1
 refine dr ?_
 rw [bqEnt]
 refine cP ?_ ?_<;>intro h3
 rotate_left
 ·refine dr ?_
  exact pF fun hh=>h3 hh.2.1
 refine dr ?_
 refine cP ?_ ?_<;>intro h4
 rotate_left
 ·refine dr ?_
  exact pF fun hh=>by rw [hh.2.2.1] at h4; cases h4
 refine dr ?_
 refine cP ?_ ?_<;>intro h5
 rotate_left
 ·refine dr ?_
  exact pF fun hh=>by have:=hh.2.2.2.1; omega
 refine dr ?_
 refine cP ?_ ?_<;>intro h6
 rotate_left
 ·refine dr ?_
  exact pF fun hh=>by have:=hh.2.2.2.2.1; omega
 refine dr ?_
 rw [znk]
 exact congrArg CB (tb_c ⟨fun h=>⟨h2,h3,h4,h5,h6,h⟩,fun h=>h.2.2.2.2.2⟩)
def zbQ:XC:=(.s (.r [.ex 3 (.box 0),.m1 6 .n]) (.s (.r [.f1 11 6 3,.l1 12 1 11,.mv 13 2,.i1 14 1 12 13,.l1 15 1 14,.a1 7 15 7 53]) (.s (.s (.r [.m1 8 (.i 0)]) (.blk 0 (.loop (.s (.s (.r [.mv 16 8,.mv 17 7,.n1 18 17,.b1 19 .lss 16 18]) (.cnd 19 .skip (.exit 0))) (.s (.blk 1 (.s (.r [.mv 22 7,.mv 23 8,.i1 24 7 22 23,.l2 25 7 24,.ex 9 (.alloc [sE,(B false),sE,(B false),sE,(I 0),(I 0)]),.s1 7 9 25]) (.s (.s (.r [.f1 26 0 9,.l1 27 1 26,.c1 28 106 [27],.ex 29 (.un .not 28),.mv 30 29,.gf 31 (.fa 5 9) 30,.gf 32 (.ld false 1 31) 30,.gf 33 (.bin .lss 32 (.i 0)) 30,.ex 34 (.pick 30 .y 33),.mv 35 34,.gf 36 (.fa 5 9) 35,.gf 37 (.ld false 1 36) 35,.gf 38 (.fa 4 3) 35,.gf 39 (.ld false 1 38) 35,.gf 40 (.bin .gtr 37 39) 35,.ex 41 (.pick 35 .y 40),.mv 42 41,.gf 43 (.ld true 14 3) 42,.gf 44 (.mv 1) 42,.gf 45 (.mv 2) 42,.gf 46 (.ld true 7 9) 42,.gf 47 (.call 108 [43,44,45,46]) 42,.gf 48 (.un .not 47) 42,.ex 49 (.pick 42 .y 48)]) (.cnd 49 (.s (.r [.m1 6 .n]) .ret) .skip)) (.s (.r [.m1 10 (.i 0)]) (.blk 2 (.loop (.s (.s (.r [.mv 50 10,.mv 51 8,.b1 52 .lss 50 51]) (.cnd 52 .skip (.exit 2))) (.s (.blk 3 (.s (.d [.mv 55 7,.mv 56 10,.i1 57 7 55 56,.f1 58 0 57,.l1 59 1 58,.f1 60 0 9,.l1 61 1 60,.b1 62 .eql 59 61]) (.cnd 62 (.s (.r [.m1 6 .n]) .ret) .skip))) (.r [.mv 53 10,.b1 54 .add 53 (.i 1),.mv 10 54]))))))))) (.r [.mv 20 8,.b1 21 .add 20 (.i 1),.mv 8 21])))))) (.s (.r [.m1 6 .y]) .ret))))
theorem zbR:compF Tryz.prog [] 66=some (zbQ.ac,[(.t 6)],63):=by kernel_rfl
theorem zfs (W0:World) (w:Wld) (t:List Ent) (who:Int) (hw:isW who) (hl:w.holds.length=3):Fn Tryz.prog W0 66 [eWld w,eEnts t,CI who] (.c (CB (tb (HdOk w t who)))) []:=by
 refine fnX (c:=zbQ) mixed zbR (by simp) rfl fun hg=>?_
 refine dr ?_
 repeat (refine aHd hw hl ?_; first | refine dr ?_ | exact dz)
 have e0:HdOk w t who↔(∀ h∈hdW w who,HdG w t who h)∧(hdW w who).Pairwise fun a b=>a.path≠b.path:=⟨fun h=>⟨h.g,h.d⟩,fun h=>⟨h.1,h.2⟩⟩
 rw [tb_c e0]
 have g0:=goodAgg (hg _ (by simp:eWld w∈_))
 have g1:(hdW w who).length≤9223372036854775807:=by
  have hk:who.toNat < w.holds.length:=by have:=hw.1; have:=hw.2; omega
  have e:hdW w who=w.holds[who.toNat]:=by unfold hdW; rw [List.getD_eq_getElem?_getD,List.getElem?_eq_getElem hk]; rfl
  have:=goodRow' (g0 _ (by simp:eHoldss w.holds∈_)) _ (List.getElem_mem hk) (eHolds w.holds[who.toNat]) (by simp [eHolds,CV.cells])
  rw [e]; exact goodRow this
 generalize hL:hdW w who=L at *
 refine lp (σ:=Nat) (fun k=>[(1,.c (eEnts t)),(2,.c (CI who)),(3,.ptr 48 0),(7,.c (eHolds L)),(8,I k)]) (fun _=>[(48,wBx w)]) (fun k=>k≤L.length∧(∀ h∈L.take k,HdG w t who h)∧(L.take k).Pairwise fun a b=>a.path≠b.path) (fun k=>L.length - k) 0 ⟨by omega,by simp,by simp⟩ ?_ ?_
 ·refine dr ?_
  trivial
 rintro k ⟨hk,hA,hP⟩
 refine dr ?_
 refine cP ?_ ?_<;>intro h1
 rotate_left
 ·have hkl:k=L.length:=by omega
  rw [hkl,List.take_length] at hA hP
  refine dr ?_
  exact pT ⟨hA,hP⟩
 have hk':k < L.length:=by omega
 have no:¬ HdG w t who L[k]→CB false=CB (tb ((∀ h∈L,HdG w t who h)∧L.Pairwise fun a b=>a.path≠b.path)):=fun h=>pF fun hh=>h (hh.1 _ (List.getElem_mem hk'))
 refine dEr ?_
 repeat (refine c0 (jE W0 _) rfl ?_; first | refine dEr ?_ | exact dz)
 refine cP ?_ ?_<;>intro a1
 ·refine dr ?_
  exact no fun h=>by rw [h.1] at a1; cases a1
 refine dr ?_
 refine cP ?_ ?_<;>intro a2
 ·refine dr ?_
  exact no fun h=>by have:=h.2.1; omega
 refine dr ?_
 refine cP ?_ ?_<;>intro a3
 ·refine dr ?_
  exact no fun h=>by have:=h.2.2.1; omega
 refine dEr ?_
 repeat (refine c0 (zfF W0 w t who L[k]) rfl ?_; first | refine dEr ?_ | exact dz)
 refine cP ?_ ?_<;>intro a4
 ·refine dr ?_
  exact no fun h=>a4 h.2.2.2
 refine dr ?_
 refine lp (σ:=Nat) (fun j=>[(1,.c (eEnts t)),(2,.c (CI who)),(3,.ptr 48 0),(7,.c (eHolds L)),(8,I k),(9,.ptr 144 0),(10,I j)]) (fun _=>[(48,wBx w),(144,.box (hCs L[k]))]) (fun j=>j≤k∧∀ l∈L.take j,l.path≠L[k].path) (fun j=>k - j) 0 ⟨by omega,by simp⟩ ?_ ?_
 ·refine dr ?_
  trivial
 rintro j ⟨hj,hD⟩
 refine dr ?_
 refine cP ?_ ?_<;>intro b1
 rotate_left
 ·have hjk:j=k:=by omega
  rw [hjk] at hD
  refine dr ?_
  refine ⟨k+1,⟨by omega,?_,?_⟩,by omega,?_⟩
  ·rw [List.take_succ_eq_append_getElem hk']
   intro l hl
   rcases List.mem_append.1 hl with h | h
   ·exact hA l h
   ·rw [List.mem_singleton.1 h]; exact ⟨a1,by omega,by omega,a4⟩
  ·rw [List.take_succ_eq_append_getElem hk',List.pairwise_append]
   exact ⟨hP,by simp,fun a ha b hb=>by rw [List.mem_singleton.1 hb]; exact hD a ha⟩
  refine dr ?_
  trivial
 have hjl:j < L.length:=by omega
 refine dr ?_
 refine cP ?_ ?_<;>intro b2
 ·refine dr ?_
  refine pF fun hh=>?_
  have:=List.pairwise_iff_getElem.1 hh.2 j k hjl hk' (by omega)
  exact this b2
 ·refine dr ?_
  refine ⟨j+1,⟨by omega,fun l hl=>?_⟩,by omega,?_⟩
  ·rw [List.take_succ_eq_append_getElem hjl] at hl
   rcases List.mem_append.1 hl with h' | h'
   ·exact hD l h'
   ·rw [List.mem_singleton.1 h']; exact b2
  refine dr ?_
  trivial
def zbM:XC:=(.s (.r [.ex 2 (.box 0),.ex 3 (.box 1),.m1 4 .n]) (.s (.r [.f1 7 6 2,.l1 8 1 7,.f1 9 1 3,.l1 10 1 9,.i1 11 1 8 10,.l1 12 1 11,.a1 5 12 7 53]) (.s (.s (.r [.m1 6 (.i 0)]) (.blk 0 (.loop (.s (.s (.r [.mv 13 6,.mv 14 5,.n1 15 14,.b1 16 .lss 13 15]) (.cnd 16 .skip (.exit 0))) (.s (.blk 1 (.s (.d [.mv 19 5,.mv 20 6,.i1 21 7 19 20,.f1 22 0 21,.l1 23 1 22,.f1 24 2 3,.f1 25 0 24,.l1 26 1 25,.b1 27 .eql 23 26,.mv 28 27,.gt 29 (.mv 5) 28,.gt 30 (.mv 6) 28,.gt 31 (.ia 7 29 30) 28,.gt 32 (.fa 5 31) 28,.gt 33 (.ld false 1 32) 28,.gt 34 (.fa 2 3) 28,.gt 35 (.fa 5 34) 28,.gt 36 (.ld false 1 35) 28,.gt 37 (.bin .leq 33 36) 28,.ex 38 (.pick 28 37 .n)]) (.cnd 38 (.s (.r [.m1 4 .n]) .ret) .skip))) (.r [.mv 17 6,.b1 18 .add 17 (.i 1),.mv 6 18])))))) (.s (.d [.f1 39 2 3,.f1 40 5 39,.l1 41 1 40,.f1 42 7 2,.l1 43 1 42,.f1 44 1 3,.l1 45 1 44,.i1 46 1 43 45,.l1 47 1 46,.b1 48 .leq 41 47,.mv 4 48]) .ret))))
theorem zbN:compF Tryz.prog [] 109=some (zbM.ac,[(.t 4)],49):=by kernel_rfl
theorem zfq (W0:World) (w:Wld) (m:Msg) (hw:isW m.who) (hl:w.holds.length=3) (hf:w.floors.length=3):Fn Tryz.prog W0 109 [eWld w,eMsg m] (.c (CB (tb (Given w m)))) []:=by
 refine fnX (c:=zbM) mixed zbN (by simp) rfl fun hg=>?_
 refine dr ?_
 repeat (refine aHd hw hl ?_; first | refine dr ?_ | exact dz)
 have g0:=goodAgg (hg _ (by simp:eWld w∈_))
 have g1:(hdW w m.who).length≤9223372036854775807:=by
  have hk:m.who.toNat < w.holds.length:=by have:=hw.1; have:=hw.2; omega
  have e:hdW w m.who=w.holds[m.who.toNat]:=by unfold hdW; rw [List.getD_eq_getElem?_getD,List.getElem?_eq_getElem hk]; rfl
  have:=goodRow' (g0 _ (by simp:eHoldss w.holds∈_)) _ (List.getElem_mem hk) (eHolds w.holds[m.who.toNat]) (by simp [eHolds,CV.cells])
  rw [e]; exact goodRow this
 have e0:Given w m↔m.hold.num≤flW w m.who∧∀ h∈hdW w m.who,h.path=m.hold.path→m.hold.num < h.num:=Iff.rfl
 rw [tb_c e0]
 generalize hL:hdW w m.who=L at *
 refine lp (σ:=Nat) (fun k=>[(2,.ptr 32 0),(3,.ptr 48 0),(5,.c (eHolds L)),(6,I k)]) (fun _=>[(32,wBx w),(48,.box (mCs m))]) (fun k=>k≤L.length∧∀ h∈L.take k,h.path=m.hold.path→m.hold.num < h.num) (fun k=>L.length - k) 0 ⟨by omega,by simp⟩ ?_ ?_
 ·refine dr ?_
  trivial
 rintro k ⟨hk,hA⟩
 refine dr ?_
 refine cP ?_ ?_<;>intro h1
 rotate_left
 ·have hkl:k=L.length:=by omega
  rw [hkl,List.take_length] at hA
  refine dr ?_
  repeat (refine aFl hw hf ?_; first | refine dr ?_ | exact dz)
  rw [znk]
  exact congrArg CB (tb_c ⟨fun h=>⟨h,hA⟩,fun h=>h.1⟩)
 have hk':k < L.length:=by omega
 have next:(L[k].path=m.hold.path→m.hold.num < L[k].num)→∀ h∈L.take (k+1),h.path=m.hold.path→m.hold.num < h.num:=fun h l hl=>by
  rw [List.take_succ_eq_append_getElem hk'] at hl
  rcases List.mem_append.1 hl with h' | h'
  ·exact hA l h'
  ·rw [List.mem_singleton.1 h']; exact h
 refine dr ?_
 refine cP ?_ ?_<;>intro h2
 ·refine dr ?_
  refine cP ?_ ?_<;>intro h3
  ·refine dr ?_
   exact pF fun hh=>by have:=hh.2 _ (List.getElem_mem hk') h2; omega
  ·refine dr ?_
   refine ⟨k+1,⟨by omega,next fun _=>by omega⟩,by omega,?_⟩
   refine dr ?_
   trivial
 ·refine dr ?_
  refine ⟨k+1,⟨by omega,next fun h=>absurd h h2⟩,by omega,?_⟩
  refine dr ?_
  trivial
def zb4:XC:=(.s (.r [.ex 3 (.box 0),.ex 5 (.box 2),.m1 6 .n]) (.s (.r [.f1 8 2 5,.l2 9 7 8,.ex 7 (.alloc [sE,(B false),sE,(B false),sE,(I 0),(I 0)]),.s1 7 7 9]) (.s (.s (.r [.f1 10 1 5,.l1 11 1 10,.c1 12 37 [11],.ex 13 (.un .not 12),.mv 14 13,.gf 15 (.fa 0 7) 14,.gf 16 (.ld false 1 15) 14,.gf 17 (.call 106 [16]) 14,.gf 18 (.un .not 17) 14,.ex 19 (.pick 14 .y 18),.mv 20 19,.gf 21 (.fa 5 7) 20,.gf 22 (.ld false 1 21) 20,.gf 23 (.bin .lss 22 (.i 0)) 20,.ex 24 (.pick 20 .y 23),.mv 25 24,.gf 26 (.fa 5 7) 25,.gf 27 (.ld false 1 26) 25,.gf 28 (.fa 4 3) 25,.gf 29 (.ld false 1 28) 25,.gf 30 (.bin .gtr 27 29) 25,.ex 31 (.pick 25 .y 30),.mv 32 31,.gf 33 (.fa 0 5) 32,.gf 34 (.ld false 1 33) 32,.gf 35 (.bin .lss 34 (.i 1)) 32,.ex 36 (.pick 32 .y 35),.mv 37 36,.gf 38 (.fa 0 5) 37,.gf 39 (.ld false 1 38) 37,.gf 40 (.bin .gtr 39 (.i 4)) 37,.ex 41 (.pick 37 .y 40)]) (.cnd 41 (.s (.r [.m1 6 .n]) .ret) .skip)) (.s (.s (.r [.f1 42 0 5,.l1 43 1 42,.b1 44 .eql 43 (.i 2)]) (.cnd 44 (.s (.d [.f1 45 5 7,.l1 46 1 45,.f1 47 7 3,.l1 48 1 47,.f1 49 1 5,.l1 50 1 49,.i1 51 1 48 50,.l1 52 1 51,.b1 53 .leq 46 52,.mv 54 53,.gf 55 (.ld true 14 3) 54,.gf 56 (.mv 1) 54,.gf 57 (.fa 1 5) 54,.gf 58 (.ld false 1 57) 54,.gf 59 (.ld true 7 7) 54,.gf 60 (.call 108 [55,56,58,59]) 54,.ex 61 (.pick 54 .y 60),.mv 6 61]) .ret) .skip)) (.s (.s (.r [.l2 62 7 7,.f1 63 0 7,.l1 64 1 63,.f1 65 5 7,.l1 66 1 65,.ex 67 (.build [sE,(B false),sE,(B false),sE,(I 0),(I 0)] [(0,(1,64)),(5,(1,66))]),.ex 68 (.beq true [.s,.b,.s,.b,.s,(.i .i64),(.i .i64)] 62 67)]) (.cnd 68 (.s (.r [.m1 6 .n]) .ret) .skip)) (.s (.r [.f1 69 0 5,.l1 70 1 69,.b1 71 .neq 70 (.i 4),.mv 72 71,.gf 73 (.ld true 14 3) 72,.gf 74 (.ld true 9 5) 72,.gf 75 (.call 109 [73,74]) 72,.ex 76 (.pick 72 .y 75),.mv 6 76]) .ret))))))
theorem zb5:compF Tryz.prog [] 67=some (zb4.ac,[(.t 6)],77):=by kernel_rfl
theorem zfy (W0:World) (w:Wld) (t:List Ent) (m:Msg) (hl:w.holds.length=3) (hf:w.floors.length=3):Fn Tryz.prog W0 67 [eWld w,eEnts t,eMsg m] (.c (CB (tb (MsOk w t m)))) []:=by
 refine fnX (c:=zb4) mixed zb5 (by simp) rfl fun hg=>?_
 refine dr ?_
 refine c0 (jz W0 _) rfl ?_
 refine dEr ?_
 refine cP ?_ ?_<;>intro a1
 ·refine dr ?_
  exact pF fun h=>a1 h.who
 refine dEr ?_
 repeat (refine c0 (jE W0 _) rfl ?_; first | refine dEr ?_ | exact dz)
 refine cP ?_ ?_<;>intro a2
 ·refine dr ?_
  exact pF fun h=>by rw [h.path] at a2; cases a2
 refine dr ?_
 refine cP ?_ ?_<;>intro a3
 ·refine dr ?_
  exact pF fun h=>by have:=h.num; omega
 refine dr ?_
 refine cP ?_ ?_<;>intro a4
 ·refine dr ?_
  exact pF fun h=>by have:=h.num; omega
 refine dr ?_
 refine cP ?_ ?_<;>intro a5
 ·refine dr ?_
  exact pF fun h=>by have:=h.kind; omega
 refine dr ?_
 refine cP ?_ ?_<;>intro a6
 ·refine dr ?_
  exact pF fun h=>by have:=h.kind; omega
 refine dr ?_
 refine cP ?_ ?_<;>intro a7
 ·refine dr ?_
  repeat (refine aFl a1 hf ?_; first | refine dr ?_ | exact dz)
  refine cP ?_ ?_<;>intro a8
  ·refine dr ?_
   exact pT ⟨a1,a2,⟨by omega,by omega⟩,⟨by omega,by omega⟩,fun _ => .inl a8,fun h=>absurd a7 h,fun h=>by omega⟩
  ·refine dEr ?_
   repeat (refine c0 (zfF W0 w t m.who m.hold) rfl ?_; first | refine dEr ?_ | exact dz)
   refine congrArg CB (tb_c ⟨fun h=>⟨a1,a2,⟨by omega,by omega⟩,⟨by omega,by omega⟩,fun _ => .inr h,fun h=>absurd a7 h,fun h=>by omega⟩,fun h=>?_⟩)
   rcases h.grant a7 with h | h
   ·omega
   ·exact h
 refine dr ?_
 rw [show (eqS m.hold.path m.hold.path&&(eqB m.hold.has false&&(eqS m.hold.ent.path []&&(eqB m.hold.ent.dir false&&(eqS m.hold.ent.data []&&(eqI m.hold.num m.hold.num&&(eqI m.hold.til 0&&true)))))))=decide (m.hold=plainH m.hold) from bqHold m.hold (plainH m.hold)]
 refine cP ?_ ?_<;>intro a8
 ·refine dr ?_
  exact pF fun h=>a8 (h.plain a7)
 refine dr ?_
 refine cP ?_ ?_<;>intro a9
 ·refine dr ?_
  exact pT ⟨a1,a2,⟨by omega,by omega⟩,⟨by omega,by omega⟩,fun h=>absurd h a7,fun _=>a8,fun h=>absurd h a9⟩
 ·refine dEr ?_
  repeat (refine c0 (zfq W0 w m a1 hl hf) rfl ?_; first | refine dEr ?_ | exact dz)
  exact congrArg CB (tb_c ⟨fun h=>⟨a1,a2,⟨by omega,by omega⟩,⟨by omega,by omega⟩,fun h=>absurd h a7,fun _=>a8,fun _=>h⟩,fun h=>h.back (by omega)⟩)
def zca:XC:=(.s (.r [.ex 1 (.box 0),.m1 2 .n]) (.s (.s (.r [.f1 4 3 1,.l1 5 1 4,.b1 6 .lss 5 (.i 0),.mv 7 6,.gf 8 (.fa 3 1) 7,.gf 9 (.ld false 1 8) 7,.gf 10 (.bin .gtr 9 (.i 10000)) 7,.ex 11 (.pick 7 .y 10),.mv 12 11,.gf 13 (.fa 4 1) 12,.gf 14 (.ld false 1 13) 12,.gf 15 (.bin .lss 14 (.i 0)) 12,.ex 16 (.pick 12 .y 15),.mv 17 16,.gf 18 (.fa 4 1) 17,.gf 19 (.ld false 1 18) 17,.gf 20 (.bin .gtr 19 (.i 10000)) 17,.ex 21 (.pick 17 .y 20),.mv 22 21,.gf 23 (.fa 6 1) 22,.gf 24 (.ld false 1 23) 22,.gf 25 (.len false 24) 22,.gf 26 (.bin .neq 25 (.i 3)) 22,.ex 27 (.pick 22 .y 26),.mv 28 27,.gf 29 (.fa 7 1) 28,.gf 30 (.ld false 1 29) 28,.gf 31 (.len false 30) 28,.gf 32 (.bin .neq 31 (.i 3)) 28,.ex 33 (.pick 28 .y 32),.mv 34 33,.gf 35 (.fa 8 1) 34,.gf 36 (.ld false 1 35) 34,.gf 37 (.len false 36) 34,.gf 38 (.bin .gtr 37 (.i 12)) 34,.ex 39 (.pick 34 .y 38)]) (.cnd 39 (.s (.r [.m1 2 .n]) .ret) .skip)) (.s (.s (.r [.m1 3 (.i 0)]) (.blk 0 (.loop (.s (.s (.r [.mv 40 3,.b1 41 .lss 40 (.i 3)]) (.cnd 41 .skip (.exit 0))) (.s (.blk 1 (.s (.d [.f1 44 7 1,.l1 45 1 44,.mv 46 3,.i1 47 1 45 46,.l1 48 1 47,.b1 49 .lss 48 (.i 0),.mv 50 49,.gf 51 (.fa 7 1) 50,.gf 52 (.ld false 1 51) 50,.gf 53 (.mv 3) 50,.gf 54 (.ia 1 52 53) 50,.gf 55 (.ld false 1 54) 50,.gf 56 (.fa 4 1) 50,.gf 57 (.ld false 1 56) 50,.gf 58 (.bin .gtr 55 57) 50,.ex 59 (.pick 50 .y 58)]) (.cnd 59 (.s (.r [.m1 2 .n]) .ret) .skip))) (.r [.mv 42 3,.b1 43 .add 42 (.i 1),.mv 3 43])))))) (.s (.r [.m1 2 .y]) .ret))))
theorem zcb:compF Tryz.prog [] 63=some (zca.ac,[(.t 2)],60):=by kernel_rfl
theorem zfD (W0:World) (w:Wld):Fn Tryz.prog W0 63 [eWld w] (.c (CB (tb (PlW w)))) []:=by
 refine fnX (c:=zca) mixed zcb (by simp) rfl fun hg=>?_
 refine dr ?_
 refine cP ?_ ?_<;>intro a1
 ·refine dr ?_
  exact pF fun h=>by have:=h.ck; omega
 refine dr ?_
 refine cP ?_ ?_<;>intro a2
 ·refine dr ?_
  exact pF fun h=>by have:=h.ck; omega
 refine dr ?_
 refine cP ?_ ?_<;>intro a3
 ·refine dr ?_
  exact pF fun h=>by have:=h.ct; omega
 refine dr ?_
 refine cP ?_ ?_<;>intro a4
 ·refine dr ?_
  exact pF fun h=>by have:=h.ct; omega
 refine dr ?_
 refine cP ?_ ?_<;>intro a5
 ·refine dr ?_
  exact pF fun h=>by have:=h.hl; omega
 refine dr ?_
 refine cP ?_ ?_<;>intro a6
 ·refine dr ?_
  exact pF fun h=>by have:=h.fl; omega
 refine dr ?_
 refine cP ?_ ?_<;>intro a7
 ·refine dr ?_
  exact pF fun h=>by have:=h.nl; omega
 have hf:w.floors.length=3:=by omega
 refine dr ?_
 refine lp (σ:=Nat) (fun k=>[(1,.ptr 16 0),(3,I k)]) (fun _=>[(16,wBx w)]) (fun k=>k≤3∧∀ f∈w.floors.take k,0≤f∧f≤w.count) (fun k=>3 - k) 0 ⟨by omega,by simp⟩ ?_ ?_
 ·refine dr ?_
  trivial
 rintro k ⟨hk,hA⟩
 refine dr ?_
 refine cP ?_ ?_<;>intro h1
 rotate_left
 ·have hkl:k=w.floors.length:=by omega
  rw [hkl,List.take_length] at hA
  refine dr ?_
  exact pT ⟨⟨by omega,by omega⟩,⟨by omega,by omega⟩,by omega,by omega,by omega,hA⟩
 have hk':k < w.floors.length:=by omega
 refine dr ?_
 refine cP ?_ ?_<;>intro h2
 ·refine dr ?_
  exact pF fun h=>by have:=h.fr _ (List.getElem_mem hk'); omega
 refine dr ?_
 refine cP ?_ ?_<;>intro h3
 ·refine dr ?_
  exact pF fun h=>by have:=h.fr _ (List.getElem_mem hk'); omega
 ·refine dr ?_
  refine ⟨k+1,⟨by omega,fun l hl=>?_⟩,by omega,?_⟩
  ·rw [List.take_succ_eq_append_getElem hk'] at hl
   rcases List.mem_append.1 hl with h' | h'
   ·exact hA l h'
   ·rw [List.mem_singleton.1 h']; exact ⟨by omega,by omega⟩
  refine dr ?_
  trivial
def zcq:XC:=(.s (.r [.ex 2 (.box 0),.m1 4 .n]) (.s (.s (.r [.f1 7 9 2,.l1 8 1 7,.ex 9 (.un .not 8)]) (.cnd 9 (.s (.r [.f1 10 10 2,.l2 11 4 10,.ex 12 (.build [(I 0),sE,sE,sE] []),.ex 13 (.beq false [(.i .i64),.s,.s,.s] 11 12),.mv 4 13]) .ret) .skip)) (.s (.r [.mv 15 1,.f1 16 10 2,.l2 17 4 16,.c1 18 107 [15,17],.mv 14 18,.e1 19 14 0,.e1 20 14 1,.a1 5 19 3 39,.mv 6 20]) (.s (.r [.mv 21 6,.b1 22 .eql 21 (.i 0),.mv 4 22]) .ret))))
theorem zcr:compF Tryz.prog [] 65=some (zcq.ac,[(.t 4)],23):=by kernel_rfl
theorem zfK (W0:World) (w:Wld) (t:List Ent):Fn Tryz.prog W0 65 [eWld w,eEnts t] (.c (CB (tb (WtOk w t)))) []:=by
 refine fnX (c:=zcq) mixed zcr (by simp) rfl fun hg=>?_
 refine dr ?_
 refine cP ?_ ?_<;>intro h1
 ·refine dr ?_
  rw [show (eqI w.op.kind 0&&(eqS w.op.path []&&(eqS w.op.dest []&&(eqS w.op.data []&&true))))=decide (w.op=noOp) from bqOp w.op noOp]
  by_cases h2:w.op=noOp
  ·rw [decide_eq_true h2]
   exact pT ⟨fun _=>h2,fun h=>by rw [h1] at h; cases h⟩
  ·rw [decide_eq_false h2]
   exact pF fun h=>h2 (h.1 h1)
 ·refine dEr ?_
  repeat (refine c0 (jG W0 t w.op) rfl ?_; first | refine dEr ?_ | exact dz)
  refine congrArg CB ?_
  rw [Bool.eq_iff_iff,zT,tb_i]
  exact ⟨fun h=>⟨fun h2=>(by rw [h1] at h2; cases h2),fun _=>h⟩,fun h=>h.2 h1⟩
def Y2:XC:=(.s (.r [.ex 1 (.box 0),.m1 2 .n]) (.s (.r [.f1 8 0 1,.l2 9 3 8,.c1 10 62 [9],.mv 7 10,.e1 11 7 0,.e1 12 7 1,.a1 3 11 3 39,.mv 4 12]) (.s (.s (.r [.mv 13 4,.ex 14 (.un .not 13),.mv 15 14,.gf 16 (.ld true 14 1) 15,.gf 17 (.call 63 [16]) 15,.gf 18 (.un .not 17) 15,.ex 19 (.pick 15 .y 18),.mv 20 19,.gf 21 (.ld true 14 1) 20,.gf 22 (.call 64 [21]) 20,.gf 23 (.un .not 22) 20,.ex 24 (.pick 20 .y 23),.mv 25 24,.gf 26 (.ld true 14 1) 25,.gf 27 (.mv 3) 25,.gf 28 (.call 65 [26,27]) 25,.gf 29 (.un .not 28) 25,.ex 30 (.pick 25 .y 29)]) (.cnd 30 (.s (.r [.m1 2 .n]) .ret) .skip)) (.s (.s (.r [.m1 5 (.i 0)]) (.blk 0 (.loop (.s (.s (.r [.mv 31 5,.b1 32 .lss 31 (.i 3)]) (.cnd 32 .skip (.exit 0))) (.s (.blk 1 (.s (.r [.l2 35 14 1,.mv 36 3,.mv 37 5,.c1 38 66 [35,36,37],.ex 39 (.un .not 38)]) (.cnd 39 (.s (.r [.m1 2 .n]) .ret) .skip))) (.r [.mv 33 5,.b1 34 .add 33 (.i 1),.mv 5 34])))))) (.s (.s (.r [.m1 6 (.i 0)]) (.blk 2 (.loop (.s (.s (.r [.mv 40 6,.f1 41 8 1,.l1 42 1 41,.n1 43 42,.b1 44 .lss 40 43]) (.cnd 44 .skip (.exit 2))) (.s (.blk 3 (.s (.d [.l2 47 14 1,.mv 48 3,.f1 49 8 1,.l1 50 1 49,.mv 51 6,.i1 52 9 50 51,.l2 53 9 52,.c1 54 67 [47,48,53],.ex 55 (.un .not 54)]) (.cnd 55 (.s (.r [.m1 2 .n]) .ret) .skip))) (.r [.mv 45 6,.b1 46 .add 45 (.i 1),.mv 6 46])))))) (.s (.r [.m1 2 .y]) .ret))))))
theorem Y3:compF Tryz.prog [] 21=some (Y2.ac,[(.t 2)],56):=by kernel_rfl
theorem zgk (W0:World) (w:Wld):Fn Tryz.prog W0 21 [eWld w] (.c (CB (tb (WG w)))) []:=by
 refine fnX (c:=Y2) mixed Y3 (by simp) rfl fun hg=>?_
 have hv:=zgd W0 w.over
 cases h1:oOk w.over with
 | false =>
  rw [h1] at hv
  refine dEr ?_
  repeat (refine c0 hv rfl ?_; first | refine dEr ?_ | exact dz)
  exact pF fun h=>by rw [h.ov] at h1; cases h1
 | true =>
  obtain ⟨t',x,g⟩:=OG.of h1
  have ev:vwG w.over=x:=g.vwG
  rw [h1,if_pos rfl,g.vw] at hv
  have g0:=goodAgg (hg _ (by simp:eWld w∈_))
  have g1:w.net.length≤9223372036854775807:=goodRow (g0 _ (by simp:eMsgs w.net∈_))
  refine dEr ?_
  repeat ((first | refine c0 hv rfl ?_ | refine c0 (zfD W0 w) rfl ?_); first | refine dEr ?_ | exact dz)
  refine cP ?_ ?_<;>intro a1
  ·refine dr ?_
   exact pF fun h=>a1 h.pl
  refine dEr ?_
  repeat (refine c0 (zfv W0 w a1.ck.2) rfl ?_; first | refine dEr ?_ | exact dz)
  refine cP ?_ ?_<;>intro a2
  ·refine dr ?_
   exact pF fun h=>a2 h.ls
  refine dEr ?_
  repeat (refine c0 (zfK W0 w x) rfl ?_; first | refine dEr ?_ | exact dz)
  refine cP ?_ ?_<;>intro a3
  ·refine dr ?_
   exact pF fun h=>a3 (by have:=h.wt; rwa [ev] at this)
  refine dr ?_
  refine lp (σ:=Nat) (fun k=>[(1,.ptr 16 0),(3,.c (eEnts x)),(5,I k)]) (fun _=>[(16,wBx w)]) (fun k=>k≤3∧∀ i:Nat,i < k→HdOk w x i) (fun k=>3 - k) 0 ⟨by omega,fun i hi=>by omega⟩ ?_ ?_
  ·refine dr ?_
   trivial
  rintro k ⟨hk,hA⟩
  refine dr ?_
  refine cP ?_ ?_<;>intro b1
  ·refine dEr ?_
   repeat (refine c0 (zfs W0 w x (k:Int) ⟨by omega,by omega⟩ a1.hl) rfl ?_; first | refine dEr ?_ | exact dz)
   refine cP ?_ ?_<;>intro b2
   ·refine dr ?_
    exact pF fun h=>b2 (by have:=h.hd k (by omega); rwa [ev] at this)
   ·refine dr ?_
    refine ⟨k+1,⟨by omega,fun i hi=>?_⟩,by omega,?_⟩
    ·by_cases he:i=k
     ·subst he; exact b2
     ·exact hA i (by omega)
    refine dr ?_
    trivial
  have hA:∀ i:Nat,i < 3→HdOk w x i:=fun i hi=>hA i (by omega)
  refine dr ?_
  refine lp (σ:=Nat) (fun k=>[(1,.ptr 16 0),(3,.c (eEnts x)),(6,I k)]) (fun _=>[(16,wBx w)]) (fun k=>k≤w.net.length∧∀ m∈w.net.take k,MsOk w x m) (fun k=>w.net.length - k) 0 ⟨by omega,by simp⟩ ?_ ?_
  ·refine dr ?_
   trivial
  rintro k ⟨hk,hM⟩
  refine dr ?_
  refine cP ?_ ?_<;>intro c1
  ·have hk':k < w.net.length:=by omega
   refine dEr ?_
   repeat (refine c0 (zfy W0 w x w.net[k] a1.hl a1.fl) rfl ?_; first | refine dEr ?_ | exact dz)
   refine cP ?_ ?_<;>intro c2
   ·refine dr ?_
    exact pF fun h=>c2 (by have:=h.ms _ (List.getElem_mem hk'); rwa [ev] at this)
   ·refine dr ?_
    refine ⟨k+1,⟨by omega,fun l hl=>?_⟩,by omega,?_⟩
    ·rw [List.take_succ_eq_append_getElem hk'] at hl
     rcases List.mem_append.1 hl with h' | h'
     ·exact hM l h'
     ·rw [List.mem_singleton.1 h']; exact c2
    refine dr ?_
    trivial
  have hkl:k=w.net.length:=by omega
  rw [hkl,List.take_length] at hM
  refine dr ?_
  exact pT ⟨h1,a1,a2,by rw [ev]; exact a3,by rw [ev]; exact hA,by rw [ev]; exact hM⟩

section
variable {w:Wld}
def LsStep (w x:Wld):Prop:=(x.count=w.count∧∀ l∈x.leases,l∈w.leases) ∨
 ∃ who p,x.count=w.count+1∧x.leases=offL w.leases who p (w.count+1)++[⟨who,p,w.count+1,w.clock+5⟩]
theorem LsStep.refl {x:Wld} (h1:x.count=w.count) (h2:x.leases=w.leases):LsStep w x := .inl ⟨h1,fun l hl=>by rw [h2] at hl; exact hl⟩
theorem LsStep.count {x:Wld} (h:LsStep w x):w.count≤x.count∧x.count≤w.count+1:=by
 rcases h with ⟨h,_⟩ | ⟨_,_,h,_⟩<;>omega
theorem LsStep.fresh {x:Wld} (h:LsStep w x) (hw:WG w):((x.leases.filter fun l=>decide (w.count < l.num)).length:Int)=x.count - w.count:=by
 have hf:∀ l∈w.leases,¬ decide (w.count < l.num)=true:=fun l hl=>by have:=(hw.ls.g l hl).2.2.2.1; simp; omega
 rcases h with ⟨h1,h2⟩ | ⟨who,p,h1,h2⟩
 ·have:x.leases.filter (fun l=>decide (w.count < l.num))=[]:=List.filter_eq_nil_iff.2 fun l hl=>hf l (h2 l hl)
  rw [this,h1]; simp
 ·rw [h2,List.filter_append]
  have:(offL w.leases who p (w.count+1)).filter (fun l=>decide (w.count < l.num))=[]:=List.filter_eq_nil_iff.2 fun l hl=>hf l (yh.1 hl).1
  rw [this]
  rw [List.filter_cons,if_pos (by simp only [decide_eq_true_eq]; omega)]
  rw [h1]; simp; omega
end

def zaO:XC:=(.s (.r [.ex 4 (.alloc [(I 0),sE,sE,sE])]) (.s (.r [.mv 6 0,.ex 7 (.bsl 1 3 [(.i 1),(.i 2),(.i 2),(.i 3),(.i 4),(.i 5),(.i 1),(.i 5)]),.o1 8 36 [6,7],.mv 9 0,.o1 10 92 [9],.ex 11 (.build [(I 0),sE,sE,sE] [(0,(1,8)),(1,(1,10))]),.ex 5 (.alloc [(I 0),sE,sE,sE]),.s1 4 5 11]) (.cut (.s (.r [.mv 12 1,.n1 13 12,.b1 14 .gtr 13 (.i 0),.mv 15 14,.gt 16 (.fa 0 5) 15,.gt 17 (.ld false 1 16) 15,.gt 18 (.bin .gtr 17 (.i 2)) 15,.ex 19 (.pick 15 18 .n),.mv 20 19,.gt 21 (.mv 0) 20,.gt 22 (.opn 38 [21,(.i 4)]) 20,.gt 23 (.bin .gtr 22 (.i 0)) 20,.ex 24 (.pick 20 23 .n)]) (.cnd 24 (.r [.mv 25 1,.mv 26 0,.mv 27 1,.n1 28 27,.o1 29 38 [26,28],.i1 30 3 25 29,.f1 31 0 30,.l1 32 1 31,.f1 33 1 5,.s1 1 33 32]) .skip)) (.cut (.s (.r [.f1 34 0 5,.l1 35 1 34,.b1 36 .eql 35 (.i 2)]) (.cnd 36 (.r [.mv 37 0,.o1 38 173 [37],.f1 39 3 5,.s1 1 39 38]) .skip)) (.cut (.s (.r [.f1 40 0 5,.l1 41 1 40,.b1 42 .eql 41 (.i 5)]) (.cnd 42 (.r [.mv 43 0,.o1 44 92 [43],.f1 45 2 5,.s1 1 45 44]) .skip)) (.cut (.s (.r [.mv 46 0,.o1 47 38 [46,(.i 50)]]) (.blk 0 (.s (.r [.b1 49 .eql 47 (.i 0),.mv 48 49]) (.cnd 48 (.r [.mv 50 0,.ex 51 (.bsl 1 3 [(.i 0),(.i 6),(.k (.c (.sc (.int .i64 (.negSucc 0))))),(.i 1)]),.o1 52 36 [50,51],.f1 53 0 5,.s1 1 53 52]) (.s (.r [.b1 55 .eql 47 (.i 1),.mv 54 55]) (.cnd 54 (.r [.mv 56 0,.ex 57 (.bsl 1 9 [(.s [47]),(.s []),(.s [47,65]),(.s [47,97,47,98,47,99,47,100])]),.o1 58 95 [56,57],.f1 59 1 5,.s1 1 59 58]) (.s (.r [.b1 61 .eql 47 (.i 2),.mv 60 61]) (.cnd 60 (.r [.mv 62 0,.ex 63 (.bsl 1 9 [(.s [47]),(.s [47,97]),(.s [47,99,47,99,47,99]),(.s [])]),.o1 64 95 [62,63],.f1 65 2 5,.s1 1 65 64]) (.s (.r [.b1 67 .eql 47 (.i 3),.mv 66 67]) (.cnd 66 (.r [.mv 68 0,.ex 69 (.bsl 1 9 [(.s [113]),(.s [65]),(.s [97,98,99,100,101,102,103]),(.s [97,98,99,100,101,102])]),.o1 70 95 [68,69],.f1 71 3 5,.s1 1 71 70]) .skip)))))))))) (.s (.r [.l2 72 4 5,.s1 4 4 72]) .ret)))))))
theorem zaP:compF Tryz.prog [38,36,95,92,173] 112=some (zaO.ac,[(.cell 4 true 4)],73):=by kernel_rfl
theorem zeX (W0:World) (s:Str) (p:Int) (t:List Ent) (hs:s.length≤2000) (hp:0≤p∧p≤100000) (ht:t.length≤100000) :
  FunW Tryz.prog W0 112 [.ptr 1 0,.c (eEnts t)] (Rd s p) (fun x:Op × Int=>p≤x.2∧x.2≤p+8) (fun x => .c (eOp x.1)) (fun x=>Rd s x.2):=by
 refine funW (c:=zaO) mixed zaP (by simp) rfl rfl fun hg=>?_
 refine dr ?_
 refine oW (jA W0 s p [1,2,2,3,4,5,1,5] hs (by omega) (by decide)) rfl ⟨rfl,trivial⟩ rfl rfl ⟨1,by decide⟩ fun k hk=>⟨rfl,?_⟩
 refine dr ?_
 refine oW (jp W0 s (p+1) hs (by omega)) rfl ⟨rfl,trivial⟩ rfl rfl ⟨_,List.mem_cons_self⟩ fun x hx=>⟨rfl,?_⟩
 refine dEr ?_
 refine cutp2 (fun (o:Op) (q:Int)=>[(0,.ptr 1 0),(4,.ptr 64 0),(5,.ptr 80 0)]) (fun o q=>[(1,.box [.c (eCode s),.c (CI q)]),(64,.box [.c (CI 0),.c (CS []),.c (CS []),.c (CS [])]),(80,.box [.c (CI o.kind),.c (CS o.path),.c (CS o.dest),.c (CS o.data)])]) (fun o q=>p≤q∧q≤p+4) ?_ ?_
 ·refine dr ?_
  refine cP ?_ ?_<;>intro h1
  ·refine dr ?_
   refine cP ?_ ?_<;>intro h2
   ·refine dr ?_
    refine oW (jB W0 s (p+1+1) 4 hs (by omega) (by omega)) rfl ⟨rfl,trivial⟩ rfl rfl ⟨0,by omega,by omega⟩ fun k1 hk1=>⟨rfl,?_⟩
    refine dEr ?_
    refine cP ?_ ?_<;>intro h3
    ·refine dEr ?_
     refine oW (jB W0 s (p+1+1+1) t.length hs (by omega) (by omega)) rfl ⟨rfl,trivial⟩ rfl rfl ⟨0,by omega,by omega⟩ fun k2 hk2=>⟨rfl,?_⟩
     refine dEr ?_
     repeat (refine aX hk2.1 (hk2.2 (by omega)) fun e he=>?_; first | refine dEr ?_ | exact dz)
     refine ⟨⟨k,e.path,[],[]⟩,p+1+1+1+1,⟨by omega,by omega⟩,?_⟩
     refine dr ?_
     trivial
    ·refine dEr ?_
     refine ⟨⟨k,x,[],[]⟩,p+1+1+1,⟨by omega,by omega⟩,?_⟩
     refine dr ?_
     trivial
   ·refine dr ?_
    refine ⟨⟨k,x,[],[]⟩,p+1+1,⟨by omega,by omega⟩,?_⟩
    refine dr ?_
    trivial
  ·refine dr ?_
   refine ⟨⟨k,x,[],[]⟩,p+1+1,⟨by omega,by omega⟩,?_⟩
   refine dr ?_
   trivial
 rintro o q ⟨hq1,hq2⟩
 refine dr ?_
 refine cutp2 (fun (o:Op) (q:Int)=>[(0,.ptr 1 0),(4,.ptr 64 0),(5,.ptr 80 0)]) (fun o q=>[(1,.box [.c (eCode s),.c (CI q)]),(64,.box [.c (CI 0),.c (CS []),.c (CS []),.c (CS [])]),(80,.box [.c (CI o.kind),.c (CS o.path),.c (CS o.dest),.c (CS o.data)])]) (fun o q=>p≤q∧q≤p+5) ?_ ?_
 ·refine dr ?_
  refine cP ?_ ?_<;>intro h1
  ·refine dr ?_
   refine oW (zeZ W0 s q hs (by omega)) rfl ⟨rfl,trivial⟩ rfl rfl ⟨_,List.mem_cons_self⟩ fun y hy=>⟨rfl,?_⟩
   refine dEr ?_
   refine ⟨⟨o.kind,o.path,o.dest,y⟩,q+1,⟨by omega,by omega⟩,?_⟩
   refine dr ?_
   trivial
  ·refine dr ?_
   refine ⟨o,q,⟨by omega,by omega⟩,?_⟩
   refine dr ?_
   trivial
 rintro o q ⟨hq1,hq2⟩
 refine dr ?_
 refine cutp2 (fun (o:Op) (q:Int)=>[(0,.ptr 1 0),(4,.ptr 64 0),(5,.ptr 80 0)]) (fun o q=>[(1,.box [.c (eCode s),.c (CI q)]),(64,.box [.c (CI 0),.c (CS []),.c (CS []),.c (CS [])]),(80,.box [.c (CI o.kind),.c (CS o.path),.c (CS o.dest),.c (CS o.data)])]) (fun o q=>p≤q∧q≤p+6) ?_ ?_
 ·refine dr ?_
  refine cP ?_ ?_<;>intro h1
  ·refine dr ?_
   refine oW (jp W0 s q hs (by omega)) rfl ⟨rfl,trivial⟩ rfl rfl ⟨_,List.mem_cons_self⟩ fun y hy=>⟨rfl,?_⟩
   refine dEr ?_
   refine ⟨⟨o.kind,o.path,y,o.data⟩,q+1,⟨by omega,by omega⟩,?_⟩
   refine dr ?_
   trivial
  ·refine dr ?_
   refine ⟨o,q,⟨by omega,by omega⟩,?_⟩
   refine dr ?_
   trivial
 rintro o q ⟨hq1,hq2⟩
 refine dr ?_
 refine cutp2 (fun (o:Op) (q:Int)=>[(0,.ptr 1 0),(4,.ptr 64 0),(5,.ptr 80 0)]) (fun o q=>[(1,.box [.c (eCode s),.c (CI q)]),(64,.box [.c (CI 0),.c (CS []),.c (CS []),.c (CS [])]),(80,.box [.c (CI o.kind),.c (CS o.path),.c (CS o.dest),.c (CS o.data)])]) (fun o q=>p≤q∧q≤p+8) ?_ ?_
 ·refine dr ?_
  refine oW (jB W0 s q 50 hs (by omega) (by omega)) rfl ⟨rfl,trivial⟩ rfl rfl ⟨0,by omega,by omega⟩ fun v hv=>⟨rfl,?_⟩
  refine dEr ?_
  refine cP ?_ ?_<;>intro h1
  ·refine dr ?_
   refine oW (jA W0 s (q+1) [0,6,-1,1] hs (by omega) (by decide)) rfl ⟨rfl,trivial⟩ rfl rfl ⟨0,by decide⟩ fun y hy=>⟨rfl,?_⟩
   refine dEr ?_
   refine ⟨⟨y,o.path,o.dest,o.data⟩,q+1+1,⟨by omega,by omega⟩,?_⟩
   refine dr ?_
   trivial
  refine dr ?_
  refine cP ?_ ?_<;>intro h2
  ·refine dr ?_
   refine oW (f_of W0 s (q+1) [[47],[],[47,65],[47,97,47,98,47,99,47,100]] hs (by omega) (by decide)) rfl ⟨rfl,trivial⟩ rfl rfl ⟨_,List.mem_cons_self⟩ fun y hy=>⟨rfl,?_⟩
   refine dEr ?_
   refine ⟨⟨o.kind,y,o.dest,o.data⟩,q+1+1,⟨by omega,by omega⟩,?_⟩
   refine dr ?_
   trivial
  refine dr ?_
  refine cP ?_ ?_<;>intro h3
  ·refine dr ?_
   refine oW (f_of W0 s (q+1) [[47],[47,97],[47,99,47,99,47,99],[]] hs (by omega) (by decide)) rfl ⟨rfl,trivial⟩ rfl rfl ⟨_,List.mem_cons_self⟩ fun y hy=>⟨rfl,?_⟩
   refine dEr ?_
   refine ⟨⟨o.kind,o.path,y,o.data⟩,q+1+1,⟨by omega,by omega⟩,?_⟩
   refine dr ?_
   trivial
  refine dr ?_
  refine cP ?_ ?_<;>intro h4
  ·refine dr ?_
   refine oW (f_of W0 s (q+1) [[113],[65],[97,98,99,100,101,102,103],[97,98,99,100,101,102]] hs (by omega) (by decide)) rfl ⟨rfl,trivial⟩ rfl rfl ⟨_,List.mem_cons_self⟩ fun y hy=>⟨rfl,?_⟩
   refine dEr ?_
   refine ⟨⟨o.kind,o.path,o.dest,y⟩,q+1+1,⟨by omega,by omega⟩,?_⟩
   refine dr ?_
   trivial
  refine dr ?_
  refine ⟨o,q+1,⟨by omega,by omega⟩,?_⟩
  refine dr ?_
  trivial
 rintro o q ⟨hq1,hq2⟩
 refine dr ?_
 refine ⟨none,_,_,?_,(o,q),⟨by omega,by omega⟩,rfl,rfl⟩
 refine dr ?_
 trivial
def zaW:XC:=(.s (.r [.ex 2 (.asn (.k .nil) 3 39)]) (.s (.r [.ex 6 .bsl0,.a1 3 6 3 39]) (.s (.s (.r [.mv 7 0,.ex 8 (.bsl 1 3 [(.i 6),(.i 12),(.i 18),(.i 24),(.i 30),(.i 3),(.i 0)]),.o1 9 36 [7,8],.mv 4 9]) (.blk 0 (.loop (.s (.s (.r [.mv 10 4,.b1 11 .gtr 10 (.i 0)]) (.cnd 11 .skip (.exit 0))) (.s (.blk 1 (.r [.mv 15 3,.mv 16 0,.mv 17 3,.o1 18 112 [16,17],.c1 19 107 [15,18],.mv 14 19,.e1 20 14 0,.e1 21 14 1,.a1 3 20 3 39])) (.r [.mv 12 4,.b1 13 .sub 12 (.i 1),.mv 4 13])))))) (.s (.s (.r [.mv 22 0,.o1 23 38 [22,(.i 20)],.b1 24 .eql 23 (.i 0)]) (.cnd 24 (.s (.r [.m1 5 (.i 0)]) (.blk 2 (.loop (.s (.s (.r [.mv 25 5,.b1 26 .lss 25 (.i 26),.mv 27 26,.gt 28 (.mv 3) 27,.gt 29 (.len false 28) 27,.gt 30 (.bin .lss 29 (.i 16)) 27,.ex 31 (.pick 27 30 .n)]) (.cnd 31 .skip (.exit 2))) (.s (.blk 3 (.r [.mv 35 3,.mv 36 5,.b1 37 .add (.i 97) 36,.ex 38 (.conv .u8 37),.ex 39 (.bsl 1 5 [38]),.ex 40 (.b2s 39),.ex 41 (.bin .add (.s [47,122]) 40),.ex 42 (.build [(I 0),sE,sE,sE] [(0,(1,(.i 2))),(1,(1,41))]),.c1 43 107 [35,42],.mv 34 43,.e1 44 34 0,.e1 45 34 1,.a1 3 44 3 39])) (.r [.mv 32 5,.b1 33 .add 32 (.i 1),.mv 5 33])))))) .skip)) (.s (.r [.mv 46 3,.a1 2 46 3 39]) .ret)))))
theorem zaX:compF Tryz.prog [112,38,36] 150=some (zaW.ac,[(.t 2)],47):=by kernel_rfl
theorem ze0 (W0:World) (s:Str) (p:Int) (hs:s.length≤2000) (hp:0≤p∧p≤50000) :
  FunW Tryz.prog W0 150 [.ptr 1 0] (Rd s p) (fun x:List Ent × Int=>x.1.length≤17∧p≤x.2∧x.2≤p+242) (fun x => .c (eEnts x.1)) (fun x=>Rd s x.2):=by
 refine funW (c:=zaW) mixed zaX (by simp) rfl rfl fun hg=>?_
 refine dr ?_
 refine oW (jA W0 s p [6,12,18,24,30,3,0] hs (by omega) (by decide)) rfl ⟨rfl,trivial⟩ rfl rfl ⟨0,by decide⟩ fun k hk=>⟨rfl,?_⟩
 have hk2:0≤k∧k≤30:=by
  have:∀ x∈([6,12,18,24,30,3,0]:List Int),0≤x∧x≤30:=by decide
  exact this k hk
 refine dEr ?_
 refine lz3 48 (fun (t:List Ent) (i q:Int)=>[(0,.ptr 1 0),(3,.c (eEnts t)),(4,.c (CI i))]) (fun _ _ q=>[(1,.box [.c (eCode s),.c (CI q)])]) (fun t i q=>t.length≤17∧0≤i∧i≤30∧p≤q∧q≤p+1+8 * (30 - i)) (fun _ i _=>i.toNat) [] k (p+1) ⟨by simp,by omega,by omega,by omega,by omega⟩ ?_ ?_
 ·refine dr ?_
  trivial
 rintro t i q ⟨h1,h2,h3,h4,h5⟩
 refine dr ?_
 refine cP ?_ ?_<;>intro h6
 ·refine dr ?_
  refine oW (zeX W0 s q t hs (by omega) (by omega)) rfl ⟨rfl,trivial⟩ rfl rfl ⟨(⟨0,[],[],[]⟩,q),by omega,by omega⟩ fun x hx=>⟨rfl,?_⟩
  obtain ⟨o,q2⟩:=x
  have hx1:q≤q2:=hx.1
  have hx2:q2≤q+8:=hx.2
  refine dEr ?_
  repeat (refine c0 (jG W0 t o) rfl ?_; first | refine dEr ?_ | exact dz)
  refine ⟨(treeDo t o).1,i - 1,q2,⟨znz,by omega,by omega,by omega,by omega⟩,by omega,?_⟩
  refine dr ?_
  trivial
 refine dr ?_
 refine oW (jB W0 s q 20 hs (by omega) (by omega)) rfl ⟨rfl,trivial⟩ rfl rfl ⟨0,by omega,by omega⟩ fun v hv=>⟨rfl,?_⟩
 refine dEr ?_
 refine cP ?_ ?_<;>intro h7
 ·refine dr ?_
  refine lp2 (fun (t:List Ent) (j:Nat)=>[(0,.ptr 1 0),(3,.c (eEnts t)),(5,I j)]) (fun _ _=>[(1,.box [.c (eCode s),.c (CI (q+1))])]) (fun t j=>t.length≤17∧j≤26) (fun _ j=>26 - j) t 0 ⟨by omega,by omega⟩ ?_ ?_
  ·refine dr ?_
   trivial
  rintro t j ⟨g1,g2⟩
  refine dr ?_
  refine cP ?_ ?_<;>intro h8
  ·refine dr ?_
   refine cP ?_ ?_<;>intro h9
   ·refine dEr ?_
    repeat ((first | refine c0 (jG W0 t ⟨2,_,[],[]⟩) rfl ?_ | refine oB (by simp) ?_); first | refine dEr ?_ | exact dz)
    refine ⟨(treeDo t ⟨2,[47,122]++[UInt8.ofNat (97+(j:Int)).toNat],[],[]⟩).1,j+1,⟨znz,by omega⟩,by omega,?_⟩
    refine dr ?_
    trivial
   ·refine dr ?_
    refine ⟨none,_,_,?_,(t,q+1),⟨by omega,by omega,by omega⟩,rfl,rfl⟩
    refine dr ?_
    trivial
  ·refine dr ?_
   refine ⟨none,_,_,?_,(t,q+1),⟨by omega,by omega,by omega⟩,rfl,rfl⟩
   refine dr ?_
   trivial
 ·refine dr ?_
  refine ⟨none,_,_,?_,(t,q+1),⟨by omega,by omega,by omega⟩,rfl,rfl⟩
  refine dr ?_
  trivial

def zbi:XC:=(.s (.r [.ex 2 (.asn (.k .nil) 3 133)]) (.s (.r [.ex 7 .bsl0,.a1 3 7 3 133]) (.s (.s (.r [.mv 8 0,.ex 9 (.bsl 1 3 [(.i 3),(.i 5),(.i 8),(.i 2),(.i 1),(.i 0),(.i 12)]),.o1 10 36 [8,9],.mv 4 10]) (.blk 0 (.loop (.s (.s (.r [.mv 11 4,.b1 12 .gtr 11 (.i 0)]) (.cnd 12 .skip (.exit 0))) (.s (.blk 1 (.s (.r [.mv 15 0,.o1 16 92 [15],.mv 17 0,.ex 18 (.bsl 1 3 [(.i 1),(.i 2),(.i 3),(.i 4),(.i 1),(.i 3)]),.o1 19 36 [17,18],.ex 20 (.build [sE,(I 0),sE] [(0,(1,16)),(1,(1,19))]),.ex 5 (.alloc [sE,(I 0),sE]),.s1 3 5 20]) (.cut (.s (.r [.f1 21 1 5,.l1 22 1 21,.b1 23 .eql 22 (.i 1)]) (.cnd 23 (.r [.mv 24 0,.o1 25 173 [24],.f1 26 2 5,.s1 1 26 25]) .skip)) (.s (.r [.mv 27 3,.l2 28 3 5,.c1 29 125 [27,28],.a1 6 29 3 133]) (.s (.s (.r [.mv 30 6,.c1 31 171 [30]]) (.cnd 31 (.s (.r [.mv 32 6,.a1 3 32 3 133]) (.exit 1)) .skip)) (.s (.r [.mv 33 6,.f1 34 0 5,.l1 35 1 34,.c1 36 124 [33,35],.a1 6 36 3 133]) (.s (.r [.mv 37 6,.c1 38 171 [37]]) (.cnd 38 (.r [.mv 39 6,.a1 3 39 3 133]) .skip)))))))) (.r [.mv 13 4,.b1 14 .sub 13 (.i 1),.mv 4 14])))))) (.s (.r [.mv 40 3,.a1 2 40 3 133]) .ret))))
theorem zbj:compF Tryz.prog [36,92,173] 151=some (zbi.ac,[(.t 2)],41):=by kernel_rfl
theorem zdy:∀ x∈drawnPaths,pOk x=true:=by decide
theorem zfa (W0:World) (s:Str) (p:Int) (hs:s.length≤2000) (hp:0≤p∧p≤50000) :
  FunW Tryz.prog W0 151 [.ptr 1 0] (Rd s p) (fun x:List Mark × Int=>x.1.length≤32∧p≤x.2∧x.2≤p+37) (fun x => .c (eMarks x.1)) (fun x=>Rd s x.2):=by
 refine funW (c:=zbi) mixed zbj (by simp) rfl rfl fun hg=>?_
 refine dr ?_
 refine oW (jA W0 s p [3,5,8,2,1,0,12] hs (by omega) (by decide)) rfl ⟨rfl,trivial⟩ rfl rfl ⟨0,by decide⟩ fun k hk=>⟨rfl,?_⟩
 have hk2:0≤k∧k≤12:=by
  have:∀ x∈([3,5,8,2,1,0,12]:List Int),0≤x∧x≤12:=by decide
  exact this k hk
 refine dEr ?_
 refine lz3 48 (fun (t:List Mark) (i q:Int)=>[(0,.ptr 1 0),(3,.c (eMarks t)),(4,.c (CI i))]) (fun _ _ q=>[(1,.box [.c (eCode s),.c (CI q)])]) (fun t i q=>t.length≤32∧0≤i∧i≤12∧p≤q∧q≤p+1+3 * (12 - i)) (fun _ i _=>i.toNat) [] k (p+1) ⟨by simp,by omega,by omega,by omega,by omega⟩ ?_ ?_
 ·refine dr ?_
  trivial
 rintro t i q ⟨h1,h2,h3,h4,h5⟩
 refine dr ?_
 refine cP ?_ ?_<;>intro h6
 rotate_left
 ·refine dr ?_
  refine ⟨none,_,_,?_,(t,q),⟨by omega,by omega,by omega⟩,rfl,rfl⟩
  refine dr ?_
  trivial
 refine dr ?_
 refine oW (jp W0 s q hs (by omega)) rfl ⟨rfl,trivial⟩ rfl rfl ⟨_,List.mem_cons_self⟩ fun x hx=>⟨rfl,?_⟩
 have hx1:=zdy x hx
 refine dr ?_
 refine oW (jA W0 s (q+1) [1,2,3,4,1,3] hs (by omega) (by decide)) rfl ⟨rfl,trivial⟩ rfl rfl ⟨1,by decide⟩ fun v hv=>⟨rfl,?_⟩
 refine dEr ?_
 refine cutp2 (fun (m:Mark) (r:Int)=>[(0,.ptr 1 0),(3,.c (eMarks t)),(4,.c (CI i)),(5,.ptr 80 0)]) (fun m r=>[(1,.box [.c (eCode s),.c (CI r)]),(80,.box [.c (CS m.path),.c (CI m.kind),.c (CS m.data)])]) (fun m r=>pOk m.path=true∧q≤r∧r≤q+3) ?_ ?_
 ·refine dr ?_
  refine cP ?_ ?_<;>intro h7
  ·refine dr ?_
   refine oW (zeZ W0 s (q+1+1) hs (by omega)) rfl ⟨rfl,trivial⟩ rfl rfl ⟨_,List.mem_cons_self⟩ fun y hy=>⟨rfl,?_⟩
   refine dEr ?_
   refine ⟨⟨x,v,y⟩,q+1+1+1,⟨hx1,by omega,by omega⟩,?_⟩
   refine dr ?_
   trivial
  ·refine dr ?_
   refine ⟨⟨x,v,[]⟩,q+1+1,⟨hx1,by omega,by omega⟩,?_⟩
   refine dr ?_
   trivial
 rintro m r ⟨g1,g2,g3⟩
 have hpl:(lput t m).length≤t.length+1:=yy
 have hu:=jv W0 3 (lput t m) m.path g1 (yt g1).1.2 (by omega)
 refine dEr ?_
 repeat ((first | refine c0 (ju W0 t m (by omega)) rfl ?_ | refine c0 (jC W0 _) rfl ?_); first | refine dEr ?_ | exact dz)
 refine cP ?_ ?_<;>intro h7
 ·refine dr ?_
  refine ⟨lput t m,i - 1,r,⟨(qn.1 h7).1,by omega,by omega,by omega,by omega⟩,by omega,?_⟩
  refine dr ?_
  trivial
 ·refine dEr ?_
  repeat ((first | refine c0 hu rfl ?_ | refine c0 (jC W0 _) rfl ?_); first | refine dEr ?_ | exact dz)
  refine cP ?_ ?_<;>intro h8
  ·refine dr ?_
   refine ⟨_,i - 1,r,⟨(qn.1 h8).1,by omega,by omega,by omega,by omega⟩,by omega,?_⟩
   refine dr ?_
   trivial
  ·refine dr ?_
   refine ⟨t,i - 1,r,⟨by omega,by omega,by omega,by omega,by omega⟩,by omega,?_⟩
   refine dr ?_
   trivial

def NC (x y:PV):Prop:=y=x∨(x = .nil∧y = .c (.row []))
theorem NC.rep {κ:Kap} {m:Mem} {w:World} {x y:PV} {v:Value} (h:NC x y) (hr:Rep1 κ m w x v):Rep1 κ m w y v:=by
 rcases h with rfl | ⟨rfl,rfl⟩
 ·exact hr
 ·obtain ⟨o,rfl⟩:=hr
  exact .nil (Nat.zero_le _)
theorem KeepS.nilC {k0:List Nat} {A:Fr} {m:XM} (bx:Nat) (cs cs':List PV) (hb:lkX m bx=some (.box cs)) (hc:All2 NC cs cs'):KeepS k0 A m A (updX m bx (.box cs')):=fun W0 F K hA hK=>by
 intro w0 κ0 m0 N κ act w hk0 hr
 have hmw:=hr.mw
 have hW:=hr.big
 have hb':lk (Go.Proofs.YteheahbjaddooaaGreatDoor.er m) bx=some (.box cs):=by rw [qC,hb]; rfl
 have all2:∀ {cs cs':List PV} {vs:List Value} {κ:Kap} {m:Mem},All2 NC cs cs'→All2 (Rep1 κ m w) cs vs→All2 (Rep1 κ m w) cs' vs:=by
  intro cs
  induction cs with
  | nil=>intro cs' vs κ m h1 h2; cases cs' with | nil=>(cases vs with | nil=>trivial | cons=>exact h2.elim) | cons=>exact h1.elim
  | cons c cs ih =>
   intro cs' vs κ m h1 h2
   cases cs' with
   | nil=>exact h1.elim
   | cons d ds=>cases vs with
    | nil=>exact h2.elim
    | cons v vs=>exact ⟨NC.rep h1.1 h2.1,ih h1.2 h2.2⟩
 obtain ⟨g1,g2⟩:=hmw.turn (κ':=κ) (w':=w) (x := .box cs') hW hb' rfl rfl rfl (Nat.le_refl _) rfl (fun _ _=>rfl) (fun _ _ _=>rfl) (.inl rfl) (fun _ h=>⟨⟨cs',rfl⟩,rfl⟩) (fun _ _ _ h=>by cases h) (fun hp=>by
  obtain ⟨g,vs,e,q1,q2,q3⟩:=hmw.mem.blk bx _ hb'
  exact ⟨g,vs,e,q1,q2,all2 hc (q3.imp fun _ _=>Rep1.pres hp)⟩) (.inl fun _ _ _ h=>by cases h)
 refine ⟨κ,A,_,⟨g1,hr.start,hr.low0,hr.s0,hr.size,hr.defers,fun t x hx=>?_⟩,?_⟩
 ·obtain ⟨q1,q2⟩:=hr.tmps t x (by rw [← hA t]; exact hx)
  exact ⟨q1,Rep.pres g2 q2⟩
 ·rw [Ze] at hK; exact hK
theorem nc0 {x:PV}:NC x x := .inl rfl
theorem nc1:NC .nil (.c (.row [])) := .inr ⟨rfl,rfl⟩
theorem app1 {α:Type} {f:α→CV} {t:List α} {x:α}:t.map f++[f x]=(t++[x]).map f:=by rw [List.map_append]; rfl
theorem set1 {α:Type} {f:α→CV} {t:List α} {k:Nat} {x:α}:(t.map f).set k (f x)=(t.set k x).map f:=List.map_set.symm
abbrev ovB (o:Over):XB := .box [.c (eEnts o.base),.c (eMarkss o.layers),.c (eMarks o.upper)]
abbrev ni3:XB := .box [.nil,.nil,.nil]
abbrev rdB (s:Str) (q:Int):XB := .box [.c (eCode s),.c (CI q)]
def zbw:XC:=(.s (.r [.ex 2 (.alloc [.nil,.nil,.nil])]) (.s (.r [.mv 9 0,.o1 10 150 [9],.ex 11 (.build [.nil,.nil,.nil] [(0,(1,10))]),.ex 3 (.alloc [.nil,.nil,.nil]),.s1 3 3 11]) (.s (.s (.r [.mv 12 0,.o1 13 38 [12,(.i 3)],.mv 4 13]) (.blk 0 (.loop (.s (.s (.r [.mv 14 4,.b1 15 .gtr 14 (.i 0)]) (.cnd 15 .skip (.exit 0))) (.s (.blk 1 (.s (.r [.l2 18 3 3,.o1 19 102 [18],.ex 5 (.alloc [.nil,.nil,.nil]),.s1 3 5 19]) (.s (.d [.f1 20 1 5,.exl 21 (.ld false 1 20),.mv 22 0,.exl 23 (.opn 151 [22]),.exl 24 (.bsl 1 25 [23]),.ex 25 (.app false 1 24 25 21 24),.f1 26 1 5,.s1 1 26 25]) (.s (.r [.l2 27 3 5,.c1 28 25 [27]]) (.cnd 28 (.r [.l2 29 3 5,.s1 3 3 29]) .skip))))) (.r [.mv 16 4,.b1 17 .sub 16 (.i 1),.mv 4 17])))))) (.s (.s (.r [.mv 30 0,.o1 31 38 [30,(.i 12)],.mv 6 31]) (.blk 2 (.loop (.s (.s (.r [.mv 32 6,.b1 33 .gtr 32 (.i 0)]) (.cnd 33 .skip (.exit 2))) (.s (.blk 3 (.s (.r [.l2 37 3 3,.c1 38 69 [37],.mv 36 38,.e1 39 36 0,.e1 40 36 1,.a1 7 39 3 39,.mv 8 40]) (.s (.r [.mv 41 0,.o1 42 38 [41,(.i 8)]]) (.blk 4 (.s (.r [.b1 52 .eql 42 (.i 0),.mv 51 52]) (.cnd 51 (.r [.l2 54 3 3,.c1 55 152 [54],.mv 53 55,.e1 56 53 0,.e1 57 53 1,.s1 3 3 56]) (.s (.r [.b1 59 .eql 42 (.i 1),.mv 58 59]) (.cnd 58 (.s (.r [.mv 60 0,.o1 61 38 [60,(.i 3)],.b1 62 .eql 61 (.i 0)]) (.cnd 62 (.r [.l2 64 3 3,.c1 65 153 [64],.mv 63 65,.e1 66 63 0,.e1 67 63 1,.s1 3 3 66]) .skip)) (.d [.exl 44 (.ld true 3 3),.mv 45 0,.mv 46 7,.exl 47 (.opn 112 [45,46]),.c1 48 93 [44,47],.mv 43 48,.e1 49 43 0,.e1 50 43 1,.s1 3 3 49]))))))))) (.r [.mv 34 6,.b1 35 .sub 34 (.i 1),.mv 6 35])))))) (.s (.r [.l2 68 3 3,.o1 69 102 [68],.s1 3 2 69]) .ret)))))
theorem zbx:compF Tryz.prog [150,38,102,151,112] 94=some (zbw.ac,[(.cell 2 true 3)],70):=by kernel_rfl
theorem zff (W0:World) (s:Str) (p:Int) (hs:s.length≤2000) (hp:0≤p∧p≤20000) :
  FunW Tryz.prog W0 94 [.ptr 1 0] (Rd s p) (fun x:Over × Int=>OS x.1∧p≤x.2∧x.2≤p+600) (fun x => .c (eOver x.1)) (fun x=>Rd s x.2):=by
 refine funW (c:=zbw) mixed zbx (by simp) rfl rfl fun hg=>?_
 refine dr ?_
 refine oW (ze0 W0 s p hs (by omega)) rfl ⟨rfl,trivial⟩ rfl rfl ⟨([],p),by simp; omega⟩ fun x hx=>⟨rfl,?_⟩
 obtain ⟨b,q0⟩:=x
 obtain ⟨hb,hq1,hq2⟩:b.length≤17∧p≤q0∧q0≤p+242:=hx
 refine dEr ?_
 refine oW (jB W0 s q0 3 hs (by omega) (by omega)) rfl ⟨rfl,trivial⟩ rfl rfl ⟨0,by omega,by omega⟩ fun n hn=>⟨rfl,?_⟩
 have hn2:=hn.2 (by omega)
 have hn1:=hn.1
 refine dEr ?_
 refine lq3 (fun (o:Over) (i q:Int)=>[(0,.ptr 1 0),(2,.ptr 32 0),(3,.ptr 48 0),(4,.c (CI i))]) (fun o _ q=>[(1,rdB s q),(32,ni3),(48,ovB o)]) (fun o i q=>OS o∧0≤i∧i≤2∧p≤q∧q≤p+243+37 * (2 - i)) (fun _ i _=>i.toNat) ⟨b,[],[]⟩ n (q0+1) ⟨⟨hb,by simp,by simp,by simp⟩,by omega,by omega,by omega,by omega⟩ ?_ ?_
 ·refine KeepS.trans (F1:=_) (m1:=_) (KeepS.nilC 48 [.c (eEnts b),.nil,.nil] [.c (eEnts b),.c (.row []),.c (.row [])] rfl ⟨nc0,nc1,nc1,trivial⟩) (z:=none) ?_
  refine dr ?_
  trivial
 rintro o i q ⟨ho,hi1,hi2,hq3,hq4⟩
 refine dr ?_
 refine cP ?_ ?_<;>intro h1
 ·refine dr ?_
  refine oW (zfd W0 o (ho.oz.mono (by omega))) rfl trivial rfl rfl ⟨(),trivial⟩ fun _ _=>⟨rfl,?_⟩
  refine dEr ?_
  refine oW (zfa W0 s q hs (by omega)) rfl ⟨rfl,trivial⟩ rfl rfl ⟨([],q),by simp; omega⟩ fun x hx=>⟨rfl,?_⟩
  obtain ⟨l,q2⟩:=x
  obtain ⟨hl,hr1,hr2⟩:l.length≤32∧q≤q2∧q2≤q+37:=hx
  have hn:=ho.n
  have q9:=jD W0 ⟨o.base,o.layers++[l],o.upper⟩
  rw [show eOver ⟨o.base,o.layers++[l],o.upper⟩ = .agg [eEnts o.base,.row (o.layers.map eMarks++[eMarks l]),eMarks o.upper] by rw [app1]; rfl] at q9
  refine dEr ?_
  repeat ((first | refine oB (by simp; omega) ?_ | refine oB (by simp) ?_ | refine c0 q9 rfl ?_); first | refine dEr ?_ | exact dz)
  refine cP ?_ ?_<;>intro h2
  ·refine dr ?_
   refine ⟨⟨o.base,o.layers++[l],o.upper⟩,i - 1,q2,⟨OS.ok h2,by omega,by omega,by omega,by omega⟩,by omega,?_⟩
   refine KeepX.s (z:=some 4) ?_
   refine dr ?_
   repeat ((first | refine oB (congrArg (fun L=>XB.box [.c (eEnts o.base),.c (.row L),.c (eMarks o.upper)]) app1) ?_ | refine oB (by simp) ?_); first | refine dr ?_ | exact dz)
   trivial
  ·refine dr ?_
   refine ⟨o,i - 1,q2,⟨ho,by omega,by omega,by omega,by omega⟩,by omega,?_⟩
   refine KeepX.s (z:=none) ?_
   refine dr ?_
   trivial
 refine dr ?_
 refine oW (jB W0 s q 12 hs (by omega) (by omega)) rfl ⟨rfl,trivial⟩ rfl rfl ⟨0,by omega,by omega⟩ fun n hn=>⟨rfl,?_⟩
 have hn2:=hn.2 (by omega)
 have hn1:=hn.1
 clear h1
 refine dEr ?_
 refine lp3 (fun (o:Over) (i r:Int)=>[(0,.ptr 1 0),(2,.ptr 32 0),(3,.ptr 48 0),(6,.c (CI i))]) (fun o _ r=>[(1,rdB s r),(32,ni3),(48,ovB o)]) (fun o i r=>OS o∧0≤i∧i≤11∧p≤r∧r≤p+320+10 * (11 - i)) (fun _ i _=>i.toNat) o n (q+1) ⟨ho,by omega,by omega,by omega,by omega⟩ ?_ ?_
 ·refine dr ?_
  trivial
 clear hq3 hq4 ho
 rintro o i q ⟨ho,hi1,hi2,hq3,hq4⟩
 refine dr ?_
 refine cP ?_ ?_<;>intro h1
 ·have hv:=jx W0 o
  have hvl:((view4 o).getD []).length≤16:=by
   cases hx:view4 o with
   | none=>simp
   | some x=>exact (yY (Zf hx)).1
  rw [zdz] at hv
  generalize (view4 o).getD []=t at *
  refine dEr ?_
  repeat (refine c0 hv rfl ?_; first | refine dEr ?_ | exact dz)
  refine oW (jB W0 s q 8 hs (by omega) (by omega)) rfl ⟨rfl,trivial⟩ rfl rfl ⟨0,by omega,by omega⟩ fun v hv=>⟨rfl,?_⟩
  refine dEr ?_
  refine cP ?_ ?_<;>intro h2
  ·refine dEr ?_
   repeat (refine c0 (zgb W0 o) rfl ?_; first | refine dEr ?_ | exact dz)
   refine ⟨(oPush o).1,i - 1,q+1,⟨OS.push,by omega,by omega,by omega,by omega⟩,by omega,?_⟩
   refine dr ?_
   trivial
  refine dr ?_
  refine cP ?_ ?_<;>intro h3
  ·refine dr ?_
   refine oW (jB W0 s (q+1) 3 hs (by omega) (by omega)) rfl ⟨rfl,trivial⟩ rfl rfl ⟨0,by omega,by omega⟩ fun v hv=>⟨rfl,?_⟩
   refine dEr ?_
   refine cP ?_ ?_<;>intro h4
   ·refine dEr ?_
    repeat (refine c0 (zga W0 o) rfl ?_; first | refine dEr ?_ | exact dz)
    refine ⟨(oFlat o).1,i - 1,q+1+1,⟨OS.flat,by omega,by omega,by omega,by omega⟩,by omega,?_⟩
    refine dr ?_
    trivial
   ·refine dr ?_
    refine ⟨o,i - 1,q+1+1,⟨ho,by omega,by omega,by omega,by omega⟩,by omega,?_⟩
    refine dr ?_
    trivial
  ·refine dr ?_
   refine oW (zeX W0 s (q+1) t hs (by omega) (by omega)) rfl ⟨rfl,trivial⟩ rfl rfl ⟨((⟨0,[],[],[]⟩,q+1):Op × Int),by omega,by omega⟩ fun x hx=>⟨rfl,?_⟩
   obtain ⟨op,r⟩:=x
   obtain ⟨hr1,hr2⟩:q+1≤r∧r≤q+1+8:=hx
   refine dEr ?_
   repeat (refine c0 (zf9 W0 o op) rfl ?_; first | refine dEr ?_ | exact dz)
   refine ⟨(oDo o op).1,i - 1,r,⟨OS.do op,by omega,by omega,by omega,by omega⟩,by omega,?_⟩
   refine dr ?_
   trivial
 ·refine dr ?_
  refine oW (zfd W0 o (ho.oz.mono (by omega))) rfl trivial rfl rfl ⟨(),trivial⟩ fun _ _=>⟨rfl,?_⟩
  refine dEr ?_
  refine ⟨some 4,_,_,?_,(o,q),⟨ho,by omega,by omega⟩,rfl,rfl⟩
  refine dr ?_
  repeat (refine oB (by simp) ?_; first | refine dr ?_ | exact dz)
  trivial
theorem OZ.put {o:Over} {n:Nat} (h:OZ n o) {ls:List (List Mark)} {m:Nat} (h1:ls.length≤m) (h2:∀ l∈ls,l.length≤m) (hm:n≤m):OZ m ⟨o.base,ls,o.upper⟩:=⟨by have:=h.b; simp only; omega,h1,h2,by have:=h.u; simp only; omega⟩
def zam:XC:=(.s (.r [.ex 2 (.mv (.s []))]) (.s (.s (.r [.mv 3 0,.o1 4 38 [3,(.i 4)],.b1 5 .gtr 4 (.i 0)]) (.cnd 5 (.s (.r [.mv 6 0,.o1 7 92 [6],.mv 2 7]) .ret) .skip)) (.s (.r [.mv 8 0,.ex 9 (.bsl 1 9 [(.s [47]),(.s []),(.s [97]),(.s [47,65]),(.s [47,97,47]),(.s [47,47,97]),(.s [47,97,98,99,100]),(.s [47,97,47,98,47,99,47,100]),(.s [47,97,98,99,47,97,98,99,47,97,98,99]),(.s [47,97,32,98]),(.s [47,97,49])]),.o1 10 95 [8,9],.mv 2 10]) .ret)))
theorem zan:compF Tryz.prog [38,92,95] 39=some (zam.ac,[(.t 2)],11):=by kernel_rfl
theorem zeL (W0:World) (s:Str) (p:Int) (hs:s.length≤2000) (hp:0≤p∧p≤900000) :
  FunW Tryz.prog W0 39 [.ptr 1 0] (Rd s p) (fun x:Str × Int=>p≤x.2∧x.2≤p+2) (fun x => .c (CS x.1)) (fun x=>Rd s x.2):=by
 refine funW (c:=zam) mixed zan (by simp) rfl rfl fun hg=>?_
 refine dr ?_
 refine oW (jB W0 s p 4 hs (by omega) (by omega)) rfl ⟨rfl,trivial⟩ rfl rfl ⟨0,by omega,by omega⟩ fun v hv=>⟨rfl,?_⟩
 refine dEr ?_
 refine cP ?_ ?_<;>intro h1
 ·refine dr ?_
  refine oW (jp W0 s (p+1) hs (by omega)) rfl ⟨rfl,trivial⟩ rfl rfl ⟨_,List.mem_cons_self⟩ fun x hx=>⟨rfl,?_⟩
  refine dEr ?_
  refine ⟨none,_,_,?_,(x,p+1+1),⟨by omega,by omega⟩,rfl,rfl⟩
  refine dr ?_
  trivial
 ·refine dr ?_
  refine oW (f_of W0 s (p+1) [[47],[],[97],[47,65],[47,97,47],[47,47,97],[47,97,98,99,100],[47,97,47,98,47,99,47,100],[47,97,98,99,47,97,98,99,47,97,98,99],[47,97,32,98],[47,97,49]] hs (by omega) (by decide)) rfl ⟨rfl,trivial⟩ rfl rfl ⟨_,List.mem_cons_self⟩ fun x hx=>⟨rfl,?_⟩
  refine dEr ?_
  refine ⟨none,_,_,?_,(x,p+1+1),⟨by omega,by omega⟩,rfl,rfl⟩
  refine dr ?_
  trivial
theorem zn0 {o:Over}:((view4 o).getD []).length≤16:=by
 cases hx:view4 o with
 | none=>simp
 | some x=>exact (yY (Zf hx)).1

abbrev wCo (n:Nat) (w:Wld):List PV:=[.c (eEnts w.over.base),.c (eMarkss w.over.layers),.c (eMarks w.over.upper),I w.clock,I w.count,.c (eLeases w.leases),.own 4 w.holds.length,.own 5 w.floors.length,.own n w.net.length,B w.waits,I w.op.kind,.c (CS w.op.path),.c (CS w.op.dest),.c (CS w.op.data)]
abbrev wAn (n:Nat) (w:Wld):PV := .agg (wCo n w)
abbrev wMn (n:Nat) (w:Wld):XM:=[(4,.row (w.holds.map eHolds) 1 56),(5,.row (w.floors.map CI) 1 3),(n,.row (w.net.map eMsg) 9 55)]
abbrev zWB:XB := .box [.nil,.nil,.nil,I 0,I 0,.nil,.nil,.nil,.nil,B false,I 0,.c (CS []),.c (CS []),.c (CS [])]
theorem KeepS.nilF {k0:List Nat} {m:XM} (A:Fr) (t0:Nat) (h0:lkX A t0=some .nil):KeepS k0 A m ((t0,.c (.row []))::A) m:=fun W0 F K hA hK=>by
 intro w0 κ0 m0 N κ act w hk0 hr
 refine ⟨κ,_,_,⟨hr.mw,hr.start,hr.low0,hr.s0,hr.size,hr.defers,fun t x hx=>?_⟩,hK⟩
 rw [qB] at hx
 split at hx
 ·rename_i h
  subst h
  cases hx
  have h1:lk F t=some .nil:=by rw [← hA t,← qw]; exact h0
  obtain ⟨q1,q2⟩:=hr.tmps t _ h1
  obtain ⟨o,ho⟩:=(show Rep1 κ (Go.Proofs.YteheahbjaddooaaGreatDoor.er m) w .nil (act.tmps.getD t undef) from q2)
  exact ⟨q1,by rw [ho]; exact RepC.nil (Nat.zero_le _)⟩
 ·exact hr.tmps t x (by rw [← hA t]; exact hx)
theorem zlI {w:Wld} {m:Msg} (h:w.net.length < 12):sendW w m={ w with net:=w.net++[m] }:=by unfold sendW; rw [if_pos h]
theorem zlG {w:Wld} {m:Msg} (h:12≤w.net.length):sendW w m=w:=by unfold sendW; rw [if_neg (by omega)]
theorem zlH {w:Wld} {m:Msg} (h:w.net.length≤1000):(sendW w m).net.length≤1000:=by
 unfold sendW; split
 ·simp; omega
 ·exact h
theorem xrow1 {α:Type} {f:α→CV} {t:List α} {x:α} {n e:Nat}:XB.row (t.map f++[f x]) n e = .row ((t++[x]).map f) n e:=by rw [List.map_append]; rfl
theorem xown1 {α:Type} {t:List α} {x:α} {n:Nat}:PV.own n (t.length+1) = .own n (t++[x]).length:=by simp
def zce:XC:=(.s (.r [.ex 2 (.box 0),.ex 3 (.box 1),.ex 4 (.alloc [.nil,.nil,.nil,(I 0),(I 0),.nil,.nil,.nil,.nil,(B false),(I 0),sE,sE,sE])]) (.s (.s (.r [.f1 5 8 2,.l1 6 1 5,.n1 7 6,.b1 8 .lss 7 (.i 12)]) (.cnd 8 (.r [.f1 9 8 2,.l1 10 1 9,.l2 11 9 3,.ex 12 (.bsl 9 55 [11]),.ex 13 (.app false 9 96 55 10 12),.f1 14 8 2,.s1 1 14 13]) .skip)) (.s (.r [.l2 15 14 2,.s1 14 4 15]) .ret)))
theorem zcf:compF Tryz.prog [] 114=some (zce.ac,[(.cell 4 true 14)],16):=by kernel_rfl
theorem jy (W0:World) (w:Wld) (m:Msg) (h:w.net.length≤1000):FunW Tryz.prog W0 114 [wAn 6 w,.c (eMsg m)] (wMn 6 w) (fun _:Unit=>True) (fun _=>wAn 6 (sendW w m)) (fun _=>wMn 6 (sendW w m)):=by
 refine funW (c:=zce) mixed zcf (by simp) rfl rfl fun hg=>?_
 refine dr ?_
 refine cP ?_ ?_<;>intro h1
 ·rw [zlI (by omega)]
  refine dr ?_
  repeat ((first | refine oB (by simp) ?_ | refine oB (by simp; omega) ?_); first | refine dr ?_ | exact dz)
  refine ⟨none,_,_,?_,(),trivial,rfl,rfl⟩
  refine dr ?_
  repeat ((first | refine oB (congrArg (fun y=>PV.agg [.c (eEnts w.over.base),.c (eMarkss w.over.layers),.c (eMarks w.over.upper),I w.clock,I w.count,.c (eLeases w.leases),.own 4 w.holds.length,.own 5 w.floors.length,y,B w.waits,I w.op.kind,.c (CS w.op.path),.c (CS w.op.dest),.c (CS w.op.data)]) xown1) ?_ | refine oB xrow1 ?_); first | refine dr ?_ | exact dz)
  trivial
 ·rw [zlG (by omega)]
  refine dr ?_
  repeat (refine oB (by simp) ?_; first | refine dr ?_ | exact dz)
  refine ⟨none,_,_,?_,(),trivial,rfl,rfl⟩
  refine dr ?_
  repeat (refine oB (by simp) ?_; first | refine dr ?_ | exact dz)
  trivial
def zcc:XC:=(.s (.r [.ex 2 (.box 0),.ex 4 (.alloc [.nil,.nil,.nil,(I 0),(I 0),.nil,.nil,.nil,.nil,(B false),(I 0),sE,sE,sE])]) (.s (.s (.r [.m1 5 (.i 0)]) (.blk 0 (.loop (.s (.s (.r [.mv 6 5,.mv 7 1,.n1 8 7,.b1 9 .lss 6 8]) (.cnd 9 .skip (.exit 0))) (.s (.blk 1 (.d [.l2 12 14 2,.mv 13 1,.mv 14 5,.i1 15 4 13 14,.f1 16 0 15,.l1 17 1 16,.mv 18 1,.mv 19 5,.i1 20 4 18 19,.f1 21 1 20,.l1 22 1 21,.f1 23 4 2,.l1 24 1 23,.ex 25 (.build [sE,(B false),sE,(B false),sE,(I 0),(I 0)] [(0,(1,22)),(5,(1,24))]),.ex 26 (.build [(I 0),(I 0),sE,(B false),sE,(B false),sE,(I 0),(I 0)] [(0,(1,(.i 3))),(1,(1,17)),(2,(7,25))]),.o1 27 114 [12,26],.s1 14 2 27])) (.r [.mv 10 5,.b1 11 .add 10 (.i 1),.mv 5 11])))))) (.s (.r [.l2 28 14 2,.s1 14 4 28]) .ret)))
theorem zcd:compF Tryz.prog [114] 175=some (zcc.ac,[(.cell 4 true 14)],29):=by kernel_rfl
theorem zk2 {w:Wld} {b:List Lease} {k:Nat} (h:k < b.length):recallW w (b.take (k+1))=sendW (recallW w (b.take k)) (rclM w.count b[k]):=by
 have e:(recallW w (b.take k)).count=w.count:=yA.2.2.1
 unfold recallW at e ⊢
 rw [jX h,e]
theorem zfE (W0:World) (w:Wld) (b:List Lease) (h:w.net.length≤1000) (hb:b.length≤1000000):FunW Tryz.prog W0 175 [wAn 6 w,.c (eLeases b)] (wMn 6 w) (fun _:Unit=>True) (fun _=>wAn 6 (recallW w b)) (fun _=>wMn 6 (recallW w b)):=by
 refine funW (c:=zcc) mixed zcd (by simp) rfl rfl fun hg=>?_
 refine dr ?_
 refine lp2 (fun (k:Nat) (x:Wld)=>[(1,.c (eLeases b)),(2,.ptr 32 0),(4,.ptr 64 0),(5,I k)]) (fun _ x=>[(32,.box (wCo 6 x)),(64,zWB)]++wMn 6 x) (fun k x=>k≤b.length∧x=recallW w (b.take k)∧x.net.length≤1000) (fun k _=>b.length - k) 0 w ⟨by omega,rfl,h⟩ ?_ ?_
 ·refine dr ?_
  trivial
 rintro k x ⟨hk,hx,hn⟩
 refine dr ?_
 refine cP ?_ ?_<;>intro h1
 ·have hk':k < b.length:=by omega
  have hc:x.count=w.count:=by rw [hx]; exact yA.2.2.1
  refine dr ?_
  refine oW (jy W0 x (rclM x.count b[k]) hn) rfl ⟨rfl,rfl,rfl,trivial⟩ rfl rfl ⟨(),trivial⟩ fun _ _=>⟨rfl,?_⟩
  refine dEr ?_
  refine ⟨k+1,sendW x (rclM x.count b[k]),⟨by omega,by rw [zk2 hk',← hx,hc],zlH hn⟩,by omega,?_⟩
  refine dr ?_
  trivial
 ·have hkl:k=b.length:=by omega
  rw [hkl,List.take_length] at hx
  rw [← hx]
  refine dr ?_
  refine ⟨none,_,_,?_,(),trivial,rfl,rfl⟩
  refine dr ?_
  trivial
def zbU:XC:=(.s (.r [.m1 4 .n]) (.s (.s (.r [.m1 5 (.i 0)]) (.blk 0 (.loop (.s (.s (.r [.mv 6 5,.mv 7 0,.n1 8 7,.b1 9 .lss 6 8]) (.cnd 9 .skip (.exit 0))) (.s (.blk 1 (.s (.r [.mv 12 0,.mv 13 5,.i1 14 1 12 13,.l1 15 1 14,.mv 16 1,.b1 17 .eql 15 16]) (.cnd 17 (.s (.r [.m1 4 .y]) .ret) .skip))) (.r [.mv 10 5,.b1 11 .add 10 (.i 1),.mv 5 11])))))) (.s (.r [.m1 4 .n]) .ret)))
theorem zbV:compF Tryz.prog [] 209=some (zbU.ac,[(.t 4)],18):=by kernel_rfl
theorem zft (W0:World) (l:List Str) (p:Str) (hl:l.length≤1000000):Fn Tryz.prog W0 209 [eStrs l,CS p] (.c (CB (l.contains p))) []:=by
 refine fnX (c:=zbU) mixed zbV (by simp) rfl fun hg=>?_
 refine dr ?_
 refine lp (σ:=Nat) (fun k=>[(0,.c (eStrs l)),(1,.c (CS p)),(5,I k)]) (fun _=>[]) (fun k=>k≤l.length∧p ∉ l.take k) (fun k=>l.length - k) 0 ⟨by omega,by simp⟩ ?_ ?_
 ·refine dr ?_
  trivial
 rintro k ⟨hk,hA⟩
 refine dr ?_
 refine cP ?_ ?_<;>intro h1
 ·have hk':k < l.length:=by omega
  refine dr ?_
  refine cP ?_ ?_<;>intro h2
  ·refine dr ?_
   exact bT (by rw [List.contains_eq_mem,decide_eq_true_iff,← h2]; exact List.getElem_mem hk')
  ·refine dr ?_
   refine ⟨k+1,⟨by omega,fun hl=>?_⟩,by omega,?_⟩
   ·rw [List.take_succ_eq_append_getElem hk'] at hl
    rcases List.mem_append.1 hl with h' | h'
    ·exact hA h'
    ·rw [List.mem_singleton] at h'; exact h2 h'.symm
   refine dr ?_
   trivial
 ·have hkl:k=l.length:=by omega
  rw [hkl,List.take_length] at hA
  refine dr ?_
  exact bF (by rw [List.contains_eq_mem,decide_eq_false_iff_not]; exact hA)
theorem znI {w:Wld} {op:Op}:(turnsW w op).length≤1000:=by
 unfold turnsW
 split
 ·refine Nat.le_trans znE ?_
  have h1:=@zn0 w.over
  have h2:=@znz (vwG w.over) op
  have h3:(vwG w.over).length≤16:=h1
  omega
 ·simp
def zco:XC:=(.s (.r [.ex 2 (.box 0),.ex 3 (.box 1),.ex 4 (.asn (.k .nil) 1 9)]) (.s (.r [.f1 10 0 2,.l2 11 3 10,.c1 12 69 [11],.mv 9 12,.e1 13 9 0,.e1 14 9 1,.a1 5 13 3 39,.mv 6 14]) (.s (.r [.mv 16 5,.l2 17 4 3,.c1 18 107 [16,17],.mv 15 18,.e1 19 15 0,.e1 20 15 1,.a1 7 19 3 39,.mv 8 20]) (.s (.s (.r [.mv 21 8,.b1 22 .neq 21 (.i 0)]) (.cnd 22 (.s (.r [.ex 23 .bsl0,.a1 4 23 1 9]) .ret) .skip)) (.s (.r [.mv 24 5,.mv 25 7,.c1 26 120 [24,25],.a1 4 26 1 9]) .ret)))))
theorem zcp:compF Tryz.prog [] 208=some (zco.ac,[(.t 4)],27):=by kernel_rfl
theorem zfJ (W0:World) (w:Wld) (op:Op):FunW Tryz.prog W0 208 [wAn 6 w,.c (eOp op)] (wMn 6 w) (fun _:Unit=>True) (fun _ => .c (eStrs (turnsW w op))) (fun _=>wMn 6 w):=by
 refine funW (c:=zco) mixed zcp (by simp) rfl rfl fun hg=>?_
 have hv:=jx W0 w.over
 rw [zdz] at hv
 have hvl:=@zn0 w.over
 have e:turnsW w op=if (treeDo ((view4 w.over).getD []) op).2=0 then turned ((view4 w.over).getD []) (treeDo ((view4 w.over).getD []) op).1 else []:=rfl
 rw [e]
 clear e
 generalize (view4 w.over).getD []=t at *
 have hd:=jG W0 t op
 have hdl:=@znz t op
 have ht:=ze1 W0 t (treeDo t op).1 (by omega)
 generalize treeDo t op=r at *
 refine dEr ?_
 repeat ((first | refine c0 hv rfl ?_ | refine c0 hd rfl ?_); first | refine dEr ?_ | exact dz)
 refine cP ?_ ?_<;>intro h1
 ·rw [if_neg h1]
  refine dr ?_
  repeat (refine oB (by simp) ?_; first | refine dr ?_ | exact dz)
  refine ⟨some 3,_,_,?_,(),trivial,rfl,rfl⟩
  refine KeepS.trans (z:=none) (KeepS.nilF _ 0 rfl) ?_
  refine dr ?_
  repeat (refine oB (by simp) ?_; first | refine dr ?_ | exact dz)
  trivial
 ·rw [if_pos h1]
  refine dEr ?_
  repeat (refine c0 ht rfl ?_; first | refine dEr ?_ | exact dz)
  refine ⟨none,_,_,?_,(),trivial,rfl,rfl⟩
  refine dr ?_
  repeat (refine oB (by simp) ?_; first | refine dr ?_ | exact dz)
  trivial
theorem ZH {w:Wld} {op:Op}:barsW w op=w.leases.filter (fun l=>decide (w.clock < l.til)&&(turnsW w op).contains l.path):=rfl
def Q6:XC:=(.s (.r [.ex 2 (.box 0),.ex 3 (.box 1),.ex 4 (.asn (.k .nil) 4 72)]) (.s (.r [.ex 8 .bsl0,.a1 5 8 4 72]) (.s (.r [.l2 9 14 2,.l2 10 4 3,.o1 11 208 [9,10],.a1 6 11 1 9]) (.s (.s (.r [.m1 7 (.i 0)]) (.blk 0 (.loop (.s (.s (.r [.mv 12 7,.f1 13 5 2,.l1 14 1 13,.n1 15 14,.b1 16 .lss 12 15]) (.cnd 16 .skip (.exit 0))) (.s (.blk 1 (.s (.d [.f1 19 3 2,.l1 20 1 19,.f1 21 5 2,.l1 22 1 21,.mv 23 7,.i1 24 4 22 23,.f1 25 3 24,.l1 26 1 25,.b1 27 .lss 20 26,.mv 28 27,.gt 29 (.mv 6) 28,.gt 30 (.fa 5 2) 28,.gt 31 (.ld false 1 30) 28,.gt 32 (.mv 7) 28,.gt 33 (.ia 4 31 32) 28,.gt 34 (.fa 1 33) 28,.gt 35 (.ld false 1 34) 28,.gt 36 (.call 209 [29,35]) 28,.ex 37 (.pick 28 36 .n)]) (.cnd 37 (.r [.mv 38 5,.f1 39 5 2,.l1 40 1 39,.mv 41 7,.i1 42 4 40 41,.l2 43 4 42,.ex 44 (.bsl 4 72 [43]),.ex 45 (.app false 4 40 72 38 44),.a1 5 45 4 72]) .skip))) (.r [.mv 17 7,.b1 18 .add 17 (.i 1),.mv 7 18])))))) (.s (.r [.mv 46 5,.a1 4 46 4 72]) .ret)))))
theorem Q7:compF Tryz.prog [208] 174=some (Q6.ac,[(.t 4)],47):=by kernel_rfl
theorem zfh (W0:World) (w:Wld) (op:Op) (hl:w.leases.length≤1000000):FunW Tryz.prog W0 174 [wAn 6 w,.c (eOp op)] (wMn 6 w) (fun _:Unit=>True) (fun _ => .c (eLeases (barsW w op))) (fun _=>wMn 6 w):=by
 refine funW (c:=Q6) mixed Q7 (by simp) rfl rfl fun hg=>?_
 have ht:=zfJ W0 w op
 have htl:=@znI w op
 rw [ZH]
 generalize turnsW w op=ts at *
 refine dr ?_
 refine oW ht rfl ⟨rfl,rfl,rfl,trivial⟩ rfl rfl ⟨(),trivial⟩ fun _ _=>⟨rfl,?_⟩
 refine dEr ?_
 refine lp2 (fun (k:Nat) (out:List Lease)=>[(2,.ptr 32 0),(5,.own 80 out.length),(6,.c (eStrs ts)),(7,I k)]) (fun _ out=>[(32,.box (wCo 6 w)),(80,.row (out.map eLease) 4 72)]++wMn 6 w) (fun k out=>k≤w.leases.length∧out=(w.leases.take k).filter (fun l=>decide (w.clock < l.til)&&ts.contains l.path)∧out.length≤k) (fun k _=>w.leases.length - k) 0 [] ⟨by simp,rfl,by simp⟩ ?_ ?_
 ·refine dr ?_
  trivial
 rintro k out ⟨hk,ho,hle⟩
 refine dr ?_
 refine cP ?_ ?_<;>intro h1
 ·have hk':k < w.leases.length:=by omega
  refine dr ?_
  refine cP ?_ ?_<;>intro h2
  ·refine dEr ?_
   repeat (refine c0 (zft W0 ts _ (by omega)) rfl ?_; first | refine dEr ?_ | exact dz)
   refine cP ?_ ?_<;>intro h3
   ·refine dr ?_
    repeat ((first | refine oB (by simp; omega) ?_ | refine oB (by simp) ?_); first | refine dr ?_ | exact dz)
    refine ⟨k+1,out++[w.leases[k]],⟨by omega,by rw [jK hk' (by rw [decide_eq_true h2,h3]<;>rfl),ho],by simp; omega⟩,by omega,?_⟩
    refine dr ?_
    repeat (refine oB (by simp<;>rfl) ?_; first | refine dr ?_ | exact dz)
    trivial
   ·refine dr ?_
    refine ⟨k+1,out,⟨by omega,by rw [jJ hk' (by rw [h3,Bool.and_false]),ho],by omega⟩,by omega,?_⟩
    refine dr ?_
    trivial
  ·refine dr ?_
   refine ⟨k+1,out,⟨by omega,by rw [jJ hk' (by rw [decide_eq_false (by omega),Bool.false_and]),ho],by omega⟩,by omega,?_⟩
   refine dr ?_
   trivial
 have hkl:k=w.leases.length:=by omega
 rw [hkl,List.take_length] at ho
 rw [← ho]
 refine dr ?_
 repeat (refine oB (by simp) ?_; first | refine dr ?_ | exact dz)
 refine ⟨some 80,_,_,?_,(),trivial,rfl,rfl⟩
 refine dr ?_
 repeat (refine oB (by simp<;>rfl) ?_; first | refine dr ?_ | exact dz)
 trivial

def zcw:XC:=(.s (.r [.ex 2 (.box 0),.ex 3 (.box 1),.ex 4 (.alloc [.nil,.nil,.nil,(I 0),(I 0),.nil,.nil,.nil,.nil,(B false),(I 0),sE,sE,sE]),.m1 5 (.i 0)]) (.s (.r [.f1 12 0 2,.l2 13 3 12,.c1 14 69 [13],.mv 11 14,.e1 15 11 0,.e1 16 11 1,.a1 6 15 3 39,.mv 7 16]) (.s (.r [.mv 18 6,.l2 19 4 3,.c1 20 107 [18,19],.mv 17 20,.e1 21 17 0,.e1 22 17 1,.a1 8 21 3 39,.mv 9 22]) (.s (.s (.r [.f1 23 9 2,.l1 24 1 23]) (.cnd 24 (.s (.r [.l2 25 14 2,.s1 14 4 25,.m1 5 (.i 21)]) .ret) .skip)) (.s (.s (.r [.mv 26 9,.b1 27 .neq 26 (.i 0)]) (.cnd 27 (.s (.r [.l2 28 14 2,.mv 29 9,.s1 14 4 28,.mv 5 29]) .ret) .skip)) (.s (.r [.l2 30 14 2,.l2 31 4 3,.o1 32 174 [30,31],.a1 10 32 4 72]) (.s (.s (.r [.mv 33 10,.n1 34 33,.b1 35 .gtr 34 (.i 0)]) (.cnd 35 (.s (.r [.f1 36 9 2,.nu (.st 1 36 .y)]) (.s (.r [.l2 37 4 3,.f1 38 10 2,.s1 4 38 37]) (.s (.r [.l2 39 14 2,.mv 40 10,.o1 41 175 [39,40],.s1 14 4 41,.m1 5 (.i 20)]) .ret))) .skip)) (.s (.r [.f1 43 0 2,.l2 44 3 43,.l2 45 4 3,.c1 46 93 [44,45],.mv 42 46,.e1 47 42 0,.e1 48 42 1,.f1 49 0 2,.s1 3 49 47]) (.s (.r [.l2 50 14 2,.s1 14 4 50,.m1 5 (.i 0)]) .ret)))))))))
theorem zcx:compF Tryz.prog [174,175] 115=some (zcw.ac,[(.cell 4 true 14),(.t 5)],51):=by kernel_rfl
theorem zn1 {w:Wld} (h:WG w):view4 w.over=some (vwG w.over):=by
 obtain ⟨t,g⟩:=h.og
 exact g.vw
theorem zfM (W0:World) (w:Wld) (op:Op) (h:WG w) (hl:w.leases.length≤1000000):FunW Tryz.prog W0 115 [wAn 6 w,.c (eOp op)] (wMn 6 w) (fun _:Unit=>True) (fun _ => .tup [wAn 6 (writeW w op).1,.c (CI (writeW w op).2)]) (fun _=>wMn 6 (writeW w op).1):=by
 refine funW (c:=zcw) mixed zcx (by simp) rfl rfl fun hg=>?_
 have hv:=jx W0 w.over
 rw [zn1 h] at hv
 have hd:=jG W0 (vwG w.over) op
 have hn:w.net.length≤1000:=by have:=h.pl.nl; omega
 have hb:=zfh W0 w op hl
 have hbl:(barsW w op).length≤1000000:=Nat.le_trans (List.length_filter_le _ _) hl
 have ho:=zf9 W0 w.over op
 have hw:writeW w op=if w.waits=true then (w,21) else if (treeDo (vwG w.over) op).2≠0 then (w,(treeDo (vwG w.over) op).2)
  else if barsW w op≠[] then (recallW { w with waits:=true,op:=op } (barsW w op),20)
  else ({ w with over:=(oDo w.over op).1 },0):=rfl
 rw [hw]
 generalize hb2:barsW w op=b at *
 generalize treeDo (vwG w.over) op=r at *
 generalize oDo w.over op=o2 at *
 refine dEr ?_
 repeat ((first | refine c0 hv rfl ?_ | refine c0 hd rfl ?_); first | refine dEr ?_ | exact dz)
 refine cP ?_ ?_<;>intro h1
 ·rw [if_pos h1]
  refine dr ?_
  refine ⟨none,_,_,?_,(),trivial,rfl,rfl⟩
  refine dr ?_
  trivial
 rw [if_neg (by simp [h1])]
 refine dr ?_
 refine cP ?_ ?_<;>intro h2
 ·rw [if_pos h2]
  refine dr ?_
  refine ⟨none,_,_,?_,(),trivial,rfl,rfl⟩
  refine dr ?_
  trivial
 rw [if_neg (fun hh=>hh h2)]
 refine dr ?_
 refine oW hb rfl ⟨rfl,rfl,rfl,trivial⟩ rfl rfl ⟨(),trivial⟩ fun _ _=>⟨rfl,?_⟩
 refine dEr ?_
 refine cP ?_ ?_<;>intro h3
 ·rw [if_pos (by rintro rfl; simp at h3)]
  refine dr ?_
  refine oW (zfE W0 { w with waits:=true,op:=op } b hn hbl) rfl ⟨rfl,rfl,rfl,trivial⟩ rfl rfl ⟨(),trivial⟩ fun _ _=>⟨rfl,?_⟩
  refine dEr ?_
  refine ⟨none,_,_,?_,(),trivial,rfl,rfl⟩
  refine dr ?_
  trivial
 ·have hb0:b=[]:=List.eq_nil_of_length_eq_zero (by omega)
  rw [if_neg (by simp [hb0])]
  refine dEr ?_
  repeat (refine c0 ho rfl ?_; first | refine dEr ?_ | exact dz)
  refine ⟨none,_,_,?_,(),trivial,rfl,rfl⟩
  refine dr ?_
  trivial
def zcm:XC:=(.s (.r [.ex 1 (.box 0),.ex 2 (.alloc [.nil,.nil,.nil,(I 0),(I 0),.nil,.nil,.nil,.nil,(B false),(I 0),sE,sE,sE]),.m1 3 (.i 0)]) (.s (.s (.r [.f1 5 9 1,.l1 6 1 5,.ex 7 (.un .not 6)]) (.cnd 7 (.s (.r [.l2 8 14 1,.s1 14 2 8,.m1 3 (.i 22)]) .ret) .skip)) (.s (.r [.l2 9 14 1,.f1 10 10 1,.l2 11 4 10,.o1 12 174 [9,11],.a1 4 12 4 72]) (.s (.s (.r [.mv 13 4,.n1 14 13,.b1 15 .gtr 14 (.i 0)]) (.cnd 15 (.s (.r [.l2 16 14 1,.mv 17 4,.o1 18 175 [16,17],.s1 14 2 18,.m1 3 (.i 20)]) .ret) .skip)) (.s (.r [.f1 20 0 1,.l2 21 3 20,.f1 22 10 1,.l2 23 4 22,.c1 24 93 [21,23],.mv 19 24,.e1 25 19 0,.e1 26 19 1,.f1 27 0 1,.s1 3 27 25]) (.s (.r [.f1 28 9 1,.nu (.st 1 28 .n)]) (.s (.r [.ex 29 (.build [(I 0),sE,sE,sE] []),.f1 30 10 1,.s1 4 30 29]) (.s (.r [.l2 31 14 1,.s1 14 2 31,.m1 3 (.i 0)]) .ret))))))))
theorem zcn:compF Tryz.prog [174,175] 116=some (zcm.ac,[(.cell 2 true 14),(.t 3)],32):=by kernel_rfl
theorem zfI (W0:World) (w:Wld) (h:WG w) (hl:w.leases.length≤1000000):FunW Tryz.prog W0 116 [wAn 6 w] (wMn 6 w) (fun _:Unit=>True) (fun _ => .tup [wAn 6 (tryW w).1,.c (CI (tryW w).2)]) (fun _=>wMn 6 (tryW w).1):=by
 refine funW (c:=zcm) mixed zcn (by simp) rfl rfl fun hg=>?_
 have hn:w.net.length≤1000:=by have:=h.pl.nl; omega
 have hb:=zfh W0 w w.op hl
 have hbl:(barsW w w.op).length≤1000000:=Nat.le_trans (List.length_filter_le _ _) hl
 have ho:=zf9 W0 w.over w.op
 have hw:tryW w=if w.waits=false then (w,22) else if barsW w w.op≠[] then (recallW w (barsW w w.op),20)
  else ({ w with over:=(oDo w.over w.op).1,waits:=false,op:=noOp },0):=rfl
 rw [hw]
 generalize hb2:barsW w w.op=b at *
 generalize oDo w.over w.op=o2 at *
 refine dr ?_
 refine cP ?_ ?_<;>intro h1
 ·rw [if_pos h1]
  refine dr ?_
  refine ⟨none,_,_,?_,(),trivial,rfl,rfl⟩
  refine dr ?_
  trivial
 rw [if_neg (by simp [h1])]
 refine dr ?_
 refine oW hb rfl ⟨rfl,rfl,rfl,trivial⟩ rfl rfl ⟨(),trivial⟩ fun _ _=>⟨rfl,?_⟩
 refine dEr ?_
 refine cP ?_ ?_<;>intro h3
 ·rw [if_pos (by rintro rfl; simp at h3)]
  refine dr ?_
  refine oW (zfE W0 w b hn hbl) rfl ⟨rfl,rfl,rfl,trivial⟩ rfl rfl ⟨(),trivial⟩ fun _ _=>⟨rfl,?_⟩
  refine dEr ?_
  refine ⟨none,_,_,?_,(),trivial,rfl,rfl⟩
  refine dr ?_
  trivial
 ·have hb0:b=[]:=List.eq_nil_of_length_eq_zero (by omega)
  rw [if_neg (by simp [hb0])]
  refine dEr ?_
  repeat (refine c0 ho rfl ?_; first | refine dEr ?_ | exact dz)
  refine ⟨none,_,_,?_,(),trivial,rfl,rfl⟩
  refine dr ?_
  trivial
theorem zj1 {l:List Lease} {who:Int} {p:Str} {num:Int}:offL l who p num=l.filter fun x=>!(x.who==who&&(x.path==p&&decide (x.num≤num))):=rfl
def zb8:XC:=(.s (.r [.ex 8 (.asn (.k .nil) 4 72)]) (.s (.r [.ex 11 .bsl0,.a1 9 11 4 72]) (.s (.s (.r [.m1 10 (.i 0)]) (.blk 0 (.loop (.s (.s (.r [.mv 12 10,.mv 13 0,.n1 14 13,.b1 15 .lss 12 14]) (.cnd 15 .skip (.exit 0))) (.s (.blk 1 (.s (.r [.mv 18 0,.mv 19 10,.i1 20 4 18 19,.f1 21 0 20,.l1 22 1 21,.mv 23 1,.b1 24 .neq 22 23,.mv 25 24,.gf 26 (.mv 0) 25,.gf 27 (.mv 10) 25,.gf 28 (.ia 4 26 27) 25,.gf 29 (.fa 1 28) 25,.gf 30 (.ld false 1 29) 25,.gf 31 (.mv 2) 25,.gf 32 (.bin .neq 30 31) 25,.ex 33 (.pick 25 .y 32),.mv 34 33,.gf 35 (.mv 0) 34,.gf 36 (.mv 10) 34,.gf 37 (.ia 4 35 36) 34,.gf 38 (.fa 2 37) 34,.gf 39 (.ld false 1 38) 34,.gf 40 (.mv 3) 34,.gf 41 (.bin .gtr 39 40) 34,.ex 42 (.pick 34 .y 41)]) (.cnd 42 (.r [.mv 43 9,.mv 44 0,.mv 45 10,.i1 46 4 44 45,.l2 47 4 46,.ex 48 (.bsl 4 72 [47]),.ex 49 (.app false 4 40 72 43 48),.a1 9 49 4 72]) .skip))) (.r [.mv 16 10,.b1 17 .add 16 (.i 1),.mv 10 17])))))) (.s (.r [.mv 50 9,.a1 8 50 4 72]) .ret))))
theorem zb9:compF Tryz.prog [] 213=some (zb8.ac,[(.t 8)],51):=by kernel_rfl
theorem zfA (W0:World) (l:List Lease) (who:Int) (p:Str) (num:Int) (hl:l.length≤1000000):Fn Tryz.prog W0 213 [eLeases l,CI who,CS p,CI num] (.c (eLeases (offL l who p num))) []:=by
 refine fnX (c:=zb8) mixed zb9 (by simp) rfl fun hg=>?_
 refine dr ?_
 refine lp2 (fun (k:Nat) (out:List Lease)=>[(0,.c (eLeases l)),(1,.c (CI who)),(2,.c (CS p)),(3,.c (CI num)),(9,.own 144 out.length),(10,I k)]) (fun _ out=>[(144,.row (out.map eLease) 4 72)]) (fun k out=>k≤l.length∧out=(l.take k).filter (fun x=>!(x.who==who&&(x.path==p&&decide (x.num≤num))))∧out.length≤k) (fun k _=>l.length - k) 0 [] ⟨by simp,rfl,by simp⟩ ?_ ?_
 ·refine dr ?_
  trivial
 rintro k out ⟨hk,ho,hle⟩
 refine dr ?_
 refine cP ?_ ?_<;>intro h1
 ·have hk':k < l.length:=by omega
  have keep:(!(l[k].who==who&&(l[k].path==p&&decide (l[k].num≤num))))=true→out++[l[k]]=(l.take (k+1)).filter (fun x=>!(x.who==who&&(x.path==p&&decide (x.num≤num)))):=fun h=>by rw [jK hk' h,ho]
  refine dr ?_
  refine cP ?_ ?_<;>intro h2
  ·refine dr ?_
   repeat ((first | refine oB (by simp; omega) ?_ | refine oB (by simp) ?_); first | refine dr ?_ | exact dz)
   refine ⟨k+1,out++[l[k]],⟨by omega,keep (by simp [h2]),by simp; omega⟩,by omega,?_⟩
   refine dr ?_
   repeat (refine oB (by simp<;>rfl) ?_; first | refine dr ?_ | exact dz)
   trivial
  refine dr ?_
  refine cP ?_ ?_<;>intro h3
  ·refine dr ?_
   repeat ((first | refine oB (by simp; omega) ?_ | refine oB (by simp) ?_); first | refine dr ?_ | exact dz)
   refine ⟨k+1,out++[l[k]],⟨by omega,keep (by simp [h3]),by simp; omega⟩,by omega,?_⟩
   refine dr ?_
   repeat (refine oB (by simp<;>rfl) ?_; first | refine dr ?_ | exact dz)
   trivial
  refine dr ?_
  refine cP ?_ ?_<;>intro h4
  ·refine dr ?_
   repeat ((first | refine oB (by simp; omega) ?_ | refine oB (by simp) ?_); first | refine dr ?_ | exact dz)
   refine ⟨k+1,out++[l[k]],⟨by omega,keep (by simp; omega),by simp; omega⟩,by omega,?_⟩
   refine dr ?_
   repeat (refine oB (by simp<;>rfl) ?_; first | refine dr ?_ | exact dz)
   trivial
  ·refine dr ?_
   refine ⟨k+1,out,⟨by omega,by rw [jJ hk' (by simp [h2,h3]; omega),ho],by omega⟩,by omega,?_⟩
   refine dr ?_
   trivial
 have hkl:k=l.length:=by omega
 rw [hkl,List.take_length] at ho
 rw [zj1,← ho]
 refine dr ?_
 repeat (refine oB (by simp) ?_; first | refine dr ?_ | exact dz)
 rfl
theorem zfC (W0:World) (l:List Lease) (who:Int) (p:Str) (num:Int) (hl:l.length≤1000000):FunW Tryz.prog W0 213 [.c (eLeases l),.c (CI who),.c (CS p),.c (CI num)] [] (fun _:Unit=>True) (fun _ => .own 144 (offL l who p num).length) (fun _=>[(144,.row ((offL l who p num).map eLease) 4 72)]):=by
 refine funW (c:=zb8) mixed zb9 (by simp) rfl rfl fun hg=>?_
 refine dr ?_
 refine lp2 (fun (k:Nat) (out:List Lease)=>[(0,.c (eLeases l)),(1,.c (CI who)),(2,.c (CS p)),(3,.c (CI num)),(9,.own 144 out.length),(10,I k)]) (fun _ out=>[(144,.row (out.map eLease) 4 72)]) (fun k out=>k≤l.length∧out=(l.take k).filter (fun x=>!(x.who==who&&(x.path==p&&decide (x.num≤num))))∧out.length≤k) (fun k _=>l.length - k) 0 [] ⟨by simp,rfl,by simp⟩ ?_ ?_
 ·refine dr ?_
  trivial
 rintro k out ⟨hk,ho,hle⟩
 refine dr ?_
 refine cP ?_ ?_<;>intro h1
 ·have hk':k < l.length:=by omega
  have keep:(!(l[k].who==who&&(l[k].path==p&&decide (l[k].num≤num))))=true→out++[l[k]]=(l.take (k+1)).filter (fun x=>!(x.who==who&&(x.path==p&&decide (x.num≤num)))):=fun h=>by rw [jK hk' h,ho]
  refine dr ?_
  refine cP ?_ ?_<;>intro h2
  ·refine dr ?_
   repeat ((first | refine oB (by simp; omega) ?_ | refine oB (by simp) ?_); first | refine dr ?_ | exact dz)
   refine ⟨k+1,out++[l[k]],⟨by omega,keep (by simp [h2]),by simp; omega⟩,by omega,?_⟩
   refine dr ?_
   repeat (refine oB (by simp<;>rfl) ?_; first | refine dr ?_ | exact dz)
   trivial
  refine dr ?_
  refine cP ?_ ?_<;>intro h3
  ·refine dr ?_
   repeat ((first | refine oB (by simp; omega) ?_ | refine oB (by simp) ?_); first | refine dr ?_ | exact dz)
   refine ⟨k+1,out++[l[k]],⟨by omega,keep (by simp [h3]),by simp; omega⟩,by omega,?_⟩
   refine dr ?_
   repeat (refine oB (by simp<;>rfl) ?_; first | refine dr ?_ | exact dz)
   trivial
  refine dr ?_
  refine cP ?_ ?_<;>intro h4
  ·refine dr ?_
   repeat ((first | refine oB (by simp; omega) ?_ | refine oB (by simp) ?_); first | refine dr ?_ | exact dz)
   refine ⟨k+1,out++[l[k]],⟨by omega,keep (by simp; omega),by simp; omega⟩,by omega,?_⟩
   refine dr ?_
   repeat (refine oB (by simp<;>rfl) ?_; first | refine dr ?_ | exact dz)
   trivial
  ·refine dr ?_
   refine ⟨k+1,out,⟨by omega,by rw [jJ hk' (by simp [h2,h3]; omega),ho],by omega⟩,by omega,?_⟩
   refine dr ?_
   trivial
 have hkl:k=l.length:=by omega
 rw [hkl,List.take_length] at ho
 rw [zj1,← ho]
 refine dr ?_
 refine ⟨none,_,_,?_,(),trivial,rfl,rfl⟩
 refine dr ?_
 trivial
theorem zfB (W0:World) (l:List Lease) (who:Int) (p:Str) (num:Int) (hl:l.length≤1000000):FunW Tryz.prog W0 213 [.c (eLeases l),.c (CI who),.c (CS p),.c (CI num)] [] (fun _:Unit=>True) (fun _ => .own 7 (offL l who p num).length) (fun _=>[(7,.row ((offL l who p num).map eLease) 4 72)]):=(zfC W0 l who p num hl).swp 144 7
def zck:XC:=(.s (.r [.ex 1 (.box 0),.ex 2 (.alloc [.nil,.nil,.nil,(I 0),(I 0),.nil,.nil,.nil,.nil,(B false),(I 0),sE,sE,sE])]) (.s (.s (.r [.f1 5 3 1,.l1 6 1 5,.b1 7 .lss 6 (.i 10000)]) (.cnd 7 (.r [.f1 8 3 1,.l1 9 1 8,.b1 10 .add 9 (.i 1),.f1 11 3 1,.s1 1 11 10]) .skip)) (.s (.r [.ex 12 .bsl0,.a1 3 12 4 72]) (.s (.s (.r [.m1 4 (.i 0)]) (.blk 0 (.loop (.s (.s (.r [.mv 13 4,.f1 14 5 1,.l1 15 1 14,.n1 16 15,.b1 17 .lss 13 16]) (.cnd 17 .skip (.exit 0))) (.s (.blk 1 (.s (.d [.f1 20 3 1,.l1 21 1 20,.f1 22 5 1,.l1 23 1 22,.mv 24 4,.i1 25 4 23 24,.f1 26 3 25,.l1 27 1 26,.b1 28 .lss 21 27]) (.cnd 28 (.r [.mv 29 3,.f1 30 5 1,.l1 31 1 30,.mv 32 4,.i1 33 4 31 32,.l2 34 4 33,.ex 35 (.bsl 4 72 [34]),.ex 36 (.app false 4 40 72 29 35),.a1 3 36 4 72]) .skip))) (.r [.mv 18 4,.b1 19 .add 18 (.i 1),.mv 4 19])))))) (.s (.r [.mv 37 3,.f1 38 5 1,.s1 1 38 37]) (.s (.r [.l2 39 14 1,.s1 14 2 39]) .ret))))))
theorem zcl:compF Tryz.prog [] 117=some (zck.ac,[(.cell 2 true 14)],40):=by kernel_rfl
theorem zfH (W0:World) (w:Wld) (h:WG w) (hl:w.leases.length≤1000000):FunW Tryz.prog W0 117 [wAn 6 w] (wMn 6 w) (fun _:Unit=>True) (fun _=>wAn 6 (tickW w)) (fun _=>wMn 6 (tickW w)):=by
 refine funW (c:=zck) mixed zcl (by simp) rfl rfl fun hg=>?_
 have hc:=h.pl.ck
 have e0:tickW w={ w with clock:=tickC w,leases:=w.leases.filter fun l=>decide (tickC w < l.til) }:=rfl
 refine dr ?_
 refine cP ?_ ?_<;>intro h1
 ·have e1:tickC w=w.clock+1:=by unfold tickC; rw [if_pos (by omega)]
  rw [e0,e1]
  clear e0 e1
  refine dr ?_
  refine lp2 (fun (k:Nat) (out:List Lease)=>[(1,.ptr 16 0),(2,.ptr 32 0),(3,.own 48 out.length),(4,I k)]) (fun _ out=>[(16,.box (wCo 6 { w with clock:=w.clock+1 })),(32,zWB),(48,.row (out.map eLease) 4 72)]++wMn 6 w) (fun k out=>k≤w.leases.length∧out=(w.leases.take k).filter (fun l=>decide (w.clock+1 < l.til))∧out.length≤k) (fun k _=>w.leases.length - k) 0 [] ⟨by simp,rfl,by simp⟩ ?_ ?_
  ·refine dr ?_
   trivial
  rintro k out ⟨hk,ho,hle⟩
  refine dr ?_
  refine cP ?_ ?_<;>intro h2
  ·have hk':k < w.leases.length:=by have:(k:Int) < (w.leases.length:Int):=h2; omega
   refine dr ?_
   refine cP ?_ ?_<;>intro h3
   ·refine dr ?_
    repeat ((first | refine oB (by simp; omega) ?_ | refine oB (by simp) ?_); first | refine dr ?_ | exact dz)
    refine ⟨k+1,out++[w.leases[k]],⟨by omega,by rw [jK hk' (decide_eq_true h3),ho],by simp; omega⟩,by omega,?_⟩
    refine dr ?_
    repeat (refine oB (by simp<;>rfl) ?_; first | refine dr ?_ | exact dz)
    trivial
   ·refine dr ?_
    refine ⟨k+1,out,⟨by omega,by rw [jJ hk' (decide_eq_false (Int.not_lt.2 h3)),ho],by omega⟩,by omega,?_⟩
    refine dr ?_
    trivial
  have hkl:k=w.leases.length:=by have:(w.leases.length:Int)≤(k:Int):=h2; omega
  rw [hkl,List.take_length] at ho
  rw [← ho]
  refine dr ?_
  refine ⟨some 48,_,_,?_,(),trivial,rfl,rfl⟩
  refine dr ?_
  repeat (refine oB (by simp<;>rfl) ?_; first | refine dr ?_ | exact dz)
  trivial
 ·have e1:tickC w=w.clock:=by unfold tickC; rw [if_neg (by omega)]
  rw [e0,e1]
  clear e0 e1
  refine dr ?_
  refine lp2 (fun (k:Nat) (out:List Lease)=>[(1,.ptr 16 0),(2,.ptr 32 0),(3,.own 48 out.length),(4,I k)]) (fun _ out=>[(16,.box (wCo 6 w)),(32,zWB),(48,.row (out.map eLease) 4 72)]++wMn 6 w) (fun k out=>k≤w.leases.length∧out=(w.leases.take k).filter (fun l=>decide (w.clock < l.til))∧out.length≤k) (fun k _=>w.leases.length - k) 0 [] ⟨by simp,rfl,by simp⟩ ?_ ?_
  ·refine dr ?_
   trivial
  rintro k out ⟨hk,ho,hle⟩
  refine dr ?_
  refine cP ?_ ?_<;>intro h2
  ·have hk':k < w.leases.length:=by have:(k:Int) < (w.leases.length:Int):=h2; omega
   refine dr ?_
   refine cP ?_ ?_<;>intro h3
   ·refine dr ?_
    repeat ((first | refine oB (by simp; omega) ?_ | refine oB (by simp) ?_); first | refine dr ?_ | exact dz)
    refine ⟨k+1,out++[w.leases[k]],⟨by omega,by rw [jK hk' (decide_eq_true h3),ho],by simp; omega⟩,by omega,?_⟩
    refine dr ?_
    repeat (refine oB (by simp<;>rfl) ?_; first | refine dr ?_ | exact dz)
    trivial
   ·refine dr ?_
    refine ⟨k+1,out,⟨by omega,by rw [jJ hk' (decide_eq_false (Int.not_lt.2 h3)),ho],by omega⟩,by omega,?_⟩
    refine dr ?_
    trivial
  have hkl:k=w.leases.length:=by have:(w.leases.length:Int)≤(k:Int):=h2; omega
  rw [hkl,List.take_length] at ho
  rw [← ho]
  refine dr ?_
  refine ⟨some 48,_,_,?_,(),trivial,rfl,rfl⟩
  refine dr ?_
  repeat (refine oB (by simp<;>rfl) ?_; first | refine dr ?_ | exact dz)
  trivial
def zci:XC:=(.s (.r [.ex 3 (.box 1),.ex 4 (.asn (.k .nil) 7 53)]) (.s (.r [.ex 7 .bsl0,.a1 5 7 7 53]) (.s (.s (.r [.m1 6 (.i 0)]) (.blk 0 (.loop (.s (.s (.r [.mv 8 6,.mv 9 0,.n1 10 9,.b1 11 .lss 8 10]) (.cnd 11 .skip (.exit 0))) (.s (.blk 1 (.s (.s (.d [.mv 14 0,.mv 15 6,.i1 16 7 14 15,.f1 17 0 16,.l1 18 1 17,.f1 19 0 3,.l1 20 1 19,.b1 21 .eql 18 20,.mv 22 21,.gt 23 (.mv 0) 22,.gt 24 (.mv 6) 22,.gt 25 (.ia 7 23 24) 22,.gt 26 (.fa 5 25) 22,.gt 27 (.ld false 1 26) 22,.gt 28 (.fa 5 3) 22,.gt 29 (.ld false 1 28) 22,.gt 30 (.bin .geq 27 29) 22,.ex 31 (.pick 22 30 .n)]) (.cnd 31 (.s (.r [.mv 32 0,.a1 4 32 7 53]) .ret) .skip)) (.s (.d [.mv 33 0,.mv 34 6,.i1 35 7 33 34,.f1 36 0 35,.l1 37 1 36,.f1 38 0 3,.l1 39 1 38,.b1 40 .neq 37 39]) (.cnd 40 (.r [.mv 41 5,.mv 42 0,.mv 43 6,.i1 44 7 42 43,.l2 45 7 44,.ex 46 (.bsl 7 53 [45]),.ex 47 (.app false 7 80 53 41 46),.a1 5 47 7 53]) .skip)))) (.r [.mv 12 6,.b1 13 .add 12 (.i 1),.mv 6 13])))))) (.s (.r [.mv 48 5,.l2 49 7 3,.ex 50 (.bsl 7 53 [49]),.ex 51 (.app false 7 80 53 48 50),.a1 4 51 7 53]) .ret))))
theorem zcj:compF Tryz.prog [] 211=some (zci.ac,[(.t 4)],52):=by kernel_rfl
theorem zni {l:List Hold} {h:Hold} {k:Nat} (hk:k < l.length) (h1:l[k].path=h.path) (h2:h.num≤l[k].num):takeH l h=l:=by
 unfold takeH
 rw [if_pos]
 rw [List.any_eq_true]
 exact ⟨l[k],List.getElem_mem hk,by simp [h1,h2]⟩
theorem znh {l:List Hold} {h:Hold} (hn:∀ x∈l,¬ (x.path=h.path∧h.num≤x.num)):takeH l h=(l.filter fun x=>x.path != h.path)++[h]:=by
 unfold takeH
 rw [if_neg]
 rw [List.any_eq_true]
 rintro ⟨x,hx,h2⟩
 simp only [Bool.and_eq_true,beq_iff_eq,decide_eq_true_eq] at h2
 exact hn x hx h2
theorem zfG (W0:World) (l:List Hold) (h:Hold) (hl:l.length≤1000000):Fn Tryz.prog W0 211 [eHolds l,eHold h] (.c (eHolds (takeH l h))) []:=by
 refine fnX (c:=zci) mixed zcj (by simp) rfl fun hg=>?_
 refine dr ?_
 refine lp2 (fun (k:Nat) (out:List Hold)=>[(0,.c (eHolds l)),(3,.ptr 48 0),(5,.own 80 out.length),(6,I k)]) (fun _ out=>[(48,.box (hCs h)),(80,.row (out.map eHold) 7 53)]) (fun k out=>k≤l.length∧out=(l.take k).filter (fun x=>x.path != h.path)∧out.length≤k∧∀ x∈l.take k,¬ (x.path=h.path∧h.num≤x.num)) (fun k _=>l.length - k) 0 [] ⟨by simp,rfl,by simp,by simp⟩ ?_ ?_
 ·refine dr ?_
  trivial
 rintro k out ⟨hk,ho,hle,hA⟩
 refine dr ?_
 refine cP ?_ ?_<;>intro h1
 ·have hk':k < l.length:=by omega
  have next:¬ (l[k].path=h.path∧h.num≤l[k].num)→∀ x∈l.take (k+1),¬ (x.path=h.path∧h.num≤x.num):=fun hh x hx=>by
   rw [List.take_succ_eq_append_getElem hk'] at hx
   rcases List.mem_append.1 hx with h' | h'
   ·exact hA x h'
   ·rw [List.mem_singleton.1 h']; exact hh
  refine dr ?_
  refine cP ?_ ?_<;>intro h2
  ·refine dr ?_
   refine cP ?_ ?_<;>intro h3
   ·refine dr ?_
    rw [zni hk' h2 h3]<;>rfl
   refine dr ?_
   refine cP ?_ ?_<;>intro h4
   ·exact absurd h2 h4
   refine dr ?_
   refine ⟨k+1,out,⟨by omega,by rw [jJ hk' (by simp [h2]),ho],by omega,next (by omega)⟩,by omega,?_⟩
   refine dr ?_
   trivial
  refine dr ?_
  refine cP ?_ ?_<;>intro h4
  ·refine dr ?_
   repeat ((first | refine oB (by simp; omega) ?_ | refine oB (by simp) ?_); first | refine dr ?_ | exact dz)
   refine ⟨k+1,out++[l[k]],⟨by omega,by rw [jK hk' (by simp [h2]),ho],by simp; omega,next fun hh=>h2 hh.1⟩,by omega,?_⟩
   refine dr ?_
   repeat (refine oB (by simp<;>rfl) ?_; first | refine dr ?_ | exact dz)
   trivial
  ·exact absurd h4 h2
 have hkl:k=l.length:=by omega
 rw [hkl,List.take_length] at ho hA
 rw [znh hA,← ho]
 refine dr ?_
 repeat ((first | refine oB (by simp; omega) ?_ | refine oB (by simp) ?_); first | refine dr ?_ | exact dz)
 simp [eHolds]
 rfl
def zb0:XC:=(.s (.r [.ex 6 (.asn (.k .nil) 7 53)]) (.s (.r [.ex 9 .bsl0,.a1 7 9 7 53]) (.s (.s (.r [.m1 8 (.i 0)]) (.blk 0 (.loop (.s (.s (.r [.mv 10 8,.mv 11 0,.n1 12 11,.b1 13 .lss 10 12]) (.cnd 13 .skip (.exit 0))) (.s (.blk 1 (.s (.r [.mv 16 0,.mv 17 8,.i1 18 7 16 17,.f1 19 0 18,.l1 20 1 19,.mv 21 1,.b1 22 .neq 20 21,.mv 23 22,.gf 24 (.mv 0) 23,.gf 25 (.mv 8) 23,.gf 26 (.ia 7 24 25) 23,.gf 27 (.fa 5 26) 23,.gf 28 (.ld false 1 27) 23,.gf 29 (.mv 2) 23,.gf 30 (.bin .gtr 28 29) 23,.ex 31 (.pick 23 .y 30)]) (.cnd 31 (.r [.mv 32 7,.mv 33 0,.mv 34 8,.i1 35 7 33 34,.l2 36 7 35,.ex 37 (.bsl 7 53 [36]),.ex 38 (.app false 7 80 53 32 37),.a1 7 38 7 53]) .skip))) (.r [.mv 14 8,.b1 15 .add 14 (.i 1),.mv 8 15])))))) (.s (.r [.mv 39 7,.a1 6 39 7 53]) .ret))))
theorem zb1:compF Tryz.prog [] 212=some (zb0.ac,[(.t 6)],40):=by kernel_rfl
theorem ziO {l:List Hold} {p:Str} {n:Int}:leaveH l p n=l.filter fun x=>!(x.path==p&&decide (x.num≤n)):=rfl
theorem zfw (W0:World) (l:List Hold) (p:Str) (n:Int) (hl:l.length≤1000000):Fn Tryz.prog W0 212 [eHolds l,CS p,CI n] (.c (eHolds (leaveH l p n))) []:=by
 refine fnX (c:=zb0) mixed zb1 (by simp) rfl fun hg=>?_
 refine dr ?_
 refine lp2 (fun (k:Nat) (out:List Hold)=>[(0,.c (eHolds l)),(1,.c (CS p)),(2,.c (CI n)),(7,.own 112 out.length),(8,I k)]) (fun _ out=>[(112,.row (out.map eHold) 7 53)]) (fun k out=>k≤l.length∧out=(l.take k).filter (fun x=>!(x.path==p&&decide (x.num≤n)))∧out.length≤k) (fun k _=>l.length - k) 0 [] ⟨by simp,rfl,by simp⟩ ?_ ?_
 ·refine dr ?_
  trivial
 rintro k out ⟨hk,ho,hle⟩
 refine dr ?_
 refine cP ?_ ?_<;>intro h1
 ·have hk':k < l.length:=by omega
  have keep:(!(l[k].path==p&&decide (l[k].num≤n)))=true→out++[l[k]]=(l.take (k+1)).filter (fun x=>!(x.path==p&&decide (x.num≤n))):=fun h=>by rw [jK hk' h,ho]
  refine dr ?_
  refine cP ?_ ?_<;>intro h2
  ·refine dr ?_
   repeat ((first | refine oB (by simp; omega) ?_ | refine oB (by simp) ?_); first | refine dr ?_ | exact dz)
   refine ⟨k+1,out++[l[k]],⟨by omega,keep (by simp [h2]),by simp; omega⟩,by omega,?_⟩
   refine dr ?_
   repeat (refine oB (by simp<;>rfl) ?_; first | refine dr ?_ | exact dz)
   trivial
  refine dr ?_
  refine cP ?_ ?_<;>intro h3
  ·refine dr ?_
   repeat ((first | refine oB (by simp; omega) ?_ | refine oB (by simp) ?_); first | refine dr ?_ | exact dz)
   refine ⟨k+1,out++[l[k]],⟨by omega,keep (by simp; omega),by simp; omega⟩,by omega,?_⟩
   refine dr ?_
   repeat (refine oB (by simp<;>rfl) ?_; first | refine dr ?_ | exact dz)
   trivial
  ·refine dr ?_
   refine ⟨k+1,out,⟨by omega,by rw [jJ hk' (by simp [h2]; omega),ho],by omega⟩,by omega,?_⟩
   refine dr ?_
   trivial
 have hkl:k=l.length:=by omega
 rw [hkl,List.take_length] at ho
 rw [ziO,← ho]
 refine dr ?_
 repeat (refine oB (by simp) ?_; first | refine dr ?_ | exact dz)
 rfl
def zac:XC:=(.s (.r [.m1 4 (.i 0)]) (.s (.s (.r [.mv 5 0,.mv 6 1,.b1 7 .gtr 5 6]) (.cnd 7 (.s (.r [.mv 8 0,.mv 4 8]) .ret) .skip)) (.s (.r [.mv 9 1,.mv 4 9]) .ret)))
theorem zad:compF Tryz.prog [] 113=some (zac.ac,[(.t 4)],10):=by kernel_rfl
theorem zeH (W0:World) (a b:Int):Fn Tryz.prog W0 113 [CI a,CI b] (.c (CI (maxI a b))) []:=by
 refine fnX (c:=zac) mixed zad (by simp) rfl fun hg=>?_
 refine dr ?_
 refine cP ?_ ?_<;>intro h1
 ·refine dr ?_
  unfold maxI; rw [if_pos (by omega)]
 ·refine dr ?_
  unfold maxI; rw [if_neg (by omega)]

section
variable {w x:Wld}
theorem zn6 {who:Int} {p:Str} {r:Ent × Bool} (h:wRead w who p=some r):WG w∧isW who∧pOk p=true∧(get (vwG w.over) p).getD noE=r.1∧(get (vwG w.over) p).isSome=r.2:=by
 unfold wRead at h
 split at h
 ·rename_i hh
  obtain ⟨hw,hi⟩:=hh
  obtain ⟨y,hy,rfl⟩:=Option.map_eq_some_iff.1 h
  have h1:=List.find?_some hy
  simp only [Bool.and_eq_true,beq_iff_eq,decide_eq_true_eq] at h1
  have h2:=List.mem_of_find?_eq_some hy
  obtain ⟨i,hi3,hiw⟩:=qi hi
  rw [hiw] at h2
  obtain ⟨a,_,_,d⟩:=(hw.hd i hi3).g y h2
  obtain ⟨_,_,e,f,_⟩:=d h1.2
  rw [h1.1] at a e f
  exact ⟨hw,hi,a,f,e⟩
 ·cases h
theorem take_take {l:List Hold} {h:Hold}:takeH (takeH l h) h=takeH l h:=by
 have:(takeH l h).any (fun x=>x.path==h.path&&decide (h.num≤x.num))=true:=by
  unfold takeH
  split
  ·assumption
  ·simp
 generalize takeH l h=l' at *
 unfold takeH
 rw [if_pos this]
theorem zhX {w:Wld} {L:List (List Hold)} {f:List Int} {n:List Msg} {ls:List Lease} {k:Int} {a:List Hold} (hk:isW k) (hl:w.holds.length=3) (e:L=w.holds.set k.toNat a):hdW { w with holds:=L,floors:=f,net:=n,leases:=ls } k=a:=by
 unfold hdW
 subst e
 have:=hk.1; have:=hk.2
 simp only [List.getD,List.getElem?_set]
 rw [if_pos trivial,if_pos (by omega)]; rfl
theorem zgC {w:Wld} {L:List (List Hold)} {f:List Int} {n:List Msg} {k:Int} {a:Int} (hk:isW k) (hl:w.floors.length=3) (e:f=w.floors.set k.toNat a):flW { w with holds:=L,floors:=f,net:=n } k=a:=by
 unfold flW
 subst e
 have:=hk.1; have:=hk.2
 simp only [List.getD,List.getElem?_set]
 rw [if_pos trivial,if_pos (by omega)]; rfl
structure Later (w x:Wld):Prop where
 g:WG x
 o:x.over=w.over
 wt:x.waits=w.waits
 op:x.op=w.op
 h:x.holds=w.holds
 l:∀ l∈x.leases,l∈w.leases∧(x.clock=w.clock∨x.clock < l.til)
theorem Later.refl (h:WG w):Later w w:=⟨h,rfl,rfl,rfl,rfl,fun l hl=>⟨hl,.inl rfl⟩⟩
theorem Later.tick (h:Later w x):Later w (tickW x) :=
 ⟨h.g.tick,h.o,h.wt,h.op,h.h,fun l hl=>⟨(h.l l (List.mem_filter.1 hl).1).1,.inr (of_decide_eq_true (List.mem_filter.1 hl).2)⟩⟩
theorem Later.bars (h:Later w x) {op:Op}:∀ l∈barsW x op,l∈barsW w op∨w.clock < x.clock∨x.clock < w.clock:=fun l hl=>by
 obtain ⟨h1,h2,h3⟩:=zm.1 hl
 by_cases hc:x.clock=w.clock
 ·left
  refine zm.2 ⟨(h.l l h1).1,by omega,?_⟩
  unfold turnsW at h3 ⊢; rw [h.o] at h3; exact h3
 ·right; omega
theorem Later.none (h:Later w x) {late:Int} (h1:∀ l∈barsW w w.op,l.til≤late) (h2:x.clock=late) (h3:w.clock≤late):barsW x x.op=[]:=by
 cases hb:barsW x x.op with
 | nil=>rfl
 | cons l r =>
  exfalso
  obtain ⟨g1,g2,g3⟩:=zm.1 (show l∈barsW x x.op by rw [hb]; simp)
  have hm:=(h.l l g1).1
  have:l∈barsW w w.op:=by
   refine zm.2 ⟨hm,by omega,?_⟩
   unfold turnsW at g3 ⊢; rw [h.o,h.op] at g3; exact g3
  have:=h1 l this
  omega
end

def giveE (k:Int):Ev:=⟨5,0,[],noOp,k⟩
def copyE (k:Int):Ev:=⟨7,0,[],noOp,k⟩
section
variable {w:Wld}
theorem zlJ {m:Msg} (h:w.net.length < 12):sendW w m={ w with net:=w.net++[m] }:=by unfold sendW; rw [if_pos h]
theorem zhx {k:Nat} (h:k < w.net.length):evW w (giveE k)=(comeW { w with net:=w.net.eraseIdx k } (w.net.getD k noMs),0):=by
 unfold evW giveE
 rw [if_neg (by simp),if_neg (by simp),if_neg (by simp),if_neg (by simp),if_pos (by simp)]
 unfold netW
 rw [if_neg (by simp; omega),if_neg (by simp),if_pos rfl]
 simp
theorem zc9 {k:Nat} (h:k < w.net.length) (h2:w.net.length < 12):evW w (copyE k)=({ w with net:=w.net++[w.net.getD k noMs] },0):=by
 unfold evW copyE
 rw [if_neg (by simp),if_neg (by simp),if_neg (by simp),if_neg (by simp),if_pos (by simp)]
 unfold netW
 rw [if_neg (by simp; omega),if_pos rfl]
 simp only
 rw [zlJ h2]; simp
theorem ZC {a:List Msg} {m:Msg} {r:List Msg}:(a++m::r).getD a.length noMs=m∧(a++m::r).eraseIdx a.length=a++r:=by
 constructor
 ·simp [List.getD]
 ·rw [List.eraseIdx_append_of_length_le (Nat.le_refl _)]; simp
def heldW (w:Wld) (who:Int) (p:Str):Wld:=comeW (grantL w who p) (grantM w who p)
structure GO (w:Wld) (who:Int) (p:Str):Prop where
 g:WG w
 iw:isW who
 pth:pOk p=true
 wt:w.waits=false
 ct:w.count < 10000
variable {who:Int} {p:Str}
theorem zhW {x:Wld} {L:List (List Hold)} {k:Int} {a:List Hold} (hk:isW k) (hl:L.length=3) (e:x.holds=L.set k.toNat a):hdW x k=a:=by
 unfold hdW
 rw [e]
 have:=hk.1; have:=hk.2
 simp only [List.getD,List.getElem?_set]
 rw [if_pos trivial,if_pos (by omega)]; rfl
theorem GO.take (h:GO w who p):heldW w who p={ grantL w who p with holds:=w.holds.set who.toNat (takeH (hdW w who) (grantM w who p).hold) }:=by
 unfold heldW comeW
 rw [if_neg (by simp [grantM]),if_pos (show (grantM w who p).kind=2 from rfl)]
 have hf:=h.g.pl.fr _ (zgD h.iw h.g.pl.fl)
 rw [if_pos]
 ·rfl
 ·refine ⟨by show w.clock < w.clock+5; omega,?_⟩
  show flW w who < w.count+1
  omega
theorem GO.hd (h:GO w who p):hdW (heldW w who p) who=takeH (hdW w who) (grantM w who p).hold:=by
 rw [h.take]
 exact zhW h.iw h.g.pl.hl rfl
theorem zc4 {m:Msg} {n:List Msg} (hk:m.kind=2):comeW { w with net:=n } m={ comeW w m with net:=n }:=by
 unfold comeW
 rw [if_neg (show ¬ m.kind=1 by omega),if_neg (show ¬ m.kind=1 by omega),if_pos hk,if_pos hk]
 show (if w.clock < m.hold.til∧flW w m.who < m.hold.num then _ else _)=_
 by_cases hc:w.clock < m.hold.til∧flW w m.who < m.hold.num
 ·rw [if_pos hc,if_pos hc]; rfl
 ·rw [if_neg hc,if_neg hc]
theorem GO.late (h:GO w who p) (hn:w.net.length≤8) :
  evW { grantL w who p with net:=w.net++[grantM w who p] } (copyE w.net.length)=({ grantL w who p with net:=w.net++[grantM w who p,grantM w who p] },0) ∧
  evW { grantL w who p with net:=w.net++[grantM w who p,grantM w who p] } (giveE w.net.length)=({ heldW w who p with net:=w.net++[grantM w who p] },0):=by
 constructor
 ·rw [zc9 (by simp) (by simp; omega)]
  obtain ⟨e1,_⟩:=@ZC w.net (grantM w who p) []
  simp only [e1,List.append_assoc,List.singleton_append]
 ·rw [zhx (by simp)]
  obtain ⟨e1,e2⟩:=@ZC w.net (grantM w who p) [grantM w who p]
  simp only [e1,e2]
  refine congrArg (·,0) ?_
  exact zc4 (w:=grantL w who p) rfl
theorem zn4 {who:Int} {p:Str} (h:∀ x∈hdW w who,x.path≠p):wRead w who p=none:=by
 unfold wRead
 split
 ·rw [List.find?_eq_none.2]
  ·rfl
  ·intro x hx
   simp [h x hx]
 ·rfl
theorem gone {x:Wld} {who:Int} {p:Str} {m g:Msg} {k n:Nat} (hx:WG x) (hw:isW who) (hk:k < x.net.length) (hm:x.net.getD k noMs=m) (h1:m.kind=3) (h2:m.who=who) (h3:m.hold.path=p) (h4:m.hold.num=x.count)
  (hn:n < k) (hg:x.net.getD n noMs=g) (g1:g.kind=2) (g2:g.who=who) (g3:g.hold.num≤x.count) :
  wRead (evW x (giveE k)).1 who p=none∧wRead (evW (evW x (giveE k)).1 (giveE n)).1 who p=none:=by
 have hmm:m∈x.net:=by rw [← hm]; exact zhu hk
 have hms:=hx.ms m hmm
 obtain ⟨i,hi,hiw⟩:=qi hw
 rw [zhx hk,hm]
 simp only
 have e:comeW { x with net:=x.net.eraseIdx k } m=sendW { x with net:=x.net.eraseIdx k,holds:=x.holds.set m.who.toNat (leaveH (hdW x m.who) m.hold.path m.hold.num),floors:=x.floors.set m.who.toNat (maxI (flW x m.who) m.hold.num) } ⟨4,m.who,m.hold⟩:=by
  unfold comeW; rw [if_neg (by omega),if_neg (by omega),if_pos h1]; rfl
 obtain ⟨s1,s2,s3,s4,s5,s6,s7,s8⟩:=@yI { x with net:=x.net.eraseIdx k,holds:=x.holds.set m.who.toNat (leaveH (hdW x m.who) m.hold.path m.hold.num),floors:=x.floors.set m.who.toNat (maxI (flW x m.who) m.hold.num) } ⟨4,m.who,m.hold⟩
 rw [← e] at s1 s2 s3 s4 s5 s6 s7 s8
 have hnet:(comeW { x with net:=x.net.eraseIdx k } m).net.getD n noMs=g∧n < (comeW { x with net:=x.net.eraseIdx k } m).net.length:=by
  have hl:n < (x.net.eraseIdx k).length:=by rw [List.length_eraseIdx,if_pos hk]; omega
  have hq:(x.net.eraseIdx k).getD n noMs=g:=by
   rw [← hg]
   simp only [List.getD]
   rw [List.getElem?_eraseIdx,if_pos hn]
  rw [e]
  unfold sendW
  split
  ·refine ⟨?_,by simp; omega⟩
   simp only [List.getD] at hq ⊢
   rw [List.getElem?_append_left hl]; exact hq
  ·exact ⟨hq,hl⟩
 generalize hy:comeW { x with net:=x.net.eraseIdx k } m=y at *
 have hh:hdW y who=leaveH (hdW x who) p x.count:=by
  have:=zhX (w:=x) (f:=x.floors) (n:=x.net) (ls:=x.leases) (L:=y.holds) (a:=leaveH (hdW x m.who) m.hold.path m.hold.num) hms.who hx.pl.hl s5
  rw [h2,h3,h4] at this
  unfold hdW at this ⊢; exact this
 have hf:flW y who=maxI (flW x who) x.count:=by
  have:=zgC (w:=x) (n:=x.net) (L:=x.holds) (f:=y.floors) (a:=maxI (flW x m.who) m.hold.num) hms.who hx.pl.fl s6
  rw [h2,h4] at this
  unfold flW at this ⊢; exact this
 have hno:∀ z∈hdW y who,z.path≠p:=fun z hz hp=>by
  rw [hh] at hz
  obtain ⟨z1,z2⟩:=zjp.1 hz
  have:=z2 hp
  rw [hiw] at z1
  have:=((hx.hd i hi).g z z1).2.2.1
  omega
 refine ⟨zn4 hno,?_⟩
 rw [zhx hnet.2,hnet.1]
 have e2:comeW { y with net:=y.net.eraseIdx n } g={ y with net:=y.net.eraseIdx n }:=by
  unfold comeW
  rw [if_neg (by omega),if_pos g1,if_neg]
  rintro ⟨_,hc⟩
  have e3:flW { y with net:=y.net.eraseIdx n } g.who=maxI (flW x who) x.count:=by rw [g2,← hf]; rfl
  rw [e3] at hc
  have:x.count≤maxI (flW x who) x.count:=by unfold maxI; split<;>omega
  omega
 simp only [e2]
 exact zn4 hno
end

theorem cuts {k0:List Nat} {a:(Fr→XM→Prop)→Fr→XM→Prop} {b:Fr→XM→Prop} {F:Fr} {m:XM} {σ:Type} (fr:σ→Fr) (mm:σ→XM) (inv:σ→Prop)
  (ha:a (fun F' m'=>∃ x,inv x∧KeepX k0 (some 3) F' m' (fr x) (mm x)) F m) (hb:∀ x,inv x→b (fr x) (mm x)):CutX k0 a b F m:=⟨σ,fr,mm,inv,some 3,_,ha,fun _ _ h=>h,hb⟩
def zbO:XC:=(.s (.r [.ex 3 (.box 0),.ex 6 (.alloc [.nil,.nil,.nil,(I 0),(I 0),.nil,.nil,.nil,.nil,(B false),(I 0),sE,sE,sE])]) (.s (.s (.r [.f1 12 9 3,.l1 13 1 12,.mv 14 13,.gt 15 (.ld true 14 3) 14,.gt 16 (.fa 10 3) 14,.gt 17 (.ld true 4 16) 14,.gt 18 (.opn 208 [15,17]) 14,.gt 19 (.mv 2) 14,.gt 20 (.call 209 [18,19]) 14,.ex 21 (.pick 14 20 .n),.mv 22 21,.gf 23 (.fa 4 3) 22,.gf 24 (.ld false 1 23) 22,.gf 25 (.bin .geq 24 (.i 10000)) 22,.ex 26 (.pick 22 .y 25)]) (.cnd 26 (.s (.r [.l2 27 14 3,.s1 14 6 27]) .ret) .skip)) (.s (.r [.f1 29 0 3,.l2 30 3 29,.c1 31 69 [30],.mv 28 31,.e1 32 28 0,.e1 33 28 1,.a1 7 32 3 39,.mv 8 33]) (.s (.r [.mv 35 7,.mv 36 2,.c1 37 121 [35,36],.mv 34 37,.e1 38 34 0,.e1 39 34 1,.ex 9 (.alloc [sE,(B false),sE]),.s1 3 9 38,.mv 10 39]) (.s (.r [.f1 40 4 3,.l1 41 1 40,.b1 42 .add 41 (.i 1),.f1 43 4 3,.s1 1 43 42]) (.s (.r [.f1 44 3 3,.l1 45 1 44,.b1 46 .add 45 (.i 5),.mv 11 46]) (.cut (.d [.f1 47 5 3,.exo [7] 48 (.ld false 1 47),.mv 49 1,.mv 50 2,.f1 51 4 3,.exo [7] 52 (.ld false 1 51),.exo [7] 53 (.opn 213 [48,49,50,52]),.mv 54 1,.mv 55 2,.f1 56 4 3,.exo [7] 57 (.ld false 1 56),.mv 58 11,.ex 59 (.build [(I 0),sE,(I 0),(I 0)] [(0,(1,54)),(1,(1,55)),(2,(1,57)),(3,(1,58))]),.exo [7] 60 (.bsl 4 72 [59]),.ex 61 (.app false 4 40 72 53 60),.f1 62 5 3,.s1 1 62 61]) (.s (.r [.l2 63 14 3,.mv 64 1,.mv 65 2,.mv 66 10,.l2 67 3 9,.f1 68 4 3,.l1 69 1 68,.mv 70 11,.ex 71 (.build [sE,(B false),sE,(B false),sE,(I 0),(I 0)] [(0,(1,65)),(1,(1,66)),(2,(3,67)),(5,(1,69)),(6,(1,70))]),.ex 72 (.build [(I 0),(I 0),sE,(B false),sE,(B false),sE,(I 0),(I 0)] [(0,(1,(.i 2))),(1,(1,64)),(2,(7,71))]),.o1 73 114 [63,72],.s1 14 6 73]) .ret))))))))
theorem zbP:compF Tryz.prog [208,213,114,1000007] 210=some (zbO.ac,[(.cell 6 true 14)],74):=by kernel_rfl
theorem zfr (W0:World) (w:Wld) (who:Int) (p:Str) (h:WG w) (hl:w.leases.length≤1000000):FunW Tryz.prog W0 210 [wAn 6 w,.c (CI who),.c (CS p)] (wMn 6 w) (fun _:Unit=>True) (fun _=>wAn 6 (grantW w who p)) (fun _=>wMn 6 (grantW w who p)):=by
 refine funW (c:=zbO) mixed zbP (by simp) rfl rfl fun hg=>?_
 have hv:=jx W0 w.over
 rw [zn1 h] at hv
 have ht:=zfJ W0 w w.op
 have htl:=@znI w w.op
 have hc:=h.pl.ck
 have hct:=h.pl.ct
 have hn:w.net.length≤1000:=by have:=h.pl.nl; omega
 rw [zhT]
 generalize hts:turnsW w w.op=ts at *
 have hget:=jr W0 (vwG w.over) p
 rw [zL] at hget
 have hofl:(offL w.leases who p (w.count+1)).length≤1000000:=Nat.le_trans (List.length_filter_le _ _) hl
 refine dr ?_
 refine cP ?_ ?_<;>intro h1
 ·refine dr ?_
  refine oW ht rfl ⟨rfl,rfl,rfl,trivial⟩ rfl rfl ⟨(),trivial⟩ fun _ _=>⟨rfl,?_⟩
  refine dEr ?_
  repeat (refine c0 (zft W0 ts p (by omega)) rfl ?_; first | refine dEr ?_ | exact dz)
  refine cP ?_ ?_<;>intro h2
  ·rw [if_pos (.inl ⟨h1,by rw [List.contains_eq_mem,decide_eq_true_iff] at h2; exact h2⟩)]
   refine dEr ?_
   refine ⟨none,_,_,?_,(),trivial,rfl,rfl⟩
   refine dr ?_
   trivial
  have h2':p ∉ ts:=by rw [List.contains_eq_mem,decide_eq_false_iff_not] at h2; exact h2
  refine dEr ?_
  refine cP ?_ ?_<;>intro h3
  ·rw [if_pos (.inr h3)]
   refine dEr ?_
   refine ⟨none,_,_,?_,(),trivial,rfl,rfl⟩
   refine dr ?_
   trivial
  rw [if_neg (by rintro (⟨_,h⟩ | h); exact h2' h; omega)]
  refine dEr ?_
  repeat ((first | refine c0 hv rfl ?_ | refine c0 hget rfl ?_); first | refine dEr ?_ | exact dz)
  refine cuts (σ:=List Lease) (fun _=>[(1,.c (CI who)),(2,.c (CS p)),(3,.ptr 48 0),(6,.ptr 96 0),(9,.ptr 144 0),(10,.c (CB (get (vwG w.over) p).isSome)),(11,I (w.clock+5))])
   (fun L=>[(48,.box [.c (eEnts w.over.base),.c (eMarkss w.over.layers),.c (eMarks w.over.upper),I w.clock,I (w.count+1),.c (eLeases L),.own 4 w.holds.length,.own 5 w.floors.length,.own 6 w.net.length,B w.waits,I w.op.kind,.c (CS w.op.path),.c (CS w.op.dest),.c (CS w.op.data)]),(96,zWB),(144,.box [.c (CS ((get (vwG w.over) p).getD noE).path),B ((get (vwG w.over) p).getD noE).dir,.c (CS ((get (vwG w.over) p).getD noE).data)])]++wMn 6 w) (fun L=>L=(grantL w who p).leases) ?_ ?_
  ·refine dr ?_
   refine oW (zfB W0 w.leases who p (w.count+1) hl) rfl trivial rfl rfl ⟨(),trivial⟩ fun _ _=>⟨rfl,?_⟩
   refine dEr ?_
   repeat ((first | refine oB (by simp; omega) ?_ | refine oB (by simp) ?_); first | refine dEr ?_ | exact dz)
   refine ⟨_,rfl,?_⟩
   refine KeepX.s (z:=some 7) ?_
   refine dr ?_
   repeat ((first | refine oB (by simp [grantL,eLeases]<;>rfl) ?_ | refine oB (by simp) ?_); first | refine dr ?_ | exact dz)
   trivial
  rintro L hL
  refine dr ?_
  refine oW (jy W0 ⟨w.over,w.clock,w.count+1,L,w.holds,w.floors,w.net,w.waits,w.op⟩ (grantM w who p) hn) rfl ⟨rfl,rfl,rfl,trivial⟩ rfl rfl ⟨(),trivial⟩ fun _ _=>⟨rfl,?_⟩
  rw [show (⟨w.over,w.clock,w.count+1,L,w.holds,w.floors,w.net,w.waits,w.op⟩:Wld)=grantL w who p by rw [hL]<;>rfl]
  refine dEr ?_
  refine ⟨none,_,_,?_,(),trivial,rfl,rfl⟩
  refine dr ?_
  trivial
 ·refine dr ?_
  refine cP ?_ ?_<;>intro h3
  ·rw [if_pos (.inr h3)]
   refine dr ?_
   refine ⟨none,_,_,?_,(),trivial,rfl,rfl⟩
   refine dr ?_
   trivial
  rw [if_neg (by rintro (⟨h,_⟩ | h); rw [h] at h1; cases h1; omega)]
  refine dEr ?_
  repeat ((first | refine c0 hv rfl ?_ | refine c0 hget rfl ?_); first | refine dEr ?_ | exact dz)
  refine cuts (σ:=List Lease) (fun _=>[(1,.c (CI who)),(2,.c (CS p)),(3,.ptr 48 0),(6,.ptr 96 0),(9,.ptr 144 0),(10,.c (CB (get (vwG w.over) p).isSome)),(11,I (w.clock+5))])
   (fun L=>[(48,.box [.c (eEnts w.over.base),.c (eMarkss w.over.layers),.c (eMarks w.over.upper),I w.clock,I (w.count+1),.c (eLeases L),.own 4 w.holds.length,.own 5 w.floors.length,.own 6 w.net.length,B w.waits,I w.op.kind,.c (CS w.op.path),.c (CS w.op.dest),.c (CS w.op.data)]),(96,zWB),(144,.box [.c (CS ((get (vwG w.over) p).getD noE).path),B ((get (vwG w.over) p).getD noE).dir,.c (CS ((get (vwG w.over) p).getD noE).data)])]++wMn 6 w) (fun L=>L=(grantL w who p).leases) ?_ ?_
  ·refine dr ?_
   refine oW (zfB W0 w.leases who p (w.count+1) hl) rfl trivial rfl rfl ⟨(),trivial⟩ fun _ _=>⟨rfl,?_⟩
   refine dEr ?_
   repeat ((first | refine oB (by simp; omega) ?_ | refine oB (by simp) ?_); first | refine dEr ?_ | exact dz)
   refine ⟨_,rfl,?_⟩
   refine KeepX.s (z:=some 7) ?_
   refine dr ?_
   repeat ((first | refine oB (by simp [grantL,eLeases]<;>rfl) ?_ | refine oB (by simp) ?_); first | refine dr ?_ | exact dz)
   trivial
  rintro L hL
  refine dr ?_
  refine oW (jy W0 ⟨w.over,w.clock,w.count+1,L,w.holds,w.floors,w.net,w.waits,w.op⟩ (grantM w who p) hn) rfl ⟨rfl,rfl,rfl,trivial⟩ rfl rfl ⟨(),trivial⟩ fun _ _=>⟨rfl,?_⟩
  rw [show (⟨w.over,w.clock,w.count+1,L,w.holds,w.floors,w.net,w.waits,w.op⟩:Wld)=grantL w who p by rw [hL]<;>rfl]
  refine dEr ?_
  refine ⟨none,_,_,?_,(),trivial,rfl,rfl⟩
  refine dr ?_
  trivial
def zbE:XC:=(.s (.r [.ex 2 (.box 0),.ex 3 (.box 1),.ex 4 (.alloc [.nil,.nil,.nil,(I 0),(I 0),.nil,.nil,.nil,.nil,(B false),(I 0),sE,sE,sE])]) (.s (.r [.f1 6 2 3,.l2 7 7 6,.ex 5 (.alloc [sE,(B false),sE,(B false),sE,(I 0),(I 0)]),.s1 7 5 7]) (.s (.s (.r [.f1 8 0 3,.l1 9 1 8]) (.blk 0 (.s (.r [.b1 11 .eql 9 (.i 1),.mv 10 11]) (.cnd 10 (.s (.r [.l2 12 14 2,.f1 13 1 3,.l1 14 1 13,.f1 15 0 5,.l1 16 1 15,.o1 17 210 [12,14,16],.s1 14 4 17]) .ret) (.s (.r [.b1 19 .eql 9 (.i 2),.mv 18 19]) (.cnd 18 (.s (.d [.f1 20 3 2,.l1 21 1 20,.f1 22 6 5,.l1 23 1 22,.b1 24 .lss 21 23,.mv 25 24,.gt 26 (.fa 5 5) 25,.gt 27 (.ld false 1 26) 25,.gt 28 (.fa 7 2) 25,.gt 29 (.ld false 1 28) 25,.gt 30 (.fa 1 3) 25,.gt 31 (.ld false 1 30) 25,.gt 32 (.ia 1 29 31) 25,.gt 33 (.ld false 1 32) 25,.gt 34 (.bin .gtr 27 33) 25,.ex 35 (.pick 25 34 .n)]) (.cnd 35 (.d [.f1 36 6 2,.l1 37 1 36,.f1 38 1 3,.l1 39 1 38,.f1 40 6 2,.l1 41 1 40,.f1 42 1 3,.l1 43 1 42,.i1 44 1 41 43,.l1 45 1 44,.l2 46 7 5,.c1 47 211 [45,46],.i1 48 1 37 39,.s1 1 48 47]) .skip)) (.s (.r [.b1 50 .eql 9 (.i 3),.mv 49 50]) (.cnd 49 (.s (.d [.f1 51 6 2,.l1 52 1 51,.f1 53 1 3,.l1 54 1 53,.f1 55 6 2,.l1 56 1 55,.f1 57 1 3,.l1 58 1 57,.i1 59 1 56 58,.l1 60 1 59,.f1 61 0 5,.l1 62 1 61,.f1 63 5 5,.l1 64 1 63,.c1 65 212 [60,62,64],.i1 66 1 52 54,.s1 1 66 65]) (.s (.d [.f1 67 7 2,.l1 68 1 67,.f1 69 1 3,.l1 70 1 69,.f1 71 7 2,.l1 72 1 71,.f1 73 1 3,.l1 74 1 73,.i1 75 1 72 74,.l1 76 1 75,.f1 77 5 5,.l1 78 1 77,.c1 79 113 [76,78],.i1 80 1 68 70,.s1 1 80 79]) (.s (.r [.l2 81 14 2,.f1 82 1 3,.l1 83 1 82,.l2 84 7 5,.ex 85 (.build [(I 0),(I 0),sE,(B false),sE,(B false),sE,(I 0),(I 0)] [(0,(1,(.i 4))),(1,(1,83)),(2,(7,84))]),.o1 86 114 [81,85],.s1 14 4 86]) .ret))) (.s (.r [.b1 88 .eql 9 (.i 4),.mv 87 88]) (.cnd 87 (.r [.f1 89 5 2,.l1 90 1 89,.f1 91 1 3,.l1 92 1 91,.f1 93 0 5,.l1 94 1 93,.f1 95 5 5,.l1 96 1 95,.c1 97 213 [90,92,94,96],.f1 98 5 2,.s1 1 98 97]) .skip)))))))))) (.s (.r [.l2 99 14 2,.s1 14 4 99]) .ret))))
theorem zbF:compF Tryz.prog [210,114] 176=some (zbE.ac,[(.cell 4 true 14)],100):=by kernel_rfl
theorem zgF {w:Wld} {i:Nat} (h:i < w.floors.length):flW w (i:Int)=w.floors[i]:=by
 unfold flW; simp [h]
theorem zh0 {w:Wld} {i:Nat} (h:i < w.holds.length):hdW w (i:Int)=w.holds[i]:=by
 unfold hdW; simp [h]
structure HZ (n:Nat) (w:Wld):Prop where
 l:w.leases.length≤n
 h:∀ x∈w.holds,x.length≤n
theorem zfj (W0:World) (w:Wld) (m:Msg) (h:WG w) (hz:HZ 1000000 w) (hw:isW m.who):FunW Tryz.prog W0 176 [wAn 6 w,.c (eMsg m)] (wMn 6 w) (fun _:Unit=>True) (fun _=>wAn 6 (comeW w m)) (fun _=>wMn 6 (comeW w m)):=by
 refine funW (c:=zbE) mixed zbF (by simp) rfl rfl fun hg=>?_
 have hl:=hz.l
 have hn:w.net.length≤1000:=by have:=h.pl.nl; omega
 have h3:=h.pl.hl
 have f3:=h.pl.fl
 obtain ⟨i,hi,hwi⟩:=qi hw
 obtain ⟨mk,mw,mh⟩:=m
 simp only at hwi
 subst hwi
 have hi':i < w.holds.length:=by omega
 have hi'':i < w.floors.length:=by omega
 have hzi:=hz.h _ (List.getElem_mem hi')
 refine dr ?_
 refine cP ?_ ?_<;>intro k1
 ·have e:comeW w ⟨mk,i,mh⟩=grantW w i mh.path:=by unfold comeW; rw [if_pos k1]
  rw [e]
  refine dr ?_
  refine oW (zfr W0 w i mh.path h hl) rfl ⟨rfl,rfl,rfl,trivial⟩ rfl rfl ⟨(),trivial⟩ fun _ _=>⟨rfl,?_⟩
  refine dEr ?_
  refine ⟨none,_,_,?_,(),trivial,rfl,rfl⟩
  refine dr ?_
  trivial
 refine dr ?_
 refine cP ?_ ?_<;>intro k2
 ·have e:comeW w ⟨mk,i,mh⟩=if w.clock < mh.til∧w.floors[i] < mh.num then { w with holds:=w.holds.set i (takeH w.holds[i] mh) } else w:=by
   unfold comeW; rw [if_neg k1,if_pos k2]; simp only [zgF hi'',zh0 hi',Int.toNat_natCast]
  rw [e]
  refine dr ?_
  refine cP ?_ ?_<;>intro k3
  ·refine dr ?_
   refine cP ?_ ?_<;>intro k4
   ·rw [if_pos ⟨k3,k4⟩]
    refine dEr ?_
    repeat (refine c0 (zfG W0 _ _ hzi) rfl ?_; first | refine dEr ?_ | exact dz)
    refine ⟨none,_,_,?_,(),trivial,rfl,rfl⟩
    refine dr ?_
    repeat ((first | refine oB (by simp) ?_ | refine oB (congrArg (fun L=>XB.row L 1 56) set1) ?_); first | refine dr ?_ | exact dz)
    trivial
   ·rw [if_neg (fun hh=>absurd hh.2 (Int.not_lt.2 k4))]
    refine dr ?_
    refine ⟨none,_,_,?_,(),trivial,rfl,rfl⟩
    refine dr ?_
    trivial
  ·rw [if_neg (fun hh=>absurd hh.1 (Int.not_lt.2 k3))]
   refine dr ?_
   refine ⟨none,_,_,?_,(),trivial,rfl,rfl⟩
   refine dr ?_
   trivial
 refine dr ?_
 refine cP ?_ ?_<;>intro k3
 ·have e:comeW w ⟨mk,i,mh⟩=sendW { w with holds:=w.holds.set i (leaveH w.holds[i] mh.path mh.num),floors:=w.floors.set i (maxI w.floors[i] mh.num) } ⟨4,i,mh⟩:=by
   unfold comeW; rw [if_neg k1,if_neg k2,if_pos k3]; simp only [zgF hi'',zh0 hi',Int.toNat_natCast]
  rw [e]
  refine dEr ?_
  repeat ((first | refine c0 (zfw W0 _ _ _ hzi) rfl ?_ | refine c0 (zeH W0 _ _) rfl ?_); first | refine dEr ?_ | exact dz)
  refine oW (jy W0 { w with holds:=w.holds.set i (leaveH w.holds[i] mh.path mh.num),floors:=w.floors.set i (maxI w.floors[i] mh.num) } ⟨4,i,mh⟩ hn) (by simp<;>rfl) ⟨congrArg some (congrArg (fun L=>XB.row L 1 56) set1),congrArg some (congrArg (fun L=>XB.row L 1 3) set1),rfl,trivial⟩ rfl rfl ⟨(),trivial⟩ fun _ _=>⟨rfl,?_⟩
  refine dEr ?_
  refine ⟨none,_,_,?_,(),trivial,rfl,rfl⟩
  refine dr ?_
  trivial
 refine dr ?_
 refine cP ?_ ?_<;>intro k4
 ·have e:comeW w ⟨mk,i,mh⟩={ w with leases:=offL w.leases i mh.path mh.num }:=by unfold comeW; rw [if_neg k1,if_neg k2,if_neg k3,if_pos k4]
  rw [e]
  refine dEr ?_
  repeat (refine c0 (zfA W0 _ _ _ _ hl) rfl ?_; first | refine dEr ?_ | exact dz)
  refine ⟨none,_,_,?_,(),trivial,rfl,rfl⟩
  refine dr ?_
  trivial
 ·have e:comeW w ⟨mk,i,mh⟩=w:=by unfold comeW; rw [if_neg k1,if_neg k2,if_neg k3,if_neg k4]
  rw [e]
  refine dr ?_
  refine ⟨none,_,_,?_,(),trivial,rfl,rfl⟩
  refine dr ?_
  trivial
def zb6:XC:=(.s (.r [.ex 2 (.box 0),.ex 3 (.box 1),.ex 4 (.alloc [.nil,.nil,.nil,(I 0),(I 0),.nil,.nil,.nil,.nil,(B false),(I 0),sE,sE,sE]),.m1 5 (.i 0)]) (.s (.s (.r [.f1 7 7 3,.l1 8 1 7,.b1 9 .lss 8 (.i 0),.mv 10 9,.gf 11 (.fa 7 3) 10,.gf 12 (.ld false 1 11) 10,.gf 13 (.fa 8 2) 10,.gf 14 (.ld false 1 13) 10,.gf 15 (.len false 14) 10,.gf 16 (.bin .geq 12 15) 10,.ex 17 (.pick 10 .y 16)]) (.cnd 17 (.s (.r [.l2 18 14 2,.s1 14 4 18,.m1 5 (.i 22)]) .ret) .skip)) (.s (.r [.f1 19 8 2,.l1 20 1 19,.f1 21 7 3,.l1 22 1 21,.i1 23 9 20 22,.l2 24 9 23,.ex 6 (.alloc [(I 0),(I 0),sE,(B false),sE,(B false),sE,(I 0),(I 0)]),.s1 9 6 24]) (.cut (.s (.r [.f1 25 0 3,.l1 26 1 25,.b1 27 .eql 26 (.i 7)]) (.cnd 27 (.s (.r [.l2 28 14 2,.l2 29 9 6,.o1 30 114 [28,29],.s1 14 4 30,.m1 5 (.i 0)]) .ret) .skip)) (.s (.d [.ex 31 .bsl0,.f1 32 8 2,.l1 33 1 32,.f1 34 7 3,.l1 35 1 34,.ex 36 (.slr 9 33 .none (.some 35)),.ex 37 (.app true 9 96 55 31 36),.f1 38 8 2,.l1 39 1 38,.f1 40 7 3,.l1 41 1 40,.b1 42 .add 41 (.i 1),.ex 43 (.slr 9 39 (.some 42) .none),.ex 44 (.app false 9 96 55 37 43),.f1 45 8 2,.s1 1 45 44]) (.s (.s (.r [.f1 46 0 3,.l1 47 1 46,.b1 48 .eql 47 (.i 5)]) (.cnd 48 (.r [.l2 49 14 2,.l2 50 9 6,.o1 51 176 [49,50],.s1 14 2 51]) .skip)) (.s (.r [.l2 52 14 2,.s1 14 4 52,.m1 5 (.i 0)]) .ret)))))))
theorem zb7:compF Tryz.prog [114,176] 118=some (zb6.ac,[(.cell 4 true 14),(.t 5)],53):=by kernel_rfl
abbrev nbN (b:Bool):Nat:=match b with
 | true=>592
 | false=>6
abbrev wMb (b:Bool) (w:Wld):XM:=match b with
 | true=>(6,.dead 9 55)::wMn 592 w
 | false=>wMn 6 w
theorem zdT {α β:Type} {f:α→β} {l:List α} {k:Nat}:(l.take k).map f++(l.drop (k+1)).map f=(l.eraseIdx k).map f:=by
 rw [List.eraseIdx_eq_take_drop_succ,List.map_append]
theorem zdS {α:Type} {l:List α} {k:Nat}:(l.take k).length+(l.drop (k+1)).length=(l.eraseIdx k).length:=by
 rw [List.eraseIdx_eq_take_drop_succ,List.length_append]
theorem zn2 {w:Wld} {n L:Nat} (e:L=w.net.length):PV.agg [.c (eEnts w.over.base),.c (eMarkss w.over.layers),.c (eMarks w.over.upper),I w.clock,I w.count,.c (eLeases w.leases),.own 4 w.holds.length,.own 5 w.floors.length,.own n L,B w.waits,I w.op.kind,.c (CS w.op.path),.c (CS w.op.dest),.c (CS w.op.data)]=wAn n w:=by rw [e]
theorem zfz (W0:World) (w:Wld) (ev:Ev) (h:WG w) (hz:HZ 1000000 w):FunW Tryz.prog W0 118 [wAn 6 w,.c (eEv ev)] (wMn 6 w) (fun _:Bool=>True) (fun b => .tup [wAn (nbN b) (netW w ev).1,.c (CI (netW w ev).2)]) (fun b=>wMb b (netW w ev).1):=by
 obtain ⟨ek,ew,ep,eo,pos⟩:=ev
 show FunW _ _ _ [wAn 6 w,.c (.agg [CI ek,CI ew,CS ep,CI eo.kind,CS eo.path,CS eo.dest,CS eo.data,CI pos])] _ _ _ _
 refine funW (c:=zb6) mixed zb7 (by simp) rfl rfl fun hg=>?_
 have hn:w.net.length≤1000:=by have:=h.pl.nl; omega
 have hw:netW w ⟨ek,ew,ep,eo,pos⟩=if pos < 0∨(w.net.length:Int)≤pos then (w,22)
  else if ek=7 then (sendW w (w.net.getD pos.toNat noMs),0)
  else if ek=5 then (comeW { w with net:=w.net.eraseIdx pos.toNat } (w.net.getD pos.toNat noMs),0)
  else ({ w with net:=w.net.eraseIdx pos.toNat },0):=rfl
 rw [hw]
 refine dr ?_
 refine cP ?_ ?_<;>intro h1
 ·rw [if_pos (.inl h1)]
  refine dr ?_
  refine ⟨none,_,_,?_,false,trivial,rfl,rfl⟩
  refine dr ?_
  trivial
 refine dr ?_
 refine cP ?_ ?_<;>intro h2
 ·rw [if_pos (.inr h2)]
  refine dr ?_
  refine ⟨none,_,_,?_,false,trivial,rfl,rfl⟩
  refine dr ?_
  trivial
 have h1':0≤pos:=h1
 have h2':pos < (w.net.length:Int):=h2
 rw [if_neg (by omega)]
 obtain ⟨k,rfl⟩:∃ k:Nat,pos=(k:Int):=⟨pos.toNat,by omega⟩
 have hk:k < w.net.length:=by omega
 have hgd:w.net.getD (k:Int).toNat noMs=w.net[k]:=by rw [Int.toNat_natCast,List.getD_eq_getElem?_getD,List.getElem?_eq_getElem hk]; rfl
 rw [hgd]
 have hms:=h.ms _ (List.getElem_mem hk)
 rw [Int.toNat_natCast]
 refine dr ?_
 refine cuts (σ:=Unit) (fun _=>[(2,.ptr 32 0),(3,.ptr 48 0),(4,.ptr 64 0),(6,.ptr 96 0)])
  (fun _=>(6,.dead 9 55)::[(32,.box [.c (eEnts w.over.base),.c (eMarkss w.over.layers),.c (eMarks w.over.upper),I w.clock,I w.count,.c (eLeases w.leases),.own 4 w.holds.length,.own 5 w.floors.length,.c (eMsgs w.net),B w.waits,I w.op.kind,.c (CS w.op.path),.c (CS w.op.dest),.c (CS w.op.data)]),
   (48,.box [I ek,I ew,.c (CS ep),I eo.kind,.c (CS eo.path),.c (CS eo.dest),.c (CS eo.data),I (k:Int)]),(64,zWB),(96,.box (mCs w.net[k])),(4,.row (w.holds.map eHolds) 1 56),(5,.row (w.floors.map CI) 1 3)]) (fun _=>ek≠7) ?_ ?_
 ·refine dr ?_
  refine cP ?_ ?_<;>intro h3
  ·have h3':ek=7:=h3
   rw [if_pos h3']
   refine dr ?_
   refine oW (jy W0 w w.net[k] hn) rfl ⟨rfl,rfl,rfl,trivial⟩ rfl rfl ⟨(),trivial⟩ fun _ _=>⟨rfl,?_⟩
   refine dEr ?_
   refine ⟨none,_,_,?_,false,trivial,rfl,rfl⟩
   refine dr ?_
   trivial
  ·refine dr ?_
   refine ⟨(),h3,?_⟩
   refine KeepS.give (L:=w.net.map eMsg) 6 rfl ?_
   refine dr ?_
   repeat ((first | refine oB (by simp; omega) ?_ | refine oB (by simp) ?_); first | refine dr ?_ | exact dz)
   trivial
 rintro _ h3
 rw [if_neg h3]
 refine dr ?_
 repeat ((first | refine sHiM k rfl (by omega) ?_ | refine sLoM (k+1) (by omega) (by omega) ?_ | refine oB (by simp; omega) ?_ | refine oB (by simp) ?_); first | refine dr ?_ | exact dz)
 refine cP ?_ ?_<;>intro h4
 ·have h4':ek=5:=h4
  rw [if_pos h4']
  have hc:=(zfj W0 { w with net:=w.net.eraseIdx k } w.net[k] (h.lose k) ⟨hz.l,hz.h⟩ hms.who).swp 6 592
  refine dr ?_
  refine oW hc (congrArg (fun x=>[x,PV.c (eMsg w.net[k])]) (zn2 (w:={ w with net:=w.net.eraseIdx k }) zdS)) ⟨rfl,rfl,congrArg some (congrArg (fun L=>XB.row L 9 55) zdT),trivial⟩ rfl rfl ⟨(),trivial⟩ fun _ _=>⟨rfl,?_⟩
  refine dEr ?_
  refine ⟨none,_,_,?_,true,trivial,rfl,rfl⟩
  refine dr ?_
  trivial
 ·have h4':ek≠5:=h4
  rw [if_neg h4']
  refine dr ?_
  refine ⟨none,_,_,?_,true,trivial,rfl,rfl⟩
  refine dr ?_
  repeat ((first | refine oB (congrArg (fun x=>PV.tup [x,I 0]) (zn2 (w:={ w with net:=w.net.eraseIdx k }) zdS)) ?_ | refine oB (congrArg (fun L=>XB.row L 9 55) zdT) ?_); first | refine dr ?_ | exact dz)
  trivial

theorem HZ.mono {n m:Nat} {w:Wld} (h:HZ n w) (hm:n≤m):HZ m w:=⟨by have:=h.l; omega,fun x hx=>by have:=h.h x hx; omega⟩
theorem zng {l:List Hold} {h:Hold}:(takeH l h).length≤l.length+1:=by
 unfold takeH
 split
 ·omega
 ·have:=List.length_filter_le (fun x:Hold=>x.path != h.path) l
  simp; omega
theorem HZ.set {n:Nat} {w:Wld} {k:Nat} {L:List Hold} (h:HZ n w) (hL:L.length≤n+1):∀ x∈w.holds.set k L,x.length≤n+1:=fun x hx=>by
 rcases List.mem_or_eq_of_mem_set hx with h' | h'
 ·have:=h.h x h'; omega
 ·rw [h']; exact hL
theorem zhY {n:Nat} {w:Wld} (h:HZ n w) (k:Int):(hdW w k).length≤n:=by
 unfold hdW
 rw [List.getD_eq_getElem?_getD]
 by_cases hk:k.toNat < w.holds.length
 ·rw [List.getElem?_eq_getElem hk]; exact h.h _ (List.getElem_mem hk)
 ·rw [List.getElem?_eq_none (by omega)]; simp
theorem HZ.of_eq {n:Nat} {w x:Wld} (h:HZ n w) (h1:x.leases=w.leases) (h2:x.holds=w.holds):HZ (n+1) x:=⟨by rw [h1]; have:=h.l; omega,fun y hy=>by rw [h2] at hy; have:=h.h y hy; omega⟩
theorem HZ.come {n:Nat} {w:Wld} (h:HZ n w) (m:Msg):HZ (n+1) (comeW w m):=by
 have hl:=h.l
 unfold comeW
 split
 ·unfold grantW
  split
  ·exact h.mono (by omega)
  ·refine ⟨?_,fun y hy=>?_⟩
   ·rw [yI.2.2.2.1]
    have:=List.length_filter_le (fun x:Lease=>!(x.who==m.who&&(x.path==m.hold.path&&decide (x.num≤w.count+1)))) w.leases
    show (offL w.leases m.who m.hold.path (w.count+1)++_).length≤n+1
    rw [List.length_append,zj1]
    simp only [List.length_cons,List.length_nil]; omega
   ·rw [yI.2.2.2.2.1] at hy
    have:=h.h y hy; omega
 ·split
  ·split
   ·exact ⟨by show w.leases.length≤n+1; omega,h.set (by have:=@zng (hdW w m.who) m.hold; have:=zhY h m.who; omega)⟩
   ·exact h.mono (by omega)
  ·split
   ·refine ⟨?_,fun y hy=>?_⟩
    ·rw [yI.2.2.2.1]; show w.leases.length≤n+1; omega
    ·rw [yI.2.2.2.2.1] at hy
     exact h.set (by have:=List.length_filter_le (fun x:Hold=>!(x.path==m.hold.path&&decide (x.num≤m.hold.num))) (hdW w m.who); have:=zhY h m.who; rw [ziO]; omega) y hy
   ·split
    ·refine ⟨?_,fun y hy=>by have:=h.h y hy; omega⟩
     have:=List.length_filter_le (fun x:Lease=>!(x.who==m.who&&(x.path==m.hold.path&&decide (x.num≤m.hold.num)))) w.leases
     show (offL w.leases m.who m.hold.path m.hold.num).length≤n+1
     rw [zj1]; omega
    ·exact h.mono (by omega)
theorem HZ.ev {n:Nat} {w:Wld} (h:HZ n w) (e:Ev):HZ (n+1) (evW w e).1:=by
 have hl:=h.l
 have id1:HZ (n+1) w:=h.mono (by omega)
 unfold evW
 split
 ·split
  ·exact h.of_eq yI.2.2.2.1 yI.2.2.2.2.1
  ·exact id1
 ·split
  ·unfold writeW
   split
   ·exact id1
   ·split
    ·exact id1
    ·split
     ·exact h.of_eq yA.2.2.2.1 yA.2.2.2.2.1
     ·exact h.of_eq rfl rfl
  ·split
   ·unfold tryW
    split
    ·exact id1
    ·split
     ·exact h.of_eq yA.2.2.2.1 yA.2.2.2.2.1
     ·exact h.of_eq rfl rfl
   ·split
    ·refine ⟨?_,fun y hy=>by have:=h.h y hy; omega⟩
     have:=List.length_filter_le (fun l:Lease=>decide (tickC w < l.til)) w.leases
     show (w.leases.filter fun l=>decide (tickC w < l.til)).length≤n+1
     omega
    ·split
     ·unfold netW
      split
      ·exact id1
      ·split
       ·exact h.of_eq yI.2.2.2.1 yI.2.2.2.2.1
       ·split
        ·exact HZ.come (w:={ w with net:=w.net.eraseIdx e.pos.toNat }) ⟨h.l,h.h⟩ _
        ·exact h.of_eq rfl rfl
     ·exact id1
theorem HZ.new {o:Over}:HZ 0 (newW o):=⟨by simp [newW],by simp [newW]⟩
def zbI:XC:=(.s (.r [.ex 2 (.box 0),.ex 3 (.box 1),.ex 4 (.alloc [.nil,.nil,.nil,(I 0),(I 0),.nil,.nil,.nil,.nil,(B false),(I 0),sE,sE,sE]),.m1 5 (.i 0)]) (.s (.s (.r [.f1 6 0 3,.l1 7 1 6]) (.blk 0 (.s (.r [.b1 9 .eql 7 (.i 1),.mv 8 9]) (.cnd 8 (.s (.s (.r [.f1 10 1 3,.l1 11 1 10,.c1 12 37 [11],.ex 13 (.un .not 12),.mv 14 13,.gf 15 (.fa 2 3) 14,.gf 16 (.ld false 1 15) 14,.gf 17 (.call 106 [16]) 14,.gf 18 (.un .not 17) 14,.ex 19 (.pick 14 .y 18)]) (.cnd 19 (.s (.r [.l2 20 14 2,.s1 14 4 20,.m1 5 (.i 1)]) .ret) .skip)) (.s (.r [.l2 21 14 2,.f1 22 1 3,.l1 23 1 22,.f1 24 2 3,.l1 25 1 24,.ex 26 (.build [sE,(B false),sE,(B false),sE,(I 0),(I 0)] [(0,(1,25))]),.ex 27 (.build [(I 0),(I 0),sE,(B false),sE,(B false),sE,(I 0),(I 0)] [(0,(1,(.i 1))),(1,(1,23)),(2,(7,26))]),.o1 28 114 [21,27],.s1 14 4 28,.m1 5 (.i 0)]) .ret)) (.s (.r [.b1 30 .eql 7 (.i 2),.mv 29 30]) (.cnd 29 (.s (.r [.l2 31 14 2,.f1 32 3 3,.l2 33 4 32,.o1 34 115 [31,33],.e1 35 34 0,.e1 36 34 1,.s1 14 4 35,.mv 5 36]) .ret) (.s (.r [.b1 38 .eql 7 (.i 3),.mv 37 38]) (.cnd 37 (.s (.r [.l2 39 14 2,.o1 40 116 [39],.e1 41 40 0,.e1 42 40 1,.s1 14 4 41,.mv 5 42]) .ret) (.s (.r [.b1 44 .eql 7 (.i 4),.mv 43 44]) (.cnd 43 (.s (.r [.l2 45 14 2,.o1 46 117 [45],.s1 14 4 46,.m1 5 (.i 0)]) .ret) (.s (.s (.r [.b1 48 .eql 7 (.i 5),.mv 47 48]) (.cnd 47 .skip (.s (.r [.b1 49 .eql 7 (.i 6),.mv 47 49]) (.cnd 47 .skip (.r [.b1 50 .eql 7 (.i 7),.mv 47 50]))))) (.cnd 47 (.s (.r [.l2 51 14 2,.l2 52 8 3,.o1 53 118 [51,52],.e1 54 53 0,.e1 55 53 1,.s1 14 4 54,.mv 5 55]) .ret) .skip)))))))))))) (.s (.r [.l2 56 14 2,.s1 14 4 56,.m1 5 (.i 1)]) .ret)))
theorem zbJ:compF Tryz.prog [114,115,116,117,118] 73=some (zbI.ac,[(.cell 4 true 14),(.t 5)],57):=by kernel_rfl
theorem zfo (W0:World) (w:Wld) (ev:Ev) (h:WG w) (hz:HZ 1000000 w):FunW Tryz.prog W0 73 [wAn 6 w,.c (eEv ev)] (wMn 6 w) (fun _:Bool=>True) (fun b => .tup [wAn (nbN b) (evW w ev).1,.c (CI (evW w ev).2)]) (fun b=>wMb b (evW w ev).1):=by
 obtain ⟨ek,ew,ep,eo,pos⟩:=ev
 show FunW _ _ _ [wAn 6 w,.c (.agg [CI ek,CI ew,CS ep,CI eo.kind,CS eo.path,CS eo.dest,CS eo.data,CI pos])] _ _ _ _
 refine funW (c:=zbI) mixed zbJ (by simp) rfl rfl fun hg=>?_
 have hn:w.net.length≤1000:=by have:=h.pl.nl; omega
 have ww:=zfM W0 w eo h hz.l
 have wt:=zfI W0 w h hz.l
 have wk:=zfH W0 w h hz.l
 have wn:=zfz W0 w ⟨ek,ew,ep,eo,pos⟩ h hz
 refine dr ?_
 refine cP ?_ ?_<;>intro k1
 ·by_cases a:isW ew∧pOk ep=true
  ·have e:evW w ⟨ek,ew,ep,eo,pos⟩=(sendW w ⟨1,ew,⟨ep,false,noE,0,0⟩⟩,0):=by
    unfold evW; rw [if_pos k1,if_pos a]
   rw [e]
   refine dEr ?_
   repeat (refine c0 (jz W0 _) rfl ?_; first | refine dEr ?_ | exact dz)
   refine cP ?_ ?_<;>intro k2
   ·exact absurd a.1 k2
   refine dEr ?_
   repeat (refine c0 (jE W0 _) rfl ?_; first | refine dEr ?_ | exact dz)
   refine cP ?_ ?_<;>intro k3
   ·rw [a.2] at k3; cases k3
   refine dr ?_
   refine oW (jy W0 w ⟨1,ew,⟨ep,false,noE,0,0⟩⟩ hn) rfl ⟨rfl,rfl,rfl,trivial⟩ rfl rfl ⟨(),trivial⟩ fun _ _=>⟨rfl,?_⟩
   refine dEr ?_
   refine ⟨none,_,_,?_,false,trivial,rfl,rfl⟩
   refine dr ?_
   trivial
  ·have e:evW w ⟨ek,ew,ep,eo,pos⟩=(w,1):=by
    unfold evW; rw [if_pos k1,if_neg a]
   rw [e]
   refine dEr ?_
   repeat (refine c0 (jz W0 _) rfl ?_; first | refine dEr ?_ | exact dz)
   refine cP ?_ ?_<;>intro k2
   ·refine dEr ?_
    refine ⟨none,_,_,?_,false,trivial,rfl,rfl⟩
    refine dr ?_
    trivial
   refine dEr ?_
   repeat (refine c0 (jE W0 _) rfl ?_; first | refine dEr ?_ | exact dz)
   refine cP ?_ ?_<;>intro k3
   ·refine dEr ?_
    refine ⟨none,_,_,?_,false,trivial,rfl,rfl⟩
    refine dr ?_
    trivial
   ·exact absurd ⟨k2,k3⟩ a
 refine dr ?_
 refine cP ?_ ?_<;>intro k2
 ·have e:evW w ⟨ek,ew,ep,eo,pos⟩=writeW w eo:=by unfold evW; rw [if_neg k1,if_pos k2]
  rw [e]
  refine dr ?_
  refine oW ww rfl ⟨rfl,rfl,rfl,trivial⟩ rfl rfl ⟨(),trivial⟩ fun _ _=>⟨rfl,?_⟩
  refine dEr ?_
  refine ⟨none,_,_,?_,false,trivial,rfl,rfl⟩
  refine dr ?_
  trivial
 refine dr ?_
 refine cP ?_ ?_<;>intro k3
 ·have e:evW w ⟨ek,ew,ep,eo,pos⟩=tryW w:=by unfold evW; rw [if_neg k1,if_neg k2,if_pos k3]
  rw [e]
  refine dr ?_
  refine oW wt rfl ⟨rfl,rfl,rfl,trivial⟩ rfl rfl ⟨(),trivial⟩ fun _ _=>⟨rfl,?_⟩
  refine dEr ?_
  refine ⟨none,_,_,?_,false,trivial,rfl,rfl⟩
  refine dr ?_
  trivial
 refine dr ?_
 refine cP ?_ ?_<;>intro k4
 ·have e:evW w ⟨ek,ew,ep,eo,pos⟩=(tickW w,0):=by unfold evW; rw [if_neg k1,if_neg k2,if_neg k3,if_pos k4]
  rw [e]
  refine dr ?_
  refine oW wk rfl ⟨rfl,rfl,rfl,trivial⟩ rfl rfl ⟨(),trivial⟩ fun _ _=>⟨rfl,?_⟩
  refine dEr ?_
  refine ⟨none,_,_,?_,false,trivial,rfl,rfl⟩
  refine dr ?_
  trivial
 by_cases a:5≤ek∧ek≤7
 ·have e:evW w ⟨ek,ew,ep,eo,pos⟩=netW w ⟨ek,ew,ep,eo,pos⟩:=by
   have a':5≤(⟨ek,ew,ep,eo,pos⟩:Ev).kind∧(⟨ek,ew,ep,eo,pos⟩:Ev).kind≤7:=a
   unfold evW; rw [if_neg k1,if_neg k2,if_neg k3,if_neg k4,if_pos a']
  rw [e]
  refine dr ?_
  refine cP ?_ ?_<;>intro k5
  ·refine dr ?_
   refine cP ?_ ?_<;>intro j5
   rotate_left
   ·exact absurd k5 j5
   refine dr ?_
   refine oW wn rfl ⟨rfl,rfl,rfl,trivial⟩ rfl rfl ⟨false,trivial⟩ fun b _=>?_
   cases b with
   | true =>
    refine ⟨rfl,?_⟩
    refine dEr ?_
    refine ⟨none,_,_,?_,true,trivial,rfl,rfl⟩
    refine dr ?_
    trivial
   | false =>
    refine ⟨rfl,?_⟩
    refine dEr ?_
    refine ⟨none,_,_,?_,false,trivial,rfl,rfl⟩
    refine dr ?_
    trivial
  refine dr ?_
  refine cP ?_ ?_<;>intro k6
  ·refine dr ?_
   refine cP ?_ ?_<;>intro j6
   rotate_left
   ·exact absurd k6 j6
   refine dr ?_
   refine oW wn rfl ⟨rfl,rfl,rfl,trivial⟩ rfl rfl ⟨false,trivial⟩ fun b _=>?_
   cases b with
   | true =>
    refine ⟨rfl,?_⟩
    refine dEr ?_
    refine ⟨none,_,_,?_,true,trivial,rfl,rfl⟩
    refine dr ?_
    trivial
   | false =>
    refine ⟨rfl,?_⟩
    refine dEr ?_
    refine ⟨none,_,_,?_,false,trivial,rfl,rfl⟩
    refine dr ?_
    trivial
  refine dr ?_
  refine cP ?_ ?_<;>intro k7
  ·refine dr ?_
   refine oW wn rfl ⟨rfl,rfl,rfl,trivial⟩ rfl rfl ⟨false,trivial⟩ fun b _=>?_
   cases b with
   | true =>
    refine ⟨rfl,?_⟩
    refine dEr ?_
    refine ⟨none,_,_,?_,true,trivial,rfl,rfl⟩
    refine dr ?_
    trivial
   | false =>
    refine ⟨rfl,?_⟩
    refine dEr ?_
    refine ⟨none,_,_,?_,false,trivial,rfl,rfl⟩
    refine dr ?_
    trivial
  ·omega
 ·have e:evW w ⟨ek,ew,ep,eo,pos⟩=(w,1):=by
   have a':¬ (5≤(⟨ek,ew,ep,eo,pos⟩:Ev).kind∧(⟨ek,ew,ep,eo,pos⟩:Ev).kind≤7):=a
   unfold evW; rw [if_neg k1,if_neg k2,if_neg k3,if_neg k4,if_neg a']
  rw [e]
  refine dr ?_
  refine cP ?_ ?_<;>intro k5
  ·exact absurd ⟨by omega,by omega⟩ a
  refine dr ?_
  refine cP ?_ ?_<;>intro k6
  ·exact absurd ⟨by omega,by omega⟩ a
  refine dr ?_
  refine cP ?_ ?_<;>intro k7
  ·exact absurd ⟨by omega,by omega⟩ a
  ·refine dr ?_
   refine ⟨none,_,_,?_,false,trivial,rfl,rfl⟩
   refine dr ?_
   trivial

structure WZ (n:Nat) (w:Wld):Prop where
 o:OZ n w.over
 z:HZ n w
 h:w.holds.length≤n
 f:w.floors.length≤n
 t:w.net.length≤n
theorem WG.wz {n:Nat} {w:Wld} (h:WG w) (hz:HZ n w) (hn:32≤n):WZ n w:=by
 obtain ⟨t,g⟩:=h.og
 exact ⟨g.os.oz.mono hn,hz,by have:=h.pl.hl; omega,by have:=h.pl.fl; omega,by have:=h.pl.nl; omega⟩
theorem KeepS.nilS {k0:List Nat} {A:Fr} {m:XM} (bx:Nat) (cs cs':List PV) (id sz:Nat) (e:TypeId) (h0:0 < sz) (hb:lkX m bx=some (.box cs)) (hid:lkX m id=none) (hc:All2 (NR1 id) cs cs') :
  KeepS k0 A m A ((id,.row [] sz e)::updX m bx (.box cs')):=fun W0 F K hA hK=>by
 have hb':lk (Go.Proofs.YteheahbjaddooaaGreatDoor.er m) bx=some (.box cs):=by rw [qC,hb]; rfl
 have hup:Go.Proofs.YteheahbjaddooaaGreatDoor.er (updX m bx (.box cs'))=upd (Go.Proofs.YteheahbjaddooaaGreatDoor.er m) bx (.box cs'):=Ze
 refine KeepG.nil (F2:=A) (m2:=upd (Go.Proofs.YteheahbjaddooaaGreatDoor.er m) bx (.box cs')) id sz e (by rw [qC,hid]; rfl) h0 (fun t x hx=>⟨x,by rw [← hA t]; exact hx,.inl (.inl rfl)⟩) (fun i b hi=>?_) (fun i hi=>by rw [qh]; exact hi) ?_
 ·by_cases h:i=bx
  ·subst h
   rw [qJ hb'] at hi
   cases hi
   exact ⟨_,hb',.inr ⟨cs,cs',rfl,rfl,hc⟩⟩
  ·rw [qI h] at hi
   exact ⟨b,hi,.inl rfl⟩
 ·have:Go.Proofs.YteheahbjaddooaaGreatDoor.er ((id,XB.row [] sz e)::updX m bx (.box cs'))=(id,.row [] sz e)::upd (Go.Proofs.YteheahbjaddooaaGreatDoor.er m) bx (.box cs'):=by simp only [Go.Proofs.YteheahbjaddooaaGreatDoor.er,XB.er,hup]; rfl
  rw [this] at hK; exact hK
theorem KeepS.pull {k0:List Nat} {A F2:Fr} {m m3:XM} {L:List CV} {Lp Lp':List PV} {sz:Nat} {e e':TypeId} (rid id:Nat) (hr:lkX m rid=some (.rowP Lp e)) (hl:lkX m id=some (.row L sz e')) (hL:Lp.map (frA (some (id,L.length,L)))=Lp') (hin:inBX ((rid,.box [])::m3) (.rowP Lp' e)=true) (h:PushX k0 rid id L A m F2 m3) :
  KeepS k0 A m F2 ((rid,.rowP Lp' e)::m3):=fun W0 F K hA hK=>by
 unfold PushX at h
 split at h
 case h_2=>exact h.elim
 rename_i hn1 hn2
 split at h
 case h_2=>exact h.elim
 rename_i hne hk hk0 hm3 hF2
 obtain ⟨f1,h⟩:=zR h
 obtain ⟨f2,_⟩:=zU h
 have eF:=qk hA f1
 have eM:=ql f2
 have hz:toFrz (some (id,L))=some (id,(L.map PV.c).length,L):=by simp [toFrz]
 rw [hz] at eF eM
 have hrid:rid≠id:=Nat.ne_of_beq_eq_false hne
 have eR:mapL (frB (some (id,(L.map PV.c).length,L))) (keepL (Go.Proofs.YteheahbjaddooaaGreatDoor.er m) (rid::m3.map (·.1)))=Go.Proofs.YteheahbjaddooaaGreatDoor.er ((rid,.rowP Lp' e)::m3):=by
  have e1:lk (Go.Proofs.YteheahbjaddooaaGreatDoor.er m) rid=some (.row Lp 1 e):=by rw [qC,hr]; rfl
  simp only [keepL,e1,mapL,List.map_cons] at eM ⊢
  rw [eM]
  simp only [Go.Proofs.YteheahbjaddooaaGreatDoor.er,XB.er,frB]
  rw [← hL,List.length_map]
 have dom:∀ i,(lkX ((rid,XB.box [])::m3) i).isSome=(lkX ((rid,XB.rowP Lp' e)::m3) i).isSome:=fun i=>by
  simp only [lkX]; split<;>rfl
 obtain ⟨d1,d2⟩:=zif dom
 refine KeepG.of (l:=[⟨some id,F2.map (·.1),rid::m3.map (·.1)⟩]) ?_
 show Tr.on k0 _ F (Go.Proofs.YteheahbjaddooaaGreatDoor.er m) K
 unfold Tr.on
 simp only []
 refine ⟨hk,?_,?_⟩
 ·rw [List.contains_cons,zjV hn1]
  simp [Ne.symm hrid]
 ·simp only [qC,hl,Option.map_some,XB.er]
  refine ym (zB L) ?_
  unfold Tr.go
  rw [eR,eF]
  refine ⟨?_,?_,?_,hK⟩
  ·rw [List.all_eq_true] at hk0 ⊢
   intro i hi
   have:=hk0 i hi
   rw [Bool.or_eq_true] at this
   rw [List.contains_cons]
   rcases this with h | h
   ·rw [Nat.eq_of_beq_eq_true h]; simp
   ·rw [zin h,Bool.or_true]
  ·refine zic ?_
   unfold inMX
   rw [List.all_cons]
   rw [Bool.and_eq_true]
   refine ⟨by rw [← d2]; exact hin,?_⟩
   rw [← hm3]
   congr 1
   funext p
   exact (d2 p.2).symm
  ·rw [List.all_eq_true] at hF2 ⊢
   intro p hp
   rw [← qf,← d1]; exact hF2 p hp
def zbG:XC:=(.s (.r [.ex 1 (.box 0),.ex 2 (.alloc [.nil,.nil,.nil,(I 0),(I 0),.nil,.nil,.nil,.nil,(B false),(I 0),sE,sE,sE])]) (.s (.r [.l2 5 14 1,.ex 3 (.alloc [.nil,.nil,.nil,(I 0),(I 0),.nil,.nil,.nil,.nil,(B false),(I 0),sE,sE,sE]),.s1 14 3 5]) (.s (.r [.f1 6 0 1,.l2 7 3 6,.c1 8 102 [7],.f1 9 0 3,.s1 3 9 8]) (.s (.r [.ex 10 .bsl0,.f1 11 5 1,.l1 12 1 11,.ex 13 (.app true 4 40 72 10 12),.f1 14 5 3,.s1 1 14 13]) (.s (.r [.ex 15 .bsl0,.f1 16 6 3,.s1 1 16 15]) (.s (.s (.r [.m1 4 (.i 0)]) (.blk 0 (.loop (.s (.s (.r [.mv 17 4,.f1 18 6 1,.l1 19 1 18,.n1 20 19,.b1 21 .lss 17 20]) (.cnd 21 .skip (.exit 0))) (.s (.blk 1 (.d [.f1 24 6 3,.l1 25 1 24,.ex 26 .bsl0,.f1 27 6 1,.l1 28 1 27,.mv 29 4,.i1 30 1 28 29,.l1 31 1 30,.ex 32 (.app true 7 80 53 26 31),.ex 33 (.bsl 1 56 [32]),.ex 34 (.app false 1 24 56 25 33),.f1 35 6 3,.s1 1 35 34])) (.r [.mv 22 4,.b1 23 .add 22 (.i 1),.mv 4 23])))))) (.s (.r [.ex 36 .bsl0,.f1 37 7 1,.l1 38 1 37,.ex 39 (.app true 1 8 3 36 38),.f1 40 7 3,.s1 1 40 39]) (.s (.r [.ex 41 .bsl0,.f1 42 8 1,.l1 43 1 42,.ex 44 (.app true 9 96 55 41 43),.f1 45 8 3,.s1 1 45 44]) (.s (.r [.l2 46 14 3,.s1 14 2 46]) .ret)))))))))
theorem zbH:compF Tryz.prog [] 45=some (zbG.ac,[(.cell 2 true 14)],47):=by kernel_rfl
theorem zfk (W0:World) (w:Wld) (hz:WZ 1000000 w):Fn Tryz.prog W0 45 [eWld w] (.c (eWld w)) []:=by
 refine fnX (c:=zbG) mixed zbH (by simp) rfl fun hg=>?_
 obtain ⟨hzo,⟨hzl,hzh⟩,hh,hf,hn⟩:=hz
 refine dEr ?_
 repeat ((first | refine c0 (jw W0 _ (hzo.mono (by omega))) rfl ?_ | refine oB (by simp; omega) ?_ | refine oB (by simp) ?_); first | refine dEr ?_ | exact dz)
 refine lq (σ:=Nat) (fun k=>[(1,.ptr 16 0),(2,.ptr 32 0),(3,.ptr 48 0),(4,I k)]) (fun k=>[(14,.row ((w.holds.take k).map eHolds) 1 56),(16,wBx w),(32,zWB),(48,.box [.c (eEnts w.over.base),.c (eMarkss w.over.layers),.c (eMarks w.over.upper),I w.clock,I w.count,.c (eLeases w.leases),.own 14 k,.c (eInts w.floors),.c (eMsgs w.net),B w.waits,I w.op.kind,.c (CS w.op.path),.c (CS w.op.dest),.c (CS w.op.data)])]) (fun k=>k≤w.holds.length) (fun k=>w.holds.length - k) 0 (by simp) ?_ ?_
 ·refine KeepX.trans (z:=some 208) (z':=some 3) (F1:=[(1,.ptr 16 0),(2,.ptr 32 0),(3,.ptr 48 0),(4,I 0)]) (m1:=[(16,wBx w),(32,zWB),(48,.box [.c (eEnts w.over.base),.c (eMarkss w.over.layers),.c (eMarks w.over.upper),I w.clock,I w.count,.c (eLeases w.leases),.nil,.c (eInts w.floors),.c (eMsgs w.net),B w.waits,I w.op.kind,.c (CS w.op.path),.c (CS w.op.dest),.c (CS w.op.data)])]) ?_ ?_
  ·refine dr ?_
   repeat (refine oB (by simp<;>rfl) ?_; first | refine dr ?_ | exact dz)
   trivial
  ·show KeepS _ _ _ _ _
   exact KeepS.nilB 48 [.c (eEnts w.over.base),.c (eMarkss w.over.layers),.c (eMarks w.over.upper),I w.clock,I w.count,.c (eLeases w.leases),.nil,.c (eInts w.floors),.c (eMsgs w.net),B w.waits,I w.op.kind,.c (CS w.op.path),.c (CS w.op.dest),.c (CS w.op.data)] [.c (eEnts w.over.base),.c (eMarkss w.over.layers),.c (eMarks w.over.upper),I w.clock,I w.count,.c (eLeases w.leases),.own 14 0,.c (eInts w.floors),.c (eMsgs w.net),B w.waits,I w.op.kind,.c (CS w.op.path),.c (CS w.op.dest),.c (CS w.op.data)] 14 56 rfl rfl ⟨nr0,nr0,nr0,nr0,nr0,nr0,nr1,nr0,nr0,nr0,nr0,nr0,nr0,nr0,trivial⟩
 intro k hk
 refine dr ?_
 refine cP ?_ ?_<;>intro h1
 ·have hk':k < w.holds.length:=by omega
  have hzk:=hzh _ (List.getElem_mem hk')
  refine dr ?_
  repeat ((first | refine oB (by simp; omega) ?_ | refine oB (by simp) ?_); first | refine dr ?_ | exact dz)
  refine ⟨k+1,by omega,by omega,?_⟩
  rw [List.take_succ_eq_append_getElem hk',List.map_append]
  refine KeepS.push (C:=(w.holds.take k).map eHolds) (L:=w.holds[k].map eHold) 14 512 rfl rfl (by simp) ?_
  refine dr ?_
  trivial
 have hkl:k=w.holds.length:=by omega
 subst hkl
 rw [List.take_length]
 refine dr ?_
 repeat ((first | refine oB (by simp; omega) ?_ | refine oB (by simp) ?_); first | refine dr ?_ | exact dz)
 rfl
theorem zfn (W0:World) (w:Wld) (hz:WZ 1000000 w):FunW Tryz.prog W0 45 [wAn 6 w] (wMn 6 w) (fun _:Unit=>True) (fun _ => .c (eWld w)) (fun _=>wMn 6 w):=by
 refine funW (c:=zbG) mixed zbH (by simp) rfl rfl fun hg=>?_
 obtain ⟨hzo,⟨hzl,hzh⟩,hh,hf,hn⟩:=hz
 refine dEr ?_
 repeat ((first | refine c0 (jw W0 _ (hzo.mono (by omega))) rfl ?_ | refine oB (by simp; omega) ?_ | refine oB (by simp) ?_); first | refine dEr ?_ | exact dz)
 refine lq (σ:=Nat) (fun k=>[(1,.ptr 16 0),(2,.ptr 32 0),(3,.ptr 48 0),(4,I k)]) (fun k=>[(14,.row ((w.holds.take k).map eHolds) 1 56),(16,.box (wCo 6 w)),(32,zWB),(48,.box [.c (eEnts w.over.base),.c (eMarkss w.over.layers),.c (eMarks w.over.upper),I w.clock,I w.count,.c (eLeases w.leases),.own 14 k,.own 5 w.floors.length,.own 6 w.net.length,B w.waits,I w.op.kind,.c (CS w.op.path),.c (CS w.op.dest),.c (CS w.op.data)])]++wMn 6 w) (fun k=>k≤w.holds.length) (fun k=>w.holds.length - k) 0 (by simp) ?_ ?_
 ·refine KeepX.trans (z:=some 208) (z':=some 3) (F1:=[(1,.ptr 16 0),(2,.ptr 32 0),(3,.ptr 48 0),(4,I 0)]) (m1:=[(16,.box (wCo 6 w)),(32,zWB),(48,.box [.c (eEnts w.over.base),.c (eMarkss w.over.layers),.c (eMarks w.over.upper),I w.clock,I w.count,.c (eLeases w.leases),.nil,.own 5 w.floors.length,.own 6 w.net.length,B w.waits,I w.op.kind,.c (CS w.op.path),.c (CS w.op.dest),.c (CS w.op.data)])]++wMn 6 w) ?_ ?_
  ·refine dr ?_
   repeat (refine oB (by simp<;>rfl) ?_; first | refine dr ?_ | exact dz)
   trivial
  ·show KeepS _ _ _ _ _
   exact KeepS.nilB 48 [.c (eEnts w.over.base),.c (eMarkss w.over.layers),.c (eMarks w.over.upper),I w.clock,I w.count,.c (eLeases w.leases),.nil,.own 5 w.floors.length,.own 6 w.net.length,B w.waits,I w.op.kind,.c (CS w.op.path),.c (CS w.op.dest),.c (CS w.op.data)] [.c (eEnts w.over.base),.c (eMarkss w.over.layers),.c (eMarks w.over.upper),I w.clock,I w.count,.c (eLeases w.leases),.own 14 0,.own 5 w.floors.length,.own 6 w.net.length,B w.waits,I w.op.kind,.c (CS w.op.path),.c (CS w.op.dest),.c (CS w.op.data)] 14 56 rfl rfl ⟨nr0,nr0,nr0,nr0,nr0,nr0,nr1,nr0,nr0,nr0,nr0,nr0,nr0,nr0,trivial⟩
 intro k hk
 refine dr ?_
 refine cP ?_ ?_<;>intro h1
 ·have hk':k < w.holds.length:=by omega
  have hzk:=hzh _ (List.getElem_mem hk')
  refine dr ?_
  repeat ((first | refine oB (by simp; omega) ?_ | refine oB (by simp) ?_); first | refine dr ?_ | exact dz)
  refine ⟨k+1,by omega,by omega,?_⟩
  rw [List.take_succ_eq_append_getElem hk',List.map_append]
  refine KeepS.push (C:=(w.holds.take k).map eHolds) (L:=w.holds[k].map eHold) 14 512 rfl rfl (by simp) ?_
  refine dr ?_
  trivial
 have hkl:k=w.holds.length:=by omega
 subst hkl
 rw [List.take_length]
 refine dr ?_
 repeat ((first | refine oB (by simp; omega) ?_ | refine oB (by simp) ?_); first | refine dr ?_ | exact dz)
 refine ⟨some 3,_,_,?_,(),trivial,rfl,rfl⟩
 refine KeepX.trans (z:=some 14) (z':=some 3) (F1:=[(0,.agg [.c (eEnts w.over.base),.c (eMarkss w.over.layers),.c (eMarks w.over.upper),I w.clock,I w.count,.c (eLeases w.leases),.c (eHoldss w.holds),.own 624 w.floors.length,.own 704 w.net.length,B w.waits,I w.op.kind,.c (CS w.op.path),.c (CS w.op.dest),.c (CS w.op.data)])]) (m1:=[(624,.row (w.floors.map CI) 1 3),(704,.row (w.net.map eMsg) 9 55)]++wMn 6 w) ?_ ?_
 ·refine dr ?_
  repeat ((first | refine oB (by simp<;>rfl) ?_ | refine oB (by simp) ?_); first | refine dr ?_ | exact dz)
  trivial
 refine KeepX.trans (z:=some 624) (z':=some 704) (F1:=[(0,.agg [.c (eEnts w.over.base),.c (eMarkss w.over.layers),.c (eMarks w.over.upper),I w.clock,I w.count,.c (eLeases w.leases),.c (eHoldss w.holds),.c (eInts w.floors),.own 704 w.net.length,B w.waits,I w.op.kind,.c (CS w.op.path),.c (CS w.op.dest),.c (CS w.op.data)])]) (m1:=[(704,.row (w.net.map eMsg) 9 55)]++wMn 6 w) ?_ ?_
 ·refine dr ?_
  repeat ((first | refine oB (by simp<;>rfl) ?_ | refine oB (by simp) ?_); first | refine dr ?_ | exact dz)
  trivial
 ·refine dr ?_
  repeat ((first | refine oB (by simp<;>rfl) ?_ | refine oB (by simp) ?_); first | refine dr ?_ | exact dz)
  trivial
end Go.Proofs.YteheahbjaddooaaGreatDoor
