/- The texts Pb3, Pb8, Pb9, Pb4, Bm2, Pb5, Pb6, Pb7, Db1, Pc1, Pd1, Qb2, Db2, Db3, Dc1, Pd2, Pd3, Qb3, Qb4, Pd4, Pd5, Pd6, Pd7, Shelf, joined; no condition. -/
import Derived.Test.YtopfccpgdldcdaaGreatDoorWyC
import Derived.Shelf.Strings.Builder1
import Derived.Shelf.Strings.Builder2
import Derived.Shelf.Strings.OnBuilder
import Derived.Shelf.Small.Bits
import Derived.Shelf.Strconv.Itoa0
import Derived.Shelf.Strings.Search1
import Derived.Shelf.Strings.Search2
import Derived.Shelf.Strings.Search3
import Derived.Shelf.Strings.Count
import Derived.Shelf.LaysM
import Derived.Shelf.Strings.Shaped
import Derived.Shelf.Strings.Split
import Derived.Shelf.Unicode.DecodeSlow
import Derived.Ground.SlgnProg
import Derived.Shelf.SlicesE.Equal
import Derived.Shelf.SlLaysE0
import Derived.Shelf.SlLaysH0
import Derived.Ground.SlgfProg
import Derived.Shelf.SlGeneric
import Derived.Shelf.SlSortCmp.NoneTotal
import Derived.Ground.SlsfProg
import Derived.Test.YtopfccpgdldcdaaGreatDoorProg

namespace Go.Proofs.YtopfccpgdldcdaaGreatDoor
set_option linter.unusedSimpArgs false
set_option linter.unusedVariables false
open Go Go.RowKit
def zlZ:XC:=(.s (.r [.x1 3 1,.a2 4 3 46]) (.s (.r [.ex 7 .bsl0,.a1 5 7 3 46]) (.s (.r [.m1 6 (.i 0)]) (.s (.blk 0 (.loop (.s (.s (.d [.mv 8 6,.mv 9 0,.n1 10 9,.b1 11 .lss 8 10,.mv 12 11,.g3 13 0 12,.g3 14 6 12,.gt 15 (.ia 3 13 14) 12,.g1 16 0 15 12,.g2 17 1 16 12,.g1 18 0 3 12,.g2 19 1 18 12,.gt 20 (.bin .lss 17 19) 12,.p2 21 12 20]) (.ce 21 0)) (.blk 1 (.s (.r [.mv 22 5,.mv 23 0,.mv 24 6,.i1 25 3 23 24,.l2 26 3 25,.ex 27 (.bsl 3 46 [26]),.ex 28 (.app false 3 40 46 22 27),.a1 5 28 3 46]) (.ic 29 30 6)))))) (.s (.r [.mv 31 5,.l2 32 3 3,.ex 33 (.bsl 3 46 [32]),.ex 34 (.app false 3 40 46 31 33),.a1 5 34 3 46]) (.s (.s (.d [.mv 35 6,.mv 36 0,.n1 37 36,.b1 38 .lss 35 37,.mv 39 38,.g3 40 0 39,.g3 41 6 39,.gt 42 (.ia 3 40 41) 39,.g1 43 0 42 39,.g2 44 1 43 39,.g1 45 0 3 39,.g2 46 1 45 39,.gt 47 (.bin .eql 44 46) 39,.p2 48 39 47]) (.cnd 48 (.ic 49 50 6) .skip)) (.s (.r [.mv 51 5,.mv 52 0,.mv 53 6,.ex 54 (.slr 3 52 (.some 53) .none),.ex 55 (.app false 3 40 46 51 54),.a1 4 55 3 46]) .ret)))))))
theorem zl2:zc Tryz.prog [] 185=some (zlZ.ac,[(.t 4)],56):=by kernel_rfl
theorem Jt (W0:World) (t:List Ent) (e:Ent) (ht:t.length≤1000000):Fn Tryz.prog W0 185 [za t,eEnt e] (.c (za (put t e))) []:=by
 refine fX mixed zl2 fun hg=>?_
 refine dr ?_;refine lp (σ:=Nat) (fun k=>[(0,.c (za t)),(3,.ptr 48 0),(5,.own 80 k),(6,I k)]) (fun k=>[(48,.box [.c (CS e.path),(.c (CB e.dir)),.c (CS e.data)]),(80,.row ((t.take k).map eEnt) 3 46)]) (fun k=>k≤t.length∧(t.take k).all (fun x=>ltS x.path e.path)=true) (fun k=>t.length - k) 0 ⟨by simp,by simp⟩ ?_ ?_
 ·refine dr ?_;trivial
 rintro k ⟨hk,ha⟩;refine dr ?_;apply cP<;>intro h1
 ·have hk':k < t.length:=by omega
  refine dr ?_;apply cP<;>intro h2
  ·refine dr ?_;repeat ((first|refine oB (by simp; omega) ?_|refine oB (by simp) ?_); first|refine dr ?_|exact dz)
   refine ⟨k+1,⟨by omega,yh hk' ha h2⟩,by omega,?_⟩;refine dr ?_;repeat ((first|refine oB (by simp; omega) ?_|refine oB (tmn hk') ?_); first|refine dr ?_|exact dz)
   trivial
  ·refine dr ?_;repeat ((first|refine oB (by simp; omega) ?_|refine oB (by simp) ?_); first|refine dr ?_|exact dz)
   apply cP<;>intro h3;rotate_left
   ·omega
   refine dr ?_;apply cP<;>intro h4
   ·refine dr ?_;repeat ((first|refine sLoM (k+1) (by omega) (by omega) ?_|refine oB (by simp; omega) ?_|refine oB (by simp) ?_); first|refine dr ?_|exact dz)
    show _=za (jd _ t e);rw [zgw hk' ha h2 h4]; simp [za]; rfl
   ·refine dr ?_;repeat ((first|refine sLoM k (by omega) (by omega) ?_|refine oB (by simp; omega) ?_|refine oB (by simp) ?_); first|refine dr ?_|exact dz)
    show _=za (jd _ t e);rw [zgz hk' ha h2 h4]; simp [za]; rfl
 ·refine dr ?_;repeat ((first|refine oB (by simp; omega) ?_|refine oB (by simp) ?_); first|refine dr ?_|exact dz)
  apply cP<;>intro h3
  ·omega
  refine dr ?_;repeat ((first|refine sLoM k (by omega) (by omega) ?_|refine oB (by simp; omega) ?_|refine oB (by simp) ?_); first|refine dr ?_|exact dz)
  show _=za (jd _ t e);rw [zgy (by omega) ha];have:k=t.length:=by omega
  simp [za,this]; rfl
def zmv:XC:=(.s (.r [.x1 3 1,.a2 4 3 148]) (.s (.r [.ex 7 .bsl0,.a1 5 7 3 148]) (.s (.r [.m1 6 (.i 0)]) (.s (.blk 0 (.loop (.s (.s (.d [.mv 8 6,.mv 9 0,.n1 10 9,.b1 11 .lss 8 10,.mv 12 11,.g3 13 0 12,.g3 14 6 12,.gt 15 (.ia 3 13 14) 12,.g1 16 0 15 12,.g2 17 1 16 12,.g1 18 0 3 12,.g2 19 1 18 12,.gt 20 (.bin .lss 17 19) 12,.p2 21 12 20]) (.ce 21 0)) (.blk 1 (.s (.r [.mv 22 5,.mv 23 0,.mv 24 6,.i1 25 3 23 24,.l2 26 3 25,.ex 27 (.bsl 3 148 [26]),.ex 28 (.app false 3 40 148 22 27),.a1 5 28 3 148]) (.ic 29 30 6)))))) (.s (.r [.mv 31 5,.l2 32 3 3,.ex 33 (.bsl 3 148 [32]),.ex 34 (.app false 3 40 148 31 33),.a1 5 34 3 148]) (.s (.s (.d [.mv 35 6,.mv 36 0,.n1 37 36,.b1 38 .lss 35 37,.mv 39 38,.g3 40 0 39,.g3 41 6 39,.gt 42 (.ia 3 40 41) 39,.g1 43 0 42 39,.g2 44 1 43 39,.g1 45 0 3 39,.g2 46 1 45 39,.gt 47 (.bin .eql 44 46) 39,.p2 48 39 47]) (.cnd 48 (.ic 49 50 6) .skip)) (.s (.r [.mv 51 5,.mv 52 0,.mv 53 6,.ex 54 (.slr 3 52 (.some 53) .none),.ex 55 (.app false 3 40 148 51 54),.a1 4 55 3 148]) .ret)))))))
theorem zmw:zc Tryz.prog [] 176=some (zmv.ac,[(.t 4)],56):=by kernel_rfl
theorem Ju (W0:World) (t:List Mark) (e:Mark) (ht:t.length≤1000000):Fn Tryz.prog W0 176 [ze t,ql e] (.c (ze (jH t e))) []:=by
 refine fX mixed zmw fun hg=>?_
 refine dr ?_;refine lp (σ:=Nat) (fun k=>[(0,.c (ze t)),(3,.ptr 48 0),(5,.own 80 k),(6,I k)]) (fun k=>[(48,.box [.c (CS e.path),(I e.kind),.c (CS e.data)]),(80,.row ((t.take k).map ql) 3 148)]) (fun k=>k≤t.length∧(t.take k).all (fun x=>ltS x.path e.path)=true) (fun k=>t.length - k) 0 ⟨by simp,by simp⟩ ?_ ?_
 ·refine dr ?_;trivial
 rintro k ⟨hk,ha⟩;refine dr ?_;apply cP<;>intro h1
 ·have hk':k < t.length:=by omega
  refine dr ?_;apply cP<;>intro h2
  ·refine dr ?_;repeat ((first|refine oB (by simp; omega) ?_|refine oB (by simp) ?_); first|refine dr ?_|exact dz)
   refine ⟨k+1,⟨by omega,yh hk' ha h2⟩,by omega,?_⟩;refine dr ?_;repeat ((first|refine oB (by simp; omega) ?_|refine oB (tmn hk') ?_); first|refine dr ?_|exact dz)
   trivial
  ·refine dr ?_;repeat ((first|refine oB (by simp; omega) ?_|refine oB (by simp) ?_); first|refine dr ?_|exact dz)
   apply cP<;>intro h3;rotate_left
   ·omega
   refine dr ?_;apply cP<;>intro h4
   ·refine dr ?_;repeat ((first|refine sLoM (k+1) (by omega) (by omega) ?_|refine oB (by simp; omega) ?_|refine oB (by simp) ?_); first|refine dr ?_|exact dz)
    show _=ze (jd _ t e);rw [zgw hk' ha h2 h4]; simp [ze]; rfl
   ·refine dr ?_;repeat ((first|refine sLoM k (by omega) (by omega) ?_|refine oB (by simp; omega) ?_|refine oB (by simp) ?_); first|refine dr ?_|exact dz)
    show _=ze (jd _ t e);rw [zgz hk' ha h2 h4]; simp [ze]; rfl
 ·refine dr ?_;repeat ((first|refine oB (by simp; omega) ?_|refine oB (by simp) ?_); first|refine dr ?_|exact dz)
  apply cP<;>intro h3
  ·omega
  refine dr ?_;repeat ((first|refine sLoM k (by omega) (by omega) ?_|refine oB (by simp; omega) ?_|refine oB (by simp) ?_); first|refine dr ?_|exact dz)
  show _=ze (jd _ t e);rw [zgy (by omega) ha];have:k=t.length:=by omega
  simp [ze,this]; rfl
def zl7:XC:=(.s (.r [.a2 4 1 9]) (.s (.r [.mv 13 0,.a1 5 13 3 46]) (.s (.s (.r [.m1 6 (.i 0)]) (.blk 0 (.loop (.s (.s (.r [.mv 14 6,.mv 15 1,.n1 16 15,.b1 17 .lss 14 16]) (.ce 17 0)) (.s (.blk 1 (.r [.mv 20 5,.mv 21 1,.mv 22 6,.i1 23 3 21 22,.l2 24 3 23,.c1 25 185 [20,24],.a1 5 25 3 46])) (.ic 18 19 6)))))) (.s (.r [.ex 26 .bsl0,.a1 7 26 1 9]) (.s (.s (.r [.m1 8 (.i 0)]) (.blk 2 (.loop (.s (.s (.r [.mv 27 8,.mv 28 5,.n1 29 28,.b1 30 .lss 27 29]) (.ce 30 2)) (.s (.blk 3 (.s (.r [.mv 34 0,.mv 35 5,.mv 36 8,.i1 37 3 35 36,.f1 38 0 37,.l1 39 1 38,.c1 40 156 [34,39],.mv 33 40,.e1 41 33 0,.e1 42 33 1,.ex 9 (.alloc zE),.s1 3 9 41,.mv 10 42]) (.s (.r [.mv 44 1,.mv 45 5,.mv 46 8,.i1 47 3 45 46,.f1 48 0 47,.l1 49 1 48,.c1 50 156 [44,49],.mv 43 50,.e1 51 43 0,.e1 52 43 1,.ex 11 (.alloc zE),.s1 3 11 51,.mv 12 52]) (.s (.r [.mv 53 10,.mv 54 12,.ex 55 (.bb true 53 54),.mv 56 55,.gf 57 (.ld true 3 9) 56,.gf 58 (.ld true 3 11) 56,.gf 59 (.beq true [.s,.b,.s] 57 58) 56,.p1 60 56 59]) (.cnd 60 (.r [.mv 61 7,.mv 62 5,.mv 63 8,.i1 64 3 62 63,.f1 65 0 64,.l1 66 1 65,.ex 67 (.bsl 1 9 [66]),.ex 68 (.app false 1 16 9 61 67),.a1 7 68 1 9]) .skip))))) (.ic 31 32 8)))))) (.s (.r [.mv 69 7,.a1 4 69 1 9]) .ret))))))
theorem zl8:zc Tryz.prog [] 150=some (zl7.ac,[(.t 4)],70):=by kernel_rfl
theorem zbO (W0:World) (a b:List Ent) (ht:a.length+b.length≤1000000):Fn Tryz.prog W0 150 [za a,za b] (.c (jo (zZ a b))) []:=by
 refine fX mixed zl8 fun hg=>?_
 refine dr ?_;refine lp (σ:=Nat) (fun k=>[(0,.c (za a)),(1,.c (za b)),(5,.c (za ((b.take k).foldl put a))),(6,I k)]) (fun _=>[]) (fun k=>k≤b.length) (fun k=>b.length - k) 0 (by simp) ?_ ?_
 ·refine dr ?_;trivial
 intro k hk;have hlk:((b.take k).foldl put a).length≤a.length+b.length:=zqw b a k;refine dr ?_;apply cP<;>intro h1
 ·have hk':k < b.length:=by omega
  refine dr ?_;repeat (refine c0 (Jt W0 _ _ (by omega)) rfl ?_; first|refine dr ?_|exact dz)
  intro hg1;refine dr ?_;refine ⟨k+1,by omega,by omega,?_⟩;refine dr ?_;repeat (refine oB (by rw [qX hk']) ?_; first|refine dr ?_|exact dz)
  trivial
 have hkl:k=b.length:=by omega
 subst hkl;rw [List.take_length] at hlk ⊢;have hB:b.foldl put a=both a b:=rfl;rw [hB] at hlk ⊢;generalize hBB:both a b=B at *;refine dr ?_;refine lp (σ:=Nat) (fun k=>[(0,.c (za a)),(1,.c (za b)),(5,.c (za B)),(8,I k),(7,.own 112 ((B.take k).filter (tudP a b)).length)]) (fun k=>[(112,.row (((B.take k).filter (tudP a b)).map fun e=>CS e.path) 1 9)]) (fun k=>k≤B.length) (fun k=>B.length - k) 0 (by simp) ?_ ?_
 ·refine dr ?_;trivial
 intro k hk;have hfl:=zeI (q:=tudP a b) (l:=B) (k:=k);refine dr ?_;apply cP<;>intro h2
 ·have hk':k < B.length:=by omega
  refine dr ?_;repeat ((first|refine c0 (yJ W0 _ _) rfl ?_ | rw [qM]); first|refine dr ?_|exact dz)
  intro hg1;refine dr ?_;repeat ((first|refine c0 (yJ W0 _ _) rfl ?_ | rw [qM]); first|refine dr ?_|exact dz)
  intro hg1;refine dr ?_;have hq:tudP a b B[k]=!(decide ((get a B[k].path).isSome=(get b B[k].path).isSome)&&decide ((get a B[k].path).getD noE=(get b B[k].path).getD noE)):=by
   rw [tudP,Bool.eq_iff_iff]; simp [zss (d:=noE)]
  apply cP<;>intro h3
  ·refine dr ?_;repeat ((first|refine oB (by simp; omega) ?_|refine oB (by simp) ?_); first|refine dr ?_|exact dz)
   have hT:tudP a b B[k]=true:=by rw [hq]; simp [h3]
   refine ⟨k+1,by omega,by omega,?_⟩;refine dr ?_;repeat (refine oB (by rw [qx hk' hT]; simp) ?_; first|refine dr ?_|exact dz)
   trivial
  ·refine dr ?_;apply cP<;>intro h4
   ·refine dr ?_;repeat ((first|refine oB (by simp; omega) ?_|refine oB (by simp) ?_); first|refine dr ?_|exact dz)
    have hT:tudP a b B[k]=true:=by rw [hq,← Jk,h4]; simp
    refine ⟨k+1,by omega,by omega,?_⟩;refine dr ?_;repeat (refine oB (by rw [qx hk' hT]; simp) ?_; first|refine dr ?_|exact dz)
    trivial
   ·refine dr ?_;have hT:tudP a b B[k]=false:=by rw [hq,← Jk,h4]; simp [h3]
    refine ⟨k+1,by omega,by omega,?_⟩;refine dr ?_;repeat (refine oB (by rw [qe hk' hT]) ?_; first|refine dr ?_|exact dz)
    trivial
 have hkl:k=B.length:=by omega
 refine dr ?_;repeat (refine oB (by simp) ?_; first|refine dr ?_|exact dz)
 rw [zZ,hBB,hkl,List.take_length];simp [jo]
end Go.Proofs.YtopfccpgdldcdaaGreatDoor

namespace Go.Proofs.YtopfccpgdldcdaaGreatDoor
set_option linter.unusedSimpArgs false
set_option linter.unusedVariables false
open Go Go.RowKit
def zkN:XC:=(.s (.r [.x1 1 0,.m1 2 .n]) (.s (.s (.r [.f1 3 0 1,.l1 4 1 3,.b1 5 .lss 4 (.i 1),.mv 6 5,.h1 7 0 1 6,.h2 8 1 7 6,.gf 9 (.bin .gtr 8 (.i 5)) 6,.p1 10 6 9,.mv 11 10,.h1 12 1 1 11,.h2 13 1 12 11,.gf 14 (.call 98 [13]) 11,.gf 15 (.un .not 14) 11,.p1 16 11 15]) (.cnd 16 (.rf 2) .skip)) (.s (.s (.r [.f1 17 0 1,.l1 18 1 17,.b1 19 .eql 18 (.i 5)]) (.cnd 19 (.s (.r [.f1 20 2 1,.l1 21 1 20,.c1 22 98 [21],.mv 23 22,.g1 24 3 1 23,.g2 25 1 24 23,.gt 26 (.bin .eql 25 (.s [])) 23,.p2 27 23 26,.mv 2 27]) .ret) .skip)) (.s (.r [.f1 28 2 1,.l1 29 1 28,.ex 30 (.bin .eql 29 (.s [])),.mv 31 30,.g1 32 3 1 31,.g2 33 1 32 31,.gt 34 (.call 181 [33]) 31,.p2 35 31 34,.mv 36 35,.g1 37 0 1 36,.g2 38 1 37 36,.gt 39 (.bin .eql 38 (.i 2)) 36,.g3 40 39 36,.h1 41 3 1 40,.h2 42 1 41 40,.gf 43 (.bin .eql 42 (.s [])) 40,.gt 44 (.pick 40 .y 43) 36,.p2 45 36 44,.mv 2 45]) .ret))))
theorem zkO:zc Tryz.prog [] 153=some (zkN.ac,[(.t 2)],46):=by kernel_rfl
theorem zqb (W0:World) (op:Op):Fn Tryz.prog W0 153 [eOp op] (.c (CB (zP op))) []:=by
 refine fX mixed zkO fun hg=>?_
 refine dr ?_;apply cP<;>intro h1
 ·refine dr ?_;exact bF (by simp [zP]; omega)
 refine dr ?_;apply cP<;>intro h2
 ·refine dr ?_;exact bF (by simp [zP]; omega)
 refine dr ?_;repeat (refine c0 (qH W0 _) rfl ?_; first|refine dr ?_|exact dz)
 apply cP<;>intro h3
 ·refine dr ?_;exact bF (by simp [zP,h3])
 have hk:(decide (1≤op.kind)&&decide (op.kind≤5))=true:=by simp; omega
 refine dr ?_;apply cP<;>intro h4
 ·refine dEr ?_;repeat (refine c0 (qH W0 _) rfl ?_; first|refine dEr ?_|exact dz)
  have e:zP op=(pOk op.dest&&op.data==[]):=by rw [zP,hk,h3,if_pos h4]<;>rfl
  rw [e];apply cP<;>intro h5
  ·refine dr ?_;refine congrArg CB ?_;rw [Bool.eq_iff_iff]; simp [h5,qw]
  ·refine dr ?_;exact bF (by simp [h5])
 have e:zP op=(op.dest==[]&&(qv op.data&&(op.kind==2||op.data==[]))):=by rw [zP,hk,h3,if_neg h4]<;>rfl
 rw [e];refine dr ?_;apply cP<;>intro h5
 ·refine dEr ?_;repeat (refine c0 (zbM W0 _) rfl ?_; first|refine dEr ?_|exact dz)
  apply cP<;>intro h6
  ·refine dr ?_;apply cP<;>intro h7
   ·refine dr ?_;exact bT (by simp [h5,h6,h7])
   ·refine dr ?_;refine congrArg CB ?_;rw [Bool.eq_iff_iff]; simp [h5,h6,h7,qw]
  ·refine dr ?_;exact bF (by simp [h6])
 ·refine dr ?_;exact bF (by simp [h5])
def zlL:XC:=(.s (.r [.a2 4 1 9]) (.s (.r [.ex 7 .bsl0,.a1 5 7 1 9]) (.s (.s (.r [.m1 6 (.i 0)]) (.blk 0 (.loop (.s (.s (.r [.mv 8 6,.mv 9 0,.n1 10 9,.b1 11 .lss 8 10]) (.ce 11 0)) (.s (.blk 1 (.s (.r [.mv 14 0,.mv 15 6,.i1 16 3 14 15,.f1 17 0 16,.l1 18 1 17,.c1 19 180 [18],.mv 20 1,.b1 21 .eql 19 20]) (.cnd 21 (.r [.mv 22 5,.mv 23 0,.mv 24 6,.i1 25 3 23 24,.f1 26 0 25,.l1 27 1 26,.c1 28 240 [27],.ex 29 (.bsl 1 9 [28]),.ex 30 (.app false 1 16 9 22 29),.a1 5 30 1 9]) .skip))) (.ic 12 13 6)))))) (.s (.r [.mv 31 5,.a1 4 31 1 9]) .ret))))
theorem zlM:zc Tryz.prog [] 224=some (zlL.ac,[(.t 4)],32):=by kernel_rfl
theorem zbN (W0:World) (t:List Ent) (p:Str) (ht:t.length≤1000000):Fn Tryz.prog W0 224 [za t,CS p] (.c (jo (kids t p))) []:=by
 refine fX mixed zlM fun hg=>?_
 refine dr ?_;refine lp2 (fun (k:Nat) (out:List Ent)=>[(0,.c (za t)),(1,.c (CS p)),(5,.own 80 out.length),(6,I k)]) (fun _ out=>[(80,.row (out.map fun e=>CS (JD e.path)) 1 9)]) (fun k out=>k≤t.length∧out=(t.take k).filter (fun e=>pUp e.path==p)∧out.length≤k) (fun k _=>t.length - k) 0 [] ⟨by simp,rfl,by simp⟩ ?_ ?_
 ·refine dr ?_;trivial
 rintro k out ⟨hk,ho,hle⟩;refine dr ?_;apply cP<;>intro h1
 ·have hk':k < t.length:=by omega
  refine dEr ?_;repeat (refine c0 (Zb W0 _) rfl ?_; first|refine dEr ?_|exact dz)
  apply cP<;>intro h2
  ·refine dEr ?_;repeat ((first|refine c0 (zqf W0 _) rfl ?_|refine oB (by simp; omega) ?_|refine oB (by simp) ?_); first|refine dEr ?_|exact dz)
   refine ⟨k+1,out++[t[k]],⟨by omega,by rw [qx hk' (by simp [h2]),ho],by simp; omega⟩,by omega,?_⟩;refine dr ?_;repeat (refine oB (by simp<;>rfl) ?_; first|refine dr ?_|exact dz)
   trivial
  ·refine dr ?_;refine ⟨k+1,out,⟨by omega,by rw [qe hk' (by simp [h2]),ho],by omega⟩,by omega,?_⟩;refine dr ?_;trivial
 have hkl:k=t.length:=by omega
 rw [hkl,List.take_length] at ho;refine dr ?_;repeat (refine oB (by simp) ?_; first|refine dr ?_|exact dz)
 rw [kids,← ho]; simp [jo]
def zl9:XC:=(.s (.r [.m1 4 (.i 0)]) (.s (.r [.mv 8 0,.mv 9 1,.c1 10 180 [9],.c1 11 156 [8,10],.mv 7 11,.e1 12 7 0,.e1 13 7 1,.ex 5 (.alloc zE),.s1 3 5 12,.mv 6 13]) (.s (.blk 0 (.s (.r [.mv 15 6,.u1 16 15,.mv 14 16]) (.cnd 14 (.s (.r [.m1 4 (.i 2)]) .ret) (.s (.r [.f1 18 1 5,.l1 19 1 18,.u1 20 19,.mv 17 20]) (.cnd 17 (.s (.r [.m1 4 (.i 3)]) .ret) .skip))))) (.s (.r [.m1 4 (.i 0)]) .ret))))
theorem zma:zc Tryz.prog [] 222=some (zl9.ac,[(.t 4)],21):=by kernel_rfl
theorem zen (W0:World) (t:List Ent) (p:Str):Fn Tryz.prog W0 222 [za t,CS p] (.c (CI (upC t p))) []:=by
 refine fX mixed zma fun hg=>?_
 have hc:=yJ W0 t (pUp p);cases hx:get t (pUp p) with
 | none =>
  rw [hx] at hc;refine dEr ?_;repeat ((first|refine c0 (Zb W0 _) rfl ?_|refine c0 hc rfl ?_); first|refine dEr ?_|exact dz)
  rw [upC,hx]<;>rfl
 | some e =>
  rw [hx] at hc;refine dEr ?_;repeat ((first|refine c0 (Zb W0 _) rfl ?_|refine c0 hc rfl ?_); first|refine dEr ?_|exact dz)
  apply cP<;>intro h1
  ·refine dr ?_;rw [upC,hx]; exact congrArg CI (by simp [h1])
  ·refine dr ?_;rw [upC,hx]; exact congrArg CI (by simp [h1])
def zlR:XC:=(.s (.r [.m1 4 (.i 0)]) (.s (.r [.mv 8 0,.mv 9 1,.c1 10 222 [8,9],.mv 5 10]) (.s (.r [.mv 12 0,.mv 13 1,.c1 14 156 [12,13],.mv 11 14,.e1 15 11 0,.e1 16 11 1,.ex 6 (.alloc zE),.s1 3 6 15,.mv 7 16]) (.s (.blk 0 (.s (.r [.mv 18 5,.b1 19 .neq 18 (.i 0),.mv 17 19]) (.cnd 17 (.s (.r [.mv 20 5,.mv 4 20]) .ret) (.s (.r [.mv 22 7,.mv 21 22]) (.cnd 21 (.s (.r [.m1 4 (.i 4)]) .ret) (.s (.r [.mv 24 0,.n1 25 24,.b1 26 .geq 25 (.i 16),.mv 23 26]) (.cnd 23 (.s (.r [.m1 4 (.i 8)]) .ret) .skip))))))) (.s (.r [.m1 4 (.i 0)]) .ret)))))
theorem zlS:zc Tryz.prog [] 187=some (zlR.ac,[(.t 4)],27):=by kernel_rfl
theorem zel (W0:World) (t:List Ent) (p:Str):Fn Tryz.prog W0 187 [za t,CS p] (.c (CI (newC t p))) []:=by
 refine fX mixed zlS fun hg=>?_
 have hc:=yJ W0 t p;rw [qM] at hc;refine dEr ?_;repeat ((first|refine c0 (zen W0 _ _) rfl ?_|refine c0 hc rfl ?_); first|refine dEr ?_|exact dz)
 apply cP<;>intro h1
 ·refine dr ?_;rw [newC,if_pos h1]
 have h1':¬ upC t p≠0:=fun h=>h h1
 refine dr ?_;apply cP<;>intro h2
 ·refine dr ?_;rw [newC,if_neg h1',if_pos h2]<;>rfl
 have h2':¬ (get t p).isSome=true:=by simp [h2]
 refine dr ?_;apply cP<;>intro h3
 ·refine dr ?_;rw [newC,if_neg h1',if_neg h2',if_pos (by omega)]<;>rfl
 ·refine dr ?_;rw [newC,if_neg h1',if_neg h2',if_neg (by omega)]<;>rfl
def zl0:XC:=(.s (.r [.m1 4 (.i 0)]) (.s (.r [.mv 8 0,.mv 9 1,.c1 10 187 [8,9],.mv 5 10]) (.s (.r [.mv 12 0,.mv 13 1,.c1 14 156 [12,13],.mv 11 14,.e1 15 11 0,.e1 16 11 1,.ex 6 (.alloc zE),.s1 3 6 15,.mv 7 16]) (.s (.s (.r [.mv 17 5,.b1 18 .eql 17 (.i 4),.mv 19 18,.g1 20 1 6 19,.g2 21 1 20 19,.p2 22 19 21]) (.cnd 22 (.s (.r [.m1 4 (.i 5)]) .ret) .skip)) (.s (.s (.r [.mv 23 5,.b1 24 .eql 23 (.i 4)]) (.cnd 24 (.s (.r [.m1 4 (.i 0)]) .ret) .skip)) (.s (.r [.mv 25 5,.mv 4 25]) .ret))))))
theorem zl1:zc Tryz.prog [] 188=some (zl0.ac,[(.t 4)],26):=by kernel_rfl
theorem zpk (W0:World) (t:List Ent) (p:Str):Fn Tryz.prog W0 188 [za t,CS p] (.c (CI (putC t p))) []:=by
 refine fX mixed zl1 fun hg=>?_
 have hc:=yJ W0 t p;rw [qM] at hc;refine dEr ?_;repeat ((first|refine c0 (zel W0 _ _) rfl ?_|refine c0 hc rfl ?_); first|refine dEr ?_|exact dz)
 apply cP<;>intro h1
 ·refine dr ?_;apply cP<;>intro h2
  ·refine dr ?_;rw [putC,if_pos h1,if_pos h2]<;>rfl
  ·refine dr ?_;apply cP<;>intro h3
   ·refine dr ?_;rw [putC,if_pos h1,if_neg (by simp [h2])]<;>rfl
   ·exact absurd h1 h3
 ·refine dr ?_;apply cP<;>intro h3
  ·exact absurd h3 h1
  ·refine dr ?_;rw [putC,if_neg h1]
def zlU:XC:=(.s (.r [.x1 3 1,.m1 4 (.i 0)]) (.s (.r [.mv 8 0,.f1 9 1 3,.l1 10 1 9,.c1 11 156 [8,10],.mv 7 11,.e1 12 7 0,.e1 13 7 1,.ex 5 (.alloc zE),.s1 3 5 12,.mv 6 13]) (.s (.blk 0 (.s (.r [.mv 15 6,.u1 16 15,.mv 14 16]) (.cnd 14 (.s (.r [.m1 4 (.i 2)]) .ret) (.s (.r [.f1 18 0 3,.l1 19 1 18,.b1 20 .eql 19 (.i 3),.mv 21 20,.g1 22 1 5 21,.g2 23 1 22 21,.p2 24 21 23,.mv 17 24]) (.cnd 17 (.s (.r [.m1 4 (.i 5)]) .ret) (.s (.r [.f1 26 0 3,.l1 27 1 26,.b1 28 .eql 27 (.i 4),.mv 29 28,.g1 30 1 5 29,.g2 31 1 30 29,.gt 32 (.un .not 31) 29,.p2 33 29 32,.mv 25 33]) (.cnd 25 (.s (.r [.m1 4 (.i 3)]) .ret) (.s (.r [.mv 35 0,.f1 36 1 3,.l1 37 1 36,.c1 38 224 [35,37],.n1 39 38,.b1 40 .gtr 39 (.i 0),.mv 34 40]) (.cnd 34 (.s (.r [.m1 4 (.i 6)]) .ret) .skip))))))))) (.s (.r [.m1 4 (.i 0)]) .ret))))
theorem zlV:zc Tryz.prog [] 190=some (zlU.ac,[(.t 4)],41):=by kernel_rfl
theorem zpj (W0:World) (t:List Ent) (op:Op) (ht:t.length≤1000000):Fn Tryz.prog W0 190 [za t,eOp op] (.c (CI (offC t op))) []:=by
 refine fX mixed zlV fun hg=>?_
 have hc:=yJ W0 t op.path;cases hx:get t op.path with
 | none =>
  rw [hx] at hc;refine dEr ?_;repeat (refine c0 hc rfl ?_; first|refine dEr ?_|exact dz)
  rw [offC,hx]<;>rfl
 | some e =>
  rw [hx] at hc;have e0:offC t op=if op.kind=3∧e.dir=true then 5 else if op.kind=4∧e.dir=false then 3 else if 0 < (kids t op.path).length then 6 else 0:=by rw [offC,hx]
  rw [e0];have rest:∀ {A:Prop},A→A:=fun a=>a
  refine dEr ?_;repeat (refine c0 hc rfl ?_; first|refine dEr ?_|exact dz)
  apply cP<;>intro h1
  ·refine dr ?_;apply cP<;>intro h2
   ·refine dr ?_;rw [if_pos ⟨h1,h2⟩]<;>rfl
   ·have n1:¬ (op.kind=3∧e.dir=true):=by simp [h2]
    have n2:¬ (op.kind=4∧e.dir=false):=by omega
    rw [if_neg n1,if_neg n2];refine dr ?_;apply cP<;>intro h3
    ·omega
    ·refine dEr ?_;repeat (refine c0 (zbN W0 _ _ ht) rfl ?_; first|refine dEr ?_|exact dz)
     apply cP<;>intro h4
     ·refine dr ?_;rw [if_pos (by omega)]<;>rfl
     ·refine dr ?_;rw [if_neg (by omega)]<;>rfl
  ·have n1:¬ (op.kind=3∧e.dir=true):=fun h=>h1 h.1
   rw [if_neg n1];refine dr ?_;apply cP<;>intro h3
   ·refine dr ?_;apply cP<;>intro h2
    ·refine dr ?_;rw [if_pos ⟨h3,by simpa using h2⟩]<;>rfl
    ·rw [if_neg (fun h=>by rw [h.2] at h2; simp at h2)];refine dEr ?_;repeat (refine c0 (zbN W0 _ _ ht) rfl ?_; first|refine dEr ?_|exact dz)
     apply cP<;>intro h4
     ·refine dr ?_;rw [if_pos (by omega)]<;>rfl
     ·refine dr ?_;rw [if_neg (by omega)]<;>rfl
   ·rw [if_neg (fun h=>h3 h.1)];refine dEr ?_;repeat (refine c0 (zbN W0 _ _ ht) rfl ?_; first|refine dEr ?_|exact dz)
    apply cP<;>intro h4
    ·refine dr ?_;rw [if_pos (by omega)]<;>rfl
    ·refine dr ?_;rw [if_neg (by omega)]<;>rfl
def zlO:XC:=(.s (.r [.x1 3 1,.m1 4 (.i 0)]) (.s (.r [.mv 14 0,.f1 15 1 3,.l1 16 1 15,.c1 17 156 [14,16],.mv 13 17,.e1 18 13 0,.e1 19 13 1,.ex 5 (.alloc zE),.s1 3 5 18,.mv 6 19]) (.s (.r [.mv 20 0,.f1 21 2 3,.l1 22 1 21,.c1 23 222 [20,22],.mv 7 23]) (.s (.r [.mv 25 0,.f1 26 2 3,.l1 27 1 26,.c1 28 156 [25,27],.mv 24 28,.e1 29 24 0,.e1 30 24 1,.ex 8 (.alloc zE),.s1 3 8 29,.mv 9 30]) (.s (.blk 0 (.s (.r [.mv 32 6,.u1 33 32,.mv 31 33]) (.cnd 31 (.s (.r [.m1 4 (.i 2)]) .ret) (.s (.r [.mv 35 7,.b1 36 .neq 35 (.i 0),.mv 34 36]) (.cnd 34 (.s (.r [.mv 37 7,.mv 4 37]) .ret) (.s (.r [.mv 39 9,.mv 38 39]) (.cnd 38 (.s (.r [.m1 4 (.i 4)]) .ret) (.s (.r [.f1 41 2 3,.l1 42 1 41,.f1 43 1 3,.l1 44 1 43,.c1 45 221 [42,44],.mv 40 45]) (.cnd 40 (.s (.r [.m1 4 (.i 7)]) .ret) .skip))))))))) (.s (.s (.r [.m1 10 (.i 0)]) (.blk 1 (.loop (.s (.s (.r [.mv 46 10,.mv 47 0,.n1 48 47,.b1 49 .lss 46 48]) (.ce 49 1)) (.s (.blk 2 (.s (.d [.mv 53 0,.mv 54 10,.i1 55 3 53 54,.f1 56 0 55,.l1 57 1 56,.f1 58 1 3,.l1 59 1 58,.f1 60 2 3,.l1 61 1 60,.c1 62 223 [57,59,61],.mv 52 62,.e1 63 52 0,.e1 64 52 1,.mv 11 63,.mv 12 64]) (.s (.r [.mv 65 12,.u1 66 65]) (.cnd 66 (.s (.r [.m1 4 (.i 8)]) .ret) .skip)))) (.ic 50 51 10)))))) (.s (.r [.m1 4 (.i 0)]) .ret)))))))
theorem zlP:zc Tryz.prog [] 189=some (zlO.ac,[(.t 4)],67):=by kernel_rfl
theorem zph (W0:World) (t:List Ent) (op:Op) (ht:t.length≤1000000):Fn Tryz.prog W0 189 [za t,eOp op] (.c (CI (movC t op))) []:=by
 refine fX mixed zlP fun hg=>?_
 have hc:=yJ W0 t op.path;rw [qM] at hc;have hc2:=yJ W0 t op.dest;rw [qM] at hc2;refine dEr ?_;repeat ((first|refine c0 hc rfl ?_|refine c0 hc2 rfl ?_|refine c0 (zen W0 _ _) rfl ?_); first|refine dEr ?_|exact dz)
 apply cP<;>intro h1;rotate_left
 ·have h1':(get t op.path).isSome=true:=by simpa using h1
  refine dr ?_;apply cP<;>intro h2
  ·refine dr ?_;rw [movC,if_neg (by simp [h1']),if_pos h2]
  have h2':¬ upC t op.dest≠0:=fun h=>h h2
  refine dr ?_;apply cP<;>intro h3
  ·refine dr ?_;rw [movC,if_neg (by simp [h1']),if_neg h2',if_pos h3]<;>rfl
  refine dEr ?_;repeat (refine c0 (zab W0 _ _) rfl ?_; first|refine dEr ?_|exact dz)
  apply cP<;>intro h4
  ·refine dr ?_;rw [movC,if_neg (by simp [h1']),if_neg h2',if_neg (by simp [h3]),if_pos h4]<;>rfl
  have e:movC t op=if t.all (fun e=>(jw e.path op.path op.dest).isSome)=true then 0 else 8:=by rw [movC,if_neg (by simp [h1']),if_neg h2',if_neg (by simp [h3]),if_neg (by simp [h4])]
  rw [e];refine dr ?_;refine lp (σ:=Nat) (fun k=>[(0,.c (za t)),(3,.ptr 48 0),(10,I k)]) (fun _=>[(48,.box [.c (CI op.kind),.c (CS op.path),.c (CS op.dest),.c (CS op.data)])]) (fun k=>k≤t.length∧(t.take k).all (fun e=>(jw e.path op.path op.dest).isSome)=true) (fun k=>t.length - k) 0 ⟨by simp,by simp⟩ ?_ ?_
  ·refine dr ?_;trivial
  rintro k ⟨hk,ha⟩;refine dr ?_;apply cP<;>intro h5
  ·have hk':k < t.length:=by omega
   have hp:=zeA W0 t[k].path op.path op.dest;rw [Y1] at hp;refine dEr ?_;repeat (refine c0 hp rfl ?_; first|refine dEr ?_|exact dz)
   apply cP<;>intro h6
   ·refine dr ?_;rw [if_neg (by rw [Jj hk' (by simpa using h6)]; simp)]<;>rfl
   ·refine dr ?_;refine ⟨k+1,⟨by omega,yh hk' ha (by simpa using h6)⟩,by omega,?_⟩;refine dr ?_;trivial
  ·have hkl:k=t.length:=by omega
   rw [hkl,List.take_length] at ha;refine dr ?_;rw [if_pos ha]<;>rfl
 ·refine dr ?_;rw [movC,if_pos (by simpa using h1)]<;>rfl
def zlz:XC:=(.s (.r [.x1 3 1,.m1 4 (.i 0)]) (.s (.s (.r [.f1 5 0 3,.l1 6 1 5]) (.blk 0 (.s (.r [.b1 8 .eql 6 (.i 1),.mv 7 8]) (.cnd 7 (.s (.r [.mv 9 0,.f1 10 1 3,.l1 11 1 10,.c1 12 187 [9,11],.mv 4 12]) .ret) (.s (.r [.b1 14 .eql 6 (.i 2),.mv 13 14]) (.cnd 13 (.s (.r [.mv 15 0,.f1 16 1 3,.l1 17 1 16,.c1 18 188 [15,17],.mv 4 18]) .ret) (.s (.r [.b1 20 .eql 6 (.i 5),.mv 19 20]) (.cnd 19 (.s (.r [.mv 21 0,.l2 22 4 3,.c1 23 189 [21,22],.mv 4 23]) .ret) .skip)))))))) (.s (.r [.mv 24 0,.l2 25 4 3,.c1 26 190 [24,25],.mv 4 26]) .ret)))
theorem zlA:zc Tryz.prog [] 154=some (zlz.ac,[(.t 4)],27):=by kernel_rfl
theorem zpe (W0:World) (t:List Ent) (op:Op) (ht:t.length≤1000000):Fn Tryz.prog W0 154 [za t,eOp op] (.c (CI (jO t op))) []:=by
 refine fX mixed zlA fun hg=>?_
 refine dr ?_;apply cP<;>intro h1
 ·refine dEr ?_;repeat (refine c0 (zel W0 _ _) rfl ?_; first|refine dEr ?_|exact dz)
  rw [jO,if_pos h1]
 refine dr ?_;apply cP<;>intro h2
 ·refine dEr ?_;repeat (refine c0 (zpk W0 _ _) rfl ?_; first|refine dEr ?_|exact dz)
  rw [jO,if_neg h1,if_pos h2]
 refine dr ?_;apply cP<;>intro h3
 ·refine dEr ?_;repeat (refine c0 (zph W0 _ op ht) rfl ?_; first|refine dEr ?_|exact dz)
  rw [jO,if_neg h1,if_neg h2,if_pos h3]
 refine dEr ?_;repeat (refine c0 (zpj W0 _ op ht) rfl ?_; first|refine dEr ?_|exact dz)
 rw [jO,if_neg h1,if_neg h2,if_neg h3]
end Go.Proofs.YtopfccpgdldcdaaGreatDoor

namespace Go.Proofs.YtopfccpgdldcdaaGreatDoor
set_option linter.unusedSimpArgs false
set_option linter.unusedVariables false
open Go Go.RowKit
def zlT:XC:=(.s (.r [.a2 4 3 46]) (.s (.r [.ex 7 .bsl0,.a1 5 7 3 46]) (.s (.s (.r [.m1 6 (.i 0)]) (.blk 0 (.loop (.s (.s (.r [.mv 8 6,.mv 9 0,.n1 10 9,.b1 11 .lss 8 10]) (.ce 11 0)) (.s (.blk 1 (.s (.r [.mv 14 0,.mv 15 6,.i1 16 3 14 15,.f1 17 0 16,.l1 18 1 17,.mv 19 1,.b1 20 .neq 18 19]) (.cnd 20 (.r [.mv 21 5,.mv 22 0,.mv 23 6,.i1 24 3 22 23,.l2 25 3 24,.ex 26 (.bsl 3 46 [25]),.ex 27 (.app false 3 40 46 21 26),.a1 5 27 3 46]) .skip))) (.ic 12 13 6)))))) (.s (.r [.mv 28 5,.a1 4 28 3 46]) .ret))))
theorem zlW:zc Tryz.prog [] 192=some (zlT.ac,[(.t 4)],29):=by kernel_rfl
theorem zpi (W0:World) (t:List Ent) (p:Str) (ht:t.length≤1000000):Fn Tryz.prog W0 192 [za t,CS p] (.c (za (offT t p))) []:=by
 refine fX mixed zlW fun hg=>?_
 refine dr ?_;refine lp2 (fun (k:Nat) (out:List Ent)=>[(0,.c (za t)),(1,.c (CS p)),(5,.own 80 out.length),(6,I k)]) (fun _ out=>[(80,.row (out.map eEnt) 3 46)]) (fun k out=>k≤t.length∧out=(t.take k).filter (fun e=>e.path != p)∧out.length≤k) (fun k _=>t.length - k) 0 [] ⟨by simp,rfl,by simp⟩ ?_ ?_
 ·refine dr ?_;trivial
 rintro k out ⟨hk,ho,hle⟩;refine dr ?_;apply cP<;>intro h1
 ·have hk':k < t.length:=by omega
  refine dr ?_;apply cP<;>intro h2
  ·refine dr ?_;repeat ((first|refine oB (by simp; omega) ?_|refine oB (by simp) ?_); first|refine dr ?_|exact dz)
   refine ⟨k+1,out++[t[k]],⟨by omega,by rw [qx hk' (by simp [h2]),ho],by simp; omega⟩,by omega,?_⟩;refine dr ?_;repeat (refine oB (by simp<;>rfl) ?_; first|refine dr ?_|exact dz)
   trivial
  ·refine dr ?_;refine ⟨k+1,out,⟨by omega,by rw [qe hk' (by simp [h2]),ho],by omega⟩,by omega,?_⟩;refine dr ?_;trivial
 have hkl:k=t.length:=by omega
 rw [hkl,List.take_length] at ho;refine dr ?_;repeat (refine oB (by simp) ?_; first|refine dr ?_|exact dz)
 rw [offT,← ho]<;>rfl
def zlN:XC:=(.s (.r [.a2 6 3 46]) (.s (.r [.ex 10 .bsl0,.a1 7 10 3 46]) (.s (.s (.r [.m1 8 (.i 0)]) (.blk 0 (.loop (.s (.s (.r [.mv 11 8,.mv 12 0,.n1 13 12,.b1 14 .lss 11 13]) (.ce 14 0)) (.s (.blk 1 (.s (.r [.mv 17 0,.mv 18 8,.i1 19 3 17 18,.l2 20 3 19,.ex 9 (.alloc zE),.s1 3 9 20]) (.s (.r [.f1 22 0 9,.l1 23 1 22,.mv 24 1,.mv 25 2,.c1 26 223 [23,24,25],.mv 21 26,.e1 27 21 0,.e1 28 21 1,.f1 29 0 9,.s1 1 29 27]) (.r [.mv 30 7,.l2 31 3 9,.c1 32 185 [30,31],.a1 7 32 3 46])))) (.ic 15 16 8)))))) (.s (.r [.mv 33 7,.a1 6 33 3 46]) .ret))))
theorem zlQ:zc Tryz.prog [] 191=some (zlN.ac,[(.t 6)],34):=by kernel_rfl
theorem zpg (W0:World) (t:List Ent) (f tq:Str) (ht:t.length≤1000000):Fn Tryz.prog W0 191 [za t,CS f,CS tq] (.c (za (movT t f tq))) []:=by
 refine fX mixed zlQ fun hg=>?_
 refine dr ?_;refine lz2 112 (fun (k:Nat) (out:List Ent)=>[(0,.c (za t)),(1,.c (CS f)),(2,.c (CS tq)),(7,.c (za out)),(8,I k)]) (fun _ _=>[]) (fun k out=>k≤t.length∧out=(t.take k).foldl (fun out e=>put out (jl f tq e)) []∧out.length≤k) (fun k _=>t.length - k) 0 [] ⟨by simp,rfl,by simp⟩ ?_ ?_
 ·refine dr ?_;trivial
 rintro k out ⟨hk,ho,hle⟩;refine dr ?_;apply cP<;>intro h1
 ·have hk':k < t.length:=by omega
  have hn:(t.take (k+1)).foldl (fun out e=>put out (jl f tq e)) []=put out (jl f tq t[k]):=by rw [qX hk',← ho]
  have hpl:(put out (jl f tq t[k])).length≤out.length+1:=qQ;have hp:=zeA W0 t[k].path f tq;rw [Y1] at hp;refine dEr ?_;repeat ((first|refine c0 hp rfl ?_|refine c0 (Jt W0 _ (jl f tq t[k]) (by omega)) rfl ?_); first|refine dEr ?_|exact dz)
  refine ⟨k+1,_,⟨by omega,hn.symm,by omega⟩,by omega,?_⟩;refine dr ?_;trivial
 have hkl:k=t.length:=by omega
 rw [hkl,List.take_length] at ho;refine dr ?_;rw [movT,← ho]
def zlF:XC:=(.s (.r [.x1 3 1,.a2 4 3 46]) (.s (.s (.r [.f1 5 0 3,.l1 6 1 5]) (.blk 0 (.s (.r [.b1 8 .eql 6 (.i 1),.mv 7 8]) (.cnd 7 (.s (.r [.mv 9 0,.f1 10 1 3,.l1 11 1 10,.ex 12 (.build zE [(0,(1,11)),(1,(1,.y))]),.c1 13 185 [9,12],.a1 4 13 3 46]) .ret) (.s (.r [.b1 15 .eql 6 (.i 2),.mv 14 15]) (.cnd 14 (.s (.r [.mv 16 0,.f1 17 1 3,.l1 18 1 17,.f1 19 3 3,.l1 20 1 19,.ex 21 (.build zE [(0,(1,18)),(2,(1,20))]),.c1 22 185 [16,21],.a1 4 22 3 46]) .ret) (.s (.r [.b1 24 .eql 6 (.i 5),.mv 23 24]) (.cnd 23 (.s (.r [.mv 25 0,.f1 26 1 3,.l1 27 1 26,.f1 28 2 3,.l1 29 1 28,.c1 30 191 [25,27,29],.a1 4 30 3 46]) .ret) .skip)))))))) (.s (.r [.mv 31 0,.f1 32 1 3,.l1 33 1 32,.c1 34 192 [31,33],.a1 4 34 3 46]) .ret)))
theorem zlG:zc Tryz.prog [] 155=some (zlF.ac,[(.t 4)],35):=by kernel_rfl
theorem zpf (W0:World) (t:List Ent) (op:Op) (ht:t.length≤100000):Fn Tryz.prog W0 155 [za t,eOp op] (.c (za (doT t op))) []:=by
 refine fX mixed zlG fun hg=>?_
 refine dr ?_;apply cP<;>intro h1
 ·refine dEr ?_;repeat (refine c0 (Jt W0 _ ⟨op.path,true,[]⟩ (by omega)) rfl ?_; first|refine dEr ?_|exact dz)
  rw [doT,if_pos h1]
 refine dr ?_;apply cP<;>intro h2
 ·refine dEr ?_;repeat (refine c0 (Jt W0 _ ⟨op.path,false,op.data⟩ (by omega)) rfl ?_; first|refine dEr ?_|exact dz)
  rw [doT,if_neg h1,if_pos h2]
 refine dr ?_;apply cP<;>intro h3
 ·refine dEr ?_;repeat (refine c0 (zpg W0 _ _ _ (by omega)) rfl ?_; first|refine dEr ?_|exact dz)
  rw [doT,if_neg h1,if_neg h2,if_pos h3]
 refine dEr ?_;repeat (refine c0 (zpi W0 _ _ (by omega)) rfl ?_; first|refine dEr ?_|exact dz)
 rw [doT,if_neg h1,if_neg h2,if_neg h3]
def zk7:XC:=(.s (.r [.x1 3 1,.a2 4 3 46,.m1 5 (.i 0)]) (.s (.s (.r [.mv 7 0,.c1 8 147 [7],.u1 9 8]) (.cnd 9 (.s (.r [.ex 10 .bsl0,.a1 4 10 3 46,.m1 5 (.i 1)]) .ret) .skip)) (.s (.s (.r [.l2 11 4 3,.c1 12 153 [11],.u1 13 12]) (.cnd 13 (.s (.r [.ex 14 .bsl0,.mv 15 0,.ex 16 (.app true 3 40 46 14 15),.a1 4 16 3 46,.m1 5 (.i 1)]) .ret) .skip)) (.s (.r [.mv 17 0,.l2 18 4 3,.c1 19 154 [17,18],.mv 6 19]) (.s (.s (.r [.mv 20 6,.b1 21 .neq 20 (.i 0)]) (.cnd 21 (.s (.r [.ex 22 .bsl0,.mv 23 0,.ex 24 (.app true 3 40 46 22 23),.mv 25 6,.a1 4 24 3 46,.mv 5 25]) .ret) .skip)) (.s (.r [.mv 26 0,.l2 27 4 3,.c1 28 155 [26,27],.mv 29 6,.a1 4 28 3 46,.mv 5 29]) .ret))))))
theorem zk8:zc Tryz.prog [] 99=some (zk7.ac,[(.t 4),(.t 5)],30):=by kernel_rfl
theorem Jv (W0:World) (t:List Ent) (op:Op):Fn Tryz.prog W0 99 [za t,eOp op] (.c (eTD (zx t op))) []:=by
 refine fX mixed zk8 fun hg=>?_
 refine dEr ?_;repeat (refine c0 (zbT W0 _) rfl ?_; first|refine dEr ?_|exact dz)
 apply cP<;>intro h1
 ·refine dr ?_;repeat (refine oB (by simp) ?_; first|refine dr ?_|exact dz)
  rw [zx,if_neg (by simp [h1])]<;>rfl
 have hl:=(yu h1).1;rw [zx,if_pos h1];refine dEr ?_;repeat (refine c0 (zqb W0 op) rfl ?_; first|refine dEr ?_|exact dz)
 apply cP<;>intro h2
 ·refine dr ?_;repeat ((first|refine oB (by simp; omega) ?_|refine oB (by simp) ?_); first|refine dr ?_|exact dz)
  rw [if_neg (by simp [h2])]<;>rfl
 rw [if_pos h2];refine dEr ?_;repeat (refine c0 (zpe W0 t op (by omega)) rfl ?_; first|refine dEr ?_|exact dz)
 apply cP<;>intro h3
 ·refine dr ?_;repeat ((first|refine oB (by simp; omega) ?_|refine oB (by simp) ?_); first|refine dr ?_|exact dz)
  rw [if_neg h3]<;>rfl
 ·refine dEr ?_;repeat (refine c0 (zpf W0 t op (by omega)) rfl ?_; first|refine dEr ?_|exact dz)
  rw [if_pos h3,h3]<;>rfl
end Go.Proofs.YtopfccpgdldcdaaGreatDoor

namespace Go.Proofs.YtopfccpgdldcdaaGreatDoor
set_option linter.unusedSimpArgs false
set_option linter.unusedVariables false
open Go Go.RowKit
def zmh:XC:=(.s (.r [.m1 4 (.i 0)]) (.s (.s (.r [.m1 5 (.i 0)]) (.blk 0 (.loop (.s (.s (.r [.mv 6 5,.mv 7 0,.n1 8 7,.b1 9 .lss 6 8]) (.ce 9 0)) (.s (.blk 1 (.s (.r [.mv 12 0,.mv 13 5,.i1 14 3 12 13,.f1 15 0 14,.l1 16 1 15,.mv 17 1,.b1 18 .eql 16 17]) (.cnd 18 (.s (.r [.mv 19 5,.mv 4 19]) .ret) .skip))) (.ic 10 11 5)))))) (.s (.r [.ex 4 (.mv (.k (.c (.sc (.int .i64 (.negSucc 0))))))]) .ret)))
theorem zmi:zc Tryz.prog [] 238=some (zmh.ac,[(.t 4)],20):=by kernel_rfl
theorem zpn (W0:World) (t:List Mark) (p:Str):Fn Tryz.prog W0 238 [ze t,CS p] (.c (CI (midx t p))) []:=by
 refine fX mixed zmi fun hg=>?_
 have g1:=jc (hg _ (by simp:ze t∈_));refine dr ?_;refine lp (σ:=Nat) (fun k=>[(0,.c (ze t)),(1,.c (CS p)),(5,I k)]) (fun _=>[]) (fun k=>k≤t.length∧∀ i (h':i < t.length),i < k→t[i].path≠p) (fun k=>t.length - k) 0 ⟨by simp,by simp⟩ ?_ ?_
 ·refine dr ?_;trivial
 rintro k ⟨hk,ha⟩;refine dr ?_;apply cP<;>intro h1
 ·refine dr ?_;apply cP<;>intro h2
  ·refine dr ?_;rw [zrr (by omega) h2 ha]
  ·refine dr ?_;refine ⟨k+1,⟨by omega,fun i h' hi=>?_⟩,by omega,?_⟩
   ·by_cases e:i=k
    ·subst e; exact h2
    ·exact ha i h' (by omega)
   ·refine dr ?_;trivial
 ·refine dr ?_;rw [zrs fun i h'=>ha i h' (by omega)]; rfl
def zmp:XC:=(.s (.r [.m1 4 (.i 0)]) (.s (.r [.mv 6 0,.mv 7 1,.c1 8 238 [6,7],.mv 5 8]) (.s (.s (.r [.mv 9 5,.b1 10 .lss 9 (.i 0)]) (.cnd 10 (.s (.r [.m1 4 (.i 0)]) .ret) .skip)) (.s (.r [.mv 11 0,.mv 12 5,.i1 13 3 11 12,.f1 14 1 13,.l1 15 1 14,.mv 4 15]) .ret))))
theorem zmq:zc Tryz.prog [] 217=some (zmp.ac,[(.t 4)],16):=by kernel_rfl
theorem zad (W0:World) (t:List Mark) (p:Str):Fn Tryz.prog W0 217 [ze t,CS p] (.c (CI (kind t p))) []:=by
 refine fX mixed zmq fun hg=>?_
 refine dr ?_;repeat (refine c0 (zpn W0 t p) rfl ?_; first|refine dr ?_|exact dz)
 intro hg1;rcases zct t p with ⟨e1,e2,_⟩ | ⟨j,hj,e1,e2,_⟩
 ·rw [kind,e1,e2];refine dr ?_;apply cP<;>intro h2
  ·exact dz
  ·omega
 ·rw [kind,e1,e2];refine dr ?_;apply cP<;>intro h2
  ·omega
  ·exact dz
def zmb:XC:=(.s (.r [.m1 4 .n]) (.s (.s (.r [.m1 5 (.i 0)]) (.blk 0 (.loop (.s (.s (.r [.mv 6 5,.mv 7 0,.n1 8 7,.b1 9 .lss 6 8]) (.ce 9 0)) (.s (.blk 1 (.s (.r [.mv 12 0,.mv 13 5,.i1 14 3 12 13,.f1 15 1 14,.l1 16 1 15,.b1 17 .eql 16 (.i 4),.mv 18 17,.g3 19 1 18,.g3 20 0 18,.g3 21 5 18,.gt 22 (.ia 3 20 21) 18,.g1 23 0 22 18,.g2 24 1 23 18,.gt 25 (.call 221 [19,24]) 18,.p2 26 18 25]) (.cnd 26 (.rt 4) .skip))) (.ic 10 11 5)))))) (.rf 4)))
theorem zmc:zc Tryz.prog [] 183=some (zmb.ac,[(.t 4)],27):=by kernel_rfl
theorem Q6 (W0:World) (t:List Mark) (p:Str):Fn Tryz.prog W0 183 [ze t,CS p] (.c (CB (je t p))) []:=by
 refine fX mixed zmc fun hg=>?_
 have g1:=jc (hg _ (by simp:ze t∈_));refine dr ?_;refine lp (σ:=Nat) (fun k=>[(0,.c (ze t)),(1,.c (CS p)),(5,I k)]) (fun _=>[]) (fun k=>k≤t.length∧je (t.take k) p=false) (fun k=>t.length - k) 0 ⟨by simp,by simp [je]⟩ ?_ ?_
 ·refine dr ?_;trivial
 rintro k ⟨hk,ha⟩;refine dr ?_;apply cP<;>intro h1
 ·have hk':k < t.length:=by omega
  have no:(t[k].kind==4&&und p t[k].path)=false→je (t.take (k+1)) p=false:=fun h=>by
   rw [je] at ha ⊢;rw [List.take_succ_eq_append_getElem hk',List.any_append,ha]; simpa using h
  have yes:(t[k].kind==4&&und p t[k].path)=true→CB true=CB (je t p):=fun h=>bT (by
   rw [je,List.any_eq_true]; exact ⟨t[k],List.getElem_mem hk',h⟩)
  refine dr ?_;apply cP<;>intro h2
  ·refine dEr ?_;repeat (refine c0 (zab W0 _ _) rfl ?_; first|refine dEr ?_|exact dz)
   apply cP<;>intro h3
   ·refine dr ?_;exact yes (by simp [h2,h3])
   ·refine dr ?_;refine ⟨k+1,⟨by omega,no (by simp [h3])⟩,by omega,?_⟩;refine dr ?_;trivial
  ·refine dr ?_;refine ⟨k+1,⟨by omega,no (by simp [h2])⟩,by omega,?_⟩;refine dr ?_;trivial
 ·refine dr ?_;have:k=t.length:=by omega
  subst this;rw [List.take_length] at ha;rw [ha]
def zml:XC:=(.s (.r [.m1 4 .n]) (.s (.r [.mv 7 1,.c1 8 180 [7],.mv 5 8]) (.s (.r [.mv 9 0,.mv 10 5,.c1 11 217 [9,10],.mv 6 11]) (.s (.r [.mv 12 5,.ex 13 (.bin .eql 12 (.s [47])),.mv 14 13,.h3 15 6 14,.gf 16 (.bin .eql 15 (.i 2)) 14,.p1 17 14 16,.mv 18 17,.h3 19 6 18,.gf 20 (.bin .eql 19 (.i 4)) 18,.p1 21 18 20,.mv 4 21]) .ret))))
theorem zmm:zc Tryz.prog [] 182=some (zml.ac,[(.t 4)],22):=by kernel_rfl
theorem zac (W0:World) (t:List Mark) (p:Str):Fn Tryz.prog W0 182 [ze t,CS p] (.c (CB (inD t p))) []:=by
 refine fX mixed zmm fun hg=>?_
 refine dr ?_;repeat (refine c0 (Zb W0 _) rfl ?_; first|refine dr ?_|exact dz)
 intro hg1;refine dr ?_;repeat (refine c0 (zad W0 _ _) rfl ?_; first|refine dr ?_|exact dz)
 intro hg1;refine dr ?_;apply cP<;>intro h1
 ·refine dr ?_;exact bT (by simp [inD,h1])
 ·refine dr ?_;apply cP<;>intro h2
  ·refine dr ?_;exact bT (by simp [inD,h2])
  ·refine dr ?_;refine congrArg CB ?_;rw [Bool.eq_iff_iff]; simp [inD,h1,h2,y4]
def zmj:XC:=(.s (.r [.m1 4 .n]) (.s (.s (.r [.m1 5 (.i 0)]) (.blk 0 (.loop (.s (.s (.r [.mv 6 5,.mv 7 0,.n1 8 7,.b1 9 .lss 6 8]) (.ce 9 0)) (.s (.blk 1 (.s (.r [.mv 12 0,.mv 13 5,.i1 14 3 12 13,.f1 15 0 14,.l1 16 1 15,.mv 17 1,.b1 18 .eql 16 17,.mv 19 18,.g3 20 0 19,.g3 21 5 19,.gt 22 (.ia 3 20 21) 19,.g1 23 1 22 19,.g2 24 1 23 19,.gt 25 (.bin .neq 24 (.i 2)) 19,.p2 26 19 25,.mv 27 26,.h3 28 0 27,.h3 29 5 27,.gf 30 (.ia 3 28 29) 27,.h1 31 1 30 27,.h2 32 1 31 27,.gf 33 (.bin .neq 32 (.i 2)) 27,.h3 34 33 27,.g3 35 1 34,.g3 36 0 34,.g3 37 5 34,.gt 38 (.ia 3 36 37) 34,.g1 39 0 38 34,.g2 40 1 39 34,.gt 41 (.call 221 [35,40]) 34,.gf 42 (.pick 34 41 .n) 27,.p1 43 27 42]) (.cnd 43 (.rt 4) .skip))) (.ic 10 11 5)))))) (.rf 4)))
theorem zmk:zc Tryz.prog [] 184=some (zmj.ac,[(.t 4)],44):=by kernel_rfl
theorem zep (W0:World) (t:List Mark) (p:Str):Fn Tryz.prog W0 184 [ze t,CS p] (.c (CB (zJ t p))) []:=by
 refine fX mixed zmk fun hg=>?_
 have g1:=jc (hg _ (by simp:ze t∈_));refine dr ?_;refine lp (σ:=Nat) (fun k=>[(0,.c (ze t)),(1,.c (CS p)),(5,I k)]) (fun _=>[]) (fun k=>k≤t.length∧zJ (t.take k) p=false) (fun k=>t.length - k) 0 ⟨by simp,by simp [zJ]⟩ ?_ ?_
 ·refine dr ?_;trivial
 rintro k ⟨hk,ha⟩;refine dr ?_;apply cP<;>intro h1
 ·have hk':k < t.length:=by omega
  have no:hidP p t[k]=false→zJ (t.take (k+1)) p=false:=fun h=>by
   rw [zJ] at ha ⊢;rw [List.take_succ_eq_append_getElem hk',List.any_append,ha]; simpa using h
  have yes:hidP p t[k]=true→CB true=CB (zJ t p):=fun h=>bT (by
   rw [zJ,List.any_eq_true]; exact ⟨t[k],List.getElem_mem hk',h⟩)
  refine dr ?_;have nx:hidP p t[k]=false→∃ x',(x'≤t.length∧zJ (t.take x') p=false)∧x'=k+1:=fun h=>⟨k+1,⟨by omega,no h⟩,rfl⟩
  apply cP<;>intro h2
  ·refine dr ?_;apply cP<;>intro h3
   ·refine dr ?_;exact yes (by simp [hidP,h2,h3])
   ·refine dr ?_;apply cP<;>intro h4
    ·omega
    ·refine dr ?_;refine ⟨k+1,⟨by omega,no (by simp [hidP,h3])⟩,by omega,?_⟩;refine dr ?_;trivial
  ·refine dr ?_;apply cP<;>intro h3
   ·refine dEr ?_;repeat (refine c0 (zab W0 _ _) rfl ?_; first|refine dEr ?_|exact dz)
    apply cP<;>intro h5
    ·refine dr ?_;exact yes (by simp [hidP,h3,h5])
    ·refine dr ?_;refine ⟨k+1,⟨by omega,no (by simp [hidP,h2,h5])⟩,by omega,?_⟩;refine dr ?_;trivial
   ·refine dr ?_;refine ⟨k+1,⟨by omega,no (by simp [hidP,h3])⟩,by omega,?_⟩;refine dr ?_;trivial
 ·refine dr ?_;have:k=t.length:=by omega
  subst this;rw [List.take_length] at ha;rw [ha]
def zkH:XC:=(.s (.r [.m1 2 .n]) (.s (.s (.r [.m1 3 (.i 0)]) (.blk 0 (.loop (.s (.s (.r [.mv 5 3,.mv 6 0,.n1 7 6,.b1 8 .lss 5 7]) (.ce 8 0)) (.s (.blk 1 (.s (.r [.mv 11 0,.mv 12 3,.i1 13 3 11 12,.l2 14 3 13,.ex 4 (.alloc [sE,(I 0),sE]),.s1 3 4 14]) (.s (.s (.r [.f1 15 1 4,.l1 16 1 15,.b1 17 .lss 16 (.i 1),.mv 18 17,.h1 19 1 4 18,.h2 20 1 19 18,.gf 21 (.bin .gtr 20 (.i 4)) 18,.p1 22 18 21,.mv 23 22,.h1 24 0 4 23,.h2 25 1 24 23,.gf 26 (.call 98 [25]) 23,.gf 27 (.un .not 26) 23,.p1 28 23 27,.mv 29 28,.h1 30 2 4 29,.h2 31 1 30 29,.gf 32 (.call 181 [31]) 29,.gf 33 (.un .not 32) 29,.p1 34 29 33,.mv 35 34,.h1 36 1 4 35,.h2 37 1 36 35,.gf 38 (.bin .neq 37 (.i 1)) 35,.h3 39 38 35,.g1 40 2 4 39,.g2 41 1 40 39,.gt 42 (.bin .neq 41 (.s [])) 39,.gf 43 (.pick 39 42 .n) 35,.p1 44 35 43]) (.cnd 44 (.rf 2) .skip)) (.s (.s (.d [.mv 45 3,.b1 46 .gtr 45 (.i 0),.mv 47 46,.g3 48 0 47,.g3 49 3 47,.gt 50 (.bin .sub 49 (.i 1)) 47,.gt 51 (.ia 3 48 50) 47,.g1 52 0 51 47,.g2 53 1 52 47,.g1 54 0 4 47,.g2 55 1 54 47,.gt 56 (.bin .geq 53 55) 47,.p2 57 47 56,.mv 58 57,.h3 59 0 58,.h3 60 3 58,.gf 61 (.slr 3 59 .none (.some 60)) 58,.h1 62 0 4 58,.h2 63 1 62 58,.gf 64 (.call 182 [61,63]) 58,.gf 65 (.un .not 64) 58,.p1 66 58 65]) (.cnd 66 (.rf 2) .skip)) (.s (.d [.f1 67 1 4,.l1 68 1 67,.b1 69 .gtr 68 (.i 2),.mv 70 69,.g3 71 0 70,.g3 72 3 70,.gt 73 (.slr 3 71 .none (.some 72)) 70,.g1 74 0 4 70,.g2 75 1 74 70,.gt 76 (.call 183 [73,75]) 70,.p2 77 70 76]) (.cnd 77 (.rf 2) .skip)))))) (.ic 9 10 3)))))) (.s (.r [.mv 78 0,.n1 79 78,.b1 80 .leq 79 (.i 32),.mv 2 80]) .ret)))
theorem zkI:zc Tryz.prog [] 148=some (zkH.ac,[(.t 2)],81):=by kernel_rfl
theorem Q7 (W0:World) (t:List Mark):Fn Tryz.prog W0 148 [ze t] (.c (CB (lOk t))) []:=by
 refine fX mixed zkI fun hg=>?_
 have g1:=jc (hg _ (by simp:ze t∈_));refine dr ?_;refine lp (σ:=Nat) (fun k=>[(0,.c (ze t)),(3,I k)]) (fun _=>[]) (fun k=>k≤t.length∧∀ j (h:j < t.length),j < k→jv (t.take j) t[j]=true) (fun k=>t.length - k) 0 ⟨by simp,by simp⟩ ?_ ?_
 ·refine dr ?_;trivial
 rintro k ⟨hk,ha⟩;refine dr ?_;apply cP<;>intro h2;rotate_left
 ·refine dr ?_;refine congrArg CB ?_;rw [lOk,zaM.2 fun j h=>ha j h (by omega),Bool.eq_iff_iff]; simp [Yf]; omega
 have hk':k < t.length:=by omega
 have no:jv (t.take k) t[k]=false→CB false=CB (lOk t):=fun h=>bF (by
  rw [lOk,Bool.and_eq_false_iff]; right;rw [Bool.eq_false_iff]; intro e;have:=zaM.1 e k hk';rw [h] at this; cases this)
 refine dr ?_;apply cP<;>intro h3
 ·refine dr ?_;exact no (by simp [jv]; omega)
 refine dr ?_;apply cP<;>intro h4
 ·refine dr ?_;exact no (by simp [jv]; omega)
 have h34:(decide (1≤t[k].kind)&&decide (t[k].kind≤4))=true:=by simp; omega
 refine dr ?_;repeat (refine c0 (qH W0 _) rfl ?_; first|refine dr ?_|exact dz)
 apply cP<;>intro h5
 ·refine dr ?_;exact no (by simp [jv,h5])
 refine dr ?_;repeat (refine c0 (zbM W0 _) rfl ?_; first|refine dr ?_|exact dz)
 apply cP<;>intro h6
 ·refine dr ?_;exact no (by simp [jv,h6])
 refine dr ?_;apply cP<;>intro h70
 ·refine dr ?_;apply cP<;>intro h71
  ·refine dr ?_;exact no (by simp [jv,h70,h71])
  ·have h7:(!(t[k].kind != 1&&t[k].data != []))=true:=by simp [h71]
   clear h71;refine dr ?_;apply cP<;>intro h8
   ·have hl:(t.take k).getLast? = some t[k - 1]:=by
     rw [List.getLast?_take,if_neg (by omega),List.getElem?_eq_getElem (by omega)];rfl
    refine dr ?_;repeat (refine aM (j:=k - 1) (by omega) (by omega) ?_; first|refine dr ?_|exact dz)
    cases hlt:ltS t[k - 1].path t[k].path
    ·refine dr ?_;exact no (by simp [jv,yT,hl,hlt])
    ·have hlast:yT (t.take k) t[k].path=true:=by rw [yT,hl]; exact hlt
     refine dEr ?_;repeat ((first|refine sHiM k rfl (by omega) ?_|refine c0 (zac W0 (t.take k) _) rfl ?_); first|refine dEr ?_|exact dz)
     apply cP<;>intro h9
     ·refine dr ?_;exact no (by simp [jv,h9])
     ·refine dr ?_;apply cP<;>intro h10
      ·refine dEr ?_;repeat ((first|refine sHiM k rfl (by omega) ?_|refine c0 (Q6 W0 (t.take k) _) rfl ?_); first|refine dEr ?_|exact dz)
       apply cP<;>intro h11
       ·refine dr ?_;exact no (by simp [jv,h10,h11])
       ·refine dr ?_;refine ⟨k+1,⟨by omega,fun j h hj=>?_⟩,by omega,?_⟩
        ·by_cases e:j=k
         ·subst e; rw [jv,h34,h5,h6,h7,hlast,h9,h11]; simp
         ·exact ha j h (by omega)
        ·refine dr ?_;trivial
      ·refine dr ?_;refine ⟨k+1,⟨by omega,fun j h hj=>?_⟩,by omega,?_⟩
       ·by_cases e:j=k
        ·subst e; rw [jv,h34,h5,h6,h7,hlast,h9]; simp; omega
        ·exact ha j h (by omega)
       ·refine dr ?_;trivial
   ·have hlast:yT (t.take k) t[k].path=true:=by
     have hk0:k=0:=by omega
     subst hk0; rfl
    refine dEr ?_;repeat ((first|refine sHiM k rfl (by omega) ?_|refine c0 (zac W0 (t.take k) _) rfl ?_); first|refine dEr ?_|exact dz)
    apply cP<;>intro h9
    ·refine dr ?_;exact no (by simp [jv,h9])
    ·refine dr ?_;apply cP<;>intro h10
     ·refine dEr ?_;repeat ((first|refine sHiM k rfl (by omega) ?_|refine c0 (Q6 W0 (t.take k) _) rfl ?_); first|refine dEr ?_|exact dz)
      apply cP<;>intro h11
      ·refine dr ?_;exact no (by simp [jv,h10,h11])
      ·refine dr ?_;refine ⟨k+1,⟨by omega,fun j h hj=>?_⟩,by omega,?_⟩
       ·by_cases e:j=k
        ·subst e; rw [jv,h34,h5,h6,h7,hlast,h9,h11]; simp
        ·exact ha j h (by omega)
       ·refine dr ?_;trivial
     ·refine dr ?_;refine ⟨k+1,⟨by omega,fun j h hj=>?_⟩,by omega,?_⟩
      ·by_cases e:j=k
       ·subst e; rw [jv,h34,h5,h6,h7,hlast,h9]; simp; omega
       ·exact ha j h (by omega)
      ·refine dr ?_;trivial
 ·have h7:(!(t[k].kind != 1&&t[k].data != []))=true:=by simp [h70]
  refine dr ?_;apply cP<;>intro h8
  ·have hl:(t.take k).getLast? = some t[k - 1]:=by
    rw [List.getLast?_take,if_neg (by omega),List.getElem?_eq_getElem (by omega)];rfl
   refine dr ?_;repeat (refine aM (j:=k - 1) (by omega) (by omega) ?_; first|refine dr ?_|exact dz)
   cases hlt:ltS t[k - 1].path t[k].path
   ·refine dr ?_;exact no (by simp [jv,yT,hl,hlt])
   ·have hlast:yT (t.take k) t[k].path=true:=by rw [yT,hl]; exact hlt
    refine dEr ?_;repeat ((first|refine sHiM k rfl (by omega) ?_|refine c0 (zac W0 (t.take k) _) rfl ?_); first|refine dEr ?_|exact dz)
    apply cP<;>intro h9
    ·refine dr ?_;exact no (by simp [jv,h9])
    ·refine dr ?_;apply cP<;>intro h10
     ·refine dEr ?_;repeat ((first|refine sHiM k rfl (by omega) ?_|refine c0 (Q6 W0 (t.take k) _) rfl ?_); first|refine dEr ?_|exact dz)
      apply cP<;>intro h11
      ·refine dr ?_;exact no (by simp [jv,h10,h11])
      ·refine dr ?_;refine ⟨k+1,⟨by omega,fun j h hj=>?_⟩,by omega,?_⟩
       ·by_cases e:j=k
        ·subst e; rw [jv,h34,h5,h6,h7,hlast,h9,h11]; simp
        ·exact ha j h (by omega)
       ·refine dr ?_;trivial
     ·refine dr ?_;refine ⟨k+1,⟨by omega,fun j h hj=>?_⟩,by omega,?_⟩
      ·by_cases e:j=k
       ·subst e; rw [jv,h34,h5,h6,h7,hlast,h9]; simp; omega
       ·exact ha j h (by omega)
      ·refine dr ?_;trivial
  ·have hlast:yT (t.take k) t[k].path=true:=by
    have hk0:k=0:=by omega
    subst hk0; rfl
   refine dEr ?_;repeat ((first|refine sHiM k rfl (by omega) ?_|refine c0 (zac W0 (t.take k) _) rfl ?_); first|refine dEr ?_|exact dz)
   apply cP<;>intro h9
   ·refine dr ?_;exact no (by simp [jv,h9])
   ·refine dr ?_;apply cP<;>intro h10
    ·refine dEr ?_;repeat ((first|refine sHiM k rfl (by omega) ?_|refine c0 (Q6 W0 (t.take k) _) rfl ?_); first|refine dEr ?_|exact dz)
     apply cP<;>intro h11
     ·refine dr ?_;exact no (by simp [jv,h10,h11])
     ·refine dr ?_;refine ⟨k+1,⟨by omega,fun j h hj=>?_⟩,by omega,?_⟩
      ·by_cases e:j=k
       ·subst e; rw [jv,h34,h5,h6,h7,hlast,h9,h11]; simp
       ·exact ha j h (by omega)
      ·refine dr ?_;trivial
    ·refine dr ?_;refine ⟨k+1,⟨by omega,fun j h hj=>?_⟩,by omega,?_⟩
     ·by_cases e:j=k
      ·subst e; rw [jv,h34,h5,h6,h7,hlast,h9]; simp; omega
      ·exact ha j h (by omega)
     ·refine dr ?_;trivial
end Go.Proofs.YtopfccpgdldcdaaGreatDoor

namespace Go.Proofs.YtopfccpgdldcdaaGreatDoor
set_option linter.unusedSimpArgs false
set_option linter.unusedVariables false
open Go Go.RowKit
def zkL:XC:=(.s (.r [.m1 4 .n]) (.s (.s (.r [.mv 6 0,.n1 7 6,.mv 8 1,.n1 9 8,.b1 10 .neq 7 9]) (.cnd 10 (.rf 4) .skip)) (.s (.s (.r [.m1 5 (.i 0)]) (.blk 0 (.loop (.s (.s (.r [.mv 11 5,.mv 12 0,.n1 13 12,.b1 14 .lss 11 13]) (.ce 14 0)) (.s (.blk 1 (.s (.d [.mv 17 0,.mv 18 5,.i1 19 3 17 18,.l2 20 3 19,.mv 21 1,.mv 22 5,.i1 23 3 21 22,.l2 24 3 23,.ex 25 (.beq true [.s,(.i .i64),.s] 20 24)]) (.cnd 25 (.rf 4) .skip))) (.ic 15 16 5)))))) (.rt 4))))
theorem zkM:zc Tryz.prog [] 145=some (zkL.ac,[(.t 4)],26):=by kernel_rfl
theorem zqa (W0:World) (a b:List Mark):Fn Tryz.prog W0 145 [ze a,ze b] (.c (CB (decide (a=b)))) []:=by
 refine fX mixed zkM fun hg=>?_
 have g1:=jc (hg _ (by simp:ze a∈_));refine dr ?_;apply cP<;>intro h1
 ·conv=>whnf
  exact dF (ZE (by omega))
 conv=>whnf
 refine lp (σ:=Nat) (fun k=>[(0,.c (ze a)),(1,.c (ze b)),(5,I k)]) (fun _=>[]) (fun k=>k≤a.length∧a.take k=b.take k) (fun k=>a.length - k) 0 ⟨by simp,by simp⟩ ?_ ?_
 ·refine dr ?_;trivial
 rintro k ⟨hk,he⟩;refine dr ?_;apply cP<;>intro h2
 ·refine dr ?_;rw [bqMark];apply cP<;>intro h3;rotate_left
  ·refine dr ?_;refine ⟨k+1,⟨by omega,ZJ (by omega) (by omega) he (by simpa using h3)⟩,by omega,?_⟩;refine dr ?_;trivial
  ·conv=>whnf
   exact dF (ZD (k:=k) (by omega) (by omega) (by simpa using h3))
 ·refine dr ?_;have:k=a.length:=by omega
  subst this;exact dT (Zw (by omega) he)
def zh1:XC:=(.s (.r [.m1 4 .n]) (.s (.s (.r [.mv 6 0,.n1 7 6,.mv 8 1,.n1 9 8,.b1 10 .neq 7 9]) (.cnd 10 (.rf 4) .skip)) (.s (.s (.r [.mv 11 0,.n1 12 11,.m1 13 (.i 0)]) (.blk 0 (.loop (.s (.r [.b1 14 .lss 13 12]) (.s (.ce 14 0) (.s (.blk 1 (.s (.r [.mv 15 13,.mv 5 15]) (.s (.d [.mv 16 0,.mv 17 5,.i1 18 3 16 17,.l2 19 3 18,.mv 20 1,.mv 21 5,.i1 22 3 20 21,.l2 23 3 22,.ex 24 (.beq true [.s,.b,.s] 19 23)]) (.cnd 24 (.rf 4) .skip)))) (.r [.b1 25 .add 13 (.i 1),.mv 13 25]))))))) (.rt 4))))
theorem zh2:zc Tryz.prog [] 83=some (zh1.ac,[(.t 4)],26):=by kernel_rfl
theorem zow (W0:World) (a b:List Ent):Fn Tryz.prog W0 83 [za a,za b] (.c (CB (decide (a=b)))) []:=by
 refine fX mixed zh2 fun hg=>?_
 have g1:=jc (hg _ (by simp:za a∈_));refine dr ?_;apply cP<;>intro h1
 ·conv=>whnf
  exact dF (ZE (by omega))
 refine dr ?_;refine lp (σ:=Nat) (fun k=>[(0,.c (za a)),(1,.c (za b)),(12,I a.length),(13,I k)]) (fun _=>[]) (fun k=>k≤a.length∧a.take k=b.take k) (fun k=>a.length - k) 0 ⟨by simp,by simp⟩ ?_ ?_
 ·refine dr ?_;trivial
 rintro k ⟨hk,he⟩;refine dr ?_;apply cP<;>intro h2
 ·refine dr ?_;rw [Jk];apply cP<;>intro h3;rotate_left
  ·refine dr ?_;refine ⟨k+1,⟨by omega,ZJ (by omega) (by omega) he (by simpa using h3)⟩,by omega,?_⟩;refine dr ?_;trivial
  ·conv=>whnf
   exact dF (ZD (k:=k) (by omega) (by omega) (by simpa using h3))
 ·refine dr ?_;have:k=a.length:=by omega
  subst this;exact dT (Zw (by omega) he)
def zid:XC:=(.s (.r [.m1 4 .n]) (.s (.s (.r [.mv 6 0,.n1 7 6,.mv 8 1,.n1 9 8,.b1 10 .neq 7 9]) (.cnd 10 (.rf 4) .skip)) (.s (.s (.r [.mv 11 0,.n1 12 11,.m1 13 (.i 0)]) (.blk 0 (.loop (.s (.r [.b1 14 .lss 13 12]) (.s (.ce 14 0) (.s (.blk 1 (.s (.r [.mv 15 13,.mv 5 15]) (.s (.d [.mv 16 0,.mv 17 5,.i1 18 3 16 17,.l2 19 3 18,.mv 20 1,.mv 21 5,.i1 22 3 20 21,.l2 23 3 22,.ex 24 (.beq true [.s,(.i .i64),.s] 19 23)]) (.cnd 24 (.rf 4) .skip)))) (.r [.b1 25 .add 13 (.i 1),.mv 13 25]))))))) (.rt 4))))
theorem zie:zc Tryz.prog [] 139=some (zid.ac,[(.t 4)],26):=by kernel_rfl
theorem zoC (W0:World) (a b:List Mark):Fn Tryz.prog W0 139 [ze a,ze b] (.c (CB (decide (a=b)))) []:=by
 refine fX mixed zie fun hg=>?_
 have g1:=jc (hg _ (by simp:ze a∈_));refine dr ?_;apply cP<;>intro h1
 ·conv=>whnf
  exact dF (ZE (by omega))
 refine dr ?_;refine lp (σ:=Nat) (fun k=>[(0,.c (ze a)),(1,.c (ze b)),(12,I a.length),(13,I k)]) (fun _=>[]) (fun k=>k≤a.length∧a.take k=b.take k) (fun k=>a.length - k) 0 ⟨by simp,by simp⟩ ?_ ?_
 ·refine dr ?_;trivial
 rintro k ⟨hk,he⟩;refine dr ?_;apply cP<;>intro h2
 ·refine dr ?_;rw [bqMark];apply cP<;>intro h3;rotate_left
  ·refine dr ?_;refine ⟨k+1,⟨by omega,ZJ (by omega) (by omega) he (by simpa using h3)⟩,by omega,?_⟩;refine dr ?_;trivial
  ·conv=>whnf
   exact dF (ZD (k:=k) (by omega) (by omega) (by simpa using h3))
 ·refine dr ?_;have:k=a.length:=by omega
  subst this;exact dT (Zw (by omega) he)
def zh7:XC:=(.s (.r [.m1 4 .n]) (.s (.s (.r [.mv 6 0,.n1 7 6,.mv 8 1,.n1 9 8,.b1 10 .neq 7 9]) (.cnd 10 (.rf 4) .skip)) (.s (.s (.r [.mv 11 0,.n1 12 11,.m1 13 (.i 0)]) (.blk 0 (.loop (.s (.r [.b1 14 .lss 13 12]) (.s (.ce 14 0) (.s (.blk 1 (.s (.r [.mv 15 13,.mv 5 15]) (.s (.d [.mv 16 0,.mv 17 5,.i1 18 7 16 17,.l2 19 7 18,.mv 20 1,.mv 21 5,.i1 22 7 20 21,.l2 23 7 22,.ex 24 (.beq true [.s,.b,.s,.b,.s,(.i .i64),(.i .i64)] 19 23)]) (.cnd 24 (.rf 4) .skip)))) (.r [.b1 25 .add 13 (.i 1),.mv 13 25]))))))) (.rt 4))))
theorem zh8:zc Tryz.prog [] 63=some (zh7.ac,[(.t 4)],26):=by kernel_rfl
theorem zoz (W0:World) (a b:List Hold):Fn Tryz.prog W0 63 [zf a,zf b] (.c (CB (decide (a=b)))) []:=by
 refine fX mixed zh8 fun hg=>?_
 have g1:=jc (hg _ (by simp:zf a∈_));refine dr ?_;apply cP<;>intro h1
 ·conv=>whnf
  exact dF (ZE (by omega))
 refine dr ?_;refine lp (σ:=Nat) (fun k=>[(0,.c (zf a)),(1,.c (zf b)),(12,I a.length),(13,I k)]) (fun _=>[]) (fun k=>k≤a.length∧a.take k=b.take k) (fun k=>a.length - k) 0 ⟨by simp,by simp⟩ ?_ ?_
 ·refine dr ?_;trivial
 rintro k ⟨hk,he⟩;refine dr ?_;apply cP<;>intro h2
 ·refine dr ?_;rw [zbk];apply cP<;>intro h3;rotate_left
  ·refine dr ?_;refine ⟨k+1,⟨by omega,ZJ (by omega) (by omega) he (by simpa using h3)⟩,by omega,?_⟩;refine dr ?_;trivial
  ·conv=>whnf
   exact dF (ZD (k:=k) (by omega) (by omega) (by simpa using h3))
 ·refine dr ?_;have:k=a.length:=by omega
  subst this;exact dT (Zw (by omega) he)
def zib:XC:=(.s (.r [.m1 4 .n]) (.s (.s (.r [.mv 6 0,.n1 7 6,.mv 8 1,.n1 9 8,.b1 10 .neq 7 9]) (.cnd 10 (.rf 4) .skip)) (.s (.s (.r [.mv 11 0,.n1 12 11,.m1 13 (.i 0)]) (.blk 0 (.loop (.s (.r [.b1 14 .lss 13 12]) (.s (.ce 14 0) (.s (.blk 1 (.s (.r [.mv 15 13,.mv 5 15]) (.s (.d [.mv 16 0,.mv 17 5,.i1 18 4 16 17,.l2 19 4 18,.mv 20 1,.mv 21 5,.i1 22 4 20 21,.l2 23 4 22,.ex 24 (.beq true [(.i .i64),.s,(.i .i64),(.i .i64)] 19 23)]) (.cnd 24 (.rf 4) .skip)))) (.r [.b1 25 .add 13 (.i 1),.mv 13 25]))))))) (.rt 4))))
theorem zic:zc Tryz.prog [] 64=some (zib.ac,[(.t 4)],26):=by kernel_rfl
theorem zoB (W0:World) (a b:List Lease):Fn Tryz.prog W0 64 [zv a,zv b] (.c (CB (decide (a=b)))) []:=by
 refine fX mixed zic fun hg=>?_
 have g1:=jc (hg _ (by simp:zv a∈_));refine dr ?_;apply cP<;>intro h1
 ·conv=>whnf
  exact dF (ZE (by omega))
 refine dr ?_;refine lp (σ:=Nat) (fun k=>[(0,.c (zv a)),(1,.c (zv b)),(12,I a.length),(13,I k)]) (fun _=>[]) (fun k=>k≤a.length∧a.take k=b.take k) (fun k=>a.length - k) 0 ⟨by simp,by simp⟩ ?_ ?_
 ·refine dr ?_;trivial
 rintro k ⟨hk,he⟩;refine dr ?_;apply cP<;>intro h2
 ·refine dr ?_;rw [bqLease];apply cP<;>intro h3;rotate_left
  ·refine dr ?_;refine ⟨k+1,⟨by omega,ZJ (by omega) (by omega) he (by simpa using h3)⟩,by omega,?_⟩;refine dr ?_;trivial
  ·conv=>whnf
   exact dF (ZD (k:=k) (by omega) (by omega) (by simpa using h3))
 ·refine dr ?_;have:k=a.length:=by omega
  subst this;exact dT (Zw (by omega) he)
def zif:XC:=(.s (.r [.m1 4 .n]) (.s (.s (.r [.mv 6 0,.n1 7 6,.mv 8 1,.n1 9 8,.b1 10 .neq 7 9]) (.cnd 10 (.rf 4) .skip)) (.s (.s (.r [.mv 11 0,.n1 12 11,.m1 13 (.i 0)]) (.blk 0 (.loop (.s (.r [.b1 14 .lss 13 12]) (.s (.ce 14 0) (.s (.blk 1 (.s (.r [.mv 15 13,.mv 5 15]) (.s (.d [.mv 16 0,.mv 17 5,.i1 18 9 16 17,.l2 19 9 18,.mv 20 1,.mv 21 5,.i1 22 9 20 21,.l2 23 9 22,.ex 24 (.beq true [(.i .i64),(.i .i64),.s,.b,.s,.b,.s,(.i .i64),(.i .i64)] 19 23)]) (.cnd 24 (.rf 4) .skip)))) (.r [.b1 25 .add 13 (.i 1),.mv 13 25]))))))) (.rt 4))))
theorem zig:zc Tryz.prog [] 67=some (zif.ac,[(.t 4)],26):=by kernel_rfl
theorem zoD (W0:World) (a b:List Msg):Fn Tryz.prog W0 67 [jM a,jM b] (.c (CB (decide (a=b)))) []:=by
 refine fX mixed zig fun hg=>?_
 have g1:=jc (hg _ (by simp:jM a∈_));refine dr ?_;apply cP<;>intro h1
 ·conv=>whnf
  exact dF (ZE (by omega))
 refine dr ?_;refine lp (σ:=Nat) (fun k=>[(0,.c (jM a)),(1,.c (jM b)),(12,I a.length),(13,I k)]) (fun _=>[]) (fun k=>k≤a.length∧a.take k=b.take k) (fun k=>a.length - k) 0 ⟨by simp,by simp⟩ ?_ ?_
 ·refine dr ?_;trivial
 rintro k ⟨hk,he⟩;refine dr ?_;apply cP<;>intro h2
 ·refine dr ?_;rw [bqMsg];apply cP<;>intro h3;rotate_left
  ·refine dr ?_;refine ⟨k+1,⟨by omega,ZJ (by omega) (by omega) he (by simpa using h3)⟩,by omega,?_⟩;refine dr ?_;trivial
  ·conv=>whnf
   exact dF (ZD (k:=k) (by omega) (by omega) (by simpa using h3))
 ·refine dr ?_;have:k=a.length:=by omega
  subst this;exact dT (Zw (by omega) he)
def zin:XC:=(.s (.r [.m1 4 .n]) (.s (.r [.mv 5 0,.mv 6 1,.c1 7 83 [5,6],.mv 4 7]) .ret))
theorem zio:zc Tryz.prog [] 31=some (zin.ac,[(.t 4)],8):=by kernel_rfl
theorem zeb (W0:World) (a b:List Ent):Fn Tryz.prog W0 31 [za a,za b] (.c (CB (decide (a=b)))) []:=by
 refine fX mixed zio fun hg=>?_
 refine dr ?_;repeat (refine c0 (zow W0 a b) rfl ?_; first|refine dr ?_|exact dz)
def zip:XC:=(.s (.r [.m1 4 .n]) (.s (.r [.mv 5 0,.mv 6 1,.c1 7 139 [5,6],.mv 4 7]) .ret))
theorem ziq:zc Tryz.prog [] 85=some (zip.ac,[(.t 4)],8):=by kernel_rfl
theorem Y7 (W0:World) (a b:List Mark):Fn Tryz.prog W0 85 [ze a,ze b] (.c (CB (decide (a=b)))) []:=by
 refine fX mixed ziq fun hg=>?_
 refine dr ?_;repeat (refine c0 (zoC W0 a b) rfl ?_; first|refine dr ?_|exact dz)
def zh5:XC:=(.s (.r [.m1 6 .n]) (.s (.s (.r [.mv 10 0,.n1 11 10,.mv 12 1,.n1 13 12,.b1 14 .neq 11 13]) (.cnd 14 (.rf 6) .skip)) (.s (.s (.r [.mv 15 0,.n1 16 15,.m1 17 (.i 0)]) (.blk 0 (.loop (.s (.r [.b1 18 .lss 17 16]) (.s (.ce 18 0) (.s (.blk 1 (.s (.r [.mv 19 17,.i1 20 1 15 17,.l1 21 1 20,.mv 7 19,.a1 8 21 3 148]) (.s (.r [.mv 22 1,.mv 23 7,.i1 24 1 22 23,.l1 25 1 24,.a1 9 25 3 148]) (.s (.r [.mv 26 2,.mv 27 8,.mv 28 9,.ex 29 (.callv 26 [27,28]),.u1 30 29]) (.cnd 30 (.rf 6) .skip))))) (.r [.b1 31 .add 17 (.i 1),.mv 17 31]))))))) (.rt 6))))
theorem zh6:zc Tryz.prog [] 84=some (zh5.ac,[(.t 6)],32):=by kernel_rfl
theorem zoy (W0:World) (a b:List (List Mark)):Fn Tryz.prog W0 84 [zy a,zy b,.sc (.func (.func 85) #[] #[])] (.c (CB (decide (a=b)))) []:=by
 refine fX mixed zh6 fun hg=>?_
 have g1:=jc (hg _ (by simp:zy a∈_));refine dr ?_;apply cP<;>intro h1
 ·conv=>whnf
  exact dF (ZE (by omega))
 refine dr ?_;refine lp (σ:=Nat) (fun k=>[(0,.c (zy a)),(1,.c (zy b)),(2,.c (.sc (.func (.func 85) #[] #[]))),(15,.c (zy a)),(16,I a.length),(17,I k)]) (fun _=>[]) (fun k=>k≤a.length∧a.take k=b.take k) (fun k=>a.length - k) 0 ⟨by simp,by simp⟩ ?_ ?_
 ·refine dr ?_;trivial
 rintro k ⟨hk,he⟩;refine dr ?_;apply cP<;>intro h2
 ·refine dr ?_;repeat ((first|refine oB ⟨by kernel_rfl,by simp⟩ ?_|refine c0 (Y7 W0 _ _) rfl ?_); first|refine dr ?_|exact dz)
  apply cP<;>intro h3;rotate_left
  ·refine dr ?_;refine ⟨k+1,⟨by omega,ZJ (by omega) (by omega) he (by simpa using h3)⟩,by omega,?_⟩;refine dr ?_;trivial
  ·conv=>whnf
   exact dF (ZD (k:=k) (by omega) (by omega) (by simpa using h3))
 ·refine dr ?_;have:k=a.length:=by omega
  subst this;exact dT (Zw (by omega) he)
def ziJ:XC:=(.s (.r [.x1 2 0,.x1 3 1,.m1 4 .n]) (.s (.r [.f1 5 0 2,.l1 6 1 5,.f1 7 0 3,.l1 8 1 7,.c1 9 31 [6,8],.mv 10 9,.g1 11 1 2 10,.g2 12 1 11 10,.g1 13 1 3 10,.g2 14 1 13 10,.gt 15 (.call 84 [12,14,(.k (.c (.sc (.func (.func 85) #[] #[]))))]) 10,.p2 16 10 15,.mv 17 16,.g1 18 2 2 17,.g2 19 1 18 17,.g1 20 2 3 17,.g2 21 1 20 17,.gt 22 (.call 85 [19,21]) 17,.p2 23 17 22,.mv 4 23]) .ret))
theorem ziK:zc Tryz.prog [] 32=some (ziJ.ac,[(.t 4)],24):=by kernel_rfl
theorem zee (W0:World) (a b:Over):Fn Tryz.prog W0 32 [jR a,jR b] (.c (CB (decide (a=b)))) []:=by
 refine fX mixed ziK fun hg=>?_
 refine dr ?_;repeat (refine c0 (zeb W0 a.base b.base) rfl ?_; first|refine dr ?_|exact dz)
 apply cP<;>intro h1;rotate_left
 ·refine dr ?_;exact dF fun e=>by simp [e] at h1
 refine dr ?_;repeat (refine c0 (zoy W0 a.layers b.layers) rfl ?_; first|refine dr ?_|exact dz)
 apply cP<;>intro h2;rotate_left
 ·refine dr ?_;exact dF fun e=>by simp [e] at h2
 refine dr ?_;repeat (refine c0 (Y7 W0 a.upper b.upper) rfl ?_; first|refine dr ?_|exact dz)
 exact congrArg CB (by cases a; cases b; simp_all)
end Go.Proofs.YtopfccpgdldcdaaGreatDoor

namespace Go.Proofs.YtopfccpgdldcdaaGreatDoor
set_option linter.unusedSimpArgs false
set_option linter.unusedVariables false
open Go Go.RowKit
def zmt:XC:=(.s (.r [.a2 4 3 46]) (.s (.r [.ex 8 .bsl0,.a1 5 8 3 46]) (.s (.s (.r [.m1 6 (.i 0)]) (.blk 0 (.loop (.s (.s (.r [.mv 9 6,.mv 10 1,.n1 11 10,.b1 12 .lss 9 11]) (.ce 12 0)) (.s (.blk 1 (.s (.r [.mv 15 0,.mv 16 1,.mv 17 6,.i1 18 3 16 17,.f1 19 0 18,.l1 20 1 19,.c1 21 184 [15,20],.u1 22 21]) (.cnd 22 (.r [.mv 23 5,.mv 24 1,.mv 25 6,.i1 26 3 24 25,.l2 27 3 26,.ex 28 (.bsl 3 46 [27]),.ex 29 (.app false 3 40 46 23 28),.a1 5 29 3 46]) .skip))) (.ic 13 14 6)))))) (.s (.s (.r [.m1 7 (.i 0)]) (.blk 2 (.loop (.s (.s (.r [.mv 30 7,.mv 31 0,.n1 32 31,.b1 33 .lss 30 32]) (.ce 33 2)) (.s (.blk 3 (.s (.r [.mv 36 0,.mv 37 7,.i1 38 3 36 37,.f1 39 1 38,.l1 40 1 39]) (.blk 4 (.s (.r [.b1 42 .eql 40 (.i 1),.mv 41 42]) (.cnd 41 (.d [.mv 43 5,.mv 44 0,.mv 45 7,.i1 46 3 44 45,.f1 47 0 46,.l1 48 1 47,.mv 49 0,.mv 50 7,.i1 51 3 49 50,.f1 52 2 51,.l1 53 1 52,.ex 54 (.build zE [(0,(1,48)),(2,(1,53))]),.c1 55 185 [43,54],.a1 5 55 3 46]) (.s (.s (.r [.b1 57 .eql 40 (.i 2),.mv 56 57]) (.cnd 56 .skip (.r [.b1 58 .eql 40 (.i 4),.mv 56 58]))) (.cnd 56 (.r [.mv 59 5,.mv 60 0,.mv 61 7,.i1 62 3 60 61,.f1 63 0 62,.l1 64 1 63,.ex 65 (.build zE [(0,(1,64)),(1,(1,.y))]),.c1 66 185 [59,65],.a1 5 66 3 46]) .skip))))))) (.ic 34 35 7)))))) (.s (.r [.mv 67 5,.a1 4 67 3 46]) .ret)))))
theorem zmu:zc Tryz.prog [] 149=some (zmt.ac,[(.t 4)],68):=by kernel_rfl
theorem zpq (W0:World) (l:List Mark) (t:List Ent) (ht:t.length+l.length≤1000000):Fn Tryz.prog W0 149 [ze l,za t] (.c (za (jG l t))) []:=by
 refine fX mixed zmu fun hg=>?_
 refine dr ?_;refine lp (σ:=Nat) (fun k=>[(0,.c (ze l)),(1,.c (za t)),(5,.own 80 ((t.take k).filter fun e=>!zJ l e.path).length),(6,I k)]) (fun k=>[(80,.row (((t.take k).filter fun e=>!zJ l e.path).map eEnt) 3 46)]) (fun k=>k≤t.length) (fun k=>t.length - k) 0 (by simp) ?_ ?_
 ·refine dr ?_;trivial
 intro k hk;have hfl:=zeI (q:=fun e:Ent=>!zJ l e.path) (l:=t) (k:=k);refine dr ?_;apply cP<;>intro h1
 ·have hk':k < t.length:=by omega
  refine dEr ?_;repeat (refine c0 (zep W0 _ _) rfl ?_; first|refine dEr ?_|exact dz)
  apply cP<;>intro h2
  ·refine dr ?_;repeat ((first|refine oB (by simp; omega) ?_|refine oB (by simp) ?_); first|refine dr ?_|exact dz)
   refine ⟨k+1,by omega,by omega,?_⟩;refine dr ?_;repeat (refine oB (by rw [qx hk' (by simp [h2])]; simp) ?_; first|refine dr ?_|exact dz)
   trivial
  ·refine dr ?_;refine ⟨k+1,by omega,by omega,?_⟩;refine dr ?_;repeat (refine oB (by rw [qe hk' (by simp [h2])]) ?_; first|refine dr ?_|exact dz)
   trivial
 have hkl:k=t.length:=by omega
 subst hkl;rw [List.take_length] at hfl ⊢;have hR:jG l t=l.foldl onP (t.filter fun e=>!zJ l e.path):=rfl;rw [hR];generalize (t.filter fun e=>!zJ l e.path)=t0 at *;refine dr ?_;refine lz (σ:=Nat) 80 (fun k=>[(0,.c (ze l)),(1,.c (za t)),(5,.c (za ((l.take k).foldl onP t0))),(7,I k)]) (fun _=>[]) (fun k=>k≤l.length) (fun k=>l.length - k) 0 (by simp) ?_ ?_
 ·refine dr ?_;repeat (refine oB (by simp) ?_; first|refine dr ?_|exact dz)
  trivial
 clear h1;intro k hk;have hlk:=ze7 (l.take k) t0;have hlk2:=List.length_take_le' k l;refine dr ?_;apply cP<;>intro h1
 ·have hk':k < l.length:=by omega
  refine dr ?_;apply cP<;>intro h2
  ·refine dr ?_;repeat (refine c0 (Jt W0 _ ⟨_,_,_⟩ (by omega)) rfl ?_; first|refine dr ?_|exact dz)
   intro hg1;refine dr ?_;refine ⟨k+1,by omega,by omega,?_⟩;refine dr ?_;repeat (refine oB (by rw [qX hk',onP,if_pos h2]) ?_; first|refine dr ?_|exact dz)
   trivial
  ·refine dr ?_;apply cP<;>intro h3
   ·refine dr ?_;apply cP<;>intro h30;rotate_left
    ·omega
    refine dr ?_;repeat (refine c0 (Jt W0 _ ⟨_,_,_⟩ (by omega)) rfl ?_; first|refine dr ?_|exact dz)
    intro hg1;refine dr ?_;refine ⟨k+1,by omega,by omega,?_⟩;refine dr ?_;repeat (refine oB (by rw [qX hk',onP,if_neg h2,if_pos (.inl h3)]) ?_; first|refine dr ?_|exact dz)
    trivial
   ·refine dr ?_;apply cP<;>intro h4
    ·refine dr ?_;repeat (refine c0 (Jt W0 _ ⟨_,_,_⟩ (by omega)) rfl ?_; first|refine dr ?_|exact dz)
     intro hg1;refine dr ?_;refine ⟨k+1,by omega,by omega,?_⟩;refine dr ?_;repeat (refine oB (by rw [qX hk',onP,if_neg h2,if_pos (.inr h4)]) ?_; first|refine dr ?_|exact dz)
     trivial
    ·refine dr ?_;refine ⟨k+1,by omega,by omega,?_⟩;refine dr ?_;repeat (refine oB (by rw [qX hk',onP,if_neg h2,if_neg (by omega)]) ?_; first|refine dr ?_|exact dz)
     trivial
 have hkl:k=l.length:=by omega
 refine dr ?_;rw [hkl,List.take_length]
def zkJ:XC:=(.s (.r [.a2 4 3 46,.m1 5 .n]) (.s (.s (.r [.mv 7 0,.c1 8 148 [7],.u1 9 8,.mv 10 9,.h3 11 1 10,.gf 12 (.call 147 [11]) 10,.gf 13 (.un .not 12) 10,.p1 14 10 13]) (.cnd 14 (.s (.r [.ex 15 .bsl0,.a1 4 15 3 46,.m1 5 .n]) .ret) .skip)) (.s (.r [.mv 16 0,.mv 17 1,.c1 18 149 [16,17],.a1 6 18 3 46]) (.s (.s (.r [.mv 19 6,.n1 20 19,.b1 21 .gtr 20 (.i 16)]) (.cnd 21 (.s (.r [.ex 22 .bsl0,.a1 4 22 3 46,.m1 5 .n]) .ret) .skip)) (.s (.r [.mv 23 6,.a1 4 23 3 46,.m1 5 .y]) .ret)))))
theorem zkK:zc Tryz.prog [] 92=some (zkJ.ac,[(.t 4),(.t 5)],24):=by kernel_rfl
theorem zez (W0:World) (l:List Mark) (t:List Ent):Fn Tryz.prog W0 92 [ze l,za t] (.c (Jr (lOn l t))) []:=by
 refine fX mixed zkK fun hg=>?_
 refine dr ?_;repeat (refine c0 (Q7 W0 _) rfl ?_; first|refine dr ?_|exact dz)
 apply cP<;>intro h1
 ·refine dEr ?_;rw [lOn,if_neg (by simp [h1])]; rfl
 refine dEr ?_;repeat (refine c0 (zbT W0 _) rfl ?_; first|refine dEr ?_|exact dz)
 apply cP<;>intro h2
 ·refine dr ?_;rw [lOn,if_neg (by simp [h2])]; rfl
 have hl:l.length≤32:=by simp only [lOk,Bool.and_eq_true,decide_eq_true_eq] at h1; exact h1.1
 have ht:=(yu h2).1;refine dr ?_;repeat (refine c0 (zpq W0 _ _ (by omega)) rfl ?_; first|refine dr ?_|exact dz)
 intro hg2;refine dr ?_;rw [lOn,if_pos (by simp [h1,h2])];apply cP<;>intro h3
 ·refine dr ?_;rw [if_neg (by omega)]; rfl
 ·refine dr ?_;rw [if_pos (by omega)]; rfl
def zmz:XC:=(.s (.r [.a2 4 3 148]) (.s (.r [.mv 6 1,.c1 7 180 [6],.mv 5 7]) (.s (.s (.r [.mv 8 5,.ex 9 (.bin .eql 8 (.s [47]))]) (.cnd 9 (.s (.r [.mv 10 0,.a1 4 10 3 148]) .ret) .skip)) (.s (.s (.r [.mv 11 0,.mv 12 5,.c1 13 217 [11,12],.b1 14 .eql 13 (.i 0)]) (.cnd 14 (.r [.mv 15 0,.mv 16 5,.ex 17 (.build [sE,(I 0),sE] [(0,(1,16)),(1,(1,(.i 2)))]),.c1 18 176 [15,17],.a1 0 18 3 148]) .skip)) (.s (.r [.mv 19 0,.mv 20 5,.c1 21 177 [19,20],.a1 4 21 3 148]) .ret)))))
theorem zmA:zc Tryz.prog [] 177=some (zmz.ac,[(.t 4)],22):=by kernel_rfl
theorem J4 (W0:World):∀ (n:Nat) (l:List Mark) (p:Str),pOk p=true→(names p).length≤n→l.length+n≤1000000→Fn Tryz.prog W0 177 [ze l,CS p] (.c (ze ((jJ n p).foldl upsP l))) []
 | 0,l,p,hp,hn,_=>by have:=(ye hp).1.1; omega
 | n+1,l,p,hp,hn,hl=>by
  refine fX mixed zmA fun hg=>?_
  refine dr ?_;repeat (refine c0 (Zb W0 _) rfl ?_; first|refine dr ?_|exact dz)
  intro hg1;rw [jJ];apply cP<;>intro h1
  ·refine dr ?_;rw [if_pos h1]; rfl
  rw [if_neg h1];obtain ⟨u1,_,u2⟩:=yp hp h1;have e:((pUp p::jJ n (pUp p)).foldl upsP l)=(jJ n (pUp p)).foldl upsP (upsP l (pUp p)):=rfl;rw [e,upsP];refine dr ?_;repeat (refine c0 (zad W0 _ _) rfl ?_; first|refine dr ?_|exact dz)
  intro hg2;apply cP<;>intro h2
  ·rw [if_pos h2];have hpl:(jH l ⟨pUp p,2,[]⟩).length≤l.length+1:=qQ;refine dr ?_;repeat (refine c0 (Ju W0 _ ⟨pUp p,2,[]⟩ (by omega)) rfl ?_; first|refine dr ?_|exact dz)
   intro hg3;refine dr ?_;repeat (refine c0 (J4 W0 n _ _ u1 (by omega) (by omega)) rfl ?_; first|refine dr ?_|exact dz)
   intro hg4;exact dz
  ·rw [if_neg h2];refine dr ?_;repeat (refine c0 (J4 W0 n _ _ u1 (by omega) (by omega)) rfl ?_; first|refine dr ?_|exact dz)
   intro hg4;exact dz
def zmf:XC:=(.s (.r [.a2 4 3 148]) (.s (.r [.ex 11 .bsl0,.a1 5 11 3 148]) (.s (.r [.mv 12 0,.mv 13 1,.c1 14 150 [12,13],.a1 6 14 1 9]) (.s (.s (.r [.m1 7 (.i 0)]) (.blk 0 (.loop (.s (.s (.r [.mv 15 7,.mv 16 6,.n1 17 16,.b1 18 .lss 15 17]) (.ce 18 0)) (.s (.blk 1 (.s (.r [.mv 22 1,.mv 23 6,.mv 24 7,.i1 25 1 23 24,.l1 26 1 25,.c1 27 156 [22,26],.mv 21 27,.e1 28 21 0,.e1 29 21 1,.ex 8 (.alloc zE),.s1 3 8 28,.mv 9 29]) (.s (.r [.mv 30 6,.mv 31 7,.i1 32 1 30 31,.l1 33 1 32,.ex 34 (.build [sE,(I 0),sE] [(0,(1,33)),(1,(1,(.i 3)))]),.ex 10 (.alloc [sE,(I 0),sE]),.s1 3 10 34]) (.s (.s (.r [.mv 35 9]) (.cnd 35 (.d [.mv 36 6,.mv 37 7,.i1 38 1 36 37,.l1 39 1 38,.f1 40 2 8,.l1 41 1 40,.ex 42 (.build [sE,(I 0),sE] [(0,(1,39)),(1,(1,(.i 1))),(2,(1,41))]),.s1 3 10 42]) .skip)) (.s (.s (.r [.mv 43 9,.mv 44 43,.g1 45 1 8 44,.g2 46 1 45 44,.p2 47 44 46]) (.cnd 47 (.r [.f1 48 1 10,.nu (.st 1 48 (.i 2))]) .skip)) (.s (.r [.mv 49 9,.mv 50 49,.h3 51 1 50,.h3 52 6 50,.h3 53 7 50,.gf 54 (.ia 1 52 53) 50,.h2 55 1 54 50,.gf 56 (.call 180 [55]) 50,.gf 57 (.call 179 [51,56]) 50,.p1 58 50 57]) (.cnd 58 (.d [.mv 59 5,.l2 60 3 10,.c1 61 176 [59,60],.mv 62 6,.mv 63 7,.i1 64 1 62 63,.l1 65 1 64,.c1 66 177 [61,65],.a1 5 66 3 148]) .skip))))))) (.ic 19 20 7)))))) (.s (.r [.mv 67 5,.a1 4 67 3 148]) .ret)))))
theorem zmg:zc Tryz.prog [] 146=some (zmf.ac,[(.t 4)],68):=by kernel_rfl
theorem zeo (W0:World) (a b:List Ent) (ha:tOk a=true) (hb:tOk b=true):Fn Tryz.prog W0 146 [za a,za b] (.c (ze (jf a b))) []:=by
 have la:=(yu ha).1;have lb:=(yu hb).1;have lt:=zc9 (a:=a) (b:=b);have hok:∀ p∈zZ a b,pOk p=true:=fun p hp=>zhw ha hb hp
 refine fX mixed zmg fun hg=>?_
 refine dr ?_;repeat (refine c0 (zbO W0 _ _ (by omega)) rfl ?_; first|refine dr ?_|exact dz)
 intro hg1;rw [jf];generalize zZ a b=L at *;refine dr ?_;refine lz (σ:=Nat) 80 (fun k=>[(1,.c (za b)),(6,.c (jo L)),(5,.c (ze ((L.take k).foldl (difP b) []))),(7,I k)]) (fun _=>[]) (fun k=>k≤L.length) (fun k=>L.length - k) 0 (by simp) ?_ ?_
 ·refine dr ?_;trivial
 intro k hk;have hlk:=ze6 (b:=b) (L.take k) [];have hlk2:=List.length_take_le' k L;simp only [List.length_nil] at hlk;refine dr ?_;apply cP<;>intro h1
 ·have hk':k < L.length:=by omega
  have hp:=hok _ (List.getElem_mem hk');have hc:=yJ W0 b L[k];have hn:=(ye hp).1.2;have hpl:∀ m,(jH ((L.take k).foldl (difP b) []) m).length≤((L.take k).foldl (difP b) []).length+1:=fun m=>qQ
  cases hx:get b L[k] with
  | none =>
   rw [hx] at hc;refine dr ?_;repeat (refine c0 hc rfl ?_; first|refine dr ?_|exact dz)
   intro hg2;refine dr ?_;repeat ((first|refine c0 (Zb W0 _) rfl ?_|refine c0 (Q4 W0 _ _) rfl ?_); first|refine dr ?_|exact dz)
   intro hg3;apply cP<;>intro h2
   ·refine dEr ?_;repeat ((first|refine c0 (Ju W0 _ ⟨L[k],3,[]⟩ (by omega)) rfl ?_|refine c0 (J4 W0 3 _ _ hp hn (by have:=hpl ⟨L[k],3,[]⟩; omega)) rfl ?_); first|refine dEr ?_|exact dz)
    refine ⟨k+1,by omega,by omega,?_⟩;refine dr ?_;repeat (refine oB (by rw [qX hk',difP,zY,hx]; simp only [if_pos h2]; rfl) ?_; first|refine dr ?_|exact dz)
    trivial
   ·refine dr ?_;refine ⟨k+1,by omega,by omega,?_⟩;refine dr ?_;repeat (refine oB (by rw [qX hk',difP,zY,hx]; simp [h2]) ?_; first|refine dr ?_|exact dz)
    trivial
  | some e =>
   rw [hx] at hc;refine dr ?_;repeat (refine c0 hc rfl ?_; first|refine dr ?_|exact dz)
   intro hg2;refine dr ?_;apply cP<;>intro h2
   ·refine dEr ?_;repeat ((first|refine c0 (Ju W0 _ ⟨L[k],2,e.data⟩ (by omega)) rfl ?_|refine c0 (J4 W0 3 _ _ hp hn (by have:=hpl ⟨L[k],2,e.data⟩; omega)) rfl ?_); first|refine dEr ?_|exact dz)
    refine ⟨k+1,by omega,by omega,?_⟩;refine dr ?_;repeat (refine oB (by rw [qX hk',difP,zY,hx]; simp only [if_pos h2]; rfl) ?_; first|refine dr ?_|exact dz)
    trivial
   ·refine dEr ?_;repeat ((first|refine c0 (Ju W0 _ ⟨L[k],1,e.data⟩ (by omega)) rfl ?_|refine c0 (J4 W0 3 _ _ hp hn (by have:=hpl ⟨L[k],1,e.data⟩; omega)) rfl ?_); first|refine dEr ?_|exact dz)
    refine ⟨k+1,by omega,by omega,?_⟩;refine dr ?_;repeat (refine oB (by rw [qX hk',difP,zY,hx]; simp [h2]; rfl) ?_; first|refine dr ?_|exact dz)
    trivial
 have hkl:k=L.length:=by omega
 refine dr ?_;rw [hkl,List.take_length]
end Go.Proofs.YtopfccpgdldcdaaGreatDoor

namespace Go.Proofs.YtopfccpgdldcdaaGreatDoor
set_option linter.unusedSimpArgs false
set_option linter.unusedVariables false
open Go Go.RowKit
def zmC:XC:=(.s (.r [.x1 1 0,.a2 2 3 46,.m1 3 .n]) (.s (.r [.f1 7 0 1,.l1 8 1 7,.a1 4 8 3 46]) (.s (.s (.r [.mv 9 4,.c1 10 147 [9],.u1 11 10,.mv 12 11,.h1 13 1 1 12,.h2 14 1 13 12,.gf 15 (.len false 14) 12,.gf 16 (.bin .gtr 15 (.i 4)) 12,.p1 17 12 16]) (.cnd 17 (.s (.r [.ex 18 .bsl0,.a1 2 18 3 46,.m1 3 .n]) .ret) .skip)) (.s (.s (.r [.m1 5 (.i 0)]) (.blk 0 (.loop (.s (.s (.r [.mv 19 5,.f1 20 1 1,.l1 21 1 20,.n1 22 21,.b1 23 .lss 19 22]) (.ce 23 0)) (.s (.blk 1 (.s (.r [.m1 6 .n]) (.s (.r [.f1 27 1 1,.l1 28 1 27,.mv 29 5,.i1 30 1 28 29,.l1 31 1 30,.mv 32 4,.c1 33 92 [31,32],.mv 26 33,.e1 34 26 0,.e1 35 26 1,.a1 4 34 3 46,.mv 6 35]) (.s (.r [.mv 36 6,.u1 37 36]) (.cnd 37 (.s (.r [.ex 38 .bsl0,.a1 2 38 3 46,.m1 3 .n]) .ret) .skip))))) (.ic 24 25 5)))))) (.s (.r [.ex 39 .bsl0,.mv 40 4,.ex 41 (.app true 3 40 46 39 40),.a1 2 41 3 46,.m1 3 .y]) .ret)))))
theorem zmD:zc Tryz.prog [] 91=some (zmC.ac,[(.t 2),(.t 3)],42):=by kernel_rfl
theorem zbQ (W0:World) (o:Over):Fn Tryz.prog W0 91 [jR o] (.c (Jr (jy o))) []:=by
 refine fX mixed zmD fun hg=>?_
 refine dEr ?_;repeat (refine c0 (zbT W0 _) rfl ?_; first|refine dEr ?_|exact dz)
 apply cP<;>intro h1
 ·refine dr ?_;rw [jy,if_neg (by simp [h1])]; rfl
 refine dr ?_;apply cP<;>intro h2
 ·refine dr ?_;rw [jy,if_neg (by omega)]; rfl
 rw [jy,if_pos ⟨h1,by omega⟩];refine dr ?_;refine lp2 (fun (k:Nat) (t:List Ent)=>[(1,.ptr 16 0),(4,.c (za t)),(5,I k)]) (fun _ _=>[(16,.box [.c (za o.base),.c (zy o.layers),.c (ze o.upper)])]) (fun k t=>k≤o.layers.length∧jE (o.layers.take k) o.base=some t∧tOk t=true) (fun k _=>o.layers.length - k) 0 o.base ⟨by simp,rfl,h1⟩ ?_ ?_
 ·refine dr ?_;trivial
 rintro k t ⟨hk,ha,ht⟩;refine dr ?_;apply cP<;>intro h3
 ·have hk':k < o.layers.length:=by omega
  have hn:jE (o.layers.take (k+1)) o.base=lOn o.layers[k] t:=by
   rw [List.take_succ_eq_append_getElem hk',Ql,ha];simp only [jE];cases lOn o.layers[k] t<;>rfl
  have hc:=zez W0 o.layers[k] t;cases hx:lOn o.layers[k] t with
  | none =>
   rw [hx] at hc;refine dr ?_;repeat (refine c0 hc rfl ?_; first|refine dr ?_|exact dz)
   intro hg1;refine dr ?_;have:jE o.layers o.base=none:=by
    have e:o.layers=o.layers.take (k+1)++o.layers.drop (k+1):=by rw [List.take_append_drop]
    rw [e,Ql,hn,hx]
   rw [this]; rfl
  | some t' =>
   rw [hx] at hc;refine dr ?_;repeat (refine c0 hc rfl ?_; first|refine dr ?_|exact dz)
   intro hg1;refine dr ?_;refine ⟨k+1,t',⟨by omega,by rw [hn,hx],Qj hx⟩,by omega,?_⟩;refine dr ?_;trivial
 have hkl:k=o.layers.length:=by omega
 rw [hkl,List.take_length] at ha;have hl:=(yu ht).1;refine dr ?_;repeat (refine oB (by simp; omega) ?_; first|refine dr ?_|exact dz)
 rw [ha]; rfl
def zmG:XC:=(.s (.r [.x1 1 0,.a2 2 3 46,.m1 3 .n]) (.s (.r [.l2 7 3 1,.c1 8 91 [7],.mv 6 8,.e1 9 6 0,.e1 10 6 1,.a1 4 9 3 46,.mv 5 10]) (.s (.s (.r [.mv 11 5,.u1 12 11]) (.cnd 12 (.s (.r [.ex 13 .bsl0,.a1 2 13 3 46,.m1 3 .n]) .ret) .skip)) (.s (.r [.f1 14 2 1,.l1 15 1 14,.mv 16 4,.c1 17 92 [15,16],.e1 18 17 0,.e1 19 17 1,.a1 2 18 3 46,.mv 3 19]) .ret))))
theorem zmH:zc Tryz.prog [] 36=some (zmG.ac,[(.t 2),(.t 3)],20):=by kernel_rfl
theorem y9 (W0:World) (o:Over):Fn Tryz.prog W0 36 [jR o] (.c (Jr (z7 o))) []:=by
 refine fX mixed zmH fun hg=>?_
 have hc:=zbQ W0 o;cases hx:jy o with
 | none =>
  rw [hx] at hc;refine dr ?_;repeat (refine c0 hc rfl ?_; first|refine dr ?_|exact dz)
  intro hg1;refine dr ?_;rw [z7,hx]; rfl
 | some t =>
  rw [hx] at hc;have hv:z7 o=lOn o.upper t:=by rw [z7,hx]
  have hc2:=zez W0 o.upper t;rw [hv];cases hy:lOn o.upper t with
  | none =>
   rw [hy] at hc2;refine dr ?_;repeat (refine c0 hc rfl ?_; first|refine dr ?_|exact dz)
   intro hg1;refine dr ?_;repeat (refine c0 hc2 rfl ?_; first|refine dr ?_|exact dz)
   intro hg2;refine dr ?_;rfl
  | some x =>
   rw [hy] at hc2;refine dr ?_;repeat (refine c0 hc rfl ?_; first|refine dr ?_|exact dz)
   intro hg1;refine dr ?_;repeat (refine c0 hc2 rfl ?_; first|refine dr ?_|exact dz)
   intro hg2;refine dr ?_;rfl
def zkT:XC:=(.s (.r [.x1 1 0,.m1 2 .n]) (.s (.r [.l2 8 3 1,.c1 9 91 [8],.mv 7 9,.e1 10 7 0,.e1 11 7 1,.a1 3 10 3 46,.mv 4 11]) (.s (.r [.l2 13 3 1,.c1 14 36 [13],.mv 12 14,.e1 15 12 0,.e1 16 12 1,.a1 5 15 3 46,.mv 6 16]) (.s (.d [.mv 17 4,.mv 18 17,.g3 19 6 18,.p2 20 18 19,.mv 21 20,.g1 22 2 1 21,.g2 23 1 22 21,.g3 24 3 21,.g3 25 5 21,.gt 26 (.call 146 [24,25]) 21,.gt 27 (.call 145 [23,26]) 21,.p2 28 21 27,.mv 2 28]) .ret))))
theorem zkU:zc Tryz.prog [] 89=some (zkT.ac,[(.t 2)],29):=by kernel_rfl
theorem J7 (W0:World) (o:Over):Fn Tryz.prog W0 89 [jR o] (.c (CB (oOk o))) []:=by
 refine fX mixed zkU fun hg=>?_
 have hc:=zbQ W0 o;have hc2:=y9 W0 o;cases hx:jy o with
 | none =>
  have hv:z7 o=none:=by rw [z7,hx]
  rw [hx] at hc;rw [hv] at hc2;refine dr ?_;repeat (refine c0 hc rfl ?_; first|refine dr ?_|exact dz)
  intro hg1;refine dr ?_;repeat (refine c0 hc2 rfl ?_; first|refine dr ?_|exact dz)
  intro hg2;refine dr ?_;rw [oOk,hx]
 | some t =>
  rw [hx] at hc;cases hy:z7 o with
  | none =>
   rw [hy] at hc2;refine dr ?_;repeat (refine c0 hc rfl ?_; first|refine dr ?_|exact dz)
   intro hg1;refine dr ?_;repeat (refine c0 hc2 rfl ?_; first|refine dr ?_|exact dz)
   intro hg2;refine dr ?_;rw [oOk,hx,hy]
  | some x =>
   rw [hy] at hc2;refine dr ?_;repeat (refine c0 hc rfl ?_; first|refine dr ?_|exact dz)
   intro hg1;refine dr ?_;repeat (refine c0 hc2 rfl ?_; first|refine dr ?_|exact dz)
   intro hg2;refine dr ?_;repeat ((first|refine c0 (zeo W0 t x (zaH hx) (YA hy)) rfl ?_|refine c0 (zqa W0 _ _) rfl ?_); first|refine dr ?_|exact dz)
   intro hg3;refine dr ?_;rw [oOk,hx,hy]
def zkX:XC:=(.s (.r [.x1 1 0,.a2 2 3 46,.m1 3 .n]) (.s (.s (.r [.l2 4 3 1,.c1 5 89 [4],.u1 6 5]) (.cnd 6 (.s (.r [.ex 7 .bsl0,.a1 2 7 3 46,.m1 3 .n]) .ret) .skip)) (.s (.r [.l2 8 3 1,.c1 9 36 [8],.e1 10 9 0,.e1 11 9 1,.a1 2 10 3 46,.mv 3 11]) .ret)))
theorem zkY:zc Tryz.prog [] 42=some (zkX.ac,[(.t 2),(.t 3)],12):=by kernel_rfl
theorem zqe (W0:World) (o:Over):Fn Tryz.prog W0 42 [jR o] (.c (Jr (if oOk o=true then z7 o else none))) []:=by
 refine fX mixed zkY fun hg=>?_
 refine dEr ?_;repeat (refine c0 (J7 W0 _) rfl ?_; first|refine dEr ?_|exact dz)
 apply cP<;>intro h1
 ·refine dr ?_;rw [if_neg (by simp [h1])]; rfl
 rw [if_pos h1];have hc:=y9 W0 o;cases hy:z7 o with
 | none =>
  rw [hy] at hc;refine dr ?_;repeat (refine c0 hc rfl ?_; first|refine dr ?_|exact dz)
  intro hg1;refine dr ?_;rfl
 | some x =>
  rw [hy] at hc;refine dr ?_;repeat (refine c0 hc rfl ?_; first|refine dr ?_|exact dz)
  intro hg1;refine dr ?_;rfl
end Go.Proofs.YtopfccpgdldcdaaGreatDoor

namespace Go.Proofs.YtopfccpgdldcdaaGreatDoor
set_option linter.unusedSimpArgs false
set_option linter.unusedVariables false
open Go Go.RowKit
def zmd:XC:=(.s (.r [.m1 4 (.i 0)]) (.s (.s (.r [.mv 5 0,.b1 6 .eql 5 (.i 2),.mv 7 6,.g3 8 1 7,.gt 9 (.bin .neq 8 (.i 0)) 7,.p2 10 7 9,.mv 11 10,.g3 12 1 11,.gt 13 (.bin .neq 12 (.i 2)) 11,.p2 14 11 13]) (.cnd 14 (.s (.r [.m1 4 (.i 4)]) .ret) .skip)) (.s (.r [.mv 15 0,.mv 4 15]) .ret)))
theorem zme:zc Tryz.prog [] 239=some (zmd.ac,[(.t 4)],16):=by kernel_rfl
theorem zpm (W0:World) (a b:Int):Fn Tryz.prog W0 239 [CI a,CI b] (.c (CI (qu a b))) []:=by
 refine fX mixed zme fun hg=>?_
 refine dr ?_;apply cP<;>intro h1
 ·refine dr ?_;apply cP<;>intro h2
  ·refine dr ?_;apply cP<;>intro h3
   ·refine dr ?_;exact congrArg CI (by rw [qu,if_pos ⟨h1,h2,h3⟩])
   ·refine dr ?_;exact congrArg CI (by rw [qu,if_neg (fun h=>h.2.2 h3)])
  ·refine dr ?_;exact congrArg CI (by rw [qu,if_neg (fun h=>h.2.1 h2)])
 ·refine dr ?_;exact congrArg CI (by rw [qu,if_neg (fun h=>h1 h.1)])
def zmx:XC:=(.s (.r [.a2 2 3 148]) (.s (.r [.ex 6 .bsl0,.a1 3 6 3 148]) (.s (.s (.r [.m1 4 (.i 0)]) (.blk 0 (.loop (.s (.s (.r [.mv 7 4,.mv 8 0,.n1 9 8,.b1 10 .lss 7 9]) (.ce 10 0)) (.s (.blk 1 (.s (.r [.mv 13 0,.mv 14 4,.i1 15 3 13 14,.l2 16 3 15,.ex 5 (.alloc [sE,(I 0),sE]),.s1 3 5 16]) (.s (.s (.r [.mv 17 3,.f1 18 0 5,.l1 19 1 18,.c1 20 183 [17,19]]) (.cnd 20 (.s (.s (.r [.f1 21 1 5,.l1 22 1 21,.b1 23 .eql 22 (.i 3)]) (.cnd 23 (.exit 1) .skip)) (.s (.r [.f1 24 1 5,.l1 25 1 24,.b1 26 .eql 25 (.i 4)]) (.cnd 26 (.r [.f1 27 1 5,.nu (.st 1 27 (.i 2))]) .skip))) .skip)) (.r [.mv 28 3,.l2 29 3 5,.ex 30 (.bsl 3 148 [29]),.ex 31 (.app false 3 40 148 28 30),.a1 3 31 3 148])))) (.ic 11 12 4)))))) (.s (.r [.mv 32 3,.a1 2 32 3 148]) .ret))))
theorem zmy:zc Tryz.prog [] 218=some (zmx.ac,[(.t 2)],33):=by kernel_rfl
theorem ztd {out:List Mark} {m:Mark}:(qy out m).length≤out.length+1:=by
 unfold qy; split
 ·split<;>simp
 ·simp
theorem zpr (W0:World) (l:List Mark) (hl:l.length≤1000000):Fn Tryz.prog W0 218 [ze l] (.c (ze (l.foldl qy []))) []:=by
 refine fX mixed zmy fun hg=>?_
 refine dr ?_;refine lp2 (fun (k:Nat) (out:List Mark)=>[(0,.c (ze l)),(3,.own 48 out.length),(4,I k)]) (fun _ out=>[(48,.row (out.map ql) 3 148)]) (fun k out=>k≤l.length∧out=(l.take k).foldl qy []∧out.length≤k) (fun k _=>l.length - k) 0 [] ⟨by simp,rfl,by simp⟩ ?_ ?_
 ·refine dr ?_;trivial
 rintro k out ⟨hk,ho,hle⟩;refine dr ?_;apply cP<;>intro h1
 ·have hk':k < l.length:=by omega
  have hn:(l.take (k+1)).foldl qy []=qy out l[k]:=by rw [qX hk',← ho]
  have hn2:(qy out l[k]).length≤k+1:=by have:=ztd (out:=out) (m:=l[k]); omega
  refine dr ?_;repeat (refine c0 (Q6 W0 out _) rfl ?_; first|refine dr ?_|exact dz)
  apply cP<;>intro h2
  ·refine dr ?_;apply cP<;>intro h3
   ·refine dr ?_;have e:qy out l[k]=out:=by rw [qy,if_pos h2,if_pos h3]
    refine ⟨k+1,out,⟨by omega,by rw [hn,e],by omega⟩,by omega,?_⟩;refine dr ?_;trivial
   ·refine dr ?_;apply cP<;>intro h4
    ·refine dr ?_;repeat ((first|refine oB (by simp; omega) ?_|refine oB (by simp) ?_); first|refine dr ?_|exact dz)
     have e:qy out l[k]=out++[⟨l[k].path,2,l[k].data⟩]:=by rw [qy,if_pos h2,if_neg h3,if_pos h4]
     refine ⟨k+1,out++[⟨l[k].path,2,l[k].data⟩],⟨by omega,by rw [hn,e],by simp; omega⟩,by omega,?_⟩;refine dr ?_;repeat (refine oB (by simp<;>rfl) ?_; first|refine dr ?_|exact dz)
     trivial
    ·refine dr ?_;repeat ((first|refine oB (by simp; omega) ?_|refine oB (by simp) ?_); first|refine dr ?_|exact dz)
     have e:qy out l[k]=out++[l[k]]:=by rw [qy,if_pos h2,if_neg h3,if_neg h4]
     refine ⟨k+1,out++[l[k]],⟨by omega,by rw [hn,e],by simp; omega⟩,by omega,?_⟩;refine dr ?_;repeat (refine oB (by simp<;>rfl) ?_; first|refine dr ?_|exact dz)
     trivial
  ·refine dr ?_;repeat ((first|refine oB (by simp; omega) ?_|refine oB (by simp) ?_); first|refine dr ?_|exact dz)
   have e:qy out l[k]=out++[l[k]]:=by rw [qy,if_neg (by simp [h2])]
   refine ⟨k+1,out++[l[k]],⟨by omega,by rw [hn,e],by simp; omega⟩,by omega,?_⟩;refine dr ?_;repeat (refine oB (by simp<;>rfl) ?_; first|refine dr ?_|exact dz)
   trivial
 have hkl:k=l.length:=by omega
 rw [hkl,List.take_length] at ho;refine dr ?_;repeat (refine oB (by simp) ?_; first|refine dr ?_|exact dz)
 rw [ho]; rfl
def zmn:XC:=(.s (.r [.a2 4 3 148]) (.s (.r [.ex 9 .bsl0,.a1 5 9 3 148]) (.s (.s (.r [.m1 6 (.i 0)]) (.blk 0 (.loop (.s (.s (.r [.mv 10 6,.mv 11 1,.n1 12 11,.b1 13 .lss 10 12]) (.ce 13 0)) (.s (.blk 1 (.s (.r [.mv 16 0,.mv 17 1,.mv 18 6,.i1 19 3 17 18,.f1 20 0 19,.l1 21 1 20,.c1 22 184 [16,21],.u1 23 22,.mv 24 23,.g3 25 0 24,.g3 26 1 24,.g3 27 6 24,.gt 28 (.ia 3 26 27) 24,.g1 29 0 28 24,.g2 30 1 29 24,.gt 31 (.call 217 [25,30]) 24,.gt 32 (.bin .eql 31 (.i 0)) 24,.p2 33 24 32]) (.cnd 33 (.r [.mv 34 5,.mv 35 1,.mv 36 6,.i1 37 3 35 36,.l2 38 3 37,.c1 39 176 [34,38],.a1 5 39 3 148]) .skip))) (.ic 14 15 6)))))) (.s (.s (.r [.m1 7 (.i 0)]) (.blk 2 (.loop (.s (.s (.r [.mv 40 7,.mv 41 0,.n1 42 41,.b1 43 .lss 40 42]) (.ce 43 2)) (.s (.blk 3 (.s (.r [.mv 46 0,.mv 47 7,.i1 48 3 46 47,.l2 49 3 48,.ex 8 (.alloc [sE,(I 0),sE]),.s1 3 8 49]) (.s (.d [.f1 50 1 8,.l1 51 1 50,.mv 52 1,.f1 53 0 8,.l1 54 1 53,.c1 55 217 [52,54],.c1 56 239 [51,55],.f1 57 1 8,.s1 1 57 56]) (.r [.mv 58 5,.l2 59 3 8,.c1 60 176 [58,59],.a1 5 60 3 148])))) (.ic 44 45 7)))))) (.s (.r [.mv 61 5,.a1 4 61 3 148]) .ret)))))
theorem zmo:zc Tryz.prog [] 219=some (zmn.ac,[(.t 4)],62):=by kernel_rfl
theorem zpo (W0:World) (a b:List Mark) (hl:a.length+b.length≤1000000):Fn Tryz.prog W0 219 [ze a,ze b] (.c (ze (qp a b))) []:=by
 refine fX mixed zmo fun hg=>?_
 refine dr ?_;refine lz2 80 (fun (k:Nat) (out:List Mark)=>[(0,.c (ze a)),(1,.c (ze b)),(5,.c (ze out)),(6,I k)]) (fun _ _=>[]) (fun k out=>k≤b.length∧out=((b.take k).filter (qk a)).foldl jH []∧out.length≤k) (fun k _=>b.length - k) 0 [] ⟨by simp,rfl,by simp⟩ ?_ ?_
 ·refine dr ?_;trivial
 rintro k out ⟨hk,ho,hle⟩;refine dr ?_;apply cP<;>intro h1
 ·have hk':k < b.length:=by omega
  have no:qk a b[k]=false→out=((b.take (k+1)).filter (qk a)).foldl jH []:=fun h=>by rw [qe hk' h,ho]
  have yes:qk a b[k]=true→jH out b[k]=((b.take (k+1)).filter (qk a)).foldl jH []:=fun h=>by rw [qx hk' h,List.foldl_append,← ho]; rfl
  refine dEr ?_;repeat (refine c0 (zep W0 _ _) rfl ?_; first|refine dEr ?_|exact dz)
  apply cP<;>intro h2
  ·refine dEr ?_;repeat (refine c0 (zad W0 _ _) rfl ?_; first|refine dEr ?_|exact dz)
   apply cP<;>intro h3
   ·have hpl:(jH out b[k]).length≤out.length+1:=qQ;refine dEr ?_;repeat (refine c0 (Ju W0 _ b[k] (by omega)) rfl ?_; first|refine dEr ?_|exact dz)
    refine ⟨k+1,jH out b[k],⟨by omega,yes (by simp [qk,h2,h3]),by omega⟩,by omega,?_⟩;refine dr ?_;trivial
   ·refine dr ?_;refine ⟨k+1,out,⟨by omega,no (by simp [qk,h3]),by omega⟩,by omega,?_⟩;refine dr ?_;trivial
  ·refine dr ?_;refine ⟨k+1,out,⟨by omega,no (by simp [qk,h2]),by omega⟩,by omega,?_⟩;refine dr ?_;trivial
 have hkl:k=b.length:=by omega
 rw [hkl,List.take_length] at ho;have hj:qp a b=(a.map (jY b)).foldl jH out:=by rw [qp,ho]
 rw [hj];have hob:out.length≤b.length:=by omega
 clear ho hk hle hj h1 hkl;generalize hoo:out=o0 at *;refine dr ?_;refine lp2 (fun (k:Nat) (out:List Mark)=>[(0,.c (ze a)),(1,.c (ze b)),(5,.c (ze out)),(7,I k)]) (fun _ _=>[]) (fun k out=>k≤a.length∧out=((a.take k).map (jY b)).foldl jH o0∧out.length≤o0.length+k) (fun k _=>a.length - k) 0 o0 ⟨by simp,rfl,by simp⟩ ?_ ?_
 ·refine dr ?_;trivial
 clear hoo;rintro k out ⟨hk,ho,hle⟩;refine dr ?_;apply cP<;>intro h1
 ·have hk':k < a.length:=by omega
  have hn:((a.take (k+1)).map (jY b)).foldl jH o0=jH out (jY b a[k]):=by
   rw [List.take_succ_eq_append_getElem hk',List.map_append,List.foldl_append,← ho]; rfl
  have hpl:(jH out (jY b a[k])).length≤out.length+1:=qQ;refine dEr ?_;repeat ((first|refine c0 (zad W0 _ _) rfl ?_|refine c0 (zpm W0 _ _) rfl ?_|refine c0 (Ju W0 _ (jY b a[k]) (by omega)) rfl ?_); first|refine dEr ?_|exact dz)
  refine ⟨k+1,_,⟨by omega,hn.symm,by omega⟩,by omega,?_⟩;refine dr ?_;trivial
 have hkl:k=a.length:=by omega
 rw [hkl,List.take_length] at ho;refine dr ?_;rw [ho]
def zkF:XC:=(.s (.r [.a2 4 3 148,.m1 5 .n]) (.s (.s (.r [.mv 7 0,.c1 8 148 [7],.u1 9 8,.mv 10 9,.h3 11 1 10,.gf 12 (.call 148 [11]) 10,.gf 13 (.un .not 12) 10,.p1 14 10 13]) (.cnd 14 (.s (.r [.ex 15 .bsl0,.a1 4 15 3 148,.m1 5 .n]) .ret) .skip)) (.s (.r [.mv 16 0,.mv 17 1,.c1 18 219 [16,17],.c1 19 218 [18],.a1 6 19 3 148]) (.s (.s (.r [.mv 20 6,.n1 21 20,.b1 22 .gtr 21 (.i 32)]) (.cnd 22 (.s (.r [.ex 23 .bsl0,.a1 4 23 3 148,.m1 5 .n]) .ret) .skip)) (.s (.r [.mv 24 6,.a1 4 24 3 148,.m1 5 .y]) .ret)))))
theorem zkG:zc Tryz.prog [] 178=some (zkF.ac,[(.t 4),(.t 5)],25):=by kernel_rfl
theorem zp9 (W0:World) (a b:List Mark):Fn Tryz.prog W0 178 [ze a,ze b] (.c (eMarksO (yn a b))) []:=by
 refine fX mixed zkG fun hg=>?_
 refine dEr ?_;repeat (refine c0 (Q7 W0 _) rfl ?_; first|refine dEr ?_|exact dz)
 apply cP<;>intro h1
 ·refine dEr ?_;rw [yn,if_neg (by simp [h1])]; rfl
 refine dEr ?_;repeat (refine c0 (Q7 W0 _) rfl ?_; first|refine dEr ?_|exact dz)
 apply cP<;>intro h2
 ·refine dr ?_;rw [yn,if_neg (by simp [h2])]; rfl
 have ga:=LG.of h1;have gb:=LG.of h2;have hla:=(ju.1 h1).1;have hlb:=(ju.1 h2).1;have hjl:(qp a b).length≤1000000:=by
  have e1:(qp a b).length≤((b.filter (qk a)).foldl jH []).length+(a.map (jY b)).length:=Qb (key:=Mark.path) (a.map (jY b)) ((b.filter (qk a)).foldl jH []);have e2:((b.filter (qk a)).foldl jH []).length≤0+(b.filter (qk a)).length:=Qb (key:=Mark.path) (b.filter (qk a)) [];have e3:=List.length_filter_le (qk a) b;rw [List.length_map] at e1;omega
 have hc:=zpr W0 (qp a b) hjl;rw [zte (Yc ga gb)] at hc;have e:yn a b=if (qZ a b).length≤32 then some (qZ a b) else none:=by rw [yn,if_pos (by simp [h1,h2])]
 rw [e];unfold qZ at *;refine dr ?_;repeat ((first|refine c0 (zpo W0 _ _ (by omega)) rfl ?_|refine c0 hc rfl ?_); first|refine dr ?_|exact dz)
 intro hg3 hg4;refine dr ?_;apply cP<;>intro h3
 ·refine dr ?_;rw [if_neg (by omega)]; rfl
 ·refine dr ?_;rw [if_pos (by omega)]; rfl
end Go.Proofs.YtopfccpgdldcdaaGreatDoor

namespace Go.Proofs.YtopfccpgdldcdaaGreatDoor
set_option linter.unusedSimpArgs false
set_option linter.unusedVariables false
open Go Go.RowKit
theorem aCode {k:Int} {s:Str} {K:CV→Prop} (h1:0≤k) (h2:k < s.length) (h:∀ n:Int,0≤n→n≤255→K (CU n)):AtX k (s.map fun b=>CU b.toNat) K:=by
 have hk:k.toNat < s.length:=by omega
 refine ⟨k.toNat,by omega,_,?_,h (s[k.toNat].toNat:Int) (by omega) ?_⟩
 ·rw [List.getElem?_map,List.getElem?_eq_getElem hk]; rfl
 ·have:=UInt8.toNat_lt s[k.toNat]; omega
theorem aX {α:Type} {f:α→CV} {L:List α} {k:Int} {K:CV→Prop} (h1:0≤k) (h2:k < L.length) (h:∀ x∈L,K (f x)):AtX k (L.map f) K:=by
 have hk:k.toNat < L.length:=by omega
 exact ⟨k.toNat,by omega,_,by rw [List.getElem?_map,List.getElem?_eq_getElem hk]; rfl,h _ (List.getElem_mem hk)⟩
theorem ztt {a b:Int} (ha:0≤a) (ha2:a < 4611686018427387904) (hb:0≤b) (hb2:b < 4611686018427387904):0≤IntKind.wrap .i64 ((BitVec.ofInt (IntKind.bits .i64) a ^^^ BitVec.ofInt (IntKind.bits .i64) b).toNat:Int):=by
 have e:∀ x:Int,0≤x→x < 4611686018427387904→(BitVec.ofInt 64 x).toNat=x.toNat:=fun x h1 h2=>by
  rw [BitVec.toNat_ofInt]; omega
 show 0≤IntKind.wrap .i64 ((BitVec.ofInt 64 a ^^^ BitVec.ofInt 64 b).toNat:Int);rw [BitVec.toNat_xor,e a ha ha2,e b hb hb2];have h:a.toNat ^^^ b.toNat < 2 ^ 62:=Nat.xor_lt_two_pow (by omega) (by omega);rw [zhK (by omega)];omega
theorem retI {k0:List Nat} {m:XM} {ok:Int→Prop} {M:Int→XM} {x:Int} (h:ok x) (hk:zn k0 none [(0,.c (CI x))] m [(0,.c (CI x))] (M x)):RetX k0 (.c (CI x)) m (fun r mx=>∃ a,ok a∧r = .c (CI a)∧mx=M a):=⟨none,_,_,hk,x,h,rfl,rfl⟩
theorem JW {k0:List Nat} {a:(Fr→XM→Prop)→Fr→XM→Prop} {b:Fr→XM→Prop} {F:Fr} {m:XM} {α β:Type} (fr:α→β→Fr) (mm:α→β→XM) (inv:α→β→Prop)
  (ha:a (fun F' m'=>∃ x y,inv x y∧zn k0 none F' m' (fr x y) (mm x y)) F m) (hb:∀ x y,inv x y→b (fr x y) (mm x y)):CutX k0 a b F m :=
 ⟨α × β,fun x=>fr x.1 x.2,fun x=>mm x.1 x.2,fun x=>inv x.1 x.2,none,fun F' m'=>∃ x y,inv x y∧zn k0 none F' m' (fr x y) (mm x y),ha,fun _ _ ⟨x,y,h⟩=>⟨(x,y),h⟩,fun x h=>hb x.1 x.2 h⟩
theorem lz3 {k0:List Nat} {body:(Fr→XM→Prop)→Fr→XM→Prop} {F:Fr} {m:XM} {α β γ:Type} (z:Nat) (fr:α→β→γ→Fr) (mm:α→β→γ→XM) (inv:α→β→γ→Prop) (me:α→β→γ→Nat) (a0:α) (b0:β) (c0:γ) (h0:inv a0 b0 c0) (hk:zn k0 (some z) F m (fr a0 b0 c0) (mm a0 b0 c0))
  (hb:∀ a b c,inv a b c→body (fun F' m'=>∃ a' b' c',inv a' b' c'∧me a' b' c' < me a b c∧zn k0 none F' m' (fr a' b' c') (mm a' b' c')) (fr a b c) (mm a b c)):LoopX k0 body F m :=
 ⟨α × β × γ,fun x=>fr x.1 x.2.1 x.2.2,fun x=>mm x.1 x.2.1 x.2.2,fun x=>inv x.1 x.2.1 x.2.2,fun x=>me x.1 x.2.1 x.2.2,some z,none,fun x F' m'=>∃ a' b' c',inv a' b' c'∧me a' b' c' < me x.1 x.2.1 x.2.2∧zn k0 none F' m' (fr a' b' c') (mm a' b' c'),
  ⟨(a0,b0,c0),h0,hk⟩,fun _ _ _ ⟨a,b,c,h⟩=>⟨(a,b,c),h⟩,fun x h=>hb x.1 x.2.1 x.2.2 h⟩
abbrev Rd (s:Str) (p:Int):XM:=[(1,.box [.c (qr s),.c (CI p)])]
def zkx:XC:=(.s (.r [.m1 4 (.i 0)]) (.s (.r [.mv 7 0,.mv 8 0,.k1 9 8,.f1 10 1 9,.l1 11 1 10,.b1 12 .add 11 (.i 1),.k1 13 7,.f1 14 1 13,.s1 1 14 12]) (.s (.s (.r [.mv 15 1,.b1 16 .lss 15 (.i 1),.mv 17 16,.h3 18 0 17,.gf 19 (.nck 18) 17,.h1 20 0 19 17,.h2 21 1 20 17,.gf 22 (.len false 21) 17,.gf 23 (.bin .eql 22 (.i 0)) 17,.p1 24 17 23]) (.cnd 24 (.s (.r [.m1 4 (.i 0)]) .ret) .skip)) (.s (.r [.mv 25 0,.k1 26 25,.f1 27 1 26,.l1 28 1 27,.b1 29 .sub 28 (.i 1),.mv 5 29]) (.s (.s (.r [.mv 30 5,.mv 31 0,.k1 32 31,.f1 33 0 32,.l1 34 1 33,.n1 35 34,.b1 36 .lss 30 35]) (.cnd 36 (.s (.r [.mv 37 0,.k1 38 37,.f1 39 0 38,.l1 40 1 39,.mv 41 5,.i1 42 1 40 41,.l1 43 1 42,.ex 44 (.conv .i64 43),.mv 45 1,.b1 46 .rem 44 45,.mv 4 46]) .ret) .skip)) (.s (.d [.mv 47 0,.k1 48 47,.f1 49 0 48,.l1 50 1 49,.mv 51 5,.mv 52 0,.k1 53 52,.f1 54 0 53,.l1 55 1 54,.n1 56 55,.b1 57 .rem 51 56,.i1 58 1 50 57,.l1 59 1 58,.ex 60 (.conv .i64 59),.b1 61 .mul 60 (.i 131),.mv 62 0,.k1 63 62,.f1 64 0 63,.l1 65 1 64,.mv 66 5,.b1 67 .mul 66 (.i 7),.b1 68 .add 67 (.i 3),.mv 69 0,.k1 70 69,.f1 71 0 70,.l1 72 1 71,.n1 73 72,.b1 74 .rem 68 73,.i1 75 1 65 74,.l1 76 1 75,.ex 77 (.conv .i64 76),.b1 78 .mul 77 (.i 1117),.b1 79 .add 61 78,.mv 80 5,.b1 81 .mul 80 (.i 29),.b1 82 .add 79 81,.mv 83 5,.mv 84 0,.k1 85 84,.f1 86 0 85,.l1 87 1 86,.n1 88 87,.b1 89 .quo 83 88,.b1 90 .mul 89 (.i 53),.b1 91 .add 82 90,.mv 6 91]) (.s (.r [.mv 92 6,.mv 93 6,.b1 94 .quo 93 (.i 64),.b1 95 .xor 92 94,.mv 6 95]) (.s (.r [.mv 96 6,.mv 97 1,.b1 98 .rem 96 97,.mv 4 98]) .ret))))))))
theorem zky:zc Tryz.prog [] 38=some (zkx.ac,[(.t 4)],99):=by kernel_rfl
theorem zX (W0:World) (s:Str) (p n:Int) (hs:s.length≤2000) (hp:0≤p∧p≤1000000) (hn:n≤1000000) :
  zw Tryz.prog W0 38 [.ptr 1 0,.c (CI n)] (Rd s p) (fun k:Int=>0≤k∧(1≤n→k < n)) (fun k => .c (CI k)) (fun _=>Rd s (p+1)):=by
 refine fW mixed zky fun hg=>?_
 refine dr ?_;apply cP<;>intro h1
 ·refine dr ?_;refine retI (x:=0) ⟨by omega,by omega⟩ ?_;refine dr ?_;trivial
 refine dr ?_;apply cP<;>intro h2
 ·refine dr ?_;refine retI (x:=0) ⟨by omega,by omega⟩ ?_;refine dr ?_;trivial
 have fin:∀ x:Int,0≤x % n∧(1≤n→x % n < n):=fun x=>⟨Int.emod_nonneg _ (by omega),fun _=>Int.emod_lt_of_pos _ (by omega)⟩
 have hl:0 < (s.length:Int):=by omega
 have hq:0≤(p+1 - 1) / (s.length:Int)∧(p+1 - 1) / (s.length:Int)≤p+1 - 1:=⟨Int.ediv_nonneg (by omega) (by omega),Int.ediv_le_self _ (by omega)⟩;refine dr ?_;apply cP<;>intro h3
 ·refine dr ?_;repeat (refine aCode (by omega) (by omega) fun v hv0 hv1=>?_; first|refine dr ?_|exact dz)
  refine retI (fin v) ?_;refine dr ?_;trivial
 ·refine dr ?_;repeat ((first|refine aCode (Int.emod_nonneg _ (by omega)) (Int.emod_lt_of_pos _ (by omega)) fun v hv0 hv1=>?_|refine oB ⟨ztt (by omega) (by omega) (by omega) (by omega),by omega,by omega⟩ ?_); first|refine dr ?_|exact dz)
  refine retI (fin _) ?_;refine dr ?_;trivial
def zll:XC:=(.s (.r [.ex 2 (.mv (.k .np))]) (.s (.s (.r [.mv 3 0,.n1 4 3,.b1 5 .gtr 4 (.i 2000)]) (.cnd 5 (.r [.mv 6 0,.ex 7 (.slr 1 6 .none (.some (.i 2000))),.a1 0 7 1 5]) .skip)) (.s (.r [.mv 8 0,.ex 9 (.build [.nil,(I 0)] [(0,(1,8))]),.x1 10 9,.mv 2 10]) .ret)))
theorem zlm:zc Tryz.prog [] 33=some (zll.ac,[(.t 2)],11):=by kernel_rfl
theorem zpb (W0:World) (s:Str):zw Tryz.prog W0 33 [.c (qr s)] [] (fun x:Str=>x.length≤2000) (fun _ => .ptr 160 0) (fun x=>[(160,.box [.c (qr x),.c (CI 0)])]):=by
 refine fW mixed zlm fun hg=>?_
 refine dr ?_;apply cP<;>intro h1
 ·refine dr ?_;repeat (refine sHiM 2000 rfl (by omega) ?_; first|refine dr ?_|exact dz)
  refine ⟨none,_,_,?_,s.take 2000,by simp; omega,rfl,rfl⟩;refine dr ?_;trivial
 ·refine dr ?_;refine ⟨none,_,_,?_,s,by omega,rfl,rfl⟩;refine dr ?_;trivial
theorem zpa (W0:World) (s:Str):zw Tryz.prog W0 33 [.c (qr s)] [] (fun x:Str=>x.length≤2000) (fun _ => .ptr 1 0) (fun x=>Rd x 0):=(zpb W0 s).swp 160 1
def zkz:XC:=(.s (.r [.m1 4 (.i 0)]) (.s (.r [.mv 5 1,.mv 6 0,.mv 7 1,.n1 8 7,.o1 9 38 [6,8],.i1 10 1 5 9,.l1 11 1 10,.mv 4 11]) .ret))
theorem zkA:zc Tryz.prog [38] 68=some (zkz.ac,[(.t 4)],12):=by kernel_rfl
theorem ym (W0:World) (s:Str) (p:Int) (l:List Int) (hs:s.length≤2000) (hp:0≤p∧p≤1000000) (hl:1≤l.length∧l.length≤1000) :
  zw Tryz.prog W0 68 [.ptr 1 0,.c (jU l)] (Rd s p) (fun x:Int=>x∈l) (fun x => .c (CI x)) (fun _=>Rd s (p+1)):=by
 refine fW mixed zkA fun hg=>?_
 refine dr ?_;refine oW (zX W0 s p l.length hs hp (by omega)) rfl ⟨rfl,trivial⟩ rfl rfl ⟨0,by omega,by omega⟩ fun k hk=>⟨rfl,?_⟩
 refine dr ?_;refine aX hk.1 (hk.2 (by omega)) fun x hx=>?_
 refine dEr ?_;refine ⟨none,_,_,?_,x,hx,rfl,rfl⟩;refine dr ?_;trivial
def zkB:XC:=(.s (.r [.ex 4 (.mv (.s []))]) (.s (.r [.mv 5 1,.mv 6 0,.mv 7 1,.n1 8 7,.o1 9 38 [6,8],.i1 10 1 5 9,.l1 11 1 10,.mv 4 11]) .ret))
theorem zkC:zc Tryz.prog [38] 94=some (zkB.ac,[(.t 4)],12):=by kernel_rfl
theorem f_of (W0:World) (s:Str) (p:Int) (l:List Str) (hs:s.length≤2000) (hp:0≤p∧p≤1000000) (hl:1≤l.length∧l.length≤1000) :
  zw Tryz.prog W0 94 [.ptr 1 0,.c (jo l)] (Rd s p) (fun x:Str=>x∈l) (fun x => .c (CS x)) (fun _=>Rd s (p+1)):=by
 refine fW mixed zkC fun hg=>?_
 refine dr ?_;refine oW (zX W0 s p l.length hs hp (by omega)) rfl ⟨rfl,trivial⟩ rfl rfl ⟨0,by omega,by omega⟩ fun k hk=>⟨rfl,?_⟩
 refine dr ?_;refine aX hk.1 (hk.2 (by omega)) fun x hx=>?_
 refine dEr ?_;refine ⟨none,_,_,?_,x,hx,rfl,rfl⟩;refine dr ?_;trivial
def zbz:List Str:=[[47,97],[47,98],[47,97,47,98],[47,97,47,99],[47,98,47,97],[47,97,98],[47,97,47,98,47,99],[47,97,47,98,47,97],[47,98,47,98],[47,99]]
def zdZ:List Str:=[[],[120],[121],[49,50],[97,98,99],[122,57]]
def zlt:XC:=(.s (.r [.ex 2 (.mv (.s []))]) (.s (.r [.mv 3 0,.ex 4 (.bsl 1 9 [(.s [47,97]),(.s [47,98]),(.s [47,97,47,98]),(.s [47,97,47,99]),(.s [47,98,47,97]),(.s [47,97,98]),(.s [47,97,47,98,47,99]),(.s [47,97,47,98,47,97]),(.s [47,98,47,98]),(.s [47,99])]),.o1 5 94 [3,4],.mv 2 5]) .ret))
theorem zlu:zc Tryz.prog [94] 86=some (zlt.ac,[(.t 2)],6):=by kernel_rfl
theorem qW (W0:World) (s:Str) (p:Int) (hs:s.length≤2000) (hp:0≤p∧p≤1000000) :
  zw Tryz.prog W0 86 [.ptr 1 0] (Rd s p) (fun x:Str=>x∈zbz) (fun x => .c (CS x)) (fun _=>Rd s (p+1)):=by
 refine fW mixed zlu fun hg=>?_
 refine dr ?_;refine oW (f_of W0 s p zbz hs hp (by decide)) rfl ⟨rfl,trivial⟩ rfl rfl ⟨_,List.mem_cons_self⟩ fun x hx=>⟨rfl,?_⟩
 refine dEr ?_;refine ⟨none,_,_,?_,x,hx,rfl,rfl⟩;refine dr ?_;trivial
def zl3:XC:=(.s (.r [.ex 2 (.mv (.s []))]) (.s (.r [.mv 3 0,.ex 4 (.bsl 1 9 [(.s []),(.s [120]),(.s [121]),(.s [49,50]),(.s [97,98,99]),(.s [122,57])]),.o1 5 94 [3,4],.mv 2 5]) .ret))
theorem zl4:zc Tryz.prog [94] 93=some (zl3.ac,[(.t 2)],6):=by kernel_rfl
theorem zem (W0:World) (s:Str) (p:Int) (hs:s.length≤2000) (hp:0≤p∧p≤1000000) :
  zw Tryz.prog W0 93 [.ptr 1 0] (Rd s p) (fun x:Str=>x∈zdZ) (fun x => .c (CS x)) (fun _=>Rd s (p+1)):=by
 refine fW mixed zl4 fun hg=>?_
 refine dr ?_;refine oW (f_of W0 s p zdZ hs hp (by decide)) rfl ⟨rfl,trivial⟩ rfl rfl ⟨_,List.mem_cons_self⟩ fun x hx=>⟨rfl,?_⟩
 refine dEr ?_;refine ⟨none,_,_,?_,x,hx,rfl,rfl⟩;refine dr ?_;trivial
end Go.Proofs.YtopfccpgdldcdaaGreatDoor

namespace Go.Proofs.YtopfccpgdldcdaaGreatDoor
set_option linter.unusedSimpArgs false
set_option linter.unusedVariables false
open Go Go.RowKit
theorem lq {k0:List Nat} {body:(Fr→XM→Prop)→Fr→XM→Prop} {F:Fr} {m:XM} {σ:Type} (fr:σ→Fr) (mm:σ→XM) (inv:σ→Prop) (me:σ→Nat) (x0:σ) (h0:inv x0) (hk:zn k0 (some 3) F m (fr x0) (mm x0))
  (hb:∀ x,inv x→body (fun F' m'=>∃ x',inv x'∧me x' < me x∧zn k0 (some 3) F' m' (fr x') (mm x')) (fr x) (mm x)):LoopX k0 body F m :=
 ⟨σ,fr,mm,inv,me,some 3,some 3,_,⟨x0,h0,hk⟩,fun _ _ _ h=>h,hb⟩
theorem lq3 {k0:List Nat} {body:(Fr→XM→Prop)→Fr→XM→Prop} {F:Fr} {m:XM} {α β γ:Type} (fr:α→β→γ→Fr) (mm:α→β→γ→XM) (inv:α→β→γ→Prop) (me:α→β→γ→Nat) (a0:α) (b0:β) (c0:γ) (h0:inv a0 b0 c0) (hk:zn k0 (some 3) F m (fr a0 b0 c0) (mm a0 b0 c0))
  (hb:∀ a b c,inv a b c→body (fun F' m'=>∃ a' b' c',inv a' b' c'∧me a' b' c' < me a b c∧zn k0 (some 3) F' m' (fr a' b' c') (mm a' b' c')) (fr a b c) (mm a b c)):LoopX k0 body F m :=
 ⟨α × β × γ,fun x=>fr x.1 x.2.1 x.2.2,fun x=>mm x.1 x.2.1 x.2.2,fun x=>inv x.1 x.2.1 x.2.2,fun x=>me x.1 x.2.1 x.2.2,some 3,some 3,fun x F' m'=>∃ a' b' c',inv a' b' c'∧me a' b' c' < me x.1 x.2.1 x.2.2∧zn k0 (some 3) F' m' (fr a' b' c') (mm a' b' c'),
  ⟨(a0,b0,c0),h0,hk⟩,fun _ _ _ ⟨a,b,c,h⟩=>⟨(a,b,c),h⟩,fun x h=>hb x.1 x.2.1 x.2.2 h⟩
structure OZ (k:Nat) (o:Over):Prop where
 b:o.base.length≤k
 n:o.layers.length≤k
 l:∀ l∈o.layers,l.length≤k
 u:o.upper.length≤k
theorem OS.oz {o:Over} (h:OS o):OZ 32 o:=⟨by have:=h.b; omega,by have:=h.n; omega,h.l,h.u⟩
theorem OZ.mono {o:Over} {n m:Nat} (h:OZ n o) (hm:n≤m):OZ m o:=⟨by have:=h.b; omega,by have:=h.n; omega,fun l hl=>by have:=h.l l hl; omega,by have:=h.u; omega⟩
def zmB:XC:=(.s (.r [.x1 1 0,.ex 2 (.alloc [.nil,.nil,.nil])]) (.s (.d [.ex 5 .bsl0,.f1 6 0 1,.l1 7 1 6,.ex 8 (.app true 3 40 46 5 7),.ex 9 .bsl0,.f1 10 2 1,.l1 11 1 10,.ex 12 (.app true 3 40 148 9 11),.ex 13 (.build [.nil,.nil,.nil] [(0,(1,8)),(2,(1,12))]),.ex 3 (.alloc [.nil,.nil,.nil]),.s1 3 3 13]) (.s (.s (.r [.m1 4 (.i 0)]) (.blk 0 (.loop (.s (.s (.r [.mv 14 4,.f1 15 1 1,.l1 16 1 15,.n1 17 16,.b1 18 .lss 14 17]) (.ce 18 0)) (.s (.blk 1 (.d [.f1 21 1 3,.l1 22 1 21,.ex 23 .bsl0,.f1 24 1 1,.l1 25 1 24,.mv 26 4,.i1 27 1 25 26,.l1 28 1 27,.ex 29 (.app true 3 40 148 23 28),.ex 30 (.bsl 1 25 [29]),.ex 31 (.app false 1 24 25 22 30),.f1 32 1 3,.s1 1 32 31])) (.ic 19 20 4)))))) (.s (.r [.l2 33 3 3,.s1 3 2 33]) .ret))))
theorem zdC:zc Tryz.prog [] 137=some (zmB.ac,[(.cell 2 true 3)],34):=by kernel_rfl
theorem zbP (W0:World) (o:Over) (h:OZ 1000000 o):zw Tryz.prog W0 137 [.c (jR o)] [] (fun _:Unit=>True) (fun _ => .agg [.c (za o.base),.own 4 o.layers.length,.c (ze o.upper)]) (fun _=>[(4,.row (o.layers.map ze) 1 25)]):=by
 refine fW mixed zdC fun hg=>?_
 obtain ⟨z1,z2,z3,z4⟩:=h;refine dr ?_;refine lq (σ:=Nat) (fun k=>[(1,.ptr 16 0),(2,.ptr 32 0),(3,.ptr 48 0),(4,I k)]) (fun k=>[(4,.row ((o.layers.take k).map ze) 1 25),(16,.box [.c (za o.base),.c (zy o.layers),.c (ze o.upper)]),(32,.box [.nil,.nil,.nil]),(48,.box [.c (za o.base),.own 4 k,.c (ze o.upper)])]) (fun k=>k≤o.layers.length) (fun k=>o.layers.length - k) 0 (by simp) ?_ ?_
 ·refine zn.trans (z:=some 128) (z':=some 3) (F1:=[(1,.ptr 16 0),(2,.ptr 32 0),(3,.ptr 48 0),(4,I 0)]) (m1:=[(16,.box [.c (za o.base),.c (zy o.layers),.c (ze o.upper)]),(32,.box [.nil,.nil,.nil]),(48,.box [.c (za o.base),.nil,.own 192 o.upper.length]),(192,.row (o.upper.map ql) 3 148)]) ?_ ?_
  ·refine dr ?_;repeat (refine oB (by simp<;>rfl) ?_; first|refine dr ?_|exact dz)
   trivial
  refine zn.trans (z:=some 192) (z':=some 3) (F1:=[(1,.ptr 16 0),(2,.ptr 32 0),(3,.ptr 48 0),(4,I 0)]) (m1:=[(16,.box [.c (za o.base),.c (zy o.layers),.c (ze o.upper)]),(32,.box [.nil,.nil,.nil]),(48,.box [.c (za o.base),.nil,.c (ze o.upper)])]) ?_ ?_
  ·refine dr ?_;repeat (refine oB (by simp<;>rfl) ?_; first|refine dr ?_|exact dz)
   trivial
  ·show zj _ _ _ _ _;exact zj.nilB 48 [.c (za o.base),.nil,.c (ze o.upper)] [.c (za o.base),.own 4 0,.c (ze o.upper)] 4 25 rfl rfl ⟨nr0,nr1,nr0,trivial⟩
 intro k hk;refine dr ?_;apply cP<;>intro h1
 ·have hk':k < o.layers.length:=by omega
  have hz:=z3 _ (List.getElem_mem hk');refine dr ?_;repeat ((first|refine oB (by simp; omega) ?_|refine oB (by simp) ?_); first|refine dr ?_|exact dz)
  refine ⟨k+1,by omega,by omega,?_⟩;rw [List.take_succ_eq_append_getElem hk',List.map_append];refine zj.push (C:=(o.layers.take k).map ze) (L:=o.layers[k].map ql) 4 464 rfl rfl (by simp) ?_;refine dr ?_;trivial
 have hkl:k=o.layers.length:=by omega
 subst hkl;rw [List.take_length];refine dr ?_;refine ⟨none,_,_,?_,(),trivial,rfl,rfl⟩;refine dr ?_;trivial
theorem J5 (W0:World) (o:Over) (h:OZ 1000000 o):Fn Tryz.prog W0 137 [jR o] (.c (jR o)) []:=by
 refine fX mixed zdC fun hg=>?_
 obtain ⟨z1,z2,z3,z4⟩:=h;refine dr ?_;refine lq (σ:=Nat) (fun k=>[(1,.ptr 16 0),(2,.ptr 32 0),(3,.ptr 48 0),(4,I k)]) (fun k=>[(4,.row ((o.layers.take k).map ze) 1 25),(16,.box [.c (za o.base),.c (zy o.layers),.c (ze o.upper)]),(32,.box [.nil,.nil,.nil]),(48,.box [.c (za o.base),.own 4 k,.c (ze o.upper)])]) (fun k=>k≤o.layers.length) (fun k=>o.layers.length - k) 0 (by simp) ?_ ?_
 ·refine zn.trans (z:=some 128) (z':=some 3) (F1:=[(1,.ptr 16 0),(2,.ptr 32 0),(3,.ptr 48 0),(4,I 0)]) (m1:=[(16,.box [.c (za o.base),.c (zy o.layers),.c (ze o.upper)]),(32,.box [.nil,.nil,.nil]),(48,.box [.c (za o.base),.nil,.own 192 o.upper.length]),(192,.row (o.upper.map ql) 3 148)]) ?_ ?_
  ·refine dr ?_;repeat (refine oB (by simp<;>rfl) ?_; first|refine dr ?_|exact dz)
   trivial
  refine zn.trans (z:=some 192) (z':=some 3) (F1:=[(1,.ptr 16 0),(2,.ptr 32 0),(3,.ptr 48 0),(4,I 0)]) (m1:=[(16,.box [.c (za o.base),.c (zy o.layers),.c (ze o.upper)]),(32,.box [.nil,.nil,.nil]),(48,.box [.c (za o.base),.nil,.c (ze o.upper)])]) ?_ ?_
  ·refine dr ?_;repeat (refine oB (by simp<;>rfl) ?_; first|refine dr ?_|exact dz)
   trivial
  ·show zj _ _ _ _ _;exact zj.nilB 48 [.c (za o.base),.nil,.c (ze o.upper)] [.c (za o.base),.own 4 0,.c (ze o.upper)] 4 25 rfl rfl ⟨nr0,nr1,nr0,trivial⟩
 intro k hk;refine dr ?_;apply cP<;>intro h1
 ·have hk':k < o.layers.length:=by omega
  have hz:=z3 _ (List.getElem_mem hk');refine dr ?_;repeat ((first|refine oB (by simp; omega) ?_|refine oB (by simp) ?_); first|refine dr ?_|exact dz)
  refine ⟨k+1,by omega,by omega,?_⟩;rw [List.take_succ_eq_append_getElem hk',List.map_append];refine zj.push (C:=(o.layers.take k).map ze) (L:=o.layers[k].map ql) 4 464 rfl rfl (by simp) ?_;refine dr ?_;trivial
 have hkl:k=o.layers.length:=by omega
 subst hkl;rw [List.take_length];refine dr ?_;rfl
def zmI:XC:=(.s (.r [.x1 2 0,.ex 4 (.alloc [.nil,.nil,.nil])]) (.s (.r [.l2 8 3 2,.c1 9 91 [8],.mv 7 9,.e1 10 7 0,.e1 11 7 1,.a1 5 10 3 46,.mv 6 11]) (.s (.r [.mv 12 5,.mv 13 1,.c1 14 146 [12,13],.f1 15 2 2,.s1 1 15 14]) (.s (.r [.l2 16 3 2,.s1 3 4 16]) .ret))))
theorem zmJ:zc Tryz.prog [] 140=some (zmI.ac,[(.cell 4 true 3)],17):=by kernel_rfl
theorem zpt (W0:World) (o:Over) (t x:List Ent) (h1:jy o=some t) (ht:tOk t=true) (hx:tOk x=true):Fn Tryz.prog W0 140 [jR o,za x] (.c (jR ⟨o.base,o.layers,jf t x⟩)) []:=by
 refine fX mixed zmJ fun hg=>?_
 have q:=zbQ W0 o;rw [h1] at q;refine dEr ?_;repeat ((first|refine c0 q rfl ?_|refine c0 (zeo W0 t x ht hx) rfl ?_); first|refine dEr ?_|exact dz)
 rfl
def zkP:XC:=(.s (.r [.x1 2 0,.x1 3 1,.ex 4 (.alloc [.nil,.nil,.nil]),.m1 5 (.i 0)]) (.s (.s (.r [.l2 10 3 2,.c1 11 89 [10],.u1 12 11]) (.cnd 12 (.s (.r [.ex 13 (.build [.nil,.nil,.nil] []),.s1 3 4 13,.m1 5 (.i 1)]) .ret) .skip)) (.s (.r [.l2 15 3 2,.c1 16 36 [15],.mv 14 16,.e1 17 14 0,.e1 18 14 1,.a1 6 17 3 46,.mv 7 18]) (.s (.r [.mv 20 6,.l2 21 4 3,.c1 22 99 [20,21],.mv 19 22,.e1 23 19 0,.e1 24 19 1,.a1 8 23 3 46,.mv 9 24]) (.s (.s (.r [.mv 25 9,.b1 26 .neq 25 (.i 0)]) (.cnd 26 (.s (.r [.l2 27 3 2,.c1 28 137 [27],.mv 29 9,.s1 3 4 28,.mv 5 29]) .ret) .skip)) (.s (.r [.l2 30 3 2,.c1 31 137 [30],.mv 32 8,.c1 33 140 [31,32],.mv 34 9,.s1 3 4 33,.mv 5 34]) .ret))))))
theorem zkQ:zc Tryz.prog [] 87=some (zkP.ac,[(.cell 4 true 3),(.t 5)],35):=by kernel_rfl
theorem zai (W0:World) (o:Over) (op:Op):Fn Tryz.prog W0 87 [jR o,eOp op] (.c (eOC (oDo o op))) []:=by
 refine fX mixed zkQ fun hg=>?_
 refine dEr ?_;repeat (refine c0 (J7 W0 o) rfl ?_; first|refine dEr ?_|exact dz)
 apply cP<;>intro h1
 ·refine dr ?_;rw [oDo,if_neg (by simp [h1])]<;>rfl
 obtain ⟨t,x,g⟩:=OG.of h1;rw [g.doEq];have q1:=y9 W0 o;rw [g.vw] at q1;have q2:=Jv W0 x op;have q3:=J5 W0 o (g.os.oz.mono (by omega));have q4:=(QC g.gx (op:=op));generalize zx x op=r at *;obtain ⟨y,c⟩:=r;refine dEr ?_;repeat ((first|refine c0 q1 rfl ?_|refine c0 q2 rfl ?_); first|refine dEr ?_|exact dz)
 apply cP<;>intro h2
 ·refine dEr ?_;repeat (refine c0 q3 rfl ?_; first|refine dEr ?_|exact dz)
  rw [if_neg h2]<;>rfl
 ·obtain ⟨_,_,k1,k2⟩:=q4 h2;simp only at k1;have q5:=zpt W0 o t y g.low g.gt (by rw [k1]; exact k2);refine dEr ?_;repeat ((first|refine c0 q3 rfl ?_|refine c0 q5 rfl ?_); first|refine dEr ?_|exact dz)
  rw [if_pos h2,h2]<;>rfl
def zkV:XC:=(.s (.r [.x1 1 0,.ex 2 (.alloc [.nil,.nil,.nil]),.m1 3 .n]) (.s (.s (.r [.l2 5 3 1,.c1 6 89 [5],.u1 7 6]) (.cnd 7 (.s (.r [.ex 8 (.build [.nil,.nil,.nil] []),.s1 3 2 8,.m1 3 .n]) .ret) .skip)) (.s (.r [.l2 9 3 1,.o1 10 137 [9],.ex 4 (.alloc [.nil,.nil,.nil]),.s1 3 4 10]) (.s (.s (.r [.f1 11 1 1,.l1 12 1 11,.n1 13 12,.b1 14 .geq 13 (.i 4)]) (.cnd 14 (.s (.r [.l2 15 3 4,.s1 3 2 15,.m1 3 .n]) .ret) .skip)) (.s (.r [.f1 16 1 4,.l1 17 1 16,.f1 18 2 4,.l1 19 1 18,.ex 20 (.bsl 1 25 [19]),.ex 21 (.app false 1 24 25 17 20),.f1 22 1 4,.s1 1 22 21]) (.s (.r [.ex 23 .bsl0,.f1 24 2 4,.s1 1 24 23]) (.s (.r [.l2 25 3 4,.s1 3 2 25,.m1 3 .y]) .ret)))))))
theorem zkW:zc Tryz.prog [137] 143=some (zkV.ac,[(.cell 2 true 3),(.t 3)],26):=by kernel_rfl
theorem zqd (W0:World) (o:Over):Fn Tryz.prog W0 143 [jR o] (.c (eOB (Zk o))) []:=by
 refine fX mixed zkW fun hg=>?_
 refine dEr ?_;repeat (refine c0 (J7 W0 o) rfl ?_; first|refine dEr ?_|exact dz)
 apply cP<;>intro h1
 ·refine dr ?_;rw [Zk,if_neg (by simp [h1])]<;>rfl
 have hz:=OS.ok h1;rw [Zk,if_pos h1];refine dr ?_;refine oW (zbP W0 o (hz.oz.mono (by omega))) rfl trivial rfl rfl ⟨(),trivial⟩ fun _ _=>⟨rfl,?_⟩
 refine dEr ?_;apply cP<;>intro h2
 ·refine dr ?_;repeat (refine oB (by simp) ?_; first|refine dr ?_|exact dz)
  rw [if_pos (by omega)]<;>rfl
 ·have:=hz.n;refine dr ?_;repeat ((first|refine oB (by simp; omega) ?_|refine oB (by simp) ?_); first|refine dr ?_|exact dz)
  rw [if_neg (by omega)];exact congrArg (fun y=>CV.tup [.agg [za o.base,y,ze []],CB true]) (by simp [zy])
def zkR:XC:=(.s (.r [.x1 1 0,.ex 2 (.alloc [.nil,.nil,.nil]),.m1 3 .n]) (.s (.s (.r [.l2 8 3 1,.c1 9 89 [8],.u1 10 9]) (.cnd 10 (.s (.r [.ex 11 (.build [.nil,.nil,.nil] []),.s1 3 2 11,.m1 3 .n]) .ret) .skip)) (.s (.r [.l2 12 3 1,.c1 13 137 [12],.ex 4 (.alloc [.nil,.nil,.nil]),.s1 3 4 13]) (.s (.s (.r [.f1 14 1 4,.l1 15 1 14,.n1 16 15,.b1 17 .lss 16 (.i 2)]) (.cnd 17 (.s (.r [.l2 18 3 4,.s1 3 2 18,.m1 3 .n]) .ret) .skip)) (.s (.r [.f1 19 1 4,.l1 20 1 19,.ex 21 (.ia 1 20 (.i 0)),.l1 22 1 21,.a1 5 22 3 148]) (.s (.s (.r [.m1 6 (.i 1)]) (.blk 0 (.loop (.s (.s (.r [.mv 23 6,.f1 24 1 4,.l1 25 1 24,.n1 26 25,.b1 27 .lss 23 26]) (.ce 27 0)) (.s (.blk 1 (.s (.r [.m1 7 .n]) (.s (.r [.f1 31 1 4,.l1 32 1 31,.mv 33 6,.i1 34 1 32 33,.l1 35 1 34,.mv 36 5,.c1 37 178 [35,36],.mv 30 37,.e1 38 30 0,.e1 39 30 1,.a1 5 38 3 148,.mv 7 39]) (.s (.r [.mv 40 7,.u1 41 40]) (.cnd 41 (.s (.r [.l2 42 3 4,.s1 3 2 42,.m1 3 .n]) .ret) .skip))))) (.ic 28 29 6)))))) (.s (.r [.mv 43 5,.ex 44 (.bsl 1 25 [43]),.f1 45 1 4,.s1 1 45 44]) (.s (.r [.l2 46 3 4,.s1 3 2 46,.m1 3 .y]) .ret))))))))
theorem zkS:zc Tryz.prog [] 144=some (zkR.ac,[(.cell 2 true 3),(.t 3)],47):=by kernel_rfl
theorem zqp {one l:List Mark} {r:List (List Mark)}:yw one (l::r)=match yn l one with
  | some j=>yw j r
  | none=>none:=by rw [yw]; cases yn l one<;>rfl
theorem zqc (W0:World) (o:Over):Fn Tryz.prog W0 144 [jR o] (.c (eOB (ZF o))) []:=by
 refine fX mixed zkS fun hg=>?_
 refine dEr ?_;repeat (refine c0 (J7 W0 o) rfl ?_; first|refine dEr ?_|exact dz)
 apply cP<;>intro h1
 ·refine dr ?_;rw [ZF,if_neg (by simp [h1])]<;>rfl
 have hz:=OS.ok h1;rw [ZF,if_pos h1];refine dEr ?_;repeat (refine c0 (J5 W0 o (hz.oz.mono (by omega))) rfl ?_; first|refine dEr ?_|exact dz)
 apply cP<;>intro h2
 ·refine dr ?_;have e:ZU o=none:=by
   unfold ZU;split
   ·rename_i a b r he; rw [he] at h2; simp at h2; omega
   ·rfl
  rw [e]<;>rfl
 have h0:0 < o.layers.length:=by omega
 obtain ⟨a,b,r,hl⟩:∃ a b r,o.layers=a::b::r:=by
  cases hl:o.layers with
  | nil=>rw [hl] at h0; simp at h0
  | cons a s=>cases s with
   | nil=>rw [hl] at h2; simp at h2
   | cons b r=>exact ⟨a,b,r,rfl⟩
 have e0:ZU o=yw o.layers[0] (o.layers.drop 1):=by
  have e:o.layers[0]=a:=by simp [hl]
  rw [e];unfold ZU;rw [hl]; rfl
 rw [e0];have hn4:=hz.n;refine dr ?_;repeat (refine aM (j:=0) rfl (by omega) ?_; first|refine dr ?_|exact dz)
 refine lp2 (fun (k:Nat) (one:List Mark)=>[(2,.ptr 32 0),(4,.ptr 64 0),(5,.c (ze one)),(6,I k)]) (fun _ _=>[(32,.box [.nil,.nil,.nil]),(64,.box [.c (za o.base),.c (zy o.layers),.c (ze o.upper)])]) (fun k one=>1≤k∧k≤o.layers.length∧yw one (o.layers.drop k)=yw o.layers[0] (o.layers.drop 1)) (fun k _=>o.layers.length - k) 1 o.layers[0] ⟨by omega,by omega,rfl⟩ ?_ ?_
 ·refine dr ?_;trivial
 rintro k one ⟨k1,k2,k3⟩;refine dr ?_;apply cP<;>intro h3
 ·have hk':k < o.layers.length:=by omega
  rw [List.drop_eq_getElem_cons hk',zqp] at k3;have q:=zp9 W0 o.layers[k] one;cases hj:yn o.layers[k] one with
  | none =>
   rw [hj] at q k3;refine dEr ?_;repeat (refine c0 q rfl ?_; first|refine dEr ?_|exact dz)
   rw [← k3]<;>rfl
  | some j =>
   rw [hj] at q k3;refine dEr ?_;repeat (refine c0 q rfl ?_; first|refine dEr ?_|exact dz)
   refine ⟨k+1,j,⟨by omega,by omega,k3⟩,by omega,?_⟩;refine dr ?_;trivial
 ·have hkl:k=o.layers.length:=by omega
  rw [hkl,List.drop_length,yw] at k3;refine dr ?_;rw [← k3]<;>rfl
end Go.Proofs.YtopfccpgdldcdaaGreatDoor

namespace Go.Proofs.YtopfccpgdldcdaaGreatDoor
set_option linter.unusedSimpArgs false
set_option linter.unusedVariables false
open Go Go.RowKit
abbrev wCs (w:Wld):List PV:=[.c (za w.over.base),.c (zy w.over.layers),.c (ze w.over.upper),I w.clock,I w.count,.c (zv w.leases),.c (jC w.holds),.c (jU w.floors),.c (jM w.net),B w.waits,I w.op.kind,.c (CS w.op.path),.c (CS w.op.dest),.c (CS w.op.data)]
abbrev wBx (w:Wld):XB := .box (wCs w)
abbrev hCs (h:Hold):List PV:=[.c (CS h.path),B h.has,.c (CS h.ent.path),B h.ent.dir,.c (CS h.ent.data),I h.num,I h.til]
abbrev lCs (l:Lease):List PV:=[I l.who,.c (CS l.path),I l.num,I l.til]
abbrev mCs (m:Msg):List PV:=[I m.kind,I m.who,.c (CS m.hold.path),B m.hold.has,.c (CS m.hold.ent.path),B m.hold.ent.dir,.c (CS m.hold.ent.data),I m.hold.num,I m.hold.til]
theorem aHd {w:Wld} {who:Int} (hw:isW who) (hl:w.holds.length=3) {K:CV→Prop} (h:K (zf (hdW w who))):AtX who (w.holds.map zf) K:=by
 have:=hw.1; have:=hw.2;have hk:who.toNat < w.holds.length:=by omega
 refine ⟨who.toNat,by omega,_,by rw [List.getElem?_map,List.getElem?_eq_getElem hk]; rfl,?_⟩;have e:hdW w who=w.holds[who.toNat]:=by unfold hdW; rw [List.getD_eq_getElem?_getD,List.getElem?_eq_getElem hk]; rfl
 rw [← e]; exact h
theorem aFl {w:Wld} {who:Int} (hw:isW who) (hl:w.floors.length=3) {K:CV→Prop} (h:K (CI (flW w who))):AtX who (w.floors.map CI) K:=by
 have:=hw.1; have:=hw.2;have hk:who.toNat < w.floors.length:=by omega
 refine ⟨who.toNat,by omega,_,by rw [List.getElem?_map,List.getElem?_eq_getElem hk]; rfl,?_⟩;have e:flW w who=w.floors[who.toNat]:=by unfold flW; rw [List.getD_eq_getElem?_getD,List.getElem?_eq_getElem hk]; rfl
 rw [← e]; exact h
theorem za6 {a b:Int}:leI a b=tb (a≤b):=by rw [Bool.eq_iff_iff,zaD,tb_i]
theorem ztb {a b:Int}:ltI a b=tb (a < b):=by rw [Bool.eq_iff_iff,zaI,tb_i]
def znv:XC:=(.s (.r [.m1 2 .n]) (.s (.r [.mv 3 0,.b1 4 .geq 3 (.i 0),.mv 5 4,.g3 6 0 5,.gt 7 (.bin .lss 6 (.i 3)) 5,.p2 8 5 7,.mv 2 8]) .ret))
theorem znw:zc Tryz.prog [] 69=some (znv.ac,[(.t 2)],9):=by kernel_rfl
theorem zae (W0:World) (who:Int):Fn Tryz.prog W0 69 [CI who] (.c (CB (tb (isW who)))) []:=by
 refine fX mixed znw fun hg=>?_
 refine dr ?_;apply cP<;>intro h1
 ·refine dr ?_;rw [ztb];exact congrArg CB (tb_c ⟨fun h=>⟨h1,h⟩,fun h=>h.2⟩)
 ·refine dr ?_;exact pF fun h=>by have:=h.1; omega
def noL:Lease:=⟨0,[],0,0⟩
def eLO (x:Option Lease):CV := .tup [jt (x.getD noL),CB x.isSome]
theorem zrb {l:List Lease} {k:Nat} (h:k < l.length) {who:Int} {p:Str} (hn:jk (l.take k) who p=none) (h1:l[k].who=who) (h2:l[k].path=p):jk l who p=some l[k]:=by
 have e:l=l.take k++(l[k]::l.drop (k+1)):=by rw [← List.drop_eq_getElem_cons h,List.take_append_drop]
 have e2:jk (l.take k++(l[k]::l.drop (k+1))) who p=some l[k]:=by
  rw [zaE,hn];unfold jk;rw [List.find?_cons,h1,h2]; simp
 rw [← e] at e2; exact e2
theorem zfK {l:List Lease} {k:Nat} (h:k < l.length) {who:Int} {p:Str} (hn:jk (l.take k) who p=none) (h1:¬ (l[k].who=who∧l[k].path=p)):jk (l.take (k+1)) who p=none:=by
 rw [List.take_succ_eq_append_getElem h,zaE,hn];exact zfJ fun x hx=>by rw [List.mem_singleton.1 hx]; exact h1
def zm3:XC:=(.s (.r [.x1 3 0,.ex 6 (.alloc [(I 0),sE,(I 0),(I 0)]),.m1 7 .n]) (.s (.s (.r [.m1 8 (.i 0)]) (.blk 0 (.loop (.s (.s (.r [.mv 9 8,.f1 10 5 3,.l1 11 1 10,.n1 12 11,.b1 13 .lss 9 12]) (.ce 13 0)) (.s (.blk 1 (.s (.r [.f1 16 5 3,.l1 17 1 16,.mv 18 8,.i1 19 4 17 18,.f1 20 0 19,.l1 21 1 20,.mv 22 1,.b1 23 .eql 21 22,.mv 24 23,.g1 25 5 3 24,.g2 26 1 25 24,.g3 27 8 24,.gt 28 (.ia 4 26 27) 24,.g1 29 1 28 24,.g2 30 1 29 24,.g3 31 2 24,.gt 32 (.bin .eql 30 31) 24,.p2 33 24 32]) (.cnd 33 (.s (.r [.f1 34 5 3,.l1 35 1 34,.mv 36 8,.i1 37 4 35 36,.l2 38 4 37,.s1 4 6 38,.m1 7 .y]) .ret) .skip))) (.ic 14 15 8)))))) (.s (.r [.ex 39 (.build [(I 0),sE,(I 0),(I 0)] []),.s1 4 6 39,.m1 7 .n]) .ret)))
theorem zm4:zc Tryz.prog [] 157=some (zm3.ac,[(.cell 6 true 4),(.t 7)],40):=by kernel_rfl
theorem zpF (W0:World) (w:Wld) (who:Int) (p:Str):Fn Tryz.prog W0 157 [zB w,CI who,CS p] (.c (eLO (jk w.leases who p))) []:=by
 refine fX mixed zm4 fun hg=>?_
 have g0:=yN (hg _ (by simp:zB w∈_));have g1:w.leases.length≤9223372036854775807:=jc (g0 _ (by simp:zv w.leases∈_));refine dr ?_;refine lp (σ:=Nat) (fun k=>[(1,.c (CI who)),(2,.c (CS p)),(3,.ptr 48 0),(6,.ptr 96 0),(8,I k)]) (fun _=>[(48,wBx w),(96,.box (lCs noL))]) (fun k=>k≤w.leases.length∧jk (w.leases.take k) who p=none) (fun k=>w.leases.length - k) 0 ⟨by omega,rfl⟩ ?_ ?_
 ·refine dr ?_;trivial
 rintro k ⟨hk,hn⟩;refine dr ?_;apply cP<;>intro h1
 ·have hk':k < w.leases.length:=by omega
  refine dr ?_;apply cP<;>intro h2
  ·refine dr ?_;apply cP<;>intro h3
   ·refine dr ?_;rw [zrb hk' hn h2 h3]<;>rfl
   ·refine dr ?_;refine ⟨k+1,⟨by omega,zfK hk' hn fun h=>h3 h.2⟩,by omega,?_⟩;refine dr ?_;trivial
  ·refine dr ?_;refine ⟨k+1,⟨by omega,zfK hk' hn fun h=>h2 h.1⟩,by omega,?_⟩;refine dr ?_;trivial
 ·have hkl:k=w.leases.length:=by omega
  rw [hkl,List.take_length] at hn;refine dr ?_;rw [hn]<;>rfl
def zm5:XC:=(.s (.r [.x1 1 0,.m1 2 .n]) (.s (.s (.r [.m1 3 (.i 0)]) (.blk 0 (.loop (.s (.s (.r [.mv 6 3,.f1 7 5 1,.l1 8 1 7,.n1 9 8,.b1 10 .lss 6 9]) (.ce 10 0)) (.s (.blk 1 (.s (.r [.f1 13 5 1,.l1 14 1 13,.mv 15 3,.i1 16 4 14 15,.l2 17 4 16,.ex 4 (.alloc [(I 0),sE,(I 0),(I 0)]),.s1 4 4 17]) (.s (.s (.r [.f1 18 0 4,.l1 19 1 18,.c1 20 69 [19],.u1 21 20,.mv 22 21,.h1 23 1 4 22,.h2 24 1 23 22,.gf 25 (.call 98 [24]) 22,.gf 26 (.un .not 25) 22,.p1 27 22 26,.mv 28 27,.h1 29 2 4 28,.h2 30 1 29 28,.gf 31 (.bin .lss 30 (.i 1)) 28,.p1 32 28 31,.mv 33 32,.h1 34 2 4 33,.h2 35 1 34 33,.h1 36 4 1 33,.h2 37 1 36 33,.gf 38 (.bin .gtr 35 37) 33,.p1 39 33 38,.mv 40 39,.h1 41 3 4 40,.h2 42 1 41 40,.h1 43 3 1 40,.h2 44 1 43 40,.gf 45 (.bin .add 44 (.i 5)) 40,.gf 46 (.bin .gtr 42 45) 40,.p1 47 40 46]) (.cnd 47 (.rf 2) .skip)) (.s (.r [.m1 5 (.i 0)]) (.blk 2 (.loop (.s (.s (.r [.mv 48 5,.mv 49 3,.b1 50 .lss 48 49]) (.ce 50 2)) (.s (.blk 3 (.s (.d [.f1 53 5 1,.l1 54 1 53,.mv 55 5,.i1 56 4 54 55,.f1 57 0 56,.l1 58 1 57,.f1 59 0 4,.l1 60 1 59,.b1 61 .eql 58 60,.mv 62 61,.g1 63 5 1 62,.g2 64 1 63 62,.g3 65 5 62,.gt 66 (.ia 4 64 65) 62,.g1 67 1 66 62,.g2 68 1 67 62,.g1 69 1 4 62,.g2 70 1 69 62,.gt 71 (.bin .eql 68 70) 62,.p2 72 62 71]) (.cnd 72 (.rf 2) .skip))) (.ic 51 52 5))))))))) (.ic 11 12 3)))))) (.rt 2)))
theorem zm6:zc Tryz.prog [] 44=some (zm5.ac,[(.t 2)],73):=by kernel_rfl
theorem zpG (W0:World) (w:Wld) (hp:w.clock≤10000):Fn Tryz.prog W0 44 [zB w] (.c (CB (tb (LsOk w)))) []:=by
 refine fX mixed zm6 fun hg=>?_
 have g0:=yN (hg _ (by simp:zB w∈_));have g1:w.leases.length≤9223372036854775807:=jc (g0 _ (by simp:zv w.leases∈_));have g2:=goodI (g0 _ (by simp:CI w.clock∈_));refine dr ?_;refine lp (σ:=Nat) (fun k=>[(1,.ptr 16 0),(3,I k)]) (fun _=>[(16,wBx w)]) (fun k=>k≤w.leases.length∧(∀ l∈w.leases.take k,LsG w l)∧(w.leases.take k).Pairwise LsD) (fun k=>w.leases.length - k) 0 ⟨by omega,by simp,by simp⟩ ?_ ?_
 ·refine dr ?_;trivial
 rintro k ⟨hk,hA,hP⟩;refine dr ?_;apply cP<;>intro h1;rotate_left
 ·have hkl:k=w.leases.length:=by omega
  rw [hkl,List.take_length] at hA hP;refine dr ?_;exact pT ⟨hA,hP⟩
 have hk':k < w.leases.length:=by omega
 have no:¬ LsG w w.leases[k]→CB false=CB (tb (LsOk w)):=fun h=>pF fun hh=>h (hh.g _ (List.getElem_mem hk'))
 refine dr ?_;refine c0 (zae W0 _) rfl ?_;refine dEr ?_;apply cP<;>intro a1
 ·refine dr ?_;exact no fun h=>a1 h.1
 refine dEr ?_;repeat (refine c0 (qH W0 _) rfl ?_; first|refine dEr ?_|exact dz)
 apply cP<;>intro a2
 ·refine dr ?_;exact no fun h=>by rw [h.2.1] at a2; cases a2
 refine dr ?_;apply cP<;>intro a3
 ·refine dr ?_;exact no fun h=>by have:=h.2.2.1; omega
 refine dr ?_;apply cP<;>intro a4
 ·refine dr ?_;exact no fun h=>by have:=h.2.2.2.1; omega
 refine dr ?_;repeat (refine oB (by omega) ?_; first|refine dr ?_|exact dz)
 apply cP<;>intro a5
 ·refine dr ?_;exact no fun h=>by have:=h.2.2.2.2; omega
 refine dr ?_;refine lp (σ:=Nat) (fun j=>[(1,.ptr 16 0),(3,I k),(4,.ptr 64 0),(5,I j)]) (fun _=>[(16,wBx w),(64,.box (lCs w.leases[k]))]) (fun j=>j≤k∧∀ l∈w.leases.take j,LsD l w.leases[k]) (fun j=>k - j) 0 ⟨by omega,by simp⟩ ?_ ?_
 ·refine dr ?_;trivial
 rintro j ⟨hj,hD⟩;refine dr ?_;apply cP<;>intro b1;rotate_left
 ·have hjk:j=k:=by omega
  rw [hjk] at hD;refine dr ?_;refine ⟨k+1,⟨by omega,?_,?_⟩,by omega,?_⟩
  ·rw [List.take_succ_eq_append_getElem hk'];intro l hl;rcases List.mem_append.1 hl with h | h
   ·exact hA l h
   ·rw [List.mem_singleton.1 h]; exact ⟨a1,a2,by omega,by omega,by omega⟩
  ·rw [List.take_succ_eq_append_getElem hk',List.pairwise_append];exact ⟨hP,by simp,fun a ha b hb=>by rw [List.mem_singleton.1 hb]; exact hD a ha⟩
  refine dr ?_;trivial
 have hjl:j < w.leases.length:=by omega
 have next:¬ (w.leases[j].who=w.leases[k].who∧w.leases[j].path=w.leases[k].path)→∀ l∈w.leases.take (j+1),LsD l w.leases[k]:=fun h l hl=>by
  rw [List.take_succ_eq_append_getElem hjl] at hl;rcases List.mem_append.1 hl with h' | h'
  ·exact hD l h'
  ·rw [List.mem_singleton.1 h']; exact h
 refine dr ?_;apply cP<;>intro b2
 ·refine dr ?_;apply cP<;>intro b3
  ·refine dr ?_;refine pF fun hh=>?_
   have:=List.pairwise_iff_getElem.1 hh.d j k hjl hk' (by omega);exact this ⟨b2,b3⟩
  ·refine dr ?_;refine ⟨j+1,⟨by omega,next fun h=>b3 h.2⟩,by omega,?_⟩;refine dr ?_;trivial
 ·refine dr ?_;refine ⟨j+1,⟨by omega,next fun h=>b2 h.1⟩,by omega,?_⟩;refine dr ?_;trivial
def znk:XC:=(.s (.r [.x1 4 0,.x1 7 3,.m1 8 .n]) (.s (.s (.r [.f1 13 3 4,.l1 14 1 13,.f1 15 6 7,.l1 16 1 15,.b1 17 .geq 14 16]) (.cnd 17 (.rt 8) .skip)) (.s (.r [.mv 19 1,.f1 20 0 7,.l1 21 1 20,.c1 22 156 [19,21],.mv 18 22,.e1 23 18 0,.e1 24 18 1,.ex 9 (.alloc zE),.s1 3 9 23,.mv 10 24]) (.s (.r [.l2 26 14 4,.mv 27 2,.f1 28 0 7,.l1 29 1 28,.c1 30 157 [26,27,29],.mv 25 30,.e1 31 25 0,.e1 32 25 1,.ex 11 (.alloc [(I 0),sE,(I 0),(I 0)]),.s1 4 11 31,.mv 12 32]) (.s (.r [.mv 33 10,.f1 34 1 7,.l1 35 1 34,.ex 36 (.bb false 33 35),.mv 37 36,.gt 38 (.ld true 3 9) 37,.g1 39 2 7 37,.gt 40 (.ld true 3 39) 37,.gt 41 (.beq false [.s,.b,.s] 38 40) 37,.p2 42 37 41,.mv 43 42,.g3 44 12 43,.p2 45 43 44,.mv 46 45,.g1 47 3 4 46,.g2 48 1 47 46,.g1 49 3 11 46,.g2 50 1 49 46,.gt 51 (.bin .lss 48 50) 46,.p2 52 46 51,.mv 53 52,.g1 54 2 11 53,.g2 55 1 54 53,.g1 56 5 7 53,.g2 57 1 56 53,.gt 58 (.bin .geq 55 57) 53,.p2 59 53 58,.mv 60 59,.g1 61 3 11 60,.g2 62 1 61 60,.g1 63 6 7 60,.g2 64 1 63 60,.gt 65 (.bin .geq 62 64) 60,.p2 66 60 65,.mv 8 66]) .ret)))))
theorem znl:zc Tryz.prog [] 100=some (znk.ac,[(.t 8)],67):=by kernel_rfl
theorem zcW {w:Wld} {t:List Ent} {who:Int} {h:Hold} (ha:w.clock < h.til):So w t who h↔((get t h.path).isSome=h.has∧(get t h.path).getD noE=h.ent∧(jk w.leases who h.path).isSome=true ∧
  w.clock < ((jk w.leases who h.path).getD noL).til∧h.num≤((jk w.leases who h.path).getD noL).num∧h.til≤((jk w.leases who h.path).getD noL).til):=by
 constructor
 ·intro hs;obtain ⟨l,h1,h2,h3,h4,h5,h6⟩:=hs ha;rw [h1];exact ⟨h2,h3,rfl,h4,h5,h6⟩
 ·rintro ⟨h2,h3,h1,h4,h5,h6⟩ _;obtain ⟨l,hl⟩:=Option.isSome_iff_exists.1 h1;rw [hl] at h4 h5 h6;exact ⟨l,hl,h2,h3,h4,h5,h6⟩
theorem zeu (W0:World) (w:Wld) (t:List Ent) (who:Int) (h:Hold):Fn Tryz.prog W0 100 [zB w,za t,CI who,zF h] (.c (CB (tb (So w t who h)))) []:=by
 refine fX mixed znl fun hg=>?_
 have hc:=yJ W0 t h.path;rw [qM] at hc;have hl:=zpF W0 w who h.path;refine dr ?_;apply cP<;>intro h1
 ·refine dr ?_;exact pT fun ha=>by omega
 rw [tb_c (zcW (by omega))];have e1:=@zcW w t who h (by omega);generalize (get t h.path)=x at *;unfold eLO at hl;generalize (jk w.leases who h.path)=y at *;refine dEr ?_;repeat ((first|refine c0 hc rfl ?_|refine c0 hl rfl ?_); first|refine dEr ?_|exact dz)
 apply cP<;>intro h2;rotate_left
 ·refine dr ?_;exact pF fun hh=>h2 hh.1
 refine dr ?_;rw [Jk];apply cP<;>intro h3;rotate_left
 ·refine dr ?_;exact pF fun hh=>h3 hh.2.1
 refine dr ?_;apply cP<;>intro h4;rotate_left
 ·refine dr ?_;exact pF fun hh=>by rw [hh.2.2.1] at h4; cases h4
 refine dr ?_;apply cP<;>intro h5;rotate_left
 ·refine dr ?_;exact pF fun hh=>by have:=hh.2.2.2.1; omega
 refine dr ?_;apply cP<;>intro h6;rotate_left
 ·refine dr ?_;exact pF fun hh=>by have:=hh.2.2.2.2.1; omega
 refine dr ?_;rw [za6];exact congrArg CB (tb_c ⟨fun h=>⟨h2,h3,h4,h5,h6,h⟩,fun h=>h.2.2.2.2.2⟩)
def zmZ:XC:=(.s (.r [.x1 3 0,.m1 6 .n]) (.s (.r [.f1 11 6 3,.l1 12 1 11,.mv 13 2,.i1 14 1 12 13,.l1 15 1 14,.a1 7 15 7 48]) (.s (.s (.r [.m1 8 (.i 0)]) (.blk 0 (.loop (.s (.s (.r [.mv 16 8,.mv 17 7,.n1 18 17,.b1 19 .lss 16 18]) (.ce 19 0)) (.s (.blk 1 (.s (.r [.mv 22 7,.mv 23 8,.i1 24 7 22 23,.l2 25 7 24,.ex 9 (.alloc [sE,(B false),sE,(B false),sE,(I 0),(I 0)]),.s1 7 9 25]) (.s (.s (.r [.f1 26 0 9,.l1 27 1 26,.c1 28 98 [27],.u1 29 28,.mv 30 29,.h1 31 5 9 30,.h2 32 1 31 30,.gf 33 (.bin .lss 32 (.i 0)) 30,.p1 34 30 33,.mv 35 34,.h1 36 5 9 35,.h2 37 1 36 35,.h1 38 4 3 35,.h2 39 1 38 35,.gf 40 (.bin .gtr 37 39) 35,.p1 41 35 40,.mv 42 41,.gf 43 (.ld true 14 3) 42,.h3 44 1 42,.h3 45 2 42,.gf 46 (.ld true 7 9) 42,.gf 47 (.call 100 [43,44,45,46]) 42,.gf 48 (.un .not 47) 42,.p1 49 42 48]) (.cnd 49 (.rf 6) .skip)) (.s (.r [.m1 10 (.i 0)]) (.blk 2 (.loop (.s (.s (.r [.mv 50 10,.mv 51 8,.b1 52 .lss 50 51]) (.ce 52 2)) (.s (.blk 3 (.s (.d [.mv 55 7,.mv 56 10,.i1 57 7 55 56,.f1 58 0 57,.l1 59 1 58,.f1 60 0 9,.l1 61 1 60,.b1 62 .eql 59 61]) (.cnd 62 (.rf 6) .skip))) (.ic 53 54 10))))))))) (.ic 20 21 8)))))) (.rt 6))))
theorem zm0:zc Tryz.prog [] 46=some (zmZ.ac,[(.t 6)],63):=by kernel_rfl
theorem zpE (W0:World) (w:Wld) (t:List Ent) (who:Int) (hw:isW who) (hl:w.holds.length=3):Fn Tryz.prog W0 46 [zB w,za t,CI who] (.c (CB (tb (HdOk w t who)))) []:=by
 refine fX mixed zm0 fun hg=>?_
 refine dr ?_;repeat (refine aHd hw hl ?_; first|refine dr ?_|exact dz)
 have e0:HdOk w t who↔(∀ h∈hdW w who,HdG w t who h)∧(hdW w who).Pairwise fun a b=>a.path≠b.path:=⟨fun h=>⟨h.g,h.d⟩,fun h=>⟨h.1,h.2⟩⟩
 rw [tb_c e0];have g0:=yN (hg _ (by simp:zB w∈_));have g1:(hdW w who).length≤9223372036854775807:=by
  have hk:who.toNat < w.holds.length:=by have:=hw.1; have:=hw.2; omega
  have e:hdW w who=w.holds[who.toNat]:=by unfold hdW; rw [List.getD_eq_getElem?_getD,List.getElem?_eq_getElem hk]; rfl
  have:=zav (g0 _ (by simp:jC w.holds∈_)) _ (List.getElem_mem hk) (zf w.holds[who.toNat]) (by simp [zf,CV.cells]);rw [e]; exact jc this
 generalize hL:hdW w who=L at *;refine lp (σ:=Nat) (fun k=>[(1,.c (za t)),(2,.c (CI who)),(3,.ptr 48 0),(7,.c (zf L)),(8,I k)]) (fun _=>[(48,wBx w)]) (fun k=>k≤L.length∧(∀ h∈L.take k,HdG w t who h)∧(L.take k).Pairwise fun a b=>a.path≠b.path) (fun k=>L.length - k) 0 ⟨by omega,by simp,by simp⟩ ?_ ?_
 ·refine dr ?_;trivial
 rintro k ⟨hk,hA,hP⟩;refine dr ?_;apply cP<;>intro h1;rotate_left
 ·have hkl:k=L.length:=by omega
  rw [hkl,List.take_length] at hA hP;refine dr ?_;exact pT ⟨hA,hP⟩
 have hk':k < L.length:=by omega
 have no:¬ HdG w t who L[k]→CB false=CB (tb ((∀ h∈L,HdG w t who h)∧L.Pairwise fun a b=>a.path≠b.path)):=fun h=>pF fun hh=>h (hh.1 _ (List.getElem_mem hk'))
 refine dEr ?_;repeat (refine c0 (qH W0 _) rfl ?_; first|refine dEr ?_|exact dz)
 apply cP<;>intro a1
 ·refine dr ?_;exact no fun h=>by rw [h.1] at a1; cases a1
 refine dr ?_;apply cP<;>intro a2
 ·refine dr ?_;exact no fun h=>by have:=h.2.1; omega
 refine dr ?_;apply cP<;>intro a3
 ·refine dr ?_;exact no fun h=>by have:=h.2.2.1; omega
 refine dEr ?_;repeat (refine c0 (zeu W0 w t who L[k]) rfl ?_; first|refine dEr ?_|exact dz)
 apply cP<;>intro a4
 ·refine dr ?_;exact no fun h=>a4 h.2.2.2
 refine dr ?_;refine lp (σ:=Nat) (fun j=>[(1,.c (za t)),(2,.c (CI who)),(3,.ptr 48 0),(7,.c (zf L)),(8,I k),(9,.ptr 144 0),(10,I j)]) (fun _=>[(48,wBx w),(144,.box (hCs L[k]))]) (fun j=>j≤k∧∀ l∈L.take j,l.path≠L[k].path) (fun j=>k - j) 0 ⟨by omega,by simp⟩ ?_ ?_
 ·refine dr ?_;trivial
 rintro j ⟨hj,hD⟩;refine dr ?_;apply cP<;>intro b1;rotate_left
 ·have hjk:j=k:=by omega
  rw [hjk] at hD;refine dr ?_;refine ⟨k+1,⟨by omega,?_,?_⟩,by omega,?_⟩
  ·rw [List.take_succ_eq_append_getElem hk'];intro l hl;rcases List.mem_append.1 hl with h | h
   ·exact hA l h
   ·rw [List.mem_singleton.1 h]; exact ⟨a1,by omega,by omega,a4⟩
  ·rw [List.take_succ_eq_append_getElem hk',List.pairwise_append];exact ⟨hP,by simp,fun a ha b hb=>by rw [List.mem_singleton.1 hb]; exact hD a ha⟩
  refine dr ?_;trivial
 have hjl:j < L.length:=by omega
 refine dr ?_;apply cP<;>intro b2
 ·refine dr ?_;refine pF fun hh=>?_
  have:=List.pairwise_iff_getElem.1 hh.2 j k hjl hk' (by omega);exact this b2
 ·refine dr ?_;refine ⟨j+1,⟨by omega,fun l hl=>?_⟩,by omega,?_⟩
  ·rw [List.take_succ_eq_append_getElem hjl] at hl;rcases List.mem_append.1 hl with h' | h'
   ·exact hD l h'
   ·rw [List.mem_singleton.1 h']; exact b2
  refine dr ?_;trivial
def zmV:XC:=(.s (.r [.x1 2 0,.x1 3 1,.m1 4 .n]) (.s (.r [.f1 7 6 2,.l1 8 1 7,.f1 9 1 3,.l1 10 1 9,.i1 11 1 8 10,.l1 12 1 11,.a1 5 12 7 48]) (.s (.s (.r [.m1 6 (.i 0)]) (.blk 0 (.loop (.s (.s (.r [.mv 13 6,.mv 14 5,.n1 15 14,.b1 16 .lss 13 15]) (.ce 16 0)) (.s (.blk 1 (.s (.d [.mv 19 5,.mv 20 6,.i1 21 7 19 20,.f1 22 0 21,.l1 23 1 22,.f1 24 2 3,.f1 25 0 24,.l1 26 1 25,.b1 27 .eql 23 26,.mv 28 27,.g3 29 5 28,.g3 30 6 28,.gt 31 (.ia 7 29 30) 28,.g1 32 5 31 28,.g2 33 1 32 28,.g1 34 2 3 28,.g1 35 5 34 28,.g2 36 1 35 28,.gt 37 (.bin .leq 33 36) 28,.p2 38 28 37]) (.cnd 38 (.rf 4) .skip))) (.ic 17 18 6)))))) (.s (.d [.f1 39 2 3,.f1 40 5 39,.l1 41 1 40,.f1 42 7 2,.l1 43 1 42,.f1 44 1 3,.l1 45 1 44,.i1 46 1 43 45,.l1 47 1 46,.b1 48 .leq 41 47,.mv 4 48]) .ret))))
theorem zmW:zc Tryz.prog [] 101=some (zmV.ac,[(.t 4)],49):=by kernel_rfl
theorem zpC (W0:World) (w:Wld) (m:Msg) (hw:isW m.who) (hl:w.holds.length=3) (hf:w.floors.length=3):Fn Tryz.prog W0 101 [zB w,eMsg m] (.c (CB (tb (Jg w m)))) []:=by
 refine fX mixed zmW fun hg=>?_
 refine dr ?_;repeat (refine aHd hw hl ?_; first|refine dr ?_|exact dz)
 have g0:=yN (hg _ (by simp:zB w∈_));have g1:(hdW w m.who).length≤9223372036854775807:=by
  have hk:m.who.toNat < w.holds.length:=by have:=hw.1; have:=hw.2; omega
  have e:hdW w m.who=w.holds[m.who.toNat]:=by unfold hdW; rw [List.getD_eq_getElem?_getD,List.getElem?_eq_getElem hk]; rfl
  have:=zav (g0 _ (by simp:jC w.holds∈_)) _ (List.getElem_mem hk) (zf w.holds[m.who.toNat]) (by simp [zf,CV.cells]);rw [e]; exact jc this
 have e0:Jg w m↔m.hold.num≤flW w m.who∧∀ h∈hdW w m.who,h.path=m.hold.path→m.hold.num < h.num:=Iff.rfl;rw [tb_c e0];generalize hL:hdW w m.who=L at *;refine lp (σ:=Nat) (fun k=>[(2,.ptr 32 0),(3,.ptr 48 0),(5,.c (zf L)),(6,I k)]) (fun _=>[(32,wBx w),(48,.box (mCs m))]) (fun k=>k≤L.length∧∀ h∈L.take k,h.path=m.hold.path→m.hold.num < h.num) (fun k=>L.length - k) 0 ⟨by omega,by simp⟩ ?_ ?_
 ·refine dr ?_;trivial
 rintro k ⟨hk,hA⟩;refine dr ?_;apply cP<;>intro h1;rotate_left
 ·have hkl:k=L.length:=by omega
  rw [hkl,List.take_length] at hA;refine dr ?_;repeat (refine aFl hw hf ?_; first|refine dr ?_|exact dz)
  rw [za6];exact congrArg CB (tb_c ⟨fun h=>⟨h,hA⟩,fun h=>h.1⟩)
 have hk':k < L.length:=by omega
 have next:(L[k].path=m.hold.path→m.hold.num < L[k].num)→∀ h∈L.take (k+1),h.path=m.hold.path→m.hold.num < h.num:=fun h l hl=>by
  rw [List.take_succ_eq_append_getElem hk'] at hl;rcases List.mem_append.1 hl with h' | h'
  ·exact hA l h'
  ·rw [List.mem_singleton.1 h']; exact h
 refine dr ?_;apply cP<;>intro h2
 ·refine dr ?_;apply cP<;>intro h3
  ·refine dr ?_;exact pF fun hh=>by have:=hh.2 _ (List.getElem_mem hk') h2; omega
  ·refine dr ?_;refine ⟨k+1,⟨by omega,next fun _=>by omega⟩,by omega,?_⟩;refine dr ?_;trivial
 ·refine dr ?_;refine ⟨k+1,⟨by omega,next fun h=>absurd h h2⟩,by omega,?_⟩;refine dr ?_;trivial
def zm9:XC:=(.s (.r [.x1 3 0,.x1 5 2,.m1 6 .n]) (.s (.r [.f1 8 2 5,.l2 9 7 8,.ex 7 (.alloc [sE,(B false),sE,(B false),sE,(I 0),(I 0)]),.s1 7 7 9]) (.s (.s (.r [.f1 10 1 5,.l1 11 1 10,.c1 12 69 [11],.u1 13 12,.mv 14 13,.h1 15 0 7 14,.h2 16 1 15 14,.gf 17 (.call 98 [16]) 14,.gf 18 (.un .not 17) 14,.p1 19 14 18,.mv 20 19,.h1 21 5 7 20,.h2 22 1 21 20,.gf 23 (.bin .lss 22 (.i 0)) 20,.p1 24 20 23,.mv 25 24,.h1 26 5 7 25,.h2 27 1 26 25,.h1 28 4 3 25,.h2 29 1 28 25,.gf 30 (.bin .gtr 27 29) 25,.p1 31 25 30,.mv 32 31,.h1 33 0 5 32,.h2 34 1 33 32,.gf 35 (.bin .lss 34 (.i 1)) 32,.p1 36 32 35,.mv 37 36,.h1 38 0 5 37,.h2 39 1 38 37,.gf 40 (.bin .gtr 39 (.i 4)) 37,.p1 41 37 40]) (.cnd 41 (.rf 6) .skip)) (.s (.s (.r [.f1 42 0 5,.l1 43 1 42,.b1 44 .eql 43 (.i 2)]) (.cnd 44 (.s (.d [.f1 45 5 7,.l1 46 1 45,.f1 47 7 3,.l1 48 1 47,.f1 49 1 5,.l1 50 1 49,.i1 51 1 48 50,.l1 52 1 51,.b1 53 .leq 46 52,.mv 54 53,.gf 55 (.ld true 14 3) 54,.h3 56 1 54,.h1 57 1 5 54,.h2 58 1 57 54,.gf 59 (.ld true 7 7) 54,.gf 60 (.call 100 [55,56,58,59]) 54,.p1 61 54 60,.mv 6 61]) .ret) .skip)) (.s (.s (.r [.l2 62 7 7,.f1 63 0 7,.l1 64 1 63,.f1 65 5 7,.l1 66 1 65,.ex 67 (.build [sE,(B false),sE,(B false),sE,(I 0),(I 0)] [(0,(1,64)),(5,(1,66))]),.ex 68 (.beq true [.s,.b,.s,.b,.s,(.i .i64),(.i .i64)] 62 67)]) (.cnd 68 (.rf 6) .skip)) (.s (.r [.f1 69 0 5,.l1 70 1 69,.b1 71 .neq 70 (.i 4),.mv 72 71,.gf 73 (.ld true 14 3) 72,.gf 74 (.ld true 9 5) 72,.gf 75 (.call 101 [73,74]) 72,.p1 76 72 75,.mv 6 76]) .ret))))))
theorem zna:zc Tryz.prog [] 47=some (zm9.ac,[(.t 6)],77):=by kernel_rfl
theorem zpI (W0:World) (w:Wld) (t:List Ent) (m:Msg) (hl:w.holds.length=3) (hf:w.floors.length=3):Fn Tryz.prog W0 47 [zB w,za t,eMsg m] (.c (CB (tb (MsOk w t m)))) []:=by
 refine fX mixed zna fun hg=>?_
 refine dr ?_;refine c0 (zae W0 _) rfl ?_;refine dEr ?_;apply cP<;>intro a1
 ·refine dr ?_;exact pF fun h=>a1 h.who
 refine dEr ?_;repeat (refine c0 (qH W0 _) rfl ?_; first|refine dEr ?_|exact dz)
 apply cP<;>intro a2
 ·refine dr ?_;exact pF fun h=>by rw [h.path] at a2; cases a2
 refine dr ?_;apply cP<;>intro a3
 ·refine dr ?_;exact pF fun h=>by have:=h.num; omega
 refine dr ?_;apply cP<;>intro a4
 ·refine dr ?_;exact pF fun h=>by have:=h.num; omega
 refine dr ?_;apply cP<;>intro a5
 ·refine dr ?_;exact pF fun h=>by have:=h.kind; omega
 refine dr ?_;apply cP<;>intro a6
 ·refine dr ?_;exact pF fun h=>by have:=h.kind; omega
 refine dr ?_;apply cP<;>intro a7
 ·refine dr ?_;repeat (refine aFl a1 hf ?_; first|refine dr ?_|exact dz)
  apply cP<;>intro a8
  ·refine dr ?_;exact pT ⟨a1,a2,⟨by omega,by omega⟩,⟨by omega,by omega⟩,fun _ => .inl a8,fun h=>absurd a7 h,fun h=>by omega⟩
  ·refine dEr ?_;repeat (refine c0 (zeu W0 w t m.who m.hold) rfl ?_; first|refine dEr ?_|exact dz)
   refine congrArg CB (tb_c ⟨fun h=>⟨a1,a2,⟨by omega,by omega⟩,⟨by omega,by omega⟩,fun _ => .inr h,fun h=>absurd a7 h,fun h=>by omega⟩,fun h=>?_⟩);rcases h.grant a7 with h | h
   ·omega
   ·exact h
 refine dr ?_;rw [show (eqS m.hold.path m.hold.path&&(eqB m.hold.has false&&(eqS m.hold.ent.path []&&(eqB m.hold.ent.dir false&&(eqS m.hold.ent.data []&&(eqI m.hold.num m.hold.num&&(eqI m.hold.til 0&&true)))))))=decide (m.hold=JF m.hold) from zbk m.hold (JF m.hold)];apply cP<;>intro a8
 ·refine dr ?_;exact pF fun h=>a8 (h.plain a7)
 refine dr ?_;apply cP<;>intro a9
 ·refine dr ?_;exact pT ⟨a1,a2,⟨by omega,by omega⟩,⟨by omega,by omega⟩,fun h=>absurd h a7,fun _=>a8,fun h=>absurd h a9⟩
 ·refine dEr ?_;repeat (refine c0 (zpC W0 w m a1 hl hf) rfl ?_; first|refine dEr ?_|exact dz)
  exact congrArg CB (tb_c ⟨fun h=>⟨a1,a2,⟨by omega,by omega⟩,⟨by omega,by omega⟩,fun h=>absurd h a7,fun _=>a8,fun _=>h⟩,fun h=>h.back (by omega)⟩)
def zne:XC:=(.s (.r [.x1 1 0,.m1 2 .n]) (.s (.s (.r [.f1 4 3 1,.l1 5 1 4,.b1 6 .lss 5 (.i 0),.mv 7 6,.h1 8 3 1 7,.h2 9 1 8 7,.gf 10 (.bin .gtr 9 (.i 10000)) 7,.p1 11 7 10,.mv 12 11,.h1 13 4 1 12,.h2 14 1 13 12,.gf 15 (.bin .lss 14 (.i 0)) 12,.p1 16 12 15,.mv 17 16,.h1 18 4 1 17,.h2 19 1 18 17,.gf 20 (.bin .gtr 19 (.i 10000)) 17,.p1 21 17 20,.mv 22 21,.h1 23 6 1 22,.h2 24 1 23 22,.gf 25 (.len false 24) 22,.gf 26 (.bin .neq 25 (.i 3)) 22,.p1 27 22 26,.mv 28 27,.h1 29 7 1 28,.h2 30 1 29 28,.gf 31 (.len false 30) 28,.gf 32 (.bin .neq 31 (.i 3)) 28,.p1 33 28 32,.mv 34 33,.h1 35 8 1 34,.h2 36 1 35 34,.gf 37 (.len false 36) 34,.gf 38 (.bin .gtr 37 (.i 12)) 34,.p1 39 34 38]) (.cnd 39 (.rf 2) .skip)) (.s (.s (.r [.m1 3 (.i 0)]) (.blk 0 (.loop (.s (.s (.r [.mv 40 3,.b1 41 .lss 40 (.i 3)]) (.ce 41 0)) (.s (.blk 1 (.s (.d [.f1 44 7 1,.l1 45 1 44,.mv 46 3,.i1 47 1 45 46,.l1 48 1 47,.b1 49 .lss 48 (.i 0),.mv 50 49,.h1 51 7 1 50,.h2 52 1 51 50,.h3 53 3 50,.gf 54 (.ia 1 52 53) 50,.h2 55 1 54 50,.h1 56 4 1 50,.h2 57 1 56 50,.gf 58 (.bin .gtr 55 57) 50,.p1 59 50 58]) (.cnd 59 (.rf 2) .skip))) (.ic 42 43 3)))))) (.rt 2))))
theorem znf:zc Tryz.prog [] 43=some (zne.ac,[(.t 2)],60):=by kernel_rfl
theorem zpM (W0:World) (w:Wld):Fn Tryz.prog W0 43 [zB w] (.c (CB (tb (PlW w)))) []:=by
 refine fX mixed znf fun hg=>?_
 refine dr ?_;apply cP<;>intro a1
 ·refine dr ?_;exact pF fun h=>by have:=h.ck; omega
 refine dr ?_;apply cP<;>intro a2
 ·refine dr ?_;exact pF fun h=>by have:=h.ck; omega
 refine dr ?_;apply cP<;>intro a3
 ·refine dr ?_;exact pF fun h=>by have:=h.ct; omega
 refine dr ?_;apply cP<;>intro a4
 ·refine dr ?_;exact pF fun h=>by have:=h.ct; omega
 refine dr ?_;apply cP<;>intro a5
 ·refine dr ?_;exact pF fun h=>by have:=h.hl; omega
 refine dr ?_;apply cP<;>intro a6
 ·refine dr ?_;exact pF fun h=>by have:=h.fl; omega
 refine dr ?_;apply cP<;>intro a7
 ·refine dr ?_;exact pF fun h=>by have:=h.nl; omega
 have hf:w.floors.length=3:=by omega
 refine dr ?_;refine lp (σ:=Nat) (fun k=>[(1,.ptr 16 0),(3,I k)]) (fun _=>[(16,wBx w)]) (fun k=>k≤3∧∀ f∈w.floors.take k,0≤f∧f≤w.count) (fun k=>3 - k) 0 ⟨by omega,by simp⟩ ?_ ?_
 ·refine dr ?_;trivial
 rintro k ⟨hk,hA⟩;refine dr ?_;apply cP<;>intro h1;rotate_left
 ·have hkl:k=w.floors.length:=by omega
  rw [hkl,List.take_length] at hA;refine dr ?_;exact pT ⟨⟨by omega,by omega⟩,⟨by omega,by omega⟩,by omega,by omega,by omega,hA⟩
 have hk':k < w.floors.length:=by omega
 refine dr ?_;apply cP<;>intro h2
 ·refine dr ?_;exact pF fun h=>by have:=h.fr _ (List.getElem_mem hk'); omega
 refine dr ?_;apply cP<;>intro h3
 ·refine dr ?_;exact pF fun h=>by have:=h.fr _ (List.getElem_mem hk'); omega
 ·refine dr ?_;refine ⟨k+1,⟨by omega,fun l hl=>?_⟩,by omega,?_⟩
  ·rw [List.take_succ_eq_append_getElem hk'] at hl;rcases List.mem_append.1 hl with h' | h'
   ·exact hA l h'
   ·rw [List.mem_singleton.1 h']; exact ⟨by omega,by omega⟩
  refine dr ?_;trivial
def znt:XC:=(.s (.r [.x1 2 0,.m1 4 .n]) (.s (.s (.r [.f1 7 9 2,.l1 8 1 7,.u1 9 8]) (.cnd 9 (.s (.r [.f1 10 10 2,.l2 11 4 10,.ex 12 (.build [(I 0),sE,sE,sE] []),.ex 13 (.beq false [(.i .i64),.s,.s,.s] 11 12),.mv 4 13]) .ret) .skip)) (.s (.r [.mv 15 1,.f1 16 10 2,.l2 17 4 16,.c1 18 99 [15,17],.mv 14 18,.e1 19 14 0,.e1 20 14 1,.a1 5 19 3 46,.mv 6 20]) (.s (.r [.mv 21 6,.b1 22 .eql 21 (.i 0),.mv 4 22]) .ret))))
theorem znu:zc Tryz.prog [] 45=some (znt.ac,[(.t 4)],23):=by kernel_rfl
theorem zpR (W0:World) (w:Wld) (t:List Ent):Fn Tryz.prog W0 45 [zB w,za t] (.c (CB (tb (WtOk w t)))) []:=by
 refine fX mixed znu fun hg=>?_
 refine dr ?_;apply cP<;>intro h1
 ·refine dr ?_;rw [show (eqI w.op.kind 0&&(eqS w.op.path []&&(eqS w.op.dest []&&(eqS w.op.data []&&true))))=decide (w.op=ja) from bqOp w.op ja];by_cases h2:w.op=ja
  ·rw [decide_eq_true h2];exact pT ⟨fun _=>h2,fun h=>by rw [h1] at h; cases h⟩
  ·rw [decide_eq_false h2];exact pF fun h=>h2 (h.1 h1)
 ·refine dEr ?_;repeat (refine c0 (Jv W0 t w.op) rfl ?_; first|refine dEr ?_|exact dz)
  refine congrArg CB ?_;rw [Bool.eq_iff_iff,qG,tb_i];exact ⟨fun h=>⟨fun h2=>(by rw [h1] at h2; cases h2),fun _=>h⟩,fun h=>h.2 h1⟩
def zlh:XC:=(.s (.r [.x1 1 0,.m1 2 .n]) (.s (.r [.f1 8 0 1,.l2 9 3 8,.c1 10 42 [9],.mv 7 10,.e1 11 7 0,.e1 12 7 1,.a1 3 11 3 46,.mv 4 12]) (.s (.s (.r [.mv 13 4,.u1 14 13,.mv 15 14,.gf 16 (.ld true 14 1) 15,.gf 17 (.call 43 [16]) 15,.gf 18 (.un .not 17) 15,.p1 19 15 18,.mv 20 19,.gf 21 (.ld true 14 1) 20,.gf 22 (.call 44 [21]) 20,.gf 23 (.un .not 22) 20,.p1 24 20 23,.mv 25 24,.gf 26 (.ld true 14 1) 25,.h3 27 3 25,.gf 28 (.call 45 [26,27]) 25,.gf 29 (.un .not 28) 25,.p1 30 25 29]) (.cnd 30 (.rf 2) .skip)) (.s (.s (.r [.m1 5 (.i 0)]) (.blk 0 (.loop (.s (.s (.r [.mv 31 5,.b1 32 .lss 31 (.i 3)]) (.ce 32 0)) (.s (.blk 1 (.s (.r [.l2 35 14 1,.mv 36 3,.mv 37 5,.c1 38 46 [35,36,37],.u1 39 38]) (.cnd 39 (.rf 2) .skip))) (.ic 33 34 5)))))) (.s (.s (.r [.m1 6 (.i 0)]) (.blk 2 (.loop (.s (.s (.r [.mv 40 6,.f1 41 8 1,.l1 42 1 41,.n1 43 42,.b1 44 .lss 40 43]) (.ce 44 2)) (.s (.blk 3 (.s (.d [.l2 47 14 1,.mv 48 3,.f1 49 8 1,.l1 50 1 49,.mv 51 6,.i1 52 9 50 51,.l2 53 9 52,.c1 54 47 [47,48,53],.u1 55 54]) (.cnd 55 (.rf 2) .skip))) (.ic 45 46 6)))))) (.rt 2))))))
theorem zli:zc Tryz.prog [] 15=some (zlh.ac,[(.t 2)],56):=by kernel_rfl
theorem zaj (W0:World) (w:Wld):Fn Tryz.prog W0 15 [zB w] (.c (CB (tb (WG w)))) []:=by
 refine fX mixed zli fun hg=>?_
 have hv:=zqe W0 w.over;cases h1:oOk w.over with
 | false =>
  rw [h1] at hv;refine dEr ?_;repeat (refine c0 hv rfl ?_; first|refine dEr ?_|exact dz)
  exact pF fun h=>by rw [h.ov] at h1; cases h1
 | true =>
  obtain ⟨t',x,g⟩:=OG.of h1;have ev:vwG w.over=x:=g.vwG;rw [h1,if_pos rfl,g.vw] at hv;have g0:=yN (hg _ (by simp:zB w∈_));have g1:w.net.length≤9223372036854775807:=jc (g0 _ (by simp:jM w.net∈_));refine dEr ?_;repeat ((first|refine c0 hv rfl ?_|refine c0 (zpM W0 w) rfl ?_); first|refine dEr ?_|exact dz)
  apply cP<;>intro a1
  ·refine dr ?_;exact pF fun h=>a1 h.pl
  refine dEr ?_;repeat (refine c0 (zpG W0 w a1.ck.2) rfl ?_; first|refine dEr ?_|exact dz)
  apply cP<;>intro a2
  ·refine dr ?_;exact pF fun h=>a2 h.ls
  refine dEr ?_;repeat (refine c0 (zpR W0 w x) rfl ?_; first|refine dEr ?_|exact dz)
  apply cP<;>intro a3
  ·refine dr ?_;exact pF fun h=>a3 (by have:=h.wt; rwa [ev] at this)
  refine dr ?_;refine lp (σ:=Nat) (fun k=>[(1,.ptr 16 0),(3,.c (za x)),(5,I k)]) (fun _=>[(16,wBx w)]) (fun k=>k≤3∧∀ i:Nat,i < k→HdOk w x i) (fun k=>3 - k) 0 ⟨by omega,fun i hi=>by omega⟩ ?_ ?_
  ·refine dr ?_;trivial
  rintro k ⟨hk,hA⟩;refine dr ?_;apply cP<;>intro b1
  ·refine dEr ?_;repeat (refine c0 (zpE W0 w x (k:Int) ⟨by omega,by omega⟩ a1.hl) rfl ?_; first|refine dEr ?_|exact dz)
   apply cP<;>intro b2
   ·refine dr ?_;exact pF fun h=>b2 (by have:=h.hd k (by omega); rwa [ev] at this)
   ·refine dr ?_;refine ⟨k+1,⟨by omega,fun i hi=>?_⟩,by omega,?_⟩
    ·by_cases he:i=k
     ·subst he; exact b2
     ·exact hA i (by omega)
    refine dr ?_;trivial
  have hA:∀ i:Nat,i < 3→HdOk w x i:=fun i hi=>hA i (by omega)
  refine dr ?_;refine lp (σ:=Nat) (fun k=>[(1,.ptr 16 0),(3,.c (za x)),(6,I k)]) (fun _=>[(16,wBx w)]) (fun k=>k≤w.net.length∧∀ m∈w.net.take k,MsOk w x m) (fun k=>w.net.length - k) 0 ⟨by omega,by simp⟩ ?_ ?_
  ·refine dr ?_;trivial
  rintro k ⟨hk,hM⟩;refine dr ?_;apply cP<;>intro c1
  ·have hk':k < w.net.length:=by omega
   refine dEr ?_;repeat (refine c0 (zpI W0 w x w.net[k] a1.hl a1.fl) rfl ?_; first|refine dEr ?_|exact dz)
   apply cP<;>intro c2
   ·refine dr ?_;exact pF fun h=>c2 (by have:=h.ms _ (List.getElem_mem hk'); rwa [ev] at this)
   ·refine dr ?_;refine ⟨k+1,⟨by omega,fun l hl=>?_⟩,by omega,?_⟩
    ·rw [List.take_succ_eq_append_getElem hk'] at hl;rcases List.mem_append.1 hl with h' | h'
     ·exact hM l h'
     ·rw [List.mem_singleton.1 h']; exact c2
    refine dr ?_;trivial
  have hkl:k=w.net.length:=by omega
  rw [hkl,List.take_length] at hM;refine dr ?_;exact pT ⟨h1,a1,a2,by rw [ev]; exact a3,by rw [ev]; exact hA,by rw [ev]; exact hM⟩
end Go.Proofs.YtopfccpgdldcdaaGreatDoor

namespace Go.Proofs.YtopfccpgdldcdaaGreatDoor
set_option linter.unusedSimpArgs false
set_option linter.unusedVariables false
open Go Go.RowKit
section
variable {w:Wld}
def JQ (w x:Wld):Prop:=(x.count=w.count∧∀ l∈x.leases,l∈w.leases) ∨
 ∃ who p,x.count=w.count+1∧x.leases=jm w.leases who p (w.count+1)++[⟨who,p,w.count+1,w.clock+5⟩]
theorem JQ.refl {x:Wld} (h1:x.count=w.count) (h2:x.leases=w.leases):JQ w x := .inl ⟨h1,fun l hl=>by rw [h2] at hl; exact hl⟩
theorem JQ.count {x:Wld} (h:JQ w x):w.count≤x.count∧x.count≤w.count+1:=by
 rcases h with ⟨h,_⟩ | ⟨_,_,h,_⟩<;>omega
theorem JQ.fresh {x:Wld} (h:JQ w x) (hw:WG w):((x.leases.filter fun l=>decide (w.count < l.num)).length:Int)=x.count - w.count:=by
 have hf:∀ l∈w.leases,¬ decide (w.count < l.num)=true:=fun l hl=>by have:=(hw.ls.g l hl).2.2.2.1; simp; omega
 rcases h with ⟨h1,h2⟩ | ⟨who,p,h1,h2⟩
 ·have:x.leases.filter (fun l=>decide (w.count < l.num))=[]:=List.filter_eq_nil_iff.2 fun l hl=>hf l (h2 l hl)
  rw [this,h1]; simp
 ·rw [h2,List.filter_append];have:(jm w.leases who p (w.count+1)).filter (fun l=>decide (w.count < l.num))=[]:=List.filter_eq_nil_iff.2 fun l hl=>hf l (Qs.1 hl).1
  rw [this];rw [List.filter_cons,if_pos (by simp only [decide_eq_true_eq]; omega)];rw [h1]; simp; omega
theorem zc8 {t:List Ent} {op:Op}:0≤(zx t op).2∧(zx t op).2≤8:=by
 have hu:∀ p,0≤upC t p∧upC t p≤8:=fun p=>by unfold upC; split<;>(try split)<;>omega
 have hn:∀ p,0≤newC t p∧newC t p≤8:=fun p=>by have:=hu p; unfold newC; split<;>(try split)<;>(try split)<;>omega
 have hp:∀ p,0≤putC t p∧putC t p≤8:=fun p=>by have:=hn p; unfold putC; split<;>(try split)<;>omega
 have ho:0≤offC t op∧offC t op≤8:=by unfold offC; split<;>(try split)<;>(try split)<;>(try split)<;>omega
 have hm:0≤movC t op∧movC t op≤8:=by have:=hu op.dest; unfold movC; split<;>(try split)<;>(try split)<;>(try split)<;>(try split)<;>omega
 have hc:0≤jO t op∧jO t op≤8:=by
  unfold jO;split
  ·exact hn _
  ·split
   ·exact hp _
   ·split
    ·exact hm
    ·exact ho
 unfold zx;split
 ·split
  ·split
   ·simp
   ·exact hc
  ·simp
 ·simp
theorem zhV {op:Op} (h:zI w op≠[]):(zx (vwG w.over) op).2=0:=by
 refine Classical.byContradiction fun hc=>h ?_
 unfold zI jQ;rw [if_neg hc];rw [List.filter_eq_nil_iff];intro l _;simp
theorem zdh {op:Op}:(w.waits=true∧jq w op=(w,21))∨(w.waits=false∧(zx (vwG w.over) op).2≠0∧zI w op=[]∧jq w op=(w,(zx (vwG w.over) op).2)) ∨
  (w.waits=false∧(zx (vwG w.over) op).2=0∧zI w op≠[]∧jq w op=(jT { w with waits:=true,op:=op } (zI w op),20)) ∨
  (w.waits=false∧(zx (vwG w.over) op).2=0∧zI w op=[]∧jq w op=({ w with over:=(oDo w.over op).1 },0)):=by
 unfold jq;cases hw:w.waits with
 | true=>left; exact ⟨rfl,by rw [if_pos rfl]⟩
 | false =>
  right;rw [if_neg (by simp)];by_cases hc:(zx (vwG w.over) op).2=0
  ·right;rw [if_neg (by simp [hc])];by_cases hb:zI w op=[]
   ·right; rw [if_neg (by simp [hb])]; exact ⟨rfl,hc,hb,rfl⟩
   ·left; rw [if_pos hb]; exact ⟨rfl,hc,hb,rfl⟩
  ·left;rw [if_pos hc];refine ⟨rfl,hc,?_,rfl⟩;exact Classical.byContradiction fun hb=>hc (zhV hb)
theorem zhv:(w.waits=false∧jI w=(w,22))∨(w.waits=true∧zI w w.op≠[]∧jI w=(jT w (zI w w.op),20)) ∨
  (w.waits=true∧zI w w.op=[]∧jI w=({ w with over:=(oDo w.over w.op).1,waits:=false,op:=ja },0)):=by
 unfold jI;cases hw:w.waits with
 | false=>left; exact ⟨rfl,by rw [if_pos rfl]⟩
 | true =>
  right;rw [if_neg (by simp)];by_cases hb:zI w w.op=[]
  ·right; rw [if_neg (by simp [hb])]; exact ⟨rfl,hb,rfl⟩
  ·left; rw [if_pos hb]; exact ⟨rfl,hb,rfl⟩
end
end Go.Proofs.YtopfccpgdldcdaaGreatDoor

namespace Go.Proofs.YtopfccpgdldcdaaGreatDoor
set_option linter.unusedSimpArgs false
set_option linter.unusedVariables false
open Go Go.RowKit
def zlX:XC:=(.s (.r [.ex 4 (.alloc [(I 0),sE,sE,sE])]) (.s (.r [.mv 6 0,.ex 7 (.bsl 1 3 [(.i 1),(.i 2),(.i 2),(.i 3),(.i 4),(.i 5),(.i 1),(.i 5)]),.o1 8 68 [6,7],.mv 9 0,.o1 10 86 [9],.ex 11 (.build [(I 0),sE,sE,sE] [(0,(1,8)),(1,(1,10))]),.ex 5 (.alloc [(I 0),sE,sE,sE]),.s1 4 5 11]) (.cut (.s (.r [.mv 12 1,.n1 13 12,.b1 14 .gtr 13 (.i 0),.mv 15 14,.g1 16 0 5 15,.g2 17 1 16 15,.gt 18 (.bin .gtr 17 (.i 2)) 15,.p2 19 15 18,.mv 20 19,.g3 21 0 20,.gt 22 (.opn 38 [21,(.i 4)]) 20,.gt 23 (.bin .gtr 22 (.i 0)) 20,.p2 24 20 23]) (.cnd 24 (.r [.mv 25 1,.mv 26 0,.mv 27 1,.n1 28 27,.o1 29 38 [26,28],.i1 30 3 25 29,.f1 31 0 30,.l1 32 1 31,.f1 33 1 5,.s1 1 33 32]) .skip)) (.cut (.s (.r [.f1 34 0 5,.l1 35 1 34,.b1 36 .eql 35 (.i 2)]) (.cnd 36 (.r [.mv 37 0,.o1 38 93 [37],.f1 39 3 5,.s1 1 39 38]) .skip)) (.cut (.s (.r [.f1 40 0 5,.l1 41 1 40,.b1 42 .eql 41 (.i 5)]) (.cnd 42 (.r [.mv 43 0,.o1 44 86 [43],.f1 45 2 5,.s1 1 45 44]) .skip)) (.cut (.s (.r [.mv 46 0,.o1 47 38 [46,(.i 50)]]) (.blk 0 (.s (.r [.b1 49 .eql 47 (.i 0),.mv 48 49]) (.cnd 48 (.r [.mv 50 0,.ex 51 (.bsl 1 3 [(.i 0),(.i 6),(.k (.c (.sc (.int .i64 (.negSucc 0))))),(.i 1)]),.o1 52 68 [50,51],.f1 53 0 5,.s1 1 53 52]) (.s (.r [.b1 55 .eql 47 (.i 1),.mv 54 55]) (.cnd 54 (.r [.mv 56 0,.ex 57 (.bsl 1 9 [(.s [47]),(.s []),(.s [47,65]),(.s [47,97,47,98,47,99,47,100])]),.o1 58 94 [56,57],.f1 59 1 5,.s1 1 59 58]) (.s (.r [.b1 61 .eql 47 (.i 2),.mv 60 61]) (.cnd 60 (.r [.mv 62 0,.ex 63 (.bsl 1 9 [(.s [47]),(.s [47,97]),(.s [47,99,47,99,47,99]),(.s [])]),.o1 64 94 [62,63],.f1 65 2 5,.s1 1 65 64]) (.s (.r [.b1 67 .eql 47 (.i 3),.mv 66 67]) (.cnd 66 (.r [.mv 68 0,.ex 69 (.bsl 1 9 [(.s [113]),(.s [65]),(.s [97,98,99,100,101,102,103]),(.s [97,98,99,100,101,102])]),.o1 70 94 [68,69],.f1 71 3 5,.s1 1 71 70]) .skip)))))))))) (.s (.r [.l2 72 4 5,.s1 4 4 72]) .ret)))))))
theorem zlY:zc Tryz.prog [38,68,94,86,93] 37=some (zlX.ac,[(.cell 4 true 4)],73):=by kernel_rfl
theorem Q5 (W0:World) (s:Str) (p:Int) (t:List Ent) (hs:s.length≤2000) (hp:0≤p∧p≤100000) (ht:t.length≤100000) :
  zw Tryz.prog W0 37 [.ptr 1 0,.c (za t)] (Rd s p) (fun x:Op × Int=>p≤x.2∧x.2≤p+8) (fun x => .c (eOp x.1)) (fun x=>Rd s x.2):=by
 refine fW mixed zlY fun hg=>?_
 refine dr ?_;refine oW (ym W0 s p [1,2,2,3,4,5,1,5] hs (by omega) (by decide)) rfl ⟨rfl,trivial⟩ rfl rfl ⟨1,by decide⟩ fun k hk=>⟨rfl,?_⟩
 refine dr ?_;refine oW (qW W0 s (p+1) hs (by omega)) rfl ⟨rfl,trivial⟩ rfl rfl ⟨_,List.mem_cons_self⟩ fun x hx=>⟨rfl,?_⟩
 refine dEr ?_;refine JW (fun (o:Op) (q:Int)=>[(0,.ptr 1 0),(4,.ptr 64 0),(5,.ptr 80 0)]) (fun o q=>[(1,.box [.c (qr s),.c (CI q)]),(64,.box [.c (CI 0),.c (CS []),.c (CS []),.c (CS [])]),(80,.box [.c (CI o.kind),.c (CS o.path),.c (CS o.dest),.c (CS o.data)])]) (fun o q=>p≤q∧q≤p+4) ?_ ?_
 ·refine dr ?_;apply cP<;>intro h1
  ·refine dr ?_;apply cP<;>intro h2
   ·refine dr ?_;refine oW (zX W0 s (p+1+1) 4 hs (by omega) (by omega)) rfl ⟨rfl,trivial⟩ rfl rfl ⟨0,by omega,by omega⟩ fun k1 hk1=>⟨rfl,?_⟩
    refine dEr ?_;apply cP<;>intro h3
    ·refine dEr ?_;refine oW (zX W0 s (p+1+1+1) t.length hs (by omega) (by omega)) rfl ⟨rfl,trivial⟩ rfl rfl ⟨0,by omega,by omega⟩ fun k2 hk2=>⟨rfl,?_⟩
     refine dEr ?_;repeat (refine aX hk2.1 (hk2.2 (by omega)) fun e he=>?_; first|refine dEr ?_|exact dz)
     refine ⟨⟨k,e.path,[],[]⟩,p+1+1+1+1,⟨by omega,by omega⟩,?_⟩;refine dr ?_;trivial
    ·refine dEr ?_;refine ⟨⟨k,x,[],[]⟩,p+1+1+1,⟨by omega,by omega⟩,?_⟩;refine dr ?_;trivial
   ·refine dr ?_;refine ⟨⟨k,x,[],[]⟩,p+1+1,⟨by omega,by omega⟩,?_⟩;refine dr ?_;trivial
  ·refine dr ?_;refine ⟨⟨k,x,[],[]⟩,p+1+1,⟨by omega,by omega⟩,?_⟩;refine dr ?_;trivial
 rintro o q ⟨hq1,hq2⟩;refine dr ?_;refine JW (fun (o:Op) (q:Int)=>[(0,.ptr 1 0),(4,.ptr 64 0),(5,.ptr 80 0)]) (fun o q=>[(1,.box [.c (qr s),.c (CI q)]),(64,.box [.c (CI 0),.c (CS []),.c (CS []),.c (CS [])]),(80,.box [.c (CI o.kind),.c (CS o.path),.c (CS o.dest),.c (CS o.data)])]) (fun o q=>p≤q∧q≤p+5) ?_ ?_
 ·refine dr ?_;apply cP<;>intro h1
  ·refine dr ?_;refine oW (zem W0 s q hs (by omega)) rfl ⟨rfl,trivial⟩ rfl rfl ⟨_,List.mem_cons_self⟩ fun y hy=>⟨rfl,?_⟩
   refine dEr ?_;refine ⟨⟨o.kind,o.path,o.dest,y⟩,q+1,⟨by omega,by omega⟩,?_⟩;refine dr ?_;trivial
  ·refine dr ?_;refine ⟨o,q,⟨by omega,by omega⟩,?_⟩;refine dr ?_;trivial
 rintro o q ⟨hq1,hq2⟩;refine dr ?_;refine JW (fun (o:Op) (q:Int)=>[(0,.ptr 1 0),(4,.ptr 64 0),(5,.ptr 80 0)]) (fun o q=>[(1,.box [.c (qr s),.c (CI q)]),(64,.box [.c (CI 0),.c (CS []),.c (CS []),.c (CS [])]),(80,.box [.c (CI o.kind),.c (CS o.path),.c (CS o.dest),.c (CS o.data)])]) (fun o q=>p≤q∧q≤p+6) ?_ ?_
 ·refine dr ?_;apply cP<;>intro h1
  ·refine dr ?_;refine oW (qW W0 s q hs (by omega)) rfl ⟨rfl,trivial⟩ rfl rfl ⟨_,List.mem_cons_self⟩ fun y hy=>⟨rfl,?_⟩
   refine dEr ?_;refine ⟨⟨o.kind,o.path,y,o.data⟩,q+1,⟨by omega,by omega⟩,?_⟩;refine dr ?_;trivial
  ·refine dr ?_;refine ⟨o,q,⟨by omega,by omega⟩,?_⟩;refine dr ?_;trivial
 rintro o q ⟨hq1,hq2⟩;refine dr ?_;refine JW (fun (o:Op) (q:Int)=>[(0,.ptr 1 0),(4,.ptr 64 0),(5,.ptr 80 0)]) (fun o q=>[(1,.box [.c (qr s),.c (CI q)]),(64,.box [.c (CI 0),.c (CS []),.c (CS []),.c (CS [])]),(80,.box [.c (CI o.kind),.c (CS o.path),.c (CS o.dest),.c (CS o.data)])]) (fun o q=>p≤q∧q≤p+8) ?_ ?_
 ·refine dr ?_;refine oW (zX W0 s q 50 hs (by omega) (by omega)) rfl ⟨rfl,trivial⟩ rfl rfl ⟨0,by omega,by omega⟩ fun v hv=>⟨rfl,?_⟩
  refine dEr ?_;apply cP<;>intro h1
  ·refine dr ?_;refine oW (ym W0 s (q+1) [0,6,-1,1] hs (by omega) (by decide)) rfl ⟨rfl,trivial⟩ rfl rfl ⟨0,by decide⟩ fun y hy=>⟨rfl,?_⟩
   refine dEr ?_;refine ⟨⟨y,o.path,o.dest,o.data⟩,q+1+1,⟨by omega,by omega⟩,?_⟩;refine dr ?_;trivial
  refine dr ?_;apply cP<;>intro h2
  ·refine dr ?_;refine oW (f_of W0 s (q+1) [[47],[],[47,65],[47,97,47,98,47,99,47,100]] hs (by omega) (by decide)) rfl ⟨rfl,trivial⟩ rfl rfl ⟨_,List.mem_cons_self⟩ fun y hy=>⟨rfl,?_⟩
   refine dEr ?_;refine ⟨⟨o.kind,y,o.dest,o.data⟩,q+1+1,⟨by omega,by omega⟩,?_⟩;refine dr ?_;trivial
  refine dr ?_;apply cP<;>intro h3
  ·refine dr ?_;refine oW (f_of W0 s (q+1) [[47],[47,97],[47,99,47,99,47,99],[]] hs (by omega) (by decide)) rfl ⟨rfl,trivial⟩ rfl rfl ⟨_,List.mem_cons_self⟩ fun y hy=>⟨rfl,?_⟩
   refine dEr ?_;refine ⟨⟨o.kind,o.path,y,o.data⟩,q+1+1,⟨by omega,by omega⟩,?_⟩;refine dr ?_;trivial
  refine dr ?_;apply cP<;>intro h4
  ·refine dr ?_;refine oW (f_of W0 s (q+1) [[113],[65],[97,98,99,100,101,102,103],[97,98,99,100,101,102]] hs (by omega) (by decide)) rfl ⟨rfl,trivial⟩ rfl rfl ⟨_,List.mem_cons_self⟩ fun y hy=>⟨rfl,?_⟩
   refine dEr ?_;refine ⟨⟨o.kind,o.path,o.dest,y⟩,q+1+1,⟨by omega,by omega⟩,?_⟩;refine dr ?_;trivial
  refine dr ?_;refine ⟨o,q+1,⟨by omega,by omega⟩,?_⟩;refine dr ?_;trivial
 rintro o q ⟨hq1,hq2⟩;refine dr ?_;refine ⟨none,_,_,?_,(o,q),⟨by omega,by omega⟩,rfl,rfl⟩;refine dr ?_;trivial
def zl5:XC:=(.s (.r [.a2 2 3 46]) (.s (.r [.ex 6 .bsl0,.a1 3 6 3 46]) (.s (.s (.r [.mv 7 0,.ex 8 (.bsl 1 3 [(.i 6),(.i 12),(.i 18),(.i 24),(.i 30),(.i 3),(.i 0)]),.o1 9 68 [7,8],.mv 4 9]) (.blk 0 (.loop (.s (.s (.r [.mv 10 4,.b1 11 .gtr 10 (.i 0)]) (.ce 11 0)) (.s (.blk 1 (.r [.mv 15 3,.mv 16 0,.mv 17 3,.o1 18 37 [16,17],.c1 19 99 [15,18],.mv 14 19,.e1 20 14 0,.e1 21 14 1,.a1 3 20 3 46])) (.r [.mv 12 4,.b1 13 .sub 12 (.i 1),.mv 4 13])))))) (.s (.s (.r [.mv 22 0,.o1 23 38 [22,(.i 20)],.b1 24 .eql 23 (.i 0)]) (.cnd 24 (.s (.r [.m1 5 (.i 0)]) (.blk 2 (.loop (.s (.s (.r [.mv 25 5,.b1 26 .lss 25 (.i 26),.mv 27 26,.g3 28 3 27,.gt 29 (.len false 28) 27,.gt 30 (.bin .lss 29 (.i 16)) 27,.p2 31 27 30]) (.ce 31 2)) (.s (.blk 3 (.r [.mv 35 3,.mv 36 5,.b1 37 .add (.i 97) 36,.ex 38 (.conv .u8 37),.ex 39 (.bsl 1 5 [38]),.ex 40 (.b2s 39),.ex 41 (.bin .add (.s [47,122]) 40),.ex 42 (.build [(I 0),sE,sE,sE] [(0,(1,(.i 2))),(1,(1,41))]),.c1 43 99 [35,42],.mv 34 43,.e1 44 34 0,.e1 45 34 1,.a1 3 44 3 46])) (.ic 32 33 5)))))) .skip)) (.s (.r [.mv 46 3,.a1 2 46 3 46]) .ret)))))
theorem zl6:zc Tryz.prog [37,38,68] 141=some (zl5.ac,[(.t 2)],47):=by kernel_rfl
theorem zpl (W0:World) (s:Str) (p:Int) (hs:s.length≤2000) (hp:0≤p∧p≤50000) :
  zw Tryz.prog W0 141 [.ptr 1 0] (Rd s p) (fun x:List Ent × Int=>x.1.length≤17∧p≤x.2∧x.2≤p+242) (fun x => .c (za x.1)) (fun x=>Rd s x.2):=by
 refine fW mixed zl6 fun hg=>?_
 refine dr ?_;refine oW (ym W0 s p [6,12,18,24,30,3,0] hs (by omega) (by decide)) rfl ⟨rfl,trivial⟩ rfl rfl ⟨0,by decide⟩ fun k hk=>⟨rfl,?_⟩
 have hk2:0≤k∧k≤30:=by
  have:∀ x∈([6,12,18,24,30,3,0]:List Int),0≤x∧x≤30:=by decide
  exact this k hk
 refine dEr ?_;refine lz3 48 (fun (t:List Ent) (i q:Int)=>[(0,.ptr 1 0),(3,.c (za t)),(4,.c (CI i))]) (fun _ _ q=>[(1,.box [.c (qr s),.c (CI q)])]) (fun t i q=>t.length≤17∧0≤i∧i≤30∧p≤q∧q≤p+1+8 * (30 - i)) (fun _ i _=>i.toNat) [] k (p+1) ⟨by simp,by omega,by omega,by omega,by omega⟩ ?_ ?_
 ·refine dr ?_;trivial
 rintro t i q ⟨h1,h2,h3,h4,h5⟩;refine dr ?_;apply cP<;>intro h6
 ·refine dr ?_;refine oW (Q5 W0 s q t hs (by omega) (by omega)) rfl ⟨rfl,trivial⟩ rfl rfl ⟨(⟨0,[],[],[]⟩,q),by omega,by omega⟩ fun x hx=>⟨rfl,?_⟩
  obtain ⟨o,q2⟩:=x;have hx1:q≤q2:=hx.1;have hx2:q2≤q+8:=hx.2;refine dEr ?_;repeat (refine c0 (Jv W0 t o) rfl ?_; first|refine dEr ?_|exact dz)
  refine ⟨(zx t o).1,i - 1,q2,⟨Yx,by omega,by omega,by omega,by omega⟩,by omega,?_⟩;refine dr ?_;trivial
 refine dr ?_;refine oW (zX W0 s q 20 hs (by omega) (by omega)) rfl ⟨rfl,trivial⟩ rfl rfl ⟨0,by omega,by omega⟩ fun v hv=>⟨rfl,?_⟩
 refine dEr ?_;apply cP<;>intro h7
 ·refine dr ?_;refine lp2 (fun (t:List Ent) (j:Nat)=>[(0,.ptr 1 0),(3,.c (za t)),(5,I j)]) (fun _ _=>[(1,.box [.c (qr s),.c (CI (q+1))])]) (fun t j=>t.length≤17∧j≤26) (fun _ j=>26 - j) t 0 ⟨by omega,by omega⟩ ?_ ?_
  ·refine dr ?_;trivial
  rintro t j ⟨g1,g2⟩;refine dr ?_;apply cP<;>intro h8
  ·refine dr ?_;apply cP<;>intro h9
   ·refine dEr ?_;repeat ((first|refine c0 (Jv W0 t ⟨2,_,[],[]⟩) rfl ?_|refine oB (by simp) ?_); first|refine dEr ?_|exact dz)
    refine ⟨(zx t ⟨2,[47,122]++[UInt8.ofNat (97+(j:Int)).toNat],[],[]⟩).1,j+1,⟨Yx,by omega⟩,by omega,?_⟩;refine dr ?_;trivial
   ·refine dr ?_;refine ⟨none,_,_,?_,(t,q+1),⟨by omega,by omega,by omega⟩,rfl,rfl⟩;refine dr ?_;trivial
  ·refine dr ?_;refine ⟨none,_,_,?_,(t,q+1),⟨by omega,by omega,by omega⟩,rfl,rfl⟩;refine dr ?_;trivial
 ·refine dr ?_;refine ⟨none,_,_,?_,(t,q+1),⟨by omega,by omega,by omega⟩,rfl,rfl⟩;refine dr ?_;trivial
end Go.Proofs.YtopfccpgdldcdaaGreatDoor

namespace Go.Proofs.YtopfccpgdldcdaaGreatDoor
set_option linter.unusedSimpArgs false
set_option linter.unusedVariables false
open Go Go.RowKit
def zmr:XC:=(.s (.r [.a2 2 3 148]) (.s (.r [.ex 7 .bsl0,.a1 3 7 3 148]) (.s (.s (.r [.mv 8 0,.ex 9 (.bsl 1 3 [(.i 3),(.i 5),(.i 8),(.i 2),(.i 1),(.i 0),(.i 12)]),.o1 10 68 [8,9],.mv 4 10]) (.blk 0 (.loop (.s (.s (.r [.mv 11 4,.b1 12 .gtr 11 (.i 0)]) (.ce 12 0)) (.s (.blk 1 (.s (.r [.mv 15 0,.o1 16 86 [15],.mv 17 0,.ex 18 (.bsl 1 3 [(.i 1),(.i 2),(.i 3),(.i 4),(.i 1),(.i 3)]),.o1 19 68 [17,18],.ex 20 (.build [sE,(I 0),sE] [(0,(1,16)),(1,(1,19))]),.ex 5 (.alloc [sE,(I 0),sE]),.s1 3 5 20]) (.cut (.s (.r [.f1 21 1 5,.l1 22 1 21,.b1 23 .eql 22 (.i 1)]) (.cnd 23 (.r [.mv 24 0,.o1 25 93 [24],.f1 26 2 5,.s1 1 26 25]) .skip)) (.s (.r [.mv 27 3,.l2 28 3 5,.c1 29 176 [27,28],.a1 6 29 3 148]) (.s (.s (.r [.mv 30 6,.c1 31 148 [30]]) (.cnd 31 (.s (.r [.mv 32 6,.a1 3 32 3 148]) (.exit 1)) .skip)) (.s (.r [.mv 33 6,.f1 34 0 5,.l1 35 1 34,.c1 36 177 [33,35],.a1 6 36 3 148]) (.s (.r [.mv 37 6,.c1 38 148 [37]]) (.cnd 38 (.r [.mv 39 6,.a1 3 39 3 148]) .skip)))))))) (.r [.mv 13 4,.b1 14 .sub 13 (.i 1),.mv 4 14])))))) (.s (.r [.mv 40 3,.a1 2 40 3 148]) .ret))))
theorem zms:zc Tryz.prog [68,86,93] 142=some (zmr.ac,[(.t 2)],41):=by kernel_rfl
theorem zor:∀ x∈zbz,pOk x=true:=by decide
theorem zpp (W0:World) (s:Str) (p:Int) (hs:s.length≤2000) (hp:0≤p∧p≤50000) :
  zw Tryz.prog W0 142 [.ptr 1 0] (Rd s p) (fun x:List Mark × Int=>x.1.length≤32∧p≤x.2∧x.2≤p+37) (fun x => .c (ze x.1)) (fun x=>Rd s x.2):=by
 refine fW mixed zms fun hg=>?_
 refine dr ?_;refine oW (ym W0 s p [3,5,8,2,1,0,12] hs (by omega) (by decide)) rfl ⟨rfl,trivial⟩ rfl rfl ⟨0,by decide⟩ fun k hk=>⟨rfl,?_⟩
 have hk2:0≤k∧k≤12:=by
  have:∀ x∈([3,5,8,2,1,0,12]:List Int),0≤x∧x≤12:=by decide
  exact this k hk
 refine dEr ?_;refine lz3 48 (fun (t:List Mark) (i q:Int)=>[(0,.ptr 1 0),(3,.c (ze t)),(4,.c (CI i))]) (fun _ _ q=>[(1,.box [.c (qr s),.c (CI q)])]) (fun t i q=>t.length≤32∧0≤i∧i≤12∧p≤q∧q≤p+1+3 * (12 - i)) (fun _ i _=>i.toNat) [] k (p+1) ⟨by simp,by omega,by omega,by omega,by omega⟩ ?_ ?_
 ·refine dr ?_;trivial
 rintro t i q ⟨h1,h2,h3,h4,h5⟩;refine dr ?_;apply cP<;>intro h6;rotate_left
 ·refine dr ?_;refine ⟨none,_,_,?_,(t,q),⟨by omega,by omega,by omega⟩,rfl,rfl⟩;refine dr ?_;trivial
 refine dr ?_;refine oW (qW W0 s q hs (by omega)) rfl ⟨rfl,trivial⟩ rfl rfl ⟨_,List.mem_cons_self⟩ fun x hx=>⟨rfl,?_⟩
 have hx1:=zor x hx;refine dr ?_;refine oW (ym W0 s (q+1) [1,2,3,4,1,3] hs (by omega) (by decide)) rfl ⟨rfl,trivial⟩ rfl rfl ⟨1,by decide⟩ fun v hv=>⟨rfl,?_⟩
 refine dEr ?_;refine JW (fun (m:Mark) (r:Int)=>[(0,.ptr 1 0),(3,.c (ze t)),(4,.c (CI i)),(5,.ptr 80 0)]) (fun m r=>[(1,.box [.c (qr s),.c (CI r)]),(80,.box [.c (CS m.path),.c (CI m.kind),.c (CS m.data)])]) (fun m r=>pOk m.path=true∧q≤r∧r≤q+3) ?_ ?_
 ·refine dr ?_;apply cP<;>intro h7
  ·refine dr ?_;refine oW (zem W0 s (q+1+1) hs (by omega)) rfl ⟨rfl,trivial⟩ rfl rfl ⟨_,List.mem_cons_self⟩ fun y hy=>⟨rfl,?_⟩
   refine dEr ?_;refine ⟨⟨x,v,y⟩,q+1+1+1,⟨hx1,by omega,by omega⟩,?_⟩;refine dr ?_;trivial
  ·refine dr ?_;refine ⟨⟨x,v,[]⟩,q+1+1,⟨hx1,by omega,by omega⟩,?_⟩;refine dr ?_;trivial
 rintro m r ⟨g1,g2,g3⟩;have hpl:(jH t m).length≤t.length+1:=qQ;have hu:=J4 W0 3 (jH t m) m.path g1 (ye g1).1.2 (by omega);refine dEr ?_;repeat ((first|refine c0 (Ju W0 t m (by omega)) rfl ?_|refine c0 (Q7 W0 _) rfl ?_); first|refine dEr ?_|exact dz)
 apply cP<;>intro h7
 ·refine dr ?_;refine ⟨jH t m,i - 1,r,⟨(ju.1 h7).1,by omega,by omega,by omega,by omega⟩,by omega,?_⟩;refine dr ?_;trivial
 ·refine dEr ?_;repeat ((first|refine c0 hu rfl ?_|refine c0 (Q7 W0 _) rfl ?_); first|refine dEr ?_|exact dz)
  apply cP<;>intro h8
  ·refine dr ?_;refine ⟨_,i - 1,r,⟨(ju.1 h8).1,by omega,by omega,by omega,by omega⟩,by omega,?_⟩;refine dr ?_;trivial
  ·refine dr ?_;refine ⟨t,i - 1,r,⟨by omega,by omega,by omega,by omega,by omega⟩,by omega,?_⟩;refine dr ?_;trivial
end Go.Proofs.YtopfccpgdldcdaaGreatDoor

namespace Go.Proofs.YtopfccpgdldcdaaGreatDoor
set_option linter.unusedSimpArgs false
set_option linter.unusedVariables false
open Go Go.RowKit
def NC (x y:PV):Prop:=y=x∨(x = .nil∧y = .c (.row []))
theorem NC.rep {κ:Kap} {m:Mem} {w:World} {x y:PV} {v:Value} (h:NC x y) (hr:zd κ m w x v):zd κ m w y v:=by
 rcases h with rfl | ⟨rfl,rfl⟩
 ·exact hr
 ·obtain ⟨o,rfl⟩:=hr;exact .nil (Nat.zero_le _)
theorem zj.nilC {k0:List Nat} {A:Fr} {m:XM} (bx:Nat) (cs cs':List PV) (hb:lkX m bx=some (.box cs)) (hc:zb NC cs cs'):zj k0 A m A (updX m bx (.box cs')):=fun W0 F K hA hK=>by
 intro w0 κ0 m0 N κ act w hk0 hr;have hmw:=hr.mw;have hW:=hr.big;have hb':lk (Go.Proofs.YtopfccpgdldcdaaGreatDoor.er m) bx=some (.box cs):=by rw [zU,hb]; rfl
 have all2:∀ {cs cs':List PV} {vs:List Value} {κ:Kap} {m:Mem},zb NC cs cs'→zb (zd κ m w) cs vs→zb (zd κ m w) cs' vs:=by
  intro cs;induction cs with
  | nil=>intro cs' vs κ m h1 h2; cases cs' with | nil=>(cases vs with | nil=>trivial | cons=>exact h2.elim) | cons=>exact h1.elim
  | cons c cs ih =>
   intro cs' vs κ m h1 h2;cases cs' with
   | nil=>exact h1.elim
   | cons d ds=>cases vs with
    | nil=>exact h2.elim
    | cons v vs=>exact ⟨NC.rep h1.1 h2.1,ih h1.2 h2.2⟩
 obtain ⟨g1,g2⟩:=hmw.turn (κ':=κ) (w':=w) (x := .box cs') hW hb' rfl rfl rfl (Nat.le_refl _) rfl (fun _ _=>rfl) (fun _ _ _=>rfl) (.inl rfl) (fun _ h=>⟨⟨cs',rfl⟩,rfl⟩) (fun _ _ _ h=>by cases h) (fun hp=>by
  obtain ⟨g,vs,e,q1,q2,q3⟩:=hmw.mem.blk bx _ hb';exact ⟨g,vs,e,q1,q2,all2 hc (q3.imp fun _ _=>zd.pres hp)⟩) (.inl fun _ _ _ h=>by cases h)
 refine ⟨κ,A,_,⟨g1,hr.start,hr.low0,hr.s0,hr.size,hr.defers,fun t x hx=>?_⟩,?_⟩
 ·obtain ⟨q1,q2⟩:=hr.tmps t x (by rw [← hA t]; exact hx);exact ⟨q1,Rep.pres g2 q2⟩
 ·rw [yj] at hK; exact hK
theorem nc0 {x:PV}:NC x x := .inl rfl
theorem nc1:NC .nil (.c (.row [])) := .inr ⟨rfl,rfl⟩
theorem app1 {α:Type} {f:α→CV} {t:List α} {x:α}:t.map f++[f x]=(t++[x]).map f:=by rw [List.map_append]; rfl
theorem set1 {α:Type} {f:α→CV} {t:List α} {k:Nat} {x:α}:(t.map f).set k (f x)=(t.set k x).map f:=List.map_set.symm
abbrev ovB (o:Over):XB := .box [.c (za o.base),.c (zy o.layers),.c (ze o.upper)]
abbrev ni3:XB := .box [.nil,.nil,.nil]
abbrev rdB (s:Str) (q:Int):XB := .box [.c (qr s),.c (CI q)]
def zmE:XC:=(.s (.r [.ex 2 (.alloc [.nil,.nil,.nil])]) (.s (.r [.mv 9 0,.o1 10 141 [9],.ex 11 (.build [.nil,.nil,.nil] [(0,(1,10))]),.ex 3 (.alloc [.nil,.nil,.nil]),.s1 3 3 11]) (.s (.s (.r [.mv 12 0,.o1 13 38 [12,(.i 3)],.mv 4 13]) (.blk 0 (.loop (.s (.s (.r [.mv 14 4,.b1 15 .gtr 14 (.i 0)]) (.ce 15 0)) (.s (.blk 1 (.s (.r [.l2 18 3 3,.o1 19 137 [18],.ex 5 (.alloc [.nil,.nil,.nil]),.s1 3 5 19]) (.s (.d [.f1 20 1 5,.exl 21 (.ld false 1 20),.mv 22 0,.exl 23 (.opn 142 [22]),.exl 24 (.bsl 1 25 [23]),.ex 25 (.app false 1 24 25 21 24),.f1 26 1 5,.s1 1 26 25]) (.s (.r [.l2 27 3 5,.c1 28 89 [27]]) (.cnd 28 (.r [.l2 29 3 5,.s1 3 3 29]) .skip))))) (.r [.mv 16 4,.b1 17 .sub 16 (.i 1),.mv 4 17])))))) (.s (.s (.r [.mv 30 0,.o1 31 38 [30,(.i 12)],.mv 6 31]) (.blk 2 (.loop (.s (.s (.r [.mv 32 6,.b1 33 .gtr 32 (.i 0)]) (.ce 33 2)) (.s (.blk 3 (.s (.r [.l2 37 3 3,.c1 38 36 [37],.mv 36 38,.e1 39 36 0,.e1 40 36 1,.a1 7 39 3 46,.mv 8 40]) (.s (.r [.mv 41 0,.o1 42 38 [41,(.i 8)]]) (.blk 4 (.s (.r [.b1 52 .eql 42 (.i 0),.mv 51 52]) (.cnd 51 (.r [.l2 54 3 3,.c1 55 143 [54],.mv 53 55,.e1 56 53 0,.e1 57 53 1,.s1 3 3 56]) (.s (.r [.b1 59 .eql 42 (.i 1),.mv 58 59]) (.cnd 58 (.s (.r [.mv 60 0,.o1 61 38 [60,(.i 3)],.b1 62 .eql 61 (.i 0)]) (.cnd 62 (.r [.l2 64 3 3,.c1 65 144 [64],.mv 63 65,.e1 66 63 0,.e1 67 63 1,.s1 3 3 66]) .skip)) (.d [.exl 44 (.ld true 3 3),.mv 45 0,.mv 46 7,.exl 47 (.opn 37 [45,46]),.c1 48 87 [44,47],.mv 43 48,.e1 49 43 0,.e1 50 43 1,.s1 3 3 49]))))))))) (.r [.mv 34 6,.b1 35 .sub 34 (.i 1),.mv 6 35])))))) (.s (.r [.l2 68 3 3,.o1 69 137 [68],.s1 3 2 69]) .ret)))))
theorem zmF:zc Tryz.prog [141,38,137,142,37] 88=some (zmE.ac,[(.cell 2 true 3)],70):=by kernel_rfl
theorem zps (W0:World) (s:Str) (p:Int) (hs:s.length≤2000) (hp:0≤p∧p≤20000) :
  zw Tryz.prog W0 88 [.ptr 1 0] (Rd s p) (fun x:Over × Int=>OS x.1∧p≤x.2∧x.2≤p+600) (fun x => .c (jR x.1)) (fun x=>Rd s x.2):=by
 refine fW mixed zmF fun hg=>?_
 refine dr ?_;refine oW (zpl W0 s p hs (by omega)) rfl ⟨rfl,trivial⟩ rfl rfl ⟨([],p),by simp; omega⟩ fun x hx=>⟨rfl,?_⟩
 obtain ⟨b,q0⟩:=x;obtain ⟨hb,hq1,hq2⟩:b.length≤17∧p≤q0∧q0≤p+242:=hx;refine dEr ?_;refine oW (zX W0 s q0 3 hs (by omega) (by omega)) rfl ⟨rfl,trivial⟩ rfl rfl ⟨0,by omega,by omega⟩ fun n hn=>⟨rfl,?_⟩
 have hn2:=hn.2 (by omega);have hn1:=hn.1;refine dEr ?_;refine lq3 (fun (o:Over) (i q:Int)=>[(0,.ptr 1 0),(2,.ptr 32 0),(3,.ptr 48 0),(4,.c (CI i))]) (fun o _ q=>[(1,rdB s q),(32,ni3),(48,ovB o)]) (fun o i q=>OS o∧0≤i∧i≤2∧p≤q∧q≤p+243+37 * (2 - i)) (fun _ i _=>i.toNat) ⟨b,[],[]⟩ n (q0+1) ⟨⟨hb,by simp,by simp,by simp⟩,by omega,by omega,by omega,by omega⟩ ?_ ?_
 ·refine zj.trans (F1:=_) (m1:=_) (zj.nilC 48 [.c (za b),.nil,.nil] [.c (za b),.c (.row []),.c (.row [])] rfl ⟨nc0,nc1,nc1,trivial⟩) (z:=none) ?_;refine dr ?_;trivial
 rintro o i q ⟨ho,hi1,hi2,hq3,hq4⟩;refine dr ?_;apply cP<;>intro h1
 ·refine dr ?_;refine oW (zbP W0 o (ho.oz.mono (by omega))) rfl trivial rfl rfl ⟨(),trivial⟩ fun _ _=>⟨rfl,?_⟩
  refine dEr ?_;refine oW (zpp W0 s q hs (by omega)) rfl ⟨rfl,trivial⟩ rfl rfl ⟨([],q),by simp; omega⟩ fun x hx=>⟨rfl,?_⟩
  obtain ⟨l,q2⟩:=x;obtain ⟨hl,hr1,hr2⟩:l.length≤32∧q≤q2∧q2≤q+37:=hx;have hn:=ho.n;have q9:=J7 W0 ⟨o.base,o.layers++[l],o.upper⟩;rw [show jR ⟨o.base,o.layers++[l],o.upper⟩ = .agg [za o.base,.row (o.layers.map ze++[ze l]),ze o.upper] by rw [app1]; rfl] at q9;refine dEr ?_;repeat ((first|refine oB (by simp; omega) ?_|refine oB (by simp) ?_|refine c0 q9 rfl ?_); first|refine dEr ?_|exact dz)
  apply cP<;>intro h2
  ·refine dr ?_;refine ⟨⟨o.base,o.layers++[l],o.upper⟩,i - 1,q2,⟨OS.ok h2,by omega,by omega,by omega,by omega⟩,by omega,?_⟩;refine zn.s (z:=some 4) ?_;refine dr ?_;repeat ((first|refine oB (congrArg (fun L=>XB.box [.c (za o.base),.c (.row L),.c (ze o.upper)]) app1) ?_|refine oB (by simp) ?_); first|refine dr ?_|exact dz)
   trivial
  ·refine dr ?_;refine ⟨o,i - 1,q2,⟨ho,by omega,by omega,by omega,by omega⟩,by omega,?_⟩;refine zn.s (z:=none) ?_;refine dr ?_;trivial
 refine dr ?_;refine oW (zX W0 s q 12 hs (by omega) (by omega)) rfl ⟨rfl,trivial⟩ rfl rfl ⟨0,by omega,by omega⟩ fun n hn=>⟨rfl,?_⟩
 have hn2:=hn.2 (by omega);have hn1:=hn.1;clear h1;refine dEr ?_;refine lp3 (fun (o:Over) (i r:Int)=>[(0,.ptr 1 0),(2,.ptr 32 0),(3,.ptr 48 0),(6,.c (CI i))]) (fun o _ r=>[(1,rdB s r),(32,ni3),(48,ovB o)]) (fun o i r=>OS o∧0≤i∧i≤11∧p≤r∧r≤p+320+10 * (11 - i)) (fun _ i _=>i.toNat) o n (q+1) ⟨ho,by omega,by omega,by omega,by omega⟩ ?_ ?_
 ·refine dr ?_;trivial
 clear hq3 hq4 ho;rintro o i q ⟨ho,hi1,hi2,hq3,hq4⟩;refine dr ?_;apply cP<;>intro h1
 ·have hv:=y9 W0 o;have hvl:((z7 o).getD []).length≤16:=by
   cases hx:z7 o with
   | none=>simp
   | some x=>exact (yu (YA hx)).1
  rw [QV] at hv;generalize (z7 o).getD []=t at *;refine dEr ?_;repeat (refine c0 hv rfl ?_; first|refine dEr ?_|exact dz)
  refine oW (zX W0 s q 8 hs (by omega) (by omega)) rfl ⟨rfl,trivial⟩ rfl rfl ⟨0,by omega,by omega⟩ fun v hv=>⟨rfl,?_⟩
  refine dEr ?_;apply cP<;>intro h2
  ·refine dEr ?_;repeat (refine c0 (zqd W0 o) rfl ?_; first|refine dEr ?_|exact dz)
   refine ⟨(Zk o).1,i - 1,q+1,⟨OS.push,by omega,by omega,by omega,by omega⟩,by omega,?_⟩;refine dr ?_;trivial
  refine dr ?_;apply cP<;>intro h3
  ·refine dr ?_;refine oW (zX W0 s (q+1) 3 hs (by omega) (by omega)) rfl ⟨rfl,trivial⟩ rfl rfl ⟨0,by omega,by omega⟩ fun v hv=>⟨rfl,?_⟩
   refine dEr ?_;apply cP<;>intro h4
   ·refine dEr ?_;repeat (refine c0 (zqc W0 o) rfl ?_; first|refine dEr ?_|exact dz)
    refine ⟨(ZF o).1,i - 1,q+1+1,⟨OS.flat,by omega,by omega,by omega,by omega⟩,by omega,?_⟩;refine dr ?_;trivial
   ·refine dr ?_;refine ⟨o,i - 1,q+1+1,⟨ho,by omega,by omega,by omega,by omega⟩,by omega,?_⟩;refine dr ?_;trivial
  ·refine dr ?_;refine oW (Q5 W0 s (q+1) t hs (by omega) (by omega)) rfl ⟨rfl,trivial⟩ rfl rfl ⟨((⟨0,[],[],[]⟩,q+1):Op × Int),by omega,by omega⟩ fun x hx=>⟨rfl,?_⟩
   obtain ⟨op,r⟩:=x;obtain ⟨hr1,hr2⟩:q+1≤r∧r≤q+1+8:=hx;refine dEr ?_;repeat (refine c0 (zai W0 o op) rfl ?_; first|refine dEr ?_|exact dz)
   refine ⟨(oDo o op).1,i - 1,r,⟨OS.do op,by omega,by omega,by omega,by omega⟩,by omega,?_⟩;refine dr ?_;trivial
 ·refine dr ?_;refine oW (zbP W0 o (ho.oz.mono (by omega))) rfl trivial rfl rfl ⟨(),trivial⟩ fun _ _=>⟨rfl,?_⟩
  refine dEr ?_;refine ⟨some 4,_,_,?_,(o,q),⟨ho,by omega,by omega⟩,rfl,rfl⟩;refine dr ?_;repeat (refine oB (by simp) ?_; first|refine dr ?_|exact dz)
  trivial
theorem YB {o:Over}:((z7 o).getD []).length≤16:=by
 cases hx:z7 o with
 | none=>simp
 | some x=>exact (yu (YA hx)).1
end Go.Proofs.YtopfccpgdldcdaaGreatDoor

namespace Go.Proofs.YtopfccpgdldcdaaGreatDoor
set_option linter.unusedSimpArgs false
set_option linter.unusedVariables false
open Go Go.RowKit
abbrev wCo (n:Nat) (w:Wld):List PV:=[.c (za w.over.base),.c (zy w.over.layers),.c (ze w.over.upper),I w.clock,I w.count,.c (zv w.leases),.own 4 w.holds.length,.own 5 w.floors.length,.own n w.net.length,B w.waits,I w.op.kind,.c (CS w.op.path),.c (CS w.op.dest),.c (CS w.op.data)]
abbrev wAn (n:Nat) (w:Wld):PV := .agg (wCo n w)
abbrev wMn (n:Nat) (w:Wld):XM:=[(4,.row (w.holds.map zf) 1 44),(5,.row (w.floors.map CI) 1 3),(n,.row (w.net.map eMsg) 9 67)]
abbrev zWB:XB := .box [.nil,.nil,.nil,I 0,I 0,.nil,.nil,.nil,.nil,B false,I 0,.c (CS []),.c (CS []),.c (CS [])]
theorem zj.nilF {k0:List Nat} {m:XM} (A:Fr) (t0:Nat) (h0:lkX A t0=some .nil):zj k0 A m ((t0,.c (.row []))::A) m:=fun W0 F K hA hK=>by
 intro w0 κ0 m0 N κ act w hk0 hr;refine ⟨κ,_,_,⟨hr.mw,hr.start,hr.low0,hr.s0,hr.size,hr.defers,fun t x hx=>?_⟩,hK⟩;rw [zp] at hx;split at hx
 ·rename_i h;subst h;cases hx;have h1:lk F t=some .nil:=by rw [← hA t,← yR]; exact h0
  obtain ⟨q1,q2⟩:=hr.tmps t _ h1;obtain ⟨o,ho⟩:=(show zd κ (Go.Proofs.YtopfccpgdldcdaaGreatDoor.er m) w .nil (act.tmps.getD t undef) from q2);exact ⟨q1,by rw [ho]; exact RepC.nil (Nat.zero_le _)⟩
 ·exact hr.tmps t x (by rw [← hA t]; exact hx)
theorem zgR {w:Wld} {m:Msg} (h:w.net.length < 12):zT w m={ w with net:=w.net++[m] }:=by unfold zT; rw [if_pos h]
theorem zgP {w:Wld} {m:Msg} (h:12≤w.net.length):zT w m=w:=by unfold zT; rw [if_neg (by omega)]
theorem zgQ {w:Wld} {m:Msg} (h:w.net.length≤1000):(zT w m).net.length≤1000:=by
 unfold zT; split
 ·simp; omega
 ·exact h
theorem xrow1 {α:Type} {f:α→CV} {t:List α} {x:α} {n e:Nat}:XB.row (t.map f++[f x]) n e = .row ((t++[x]).map f) n e:=by rw [List.map_append]; rfl
theorem QF {α:Type} {t:List α} {x:α} {n:Nat}:PV.own n (t.length+1) = .own n (t++[x]).length:=by simp
def zni:XC:=(.s (.r [.x1 2 0,.x1 3 1,.ex 4 (.alloc zW)]) (.s (.s (.r [.f1 5 8 2,.l1 6 1 5,.n1 7 6,.b1 8 .lss 7 (.i 12)]) (.cnd 8 (.r [.f1 9 8 2,.l1 10 1 9,.l2 11 9 3,.ex 12 (.bsl 9 67 [11]),.ex 13 (.app false 9 96 67 10 12),.f1 14 8 2,.s1 1 14 13]) .skip)) (.s (.r [.l2 15 14 2,.s1 14 4 15]) .ret)))
theorem znj:zc Tryz.prog [] 132=some (zni.ac,[(.cell 4 true 14)],16):=by kernel_rfl
theorem J6 (W0:World) (w:Wld) (m:Msg) (h:w.net.length≤1000):zw Tryz.prog W0 132 [wAn 6 w,.c (eMsg m)] (wMn 6 w) (fun _:Unit=>True) (fun _=>wAn 6 (zT w m)) (fun _=>wMn 6 (zT w m)):=by
 refine fW mixed znj fun hg=>?_
 refine dr ?_;apply cP<;>intro h1
 ·rw [zgR (by omega)];refine dr ?_;repeat ((first|refine oB (by simp) ?_|refine oB (by simp; omega) ?_); first|refine dr ?_|exact dz)
  refine ⟨none,_,_,?_,(),trivial,rfl,rfl⟩;refine dr ?_;repeat ((first|refine oB (congrArg (fun y=>PV.agg [.c (za w.over.base),.c (zy w.over.layers),.c (ze w.over.upper),I w.clock,I w.count,.c (zv w.leases),.own 4 w.holds.length,.own 5 w.floors.length,y,B w.waits,I w.op.kind,.c (CS w.op.path),.c (CS w.op.dest),.c (CS w.op.data)]) QF) ?_|refine oB xrow1 ?_); first|refine dr ?_|exact dz)
  trivial
 ·rw [zgP (by omega)];refine dr ?_;repeat (refine oB (by simp) ?_; first|refine dr ?_|exact dz)
  refine ⟨none,_,_,?_,(),trivial,rfl,rfl⟩;refine dr ?_;repeat (refine oB (by simp) ?_; first|refine dr ?_|exact dz)
  trivial
def zng:XC:=(.s (.r [.x1 2 0,.ex 4 (.alloc zW)]) (.s (.s (.r [.m1 5 (.i 0)]) (.blk 0 (.loop (.s (.s (.r [.mv 6 5,.mv 7 1,.n1 8 7,.b1 9 .lss 6 8]) (.ce 9 0)) (.s (.blk 1 (.d [.l2 12 14 2,.mv 13 1,.mv 14 5,.i1 15 4 13 14,.f1 16 0 15,.l1 17 1 16,.mv 18 1,.mv 19 5,.i1 20 4 18 19,.f1 21 1 20,.l1 22 1 21,.f1 23 4 2,.l1 24 1 23,.ex 25 (.build [sE,(B false),sE,(B false),sE,(I 0),(I 0)] [(0,(1,22)),(5,(1,24))]),.ex 26 (.build [(I 0),(I 0),sE,(B false),sE,(B false),sE,(I 0),(I 0)] [(0,(1,(.i 3))),(1,(1,17)),(2,(7,25))]),.o1 27 132 [12,26],.s1 14 2 27])) (.ic 10 11 5)))))) (.s (.r [.l2 28 14 2,.s1 14 4 28]) .ret)))
theorem znh:zc Tryz.prog [132] 174=some (zng.ac,[(.cell 4 true 14)],29):=by kernel_rfl
theorem zgC {w:Wld} {b:List Lease} {k:Nat} (h:k < b.length):jT w (b.take (k+1))=zT (jT w (b.take k)) (rclM w.count b[k]):=by
 have e:(jT w (b.take k)).count=w.count:=Zl.2.2.1;unfold jT at e ⊢;rw [qX h,e]
theorem zet (W0:World) (w:Wld) (b:List Lease) (h:w.net.length≤1000) (hb:b.length≤1000000):zw Tryz.prog W0 174 [wAn 6 w,.c (zv b)] (wMn 6 w) (fun _:Unit=>True) (fun _=>wAn 6 (jT w b)) (fun _=>wMn 6 (jT w b)):=by
 refine fW mixed znh fun hg=>?_
 refine dr ?_;refine lp2 (fun (k:Nat) (x:Wld)=>[(1,.c (zv b)),(2,.ptr 32 0),(4,.ptr 64 0),(5,I k)]) (fun _ x=>[(32,.box (wCo 6 x)),(64,zWB)]++wMn 6 x) (fun k x=>k≤b.length∧x=jT w (b.take k)∧x.net.length≤1000) (fun k _=>b.length - k) 0 w ⟨by omega,rfl,h⟩ ?_ ?_
 ·refine dr ?_;trivial
 rintro k x ⟨hk,hx,hn⟩;refine dr ?_;apply cP<;>intro h1
 ·have hk':k < b.length:=by omega
  have hc:x.count=w.count:=by rw [hx]; exact Zl.2.2.1
  refine dr ?_;refine oW (J6 W0 x (rclM x.count b[k]) hn) rfl ⟨rfl,rfl,rfl,trivial⟩ rfl rfl ⟨(),trivial⟩ fun _ _=>⟨rfl,?_⟩
  refine dEr ?_;refine ⟨k+1,zT x (rclM x.count b[k]),⟨by omega,by rw [zgC hk',← hx,hc],zgQ hn⟩,by omega,?_⟩;refine dr ?_;trivial
 ·have hkl:k=b.length:=by omega
  rw [hkl,List.take_length] at hx;rw [← hx];refine dr ?_;refine ⟨none,_,_,?_,(),trivial,rfl,rfl⟩;refine dr ?_;trivial
def zm1:XC:=(.s (.r [.m1 4 .n]) (.s (.s (.r [.m1 5 (.i 0)]) (.blk 0 (.loop (.s (.s (.r [.mv 6 5,.mv 7 0,.n1 8 7,.b1 9 .lss 6 8]) (.ce 9 0)) (.s (.blk 1 (.s (.r [.mv 12 0,.mv 13 5,.i1 14 1 12 13,.l1 15 1 14,.mv 16 1,.b1 17 .eql 15 16]) (.cnd 17 (.rt 4) .skip))) (.ic 10 11 5)))))) (.rf 4)))
theorem zm2:zc Tryz.prog [] 97=some (zm1.ac,[(.t 4)],18):=by kernel_rfl
theorem zbS (W0:World) (l:List Str) (p:Str) (hl:l.length≤1000000):Fn Tryz.prog W0 97 [jo l,CS p] (.c (CB (l.contains p))) []:=by
 refine fX mixed zm2 fun hg=>?_
 refine dr ?_;refine lp (σ:=Nat) (fun k=>[(0,.c (jo l)),(1,.c (CS p)),(5,I k)]) (fun _=>[]) (fun k=>k≤l.length∧p ∉ l.take k) (fun k=>l.length - k) 0 ⟨by omega,by simp⟩ ?_ ?_
 ·refine dr ?_;trivial
 rintro k ⟨hk,hA⟩;refine dr ?_;apply cP<;>intro h1
 ·have hk':k < l.length:=by omega
  refine dr ?_;apply cP<;>intro h2
  ·refine dr ?_;exact bT (by rw [List.contains_eq_mem,decide_eq_true_iff,← h2]; exact List.getElem_mem hk')
  ·refine dr ?_;refine ⟨k+1,⟨by omega,fun hl=>?_⟩,by omega,?_⟩
   ·rw [List.take_succ_eq_append_getElem hk'] at hl;rcases List.mem_append.1 hl with h' | h'
    ·exact hA h'
    ·rw [List.mem_singleton] at h'; exact h2 h'.symm
   refine dr ?_;trivial
 ·have hkl:k=l.length:=by omega
  rw [hkl,List.take_length] at hA;refine dr ?_;exact bF (by rw [List.contains_eq_mem,decide_eq_false_iff_not]; exact hA)
theorem zda {w:Wld} {op:Op}:(jQ w op).length≤1000:=by
 unfold jQ;split
 ·refine Nat.le_trans zc9 ?_;have h1:=@YB w.over;have h2:=@Yx (vwG w.over) op;have h3:(vwG w.over).length≤16:=h1;omega
 ·simp
def zns:XC:=(.s (.r [.x1 2 0,.x1 3 1,.a2 4 1 9]) (.s (.r [.f1 10 0 2,.l2 11 3 10,.c1 12 36 [11],.mv 9 12,.e1 13 9 0,.e1 14 9 1,.a1 5 13 3 46,.mv 6 14]) (.s (.r [.mv 16 5,.l2 17 4 3,.c1 18 99 [16,17],.mv 15 18,.e1 19 15 0,.e1 20 15 1,.a1 7 19 3 46,.mv 8 20]) (.s (.s (.r [.mv 21 8,.b1 22 .neq 21 (.i 0)]) (.cnd 22 (.s (.r [.ex 23 .bsl0,.a1 4 23 1 9]) .ret) .skip)) (.s (.r [.mv 24 5,.mv 25 7,.c1 26 150 [24,25],.a1 4 26 1 9]) .ret)))))
theorem zdF:zc Tryz.prog [] 96=some (zns.ac,[(.t 4)],27):=by kernel_rfl
theorem zpQ (W0:World) (w:Wld) (op:Op):Fn Tryz.prog W0 96 [zB w,eOp op] (.c (jo (jQ w op))) []:=by
 refine fX mixed zdF fun hg=>?_
 have hv:=y9 W0 w.over;rw [QV] at hv;have hvl:=@YB w.over;have e:jQ w op=if (zx ((z7 w.over).getD []) op).2=0 then zZ ((z7 w.over).getD []) (zx ((z7 w.over).getD []) op).1 else []:=rfl
 rw [e];clear e;generalize (z7 w.over).getD []=t at *;have hd:=Jv W0 t op;have hdl:=@Yx t op;have ht:=zbO W0 t (zx t op).1 (by omega);generalize zx t op=r at *;refine dEr ?_;repeat ((first|refine c0 hv rfl ?_|refine c0 hd rfl ?_); first|refine dEr ?_|exact dz)
 apply cP<;>intro h1
 ·refine dr ?_;repeat (refine oB (by simp) ?_; first|refine dr ?_|exact dz)
  rw [if_neg h1]<;>rfl
 ·refine dEr ?_;repeat (refine c0 ht rfl ?_; first|refine dEr ?_|exact dz)
  rw [if_pos h1]<;>rfl
theorem zev (W0:World) (w:Wld) (op:Op):zw Tryz.prog W0 96 [wAn 6 w,.c (eOp op)] (wMn 6 w) (fun _:Unit=>True) (fun _ => .c (jo (jQ w op))) (fun _=>wMn 6 w):=by
 refine fW mixed zdF fun hg=>?_
 have hv:=y9 W0 w.over;rw [QV] at hv;have hvl:=@YB w.over;have e:jQ w op=if (zx ((z7 w.over).getD []) op).2=0 then zZ ((z7 w.over).getD []) (zx ((z7 w.over).getD []) op).1 else []:=rfl
 rw [e];clear e;generalize (z7 w.over).getD []=t at *;have hd:=Jv W0 t op;have hdl:=@Yx t op;have ht:=zbO W0 t (zx t op).1 (by omega);generalize zx t op=r at *;refine dEr ?_;repeat ((first|refine c0 hv rfl ?_|refine c0 hd rfl ?_); first|refine dEr ?_|exact dz)
 apply cP<;>intro h1
 ·rw [if_neg h1];refine dr ?_;repeat (refine oB (by simp) ?_; first|refine dr ?_|exact dz)
  refine ⟨some 3,_,_,?_,(),trivial,rfl,rfl⟩;refine zj.trans (z:=none) (zj.nilF _ 0 rfl) ?_;refine dr ?_;repeat (refine oB (by simp) ?_; first|refine dr ?_|exact dz)
  trivial
 ·rw [if_pos h1];refine dEr ?_;repeat (refine c0 ht rfl ?_; first|refine dEr ?_|exact dz)
  refine ⟨none,_,_,?_,(),trivial,rfl,rfl⟩;refine dr ?_;repeat (refine oB (by simp) ?_; first|refine dr ?_|exact dz)
  trivial
def zmK:XC:=(.s (.r [.x1 2 0,.x1 3 1,.a2 4 4 59]) (.s (.r [.ex 8 .bsl0,.a1 5 8 4 59]) (.s (.r [.l2 9 14 2,.l2 10 4 3,.c1 11 96 [9,10],.a1 6 11 1 9]) (.s (.s (.r [.m1 7 (.i 0)]) (.blk 0 (.loop (.s (.s (.r [.mv 12 7,.f1 13 5 2,.l1 14 1 13,.n1 15 14,.b1 16 .lss 12 15]) (.ce 16 0)) (.s (.blk 1 (.s (.d [.f1 19 3 2,.l1 20 1 19,.f1 21 5 2,.l1 22 1 21,.mv 23 7,.i1 24 4 22 23,.f1 25 3 24,.l1 26 1 25,.b1 27 .lss 20 26,.mv 28 27,.g3 29 6 28,.g1 30 5 2 28,.g2 31 1 30 28,.g3 32 7 28,.gt 33 (.ia 4 31 32) 28,.g1 34 1 33 28,.g2 35 1 34 28,.gt 36 (.call 97 [29,35]) 28,.p2 37 28 36]) (.cnd 37 (.r [.mv 38 5,.f1 39 5 2,.l1 40 1 39,.mv 41 7,.i1 42 4 40 41,.l2 43 4 42,.ex 44 (.bsl 4 59 [43]),.ex 45 (.app false 4 40 59 38 44),.a1 5 45 4 59]) .skip))) (.ic 17 18 7)))))) (.s (.r [.mv 46 5,.a1 4 46 4 59]) .ret)))))
theorem zmL:zc Tryz.prog [] 41=some (zmK.ac,[(.t 4)],47):=by kernel_rfl
theorem YI {w:Wld} {op:Op}:zI w op=w.leases.filter (fun l=>decide (w.clock < l.til)&&(jQ w op).contains l.path):=rfl
theorem zpu (W0:World) (w:Wld) (op:Op) (hl:w.leases.length≤1000000):Fn Tryz.prog W0 41 [zB w,eOp op] (.c (zv (zI w op))) []:=by
 refine fX mixed zmL fun hg=>?_
 have ht:=zpQ W0 w op;have htl:=@zda w op;rw [YI];generalize jQ w op=ts at *;refine dEr ?_;repeat (refine c0 ht rfl ?_; first|refine dEr ?_|exact dz)
 refine lp2 (fun (k:Nat) (out:List Lease)=>[(2,.ptr 32 0),(5,.own 80 out.length),(6,.c (jo ts)),(7,I k)]) (fun _ out=>[(32,wBx w),(80,.row (out.map jt) 4 59)]) (fun k out=>k≤w.leases.length∧out=(w.leases.take k).filter (fun l=>decide (w.clock < l.til)&&ts.contains l.path)∧out.length≤k) (fun k _=>w.leases.length - k) 0 [] ⟨by simp,rfl,by simp⟩ ?_ ?_
 ·refine dr ?_;trivial
 rintro k out ⟨hk,ho,hle⟩;refine dr ?_;apply cP<;>intro h1
 ·have hk':k < w.leases.length:=by omega
  refine dr ?_;apply cP<;>intro h2
  ·refine dEr ?_;repeat (refine c0 (zbS W0 ts _ (by omega)) rfl ?_; first|refine dEr ?_|exact dz)
   apply cP<;>intro h3
   ·refine dr ?_;repeat ((first|refine oB (by simp; omega) ?_|refine oB (by simp) ?_); first|refine dr ?_|exact dz)
    refine ⟨k+1,out++[w.leases[k]],⟨by omega,by rw [qx hk' (by rw [decide_eq_true h2,h3]<;>rfl),ho],by simp; omega⟩,by omega,?_⟩;refine dr ?_;repeat (refine oB (by simp<;>rfl) ?_; first|refine dr ?_|exact dz)
    trivial
   ·refine dr ?_;refine ⟨k+1,out,⟨by omega,by rw [qe hk' (by rw [h3,Bool.and_false]),ho],by omega⟩,by omega,?_⟩;refine dr ?_;trivial
  ·refine dr ?_;refine ⟨k+1,out,⟨by omega,by rw [qe hk' (by rw [decide_eq_false (by omega),Bool.false_and]),ho],by omega⟩,by omega,?_⟩;refine dr ?_;trivial
 have hkl:k=w.leases.length:=by omega
 rw [hkl,List.take_length] at ho;refine dr ?_;repeat (refine oB (by simp) ?_; first|refine dr ?_|exact dz)
 rw [← ho]<;>rfl
def zkn:XC:=(.s (.r [.x1 2 0,.x1 3 1,.a2 4 4 59]) (.s (.r [.ex 8 .bsl0,.a1 5 8 4 59]) (.s (.r [.l2 9 14 2,.l2 10 4 3,.o1 11 96 [9,10],.a1 6 11 1 9]) (.s (.s (.r [.m1 7 (.i 0)]) (.blk 0 (.loop (.s (.s (.r [.mv 12 7,.f1 13 5 2,.l1 14 1 13,.n1 15 14,.b1 16 .lss 12 15]) (.ce 16 0)) (.s (.blk 1 (.s (.d [.f1 19 3 2,.l1 20 1 19,.f1 21 5 2,.l1 22 1 21,.mv 23 7,.i1 24 4 22 23,.f1 25 3 24,.l1 26 1 25,.b1 27 .lss 20 26,.mv 28 27,.g3 29 6 28,.g1 30 5 2 28,.g2 31 1 30 28,.g3 32 7 28,.gt 33 (.ia 4 31 32) 28,.g1 34 1 33 28,.g2 35 1 34 28,.gt 36 (.call 97 [29,35]) 28,.p2 37 28 36]) (.cnd 37 (.r [.mv 38 5,.f1 39 5 2,.l1 40 1 39,.mv 41 7,.i1 42 4 40 41,.l2 43 4 42,.ex 44 (.bsl 4 59 [43]),.ex 45 (.app false 4 40 59 38 44),.a1 5 45 4 59]) .skip))) (.ic 17 18 7)))))) (.s (.r [.mv 46 5,.a1 4 46 4 59]) .ret)))))
theorem zko:zc Tryz.prog [96] 41=some (zkn.ac,[(.t 4)],47):=by kernel_rfl
theorem zeq (W0:World) (w:Wld) (op:Op) (hl:w.leases.length≤1000000):zw Tryz.prog W0 41 [wAn 6 w,.c (eOp op)] (wMn 6 w) (fun _:Unit=>True) (fun _ => .c (zv (zI w op))) (fun _=>wMn 6 w):=by
 refine fW mixed zko fun hg=>?_
 have ht:=zev W0 w op;have htl:=@zda w op;rw [YI];generalize jQ w op=ts at *;refine dr ?_;refine oW ht rfl ⟨rfl,rfl,rfl,trivial⟩ rfl rfl ⟨(),trivial⟩ fun _ _=>⟨rfl,?_⟩
 refine dEr ?_;refine lp2 (fun (k:Nat) (out:List Lease)=>[(2,.ptr 32 0),(5,.own 80 out.length),(6,.c (jo ts)),(7,I k)]) (fun _ out=>[(32,.box (wCo 6 w)),(80,.row (out.map jt) 4 59)]++wMn 6 w) (fun k out=>k≤w.leases.length∧out=(w.leases.take k).filter (fun l=>decide (w.clock < l.til)&&ts.contains l.path)∧out.length≤k) (fun k _=>w.leases.length - k) 0 [] ⟨by simp,rfl,by simp⟩ ?_ ?_
 ·refine dr ?_;trivial
 rintro k out ⟨hk,ho,hle⟩;refine dr ?_;apply cP<;>intro h1
 ·have hk':k < w.leases.length:=by omega
  refine dr ?_;apply cP<;>intro h2
  ·refine dEr ?_;repeat (refine c0 (zbS W0 ts _ (by omega)) rfl ?_; first|refine dEr ?_|exact dz)
   apply cP<;>intro h3
   ·refine dr ?_;repeat ((first|refine oB (by simp; omega) ?_|refine oB (by simp) ?_); first|refine dr ?_|exact dz)
    refine ⟨k+1,out++[w.leases[k]],⟨by omega,by rw [qx hk' (by rw [decide_eq_true h2,h3]<;>rfl),ho],by simp; omega⟩,by omega,?_⟩;refine dr ?_;repeat (refine oB (by simp<;>rfl) ?_; first|refine dr ?_|exact dz)
    trivial
   ·refine dr ?_;refine ⟨k+1,out,⟨by omega,by rw [qe hk' (by rw [h3,Bool.and_false]),ho],by omega⟩,by omega,?_⟩;refine dr ?_;trivial
  ·refine dr ?_;refine ⟨k+1,out,⟨by omega,by rw [qe hk' (by rw [decide_eq_false (by omega),Bool.false_and]),ho],by omega⟩,by omega,?_⟩;refine dr ?_;trivial
 have hkl:k=w.leases.length:=by omega
 rw [hkl,List.take_length] at ho;rw [← ho];refine dr ?_;repeat (refine oB (by simp) ?_; first|refine dr ?_|exact dz)
 refine ⟨some 80,_,_,?_,(),trivial,rfl,rfl⟩;refine dr ?_;repeat (refine oB (by simp<;>rfl) ?_; first|refine dr ?_|exact dz)
 trivial
end Go.Proofs.YtopfccpgdldcdaaGreatDoor

namespace Go.Proofs.YtopfccpgdldcdaaGreatDoor
set_option linter.unusedSimpArgs false
set_option linter.unusedVariables false
open Go Go.RowKit
def znz:XC:=(.s (.r [.x1 2 0,.x1 3 1,.ex 4 (.alloc zW),.m1 5 (.i 0)]) (.s (.r [.f1 12 0 2,.l2 13 3 12,.c1 14 36 [13],.mv 11 14,.e1 15 11 0,.e1 16 11 1,.a1 6 15 3 46,.mv 7 16]) (.s (.r [.mv 18 6,.l2 19 4 3,.c1 20 99 [18,19],.mv 17 20,.e1 21 17 0,.e1 22 17 1,.a1 8 21 3 46,.mv 9 22]) (.s (.s (.r [.f1 23 9 2,.l1 24 1 23]) (.cnd 24 (.s (.r [.l2 25 14 2,.s1 14 4 25,.m1 5 (.i 21)]) .ret) .skip)) (.s (.s (.r [.mv 26 9,.b1 27 .neq 26 (.i 0)]) (.cnd 27 (.s (.r [.l2 28 14 2,.mv 29 9,.s1 14 4 28,.mv 5 29]) .ret) .skip)) (.s (.r [.l2 30 14 2,.l2 31 4 3,.o1 32 41 [30,31],.a1 10 32 4 59]) (.s (.s (.r [.mv 33 10,.n1 34 33,.b1 35 .gtr 34 (.i 0)]) (.cnd 35 (.s (.r [.f1 36 9 2,.nu (.st 1 36 .y)]) (.s (.r [.l2 37 4 3,.f1 38 10 2,.s1 4 38 37]) (.s (.r [.l2 39 14 2,.mv 40 10,.o1 41 174 [39,40],.s1 14 4 41,.m1 5 (.i 20)]) .ret))) .skip)) (.s (.r [.f1 43 0 2,.l2 44 3 43,.l2 45 4 3,.c1 46 87 [44,45],.mv 42 46,.e1 47 42 0,.e1 48 42 1,.f1 49 0 2,.s1 3 49 47]) (.s (.r [.l2 50 14 2,.s1 14 4 50,.m1 5 (.i 0)]) .ret)))))))))
theorem znA:zc Tryz.prog [41,174] 133=some (znz.ac,[(.cell 4 true 14),(.t 5)],51):=by kernel_rfl
theorem zbd {w:Wld} (h:WG w):z7 w.over=some (vwG w.over):=by
 obtain ⟨t,g⟩:=h.og;exact g.vw
theorem zpT (W0:World) (w:Wld) (op:Op) (h:WG w) (hl:w.leases.length≤1000000):zw Tryz.prog W0 133 [wAn 6 w,.c (eOp op)] (wMn 6 w) (fun _:Unit=>True) (fun _ => .tup [wAn 6 (jq w op).1,.c (CI (jq w op).2)]) (fun _=>wMn 6 (jq w op).1):=by
 refine fW mixed znA fun hg=>?_
 have hv:=y9 W0 w.over;rw [zbd h] at hv;have hd:=Jv W0 (vwG w.over) op;have hn:w.net.length≤1000:=by have:=h.pl.nl; omega
 have hb:=zeq W0 w op hl;have hbl:(zI w op).length≤1000000:=Nat.le_trans (List.length_filter_le _ _) hl;have ho:=zai W0 w.over op;have hw:jq w op=if w.waits=true then (w,21) else if (zx (vwG w.over) op).2≠0 then (w,(zx (vwG w.over) op).2)
  else if zI w op≠[] then (jT { w with waits:=true,op:=op } (zI w op),20)
  else ({ w with over:=(oDo w.over op).1 },0):=rfl
 rw [hw];generalize hb2:zI w op=b at *;generalize zx (vwG w.over) op=r at *;generalize oDo w.over op=o2 at *;refine dEr ?_;repeat ((first|refine c0 hv rfl ?_|refine c0 hd rfl ?_); first|refine dEr ?_|exact dz)
 apply cP<;>intro h1
 ·rw [if_pos h1];refine dr ?_;refine ⟨none,_,_,?_,(),trivial,rfl,rfl⟩;refine dr ?_;trivial
 rw [if_neg (by simp [h1])];refine dr ?_;apply cP<;>intro h2
 ·rw [if_pos h2];refine dr ?_;refine ⟨none,_,_,?_,(),trivial,rfl,rfl⟩;refine dr ?_;trivial
 rw [if_neg (fun hh=>hh h2)];refine dr ?_;refine oW hb rfl ⟨rfl,rfl,rfl,trivial⟩ rfl rfl ⟨(),trivial⟩ fun _ _=>⟨rfl,?_⟩
 refine dEr ?_;apply cP<;>intro h3
 ·rw [if_pos (by rintro rfl; simp at h3)];refine dr ?_;refine oW (zet W0 { w with waits:=true,op:=op } b hn hbl) rfl ⟨rfl,rfl,rfl,trivial⟩ rfl rfl ⟨(),trivial⟩ fun _ _=>⟨rfl,?_⟩
  refine dEr ?_;refine ⟨none,_,_,?_,(),trivial,rfl,rfl⟩;refine dr ?_;trivial
 ·have hb0:b=[]:=List.eq_nil_of_length_eq_zero (by omega);rw [if_neg (by simp [hb0])];refine dEr ?_;repeat (refine c0 ho rfl ?_; first|refine dEr ?_|exact dz)
  refine ⟨none,_,_,?_,(),trivial,rfl,rfl⟩;refine dr ?_;trivial
def znq:XC:=(.s (.r [.x1 1 0,.ex 2 (.alloc zW),.m1 3 (.i 0)]) (.s (.s (.r [.f1 5 9 1,.l1 6 1 5,.u1 7 6]) (.cnd 7 (.s (.r [.l2 8 14 1,.s1 14 2 8,.m1 3 (.i 22)]) .ret) .skip)) (.s (.r [.l2 9 14 1,.f1 10 10 1,.l2 11 4 10,.o1 12 41 [9,11],.a1 4 12 4 59]) (.s (.s (.r [.mv 13 4,.n1 14 13,.b1 15 .gtr 14 (.i 0)]) (.cnd 15 (.s (.r [.l2 16 14 1,.mv 17 4,.o1 18 174 [16,17],.s1 14 2 18,.m1 3 (.i 20)]) .ret) .skip)) (.s (.r [.f1 20 0 1,.l2 21 3 20,.f1 22 10 1,.l2 23 4 22,.c1 24 87 [21,23],.mv 19 24,.e1 25 19 0,.e1 26 19 1,.f1 27 0 1,.s1 3 27 25]) (.s (.r [.f1 28 9 1,.nu (.st 1 28 .n)]) (.s (.r [.ex 29 (.build [(I 0),sE,sE,sE] []),.f1 30 10 1,.s1 4 30 29]) (.s (.r [.l2 31 14 1,.s1 14 2 31,.m1 3 (.i 0)]) .ret))))))))
theorem znr:zc Tryz.prog [41,174] 134=some (znq.ac,[(.cell 2 true 14),(.t 3)],32):=by kernel_rfl
theorem zpP (W0:World) (w:Wld) (h:WG w) (hl:w.leases.length≤1000000):zw Tryz.prog W0 134 [wAn 6 w] (wMn 6 w) (fun _:Unit=>True) (fun _ => .tup [wAn 6 (jI w).1,.c (CI (jI w).2)]) (fun _=>wMn 6 (jI w).1):=by
 refine fW mixed znr fun hg=>?_
 have hn:w.net.length≤1000:=by have:=h.pl.nl; omega
 have hb:=zeq W0 w w.op hl;have hbl:(zI w w.op).length≤1000000:=Nat.le_trans (List.length_filter_le _ _) hl;have ho:=zai W0 w.over w.op;have hw:jI w=if w.waits=false then (w,22) else if zI w w.op≠[] then (jT w (zI w w.op),20)
  else ({ w with over:=(oDo w.over w.op).1,waits:=false,op:=ja },0):=rfl
 rw [hw];generalize hb2:zI w w.op=b at *;generalize oDo w.over w.op=o2 at *;refine dr ?_;apply cP<;>intro h1
 ·rw [if_pos h1];refine dr ?_;refine ⟨none,_,_,?_,(),trivial,rfl,rfl⟩;refine dr ?_;trivial
 rw [if_neg (by simp [h1])];refine dr ?_;refine oW hb rfl ⟨rfl,rfl,rfl,trivial⟩ rfl rfl ⟨(),trivial⟩ fun _ _=>⟨rfl,?_⟩
 refine dEr ?_;apply cP<;>intro h3
 ·rw [if_pos (by rintro rfl; simp at h3)];refine dr ?_;refine oW (zet W0 w b hn hbl) rfl ⟨rfl,rfl,rfl,trivial⟩ rfl rfl ⟨(),trivial⟩ fun _ _=>⟨rfl,?_⟩
  refine dEr ?_;refine ⟨none,_,_,?_,(),trivial,rfl,rfl⟩;refine dr ?_;trivial
 ·have hb0:b=[]:=List.eq_nil_of_length_eq_zero (by omega);rw [if_neg (by simp [hb0])];refine dEr ?_;repeat (refine c0 ho rfl ?_; first|refine dEr ?_|exact dz)
  refine ⟨none,_,_,?_,(),trivial,rfl,rfl⟩;refine dr ?_;trivial
theorem zaQ {l:List Lease} {who:Int} {p:Str} {num:Int}:jm l who p num=l.filter fun x=>!(x.who==who&&(x.path==p&&decide (x.num≤num))):=rfl
def znd:XC:=(.s (.r [.a2 8 4 59]) (.s (.r [.ex 11 .bsl0,.a1 9 11 4 59]) (.s (.s (.r [.m1 10 (.i 0)]) (.blk 0 (.loop (.s (.s (.r [.mv 12 10,.mv 13 0,.n1 14 13,.b1 15 .lss 12 14]) (.ce 15 0)) (.s (.blk 1 (.s (.r [.mv 18 0,.mv 19 10,.i1 20 4 18 19,.f1 21 0 20,.l1 22 1 21,.mv 23 1,.b1 24 .neq 22 23,.mv 25 24,.h3 26 0 25,.h3 27 10 25,.gf 28 (.ia 4 26 27) 25,.h1 29 1 28 25,.h2 30 1 29 25,.h3 31 2 25,.gf 32 (.bin .neq 30 31) 25,.p1 33 25 32,.mv 34 33,.h3 35 0 34,.h3 36 10 34,.gf 37 (.ia 4 35 36) 34,.h1 38 2 37 34,.h2 39 1 38 34,.h3 40 3 34,.gf 41 (.bin .gtr 39 40) 34,.p1 42 34 41]) (.cnd 42 (.r [.mv 43 9,.mv 44 0,.mv 45 10,.i1 46 4 44 45,.l2 47 4 46,.ex 48 (.bsl 4 59 [47]),.ex 49 (.app false 4 40 59 43 48),.a1 9 49 4 59]) .skip))) (.ic 16 17 10)))))) (.s (.r [.mv 50 9,.a1 8 50 4 59]) .ret))))
theorem zdE:zc Tryz.prog [] 216=some (znd.ac,[(.t 8)],51):=by kernel_rfl
theorem zpK (W0:World) (l:List Lease) (who:Int) (p:Str) (num:Int) (hl:l.length≤1000000):Fn Tryz.prog W0 216 [zv l,CI who,CS p,CI num] (.c (zv (jm l who p num))) []:=by
 refine fX mixed zdE fun hg=>?_
 refine dr ?_;refine lp2 (fun (k:Nat) (out:List Lease)=>[(0,.c (zv l)),(1,.c (CI who)),(2,.c (CS p)),(3,.c (CI num)),(9,.own 144 out.length),(10,I k)]) (fun _ out=>[(144,.row (out.map jt) 4 59)]) (fun k out=>k≤l.length∧out=(l.take k).filter (fun x=>!(x.who==who&&(x.path==p&&decide (x.num≤num))))∧out.length≤k) (fun k _=>l.length - k) 0 [] ⟨by simp,rfl,by simp⟩ ?_ ?_
 ·refine dr ?_;trivial
 rintro k out ⟨hk,ho,hle⟩;refine dr ?_;apply cP<;>intro h1
 ·have hk':k < l.length:=by omega
  have keep:(!(l[k].who==who&&(l[k].path==p&&decide (l[k].num≤num))))=true→out++[l[k]]=(l.take (k+1)).filter (fun x=>!(x.who==who&&(x.path==p&&decide (x.num≤num)))):=fun h=>by rw [qx hk' h,ho]
  refine dr ?_;apply cP<;>intro h2
  ·refine dr ?_;repeat ((first|refine oB (by simp; omega) ?_|refine oB (by simp) ?_); first|refine dr ?_|exact dz)
   refine ⟨k+1,out++[l[k]],⟨by omega,keep (by simp [h2]),by simp; omega⟩,by omega,?_⟩;refine dr ?_;repeat (refine oB (by simp<;>rfl) ?_; first|refine dr ?_|exact dz)
   trivial
  refine dr ?_;apply cP<;>intro h3
  ·refine dr ?_;repeat ((first|refine oB (by simp; omega) ?_|refine oB (by simp) ?_); first|refine dr ?_|exact dz)
   refine ⟨k+1,out++[l[k]],⟨by omega,keep (by simp [h3]),by simp; omega⟩,by omega,?_⟩;refine dr ?_;repeat (refine oB (by simp<;>rfl) ?_; first|refine dr ?_|exact dz)
   trivial
  refine dr ?_;apply cP<;>intro h4
  ·refine dr ?_;repeat ((first|refine oB (by simp; omega) ?_|refine oB (by simp) ?_); first|refine dr ?_|exact dz)
   refine ⟨k+1,out++[l[k]],⟨by omega,keep (by simp; omega),by simp; omega⟩,by omega,?_⟩;refine dr ?_;repeat (refine oB (by simp<;>rfl) ?_; first|refine dr ?_|exact dz)
   trivial
  ·refine dr ?_;refine ⟨k+1,out,⟨by omega,by rw [qe hk' (by simp [h2,h3]; omega),ho],by omega⟩,by omega,?_⟩;refine dr ?_;trivial
 have hkl:k=l.length:=by omega
 rw [hkl,List.take_length] at ho;rw [zaQ,← ho];refine dr ?_;repeat (refine oB (by simp) ?_; first|refine dr ?_|exact dz)
 rfl
theorem zpL (W0:World) (l:List Lease) (who:Int) (p:Str) (num:Int) (hl:l.length≤1000000):zw Tryz.prog W0 216 [.c (zv l),.c (CI who),.c (CS p),.c (CI num)] [] (fun _:Unit=>True) (fun _ => .own 144 (jm l who p num).length) (fun _=>[(144,.row ((jm l who p num).map jt) 4 59)]):=by
 refine fW mixed zdE fun hg=>?_
 refine dr ?_;refine lp2 (fun (k:Nat) (out:List Lease)=>[(0,.c (zv l)),(1,.c (CI who)),(2,.c (CS p)),(3,.c (CI num)),(9,.own 144 out.length),(10,I k)]) (fun _ out=>[(144,.row (out.map jt) 4 59)]) (fun k out=>k≤l.length∧out=(l.take k).filter (fun x=>!(x.who==who&&(x.path==p&&decide (x.num≤num))))∧out.length≤k) (fun k _=>l.length - k) 0 [] ⟨by simp,rfl,by simp⟩ ?_ ?_
 ·refine dr ?_;trivial
 rintro k out ⟨hk,ho,hle⟩;refine dr ?_;apply cP<;>intro h1
 ·have hk':k < l.length:=by omega
  have keep:(!(l[k].who==who&&(l[k].path==p&&decide (l[k].num≤num))))=true→out++[l[k]]=(l.take (k+1)).filter (fun x=>!(x.who==who&&(x.path==p&&decide (x.num≤num)))):=fun h=>by rw [qx hk' h,ho]
  refine dr ?_;apply cP<;>intro h2
  ·refine dr ?_;repeat ((first|refine oB (by simp; omega) ?_|refine oB (by simp) ?_); first|refine dr ?_|exact dz)
   refine ⟨k+1,out++[l[k]],⟨by omega,keep (by simp [h2]),by simp; omega⟩,by omega,?_⟩;refine dr ?_;repeat (refine oB (by simp<;>rfl) ?_; first|refine dr ?_|exact dz)
   trivial
  refine dr ?_;apply cP<;>intro h3
  ·refine dr ?_;repeat ((first|refine oB (by simp; omega) ?_|refine oB (by simp) ?_); first|refine dr ?_|exact dz)
   refine ⟨k+1,out++[l[k]],⟨by omega,keep (by simp [h3]),by simp; omega⟩,by omega,?_⟩;refine dr ?_;repeat (refine oB (by simp<;>rfl) ?_; first|refine dr ?_|exact dz)
   trivial
  refine dr ?_;apply cP<;>intro h4
  ·refine dr ?_;repeat ((first|refine oB (by simp; omega) ?_|refine oB (by simp) ?_); first|refine dr ?_|exact dz)
   refine ⟨k+1,out++[l[k]],⟨by omega,keep (by simp; omega),by simp; omega⟩,by omega,?_⟩;refine dr ?_;repeat (refine oB (by simp<;>rfl) ?_; first|refine dr ?_|exact dz)
   trivial
  ·refine dr ?_;refine ⟨k+1,out,⟨by omega,by rw [qe hk' (by simp [h2,h3]; omega),ho],by omega⟩,by omega,?_⟩;refine dr ?_;trivial
 have hkl:k=l.length:=by omega
 rw [hkl,List.take_length] at ho;rw [zaQ,← ho];refine dr ?_;refine ⟨none,_,_,?_,(),trivial,rfl,rfl⟩;refine dr ?_;trivial
theorem zes (W0:World) (l:List Lease) (who:Int) (p:Str) (num:Int) (hl:l.length≤1000000):zw Tryz.prog W0 216 [.c (zv l),.c (CI who),.c (CS p),.c (CI num)] [] (fun _:Unit=>True) (fun _ => .own 7 (jm l who p num).length) (fun _=>[(7,.row ((jm l who p num).map jt) 4 59)]):=(zpL W0 l who p num hl).swp 144 7
def zno:XC:=(.s (.r [.x1 1 0,.ex 2 (.alloc zW)]) (.s (.s (.r [.f1 5 3 1,.l1 6 1 5,.b1 7 .lss 6 (.i 10000)]) (.cnd 7 (.r [.f1 8 3 1,.l1 9 1 8,.b1 10 .add 9 (.i 1),.f1 11 3 1,.s1 1 11 10]) .skip)) (.s (.r [.ex 12 .bsl0,.a1 3 12 4 59]) (.s (.s (.r [.m1 4 (.i 0)]) (.blk 0 (.loop (.s (.s (.r [.mv 13 4,.f1 14 5 1,.l1 15 1 14,.n1 16 15,.b1 17 .lss 13 16]) (.ce 17 0)) (.s (.blk 1 (.s (.d [.f1 20 3 1,.l1 21 1 20,.f1 22 5 1,.l1 23 1 22,.mv 24 4,.i1 25 4 23 24,.f1 26 3 25,.l1 27 1 26,.b1 28 .lss 21 27]) (.cnd 28 (.r [.mv 29 3,.f1 30 5 1,.l1 31 1 30,.mv 32 4,.i1 33 4 31 32,.l2 34 4 33,.ex 35 (.bsl 4 59 [34]),.ex 36 (.app false 4 40 59 29 35),.a1 3 36 4 59]) .skip))) (.ic 18 19 4)))))) (.s (.r [.mv 37 3,.f1 38 5 1,.s1 1 38 37]) (.s (.r [.l2 39 14 1,.s1 14 2 39]) .ret))))))
theorem znp:zc Tryz.prog [] 135=some (zno.ac,[(.cell 2 true 14)],40):=by kernel_rfl
theorem zpO (W0:World) (w:Wld) (h:WG w) (hl:w.leases.length≤1000000):zw Tryz.prog W0 135 [wAn 6 w] (wMn 6 w) (fun _:Unit=>True) (fun _=>wAn 6 (yE w)) (fun _=>wMn 6 (yE w)):=by
 refine fW mixed znp fun hg=>?_
 have hc:=h.pl.ck;have e0:yE w={ w with clock:=qc w,leases:=w.leases.filter fun l=>decide (qc w < l.til) }:=rfl;refine dr ?_;apply cP<;>intro h1
 ·have e1:qc w=w.clock+1:=by unfold qc; rw [if_pos (by omega)]
  rw [e0,e1];clear e0 e1;refine dr ?_;refine lp2 (fun (k:Nat) (out:List Lease)=>[(1,.ptr 16 0),(2,.ptr 32 0),(3,.own 48 out.length),(4,I k)]) (fun _ out=>[(16,.box (wCo 6 { w with clock:=w.clock+1 })),(32,zWB),(48,.row (out.map jt) 4 59)]++wMn 6 w) (fun k out=>k≤w.leases.length∧out=(w.leases.take k).filter (fun l=>decide (w.clock+1 < l.til))∧out.length≤k) (fun k _=>w.leases.length - k) 0 [] ⟨by simp,rfl,by simp⟩ ?_ ?_
  ·refine dr ?_;trivial
  rintro k out ⟨hk,ho,hle⟩;refine dr ?_;apply cP<;>intro h2
  ·have hk':k < w.leases.length:=by have:(k:Int) < (w.leases.length:Int):=h2; omega
   refine dr ?_;apply cP<;>intro h3
   ·refine dr ?_;repeat ((first|refine oB (by simp; omega) ?_|refine oB (by simp) ?_); first|refine dr ?_|exact dz)
    refine ⟨k+1,out++[w.leases[k]],⟨by omega,by rw [qx hk' (decide_eq_true h3),ho],by simp; omega⟩,by omega,?_⟩;refine dr ?_;repeat (refine oB (by simp<;>rfl) ?_; first|refine dr ?_|exact dz)
    trivial
   ·refine dr ?_;refine ⟨k+1,out,⟨by omega,by rw [qe hk' (decide_eq_false (Int.not_lt.2 h3)),ho],by omega⟩,by omega,?_⟩;refine dr ?_;trivial
  have hkl:k=w.leases.length:=by have:(w.leases.length:Int)≤(k:Int):=h2; omega
  rw [hkl,List.take_length] at ho;rw [← ho];refine dr ?_;refine ⟨some 48,_,_,?_,(),trivial,rfl,rfl⟩;refine dr ?_;repeat (refine oB (by simp<;>rfl) ?_; first|refine dr ?_|exact dz)
  trivial
 ·have e1:qc w=w.clock:=by unfold qc; rw [if_neg (by omega)]
  rw [e0,e1];clear e0 e1;refine dr ?_;refine lp2 (fun (k:Nat) (out:List Lease)=>[(1,.ptr 16 0),(2,.ptr 32 0),(3,.own 48 out.length),(4,I k)]) (fun _ out=>[(16,.box (wCo 6 w)),(32,zWB),(48,.row (out.map jt) 4 59)]++wMn 6 w) (fun k out=>k≤w.leases.length∧out=(w.leases.take k).filter (fun l=>decide (w.clock < l.til))∧out.length≤k) (fun k _=>w.leases.length - k) 0 [] ⟨by simp,rfl,by simp⟩ ?_ ?_
  ·refine dr ?_;trivial
  rintro k out ⟨hk,ho,hle⟩;refine dr ?_;apply cP<;>intro h2
  ·have hk':k < w.leases.length:=by have:(k:Int) < (w.leases.length:Int):=h2; omega
   refine dr ?_;apply cP<;>intro h3
   ·refine dr ?_;repeat ((first|refine oB (by simp; omega) ?_|refine oB (by simp) ?_); first|refine dr ?_|exact dz)
    refine ⟨k+1,out++[w.leases[k]],⟨by omega,by rw [qx hk' (decide_eq_true h3),ho],by simp; omega⟩,by omega,?_⟩;refine dr ?_;repeat (refine oB (by simp<;>rfl) ?_; first|refine dr ?_|exact dz)
    trivial
   ·refine dr ?_;refine ⟨k+1,out,⟨by omega,by rw [qe hk' (decide_eq_false (Int.not_lt.2 h3)),ho],by omega⟩,by omega,?_⟩;refine dr ?_;trivial
  have hkl:k=w.leases.length:=by have:(w.leases.length:Int)≤(k:Int):=h2; omega
  rw [hkl,List.take_length] at ho;rw [← ho];refine dr ?_;refine ⟨some 48,_,_,?_,(),trivial,rfl,rfl⟩;refine dr ?_;repeat (refine oB (by simp<;>rfl) ?_; first|refine dr ?_|exact dz)
  trivial
def znm:XC:=(.s (.r [.x1 3 1,.a2 4 7 48]) (.s (.r [.ex 7 .bsl0,.a1 5 7 7 48]) (.s (.s (.r [.m1 6 (.i 0)]) (.blk 0 (.loop (.s (.s (.r [.mv 8 6,.mv 9 0,.n1 10 9,.b1 11 .lss 8 10]) (.ce 11 0)) (.s (.blk 1 (.s (.s (.d [.mv 14 0,.mv 15 6,.i1 16 7 14 15,.f1 17 0 16,.l1 18 1 17,.f1 19 0 3,.l1 20 1 19,.b1 21 .eql 18 20,.mv 22 21,.g3 23 0 22,.g3 24 6 22,.gt 25 (.ia 7 23 24) 22,.g1 26 5 25 22,.g2 27 1 26 22,.g1 28 5 3 22,.g2 29 1 28 22,.gt 30 (.bin .geq 27 29) 22,.p2 31 22 30]) (.cnd 31 (.s (.r [.mv 32 0,.a1 4 32 7 48]) .ret) .skip)) (.s (.d [.mv 33 0,.mv 34 6,.i1 35 7 33 34,.f1 36 0 35,.l1 37 1 36,.f1 38 0 3,.l1 39 1 38,.b1 40 .neq 37 39]) (.cnd 40 (.r [.mv 41 5,.mv 42 0,.mv 43 6,.i1 44 7 42 43,.l2 45 7 44,.ex 46 (.bsl 7 48 [45]),.ex 47 (.app false 7 80 48 41 46),.a1 5 47 7 48]) .skip)))) (.ic 12 13 6)))))) (.s (.r [.mv 48 5,.l2 49 7 3,.ex 50 (.bsl 7 48 [49]),.ex 51 (.app false 7 80 48 48 50),.a1 4 51 7 48]) .ret))))
theorem znn:zc Tryz.prog [] 214=some (znm.ac,[(.t 4)],52):=by kernel_rfl
theorem zs9 {l:List Hold} {h:Hold} {k:Nat} (hk:k < l.length) (h1:l[k].path=h.path) (h2:h.num≤l[k].num):jh l h=l:=by
 unfold jh;rw [if_pos];rw [List.any_eq_true];exact ⟨l[k],List.getElem_mem hk,by simp [h1,h2]⟩
theorem zs8 {l:List Hold} {h:Hold} (hn:∀ x∈l,¬ (x.path=h.path∧h.num≤x.num)):jh l h=(l.filter fun x=>x.path != h.path)++[h]:=by
 unfold jh;rw [if_neg];rw [List.any_eq_true];rintro ⟨x,hx,h2⟩;simp only [Bool.and_eq_true,beq_iff_eq,decide_eq_true_eq] at h2;exact hn x hx h2
theorem zpN (W0:World) (l:List Hold) (h:Hold) (hl:l.length≤1000000):Fn Tryz.prog W0 214 [zf l,zF h] (.c (zf (jh l h))) []:=by
 refine fX mixed znn fun hg=>?_
 refine dr ?_;refine lp2 (fun (k:Nat) (out:List Hold)=>[(0,.c (zf l)),(3,.ptr 48 0),(5,.own 80 out.length),(6,I k)]) (fun _ out=>[(48,.box (hCs h)),(80,.row (out.map zF) 7 48)]) (fun k out=>k≤l.length∧out=(l.take k).filter (fun x=>x.path != h.path)∧out.length≤k∧∀ x∈l.take k,¬ (x.path=h.path∧h.num≤x.num)) (fun k _=>l.length - k) 0 [] ⟨by simp,rfl,by simp,by simp⟩ ?_ ?_
 ·refine dr ?_;trivial
 rintro k out ⟨hk,ho,hle,hA⟩;refine dr ?_;apply cP<;>intro h1
 ·have hk':k < l.length:=by omega
  have next:¬ (l[k].path=h.path∧h.num≤l[k].num)→∀ x∈l.take (k+1),¬ (x.path=h.path∧h.num≤x.num):=fun hh x hx=>by
   rw [List.take_succ_eq_append_getElem hk'] at hx;rcases List.mem_append.1 hx with h' | h'
   ·exact hA x h'
   ·rw [List.mem_singleton.1 h']; exact hh
  refine dr ?_;apply cP<;>intro h2
  ·refine dr ?_;apply cP<;>intro h3
   ·refine dr ?_;rw [zs9 hk' h2 h3]<;>rfl
   refine dr ?_;apply cP<;>intro h4
   ·exact absurd h2 h4
   refine dr ?_;refine ⟨k+1,out,⟨by omega,by rw [qe hk' (by simp [h2]),ho],by omega,next (by omega)⟩,by omega,?_⟩;refine dr ?_;trivial
  refine dr ?_;apply cP<;>intro h4
  ·refine dr ?_;repeat ((first|refine oB (by simp; omega) ?_|refine oB (by simp) ?_); first|refine dr ?_|exact dz)
   refine ⟨k+1,out++[l[k]],⟨by omega,by rw [qx hk' (by simp [h2]),ho],by simp; omega,next fun hh=>h2 hh.1⟩,by omega,?_⟩;refine dr ?_;repeat (refine oB (by simp<;>rfl) ?_; first|refine dr ?_|exact dz)
   trivial
  ·exact absurd h4 h2
 have hkl:k=l.length:=by omega
 rw [hkl,List.take_length] at ho hA;rw [zs8 hA,← ho];refine dr ?_;repeat ((first|refine oB (by simp; omega) ?_|refine oB (by simp) ?_); first|refine dr ?_|exact dz)
 simp [zf];rfl
def zm7:XC:=(.s (.r [.a2 6 7 48]) (.s (.r [.ex 9 .bsl0,.a1 7 9 7 48]) (.s (.s (.r [.m1 8 (.i 0)]) (.blk 0 (.loop (.s (.s (.r [.mv 10 8,.mv 11 0,.n1 12 11,.b1 13 .lss 10 12]) (.ce 13 0)) (.s (.blk 1 (.s (.r [.mv 16 0,.mv 17 8,.i1 18 7 16 17,.f1 19 0 18,.l1 20 1 19,.mv 21 1,.b1 22 .neq 20 21,.mv 23 22,.h3 24 0 23,.h3 25 8 23,.gf 26 (.ia 7 24 25) 23,.h1 27 5 26 23,.h2 28 1 27 23,.h3 29 2 23,.gf 30 (.bin .gtr 28 29) 23,.p1 31 23 30]) (.cnd 31 (.r [.mv 32 7,.mv 33 0,.mv 34 8,.i1 35 7 33 34,.l2 36 7 35,.ex 37 (.bsl 7 48 [36]),.ex 38 (.app false 7 80 48 32 37),.a1 7 38 7 48]) .skip))) (.ic 14 15 8)))))) (.s (.r [.mv 39 7,.a1 6 39 7 48]) .ret))))
theorem zm8:zc Tryz.prog [] 215=some (zm7.ac,[(.t 6)],40):=by kernel_rfl
theorem zfI {l:List Hold} {p:Str} {n:Int}:jg l p n=l.filter fun x=>!(x.path==p&&decide (x.num≤n)):=rfl
theorem zpH (W0:World) (l:List Hold) (p:Str) (n:Int) (hl:l.length≤1000000):Fn Tryz.prog W0 215 [zf l,CS p,CI n] (.c (zf (jg l p n))) []:=by
 refine fX mixed zm8 fun hg=>?_
 refine dr ?_;refine lp2 (fun (k:Nat) (out:List Hold)=>[(0,.c (zf l)),(1,.c (CS p)),(2,.c (CI n)),(7,.own 112 out.length),(8,I k)]) (fun _ out=>[(112,.row (out.map zF) 7 48)]) (fun k out=>k≤l.length∧out=(l.take k).filter (fun x=>!(x.path==p&&decide (x.num≤n)))∧out.length≤k) (fun k _=>l.length - k) 0 [] ⟨by simp,rfl,by simp⟩ ?_ ?_
 ·refine dr ?_;trivial
 rintro k out ⟨hk,ho,hle⟩;refine dr ?_;apply cP<;>intro h1
 ·have hk':k < l.length:=by omega
  have keep:(!(l[k].path==p&&decide (l[k].num≤n)))=true→out++[l[k]]=(l.take (k+1)).filter (fun x=>!(x.path==p&&decide (x.num≤n))):=fun h=>by rw [qx hk' h,ho]
  refine dr ?_;apply cP<;>intro h2
  ·refine dr ?_;repeat ((first|refine oB (by simp; omega) ?_|refine oB (by simp) ?_); first|refine dr ?_|exact dz)
   refine ⟨k+1,out++[l[k]],⟨by omega,keep (by simp [h2]),by simp; omega⟩,by omega,?_⟩;refine dr ?_;repeat (refine oB (by simp<;>rfl) ?_; first|refine dr ?_|exact dz)
   trivial
  refine dr ?_;apply cP<;>intro h3
  ·refine dr ?_;repeat ((first|refine oB (by simp; omega) ?_|refine oB (by simp) ?_); first|refine dr ?_|exact dz)
   refine ⟨k+1,out++[l[k]],⟨by omega,keep (by simp; omega),by simp; omega⟩,by omega,?_⟩;refine dr ?_;repeat (refine oB (by simp<;>rfl) ?_; first|refine dr ?_|exact dz)
   trivial
  ·refine dr ?_;refine ⟨k+1,out,⟨by omega,by rw [qe hk' (by simp [h2]; omega),ho],by omega⟩,by omega,?_⟩;refine dr ?_;trivial
 have hkl:k=l.length:=by omega
 rw [hkl,List.take_length] at ho;rw [zfI,← ho];refine dr ?_;repeat (refine oB (by simp) ?_; first|refine dr ?_|exact dz)
 rfl
def zln:XC:=(.s (.r [.m1 4 (.i 0)]) (.s (.s (.r [.mv 5 0,.mv 6 1,.b1 7 .gtr 5 6]) (.cnd 7 (.s (.r [.mv 8 0,.mv 4 8]) .ret) .skip)) (.s (.r [.mv 9 1,.mv 4 9]) .ret)))
theorem zlo:zc Tryz.prog [] 138=some (zln.ac,[(.t 4)],10):=by kernel_rfl
theorem zei (W0:World) (a b:Int):Fn Tryz.prog W0 138 [CI a,CI b] (.c (CI (zR a b))) []:=by
 refine fX mixed zlo fun hg=>?_
 refine dr ?_;apply cP<;>intro h1
 ·refine dr ?_;unfold zR; rw [if_pos (by omega)]
 ·refine dr ?_;unfold zR; rw [if_neg (by omega)]
end Go.Proofs.YtopfccpgdldcdaaGreatDoor

namespace Go.Proofs.YtopfccpgdldcdaaGreatDoor
set_option linter.unusedSimpArgs false
set_option linter.unusedVariables false
open Go Go.RowKit
section
variable {w x:Wld}
theorem ztq {who:Int} {p:Str} (h:WG w) (hx:WG x) (h1:x.holds=w.holds) (h2:x.clock=w.clock):wRead x who p=wRead w who p:=by
 unfold wRead hdW;rw [h1,h2];by_cases hw:isW who
 ·rw [if_pos ⟨hx,hw⟩,if_pos ⟨h,hw⟩]
 ·rw [if_neg fun hh=>hw hh.2,if_neg fun hh=>hw hh.2]
theorem take_take {l:List Hold} {h:Hold}:jh (jh l h) h=jh l h:=by
 have:(jh l h).any (fun x=>x.path==h.path&&decide (h.num≤x.num))=true:=by
  unfold jh;split
  ·assumption
  ·simp
 generalize jh l h=l' at *;unfold jh;rw [if_pos this]
theorem zqQ {w:Wld} {L:List (List Hold)} {f:List Int} {n:List Msg} {ls:List Lease} {k:Int} {a:List Hold} (hk:isW k) (hl:w.holds.length=3) (e:L=w.holds.set k.toNat a):hdW { w with holds:=L,floors:=f,net:=n,leases:=ls } k=a:=by
 unfold hdW;subst e;have:=hk.1; have:=hk.2;simp only [List.getD,List.getElem?_set];rw [if_pos trivial,if_pos (by omega)]; rfl
theorem zqn {w:Wld} {L:List (List Hold)} {f:List Int} {n:List Msg} {k:Int} {a:Int} (hk:isW k) (hl:w.floors.length=3) (e:f=w.floors.set k.toNat a):flW { w with holds:=L,floors:=f,net:=n } k=a:=by
 unfold flW;subst e;have:=hk.1; have:=hk.2;simp only [List.getD,List.getElem?_set];rw [if_pos trivial,if_pos (by omega)]; rfl
theorem zti:evW w ⟨3,0,[],ja,0⟩=jI w:=by
 unfold evW;rw [if_neg (by simp),if_neg (by simp),if_pos rfl]
theorem zbe {op:Op}:evW w ⟨2,0,[],op,0⟩=jq w op:=by
 unfold evW;rw [if_neg (by simp),if_pos rfl]
structure Later (w x:Wld):Prop where
 g:WG x
 o:x.over=w.over
 wt:x.waits=w.waits
 op:x.op=w.op
 h:x.holds=w.holds
 l:∀ l∈x.leases,l∈w.leases∧(x.clock=w.clock∨x.clock < l.til)
theorem Later.refl (h:WG w):Later w w:=⟨h,rfl,rfl,rfl,rfl,fun l hl=>⟨hl,.inl rfl⟩⟩
theorem Later.tick (h:Later w x):Later w (yE x) :=
 ⟨h.g.tick,h.o,h.wt,h.op,h.h,fun l hl=>⟨(h.l l (List.mem_filter.1 hl).1).1,.inr (of_decide_eq_true (List.mem_filter.1 hl).2)⟩⟩
theorem Later.bars (h:Later w x) {op:Op}:∀ l∈zI x op,l∈zI w op∨w.clock < x.clock∨x.clock < w.clock:=fun l hl=>by
 obtain ⟨h1,h2,h3⟩:=JS.1 hl;by_cases hc:x.clock=w.clock
 ·left;refine JS.2 ⟨(h.l l h1).1,by omega,?_⟩;unfold jQ at h3 ⊢; rw [h.o] at h3; exact h3
 ·right; omega
theorem Later.none (h:Later w x) {late:Int} (h1:∀ l∈zI w w.op,l.til≤late) (h2:x.clock=late) (h3:w.clock≤late):zI x x.op=[]:=by
 cases hb:zI x x.op with
 | nil=>rfl
 | cons l r =>
  exfalso;obtain ⟨g1,g2,g3⟩:=JS.1 (show l∈zI x x.op by rw [hb]; simp);have hm:=(h.l l g1).1;have:l∈zI w w.op:=by
   refine JS.2 ⟨hm,by omega,?_⟩;unfold jQ at g3 ⊢; rw [h.o,h.op] at g3; exact g3
  have:=h1 l this;omega
end
end Go.Proofs.YtopfccpgdldcdaaGreatDoor

namespace Go.Proofs.YtopfccpgdldcdaaGreatDoor
set_option linter.unusedSimpArgs false
set_option linter.unusedVariables false
open Go Go.RowKit
def Qd (k:Int):Ev:=⟨5,0,[],ja,k⟩
def copyE (k:Int):Ev:=⟨7,0,[],ja,k⟩
section
variable {w:Wld}
theorem zsi {m:Msg} (h:w.net.length < 12):zT w m={ w with net:=w.net++[m] }:=by unfold zT; rw [if_pos h]
theorem zb6 {k:Nat} (h:k < w.net.length):evW w (Qd k)=(zL { w with net:=w.net.eraseIdx k } (w.net.getD k noMs),0):=by
 unfold evW Qd;rw [if_neg (by simp),if_neg (by simp),if_neg (by simp),if_neg (by simp),if_pos (by simp)];unfold netW;rw [if_neg (by simp; omega),if_neg (by simp),if_pos rfl];simp
theorem zof {k:Nat} (h:k < w.net.length) (h2:w.net.length < 12):evW w (copyE k)=({ w with net:=w.net++[w.net.getD k noMs] },0):=by
 unfold evW copyE;rw [if_neg (by simp),if_neg (by simp),if_neg (by simp),if_neg (by simp),if_pos (by simp)];unfold netW;rw [if_neg (by simp; omega),if_pos rfl];simp only;rw [zsi h2]; simp
theorem zds {a:List Msg} {m:Msg} {r:List Msg}:(a++m::r).getD a.length noMs=m∧(a++m::r).eraseIdx a.length=a++r:=by
 constructor
 ·simp [List.getD]
 ·rw [List.eraseIdx_append_of_length_le (Nat.le_refl _)]; simp
def zay (w:Wld) (who:Int) (p:Str):Wld:=zL (grantL w who p) (j0 w who p)
structure GO (w:Wld) (who:Int) (p:Str):Prop where
 g:WG w
 iw:isW who
 pth:pOk p=true
 wt:w.waits=false
 ct:w.count < 10000
variable {who:Int} {p:Str}
theorem zqP {x:Wld} {L:List (List Hold)} {k:Int} {a:List Hold} (hk:isW k) (hl:L.length=3) (e:x.holds=L.set k.toNat a):hdW x k=a:=by
 unfold hdW;rw [e];have:=hk.1; have:=hk.2;simp only [List.getD,List.getElem?_set];rw [if_pos trivial,if_pos (by omega)]; rfl
theorem GO.take (h:GO w who p):zay w who p={ grantL w who p with holds:=w.holds.set who.toNat (jh (hdW w who) (j0 w who p).hold) }:=by
 unfold zay zL;rw [if_neg (by simp [j0]),if_pos (show (j0 w who p).kind=2 from rfl)];have hf:=h.g.pl.fr _ (zeO h.iw h.g.pl.fl);rw [if_pos]
 ·rfl
 ·refine ⟨by show w.clock < w.clock+5; omega,?_⟩;show flW w who < w.count+1;omega
theorem GO.hd (h:GO w who p):hdW (zay w who p) who=jh (hdW w who) (j0 w who p).hold:=by
 rw [h.take];exact zqP h.iw h.g.pl.hl rfl
theorem zod {m:Msg} {n:List Msg} (hk:m.kind=2):zL { w with net:=n } m={ zL w m with net:=n }:=by
 unfold zL;rw [if_neg (show ¬ m.kind=1 by omega),if_neg (show ¬ m.kind=1 by omega),if_pos hk,if_pos hk];show (if w.clock < m.hold.til∧flW w m.who < m.hold.num then _ else _)=_;by_cases hc:w.clock < m.hold.til∧flW w m.who < m.hold.num
 ·rw [if_pos hc,if_pos hc]; rfl
 ·rw [if_neg hc,if_neg hc]
theorem GO.late (h:GO w who p) (hn:w.net.length≤8) :
  evW { grantL w who p with net:=w.net++[j0 w who p] } (copyE w.net.length)=({ grantL w who p with net:=w.net++[j0 w who p,j0 w who p] },0) ∧
  evW { grantL w who p with net:=w.net++[j0 w who p,j0 w who p] } (Qd w.net.length)=({ zay w who p with net:=w.net++[j0 w who p] },0):=by
 constructor
 ·rw [zof (by simp) (by simp; omega)];obtain ⟨e1,_⟩:=@zds w.net (j0 w who p) [];simp only [e1,List.append_assoc,List.singleton_append]
 ·rw [zb6 (by simp)];obtain ⟨e1,e2⟩:=@zds w.net (j0 w who p) [j0 w who p];simp only [e1,e2];refine congrArg (·,0) ?_;exact zod (w:=grantL w who p) rfl
theorem zhH {who:Int} {p:Str} (h:∀ x∈hdW w who,x.path≠p):wRead w who p=none:=by
 unfold wRead;split
 ·rw [List.find?_eq_none.2]
  ·rfl
  ·intro x hx;simp [h x hx]
 ·rfl
theorem gone {x:Wld} {who:Int} {p:Str} {m g:Msg} {k n:Nat} (hx:WG x) (hw:isW who) (hk:k < x.net.length) (hm:x.net.getD k noMs=m) (h1:m.kind=3) (h2:m.who=who) (h3:m.hold.path=p) (h4:m.hold.num=x.count)
  (hn:n < k) (hg:x.net.getD n noMs=g) (g1:g.kind=2) (g2:g.who=who) (g3:g.hold.num≤x.count) :
  wRead (evW x (Qd k)).1 who p=none∧wRead (evW (evW x (Qd k)).1 (Qd n)).1 who p=none:=by
 have hmm:m∈x.net:=by rw [← hm]; exact zfd hk
 have hms:=hx.ms m hmm;obtain ⟨i,hi,hiw⟩:=ZX hw;rw [zb6 hk,hm];simp only;have e:zL { x with net:=x.net.eraseIdx k } m=zT { x with net:=x.net.eraseIdx k,holds:=x.holds.set m.who.toNat (jg (hdW x m.who) m.hold.path m.hold.num),floors:=x.floors.set m.who.toNat (zR (flW x m.who) m.hold.num) } ⟨4,m.who,m.hold⟩:=by
  unfold zL; rw [if_neg (by omega),if_neg (by omega),if_pos h1]; rfl
 obtain ⟨s1,s2,s3,s4,s5,s6,s7,s8⟩:=@Zm { x with net:=x.net.eraseIdx k,holds:=x.holds.set m.who.toNat (jg (hdW x m.who) m.hold.path m.hold.num),floors:=x.floors.set m.who.toNat (zR (flW x m.who) m.hold.num) } ⟨4,m.who,m.hold⟩;rw [← e] at s1 s2 s3 s4 s5 s6 s7 s8;have hnet:(zL { x with net:=x.net.eraseIdx k } m).net.getD n noMs=g∧n < (zL { x with net:=x.net.eraseIdx k } m).net.length:=by
  have hl:n < (x.net.eraseIdx k).length:=by rw [List.length_eraseIdx,if_pos hk]; omega
  have hq:(x.net.eraseIdx k).getD n noMs=g:=by
   rw [← hg];simp only [List.getD];rw [List.getElem?_eraseIdx,if_pos hn]
  rw [e];unfold zT;split
  ·refine ⟨?_,by simp; omega⟩;simp only [List.getD] at hq ⊢;rw [List.getElem?_append_left hl]; exact hq
  ·exact ⟨hq,hl⟩
 generalize hy:zL { x with net:=x.net.eraseIdx k } m=y at *;have hh:hdW y who=jg (hdW x who) p x.count:=by
  have:=zqQ (w:=x) (f:=x.floors) (n:=x.net) (ls:=x.leases) (L:=y.holds) (a:=jg (hdW x m.who) m.hold.path m.hold.num) hms.who hx.pl.hl s5;rw [h2,h3,h4] at this;unfold hdW at this ⊢; exact this
 have hf:flW y who=zR (flW x who) x.count:=by
  have:=zqn (w:=x) (n:=x.net) (L:=x.holds) (f:=y.floors) (a:=zR (flW x m.who) m.hold.num) hms.who hx.pl.fl s6;rw [h2,h4] at this;unfold flW at this ⊢; exact this
 have hno:∀ z∈hdW y who,z.path≠p:=fun z hz hp=>by
  rw [hh] at hz;obtain ⟨z1,z2⟩:=zcq.1 hz;have:=z2 hp;rw [hiw] at z1;have:=((hx.hd i hi).g z z1).2.2.1;omega
 refine ⟨zhH hno,?_⟩;rw [zb6 hnet.2,hnet.1];have e2:zL { y with net:=y.net.eraseIdx n } g={ y with net:=y.net.eraseIdx n }:=by
  unfold zL;rw [if_neg (by omega),if_pos g1,if_neg];rintro ⟨_,hc⟩;have e3:flW { y with net:=y.net.eraseIdx n } g.who=zR (flW x who) x.count:=by rw [g2,← hf]; rfl
  rw [e3] at hc;have:x.count≤zR (flW x who) x.count:=by unfold zR; split<;>omega
  omega
 simp only [e2];exact zhH hno
end
end Go.Proofs.YtopfccpgdldcdaaGreatDoor

namespace Go.Proofs.YtopfccpgdldcdaaGreatDoor
set_option linter.unusedSimpArgs false
set_option linter.unusedVariables false
open Go Go.RowKit
theorem cuts {k0:List Nat} {a:(Fr→XM→Prop)→Fr→XM→Prop} {b:Fr→XM→Prop} {F:Fr} {m:XM} {σ:Type} (fr:σ→Fr) (mm:σ→XM) (inv:σ→Prop)
  (ha:a (fun F' m'=>∃ x,inv x∧zn k0 (some 3) F' m' (fr x) (mm x)) F m) (hb:∀ x,inv x→b (fr x) (mm x)):CutX k0 a b F m:=⟨σ,fr,mm,inv,some 3,_,ha,fun _ _ h=>h,hb⟩
def zmX:XC:=(.s (.r [.x1 3 0,.ex 6 (.alloc zW)]) (.s (.s (.r [.f1 12 9 3,.l1 13 1 12,.mv 14 13,.gt 15 (.ld true 14 3) 14,.g1 16 10 3 14,.gt 17 (.ld true 4 16) 14,.gt 18 (.opn 96 [15,17]) 14,.g3 19 2 14,.gt 20 (.call 97 [18,19]) 14,.p2 21 14 20,.mv 22 21,.h1 23 4 3 22,.h2 24 1 23 22,.gf 25 (.bin .geq 24 (.i 10000)) 22,.p1 26 22 25]) (.cnd 26 (.s (.r [.l2 27 14 3,.s1 14 6 27]) .ret) .skip)) (.s (.r [.f1 29 0 3,.l2 30 3 29,.c1 31 36 [30],.mv 28 31,.e1 32 28 0,.e1 33 28 1,.a1 7 32 3 46,.mv 8 33]) (.s (.r [.mv 35 7,.mv 36 2,.c1 37 156 [35,36],.mv 34 37,.e1 38 34 0,.e1 39 34 1,.ex 9 (.alloc zE),.s1 3 9 38,.mv 10 39]) (.s (.r [.f1 40 4 3,.l1 41 1 40,.b1 42 .add 41 (.i 1),.f1 43 4 3,.s1 1 43 42]) (.s (.r [.f1 44 3 3,.l1 45 1 44,.b1 46 .add 45 (.i 5),.mv 11 46]) (.cut (.d [.f1 47 5 3,.exo [7] 48 (.ld false 1 47),.mv 49 1,.mv 50 2,.f1 51 4 3,.exo [7] 52 (.ld false 1 51),.exo [7] 53 (.opn 216 [48,49,50,52]),.mv 54 1,.mv 55 2,.f1 56 4 3,.exo [7] 57 (.ld false 1 56),.mv 58 11,.ex 59 (.build [(I 0),sE,(I 0),(I 0)] [(0,(1,54)),(1,(1,55)),(2,(1,57)),(3,(1,58))]),.exo [7] 60 (.bsl 4 59 [59]),.ex 61 (.app false 4 40 59 53 60),.f1 62 5 3,.s1 1 62 61]) (.s (.r [.l2 63 14 3,.mv 64 1,.mv 65 2,.mv 66 10,.l2 67 3 9,.f1 68 4 3,.l1 69 1 68,.mv 70 11,.ex 71 (.build [sE,(B false),sE,(B false),sE,(I 0),(I 0)] [(0,(1,65)),(1,(1,66)),(2,(3,67)),(5,(1,69)),(6,(1,70))]),.ex 72 (.build [(I 0),(I 0),sE,(B false),sE,(B false),sE,(I 0),(I 0)] [(0,(1,(.i 2))),(1,(1,64)),(2,(7,71))]),.o1 73 132 [63,72],.s1 14 6 73]) .ret))))))))
theorem zmY:zc Tryz.prog [96,216,132,1000007] 213=some (zmX.ac,[(.cell 6 true 14)],74):=by kernel_rfl
theorem zpD (W0:World) (w:Wld) (who:Int) (p:Str) (h:WG w) (hl:w.leases.length≤1000000):zw Tryz.prog W0 213 [wAn 6 w,.c (CI who),.c (CS p)] (wMn 6 w) (fun _:Unit=>True) (fun _=>wAn 6 (ZW w who p)) (fun _=>wMn 6 (ZW w who p)):=by
 refine fW mixed zmY fun hg=>?_
 have hv:=y9 W0 w.over;rw [zbd h] at hv;have ht:=zev W0 w w.op;have htl:=@zda w w.op;have hc:=h.pl.ck;have hct:=h.pl.ct;have hn:w.net.length≤1000:=by have:=h.pl.nl; omega
 rw [zcd];generalize hts:jQ w w.op=ts at *;have hget:=yJ W0 (vwG w.over) p;rw [qM] at hget;have hofl:(jm w.leases who p (w.count+1)).length≤1000000:=Nat.le_trans (List.length_filter_le _ _) hl;refine dr ?_;apply cP<;>intro h1
 ·refine dr ?_;refine oW ht rfl ⟨rfl,rfl,rfl,trivial⟩ rfl rfl ⟨(),trivial⟩ fun _ _=>⟨rfl,?_⟩
  refine dEr ?_;repeat (refine c0 (zbS W0 ts p (by omega)) rfl ?_; first|refine dEr ?_|exact dz)
  apply cP<;>intro h2
  ·rw [if_pos (.inl ⟨h1,by rw [List.contains_eq_mem,decide_eq_true_iff] at h2; exact h2⟩)];refine dEr ?_;refine ⟨none,_,_,?_,(),trivial,rfl,rfl⟩;refine dr ?_;trivial
  have h2':p ∉ ts:=by rw [List.contains_eq_mem,decide_eq_false_iff_not] at h2; exact h2
  refine dEr ?_;apply cP<;>intro h3
  ·rw [if_pos (.inr h3)];refine dEr ?_;refine ⟨none,_,_,?_,(),trivial,rfl,rfl⟩;refine dr ?_;trivial
  rw [if_neg (by rintro (⟨_,h⟩ | h); exact h2' h; omega)];refine dEr ?_;repeat ((first|refine c0 hv rfl ?_|refine c0 hget rfl ?_); first|refine dEr ?_|exact dz)
  refine cuts (σ:=List Lease) (fun _=>[(1,.c (CI who)),(2,.c (CS p)),(3,.ptr 48 0),(6,.ptr 96 0),(9,.ptr 144 0),(10,.c (CB (get (vwG w.over) p).isSome)),(11,I (w.clock+5))])
   (fun L=>[(48,.box [.c (za w.over.base),.c (zy w.over.layers),.c (ze w.over.upper),I w.clock,I (w.count+1),.c (zv L),.own 4 w.holds.length,.own 5 w.floors.length,.own 6 w.net.length,B w.waits,I w.op.kind,.c (CS w.op.path),.c (CS w.op.dest),.c (CS w.op.data)]),(96,zWB),(144,.box [.c (CS ((get (vwG w.over) p).getD noE).path),B ((get (vwG w.over) p).getD noE).dir,.c (CS ((get (vwG w.over) p).getD noE).data)])]++wMn 6 w) (fun L=>L=(grantL w who p).leases) ?_ ?_
  ·refine dr ?_;refine oW (zes W0 w.leases who p (w.count+1) hl) rfl trivial rfl rfl ⟨(),trivial⟩ fun _ _=>⟨rfl,?_⟩
   refine dEr ?_;repeat ((first|refine oB (by simp; omega) ?_|refine oB (by simp) ?_); first|refine dEr ?_|exact dz)
   refine ⟨_,rfl,?_⟩;refine zn.s (z:=some 7) ?_;refine dr ?_;repeat ((first|refine oB (by simp [grantL,zv]<;>rfl) ?_|refine oB (by simp) ?_); first|refine dr ?_|exact dz)
   trivial
  rintro L hL;refine dr ?_;refine oW (J6 W0 ⟨w.over,w.clock,w.count+1,L,w.holds,w.floors,w.net,w.waits,w.op⟩ (j0 w who p) hn) rfl ⟨rfl,rfl,rfl,trivial⟩ rfl rfl ⟨(),trivial⟩ fun _ _=>⟨rfl,?_⟩
  rw [show (⟨w.over,w.clock,w.count+1,L,w.holds,w.floors,w.net,w.waits,w.op⟩:Wld)=grantL w who p by rw [hL]<;>rfl];refine dEr ?_;refine ⟨none,_,_,?_,(),trivial,rfl,rfl⟩;refine dr ?_;trivial
 ·refine dr ?_;apply cP<;>intro h3
  ·rw [if_pos (.inr h3)];refine dr ?_;refine ⟨none,_,_,?_,(),trivial,rfl,rfl⟩;refine dr ?_;trivial
  rw [if_neg (by rintro (⟨h,_⟩ | h); rw [h] at h1; cases h1; omega)];refine dEr ?_;repeat ((first|refine c0 hv rfl ?_|refine c0 hget rfl ?_); first|refine dEr ?_|exact dz)
  refine cuts (σ:=List Lease) (fun _=>[(1,.c (CI who)),(2,.c (CS p)),(3,.ptr 48 0),(6,.ptr 96 0),(9,.ptr 144 0),(10,.c (CB (get (vwG w.over) p).isSome)),(11,I (w.clock+5))])
   (fun L=>[(48,.box [.c (za w.over.base),.c (zy w.over.layers),.c (ze w.over.upper),I w.clock,I (w.count+1),.c (zv L),.own 4 w.holds.length,.own 5 w.floors.length,.own 6 w.net.length,B w.waits,I w.op.kind,.c (CS w.op.path),.c (CS w.op.dest),.c (CS w.op.data)]),(96,zWB),(144,.box [.c (CS ((get (vwG w.over) p).getD noE).path),B ((get (vwG w.over) p).getD noE).dir,.c (CS ((get (vwG w.over) p).getD noE).data)])]++wMn 6 w) (fun L=>L=(grantL w who p).leases) ?_ ?_
  ·refine dr ?_;refine oW (zes W0 w.leases who p (w.count+1) hl) rfl trivial rfl rfl ⟨(),trivial⟩ fun _ _=>⟨rfl,?_⟩
   refine dEr ?_;repeat ((first|refine oB (by simp; omega) ?_|refine oB (by simp) ?_); first|refine dEr ?_|exact dz)
   refine ⟨_,rfl,?_⟩;refine zn.s (z:=some 7) ?_;refine dr ?_;repeat ((first|refine oB (by simp [grantL,zv]<;>rfl) ?_|refine oB (by simp) ?_); first|refine dr ?_|exact dz)
   trivial
  rintro L hL;refine dr ?_;refine oW (J6 W0 ⟨w.over,w.clock,w.count+1,L,w.holds,w.floors,w.net,w.waits,w.op⟩ (j0 w who p) hn) rfl ⟨rfl,rfl,rfl,trivial⟩ rfl rfl ⟨(),trivial⟩ fun _ _=>⟨rfl,?_⟩
  rw [show (⟨w.over,w.clock,w.count+1,L,w.holds,w.floors,w.net,w.waits,w.op⟩:Wld)=grantL w who p by rw [hL]<;>rfl];refine dEr ?_;refine ⟨none,_,_,?_,(),trivial,rfl,rfl⟩;refine dr ?_;trivial
def zmO:XC:=(.s (.r [.x1 2 0,.x1 3 1,.ex 4 (.alloc zW)]) (.s (.r [.f1 6 2 3,.l2 7 7 6,.ex 5 (.alloc [sE,(B false),sE,(B false),sE,(I 0),(I 0)]),.s1 7 5 7]) (.s (.s (.r [.f1 8 0 3,.l1 9 1 8]) (.blk 0 (.s (.r [.b1 11 .eql 9 (.i 1),.mv 10 11]) (.cnd 10 (.s (.r [.l2 12 14 2,.f1 13 1 3,.l1 14 1 13,.f1 15 0 5,.l1 16 1 15,.o1 17 213 [12,14,16],.s1 14 4 17]) .ret) (.s (.r [.b1 19 .eql 9 (.i 2),.mv 18 19]) (.cnd 18 (.s (.d [.f1 20 3 2,.l1 21 1 20,.f1 22 6 5,.l1 23 1 22,.b1 24 .lss 21 23,.mv 25 24,.g1 26 5 5 25,.g2 27 1 26 25,.g1 28 7 2 25,.g2 29 1 28 25,.g1 30 1 3 25,.g2 31 1 30 25,.gt 32 (.ia 1 29 31) 25,.g2 33 1 32 25,.gt 34 (.bin .gtr 27 33) 25,.p2 35 25 34]) (.cnd 35 (.d [.f1 36 6 2,.l1 37 1 36,.f1 38 1 3,.l1 39 1 38,.f1 40 6 2,.l1 41 1 40,.f1 42 1 3,.l1 43 1 42,.i1 44 1 41 43,.l1 45 1 44,.l2 46 7 5,.c1 47 214 [45,46],.i1 48 1 37 39,.s1 1 48 47]) .skip)) (.s (.r [.b1 50 .eql 9 (.i 3),.mv 49 50]) (.cnd 49 (.s (.d [.f1 51 6 2,.l1 52 1 51,.f1 53 1 3,.l1 54 1 53,.f1 55 6 2,.l1 56 1 55,.f1 57 1 3,.l1 58 1 57,.i1 59 1 56 58,.l1 60 1 59,.f1 61 0 5,.l1 62 1 61,.f1 63 5 5,.l1 64 1 63,.c1 65 215 [60,62,64],.i1 66 1 52 54,.s1 1 66 65]) (.s (.d [.f1 67 7 2,.l1 68 1 67,.f1 69 1 3,.l1 70 1 69,.f1 71 7 2,.l1 72 1 71,.f1 73 1 3,.l1 74 1 73,.i1 75 1 72 74,.l1 76 1 75,.f1 77 5 5,.l1 78 1 77,.c1 79 138 [76,78],.i1 80 1 68 70,.s1 1 80 79]) (.s (.r [.l2 81 14 2,.f1 82 1 3,.l1 83 1 82,.l2 84 7 5,.ex 85 (.build [(I 0),(I 0),sE,(B false),sE,(B false),sE,(I 0),(I 0)] [(0,(1,(.i 4))),(1,(1,83)),(2,(7,84))]),.o1 86 132 [81,85],.s1 14 4 86]) .ret))) (.s (.r [.b1 88 .eql 9 (.i 4),.mv 87 88]) (.cnd 87 (.r [.f1 89 5 2,.l1 90 1 89,.f1 91 1 3,.l1 92 1 91,.f1 93 0 5,.l1 94 1 93,.f1 95 5 5,.l1 96 1 95,.c1 97 216 [90,92,94,96],.f1 98 5 2,.s1 1 98 97]) .skip)))))))))) (.s (.r [.l2 99 14 2,.s1 14 4 99]) .ret))))
theorem zmP:zc Tryz.prog [213,132] 175=some (zmO.ac,[(.cell 4 true 14)],100):=by kernel_rfl
theorem zeP {w:Wld} {i:Nat} (h:i < w.floors.length):flW w (i:Int)=w.floors[i]:=by
 unfold flW; simp [h]
theorem zce {w:Wld} {i:Nat} (h:i < w.holds.length):hdW w (i:Int)=w.holds[i]:=by
 unfold hdW; simp [h]
structure HZ (n:Nat) (w:Wld):Prop where
 l:w.leases.length≤n
 h:∀ x∈w.holds,x.length≤n
theorem zpw (W0:World) (w:Wld) (m:Msg) (h:WG w) (hz:HZ 1000000 w) (hw:isW m.who):zw Tryz.prog W0 175 [wAn 6 w,.c (eMsg m)] (wMn 6 w) (fun _:Unit=>True) (fun _=>wAn 6 (zL w m)) (fun _=>wMn 6 (zL w m)):=by
 refine fW mixed zmP fun hg=>?_
 have hl:=hz.l;have hn:w.net.length≤1000:=by have:=h.pl.nl; omega
 have h3:=h.pl.hl;have f3:=h.pl.fl;obtain ⟨i,hi,hwi⟩:=ZX hw;obtain ⟨mk,mw,mh⟩:=m;simp only at hwi;subst hwi;have hi':i < w.holds.length:=by omega
 have hi'':i < w.floors.length:=by omega
 have hzi:=hz.h _ (List.getElem_mem hi');refine dr ?_;apply cP<;>intro k1
 ·have e:zL w ⟨mk,i,mh⟩=ZW w i mh.path:=by unfold zL; rw [if_pos k1]
  rw [e];refine dr ?_;refine oW (zpD W0 w i mh.path h hl) rfl ⟨rfl,rfl,rfl,trivial⟩ rfl rfl ⟨(),trivial⟩ fun _ _=>⟨rfl,?_⟩
  refine dEr ?_;refine ⟨none,_,_,?_,(),trivial,rfl,rfl⟩;refine dr ?_;trivial
 refine dr ?_;apply cP<;>intro k2
 ·have e:zL w ⟨mk,i,mh⟩=if w.clock < mh.til∧w.floors[i] < mh.num then { w with holds:=w.holds.set i (jh w.holds[i] mh) } else w:=by
   unfold zL; rw [if_neg k1,if_pos k2]; simp only [zeP hi'',zce hi',Int.toNat_natCast]
  rw [e];refine dr ?_;apply cP<;>intro k3
  ·refine dr ?_;apply cP<;>intro k4
   ·rw [if_pos ⟨k3,k4⟩];refine dEr ?_;repeat (refine c0 (zpN W0 _ _ hzi) rfl ?_; first|refine dEr ?_|exact dz)
    refine ⟨none,_,_,?_,(),trivial,rfl,rfl⟩;refine dr ?_;repeat ((first|refine oB (by simp) ?_|refine oB (congrArg (fun L=>XB.row L 1 44) set1) ?_); first|refine dr ?_|exact dz)
    trivial
   ·rw [if_neg (fun hh=>absurd hh.2 (Int.not_lt.2 k4))];refine dr ?_;refine ⟨none,_,_,?_,(),trivial,rfl,rfl⟩;refine dr ?_;trivial
  ·rw [if_neg (fun hh=>absurd hh.1 (Int.not_lt.2 k3))];refine dr ?_;refine ⟨none,_,_,?_,(),trivial,rfl,rfl⟩;refine dr ?_;trivial
 refine dr ?_;apply cP<;>intro k3
 ·have e:zL w ⟨mk,i,mh⟩=zT { w with holds:=w.holds.set i (jg w.holds[i] mh.path mh.num),floors:=w.floors.set i (zR w.floors[i] mh.num) } ⟨4,i,mh⟩:=by
   unfold zL; rw [if_neg k1,if_neg k2,if_pos k3]; simp only [zeP hi'',zce hi',Int.toNat_natCast]
  rw [e];refine dEr ?_;repeat ((first|refine c0 (zpH W0 _ _ _ hzi) rfl ?_|refine c0 (zei W0 _ _) rfl ?_); first|refine dEr ?_|exact dz)
  refine oW (J6 W0 { w with holds:=w.holds.set i (jg w.holds[i] mh.path mh.num),floors:=w.floors.set i (zR w.floors[i] mh.num) } ⟨4,i,mh⟩ hn) (by simp<;>rfl) ⟨congrArg some (congrArg (fun L=>XB.row L 1 44) set1),congrArg some (congrArg (fun L=>XB.row L 1 3) set1),rfl,trivial⟩ rfl rfl ⟨(),trivial⟩ fun _ _=>⟨rfl,?_⟩
  refine dEr ?_;refine ⟨none,_,_,?_,(),trivial,rfl,rfl⟩;refine dr ?_;trivial
 refine dr ?_;apply cP<;>intro k4
 ·have e:zL w ⟨mk,i,mh⟩={ w with leases:=jm w.leases i mh.path mh.num }:=by unfold zL; rw [if_neg k1,if_neg k2,if_neg k3,if_pos k4]
  rw [e];refine dEr ?_;repeat (refine c0 (zpK W0 _ _ _ _ hl) rfl ?_; first|refine dEr ?_|exact dz)
  refine ⟨none,_,_,?_,(),trivial,rfl,rfl⟩;refine dr ?_;trivial
 ·have e:zL w ⟨mk,i,mh⟩=w:=by unfold zL; rw [if_neg k1,if_neg k2,if_neg k3,if_neg k4]
  rw [e];refine dr ?_;refine ⟨none,_,_,?_,(),trivial,rfl,rfl⟩;refine dr ?_;trivial
def znb:XC:=(.s (.r [.x1 2 0,.x1 3 1,.ex 4 (.alloc zW),.m1 5 (.i 0)]) (.s (.s (.r [.f1 7 7 3,.l1 8 1 7,.b1 9 .lss 8 (.i 0),.mv 10 9,.h1 11 7 3 10,.h2 12 1 11 10,.h1 13 8 2 10,.h2 14 1 13 10,.gf 15 (.len false 14) 10,.gf 16 (.bin .geq 12 15) 10,.p1 17 10 16]) (.cnd 17 (.s (.r [.l2 18 14 2,.s1 14 4 18,.m1 5 (.i 22)]) .ret) .skip)) (.s (.r [.f1 19 8 2,.l1 20 1 19,.f1 21 7 3,.l1 22 1 21,.i1 23 9 20 22,.l2 24 9 23,.ex 6 (.alloc [(I 0),(I 0),sE,(B false),sE,(B false),sE,(I 0),(I 0)]),.s1 9 6 24]) (.cut (.s (.r [.f1 25 0 3,.l1 26 1 25,.b1 27 .eql 26 (.i 7)]) (.cnd 27 (.s (.r [.l2 28 14 2,.l2 29 9 6,.o1 30 132 [28,29],.s1 14 4 30,.m1 5 (.i 0)]) .ret) .skip)) (.s (.d [.ex 31 .bsl0,.f1 32 8 2,.l1 33 1 32,.f1 34 7 3,.l1 35 1 34,.ex 36 (.slr 9 33 .none (.some 35)),.ex 37 (.app true 9 96 67 31 36),.f1 38 8 2,.l1 39 1 38,.f1 40 7 3,.l1 41 1 40,.b1 42 .add 41 (.i 1),.ex 43 (.slr 9 39 (.some 42) .none),.ex 44 (.app false 9 96 67 37 43),.f1 45 8 2,.s1 1 45 44]) (.s (.s (.r [.f1 46 0 3,.l1 47 1 46,.b1 48 .eql 47 (.i 5)]) (.cnd 48 (.r [.l2 49 14 2,.l2 50 9 6,.o1 51 175 [49,50],.s1 14 2 51]) .skip)) (.s (.r [.l2 52 14 2,.s1 14 4 52,.m1 5 (.i 0)]) .ret)))))))
theorem znc:zc Tryz.prog [132,175] 136=some (znb.ac,[(.cell 4 true 14),(.t 5)],53):=by kernel_rfl
abbrev nbN (b:Bool):Nat:=match b with
 | true=>592
 | false=>6
abbrev wMb (b:Bool) (w:Wld):XM:=match b with
 | true=>(6,.dead 9 67)::wMn 592 w
 | false=>wMn 6 w
theorem zd6 {α β:Type} {f:α→β} {l:List α} {k:Nat}:(l.take k).map f++(l.drop (k+1)).map f=(l.eraseIdx k).map f:=by
 rw [List.eraseIdx_eq_take_drop_succ,List.map_append]
theorem zd5 {α:Type} {l:List α} {k:Nat}:(l.take k).length+(l.drop (k+1)).length=(l.eraseIdx k).length:=by
 rw [List.eraseIdx_eq_take_drop_succ,List.length_append]
theorem zhD {w:Wld} {n L:Nat} (e:L=w.net.length):PV.agg [.c (za w.over.base),.c (zy w.over.layers),.c (ze w.over.upper),I w.clock,I w.count,.c (zv w.leases),.own 4 w.holds.length,.own 5 w.floors.length,.own n L,B w.waits,I w.op.kind,.c (CS w.op.path),.c (CS w.op.dest),.c (CS w.op.data)]=wAn n w:=by rw [e]
theorem zpJ (W0:World) (w:Wld) (ev:Ev) (h:WG w) (hz:HZ 1000000 w):zw Tryz.prog W0 136 [wAn 6 w,.c (eEv ev)] (wMn 6 w) (fun _:Bool=>True) (fun b => .tup [wAn (nbN b) (netW w ev).1,.c (CI (netW w ev).2)]) (fun b=>wMb b (netW w ev).1):=by
 obtain ⟨ek,ew,ep,eo,pos⟩:=ev;show zw _ _ _ [wAn 6 w,.c (.agg [CI ek,CI ew,CS ep,CI eo.kind,CS eo.path,CS eo.dest,CS eo.data,CI pos])] _ _ _ _;refine fW mixed znc fun hg=>?_
 have hn:w.net.length≤1000:=by have:=h.pl.nl; omega
 have hw:netW w ⟨ek,ew,ep,eo,pos⟩=if pos < 0∨(w.net.length:Int)≤pos then (w,22)
  else if ek=7 then (zT w (w.net.getD pos.toNat noMs),0)
  else if ek=5 then (zL { w with net:=w.net.eraseIdx pos.toNat } (w.net.getD pos.toNat noMs),0)
  else ({ w with net:=w.net.eraseIdx pos.toNat },0):=rfl
 rw [hw];refine dr ?_;apply cP<;>intro h1
 ·rw [if_pos (.inl h1)];refine dr ?_;refine ⟨none,_,_,?_,false,trivial,rfl,rfl⟩;refine dr ?_;trivial
 refine dr ?_;apply cP<;>intro h2
 ·rw [if_pos (.inr h2)];refine dr ?_;refine ⟨none,_,_,?_,false,trivial,rfl,rfl⟩;refine dr ?_;trivial
 have h1':0≤pos:=h1;have h2':pos < (w.net.length:Int):=h2;rw [if_neg (by omega)];obtain ⟨k,rfl⟩:∃ k:Nat,pos=(k:Int):=⟨pos.toNat,by omega⟩;have hk:k < w.net.length:=by omega
 have hgd:w.net.getD (k:Int).toNat noMs=w.net[k]:=by rw [Int.toNat_natCast,List.getD_eq_getElem?_getD,List.getElem?_eq_getElem hk]; rfl
 rw [hgd];have hms:=h.ms _ (List.getElem_mem hk);rw [Int.toNat_natCast];refine dr ?_;refine cuts (σ:=Unit) (fun _=>[(2,.ptr 32 0),(3,.ptr 48 0),(4,.ptr 64 0),(6,.ptr 96 0)])
  (fun _=>(6,.dead 9 67)::[(32,.box [.c (za w.over.base),.c (zy w.over.layers),.c (ze w.over.upper),I w.clock,I w.count,.c (zv w.leases),.own 4 w.holds.length,.own 5 w.floors.length,.c (jM w.net),B w.waits,I w.op.kind,.c (CS w.op.path),.c (CS w.op.dest),.c (CS w.op.data)]),
   (48,.box [I ek,I ew,.c (CS ep),I eo.kind,.c (CS eo.path),.c (CS eo.dest),.c (CS eo.data),I (k:Int)]),(64,zWB),(96,.box (mCs w.net[k])),(4,.row (w.holds.map zf) 1 44),(5,.row (w.floors.map CI) 1 3)]) (fun _=>ek≠7) ?_ ?_
 ·refine dr ?_;apply cP<;>intro h3
  ·have h3':ek=7:=h3;rw [if_pos h3'];refine dr ?_;refine oW (J6 W0 w w.net[k] hn) rfl ⟨rfl,rfl,rfl,trivial⟩ rfl rfl ⟨(),trivial⟩ fun _ _=>⟨rfl,?_⟩
   refine dEr ?_;refine ⟨none,_,_,?_,false,trivial,rfl,rfl⟩;refine dr ?_;trivial
  ·refine dr ?_;refine ⟨(),h3,?_⟩;refine zj.give (L:=w.net.map eMsg) 6 rfl ?_;refine dr ?_;repeat ((first|refine oB (by simp; omega) ?_|refine oB (by simp) ?_); first|refine dr ?_|exact dz)
   trivial
 rintro _ h3;rw [if_neg h3];refine dr ?_;repeat ((first|refine sHiM k rfl (by omega) ?_|refine sLoM (k+1) (by omega) (by omega) ?_|refine oB (by simp; omega) ?_|refine oB (by simp) ?_); first|refine dr ?_|exact dz)
 apply cP<;>intro h4
 ·have h4':ek=5:=h4;rw [if_pos h4'];have hc:=(zpw W0 { w with net:=w.net.eraseIdx k } w.net[k] (h.lose k) ⟨hz.l,hz.h⟩ hms.who).swp 6 592;refine dr ?_;refine oW hc (congrArg (fun x=>[x,PV.c (eMsg w.net[k])]) (zhD (w:={ w with net:=w.net.eraseIdx k }) zd5)) ⟨rfl,rfl,congrArg some (congrArg (fun L=>XB.row L 9 67) zd6),trivial⟩ rfl rfl ⟨(),trivial⟩ fun _ _=>⟨rfl,?_⟩
  refine dEr ?_;refine ⟨none,_,_,?_,true,trivial,rfl,rfl⟩;refine dr ?_;trivial
 ·have h4':ek≠5:=h4;rw [if_neg h4'];refine dr ?_;refine ⟨none,_,_,?_,true,trivial,rfl,rfl⟩;refine dr ?_;repeat ((first|refine oB (congrArg (fun x=>PV.tup [x,I 0]) (zhD (w:={ w with net:=w.net.eraseIdx k }) zd5)) ?_|refine oB (congrArg (fun L=>XB.row L 9 67) zd6) ?_); first|refine dr ?_|exact dz)
  trivial
end Go.Proofs.YtopfccpgdldcdaaGreatDoor

namespace Go.Proofs.YtopfccpgdldcdaaGreatDoor
set_option linter.unusedSimpArgs false
set_option linter.unusedVariables false
open Go Go.RowKit
theorem HZ.mono {n m:Nat} {w:Wld} (h:HZ n w) (hm:n≤m):HZ m w:=⟨by have:=h.l; omega,fun x hx=>by have:=h.h x hx; omega⟩
theorem zs7 {l:List Hold} {h:Hold}:(jh l h).length≤l.length+1:=by
 unfold jh;split
 ·omega
 ·have:=List.length_filter_le (fun x:Hold=>x.path != h.path) l;simp; omega
theorem HZ.set {n:Nat} {w:Wld} {k:Nat} {L:List Hold} (h:HZ n w) (hL:L.length≤n+1):∀ x∈w.holds.set k L,x.length≤n+1:=fun x hx=>by
 rcases List.mem_or_eq_of_mem_set hx with h' | h'
 ·have:=h.h x h'; omega
 ·rw [h']; exact hL
theorem yQ {n:Nat} {w:Wld} (h:HZ n w) (k:Int):(hdW w k).length≤n:=by
 unfold hdW;rw [List.getD_eq_getElem?_getD];by_cases hk:k.toNat < w.holds.length
 ·rw [List.getElem?_eq_getElem hk]; exact h.h _ (List.getElem_mem hk)
 ·rw [List.getElem?_eq_none (by omega)]; simp
theorem HZ.of_eq {n:Nat} {w x:Wld} (h:HZ n w) (h1:x.leases=w.leases) (h2:x.holds=w.holds):HZ (n+1) x:=⟨by rw [h1]; have:=h.l; omega,fun y hy=>by rw [h2] at hy; have:=h.h y hy; omega⟩
theorem HZ.come {n:Nat} {w:Wld} (h:HZ n w) (m:Msg):HZ (n+1) (zL w m):=by
 have hl:=h.l;unfold zL;split
 ·unfold ZW;split
  ·exact h.mono (by omega)
  ·refine ⟨?_,fun y hy=>?_⟩
   ·rw [Zm.2.2.2.1];have:=List.length_filter_le (fun x:Lease=>!(x.who==m.who&&(x.path==m.hold.path&&decide (x.num≤w.count+1)))) w.leases;show (jm w.leases m.who m.hold.path (w.count+1)++_).length≤n+1;rw [List.length_append,zaQ];simp only [List.length_cons,List.length_nil]; omega
   ·rw [Zm.2.2.2.2.1] at hy;have:=h.h y hy; omega
 ·split
  ·split
   ·exact ⟨by show w.leases.length≤n+1; omega,h.set (by have:=@zs7 (hdW w m.who) m.hold; have:=yQ h m.who; omega)⟩
   ·exact h.mono (by omega)
  ·split
   ·refine ⟨?_,fun y hy=>?_⟩
    ·rw [Zm.2.2.2.1]; show w.leases.length≤n+1; omega
    ·rw [Zm.2.2.2.2.1] at hy;exact h.set (by have:=List.length_filter_le (fun x:Hold=>!(x.path==m.hold.path&&decide (x.num≤m.hold.num))) (hdW w m.who); have:=yQ h m.who; rw [zfI]; omega) y hy
   ·split
    ·refine ⟨?_,fun y hy=>by have:=h.h y hy; omega⟩;have:=List.length_filter_le (fun x:Lease=>!(x.who==m.who&&(x.path==m.hold.path&&decide (x.num≤m.hold.num)))) w.leases;show (jm w.leases m.who m.hold.path m.hold.num).length≤n+1;rw [zaQ]; omega
    ·exact h.mono (by omega)
theorem HZ.ev {n:Nat} {w:Wld} (h:HZ n w) (e:Ev):HZ (n+1) (evW w e).1:=by
 have hl:=h.l;have id1:HZ (n+1) w:=h.mono (by omega);unfold evW;split
 ·split
  ·exact h.of_eq Zm.2.2.2.1 Zm.2.2.2.2.1
  ·exact id1
 ·split
  ·unfold jq;split
   ·exact id1
   ·split
    ·exact id1
    ·split
     ·exact h.of_eq Zl.2.2.2.1 Zl.2.2.2.2.1
     ·exact h.of_eq rfl rfl
  ·split
   ·unfold jI;split
    ·exact id1
    ·split
     ·exact h.of_eq Zl.2.2.2.1 Zl.2.2.2.2.1
     ·exact h.of_eq rfl rfl
   ·split
    ·refine ⟨?_,fun y hy=>by have:=h.h y hy; omega⟩;have:=List.length_filter_le (fun l:Lease=>decide (qc w < l.til)) w.leases;show (w.leases.filter fun l=>decide (qc w < l.til)).length≤n+1;omega
    ·split
     ·unfold netW;split
      ·exact id1
      ·split
       ·exact h.of_eq Zm.2.2.2.1 Zm.2.2.2.2.1
       ·split
        ·exact HZ.come (w:={ w with net:=w.net.eraseIdx e.pos.toNat }) ⟨h.l,h.h⟩ _
        ·exact h.of_eq rfl rfl
     ·exact id1
theorem HZ.new {o:Over}:HZ 0 (newW o):=⟨by simp [newW],by simp [newW]⟩
def zmR:XC:=(.s (.r [.x1 2 0,.x1 3 1,.ex 4 (.alloc zW),.m1 5 (.i 0)]) (.s (.s (.r [.f1 6 0 3,.l1 7 1 6]) (.blk 0 (.s (.r [.b1 9 .eql 7 (.i 1),.mv 8 9]) (.cnd 8 (.s (.s (.r [.f1 10 1 3,.l1 11 1 10,.c1 12 69 [11],.u1 13 12,.mv 14 13,.h1 15 2 3 14,.h2 16 1 15 14,.gf 17 (.call 98 [16]) 14,.gf 18 (.un .not 17) 14,.p1 19 14 18]) (.cnd 19 (.s (.r [.l2 20 14 2,.s1 14 4 20,.m1 5 (.i 1)]) .ret) .skip)) (.s (.r [.l2 21 14 2,.f1 22 1 3,.l1 23 1 22,.f1 24 2 3,.l1 25 1 24,.ex 26 (.build [sE,(B false),sE,(B false),sE,(I 0),(I 0)] [(0,(1,25))]),.ex 27 (.build [(I 0),(I 0),sE,(B false),sE,(B false),sE,(I 0),(I 0)] [(0,(1,(.i 1))),(1,(1,23)),(2,(7,26))]),.o1 28 132 [21,27],.s1 14 4 28,.m1 5 (.i 0)]) .ret)) (.s (.r [.b1 30 .eql 7 (.i 2),.mv 29 30]) (.cnd 29 (.s (.r [.l2 31 14 2,.f1 32 3 3,.l2 33 4 32,.o1 34 133 [31,33],.e1 35 34 0,.e1 36 34 1,.s1 14 4 35,.mv 5 36]) .ret) (.s (.r [.b1 38 .eql 7 (.i 3),.mv 37 38]) (.cnd 37 (.s (.r [.l2 39 14 2,.o1 40 134 [39],.e1 41 40 0,.e1 42 40 1,.s1 14 4 41,.mv 5 42]) .ret) (.s (.r [.b1 44 .eql 7 (.i 4),.mv 43 44]) (.cnd 43 (.s (.r [.l2 45 14 2,.o1 46 135 [45],.s1 14 4 46,.m1 5 (.i 0)]) .ret) (.s (.s (.r [.b1 48 .eql 7 (.i 5),.mv 47 48]) (.cnd 47 .skip (.s (.r [.b1 49 .eql 7 (.i 6),.mv 47 49]) (.cnd 47 .skip (.r [.b1 50 .eql 7 (.i 7),.mv 47 50]))))) (.cnd 47 (.s (.r [.l2 51 14 2,.l2 52 8 3,.o1 53 136 [51,52],.e1 54 53 0,.e1 55 53 1,.s1 14 4 54,.mv 5 55]) .ret) .skip)))))))))))) (.s (.r [.l2 56 14 2,.s1 14 4 56,.m1 5 (.i 1)]) .ret)))
theorem zmS:zc Tryz.prog [132,133,134,135,136] 80=some (zmR.ac,[(.cell 4 true 14),(.t 5)],57):=by kernel_rfl
theorem zer (W0:World) (w:Wld) (ev:Ev) (h:WG w) (hz:HZ 1000000 w):zw Tryz.prog W0 80 [wAn 6 w,.c (eEv ev)] (wMn 6 w) (fun _:Bool=>True) (fun b => .tup [wAn (nbN b) (evW w ev).1,.c (CI (evW w ev).2)]) (fun b=>wMb b (evW w ev).1):=by
 obtain ⟨ek,ew,ep,eo,pos⟩:=ev;show zw _ _ _ [wAn 6 w,.c (.agg [CI ek,CI ew,CS ep,CI eo.kind,CS eo.path,CS eo.dest,CS eo.data,CI pos])] _ _ _ _;refine fW mixed zmS fun hg=>?_
 have hn:w.net.length≤1000:=by have:=h.pl.nl; omega
 have ww:=zpT W0 w eo h hz.l;have wt:=zpP W0 w h hz.l;have wk:=zpO W0 w h hz.l;have wn:=zpJ W0 w ⟨ek,ew,ep,eo,pos⟩ h hz;refine dr ?_;apply cP<;>intro k1
 ·by_cases a:isW ew∧pOk ep=true
  ·have e:evW w ⟨ek,ew,ep,eo,pos⟩=(zT w ⟨1,ew,⟨ep,false,noE,0,0⟩⟩,0):=by
    unfold evW; rw [if_pos k1,if_pos a]
   rw [e];refine dEr ?_;repeat (refine c0 (zae W0 _) rfl ?_; first|refine dEr ?_|exact dz)
   apply cP<;>intro k2
   ·exact absurd a.1 k2
   refine dEr ?_;repeat (refine c0 (qH W0 _) rfl ?_; first|refine dEr ?_|exact dz)
   apply cP<;>intro k3
   ·rw [a.2] at k3; cases k3
   refine dr ?_;refine oW (J6 W0 w ⟨1,ew,⟨ep,false,noE,0,0⟩⟩ hn) rfl ⟨rfl,rfl,rfl,trivial⟩ rfl rfl ⟨(),trivial⟩ fun _ _=>⟨rfl,?_⟩
   refine dEr ?_;refine ⟨none,_,_,?_,false,trivial,rfl,rfl⟩;refine dr ?_;trivial
  ·have e:evW w ⟨ek,ew,ep,eo,pos⟩=(w,1):=by
    unfold evW; rw [if_pos k1,if_neg a]
   rw [e];refine dEr ?_;repeat (refine c0 (zae W0 _) rfl ?_; first|refine dEr ?_|exact dz)
   apply cP<;>intro k2
   ·refine dEr ?_;refine ⟨none,_,_,?_,false,trivial,rfl,rfl⟩;refine dr ?_;trivial
   refine dEr ?_;repeat (refine c0 (qH W0 _) rfl ?_; first|refine dEr ?_|exact dz)
   apply cP<;>intro k3
   ·refine dEr ?_;refine ⟨none,_,_,?_,false,trivial,rfl,rfl⟩;refine dr ?_;trivial
   ·exact absurd ⟨k2,k3⟩ a
 refine dr ?_;apply cP<;>intro k2
 ·have e:evW w ⟨ek,ew,ep,eo,pos⟩=jq w eo:=by unfold evW; rw [if_neg k1,if_pos k2]
  rw [e];refine dr ?_;refine oW ww rfl ⟨rfl,rfl,rfl,trivial⟩ rfl rfl ⟨(),trivial⟩ fun _ _=>⟨rfl,?_⟩
  refine dEr ?_;refine ⟨none,_,_,?_,false,trivial,rfl,rfl⟩;refine dr ?_;trivial
 refine dr ?_;apply cP<;>intro k3
 ·have e:evW w ⟨ek,ew,ep,eo,pos⟩=jI w:=by unfold evW; rw [if_neg k1,if_neg k2,if_pos k3]
  rw [e];refine dr ?_;refine oW wt rfl ⟨rfl,rfl,rfl,trivial⟩ rfl rfl ⟨(),trivial⟩ fun _ _=>⟨rfl,?_⟩
  refine dEr ?_;refine ⟨none,_,_,?_,false,trivial,rfl,rfl⟩;refine dr ?_;trivial
 refine dr ?_;apply cP<;>intro k4
 ·have e:evW w ⟨ek,ew,ep,eo,pos⟩=(yE w,0):=by unfold evW; rw [if_neg k1,if_neg k2,if_neg k3,if_pos k4]
  rw [e];refine dr ?_;refine oW wk rfl ⟨rfl,rfl,rfl,trivial⟩ rfl rfl ⟨(),trivial⟩ fun _ _=>⟨rfl,?_⟩
  refine dEr ?_;refine ⟨none,_,_,?_,false,trivial,rfl,rfl⟩;refine dr ?_;trivial
 by_cases a:5≤ek∧ek≤7
 ·have e:evW w ⟨ek,ew,ep,eo,pos⟩=netW w ⟨ek,ew,ep,eo,pos⟩:=by
   have a':5≤(⟨ek,ew,ep,eo,pos⟩:Ev).kind∧(⟨ek,ew,ep,eo,pos⟩:Ev).kind≤7:=a;unfold evW; rw [if_neg k1,if_neg k2,if_neg k3,if_neg k4,if_pos a']
  rw [e];refine dr ?_;apply cP<;>intro k5
  ·refine dr ?_;apply cP<;>intro j5;rotate_left
   ·exact absurd k5 j5
   refine dr ?_;refine oW wn rfl ⟨rfl,rfl,rfl,trivial⟩ rfl rfl ⟨false,trivial⟩ fun b _=>?_
   cases b with
   | true =>
    refine ⟨rfl,?_⟩;refine dEr ?_;refine ⟨none,_,_,?_,true,trivial,rfl,rfl⟩;refine dr ?_;trivial
   | false =>
    refine ⟨rfl,?_⟩;refine dEr ?_;refine ⟨none,_,_,?_,false,trivial,rfl,rfl⟩;refine dr ?_;trivial
  refine dr ?_;apply cP<;>intro k6
  ·refine dr ?_;apply cP<;>intro j6;rotate_left
   ·exact absurd k6 j6
   refine dr ?_;refine oW wn rfl ⟨rfl,rfl,rfl,trivial⟩ rfl rfl ⟨false,trivial⟩ fun b _=>?_
   cases b with
   | true =>
    refine ⟨rfl,?_⟩;refine dEr ?_;refine ⟨none,_,_,?_,true,trivial,rfl,rfl⟩;refine dr ?_;trivial
   | false =>
    refine ⟨rfl,?_⟩;refine dEr ?_;refine ⟨none,_,_,?_,false,trivial,rfl,rfl⟩;refine dr ?_;trivial
  refine dr ?_;apply cP<;>intro k7
  ·refine dr ?_;refine oW wn rfl ⟨rfl,rfl,rfl,trivial⟩ rfl rfl ⟨false,trivial⟩ fun b _=>?_
   cases b with
   | true =>
    refine ⟨rfl,?_⟩;refine dEr ?_;refine ⟨none,_,_,?_,true,trivial,rfl,rfl⟩;refine dr ?_;trivial
   | false =>
    refine ⟨rfl,?_⟩;refine dEr ?_;refine ⟨none,_,_,?_,false,trivial,rfl,rfl⟩;refine dr ?_;trivial
  ·omega
 ·have e:evW w ⟨ek,ew,ep,eo,pos⟩=(w,1):=by
   have a':¬ (5≤(⟨ek,ew,ep,eo,pos⟩:Ev).kind∧(⟨ek,ew,ep,eo,pos⟩:Ev).kind≤7):=a;unfold evW; rw [if_neg k1,if_neg k2,if_neg k3,if_neg k4,if_neg a']
  rw [e];refine dr ?_;apply cP<;>intro k5
  ·exact absurd ⟨by omega,by omega⟩ a
  refine dr ?_;apply cP<;>intro k6
  ·exact absurd ⟨by omega,by omega⟩ a
  refine dr ?_;apply cP<;>intro k7
  ·exact absurd ⟨by omega,by omega⟩ a
  ·refine dr ?_;refine ⟨none,_,_,?_,false,trivial,rfl,rfl⟩;refine dr ?_;trivial
end Go.Proofs.YtopfccpgdldcdaaGreatDoor

namespace Go.Proofs.YtopfccpgdldcdaaGreatDoor
set_option linter.unusedSimpArgs false
set_option linter.unusedVariables false
open Go Go.RowKit
structure WZ (n:Nat) (w:Wld):Prop where
 o:OZ n w.over
 z:HZ n w
 h:w.holds.length≤n
 f:w.floors.length≤n
 t:w.net.length≤n
theorem WG.wz {n:Nat} {w:Wld} (h:WG w) (hz:HZ n w) (hn:32≤n):WZ n w:=by
 obtain ⟨t,g⟩:=h.og;exact ⟨g.os.oz.mono hn,hz,by have:=h.pl.hl; omega,by have:=h.pl.fl; omega,by have:=h.pl.nl; omega⟩
theorem zj.nilS {k0:List Nat} {A:Fr} {m:XM} (bx:Nat) (cs cs':List PV) (id sz:Nat) (e:TypeId) (h0:0 < sz) (hb:lkX m bx=some (.box cs)) (hid:lkX m id=none) (hc:zb (NR1 id) cs cs') :
  zj k0 A m A ((id,.row [] sz e)::updX m bx (.box cs')):=fun W0 F K hA hK=>by
 have hb':lk (Go.Proofs.YtopfccpgdldcdaaGreatDoor.er m) bx=some (.box cs):=by rw [zU,hb]; rfl
 have hup:Go.Proofs.YtopfccpgdldcdaaGreatDoor.er (updX m bx (.box cs'))=upd (Go.Proofs.YtopfccpgdldcdaaGreatDoor.er m) bx (.box cs'):=yj;refine jp.nil (F2:=A) (m2:=upd (Go.Proofs.YtopfccpgdldcdaaGreatDoor.er m) bx (.box cs')) id sz e (by rw [zU,hid]; rfl) h0 (fun t x hx=>⟨x,by rw [← hA t]; exact hx,.inl (.inl rfl)⟩) (fun i b hi=>?_) (fun i hi=>by rw [Jy]; exact hi) ?_
 ·by_cases h:i=bx
  ·subst h;rw [Zi hb'] at hi;cases hi;exact ⟨_,hb',.inr ⟨cs,cs',rfl,rfl,hc⟩⟩
  ·rw [Yi h] at hi;exact ⟨b,hi,.inl rfl⟩
 ·have:Go.Proofs.YtopfccpgdldcdaaGreatDoor.er ((id,XB.row [] sz e)::updX m bx (.box cs'))=(id,.row [] sz e)::upd (Go.Proofs.YtopfccpgdldcdaaGreatDoor.er m) bx (.box cs'):=by simp only [Go.Proofs.YtopfccpgdldcdaaGreatDoor.er,XB.er,hup]; rfl
  rw [this] at hK; exact hK
theorem zj.pull {k0:List Nat} {A F2:Fr} {m m3:XM} {L:List CV} {Lp Lp':List PV} {sz:Nat} {e e':TypeId} (rid id:Nat) (hr:lkX m rid=some (.rowP Lp e)) (hl:lkX m id=some (.row L sz e')) (hL:Lp.map (frA (some (id,L.length,L)))=Lp') (hin:inBX ((rid,.box [])::m3) (.rowP Lp' e)=true) (h:YD k0 rid id L A m F2 m3) :
  zj k0 A m F2 ((rid,.rowP Lp' e)::m3):=fun W0 F K hA hK=>by
 unfold YD at h;split at h
 case h_2=>exact h.elim
 rename_i hn1 hn2;split at h
 case h_2=>exact h.elim
 rename_i hne hk hk0 hm3 hF2;obtain ⟨f1,h⟩:=QY h;obtain ⟨f2,_⟩:=QZ h;have eF:=Yd hA f1;have eM:=Ye f2;have hz:qK (some (id,L))=some (id,(L.map PV.c).length,L):=by simp [qK]
 rw [hz] at eF eM;have hrid:rid≠id:=Nat.ne_of_beq_eq_false hne;have eR:mapL (frB (some (id,(L.map PV.c).length,L))) (jD (Go.Proofs.YtopfccpgdldcdaaGreatDoor.er m) (rid::m3.map (·.1)))=Go.Proofs.YtopfccpgdldcdaaGreatDoor.er ((rid,.rowP Lp' e)::m3):=by
  have e1:lk (Go.Proofs.YtopfccpgdldcdaaGreatDoor.er m) rid=some (.row Lp 1 e):=by rw [zU,hr]; rfl
  simp only [jD,e1,mapL,List.map_cons] at eM ⊢;rw [eM];simp only [Go.Proofs.YtopfccpgdldcdaaGreatDoor.er,XB.er,frB];rw [← hL,List.length_map]
 have dom:∀ i,(lkX ((rid,XB.box [])::m3) i).isSome=(lkX ((rid,XB.rowP Lp' e)::m3) i).isSome:=fun i=>by
  simp only [lkX]; split<;>rfl
 obtain ⟨d1,d2⟩:=zfp dom;refine jp.of (l:=[⟨some id,F2.map (·.1),rid::m3.map (·.1)⟩]) ?_;show Tr.on k0 _ F (Go.Proofs.YtopfccpgdldcdaaGreatDoor.er m) K;unfold Tr.on;simp only [];refine ⟨hk,?_,?_⟩
 ·rw [List.contains_cons,zf9 hn1];simp [Ne.symm hrid]
 ·simp only [zU,hl,Option.map_some,XB.er];refine zA (Jo L) ?_;unfold Tr.go;rw [eR,eF];refine ⟨?_,?_,?_,hK⟩
  ·rw [List.all_eq_true] at hk0 ⊢;intro i hi;have:=hk0 i hi;rw [Bool.or_eq_true] at this;rw [List.contains_cons];rcases this with h | h
   ·rw [Nat.eq_of_beq_eq_true h]; simp
   ·rw [zcg h,Bool.or_true]
  ·refine zaC ?_;unfold inMX;rw [List.all_cons];rw [Bool.and_eq_true];refine ⟨by rw [← d2]; exact hin,?_⟩;rw [← hm3]
   congr 1
   funext p;exact (d2 p.2).symm
  ·rw [List.all_eq_true] at hF2 ⊢;intro p hp;rw [← Yb,← d1]; exact hF2 p hp
def zmQ:XC:=(.s (.r [.x1 1 0,.ex 2 (.alloc zW)]) (.s (.r [.l2 5 14 1,.ex 3 (.alloc zW),.s1 14 3 5]) (.s (.r [.f1 6 0 1,.l2 7 3 6,.c1 8 137 [7],.f1 9 0 3,.s1 3 9 8]) (.s (.r [.ex 10 .bsl0,.f1 11 5 1,.l1 12 1 11,.ex 13 (.app true 4 40 59 10 12),.f1 14 5 3,.s1 1 14 13]) (.s (.r [.ex 15 .bsl0,.f1 16 6 3,.s1 1 16 15]) (.s (.s (.r [.m1 4 (.i 0)]) (.blk 0 (.loop (.s (.s (.r [.mv 17 4,.f1 18 6 1,.l1 19 1 18,.n1 20 19,.b1 21 .lss 17 20]) (.ce 21 0)) (.s (.blk 1 (.d [.f1 24 6 3,.l1 25 1 24,.ex 26 .bsl0,.f1 27 6 1,.l1 28 1 27,.mv 29 4,.i1 30 1 28 29,.l1 31 1 30,.ex 32 (.app true 7 80 48 26 31),.ex 33 (.bsl 1 44 [32]),.ex 34 (.app false 1 24 44 25 33),.f1 35 6 3,.s1 1 35 34])) (.ic 22 23 4)))))) (.s (.r [.ex 36 .bsl0,.f1 37 7 1,.l1 38 1 37,.ex 39 (.app true 1 8 3 36 38),.f1 40 7 3,.s1 1 40 39]) (.s (.r [.ex 41 .bsl0,.f1 42 8 1,.l1 43 1 42,.ex 44 (.app true 9 96 67 41 43),.f1 45 8 3,.s1 1 45 44]) (.s (.r [.l2 46 14 3,.s1 14 2 46]) .ret)))))))))
theorem zdD:zc Tryz.prog [] 81=some (zmQ.ac,[(.cell 2 true 14)],47):=by kernel_rfl
theorem zpA (W0:World) (w:Wld) (hz:WZ 1000000 w):zw Tryz.prog W0 81 [.c (zB w)] [] (fun _:Unit=>True) (fun _ => .agg [.c (za w.over.base),.c (zy w.over.layers),.c (ze w.over.upper),I w.clock,I w.count,.c (zv w.leases),.own 14 w.holds.length,.own 624 w.floors.length,.own 704 w.net.length,B w.waits,I w.op.kind,.c (CS w.op.path),.c (CS w.op.dest),.c (CS w.op.data)]) (fun _=>[(14,.row (w.holds.map zf) 1 44),(624,.row (w.floors.map CI) 1 3),(704,.row (w.net.map eMsg) 9 67)]):=by
 refine fW mixed zdD fun hg=>?_
 obtain ⟨hzo,⟨hzl,hzh⟩,hh,hf,hn⟩:=hz;refine dEr ?_;repeat ((first|refine c0 (J5 W0 _ (hzo.mono (by omega))) rfl ?_|refine oB (by simp; omega) ?_|refine oB (by simp) ?_); first|refine dEr ?_|exact dz)
 refine lq (σ:=Nat) (fun k=>[(1,.ptr 16 0),(2,.ptr 32 0),(3,.ptr 48 0),(4,I k)]) (fun k=>[(14,.row ((w.holds.take k).map zf) 1 44),(16,wBx w),(32,zWB),(48,.box [.c (za w.over.base),.c (zy w.over.layers),.c (ze w.over.upper),I w.clock,I w.count,.c (zv w.leases),.own 14 k,.c (jU w.floors),.c (jM w.net),B w.waits,I w.op.kind,.c (CS w.op.path),.c (CS w.op.dest),.c (CS w.op.data)])]) (fun k=>k≤w.holds.length) (fun k=>w.holds.length - k) 0 (by simp) ?_ ?_
 ·refine zn.trans (z:=some 208) (z':=some 3) (F1:=[(1,.ptr 16 0),(2,.ptr 32 0),(3,.ptr 48 0),(4,I 0)]) (m1:=[(16,wBx w),(32,zWB),(48,.box [.c (za w.over.base),.c (zy w.over.layers),.c (ze w.over.upper),I w.clock,I w.count,.c (zv w.leases),.nil,.c (jU w.floors),.c (jM w.net),B w.waits,I w.op.kind,.c (CS w.op.path),.c (CS w.op.dest),.c (CS w.op.data)])]) ?_ ?_
  ·refine dr ?_;repeat (refine oB (by simp<;>rfl) ?_; first|refine dr ?_|exact dz)
   trivial
  ·show zj _ _ _ _ _;exact zj.nilB 48 [.c (za w.over.base),.c (zy w.over.layers),.c (ze w.over.upper),I w.clock,I w.count,.c (zv w.leases),.nil,.c (jU w.floors),.c (jM w.net),B w.waits,I w.op.kind,.c (CS w.op.path),.c (CS w.op.dest),.c (CS w.op.data)] [.c (za w.over.base),.c (zy w.over.layers),.c (ze w.over.upper),I w.clock,I w.count,.c (zv w.leases),.own 14 0,.c (jU w.floors),.c (jM w.net),B w.waits,I w.op.kind,.c (CS w.op.path),.c (CS w.op.dest),.c (CS w.op.data)] 14 44 rfl rfl ⟨nr0,nr0,nr0,nr0,nr0,nr0,nr1,nr0,nr0,nr0,nr0,nr0,nr0,nr0,trivial⟩
 intro k hk;refine dr ?_;apply cP<;>intro h1
 ·have hk':k < w.holds.length:=by omega
  have hzk:=hzh _ (List.getElem_mem hk');refine dr ?_;repeat ((first|refine oB (by simp; omega) ?_|refine oB (by simp) ?_); first|refine dr ?_|exact dz)
  refine ⟨k+1,by omega,by omega,?_⟩;rw [List.take_succ_eq_append_getElem hk',List.map_append];refine zj.push (C:=(w.holds.take k).map zf) (L:=w.holds[k].map zF) 14 512 rfl rfl (by simp) ?_;refine dr ?_;trivial
 have hkl:k=w.holds.length:=by omega
 subst hkl;rw [List.take_length];refine dr ?_;repeat ((first|refine oB (by simp; omega) ?_|refine oB (by simp) ?_); first|refine dr ?_|exact dz)
 refine ⟨none,_,_,?_,(),trivial,rfl,rfl⟩;refine dr ?_;repeat (refine oB (by simp) ?_; first|refine dr ?_|exact dz)
 trivial
theorem zpz (W0:World) (w:Wld) (hz:WZ 1000000 w):zw Tryz.prog W0 81 [.c (zB w)] [] (fun _:Unit=>True) (fun _=>wAn 6 w) (fun _=>wMn 6 w) :=
 (((zpA W0 w hz).swp 14 4).swp 624 5).swp 704 6
theorem zbR (W0:World) (w:Wld) (hz:WZ 1000000 w):zw Tryz.prog W0 81 [wAn 6 w] (wMn 6 w) (fun _:Unit=>True) (fun _ => .c (zB w)) (fun _=>wMn 6 w):=by
 refine fW mixed zdD fun hg=>?_
 obtain ⟨hzo,⟨hzl,hzh⟩,hh,hf,hn⟩:=hz;refine dEr ?_;repeat ((first|refine c0 (J5 W0 _ (hzo.mono (by omega))) rfl ?_|refine oB (by simp; omega) ?_|refine oB (by simp) ?_); first|refine dEr ?_|exact dz)
 refine lq (σ:=Nat) (fun k=>[(1,.ptr 16 0),(2,.ptr 32 0),(3,.ptr 48 0),(4,I k)]) (fun k=>[(14,.row ((w.holds.take k).map zf) 1 44),(16,.box (wCo 6 w)),(32,zWB),(48,.box [.c (za w.over.base),.c (zy w.over.layers),.c (ze w.over.upper),I w.clock,I w.count,.c (zv w.leases),.own 14 k,.own 5 w.floors.length,.own 6 w.net.length,B w.waits,I w.op.kind,.c (CS w.op.path),.c (CS w.op.dest),.c (CS w.op.data)])]++wMn 6 w) (fun k=>k≤w.holds.length) (fun k=>w.holds.length - k) 0 (by simp) ?_ ?_
 ·refine zn.trans (z:=some 208) (z':=some 3) (F1:=[(1,.ptr 16 0),(2,.ptr 32 0),(3,.ptr 48 0),(4,I 0)]) (m1:=[(16,.box (wCo 6 w)),(32,zWB),(48,.box [.c (za w.over.base),.c (zy w.over.layers),.c (ze w.over.upper),I w.clock,I w.count,.c (zv w.leases),.nil,.own 5 w.floors.length,.own 6 w.net.length,B w.waits,I w.op.kind,.c (CS w.op.path),.c (CS w.op.dest),.c (CS w.op.data)])]++wMn 6 w) ?_ ?_
  ·refine dr ?_;repeat (refine oB (by simp<;>rfl) ?_; first|refine dr ?_|exact dz)
   trivial
  ·show zj _ _ _ _ _;exact zj.nilB 48 [.c (za w.over.base),.c (zy w.over.layers),.c (ze w.over.upper),I w.clock,I w.count,.c (zv w.leases),.nil,.own 5 w.floors.length,.own 6 w.net.length,B w.waits,I w.op.kind,.c (CS w.op.path),.c (CS w.op.dest),.c (CS w.op.data)] [.c (za w.over.base),.c (zy w.over.layers),.c (ze w.over.upper),I w.clock,I w.count,.c (zv w.leases),.own 14 0,.own 5 w.floors.length,.own 6 w.net.length,B w.waits,I w.op.kind,.c (CS w.op.path),.c (CS w.op.dest),.c (CS w.op.data)] 14 44 rfl rfl ⟨nr0,nr0,nr0,nr0,nr0,nr0,nr1,nr0,nr0,nr0,nr0,nr0,nr0,nr0,trivial⟩
 intro k hk;refine dr ?_;apply cP<;>intro h1
 ·have hk':k < w.holds.length:=by omega
  have hzk:=hzh _ (List.getElem_mem hk');refine dr ?_;repeat ((first|refine oB (by simp; omega) ?_|refine oB (by simp) ?_); first|refine dr ?_|exact dz)
  refine ⟨k+1,by omega,by omega,?_⟩;rw [List.take_succ_eq_append_getElem hk',List.map_append];refine zj.push (C:=(w.holds.take k).map zf) (L:=w.holds[k].map zF) 14 512 rfl rfl (by simp) ?_;refine dr ?_;trivial
 have hkl:k=w.holds.length:=by omega
 subst hkl;rw [List.take_length];refine dr ?_;repeat ((first|refine oB (by simp; omega) ?_|refine oB (by simp) ?_); first|refine dr ?_|exact dz)
 refine ⟨some 3,_,_,?_,(),trivial,rfl,rfl⟩;refine zn.trans (z:=some 14) (z':=some 3) (F1:=[(0,.agg [.c (za w.over.base),.c (zy w.over.layers),.c (ze w.over.upper),I w.clock,I w.count,.c (zv w.leases),.c (jC w.holds),.own 624 w.floors.length,.own 704 w.net.length,B w.waits,I w.op.kind,.c (CS w.op.path),.c (CS w.op.dest),.c (CS w.op.data)])]) (m1:=[(624,.row (w.floors.map CI) 1 3),(704,.row (w.net.map eMsg) 9 67)]++wMn 6 w) ?_ ?_
 ·refine dr ?_;repeat ((first|refine oB (by simp<;>rfl) ?_|refine oB (by simp) ?_); first|refine dr ?_|exact dz)
  trivial
 refine zn.trans (z:=some 624) (z':=some 704) (F1:=[(0,.agg [.c (za w.over.base),.c (zy w.over.layers),.c (ze w.over.upper),I w.clock,I w.count,.c (zv w.leases),.c (jC w.holds),.c (jU w.floors),.own 704 w.net.length,B w.waits,I w.op.kind,.c (CS w.op.path),.c (CS w.op.dest),.c (CS w.op.data)])]) (m1:=[(704,.row (w.net.map eMsg) 9 67)]++wMn 6 w) ?_ ?_
 ·refine dr ?_;repeat ((first|refine oB (by simp<;>rfl) ?_|refine oB (by simp) ?_); first|refine dr ?_|exact dz)
  trivial
 ·refine dr ?_;repeat ((first|refine oB (by simp<;>rfl) ?_|refine oB (by simp) ?_); first|refine dr ?_|exact dz)
  trivial
end Go.Proofs.YtopfccpgdldcdaaGreatDoor

namespace Go.Proofs.YtopfccpgdldcdaaGreatDoor
set_option linter.unusedSimpArgs false
set_option linter.unusedVariables false
open Go Go.RowKit
def zlf:XC:=(.s (.r [.x1 1 0,.ex 2 (.alloc zW)]) (.s (.d [.l2 3 3 1,.c1 4 137 [3],.ex 5 (.mks 1 24 44 (.c (.row [])) (.i 3)),.ex 6 (.mks 1 8 3 (I 0) (.i 3)),.ex 7 (.build zW [(0,(3,4)),(6,(1,5)),(7,(1,6))]),.s1 14 2 7]) .ret))
theorem zlg:zc Tryz.prog [] 90=some (zlf.ac,[(.cell 2 true 14)],8):=by kernel_rfl
theorem zqi (W0:World) (o:Over) (h:OZ 1000000 o):zw Tryz.prog W0 90 [.c (jR o)] [] (fun _:Unit=>True) (fun _ => .agg [.c (za o.base),.c (zy o.layers),.c (ze o.upper),I 0,I 0,.nil,.own 80 3,.own 96 3,.nil,B false,I 0,.c (CS []),.c (CS []),.c (CS [])])
  (fun _=>[(80,.row (([[],[],[]]:List (List Hold)).map zf) 1 44),(96,.row (([0,0,0]:List Int).map CI) 1 3)]):=by
 refine fW mixed zlg fun hg=>?_
 refine dEr ?_;repeat ((first|refine c0 (J5 W0 o h) rfl ?_|refine nE (j:=3) rfl ?_|refine oB (by simp) ?_); first|refine dEr ?_|exact dz)
 refine ⟨none,_,_,?_,(),trivial,rfl,rfl⟩;refine dr ?_;repeat (refine oB (by simp) ?_; first|refine dr ?_|exact dz)
 trivial
theorem zqh (W0:World) (o:Over) (h:OZ 1000000 o):zw Tryz.prog W0 90 [.c (jR o)] [] (fun _:Unit=>True) (fun _ => .agg [.c (za o.base),.c (zy o.layers),.c (ze o.upper),I 0,I 0,.nil,.own 4 3,.own 5 3,.nil,B false,I 0,.c (CS []),.c (CS []),.c (CS [])])
  (fun _=>[(4,.row (([[],[],[]]:List (List Hold)).map zf) 1 44),(5,.row (([0,0,0]:List Int).map CI) 1 3)]):=((zqi W0 o h).swp 80 4).swp 96 5
theorem zj.newB {k0:List Nat} {A:Fr} {m:XM} (bx:Nat) (o:Over) (hb:lkX m bx=some (.box [.c (za o.base),.c (zy o.layers),.c (ze o.upper),I 0,I 0,.nil,.own 4 3,.own 5 3,.nil,B false,I 0,.c (CS []),.c (CS []),.c (CS [])])) (h6:lkX m 6=none) (hne:bx≠6)
  {F2:Fr} {m2:XM} {z:Option Nat} (h:zn k0 z A ((6,.row [] 9 67)::updX (updX m bx (.box [.c (za o.base),.c (zy o.layers),.c (ze o.upper),I 0,I 0,.c (.row []),.own 4 3,.own 5 3,.nil,B false,I 0,.c (CS []),.c (CS []),.c (CS [])])) bx (.box [.c (za o.base),.c (zy o.layers),.c (ze o.upper),I 0,I 0,.c (.row []),.own 4 3,.own 5 3,.own 6 0,B false,I 0,.c (CS []),.c (CS []),.c (CS [])])) F2 m2):zn k0 (some 3) A m F2 m2:=by
 refine zj.trans (z:=some 3) (zj.nilC bx _ [.c (za o.base),.c (zy o.layers),.c (ze o.upper),I 0,I 0,.c (.row []),.own 4 3,.own 5 3,.nil,B false,I 0,.c (CS []),.c (CS []),.c (CS [])] hb ⟨nc0,nc0,nc0,nc0,nc0,nc1,nc0,nc0,nc0,nc0,nc0,nc0,nc0,nc0,trivial⟩) ?_;have key:∀ {m:XM} {b b':XB},lkX m bx=some b→lkX (updX m bx b') bx=some b':=by
  intro m b b' hm;induction m with
  | nil=>cases hm
  | cons p l ih =>
   obtain ⟨k,x⟩:=p;rw [lkX] at hm;rw [updX];cases hk:Nat.beq k bx with
   | true=>simp only [lkX]; rw [Nat.eq_of_beq_eq_true hk]; simp
   | false =>
    have hk':Nat.beq bx k=false:=by
     cases h':Nat.beq bx k with
     | false=>rfl
     | true=>rw [Nat.eq_of_beq_eq_true h'] at hk; simp at hk
    rw [hk'] at hm;simp only [lkX,hk'];exact ih hm
 have key2:∀ {m:XM} {b':XB},lkX m 6=none→lkX (updX m bx b') 6=none:=by
  intro m b' hm;induction m with
  | nil=>rfl
  | cons p l ih =>
   obtain ⟨k,x⟩:=p;rw [lkX] at hm;rw [updX];cases hk6:Nat.beq 6 k with
   | true=>rw [hk6] at hm; cases hm
   | false =>
    rw [hk6] at hm;cases hk:Nat.beq k bx with
    | true=>simp only [lkX,hk6]; exact hm
    | false=>simp only [lkX,hk6]; exact ih hm
 exact zj.trans (zj.nilS bx _ [.c (za o.base),.c (zy o.layers),.c (ze o.upper),I 0,I 0,.c (.row []),.own 4 3,.own 5 3,.own 6 0,B false,I 0,.c (CS []),.c (CS []),.c (CS [])] 6 9 67 (by omega) (key hb) (key2 h6) ⟨nr0,nr0,nr0,nr0,nr0,nr0,nr0,nr0,nr1,nr0,nr0,nr0,nr0,nr0,trivial⟩) h
def eWR (r:Option (Ent × Bool)):CV := .tup [eEnt (r.getD (noE,false)).1,CB (r.getD (noE,false)).2,CB r.isSome]
theorem zhI {w:Wld} {who:Int} {p:Str} (h:¬ (WG w∧isW who)):wRead w who p=none:=by unfold wRead; rw [if_neg h]
theorem ztr {w:Wld} {who:Int} {p:Str} (h:WG w) (h2:isW who):wRead w who p=((hdW w who).find? fun h=>h.path==p&&decide (w.clock < h.til)).map fun h=>(h.ent,h.has):=by unfold wRead; rw [if_pos ⟨h,h2⟩]
theorem zqm {α:Type} {q:α→Bool} {l:List α} {k:Nat} (h:k < l.length) (hn:∀ x∈l.take k,q x=false) (h1:q l[k]=true):l.find? q=some l[k]:=by
 have e:l.find? q=(l.take k++(l[k]::l.drop (k+1))).find? q:=by rw [← List.drop_eq_getElem_cons h,List.take_append_drop]
 have e2:(l.take k).find? q=none:=List.find?_eq_none.2 fun x hx=>by rw [hn x hx]; simp
 rw [e,List.find?_append,e2,List.find?_cons,h1]; rfl
theorem zeN {α:Type} {q:α→Bool} {l:List α} (hn:∀ x∈l,q x=false):l.find? q=none:=List.find?_eq_none.2 fun x hx=>by rw [hn x hx]; simp
theorem zcw {α:Type} {q:α→Bool} {l:List α} {k:Nat} (h:k < l.length) (hn:∀ x∈l.take k,q x=false) (h1:q l[k]=false):∀ x∈l.take (k+1),q x=false:=fun x hx=>by
 rw [List.take_succ_eq_append_getElem h] at hx;rcases List.mem_append.1 hx with h' | h'
 ·exact hn x h'
 ·rw [List.mem_singleton.1 h']; exact h1
def zlb:XC:=(.s (.r [.x1 2 0,.x1 3 1,.a2 4 4 59]) (.s (.s (.r [.l2 5 14 2,.c1 6 15 [5],.u1 7 6]) (.cnd 7 (.s (.r [.ex 8 .bsl0,.a1 4 8 4 59]) .ret) .skip)) (.s (.r [.l2 9 14 2,.l2 10 4 3,.c1 11 41 [9,10],.a1 4 11 4 59]) .ret)))
theorem zlc:zc Tryz.prog [] 14=some (zlb.ac,[(.t 4)],12):=by kernel_rfl
theorem zeB (W0:World) (w:Wld) (op:Op) (hl:w.leases.length≤1000000):Fn Tryz.prog W0 14 [zB w,eOp op] (.c (zv (wBars w op))) []:=by
 refine fX mixed zlc fun hg=>?_
 refine dEr ?_;repeat (refine c0 (zaj W0 w) rfl ?_; first|refine dEr ?_|exact dz)
 apply cP<;>intro h1
 ·refine dr ?_;unfold wBars; rw [if_neg h1]<;>rfl
 ·refine dEr ?_;repeat (refine c0 (zpu W0 w op hl) rfl ?_; first|refine dEr ?_|exact dz)
  unfold wBars; rw [if_pos h1]<;>rfl
end Go.Proofs.YtopfccpgdldcdaaGreatDoor

namespace Go.Proofs
open Go.Shelf
def Tryz.lays156_ren:Go.Shelf.Ren:=⟨fun | 156=>196 | 165=>225 | 166=>226 | 169=>227 | 240=>241 | 241=>242 | 276=>257 | 277=>258 | n=>n,fun | 31=>56 | 9=>9 | 3=>3 | 4=>4 | 0=>0 | 20=>20 | 72=>211 | 76=>215 | 70=>209 | 37=>22 | 75=>214 | 127=>228 | 164=>237 | 5=>5 | 80=>217 | n=>n,fun | n=>n⟩
theorem Tryz.lays156:Go.Proofs.Lays.n156 Tryz.prog Tryz.lays156_ren:={
 mixed:=by kernel_rfl
 f156:=Tryz.func196.trans (congrArg some (by kernel_rfl))
 f165:=Tryz.func225.trans (congrArg some (by kernel_rfl))
 f166:=Tryz.func226.trans (congrArg some (by kernel_rfl))
 f169:=Tryz.func227.trans (congrArg some (by kernel_rfl))
 f240:=Tryz.func241.trans (congrArg some (by kernel_rfl))
 f241:=Tryz.func242.trans (congrArg some (by kernel_rfl))
 f276:=Tryz.func257.trans (congrArg some (by kernel_rfl))
 f277:=Tryz.func258.trans (congrArg some (by kernel_rfl))
 t0:=Tryz.underlying0
 a0:=Tryz.isAgg0
 z0:=Tryz.sizeOf0
 v0:=Tryz.zeroValue0
 t3:=Tryz.underlying3
 a3:=Tryz.isAgg3
 z3:=Tryz.sizeOf3
 v3:=Tryz.zeroValue3
 t4:=Tryz.underlying4
 a4:=Tryz.isAgg4
 z4:=Tryz.sizeOf4
 v4:=Tryz.zeroValue4
 t9:=Tryz.underlying9
 a9:=Tryz.isAgg9
 z9:=Tryz.sizeOf9
 v9:=Tryz.zeroValue9
 t20:=Tryz.underlying20
 a20:=Tryz.isAgg20
 z20:=Tryz.sizeOf20
 v20:=Tryz.zeroValue20
 t31:=Tryz.underlying56
 a31:=Tryz.isAgg56
 z31:=Tryz.sizeOf56
 v31:=Tryz.zeroValue56
 t37:=Tryz.underlying22
 a37:=Tryz.isAgg22
 z37:=Tryz.sizeOf22
 v37:=Tryz.zeroValue22
 t70:=Tryz.underlying209
 a70:=Tryz.isAgg209
 z70:=Tryz.sizeOf209
 v70:=Tryz.zeroValue209
 t72:=Tryz.underlying211
 a72:=Tryz.isAgg211
 z72:=Tryz.sizeOf211
 v72:=Tryz.zeroValue211
 t75:=Tryz.underlying214
 a75:=Tryz.isAgg214
 z75:=Tryz.sizeOf214
 v75:=Tryz.zeroValue214
 t76:=Tryz.underlying215
 a76:=Tryz.isAgg215
 z76:=Tryz.sizeOf215
 v76:=Tryz.zeroValue215
 t127:=Tryz.underlying228
 a127:=Tryz.isAgg228
 z127:=Tryz.sizeOf228
 v127:=Tryz.zeroValue228
 t164:=Tryz.underlying237
 a164:=Tryz.isAgg237
 z164:=Tryz.sizeOf237
 v164:=Tryz.zeroValue237 }
theorem Tryz.Builder_Extra_156:Builder.Extra Tryz.prog Tryz.lays156_ren:={
 sizeBuilder:=by kernel_rfl
 liesBuilder:=by kernel_rfl
 t5:=Tryz.underlying5
 a5:=Tryz.isAgg5
 z5:=Tryz.sizeOf5
 v5:=Tryz.zeroValue5
 infoByte:=by kernel_rfl
 cellsByte:=by kernel_rfl
 sizeByte:=by kernel_rfl
 neB5:=by decide }
open Go.RowKit in
theorem Tryz.strings_Join_none (a:Option Addr) (c:Nat) (sep:ByteArray) (w:World) :
  Calls Tryz.prog 196 #[.slice a 0 c,.string sep] w fun e w'=>e = .returned (.string ⟨#[]⟩)∧w'=w:=Any.strings_Join_none Tryz.lays156 Tryz.Builder_Extra_156 a c sep w
open Go.RowKit in
theorem Tryz.strings_Join (bk o c:Nat) (xs:List ByteArray) (sep:ByteArray) (w:World) (hcells:∀ (j:Nat) x,xs[j]? = some x→w.cell? ⟨bk,o+j,none⟩=some (.string x)) (hbk:bk < w.heap.size) (hN:xs.length≤140737488355328) (hcap:xs.length≤c) (hlen:(Lib.join (xs.map (·.data.toList)) sep.data.toList).length≤140737488355328) :
  Calls Tryz.prog 196 #[.slice (some ⟨bk,o,none⟩) xs.length c,.string sep] w fun e w'=>e = .returned (.string ⟨(Lib.join (xs.map (·.data.toList)) sep.data.toList).toArray⟩)∧Below w.heap.size w w':=Any.strings_Join Tryz.lays156 Tryz.Builder_Extra_156 bk o c xs sep w hcells hbk hN hcap hlen
def Tryz.lays146_ren:Go.Shelf.Ren:=⟨fun | 146=>128 | 221=>172 | 268=>210 | 138=>211 | 143=>212 | 195=>234 | 197=>235 | 218=>236 | 219=>237 | 260=>252 | 217=>253 | 225=>254 | 224=>255 | 267=>256 | 266=>262 | 314=>263 | n=>n,fun | 9=>9 | 31=>56 | 3=>3 | 4=>4 | 0=>0 | 105=>225 | 21=>21 | 5=>5 | 46=>172 | 119=>242 | 139=>245 | 138=>244 | 146=>246 | 51=>197 | n=>n,fun | 1=>0 | 3=>1 | 4=>2 | n=>n⟩
theorem Tryz.lays146:Go.Proofs.Lays.n146 Tryz.prog Tryz.lays146_ren:={
 mixed:=by kernel_rfl
 f138:=Tryz.func211.trans (congrArg some (by kernel_rfl))
 f143:=Tryz.func212.trans (congrArg some (by kernel_rfl))
 f146:=Tryz.func128.trans (congrArg some (by kernel_rfl))
 f195:=Tryz.func234.trans (congrArg some (by kernel_rfl))
 f197:=Tryz.func235.trans (congrArg some (by kernel_rfl))
 f217:=Tryz.func253.trans (congrArg some (by kernel_rfl))
 f218:=Tryz.func236.trans (congrArg some (by kernel_rfl))
 f219:=Tryz.func237.trans (congrArg some (by kernel_rfl))
 f221:=Tryz.func172.trans (congrArg some (by kernel_rfl))
 f224:=Tryz.func255.trans (congrArg some (by kernel_rfl))
 f225:=Tryz.func254.trans (congrArg some (by kernel_rfl))
 f260:=Tryz.func252.trans (congrArg some (by kernel_rfl))
 f266:=Tryz.func262.trans (congrArg some (by kernel_rfl))
 f267:=Tryz.func256.trans (congrArg some (by kernel_rfl))
 f268:=Tryz.func210.trans (congrArg some (by kernel_rfl))
 f314:=Tryz.func263.trans (congrArg some (by kernel_rfl))
 t0:=Tryz.underlying0
 a0:=Tryz.isAgg0
 z0:=Tryz.sizeOf0
 v0:=Tryz.zeroValue0
 t3:=Tryz.underlying3
 a3:=Tryz.isAgg3
 z3:=Tryz.sizeOf3
 v3:=Tryz.zeroValue3
 t4:=Tryz.underlying4
 a4:=Tryz.isAgg4
 z4:=Tryz.sizeOf4
 v4:=Tryz.zeroValue4
 t5:=Tryz.underlying5
 a5:=Tryz.isAgg5
 z5:=Tryz.sizeOf5
 v5:=Tryz.zeroValue5
 t9:=Tryz.underlying9
 a9:=Tryz.isAgg9
 z9:=Tryz.sizeOf9
 v9:=Tryz.zeroValue9
 t21:=Tryz.underlying21
 a21:=Tryz.isAgg21
 z21:=Tryz.sizeOf21
 v21:=Tryz.zeroValue21
 t31:=Tryz.underlying56
 a31:=Tryz.isAgg56
 z31:=Tryz.sizeOf56
 v31:=Tryz.zeroValue56
 t46:=Tryz.underlying172
 a46:=Tryz.isAgg172
 z46:=Tryz.sizeOf172
 v46:=Tryz.zeroValue172
 t51:=Tryz.underlying197
 a51:=Tryz.isAgg197
 z51:=Tryz.sizeOf197
 v51:=Tryz.zeroValue197
 t105:=Tryz.underlying225
 a105:=Tryz.isAgg225
 z105:=Tryz.sizeOf225
 v105:=Tryz.zeroValue225
 t119:=Tryz.underlying242
 a119:=Tryz.isAgg242
 z119:=Tryz.sizeOf242
 t138:=Tryz.underlying244
 a138:=Tryz.isAgg244
 z138:=Tryz.sizeOf244
 v138:=Tryz.zeroValue244
 t139:=Tryz.underlying245
 a139:=Tryz.isAgg245
 z139:=Tryz.sizeOf245
 v139:=Tryz.zeroValue245
 t146:=Tryz.underlying246
 a146:=Tryz.isAgg246
 z146:=Tryz.sizeOf246
 v146:=Tryz.zeroValue246
 g1:=by kernel_rfl
 g3:=by kernel_rfl
 g4:=by kernel_rfl }
open Go.RowKit Go.Lib in
theorem Tryz.strings_Split (s sep:ByteArray) (m:Int) (w:World) (hs:s.size < 4294967281) (hm:w.cell? ⟨0,0,none⟩=some (.int .i64 m)) (h1:1≤sep.size) :
  Calls Tryz.prog 128 #[.string s,.string sep] w fun e w' =>
   e = .returned (.slice (some ⟨w.heap.size,0,none⟩) (Lib.countB s sep+1) (Lib.countB s sep+1))∧w'=w.alloc (.cells ((Lib.splitB sep 0 (Lib.countB s sep) s).map Value.string).toArray 9):=Any.strings_Split Tryz.lays146 (by kernel_rfl) s sep m w hs hm h1
def Tryz.sortE_ren:Go.Shelf.Ren:=⟨fun | 6=>125 | 15=>170 | 14=>169 | 28=>208 | 29=>209 | 20=>200 | 21=>201 | 22=>202 | 23=>203 | 24=>204 | 25=>205 | 26=>206 | 27=>207 | 46=>229 | 47=>230 | 48=>231 | 49=>232 | 50=>233 | 57=>251 | n=>n,fun | 22=>23 | 24=>46 | 25=>141 | 3=>3 | 39=>172 | 0=>0 | 53=>197 | 55=>199 | 4=>4 | 46=>190 | 45=>189 | 50=>194 | 5=>5 | 9=>9 | 66=>219 | 70=>223 | 76=>234 | 77=>235 | n=>n,fun | n=>n⟩
theorem Tryz.sortE:Go.Proofs.SlLaysF0.n6 Tryz.prog Tryz.sortE_ren:={
 mixed:=by kernel_rfl
 f6:=⟨Tryz.f125.name,by decide,Tryz.func125.trans (congrArg some (by kernel_rfl))⟩
 f14:=⟨Tryz.f169.name,by decide,Tryz.func169.trans (congrArg some (by kernel_rfl))⟩
 f15:=Tryz.func170.trans (congrArg some (by kernel_rfl))
 f20:=⟨Tryz.f200.name,by decide,Tryz.func200.trans (congrArg some (by kernel_rfl))⟩
 f21:=⟨Tryz.f201.name,by decide,Tryz.func201.trans (congrArg some (by kernel_rfl))⟩
 f22:=⟨Tryz.f202.name,by decide,Tryz.func202.trans (congrArg some (by kernel_rfl))⟩
 f23:=⟨Tryz.f203.name,by decide,Tryz.func203.trans (congrArg some (by kernel_rfl))⟩
 f24:=⟨Tryz.f204.name,by decide,Tryz.func204.trans (congrArg some (by kernel_rfl))⟩
 f25:=⟨Tryz.f205.name,by decide,Tryz.func205.trans (congrArg some (by kernel_rfl))⟩
 f26:=⟨Tryz.f206.name,by decide,Tryz.func206.trans (congrArg some (by kernel_rfl))⟩
 f27:=⟨Tryz.f207.name,by decide,Tryz.func207.trans (congrArg some (by kernel_rfl))⟩
 f28:=Tryz.func208.trans (congrArg some (by kernel_rfl))
 f29:=Tryz.func209.trans (congrArg some (by kernel_rfl))
 f46:=⟨Tryz.f229.name,by decide,Tryz.func229.trans (congrArg some (by kernel_rfl))⟩
 f47:=Tryz.func230.trans (congrArg some (by kernel_rfl))
 f48:=Tryz.func231.trans (congrArg some (by kernel_rfl))
 f49:=⟨Tryz.f232.name,by decide,Tryz.func232.trans (congrArg some (by kernel_rfl))⟩
 f50:=⟨Tryz.f233.name,by decide,Tryz.func233.trans (congrArg some (by kernel_rfl))⟩
 f57:=⟨Tryz.f251.name,by decide,Tryz.func251.trans (congrArg some (by kernel_rfl))⟩
 t0:=Tryz.underlying0
 a0:=Tryz.isAgg0
 z0:=Tryz.sizeOf0
 v0:=Tryz.zeroValue0
 t3:=Tryz.underlying3
 a3:=Tryz.isAgg3
 z3:=Tryz.sizeOf3
 v3:=Tryz.zeroValue3
 t4:=Tryz.underlying4
 a4:=Tryz.isAgg4
 z4:=Tryz.sizeOf4
 v4:=Tryz.zeroValue4
 t5:=Tryz.underlying5
 a5:=Tryz.isAgg5
 z5:=Tryz.sizeOf5
 v5:=Tryz.zeroValue5
 t9:=Tryz.underlying9
 a9:=Tryz.isAgg9
 z9:=Tryz.sizeOf9
 v9:=Tryz.zeroValue9
 t22:=Tryz.underlying23
 a22:=Tryz.isAgg23
 z22:=Tryz.sizeOf23
 v22:=Tryz.zeroValue23
 t25:=Tryz.underlying141
 a25:=Tryz.isAgg141
 z25:=Tryz.sizeOf141
 v25:=Tryz.zeroValue141
 t39:=Tryz.underlying172
 a39:=Tryz.isAgg172
 z39:=Tryz.sizeOf172
 v39:=Tryz.zeroValue172
 t45:=Tryz.underlying189
 a45:=Tryz.isAgg189
 z45:=Tryz.sizeOf189
 v45:=Tryz.zeroValue189
 t46:=Tryz.underlying190
 a46:=Tryz.isAgg190
 z46:=Tryz.sizeOf190
 v46:=Tryz.zeroValue190
 t50:=Tryz.underlying194
 a50:=Tryz.isAgg194
 z50:=Tryz.sizeOf194
 v50:=Tryz.zeroValue194
 t53:=Tryz.underlying197
 a53:=Tryz.isAgg197
 z53:=Tryz.sizeOf197
 v53:=Tryz.zeroValue197
 t55:=Tryz.underlying199
 a55:=Tryz.isAgg199
 z55:=Tryz.sizeOf199
 v55:=Tryz.zeroValue199
 t66:=Tryz.underlying219
 a66:=Tryz.isAgg219
 z66:=Tryz.sizeOf219
 v66:=Tryz.zeroValue219
 t70:=Tryz.underlying223
 a70:=Tryz.isAgg223
 z70:=Tryz.sizeOf223
 v70:=Tryz.zeroValue223
 t76:=Tryz.underlying234
 a76:=Tryz.isAgg234
 z76:=Tryz.sizeOf234
 v76:=Tryz.zeroValue234
 t77:=Tryz.underlying235
 a77:=Tryz.isAgg235
 z77:=Tryz.sizeOf235
 v77:=Tryz.zeroValue235 }
def Tryz.sortM_ren:Go.Shelf.Ren:=⟨fun | 6=>197 | 15=>170 | 14=>228 | 28=>208 | 29=>209 | 20=>243 | 21=>244 | 22=>245 | 23=>246 | 24=>247 | 25=>248 | 26=>249 | 27=>250 | 46=>259 | 47=>230 | 48=>231 | 49=>260 | 50=>261 | 57=>264 | n=>n,fun | 22=>25 | 24=>148 | 25=>187 | 3=>3 | 39=>172 | 0=>0 | 53=>197 | 55=>199 | 4=>4 | 46=>190 | 45=>189 | 50=>194 | 5=>5 | 9=>9 | 66=>219 | 70=>223 | 76=>234 | 77=>235 | n=>n,fun | n=>n⟩
theorem Tryz.sortM:Go.Proofs.SlLaysF0.n6 Tryz.prog Tryz.sortM_ren:={
 mixed:=by kernel_rfl
 f6:=⟨Tryz.f197.name,by decide,Tryz.func197.trans (congrArg some (by kernel_rfl))⟩
 f14:=⟨Tryz.f228.name,by decide,Tryz.func228.trans (congrArg some (by kernel_rfl))⟩
 f15:=Tryz.func170.trans (congrArg some (by kernel_rfl))
 f20:=⟨Tryz.f243.name,by decide,Tryz.func243.trans (congrArg some (by kernel_rfl))⟩
 f21:=⟨Tryz.f244.name,by decide,Tryz.func244.trans (congrArg some (by kernel_rfl))⟩
 f22:=⟨Tryz.f245.name,by decide,Tryz.func245.trans (congrArg some (by kernel_rfl))⟩
 f23:=⟨Tryz.f246.name,by decide,Tryz.func246.trans (congrArg some (by kernel_rfl))⟩
 f24:=⟨Tryz.f247.name,by decide,Tryz.func247.trans (congrArg some (by kernel_rfl))⟩
 f25:=⟨Tryz.f248.name,by decide,Tryz.func248.trans (congrArg some (by kernel_rfl))⟩
 f26:=⟨Tryz.f249.name,by decide,Tryz.func249.trans (congrArg some (by kernel_rfl))⟩
 f27:=⟨Tryz.f250.name,by decide,Tryz.func250.trans (congrArg some (by kernel_rfl))⟩
 f28:=Tryz.func208.trans (congrArg some (by kernel_rfl))
 f29:=Tryz.func209.trans (congrArg some (by kernel_rfl))
 f46:=⟨Tryz.f259.name,by decide,Tryz.func259.trans (congrArg some (by kernel_rfl))⟩
 f47:=Tryz.func230.trans (congrArg some (by kernel_rfl))
 f48:=Tryz.func231.trans (congrArg some (by kernel_rfl))
 f49:=⟨Tryz.f260.name,by decide,Tryz.func260.trans (congrArg some (by kernel_rfl))⟩
 f50:=⟨Tryz.f261.name,by decide,Tryz.func261.trans (congrArg some (by kernel_rfl))⟩
 f57:=⟨Tryz.f264.name,by decide,Tryz.func264.trans (congrArg some (by kernel_rfl))⟩
 t0:=Tryz.underlying0
 a0:=Tryz.isAgg0
 z0:=Tryz.sizeOf0
 v0:=Tryz.zeroValue0
 t3:=Tryz.underlying3
 a3:=Tryz.isAgg3
 z3:=Tryz.sizeOf3
 v3:=Tryz.zeroValue3
 t4:=Tryz.underlying4
 a4:=Tryz.isAgg4
 z4:=Tryz.sizeOf4
 v4:=Tryz.zeroValue4
 t5:=Tryz.underlying5
 a5:=Tryz.isAgg5
 z5:=Tryz.sizeOf5
 v5:=Tryz.zeroValue5
 t9:=Tryz.underlying9
 a9:=Tryz.isAgg9
 z9:=Tryz.sizeOf9
 v9:=Tryz.zeroValue9
 t22:=Tryz.underlying25
 a22:=Tryz.isAgg25
 z22:=Tryz.sizeOf25
 v22:=Tryz.zeroValue25
 t25:=Tryz.underlying187
 a25:=Tryz.isAgg187
 z25:=Tryz.sizeOf187
 v25:=Tryz.zeroValue187
 t39:=Tryz.underlying172
 a39:=Tryz.isAgg172
 z39:=Tryz.sizeOf172
 v39:=Tryz.zeroValue172
 t45:=Tryz.underlying189
 a45:=Tryz.isAgg189
 z45:=Tryz.sizeOf189
 v45:=Tryz.zeroValue189
 t46:=Tryz.underlying190
 a46:=Tryz.isAgg190
 z46:=Tryz.sizeOf190
 v46:=Tryz.zeroValue190
 t50:=Tryz.underlying194
 a50:=Tryz.isAgg194
 z50:=Tryz.sizeOf194
 v50:=Tryz.zeroValue194
 t53:=Tryz.underlying197
 a53:=Tryz.isAgg197
 z53:=Tryz.sizeOf197
 v53:=Tryz.zeroValue197
 t55:=Tryz.underlying199
 a55:=Tryz.isAgg199
 z55:=Tryz.sizeOf199
 v55:=Tryz.zeroValue199
 t66:=Tryz.underlying219
 a66:=Tryz.isAgg219
 z66:=Tryz.sizeOf219
 v66:=Tryz.zeroValue219
 t70:=Tryz.underlying223
 a70:=Tryz.isAgg223
 z70:=Tryz.sizeOf223
 v70:=Tryz.zeroValue223
 t76:=Tryz.underlying234
 a76:=Tryz.isAgg234
 z76:=Tryz.sizeOf234
 v76:=Tryz.zeroValue234
 t77:=Tryz.underlying235
 a77:=Tryz.isAgg235
 z77:=Tryz.sizeOf235
 v77:=Tryz.zeroValue235 }
def Tryz.delLease_ren:Go.Shelf.Ren:=⟨fun | 45=>160 | n=>n,fun | 22=>28 | 23=>59 | 3=>3 | 4=>4 | 0=>0 | n=>n,fun | n=>n⟩
theorem Tryz.delLease:Go.Proofs.SlLaysE0.n45 Tryz.prog Tryz.delLease_ren:={
 mixed:=by kernel_rfl
 f45:=⟨Tryz.f160.name,by decide,Tryz.func160.trans (congrArg some (by kernel_rfl))⟩
 t0:=Tryz.underlying0
 a0:=Tryz.isAgg0
 z0:=Tryz.sizeOf0
 v0:=Tryz.zeroValue0
 t3:=Tryz.underlying3
 a3:=Tryz.isAgg3
 z3:=Tryz.sizeOf3
 v3:=Tryz.zeroValue3
 t4:=Tryz.underlying4
 a4:=Tryz.isAgg4
 z4:=Tryz.sizeOf4
 v4:=Tryz.zeroValue4
 t22:=Tryz.underlying28
 a22:=Tryz.isAgg28
 z22:=Tryz.sizeOf28
 v22:=Tryz.zeroValue28 }
def Tryz.delHold_ren:Go.Shelf.Ren:=⟨fun | 45=>161 | n=>n,fun | 22=>44 | 23=>48 | 3=>3 | 4=>4 | 0=>0 | n=>n,fun | n=>n⟩
theorem Tryz.delHold:Go.Proofs.SlLaysE0.n45 Tryz.prog Tryz.delHold_ren:={
 mixed:=by kernel_rfl
 f45:=⟨Tryz.f161.name,by decide,Tryz.func161.trans (congrArg some (by kernel_rfl))⟩
 t0:=Tryz.underlying0
 a0:=Tryz.isAgg0
 z0:=Tryz.sizeOf0
 v0:=Tryz.zeroValue0
 t3:=Tryz.underlying3
 a3:=Tryz.isAgg3
 z3:=Tryz.sizeOf3
 v3:=Tryz.zeroValue3
 t4:=Tryz.underlying4
 a4:=Tryz.isAgg4
 z4:=Tryz.sizeOf4
 v4:=Tryz.zeroValue4
 t22:=Tryz.underlying44
 a22:=Tryz.isAgg44
 z22:=Tryz.sizeOf44
 v22:=Tryz.zeroValue44 }
def Tryz.delMsg_ren:Go.Shelf.Ren:=⟨fun | 45=>107 | n=>n,fun | 22=>31 | 23=>67 | 3=>3 | 4=>4 | 0=>0 | n=>n,fun | n=>n⟩
theorem Tryz.delMsg:Go.Proofs.SlLaysE0.n45 Tryz.prog Tryz.delMsg_ren:={
 mixed:=by kernel_rfl
 f45:=⟨Tryz.f107.name,by decide,Tryz.func107.trans (congrArg some (by kernel_rfl))⟩
 t0:=Tryz.underlying0
 a0:=Tryz.isAgg0
 z0:=Tryz.sizeOf0
 v0:=Tryz.zeroValue0
 t3:=Tryz.underlying3
 a3:=Tryz.isAgg3
 z3:=Tryz.sizeOf3
 v3:=Tryz.zeroValue3
 t4:=Tryz.underlying4
 a4:=Tryz.isAgg4
 z4:=Tryz.sizeOf4
 v4:=Tryz.zeroValue4
 t22:=Tryz.underlying31
 a22:=Tryz.isAgg31
 z22:=Tryz.sizeOf31
 v22:=Tryz.zeroValue31 }
def Tryz.idxLease_ren:Go.Shelf.Ren:=⟨fun | 6=>159 | n=>n,fun | 22=>28 | 23=>59 | 25=>128 | 3=>3 | 0=>0 | 4=>4 | n=>n,fun | n=>n⟩
theorem Tryz.idxLease:Go.Proofs.SlLaysH0.n6 Tryz.prog Tryz.idxLease_ren:={
 mixed:=by kernel_rfl
 f6:=⟨Tryz.f159.name,by decide,Tryz.func159.trans (congrArg some (by kernel_rfl))⟩
 t0:=Tryz.underlying0
 a0:=Tryz.isAgg0
 z0:=Tryz.sizeOf0
 v0:=Tryz.zeroValue0
 t3:=Tryz.underlying3
 a3:=Tryz.isAgg3
 z3:=Tryz.sizeOf3
 v3:=Tryz.zeroValue3
 t4:=Tryz.underlying4
 a4:=Tryz.isAgg4
 z4:=Tryz.sizeOf4
 v4:=Tryz.zeroValue4
 t22:=Tryz.underlying28
 a22:=Tryz.isAgg28
 z22:=Tryz.sizeOf28
 v22:=Tryz.zeroValue28
 t25:=Tryz.underlying128
 a25:=Tryz.isAgg128
 z25:=Tryz.sizeOf128
 v25:=Tryz.zeroValue128 }
end Go.Proofs
