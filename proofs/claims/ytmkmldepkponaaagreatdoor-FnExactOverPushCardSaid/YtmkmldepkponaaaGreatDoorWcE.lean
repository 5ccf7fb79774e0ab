/- The texts Lx5, joined; no condition. -/
import Derived.Test.YtmkmldepkponaaaGreatDoorWcD

namespace Go.Proofs.YtmkmldepkponaaaGreatDoor
set_option linter.unusedSimpArgs false
set_option linter.unusedVariables false
open Go Go.RowKit
def zhE:XC:=(.s (.r [.x1 1 0,.m1 2 .n]) (.s (.r [.m1 3 (.i 1048576)]) (.s (.r [.l2 14 3 1,.mv 15 3,.c1 16 17 [14,15],.mv 3 16]) (.s (.s (.r [.mv 17 3,.b1 18 .lss 17 (.i 0)]) (.cnd 18 (.rt 2) .skip)) (.s (.r [.l2 20 3 1,.o1 21 19 [20],.c1 22 33 [21],.mv 19 22,.e1 23 19 0,.e1 24 19 1,.ex 4 (.alloc [.nil,.nil,.nil]),.s1 3 4 23,.mv 5 24]) (.cut (.r [.l2 25 3 1,.o1 26 19 [25],.ex 6 (.alloc [.nil,.nil,.nil]),.s1 3 6 26]) (.cut (.r [.l2 28 3 6,.o1 29 34 [28],.mv 27 29,.e1 30 27 0,.e1 31 27 1,.ex 7 (.alloc [.nil,.nil,.nil]),.s1 3 7 30,.mv 8 31]) (.s (.s (.r [.l2 32 3 7,.l2 33 3 4,.c1 34 22 [32,33],.u1 35 34,.mv 36 35,.h3 37 8 36,.h3 38 5 36,.gf 39 (.bb true 37 38) 36,.p1 40 36 39]) (.cnd 40 (.rf 2) .skip)) (.s (.s (.d [.exl 41 (.ld true 3 6),.exl 42 (.ld true 3 1),.exl 43 (.opn 19 [42]),.c1 44 22 [41,43],.u1 45 44]) (.cnd 45 (.rf 2) .skip)) (.s (.r [.m1 9 (.i 1)]) (.cut (.r [.l2 46 3 6,.mv 47 9,.o1 48 23 [46,47],.mv 9 48]) (.s (.s (.r [.mv 49 9,.b1 50 .lss 49 (.i 0),.mv 51 50,.gf 52 (.ld true 3 7) 51,.gf 53 (.ld true 3 4) 51,.gf 54 (.call 22 [52,53]) 51,.gf 55 (.un .not 54) 51,.p1 56 51 55,.mv 57 56,.h3 58 8 57,.h3 59 5 57,.gf 60 (.bb true 58 59) 57,.p1 61 57 60]) (.cnd 61 (.rf 2) .skip)) (.s (.r [.m1 10 (.i 1)]) (.cut (.r [.l2 62 3 7,.mv 63 10,.o1 64 23 [62,63],.mv 10 64]) (.s (.r [.m1 11 (.i 1)]) (.s (.r [.l2 65 3 7,.mv 66 11,.c1 67 30 [65,66],.mv 11 67]) (.s (.s (.r [.mv 68 11,.b1 69 .lss 68 (.i 0)]) (.cnd 69 (.rf 2) .skip)) (.s (.s (.r [.mv 70 11,.mv 71 10,.b1 72 .neq 70 71]) (.cnd 72 (.rf 2) .skip)) (.cut (.r [.l2 74 3 1,.o1 75 19 [74],.o1 76 34 [75],.mv 73 76,.e1 77 73 0,.e1 78 73 1,.ex 12 (.alloc [.nil,.nil,.nil]),.s1 3 12 77,.mv 13 78]) (.s (.s (.r [.l2 79 3 12,.l2 80 3 4,.c1 81 22 [79,80],.u1 82 81,.mv 83 82,.h3 84 13 83,.h3 85 5 83,.gf 86 (.bb true 84 85) 83,.p1 87 83 86]) (.cnd 87 (.rf 2) .skip)) (.s (.r [.m1 11 (.i 1)]) (.s (.r [.l2 88 3 7,.mv 89 11,.c1 90 30 [88,89],.mv 11 90]) (.s (.s (.r [.mv 91 11,.b1 92 .lss 91 (.i 0)]) (.cnd 92 (.rf 2) .skip)) (.s (.s (.r [.mv 93 11,.mv 94 10,.b1 95 .neq 93 94]) (.cnd 95 (.rf 2) .skip)) (.rt 2)))))))))))))))))))))))))
theorem zhF:zj Tryz.prog [19,34,23] 8=some (zhE.ac,[(.t 2)],96):=by kernel_rfl
theorem zkj (W0:World) (hs:W0.ShapedOpen Tryz.prog) (a:Over):Fn Tryz.prog W0 8 [zA a] (.c (CB true)) []:=by
 have hM:=zaV hs;refine fX' mixed zhF fun hg=>?_
 have z1:=@zb3 a 1048576 (by omega);refine dEr ?_;repeat (refine c0 (zaG W0 a _ (by omega)) rfl ?_; first|refine dEr ?_|exact dz)
 apply cP<;>intro h1
 ·exact dz
 have fa:=zb2 (by omega) (by omega) h1;have qt:=zaH W0 a fa.h1 fa.h2 fa.h3 fa.h4;have qs:=zk3 W0 a;have qi:=zkC W0 hM a;have qo:=zaI W0 a fa.h1 fa.h2 fa.h3 fa.h4;have qv:∀ u:Over,Fn Tryz.prog W0 22 [zA u,zA u] (.c (CB true)) []:=fun u=>by
  have:=zaz W0 u u
  rwa [show decide (u=u)=true by simp] at this
 have hmk:mkK 1 a≤100000000:=by have:=@zbe a 1048576 1 (by omega) h1; omega
 have hmk0:=@Jr 1 a;have qm:=Q9 W0 1 a ⟨by omega,hmk⟩ fa.h1 fa.h2 fa.h3 fa.h4;obtain ⟨M7,v7⟩:=ovV 7 a (by omega);rw [← v7.e] at qo qm;generalize hw:jV a=wb at *;obtain ⟨w,b⟩:=wb;rw [show eOB (w,b) = .tup [zA w,CB b] from rfl] at qs qi;refine dEr ?_;repeat ((first|refine oN qt rfl ?_|refine c0 qs rfl ?_); first|refine dEr ?_|exact dz)
 refine z7 (σ:=Unit) 3 (fun _=>[(1,.ptr 16 0),(2,B false),(4,.ptr 64 0),(5,B b),(6,.ptr 96 0)])
  (fun _=>(16,zg a)::(64,zg w)::(96,zx 7 a)::M7) (fun _=>True) ?_ ?_
 ·refine dr ?_;refine oF (cs:=[zA a]) qo rfl rfl rfl ⟨(),trivial⟩ fun _ _=>⟨rfl,?_,?_⟩
  ·rw [v7.e];exact Zo rfl rfl rfl fun i=>by show lkX [_,_] _=none; rw [zb (by simp<;>omega),zb (by simp<;>omega)]; rfl
  refine dEr ?_;repeat (refine fT (frX1 ((v7.skip (id:=96) (by decide)).trans rfl)) ?_; first|refine dEr ?_|exact dz)
  refine ⟨(),trivial,?_⟩;refine zr.ls ⟨rfl,rfl,rfl,rfl,rfl,trivial⟩ ⟨(zb (by decide)).trans ((v7.skip (id:=16) (by decide)).trans rfl),(zb (by decide)).trans ((v7.skip (id:=64) (by decide)).trans rfl),rfl,v7.mmS (v7.ap.cons (by decide))⟩ (fun id h=>by cases h)
   (zd rfl (zd rfl (zd (((v7.self.cons (by decide)).cons (by decide)).cons (by decide)).inBox (v7.inB (((v7.self.cons (by decide)).cons (by decide)).cons (by decide)))))) rfl
 intro _ _;cases ho:oOk a with
 | false =>
  rw [jV,if_neg (by simp [ho])] at hw;cases hw;have l7:LkO 7 a ((16,zg a)::(64,zg noO)::(96,zx 7 a)::M7):=((v7.self.cons (by decide)).cons (by decide)).cons (by decide);have t7:LkO 7 a ((16,zg a)::(64,zg noO)::(96,zx 7 a)::(112,zg noO)::M7):=(((v7.self.cons (by decide)).cons (by decide)).cons (by decide)).cons (by decide);refine z7 (σ:=Unit) 3 (fun _=>[(1,.ptr 16 0),(2,B false),(4,.ptr 64 0),(5,B false),(6,.ptr 96 0),(7,.ptr 112 0),(8,B false)])
   (fun _=>(16,zg a)::(64,zg noO)::(96,zx 7 a)::(112,zg noO)::M7) (fun _=>True) ?_ ?_
  ·refine dr ?_;refine oF (cs:=[zA a]) qi.funW (l7.snap rfl) (zd rfl (zd rfl (zd l7.inBox (v7.inB l7)))) (zd l7.inBox rfl) ⟨(),trivial⟩ fun _ _=>⟨rfl,trivial,?_⟩
   refine dEr ?_;repeat (refine fT (frX1 ((js (P:=[_,_,_]) rfl).trans (v7.no (by decide)))) ?_; first|refine dEr ?_|exact dz)
   refine ⟨(),trivial,?_⟩;exact zr.ls ⟨rfl,rfl,rfl,rfl,rfl,rfl,rfl,trivial⟩ ⟨rfl,rfl,rfl,rfl,v7.mmS (l7.cons (by decide))⟩ (fun id h=>by cases h) (zd rfl (zd rfl (zd t7.inBox (zd rfl (v7.inB t7))))) rfl
  intro _ _;refine dEr ?_;repeat ((first|refine c0 (qv noO) rfl ?_|refine kBB ?_); first|refine dEr ?_|exact dz)
  refine oN qt rfl ?_;dsimp only [apX];refine Ze (y4 fun p hp => .inr (Zi hp)) (yJ ⟨rfl,rfl,rfl,rfl,v7.mmS t7⟩ ?_);refine dEr ?_;rw [t7.h1];refine dr ?_;repeat (refine oB (by simp) ?_; first|refine dr ?_|exact dz)
  rw [t7.h3];refine dr ?_;repeat (refine oB (by simp [jv,lmL]) ?_; first|refine dr ?_|exact dz)
  refine jP t7.h4 ?_;rw [show (lmL a).map CV.row=a.layers.map ze by unfold lmL; rw [List.map_map]; rfl];refine dEr ?_;rw [t7.h2];refine dEr ?_;repeat ((first|refine oB (by simp) ?_|refine c0 (qv a) rfl ?_|refine kBB ?_); first|refine dEr ?_|exact dz)
  refine z7 (σ:=Unit) 3 (fun _=>[(1,.ptr 16 0),(2,B false),(4,.ptr 64 0),(5,B false),(7,.ptr 112 0),(8,B false),(9,I (mkK 1 a))])
   (fun _=>[(16,zg a),(64,zg noO),(112,zg noO)]) (fun _=>True) ?_ ?_
  ·refine dr ?_;refine oW' qm (fun id b hb=>qL (l:=M7) (v7.mmS t7) _ (j0 hb)) (v7.inB v7.self) (zd v7.self.inBox rfl) ⟨(),trivial⟩ fun _ _=>⟨fun id h => .inl ?_,?_⟩
   ·rw [v7.e,yx (o':=mkO 1 a) j1.symm]; exact h
   refine dEr ?_;refine ⟨(),trivial,?_⟩;have hmg:∀ {m:XM} {id:Nat},id % 16≠7→lkX (ji m (ovM 7 (mkO 1 a))) id=lkX m id:=fun h=>by rw [jU,Zp h]
   exact zr.ls ⟨rfl,rfl,rfl,rfl,rfl,rfl,rfl,trivial⟩ ⟨(hmg (by decide)).trans rfl,(hmg (by decide)).trans rfl,(hmg (by decide)).trans rfl,trivial⟩ (fun id h=>by cases h) rfl rfl
  intro _ _;refine dEr ?_;repeat ((first|refine klf (by omega) ?_|refine c0 (qv noO) rfl ?_|refine kBB ?_); first|refine dEr ?_|exact dz)
  refine z7 (σ:=Unit) 3 (fun _=>[(1,.ptr 16 0),(2,B false),(4,.ptr 64 0),(5,B false),(7,.ptr 112 0),(8,B false),(10,I 1)])
   (fun _=>[(16,zg a),(64,zg noO),(112,zg noO)]) (fun _=>True) ?_ ?_
  ·refine dr ?_;refine oN (zaD W0) rfl ?_;refine dEr ?_;refine ⟨(),trivial,?_⟩;exact zr.ls ⟨rfl,rfl,rfl,rfl,rfl,rfl,rfl,trivial⟩ ⟨rfl,rfl,rfl,trivial⟩ (fun id h=>by cases h) rfl rfl
  intro _ _;refine dEr ?_;repeat ((first|refine c0 (Z9 W0) rfl ?_|refine klf (by omega) ?_|refine kNN ?_); first|refine dEr ?_|exact dz)
  refine z7 (σ:=Unit) 3 (fun _=>[(1,.ptr 16 0),(2,B false),(4,.ptr 64 0),(5,B false),(7,.ptr 112 0),(8,B false),(10,I 1),(12,.ptr 192 0),(13,B false)])
   (fun _=>[(16,zg a),(64,zg noO),(192,zg noO),(112,zg noO)]) (fun _=>True) ?_ ?_
  ·refine dEr ?_;repeat ((first|refine oN qt rfl ?_|refine oN qi rfl ?_); first|refine dEr ?_|exact dz)
   refine ⟨(),trivial,?_⟩;exact zr.ls ⟨rfl,rfl,rfl,rfl,rfl,rfl,rfl,rfl,rfl,trivial⟩ ⟨rfl,rfl,rfl,rfl,trivial⟩ (fun id h=>by cases h) rfl rfl
  intro _ _;refine dEr ?_;repeat ((first|refine c0 (qv noO) rfl ?_|refine kBB ?_|refine c0 (Z9 W0) rfl ?_|refine klf (by omega) ?_|refine kNN ?_); first|refine dEr ?_|exact dz)
 | true =>
 obtain ⟨t,x,g⟩:=OG.of ho;have qx:=zkp W0 hM a ho w b hw;have os:OS w:=by have:=@OS.push a; rw [hw] at this; exact this
 obtain ⟨M9,v9⟩:=ovV 9 w (by omega);rw [← v9.e] at qx;refine z7 (σ:=Unit) 3 (fun _=>[(1,.ptr 16 0),(2,B false),(4,.ptr 64 0),(5,B b),(6,.ptr 96 0),(7,.ptr 112 0),(8,B b)])
  (fun _=>(16,zg a)::(64,zg w)::(96,zx 7 a)::(112,zx 9 w)::apX M7 M9) (fun _=>True) ?_ ?_
 ·have l7:LkO 7 a ((16,zg a)::(64,zg w)::(96,zx 7 a)::M7):=((v7.self.cons (by decide)).cons (by decide)).cons (by decide);refine dr ?_;refine oF (cs:=[zA a]) qx (l7.snap rfl) (zd rfl (zd rfl (zd l7.inBox (v7.inB l7)))) (zd l7.inBox rfl) ⟨(),trivial⟩ fun _ _=>⟨rfl,?_,?_⟩
  ·have hn:∀ id,id % 16=9→lkX ((16,zg a)::(64,zg w)::(96,zx 7 a)::M7) id=none:=fun id h=>by
    rw [zb (by omega),zb (by omega),zb (by omega),v7.no (by omega)]
   rw [v9.e];exact Zo (hn _ rfl) (hn _ rfl) (hn _ rfl) fun i=>hn _ (by omega)
  refine dEr ?_;repeat (refine fT (frX1 ((v9.skip (id:=112) (by decide)).trans ((js (P:=[_,_,_]) rfl).trans (v7.no (by decide))))) ?_; first|refine dEr ?_|exact dz)
  refine ⟨(),trivial,?_⟩;have t7:LkO 7 a ((16,zg a)::(64,zg w)::(96,zx 7 a)::(112,zx 9 w)::apX M7 M9):=(((v7.ap.cons (by decide)).cons (by decide)).cons (by decide)).cons (by decide);have t9:LkO 9 w ((16,zg a)::(64,zg w)::(96,zx 7 a)::(112,zx 9 w)::apX M7 M9):=((((v7.ap2 v9.self (by decide)).cons (by decide)).cons (by decide)).cons (by decide)).cons (by decide);exact zr.ls ⟨rfl,rfl,rfl,rfl,rfl,rfl,rfl,trivial⟩ ⟨(zb (by decide)).trans ((v9.skip (id:=16) (by decide)).trans rfl),(zb (by decide)).trans ((v9.skip (id:=64) (by decide)).trans rfl),(zb (by decide)).trans ((v9.skip (id:=96) (by decide)).trans rfl),rfl,
    ZN (v7.mmS ((v9.ap2 l7 (by decide)).cons (by decide))) (v9.mmS (v9.ap.cons (by decide)))⟩ (fun id h=>by cases h)
   (zd rfl (zd rfl (zd t7.inBox (zd t9.inBox (QF (v7.inB t7) (v9.inB t9)))))) rfl
 intro _ _;have eLw:(lmL w).map CV.row=w.layers.map ze:=by unfold lmL; rw [List.map_map]; rfl
 have t7:LkO 7 a ((16,zg a)::(64,zg w)::(96,zx 7 a)::(112,zx 9 w)::apX M7 M9):=(((v7.ap.cons (by decide)).cons (by decide)).cons (by decide)).cons (by decide);have t9:LkO 9 w ((16,zg a)::(64,zg w)::(96,zx 7 a)::(112,zx 9 w)::apX M7 M9):=((((v7.ap2 v9.self (by decide)).cons (by decide)).cons (by decide)).cons (by decide)).cons (by decide);refine dEr ?_;rw [t9.h1];refine dr ?_;repeat (refine oB (by simp) ?_; first|refine dr ?_|exact dz)
 rw [t9.h3];refine dr ?_;repeat (refine oB (by simp [jv,lmL]) ?_; first|refine dr ?_|exact dz)
 refine jP t9.h4 ?_;rw [eLw];refine dEr ?_;rw [t9.h2];refine dEr ?_;repeat ((first|refine oB (by simp) ?_|refine c0 (qv w) rfl ?_|refine kBB ?_); first|refine dEr ?_|exact dz)
 refine oN qt rfl ?_;dsimp only [apX];refine Ze (y4 fun p hp => .inr (Zi hp)) (yJ ⟨rfl,rfl,rfl,rfl,ZN (v7.mmS t7) (v9.mmS t9)⟩ ?_);refine dEr ?_;rw [t7.h1];refine dr ?_;repeat (refine oB (by simp) ?_; first|refine dr ?_|exact dz)
 rw [t7.h3];refine dr ?_;repeat (refine oB (by simp [jv,lmL]) ?_; first|refine dr ?_|exact dz)
 refine jP t7.h4 ?_;rw [show (lmL a).map CV.row=a.layers.map ze by unfold lmL; rw [List.map_map]; rfl];refine dEr ?_;rw [t7.h2];refine dEr ?_;repeat ((first|refine oB (by simp) ?_|refine c0 (qv a) rfl ?_|refine kBB ?_); first|refine dEr ?_|exact dz)
 refine z7 (σ:=Unit) 3 (fun _=>[(1,.ptr 16 0),(2,B false),(4,.ptr 64 0),(5,B b),(7,.ptr 112 0),(8,B b),(9,I (mkK 1 a))])
  (fun _=>(16,zg a)::(64,zg w)::(112,zx 9 w)::M9) (fun _=>True) ?_ ?_
 ·refine dr ?_;refine oW' qm (fun id b hb=>qL (l:=M7) (v7.mmS t7) _ (j0 hb)) (v7.inB v7.self) (zd v7.self.inBox rfl) ⟨(),trivial⟩ fun _ _=>⟨fun id h => .inl ?_,?_⟩
  ·rw [v7.e,yx (o':=mkO 1 a) j1.symm]; exact h
  refine dEr ?_;refine ⟨(),trivial,?_⟩;have hmg:∀ {m:XM} {id:Nat},id % 16≠7→lkX (ji m (ovM 7 (mkO 1 a))) id=lkX m id:=fun h=>by rw [jU,Zp h]
  exact zr.ls ⟨rfl,rfl,rfl,rfl,rfl,rfl,rfl,trivial⟩ ⟨(hmg (by decide)).trans rfl,(hmg (by decide)).trans rfl,(hmg (by decide)).trans rfl,v9.mmS (t9.of fun id h=>hmg (by omega))⟩ (fun id h=>by cases h)
   (zd rfl (zd rfl (zd (((v9.self.cons (by decide)).cons (by decide)).cons (by decide)).inBox (v9.inB (((v9.self.cons (by decide)).cons (by decide)).cons (by decide)))))) rfl
 intro _ _;refine dEr ?_;repeat (refine klf (by omega) ?_; first|refine dEr ?_|exact dz)
 have s9:LkO 9 w ((16,zg a)::(64,zg w)::(112,zx 9 w)::M9):=((v9.self.cons (by decide)).cons (by decide)).cons (by decide);rw [s9.h1];refine dr ?_;repeat (refine oB (by simp) ?_; first|refine dr ?_|exact dz)
 rw [s9.h3];refine dr ?_;repeat (refine oB (by simp [jv,lmL]) ?_; first|refine dr ?_|exact dz)
 refine jP s9.h4 ?_;rw [eLw];refine dEr ?_;rw [s9.h2];refine dEr ?_;repeat ((first|refine oB (by simp) ?_|refine c0 (qv w) rfl ?_|refine kBB ?_); first|refine dEr ?_|exact dz)
 have hkw:=zbf os;have hkw0:=@Jr 1 w;have qn:=zaC W0 1 w ⟨by omega,hkw⟩ (by have:=os.b; omega) (by have:=os.n; omega) (fun l hl=>by have:=os.l l hl; omega) (by have:=os.u; omega);have qh:=Q1 W0 1 w ⟨by omega,hkw⟩ (by have:=os.b; omega) (by have:=os.n; omega) (fun l hl=>by have:=os.l l hl; omega) (by have:=os.u; omega);obtain ⟨N9,u9⟩:=ovV 9 (mkO 1 w) (by omega);rw [← v9.e,← u9.e] at qn;refine z7 (σ:=Unit) 3 (fun _=>[(1,.ptr 16 0),(2,B false),(4,.ptr 64 0),(5,B b),(7,.ptr 112 0),(8,B b),(10,I (mkK 1 w))])
  (fun _=>(16,zg a)::(64,zg w)::(112,zx 9 w)::N9) (fun _=>True) ?_ ?_
 ·refine dr ?_;refine oW' qn (fun id b hb=>qL (l:=M9) (v9.mmS s9) _ (j0 hb)) (v9.inB v9.self) (zd v9.self.inBox rfl) ⟨(),trivial⟩ fun _ _=>⟨fun id h => .inl ?_,?_⟩
  ·rw [v9.e,yx (o':=mkO 1 w) j1.symm,← u9.e]; exact h
  refine dEr ?_;refine ⟨(),trivial,?_⟩;have hmg:∀ {m:XM} {id:Nat},id % 16≠9→lkX (ji m N9) id=lkX m id:=fun h=>by rw [jU,u9.no h]
  exact zr.ls ⟨rfl,rfl,rfl,rfl,rfl,rfl,rfl,trivial⟩ ⟨(hmg (by decide)).trans rfl,(hmg (by decide)).trans rfl,(hmg (by decide)).trans rfl,u9.mmS u9.mrg⟩ (fun id h=>by cases h)
   (zd rfl (zd rfl (zd (((u9.self.cons (by decide)).cons (by decide)).cons (by decide)).inBox (u9.inB (((u9.self.cons (by decide)).cons (by decide)).cons (by decide)))))) rfl
 intro _ _;have r9:LkO 9 (mkO 1 w) ((16,zg a)::(64,zg w)::(112,zx 9 w)::N9):=((u9.self.cons (by decide)).cons (by decide)).cons (by decide);have eLm:(lmL (mkO 1 w)).map CV.row=(mkO 1 w).layers.map ze:=by unfold lmL; rw [List.map_map]; rfl
 refine dEr ?_;dsimp only [apX];rw [r9.h1];refine dr ?_;repeat (refine oB (by simp [mkO,Zj]) ?_; first|refine dr ?_|exact dz)
 rw [r9.h3];refine dr ?_;repeat (refine oB (by simp [jv,lmL,j1]) ?_; first|refine dr ?_|exact dz)
 refine jP r9.h4 ?_;rw [eLm];refine dEr ?_;dsimp only [apX];rw [r9.h2];refine dEr ?_;repeat ((first|refine oB (by simp [mkO,yU]) ?_|refine c0 qh rfl ?_|refine klf (by omega) ?_|refine kNN ?_); first|refine dEr ?_|exact dz)
 refine z7 (σ:=Unit) 3 (fun _=>[(1,.ptr 16 0),(2,B false),(4,.ptr 64 0),(5,B b),(7,.ptr 112 0),(8,B b),(10,I (mkK 1 w)),(12,.ptr 192 0),(13,B b)])
  (fun _=>(16,zg a)::(64,zg w)::(192,zg w)::(112,zx 9 w)::N9) (fun _=>True) ?_ ?_
 ·refine dEr ?_;repeat ((first|refine oN qt rfl ?_|refine oN qi rfl ?_|refine fT (frX1 ((js (P:=[_,_,_]) rfl).trans (u9.no (id:=192) (by decide)))) ?_); first|refine dEr ?_|exact dz)
  refine ⟨(),trivial,?_⟩;exact zr.ls ⟨rfl,rfl,rfl,rfl,rfl,rfl,rfl,rfl,rfl,trivial⟩ ⟨rfl,rfl,rfl,rfl,u9.mmS (r9.cons (by decide))⟩ (fun id h=>by cases h)
   (zd rfl (zd rfl (zd rfl (zd ((((u9.self.cons (by decide)).cons (by decide)).cons (by decide)).cons (by decide)).inBox (u9.inB ((((u9.self.cons (by decide)).cons (by decide)).cons (by decide)).cons (by decide))))))) rfl
 intro _ _;have p9:LkO 9 (mkO 1 w) ((16,zg a)::(64,zg w)::(192,zg w)::(112,zx 9 w)::N9):=(((u9.self.cons (by decide)).cons (by decide)).cons (by decide)).cons (by decide);refine dEr ?_;repeat ((first|refine c0 (qv w) rfl ?_|refine kBB ?_); first|refine dEr ?_|exact dz)
 dsimp only [apX];rw [p9.h1];refine dr ?_;repeat (refine oB (by simp [mkO,Zj]) ?_; first|refine dr ?_|exact dz)
 rw [p9.h3];refine dr ?_;repeat (refine oB (by simp [jv,lmL,j1]) ?_; first|refine dr ?_|exact dz)
 refine jP p9.h4 ?_;rw [eLm];refine dEr ?_;dsimp only [apX];rw [p9.h2];refine dEr ?_;repeat ((first|refine oB (by simp [mkO,yU]) ?_|refine c0 qh rfl ?_|refine klf (by omega) ?_|refine kNN ?_); first|refine dEr ?_|exact dz)
end Go.Proofs.YtmkmldepkponaaaGreatDoor
