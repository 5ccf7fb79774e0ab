/- The texts Dd1, Dd2, Ld2, joined; no condition. -/
import Derived.Test.YteheahbjaddooaaGreatDoorWfE

namespace Go.Proofs.YteheahbjaddooaaGreatDoor
set_option linter.unusedSimpArgs false
set_option linter.unusedVariables false
open Go Go.RowKit
def c_spec_l5Ev:XC:=(.s (.r [.ex 6 (.alloc [(I 0),(I 0),sE,(I 0),sE,sE,sE,(I 0)])]) (.s (.r [.mv 8 0,.ex 9 (.opn 92 [8]),.mv 7 9]) (.cut (.s (.r [.mv 10 1,.ex 11 (.len false 10),.b1 12 .gtr 11 (.i 0),.mv 13 12,.gt 14 (.mv 0) 13,.gt 15 (.opn 38 [14,(.i 2)]) 13,.gt 16 (.bin .eql 15 (.i 0)) 13,.ex 17 (.pick 13 16 .n)]) (.cnd 17 (.r [.mv 18 1,.mv 19 0,.mv 20 1,.ex 21 (.len false 20),.ex 22 (.opn 38 [19,21]),.ex 23 (.ia 3 18 22),.f1 24 0 23,.l1 25 1 24,.mv 7 25]) .skip)) (.s (.s (.r [.mv 26 0,.ex 27 (.opn 38 [26,(.i 16)])]) (.blk 0 (.s (.s (.r [.b1 29 .eql 27 (.i 0),.mv 28 29]) (.cnd 28 .skip (.s (.r [.b1 30 .eql 27 (.i 1),.mv 28 30]) (.cnd 28 .skip (.r [.b1 31 .eql 27 (.i 2),.mv 28 31]))))) (.cnd 28 (.s (.r [.mv 32 0,.ex 33 (.opn 38 [32,(.i 3)]),.mv 34 7,.ex 35 (.build [(I 0),(I 0),sE,(I 0),sE,sE,sE,(I 0)] [(0,(1,(.i 1))),(1,(1,33)),(2,(1,34))]),.nu (.st 8 6 35)]) .ret) (.s (.s (.r [.b1 37 .eql 27 (.i 3),.mv 36 37]) (.cnd 36 .skip (.r [.b1 38 .eql 27 (.i 4),.mv 36 38]))) (.cnd 36 (.s (.r [.mv 39 0,.mv 40 1,.ex 41 (.opn 112 [39,40]),.ex 42 (.build [(I 0),(I 0),sE,(I 0),sE,sE,sE,(I 0)] [(0,(1,(.i 2))),(3,(4,41))]),.nu (.st 8 6 42)]) .ret) (.s (.r [.b1 44 .eql 27 (.i 5),.mv 43 44]) (.cnd 43 (.s (.r [.ex 45 (.build [(I 0),(I 0),sE,(I 0),sE,sE,sE,(I 0)] [(0,(1,(.i 3)))]),.nu (.st 8 6 45)]) .ret) (.s (.r [.b1 47 .eql 27 (.i 6),.mv 46 47]) (.cnd 46 (.s (.r [.ex 48 (.build [(I 0),(I 0),sE,(I 0),sE,sE,sE,(I 0)] [(0,(1,(.i 4)))]),.nu (.st 8 6 48)]) .ret) (.s (.r [.b1 50 .eql 27 (.i 7),.mv 49 50]) (.cnd 49 (.s (.r [.mv 51 0,.mv 52 2,.b1 53 .add 52 (.i 1),.ex 54 (.opn 38 [51,53]),.ex 55 (.build [(I 0),(I 0),sE,(I 0),sE,sE,sE,(I 0)] [(0,(1,(.i 6))),(7,(1,54))]),.nu (.st 8 6 55)]) .ret) (.s (.r [.b1 57 .eql 27 (.i 8),.mv 56 57]) (.cnd 56 (.s (.r [.mv 58 0,.mv 59 2,.b1 60 .add 59 (.i 1),.ex 61 (.opn 38 [58,60]),.ex 62 (.build [(I 0),(I 0),sE,(I 0),sE,sE,sE,(I 0)] [(0,(1,(.i 7))),(7,(1,61))]),.nu (.st 8 6 62)]) .ret) (.s (.r [.b1 64 .eql 27 (.i 9),.mv 63 64]) (.cnd 63 (.s (.r [.mv 65 0,.ex 66 (.bsl 1 3 [(.i 0),(.i 8),(.i 1),(.i 5),(.i 2)]),.ex 67 (.opn 36 [65,66]),.mv 68 0,.ex 69 (.bsl 1 3 [(.k (.c (.sc (.int .i64 (.negSucc 0))))),(.i 3),(.i 0)]),.ex 70 (.opn 36 [68,69]),.mv 71 0,.ex 72 (.bsl 1 9 [(.s [47]),(.s []),(.s [47,97])]),.ex 73 (.opn 95 [71,72]),.mv 74 0,.ex 75 (.bsl 1 3 [(.k (.c (.sc (.int .i64 (.negSucc 0))))),(.i 12),(.i 0)]),.ex 76 (.opn 36 [74,75]),.ex 77 (.build [(I 0),(I 0),sE,(I 0),sE,sE,sE,(I 0)] [(0,(1,67)),(1,(1,70)),(2,(1,73)),(7,(1,76))]),.nu (.st 8 6 77)]) .ret) .skip)))))))))))))))) (.s (.r [.mv 78 0,.mv 79 2,.c1 80 113 [(.i 1),79],.ex 81 (.opn 38 [78,80]),.ex 82 (.build [(I 0),(I 0),sE,(I 0),sE,sE,sE,(I 0)] [(0,(1,(.i 5))),(7,(1,81))]),.nu (.st 8 6 82)]) .ret)))))
theorem c_spec_l5Ev_eq:compF Tryz.prog [38,36,95,92,112] 70=some (c_spec_l5Ev.ac,[(.cell 6 true 8)],83):=by kernel_rfl
theorem f_l5Ev (W0:World) (s:Str) (p:Int) (t:List Ent) (n:Int) (hs:s.length≤2000) (hp:0≤p∧p≤90000) (ht:t.length≤100000) (hn:0≤n∧n≤100000) :
  FunW Tryz.prog W0 70 [.ptr 1 0,.c (eEnts t),.c (CI n)] (Rd s p) (fun x:Ev × Int=>p≤x.2∧x.2≤p+12) (fun x => .c (eEv x.1)) (fun x=>Rd s x.2):=by
 refine funW (c:=c_spec_l5Ev) mixed c_spec_l5Ev_eq (by simp) rfl rfl fun hg=>?_
 refine dr ?_
 refine oW (f_l1Path W0 s p hs (by omega)) rfl ⟨rfl,trivial⟩ rfl rfl ⟨_,List.mem_cons_self⟩ fun x0 hx0=>⟨rfl,?_⟩
 refine dEr ?_
 refine cutp2 (fun (x:Str) (q:Int)=>[(0,.ptr 1 0),(1,.c (eEnts t)),(2,.c (CI n)),(6,.ptr 96 0),(7,.c (CS x))]) (fun x q=>[(1,rdB s q),(96,.box [.c (CI 0),.c (CI 0),.c (CS []),.c (CI 0),.c (CS []),.c (CS []),.c (CS []),.c (CI 0)])]) (fun x q=>p≤q∧q≤p+3) ?_ ?_
 ·refine dr ?_
  refine cP (fun h1=>?_) (fun h1=>?_)
  ·refine dr ?_
   refine oW (f_pick W0 s (p+1) 2 hs (by omega) (by omega)) rfl ⟨rfl,trivial⟩ rfl rfl ⟨0,by omega,by omega⟩ fun v hv=>⟨rfl,?_⟩
   refine dEr ?_
   refine cP (fun h2=>?_) (fun h2=>?_)
   ·refine dEr ?_
    refine oW (f_pick W0 s (p+1+1) t.length hs (by omega) (by omega)) rfl ⟨rfl,trivial⟩ rfl rfl ⟨0,by omega,by omega⟩ fun k2 hk2=>⟨rfl,?_⟩
    refine dEr ?_
    repeat (refine aX hk2.1 (hk2.2 (by omega)) fun e he=>?_; first | refine dEr ?_ | exact dz)
    refine ⟨e.path,p+1+1+1,⟨by omega,by omega⟩,?_⟩
    refine dr ?_
    trivial
   ·refine dEr ?_
    refine ⟨x0,p+1+1,⟨by omega,by omega⟩,?_⟩
    refine dr ?_
    trivial
  ·refine dEr ?_
   refine ⟨x0,p+1,⟨by omega,by omega⟩,?_⟩
   refine dr ?_
   trivial
 rintro x q ⟨hq1,hq2⟩
 refine dr ?_
 refine oW (f_pick W0 s q 16 hs (by omega) (by omega)) rfl ⟨rfl,trivial⟩ rfl rfl ⟨0,by omega,by omega⟩ fun k hk=>⟨rfl,?_⟩
 refine dEr ?_
 by_cases a:k=0∨k=1∨k=2
 ·rcases a with rfl | rfl | rfl
  ·refine dr ?_
   refine cP (fun h1=>?_) (fun h1=>?_)
   rotate_left
   ·exact absurd rfl h1
   refine dr ?_
   refine cP (fun h1=>?_) (fun h1=>?_)
   rotate_left
   ·exact absurd rfl h1
   refine dr ?_
   refine oW (f_pick W0 s (q+1) 3 hs (by omega) (by omega)) rfl ⟨rfl,trivial⟩ rfl rfl ⟨0,by omega,by omega⟩ fun v hv=>⟨rfl,?_⟩
   refine dEr ?_
   refine ⟨none,_,_,?_,(⟨1,v,x,noOp,0⟩,q+1+1),⟨by simp only; omega,by simp only; omega⟩,rfl,rfl⟩
   refine dr ?_
   trivial
  ·refine dr ?_
   refine cP (fun h1=>?_) (fun h1=>?_)
   ·exact absurd h1 (by decide)
   refine dr ?_
   refine cP (fun h1=>?_) (fun h1=>?_)
   rotate_left
   ·exact absurd rfl h1
   refine dr ?_
   refine cP (fun h1=>?_) (fun h1=>?_)
   rotate_left
   ·exact absurd rfl h1
   refine dr ?_
   refine oW (f_pick W0 s (q+1) 3 hs (by omega) (by omega)) rfl ⟨rfl,trivial⟩ rfl rfl ⟨0,by omega,by omega⟩ fun v hv=>⟨rfl,?_⟩
   refine dEr ?_
   refine ⟨none,_,_,?_,(⟨1,v,x,noOp,0⟩,q+1+1),⟨by simp only; omega,by simp only; omega⟩,rfl,rfl⟩
   refine dr ?_
   trivial
  ·refine dr ?_
   refine cP (fun h1=>?_) (fun h1=>?_)
   ·exact absurd h1 (by decide)
   refine dr ?_
   refine cP (fun h1=>?_) (fun h1=>?_)
   ·exact absurd h1 (by decide)
   refine dr ?_
   refine cP (fun h1=>?_) (fun h1=>?_)
   rotate_left
   ·exact absurd rfl h1
   refine dr ?_
   refine oW (f_pick W0 s (q+1) 3 hs (by omega) (by omega)) rfl ⟨rfl,trivial⟩ rfl rfl ⟨0,by omega,by omega⟩ fun v hv=>⟨rfl,?_⟩
   refine dEr ?_
   refine ⟨none,_,_,?_,(⟨1,v,x,noOp,0⟩,q+1+1),⟨by simp only; omega,by simp only; omega⟩,rfl,rfl⟩
   refine dr ?_
   trivial
 refine dr ?_
 refine cP (fun h1=>?_) (fun h1=>?_)
 ·omega
 refine dr ?_
 refine cP (fun h2=>?_) (fun h2=>?_)
 ·omega
 refine dr ?_
 refine cP (fun h3=>?_) (fun h3=>?_)
 ·omega
 clear h1 h2 h3
 refine dr ?_
 by_cases a:k=3
 ·subst a
  refine cP (fun h1=>?_) (fun h1=>?_)
  rotate_left
  ·exact absurd rfl h1
  refine dr ?_
  refine cP (fun h1=>?_) (fun h1=>?_)
  rotate_left
  ·exact absurd rfl h1
  refine dr ?_
  refine oW (f_l2Op W0 s (q+1) t hs (by omega) (by omega)) rfl ⟨rfl,trivial⟩ rfl rfl ⟨((⟨0,[],[],[]⟩,q+1):Op × Int),by simp only; omega,by simp only; omega⟩ fun y hy=>⟨rfl,?_⟩
  obtain ⟨op,r⟩:=y
  obtain ⟨hr1,hr2⟩:q+1≤r∧r≤q+1+8:=hy
  refine dEr ?_
  refine ⟨none,_,_,?_,(⟨2,0,[],op,0⟩,r),⟨by simp only; omega,by simp only; omega⟩,rfl,rfl⟩
  refine dr ?_
  trivial
 refine cP (fun h1=>?_) (fun h1=>?_)
 ·exact absurd h1 a
 refine dr ?_
 refine cP (fun h1=>?_) (fun h1=>?_)
 ·refine dr ?_
  refine oW (f_l2Op W0 s (q+1) t hs (by omega) (by omega)) rfl ⟨rfl,trivial⟩ rfl rfl ⟨((⟨0,[],[],[]⟩,q+1):Op × Int),by simp only; omega,by simp only; omega⟩ fun y hy=>⟨rfl,?_⟩
  obtain ⟨op,r⟩:=y
  obtain ⟨hr1,hr2⟩:q+1≤r∧r≤q+1+8:=hy
  refine dEr ?_
  refine ⟨none,_,_,?_,(⟨2,0,[],op,0⟩,r),⟨by simp only; omega,by simp only; omega⟩,rfl,rfl⟩
  refine dr ?_
  trivial
 refine dr ?_
 refine cP (fun h2=>?_) (fun h2=>?_)
 ·refine dr ?_
  refine ⟨none,_,_,?_,(⟨3,0,[],noOp,0⟩,q+1),⟨by simp only; omega,by simp only; omega⟩,rfl,rfl⟩
  refine dr ?_
  trivial
 refine dr ?_
 refine cP (fun h3=>?_) (fun h3=>?_)
 ·refine dr ?_
  refine ⟨none,_,_,?_,(⟨4,0,[],noOp,0⟩,q+1),⟨by simp only; omega,by simp only; omega⟩,rfl,rfl⟩
  refine dr ?_
  trivial
 refine dr ?_
 refine cP (fun h4=>?_) (fun h4=>?_)
 ·refine dr ?_
  repeat (refine oB (by omega) ?_; first | refine dr ?_ | exact dz)
  refine oW (f_pick W0 s (q+1) (n+1) hs (by omega) (by omega)) rfl ⟨rfl,trivial⟩ rfl rfl ⟨0,by omega,by omega⟩ fun v hv=>⟨rfl,?_⟩
  refine dEr ?_
  refine ⟨none,_,_,?_,(⟨6,0,[],noOp,v⟩,q+1+1),⟨by simp only; omega,by simp only; omega⟩,rfl,rfl⟩
  refine dr ?_
  trivial
 refine dr ?_
 refine cP (fun h5=>?_) (fun h5=>?_)
 ·refine dr ?_
  repeat (refine oB (by omega) ?_; first | refine dr ?_ | exact dz)
  refine oW (f_pick W0 s (q+1) (n+1) hs (by omega) (by omega)) rfl ⟨rfl,trivial⟩ rfl rfl ⟨0,by omega,by omega⟩ fun v hv=>⟨rfl,?_⟩
  refine dEr ?_
  refine ⟨none,_,_,?_,(⟨7,0,[],noOp,v⟩,q+1+1),⟨by simp only; omega,by simp only; omega⟩,rfl,rfl⟩
  refine dr ?_
  trivial
 refine dr ?_
 refine cP (fun h6=>?_) (fun h6=>?_)
 ·refine dr ?_
  refine oW (f_num W0 s (q+1) [0,8,1,5,2] hs (by omega) (by decide)) rfl ⟨rfl,trivial⟩ rfl rfl ⟨0,by decide⟩ fun v1 _=>⟨rfl,?_⟩
  refine dEr ?_
  refine oW (f_num W0 s (q+1+1) [-1,3,0] hs (by omega) (by decide)) rfl ⟨rfl,trivial⟩ rfl rfl ⟨0,by decide⟩ fun v2 _=>⟨rfl,?_⟩
  refine dEr ?_
  refine oW (f_of W0 s (q+1+1+1) [[47],[],[47,97]] hs (by omega) (by decide)) rfl ⟨rfl,trivial⟩ rfl rfl ⟨_,List.mem_cons_self⟩ fun v3 _=>⟨rfl,?_⟩
  refine dEr ?_
  refine oW (f_num W0 s (q+1+1+1+1) [-1,12,0] hs (by omega) (by decide)) rfl ⟨rfl,trivial⟩ rfl rfl ⟨0,by decide⟩ fun v4 _=>⟨rfl,?_⟩
  refine dEr ?_
  refine ⟨none,_,_,?_,(⟨v1,v2,v3,noOp,v4⟩,q+1+1+1+1+1),⟨by simp only; omega,by simp only; omega⟩,rfl,rfl⟩
  refine dr ?_
  trivial
 have hm:maxI 1 n≤100000:=by unfold maxI; split<;>omega
 refine dr ?_
 repeat (refine c0 (f_l1Max W0 1 n) rfl ?_; first | refine dr ?_ | exact dz)
 refine oW (f_pick W0 s (q+1) (maxI 1 n) hs (by omega) (by omega)) rfl ⟨rfl,trivial⟩ rfl rfl ⟨0,by omega,by omega⟩ fun v hv=>⟨rfl,?_⟩
 refine dEr ?_
 refine ⟨none,_,_,?_,(⟨5,0,[],noOp,v⟩,q+1+1),⟨by simp only; omega,by simp only; omega⟩,rfl,rfl⟩
 refine dr ?_
 trivial
def c_spec_l5World:XC:=(.s (.r [.ex 2 (.alloc [.nil,.nil,.nil,(I 0),(I 0),.nil,.nil,.nil,.nil,(B false),(I 0),sE,sE,sE])]) (.s (.r [.mv 8 0,.ex 9 (.opn 94 [8]),.ex 3 (.alloc [.nil,.nil,.nil]),.nu (.st 3 3 9)]) (.cut (.s (.r [.l2 10 3 3,.c1 11 25 [10],.ex 12 (.un .not 11)]) (.cnd 12 (.r [.ex 13 (.build [.nil,.nil,.nil] []),.nu (.st 3 3 13)]) .skip)) (.s (.r [.l2 14 3 3,.ex 15 (.opn 72 [14]),.ex 4 (.alloc [.nil,.nil,.nil,(I 0),(I 0),.nil,.nil,.nil,.nil,(B false),(I 0),sE,sE,sE]),.nu (.st 14 4 15)]) (.s (.s (.r [.mv 16 0,.ex 17 (.bsl 1 3 [(.i 12),(.i 24),(.i 36),(.i 48),(.i 6),(.i 0)]),.ex 18 (.opn 36 [16,17]),.mv 5 18]) (.blk 0 (.loop (.s (.s (.r [.mv 19 5,.b1 20 .gtr 19 (.i 0)]) (.cnd 20 .skip (.exit 0))) (.s (.blk 1 (.s (.r [.f1 24 0 4,.l2 25 3 24,.c1 26 69 [25],.mv 23 26,.ex 27 (.ext 23 0),.ex 28 (.ext 23 1),.ex 6 (.asn 27 3 39),.mv 7 28]) (.d [.exo [1,4,5,6,592] 30 (.ld true 14 4),.mv 31 0,.mv 32 6,.f1 33 8 4,.exo [1,4,5,6,592] 34 (.ld false 1 33),.ex 35 (.len false 34),.exo [1,4,5,6,592] 36 (.opn 70 [31,32,35]),.exo [1,4,5,6,592] 37 (.opn 73 [30,36]),.mv 29 37,.ex 38 (.ext 29 0),.ex 39 (.ext 29 1),.nu (.st 14 4 38)]))) (.r [.mv 21 5,.b1 22 .sub 21 (.i 1),.mv 5 22])))))) (.s (.r [.l2 40 14 4,.ex 41 (.opn 45 [40]),.nu (.st 14 2 41)]) .ret))))))
theorem c_spec_l5World_eq:compF Tryz.prog [94,36,70,73,72,45,1000001,1000004,1000005,1000006,1000592] 35=some (c_spec_l5World.ac,[(.cell 2 true 14)],42):=by kernel_rfl
structure WR (n:Nat) (w:Wld):Prop where
 z:WZ (100+n) w
 h:w.holds.length=3
 f:w.floors.length=3
 ck : -(20000+20000 * (n:Int))≤w.clock∧w.clock≤20000+20000 * n
 ct : -(20000+20000 * (n:Int))≤w.count∧w.count≤20000+20000 * n
theorem WG.wr {n:Nat} {w:Wld} (h:WG w) (hz:HZ n w) (hn:n≤100):WR 0 w:=⟨h.wz (hz.mono (by omega)) (by omega),h.pl.hl,h.pl.fl,by have:=h.pl.ck; omega,by have:=h.pl.ct; omega⟩
theorem WZ.mono {n m:Nat} {w:Wld} (h:WZ n w) (hm:n≤m):WZ m w:=⟨h.o.mono hm,h.z.mono hm,by have:=h.h; omega,by have:=h.f; omega,by have:=h.t; omega⟩
theorem WR.mono {n m:Nat} {w:Wld} (h:WR n w) (hm:n≤m):WR m w:=⟨h.z.mono (by omega),h.h,h.f,by have:=h.ck; omega,by have:=h.ct; omega⟩
theorem noO_ok:oOk noO=true:=by decide +kernel
theorem f_l5World (W0:World) (s:Str) (p:Int) (hs:s.length≤2000) (hp:0≤p∧p≤20000) :
  FunW Tryz.prog W0 35 [.ptr 1 0] (Rd s p) (fun x:Wld × Int=>WR 0 x.1∧p≤x.2∧x.2≤p+1200) (fun x => .c (eWld x.1)) (fun x=>Rd s x.2):=by
 refine funW (c:=c_spec_l5World) mixed c_spec_l5World_eq (by simp) rfl rfl fun hg=>?_
 refine dr ?_
 refine oW (f_l4Over W0 s p hs (by omega)) rfl ⟨rfl,trivial⟩ rfl rfl ⟨(noO,p),OS.no,by simp,by simp; omega⟩ fun x hx=>⟨rfl,?_⟩
 obtain ⟨o0,q0⟩:=x
 obtain ⟨a1,a2,a3⟩:OS o0∧p≤q0∧q0≤p+600:=hx
 refine dEr ?_
 refine cutz 3 (fun (o:Over)=>[(0,.ptr 1 0),(2,.ptr 32 0),(3,.ptr 48 0)]) (fun o=>[(1,rdB s q0),(32,zWB),(48,ovB o)]) (fun o=>OS o∧oOk o=true) ?_ ?_
 ·refine dEr ?_
  repeat (refine c0 (f_spec_OverOk W0 o0) rfl ?_; first | refine dEr ?_ | exact dz)
  refine cP (fun h1=>?_) (fun h1=>?_)
  ·refine dr ?_
   refine ⟨noO,⟨OS.no,noO_ok⟩,?_⟩
   refine KeepS.trans (F1:=_) (m1:=_) (KeepS.nilC 48 [.nil,.nil,.nil] [.c (.row []),.c (.row []),.c (.row [])] rfl ⟨nc1,nc1,nc1,trivial⟩) (z:=none) ?_
   refine dr ?_
   trivial
  ·refine dr ?_
   refine ⟨o0,⟨a1,h1⟩,?_⟩
   refine KeepX.s (z:=none) ?_
   refine dr ?_
   trivial
 rintro o ⟨ho,h1⟩
 have g0:WG (newW o):=WG.new h1
 refine dr ?_
 refine oW (f_spec_WorldNewW W0 o (ho.oz.mono (by omega))) rfl trivial rfl rfl ⟨(),trivial⟩ fun _ _=>⟨rfl,?_⟩
 refine dEr ?_
 refine oW (f_num W0 s q0 [12,24,36,48,6,0] hs (by omega) (by decide)) rfl ⟨rfl,trivial⟩ rfl rfl ⟨0,by decide⟩ fun n hn=>⟨rfl,?_⟩
 have hn2:0≤n∧n≤48:=by
  simp only [List.mem_cons,List.not_mem_nil,or_false] at hn
  omega
 refine dEr ?_
 refine lq3 (fun (x:Wld) (i q:Int)=>[(0,.ptr 1 0),(2,.ptr 32 0),(3,.ptr 48 0),(4,.ptr 64 0),(5,.c (CI i))]) (fun x _ q=>[(1,rdB s q),(32,zWB),(48,ovB o),(64,.box (wCo 6 x))]++wMn 6 x)
  (fun x i q=>0≤i∧i≤n∧p≤q∧q≤p+601+12 * (n - i)∧WG x∧HZ (n - i).toNat x) (fun _ i _=>i.toNat) (newW o) n (q0+1) ⟨by omega,by omega,by omega,by omega,g0,HZ.new.mono (by omega)⟩ ?_ ?_
 ·refine KeepS.newB 64 o rfl rfl (by decide) (z:=none) ?_
  refine dr ?_
  repeat (refine oB (by simp) ?_; first | refine dr ?_ | exact dz)
  trivial
 rintro x i q ⟨hi1,hi2,hq1,hq2,hx,hz⟩
 refine dr ?_
 refine cP (fun h3=>?_) (fun h3=>?_)
 ·have hv:=f_l4View W0 x.over
  have hvl:=@view_len x.over
  rw [eEntsO_eq] at hv
  generalize (view4 x.over).getD []=t at *
  have hnt:x.net.length≤1000:=by have:=hx.pl.nl; omega
  refine dEr ?_
  repeat (refine c0 hv rfl ?_; first | refine dEr ?_ | exact dz)
  refine oW (f_l5Ev W0 s q t x.net.length hs (by omega) (by omega) (by omega)) rfl ⟨rfl,trivial⟩ rfl rfl ⟨((⟨0,0,[],noOp,0⟩,q):Ev × Int),by simp only; omega,by simp only; omega⟩ fun y hy=>⟨rfl,?_⟩
  obtain ⟨ev,r⟩:=y
  obtain ⟨hr1,hr2⟩:q≤r∧r≤q+12:=hy
  have hx':=hx.ev ev
  have hz':=hz.ev ev
  refine dEr ?_
  refine oW (f_l5Do W0 x ev hx (hz.mono (by omega))) rfl ⟨rfl,rfl,rfl,trivial⟩ rfl rfl ⟨false,trivial⟩ fun b _=>?_
  generalize evW x ev=rr at *
  obtain ⟨x',c⟩:=rr
  cases b with
  | true =>
   refine ⟨rfl,?_⟩
   refine dEr ?_
   repeat ((first | refine oB (by omega) ?_ | refine oB (by simp) ?_); first | refine dEr ?_ | exact dz)
   refine ⟨x',i - 1,r,⟨by omega,by omega,by omega,by omega,hx',hz'.mono (by omega)⟩,by omega,?_⟩
   refine KeepS.ren 6 592 rfl rfl (z:=none) ?_
   refine dr ?_
   repeat (refine oB (by simp) ?_; first | refine dr ?_ | exact dz)
   trivial
  | false =>
   refine ⟨rfl,?_⟩
   refine dEr ?_
   repeat ((first | refine oB (by omega) ?_ | refine oB (by simp) ?_); first | refine dEr ?_ | exact dz)
   refine ⟨x',i - 1,r,⟨by omega,by omega,by omega,by omega,hx',hz'.mono (by omega)⟩,by omega,?_⟩
   refine KeepX.s (z:=none) ?_
   refine dr ?_
   repeat (refine oB (by simp) ?_; first | refine dr ?_ | exact dz)
   trivial
 refine dr ?_
 have hw:WR 0 x:=hx.wr hz (by omega)
 refine oW (f_l5CopyX W0 x (hx.wz (hz.mono (by omega)) (by omega))) rfl ⟨rfl,rfl,rfl,trivial⟩ rfl rfl ⟨(),trivial⟩ fun _ _=>⟨rfl,?_⟩
 refine dEr ?_
 repeat (refine oB (by simp) ?_; first | refine dEr ?_ | exact dz)
 refine ⟨none,_,_,?_,(x,q),⟨hw,by omega,by omega⟩,rfl,rfl⟩
 refine dr ?_
 trivial
def c_copyP:XC:=(.s (.r [.ex 1 (.box 0),.ex 2 (.alloc [.nil,.nil,.nil,(I 0),(I 0),.nil,.nil,.nil,.nil,(B false),(I 0),sE,sE,sE])]) (.s (.r [.l2 5 14 1,.ex 3 (.alloc [.nil,.nil,.nil,(I 0),(I 0),.nil,.nil,.nil,.nil,(B false),(I 0),sE,sE,sE]),.nu (.st 14 3 5)]) (.s (.r [.f1 6 0 1,.l2 7 3 6,.c1 8 102 [7],.f1 9 0 3,.nu (.st 3 9 8)]) (.s (.r [.ex 10 .bsl0,.f1 11 5 1,.l1 12 1 11,.ex 13 (.app true 4 40 72 10 12),.f1 14 5 3,.nu (.st 1 14 13)]) (.s (.r [.ex 15 .bsl0,.f1 16 6 3,.nu (.st 1 16 15)]) (.s (.s (.r [.m1 4 (.i 0)]) (.blk 0 (.loop (.s (.s (.r [.mv 17 4,.f1 18 6 1,.l1 19 1 18,.ex 20 (.len false 19),.b1 21 .lss 17 20]) (.cnd 21 .skip (.exit 0))) (.s (.blk 1 (.d [.f1 24 6 3,.l1 25 1 24,.ex 26 .bsl0,.f1 27 6 1,.l1 28 1 27,.mv 29 4,.ex 30 (.ia 1 28 29),.l1 31 1 30,.ex 32 (.app true 7 80 53 26 31),.ex 33 (.bsl 1 56 [32]),.ex 34 (.app false 1 24 56 25 33),.f1 35 6 3,.nu (.st 1 35 34)])) (.r [.mv 22 4,.b1 23 .add 22 (.i 1),.mv 4 23])))))) (.s (.r [.ex 36 .bsl0,.f1 37 7 1,.l1 38 1 37,.ex 39 (.app true 1 8 3 36 38),.f1 40 7 3,.nu (.st 1 40 39)]) (.s (.r [.ex 41 .bsl0,.f1 42 8 1,.l1 43 1 42,.ex 44 (.app true 9 96 55 41 43),.f1 45 8 3,.nu (.st 1 45 44)]) (.s (.r [.l2 46 14 3,.nu (.st 14 2 46)]) .ret)))))))))
theorem c_copyP_eq:compF Tryz.prog [] 45=some (c_copyP.ac,[(.cell 2 true 14)],47):=by kernel_rfl
def cpM (h0 h1 h2:List Hold):Nat→XM
 | 0=>[(14,.row [] 1 56)]
 | 1=>[(14,.rowP [.own 15 h0.length] 56),(15,.row (h0.map eHold) 7 53)]
 | 2=>[(14,.rowP [.own 15 h0.length,.own 31 h1.length] 56),(15,.row (h0.map eHold) 7 53),(31,.row (h1.map eHold) 7 53)]
 | _=>[(14,.rowP [.own 15 h0.length,.own 31 h1.length,.own 47 h2.length] 56),(15,.row (h0.map eHold) 7 53),(31,.row (h1.map eHold) 7 53),(47,.row (h2.map eHold) 7 53)]
theorem f_l5CopyP0 (W0:World) (w:Wld) (h0 h1 h2:List Hold) (hz:WZ 1000000 w) (h3:w.holds=[h0,h1,h2]):FunW Tryz.prog W0 45 [.c (eWld w)] [] (fun _:Unit=>True) (fun _ => .agg [.c (eEnts w.over.base),.c (eMarkss w.over.layers),.c (eMarks w.over.upper),I w.clock,I w.count,.own 208 w.leases.length,.own 14 3,.own 624 w.floors.length,.own 704 w.net.length,B w.waits,I w.op.kind,.c (CS w.op.path),.c (CS w.op.dest),.c (CS w.op.data)]) (fun _=>cpM h0 h1 h2 3++[(208,.row (w.leases.map eLease) 4 72),(624,.row (w.floors.map CI) 1 3),(704,.row (w.net.map eMsg) 9 55)]):=by
 obtain ⟨o,cl,cn,ls,hds,fl,nt,wt,wop⟩:=w
 simp only at h3
 subst h3
 obtain ⟨hzo,⟨hzl,hzh⟩,hh,hf,hn⟩:=hz
 simp only at hzo hzl hzh hh hf hn
 show FunW _ _ _ [.c (.agg [eEnts o.base,eMarkss o.layers,eMarks o.upper,CI cl,CI cn,eLeases ls,eHoldss [h0,h1,h2],eInts fl,eMsgs nt,CB wt,CI wop.kind,CS wop.path,CS wop.dest,CS wop.data])] _ _ _ _
 refine funW (c:=c_copyP) mixed c_copyP_eq (by simp) rfl rfl fun hg=>?_
 refine dEr ?_
 repeat ((first | refine c0 (f_l4CopyC W0 _ (hzo.mono (by omega))) rfl ?_ | refine oB (by simp; omega) ?_ | refine oB (by simp) ?_); first | refine dEr ?_ | exact dz)
 refine lq (σ:=Nat) (fun k=>[(1,.ptr 16 0),(2,.ptr 32 0),(3,.ptr 48 0),(4,I k)]) (fun k=>cpM h0 h1 h2 k++[(16,.box [.c (eEnts o.base),.c (eMarkss o.layers),.c (eMarks o.upper),I cl,I cn,.c (eLeases ls),.c (eHoldss [h0,h1,h2]),.c (eInts fl),.c (eMsgs nt),B wt,I wop.kind,.c (CS wop.path),.c (CS wop.dest),.c (CS wop.data)]),(32,zWB),(48,.box [.c (eEnts o.base),.c (eMarkss o.layers),.c (eMarks o.upper),I cl,I cn,.own 208 ls.length,.own 14 k,.c (eInts fl),.c (eMsgs nt),B wt,I wop.kind,.c (CS wop.path),.c (CS wop.dest),.c (CS wop.data)]),(208,.row (ls.map eLease) 4 72)]) (fun k=>k≤3) (fun k=>3 - k) 0 (by simp) ?_ ?_
 ·refine KeepX.trans (z:=none) (z':=some 3) (F1:=[(1,.ptr 16 0),(2,.ptr 32 0),(3,.ptr 48 0),(4,I 0)]) (m1:=[(16,.box [.c (eEnts o.base),.c (eMarkss o.layers),.c (eMarks o.upper),I cl,I cn,.c (eLeases ls),.c (eHoldss [h0,h1,h2]),.c (eInts fl),.c (eMsgs nt),B wt,I wop.kind,.c (CS wop.path),.c (CS wop.dest),.c (CS wop.data)]),(32,zWB),(48,.box [.c (eEnts o.base),.c (eMarkss o.layers),.c (eMarks o.upper),I cl,I cn,.own 208 ls.length,.nil,.c (eInts fl),.c (eMsgs nt),B wt,I wop.kind,.c (CS wop.path),.c (CS wop.dest),.c (CS wop.data)]),(208,.row (ls.map eLease) 4 72)]) ?_ ?_
  ·refine dr ?_
   repeat (refine oB (by simp<;>rfl) ?_; first | refine dr ?_ | exact dz)
   trivial
  ·show KeepS _ _ _ _ _
   exact KeepS.er (KeepS.nilB 48 _ [.c (eEnts o.base),.c (eMarkss o.layers),.c (eMarks o.upper),I cl,I cn,.own 208 ls.length,.own 14 0,.c (eInts fl),.c (eMsgs nt),B wt,I wop.kind,.c (CS wop.path),.c (CS wop.dest),.c (CS wop.data)] 14 56 rfl rfl ⟨nr0,nr0,nr0,nr0,nr0,nr0,nr1,nr0,nr0,nr0,nr0,nr0,nr0,nr0,trivial⟩) rfl
 intro k hk
 rcases k with _ | _ | _ | _ | k
 ·have hzk:=hzh h0 (by simp)
  refine dr ?_
  refine cP (fun hq=>?_) (fun hq=>?_)
  rotate_left
  ·simp at hq
  refine dr ?_
  repeat ((first | refine oB (by simp; omega) ?_ | refine oB (by simp) ?_); first | refine dr ?_ | exact dz)
  refine ⟨1,by omega,by omega,?_⟩
  refine KeepS.ren 512 15 rfl rfl (z:=none) ?_
  refine dr ?_
  repeat (refine oB (by simp) ?_; first | refine dr ?_ | exact dz)
  trivial
 ·have hzk:=hzh h1 (by simp)
  refine dr ?_
  refine cP (fun hq=>?_) (fun hq=>?_)
  rotate_left
  ·simp at hq
  refine dr ?_
  repeat ((first | refine oB (by simp; omega) ?_ | refine oB (by simp) ?_); first | refine dr ?_ | exact dz)
  refine ⟨2,by omega,by omega,?_⟩
  refine KeepS.ren 512 31 rfl rfl (z:=none) ?_
  refine dr ?_
  repeat (refine oB (by simp) ?_; first | refine dr ?_ | exact dz)
  trivial
 ·have hzk:=hzh h2 (by simp)
  refine dr ?_
  refine cP (fun hq=>?_) (fun hq=>?_)
  rotate_left
  ·simp at hq
  refine dr ?_
  repeat ((first | refine oB (by simp; omega) ?_ | refine oB (by simp) ?_); first | refine dr ?_ | exact dz)
  refine ⟨3,by omega,by omega,?_⟩
  refine KeepS.ren 512 47 rfl rfl (z:=none) ?_
  refine dr ?_
  repeat (refine oB (by simp) ?_; first | refine dr ?_ | exact dz)
  trivial
 ·refine dr ?_
  refine cP (fun hq=>?_) (fun hq=>?_)
  ·simp at hq
  refine dr ?_
  repeat ((first | refine oB (by simp; omega) ?_ | refine oB (by simp) ?_); first | refine dr ?_ | exact dz)
  refine ⟨none,_,_,?_,(),trivial,rfl,rfl⟩
  refine dr ?_
  repeat (refine oB (by simp) ?_; first | refine dr ?_ | exact dz)
  trivial
 ·omega
theorem f_l5CopyP (W0:World) (w:Wld) (h0 h1 h2:List Hold) (hz:WZ 1000000 w) (h3:w.holds=[h0,h1,h2]):FunW Tryz.prog W0 45 [.c (eWld w)] [] (fun _:Unit=>True) (fun _ => .agg [.c (eEnts w.over.base),.c (eMarkss w.over.layers),.c (eMarks w.over.upper),I w.clock,I w.count,.own 7 w.leases.length,.own 4 3,.own 5 w.floors.length,.own 6 w.net.length,B w.waits,I w.op.kind,.c (CS w.op.path),.c (CS w.op.dest),.c (CS w.op.data)]) (fun _=>[(4,.rowP [.own 15 h0.length,.own 31 h1.length,.own 47 h2.length] 56),(15,.row (h0.map eHold) 7 53),(31,.row (h1.map eHold) 7 53),(47,.row (h2.map eHold) 7 53),(7,.row (w.leases.map eLease) 4 72),(5,.row (w.floors.map CI) 1 3),(6,.row (w.net.map eMsg) 9 55)]) :=
 ((((f_l5CopyP0 W0 w h0 h1 h2 hz h3).swp 14 4).swp 624 5).swp 704 6).swp 208 7
def c_spec_l5Bent:XC:=(.s (.r [.ex 3 (.box 1),.ex 4 (.alloc [.nil,.nil,.nil,(I 0),(I 0),.nil,.nil,.nil,.nil,(B false),(I 0),sE,sE,sE])]) (.s (.r [.l2 8 14 3,.ex 9 (.opn 45 [8]),.ex 5 (.alloc [.nil,.nil,.nil,(I 0),(I 0),.nil,.nil,.nil,.nil,(B false),(I 0),sE,sE,sE]),.nu (.st 14 5 9)]) (.s (.r [.f1 10 8 5,.l1 11 1 10,.ex 12 (.len false 11),.mv 6 12]) (.cut (.cut (.r [.mv 13 0,.ex 14 (.opn 38 [13,(.i 100)])]) (.blk 0 (.s (.r [.b1 16 .eql 14 (.i 0),.mv 15 16]) (.cnd 15 (.d [.f1 17 3 5,.exo [1,15,31,47] 18 (.ld false 1 17),.mv 19 0,.exo [1,15,31,47] 20 (.bsl 1 3 [(.k (.c (.sc (.int .i64 (.negSucc 2))))),(.i 1),(.k (.c (.sc (.int .i64 (.negSucc 0))))),(.i 10000)]),.exo [1,15,31,47] 21 (.opn 36 [19,20]),.b1 22 .add 18 21,.f1 23 3 5,.nu (.st 1 23 22)]) (.s (.r [.b1 25 .eql 14 (.i 1),.mv 24 25]) (.cnd 24 (.r [.mv 26 0,.f1 27 4 5,.l1 28 1 27,.b1 29 .sub 28 (.i 1),.ex 30 (.bsl 1 3 [(.i 0),(.k (.c (.sc (.int .i64 (.negSucc 0))))),29,(.i 10000)]),.ex 31 (.opn 36 [26,30]),.f1 32 4 5,.nu (.st 1 32 31)]) (.s (.r [.b1 34 .eql 14 (.i 2),.mv 33 34]) (.cnd 33 (.s (.r [.f1 35 5 5,.l1 36 1 35,.ex 37 (.len false 36),.b1 38 .gtr 37 (.i 0)]) (.cnd 38 (.r [.f1 39 5 5,.l1 40 1 39,.ex 41 (.slr 4 40 (.some (.i 1)) .none),.f1 42 5 5,.nu (.st 1 42 41)]) .skip)) (.s (.r [.b1 44 .eql 14 (.i 3),.mv 43 44]) (.cnd 43 (.s (.r [.f1 45 5 5,.l1 46 1 45,.ex 47 (.len false 46),.b1 48 .gtr 47 (.i 0)]) (.cnd 48 (.d [.f1 49 5 5,.l1 50 1 49,.f1 51 5 5,.l1 52 1 51,.ex 53 (.ia 4 52 (.i 0)),.l2 54 4 53,.ex 55 (.bsl 4 72 [54]),.ex 56 (.app false 4 40 72 50 55),.f1 57 5 5,.nu (.st 1 57 56)]) .skip)) (.s (.r [.b1 59 .eql 14 (.i 4),.mv 58 59]) (.cnd 58 (.d [.f1 60 6 5,.exo [1,15,31,47] 61 (.ld false 1 60),.mv 62 0,.exo [1,15,31,47] 63 (.opn 38 [62,(.i 3)]),.f1 64 6 5,.exo [1,15,31,47] 65 (.ld false 1 64),.mv 66 0,.exo [1,15,31,47] 67 (.opn 38 [66,(.i 3)]),.exo [1,15,31,47] 68 (.ia 1 65 67),.exo [1,15,31,47] 69 (.ld false 1 68),.mv 70 0,.exo [1,15,31,47] 71 (.opn 92 [70]),.mv 72 0,.exo [1,15,31,47] 73 (.opn 38 [72,(.i 3)]),.f1 74 3 5,.exo [1,15,31,47] 75 (.ld false 1 74),.mv 76 0,.exo [1,15,31,47] 77 (.opn 38 [76,(.i 3)]),.b1 78 .add 75 77,.ex 79 (.build [sE,(B false),sE,(B false),sE,(I 0),(I 0)] [(0,(1,71)),(5,(1,73)),(6,(1,78))]),.exo [1,15,31,47] 80 (.bsl 7 53 [79]),.exo [1,15,31,47] 81 (.app false 7 80 53 69 80),.exo [1,15,31,47] 82 (.ia 1 61 63),⟨.none,(.st 1 82 81),.none,false,[1,15,31,47]⟩]) (.s (.r [.b1 84 .eql 14 (.i 5),.mv 83 84]) (.cnd 83 (.d [.f1 85 7 5,.exo [1,15,31,47] 86 (.ld false 1 85),.mv 87 0,.exo [1,15,31,47] 88 (.opn 38 [87,(.i 3)]),.mv 89 0,.f1 90 4 5,.exo [1,15,31,47] 91 (.ld false 1 90),.f1 92 4 5,.exo [1,15,31,47] 93 (.ld false 1 92),.b1 94 .add 93 (.i 1),.exo [1,15,31,47] 95 (.bsl 1 3 [(.k (.c (.sc (.int .i64 (.negSucc 0))))),91,94,(.i 0)]),.exo [1,15,31,47] 96 (.opn 36 [89,95]),.exo [1,15,31,47] 97 (.ia 1 86 88),.nu (.st 1 97 96)]) (.s (.r [.b1 99 .eql 14 (.i 6),.mv 98 99]) (.cnd 98 (.s (.r [.mv 100 6,.b1 101 .gtr 100 (.i 0)]) (.cnd 101 (.s (.r [.mv 102 0,.mv 103 6,.ex 104 (.opn 38 [102,103]),.mv 7 104]) (.d [.f1 105 8 5,.exo [1,15,31,47] 106 (.ld false 1 105),.mv 107 7,.mv 108 0,.exo [1,15,31,47] 109 (.bsl 1 3 [(.i 0),(.i 5),(.i 2),(.i 4)]),.exo [1,15,31,47] 110 (.opn 36 [108,109]),.exo [1,15,31,47] 111 (.ia 9 106 107),.f1 112 0 111,.nu (.st 1 112 110)])) .skip)) (.s (.r [.b1 114 .eql 14 (.i 7),.mv 113 114]) (.cnd 113 (.d [.f1 115 8 5,.exo [1,15,31,47] 116 (.ld false 1 115),.mv 117 0,.exo [1,15,31,47] 118 (.opn 38 [117,(.i 4)]),.b1 119 .add (.i 1) 118,.mv 120 0,.exo [1,15,31,47] 121 (.opn 38 [120,(.i 4)]),.mv 122 0,.exo [1,15,31,47] 123 (.opn 92 [122]),.mv 124 0,.exo [1,15,31,47] 125 (.opn 38 [124,(.i 4)]),.ex 126 (.build [sE,(B false),sE,(B false),sE,(I 0),(I 0)] [(0,(1,123)),(5,(1,125))]),.ex 127 (.build [(I 0),(I 0),sE,(B false),sE,(B false),sE,(I 0),(I 0)] [(0,(1,119)),(1,(1,121)),(2,(7,126))]),.exo [1,15,31,47] 128 (.bsl 9 55 [127]),.ex 129 (.app false 9 96 55 116 128),.f1 130 8 5,.nu (.st 1 130 129)]) (.s (.r [.b1 132 .eql 14 (.i 8),.mv 131 132]) (.cnd 131 (.r [.f1 133 9 5,.l1 134 1 133,.ex 135 (.un .not 134),.f1 136 9 5,.nu (.st 1 136 135)]) (.s (.r [.b1 138 .eql 14 (.i 9),.mv 137 138]) (.cnd 137 (.r [.f1 140 0 5,.l2 141 3 140,.ex 142 (.build [(I 0),sE,sE,sE] [(0,(1,(.i 2))),(1,(1,(.s [47,97]))),(3,(1,(.s [113])))]),.c1 143 93 [141,142],.mv 139 143,.ex 144 (.ext 139 0),.ex 145 (.ext 139 1),.f1 146 0 5,.nu (.st 3 146 144)]) .skip)))))))))))))))))))))) (.s (.r [.l2 147 14 5,.nu (.st 14 4 147)]) .ret)))))
theorem c_spec_l5Bent_eq:compF Tryz.prog [45,38,36,92,1000001,1000015,1000031,1000047] 34=some (c_spec_l5Bent.ac,[(.cell 4 true 14)],148):=by kernel_rfl
abbrev bnC (w:Wld) (lv hv fv nv:PV):XB := .box [.c (eEnts w.over.base),.c (eMarkss w.over.layers),.c (eMarks w.over.upper),I w.clock,I w.count,lv,hv,fv,nv,B w.waits,I w.op.kind,.c (CS w.op.path),.c (CS w.op.dest),.c (CS w.op.data)]
abbrev bnH (h0 h1 h2:List Hold):XM:=[(4,.rowP [.own 15 h0.length,.own 31 h1.length,.own 47 h2.length] 56),(15,.row (h0.map eHold) 7 53),(31,.row (h1.map eHold) 7 53),(47,.row (h2.map eHold) 7 53)]
abbrev bnL (w:Wld):XM:=[(7,.row (w.leases.map eLease) 4 72)]
abbrev bnN (w:Wld):XM:=[(5,.row (w.floors.map CI) 1 3),(6,.row (w.net.map eMsg) 9 55)]
abbrev bnF (v:Int) (w:Wld):Fr:=[(0,.ptr 1 0),(4,.ptr 64 0),(5,.ptr 80 0),(6,I w.net.length),(14,.c (CI v))]
abbrev bnB (s:Str) (q:Int) (w:Wld) (lv hv:PV):XM:=[(1,rdB s q),(64,zWB),(80,bnC w lv hv (.own 5 w.floors.length) (.own 6 w.net.length))]++bnN w
theorem bn_shut {s:Str} {q:Int} {w:Wld} {h0 h1 h2:List Hold} (h3:w.holds=[h0,h1,h2]) {F:Fr} {m:XM} {z:Option Nat} (v:Int)
  (h:KeepX [1] z F m (bnF v w) (bnB s q w (.own 7 w.leases.length) (.own 4 3)++bnH h0 h1 h2++bnL w)):KeepX [1] (some 3) F m (bnF v w) (bnB s q w (.own 7 w.leases.length) (.c (eHoldss w.holds))++bnL w):=by
 refine KeepX.trans (z':=some 3) h ?_
 refine KeepS.trans (z:=some 3) (F1:=bnF v w) (m1:=(4,.rowP [.c (eHolds h0),.own 31 h1.length,.own 47 h2.length] 56)::(bnB s q w (.own 7 w.leases.length) (.own 4 3)++[(31,.row (h1.map eHold) 7 53),(47,.row (h2.map eHold) 7 53)]++bnL w)) (KeepS.pull 4 15 rfl rfl (by simp [frA,fr1]; rfl) rfl ?_) ?_
 ·refine dr ?_
  trivial
 refine KeepS.trans (z:=some 3) (F1:=bnF v w) (m1:=(4,.rowP [.c (eHolds h0),.c (eHolds h1),.own 47 h2.length] 56)::(bnB s q w (.own 7 w.leases.length) (.own 4 3)++[(47,.row (h2.map eHold) 7 53)]++bnL w)) (KeepS.pull 4 31 rfl rfl (by simp [frA,fr1]; rfl) rfl ?_) ?_
 ·refine dr ?_
  trivial
 refine KeepS.trans (z:=some 4) (F1:=bnF v w) (m1:=(4,.row [eHolds h0,eHolds h1,eHolds h2] 1 56)::(bnB s q w (.own 7 w.leases.length) (.own 4 3)++bnL w)) (KeepS.er (KeepS.pull 4 47 (Lp':=[.c (eHolds h0),.c (eHolds h1),.c (eHolds h2)]) rfl rfl (by simp [frA,fr1]; rfl) rfl ?_) rfl) ?_
 ·refine dr ?_
  trivial
 rw [h3]
 refine dr ?_
 repeat (refine oB (by simp) ?_; first | refine dr ?_ | exact dz)
 trivial
theorem bn_end {s:Str} {q:Int} (x:Wld) {F:Fr} {m:XM} {z:Option Nat}
  (h:KeepX [1] z F m [(4,.ptr 64 0),(5,.ptr 80 0)] (bnB s q x (.c (eLeases x.leases)) (.c (eHoldss x.holds)))):KeepX [1] (some 3) F m [(4,.ptr 64 0),(5,.ptr 80 0)] [(1,rdB s q),(64,zWB),(80,wBx x)]:=by
 refine KeepX.trans (z':=some 3) h ?_
 refine KeepX.trans (z:=some 5) (z':=some 6) (F1:=[(4,.ptr 64 0),(5,.ptr 80 0)]) (m1:=[(1,rdB s q),(64,zWB),(80,bnC x (.c (eLeases x.leases)) (.c (eHoldss x.holds)) (.c (eInts x.floors)) (.own 6 x.net.length)),(6,.row (x.net.map eMsg) 9 55)]) ?_ ?_
 ·refine dr ?_
  repeat (refine oB (by simp) ?_; first | refine dr ?_ | exact dz)
  trivial
 ·refine dr ?_
  repeat (refine oB (by simp) ?_; first | refine dr ?_ | exact dz)
  trivial
theorem bn_fin {s:Str} {q:Int} (x:Wld) (g0 g1 g2:List Hold) (hx:x.holds=[g0,g1,g2]) {F:Fr} {m:XM} {z:Option Nat}
  (h:KeepX [1] z F m [(4,.ptr 64 0),(5,.ptr 80 0)] ((4,.row [eHolds g0,eHolds g1,eHolds g2] 1 56)::bnB s q x (.c (eLeases x.leases)) (.own 4 3))):KeepX [1] (some 3) F m [(4,.ptr 64 0),(5,.ptr 80 0)] [(1,rdB s q),(64,zWB),(80,wBx x)]:=by
 refine bn_end x (z:=some 3) (KeepX.trans (z':=some 4) h ?_)
 rw [hx]
 refine dr ?_
 repeat (refine oB (by simp) ?_; first | refine dr ?_ | exact dz)
 trivial
theorem WR.hold {n:Nat} {w:Wld} (h:WR n w) {g0 g1 g2:List Hold} (e0:g0.length≤101+n) (e1:g1.length≤101+n) (e2:g2.length≤101+n):WR (n+1) { w with holds:=[g0,g1,g2] }:=by
 obtain ⟨⟨z1,⟨z2,z3⟩,z4,z5,z6⟩,h,f,ck,ct⟩:=h
 refine ⟨⟨z1.mono (by omega),⟨by simp only; omega,fun y hy=>?_⟩,by simp; omega,by simp only; omega,by simp only; omega⟩,rfl,f,by simp only; omega,by simp only; omega⟩
 simp only [List.mem_cons,List.not_mem_nil,or_false] at hy
 rcases hy with rfl | rfl | rfl<;>omega
def bnM (s:Str) (q:Int) (w:Wld) (h0 h1 h2:List Hold):Nat→XM
 | 0=>bnB s q w (.own 7 w.leases.length) (.c (eHoldss w.holds))++bnL w
 | 1=>bnB s q w (.c (eLeases w.leases)) (.own 4 3)++bnH h0 h1 h2
 | _=>bnB s q w (.c (eLeases w.leases)) (.c (eHoldss w.holds))
theorem WR.set {n:Nat} {w x:Wld} (h:WR n w) (h1:x.over=w.over∨OZ 32 x.over) (h2:x.leases.length≤w.leases.length+1) (h3:x.holds=w.holds) (h4:x.floors.length=w.floors.length) (h5:x.net.length≤w.net.length+1)
  (h6 : -(20000+20000 * (n:Int)+10010)≤x.clock∧x.clock≤20000+20000 * n+10010) (h7 : -(20000+20000 * (n:Int)+10010)≤x.count∧x.count≤20000+20000 * n+10010):WR (n+1) x:=by
 obtain ⟨⟨z1,⟨z2,z3⟩,z4,z5,z6⟩,h,f,ck,ct⟩:=h
 refine ⟨⟨?_,⟨by omega,fun y hy=>?_⟩,by rw [h3]; omega,by omega,by omega⟩,by rw [h3]; exact h,by omega,by omega,by omega⟩
 ·rcases h1 with e | h1
  ·rw [e]; exact z1.mono (by omega)
  ·exact h1.mono (by omega)
 ·rw [h3] at hy; have:=z3 y hy; omega
set_option maxHeartbeats 8000000 in
theorem f_l5Bent (W0:World) (s:Str) (p:Int) (n:Nat) (w:Wld) (hs:s.length≤2000) (hp:0≤p∧p≤90000) (hn:n≤1000) (hw:WR n w) :
  FunW Tryz.prog W0 34 [.ptr 1 0,.c (eWld w)] (Rd s p) (fun x:Wld × Int=>WR (n+1) x.1∧p≤x.2∧x.2≤p+8) (fun x => .c (eWld x.1)) (fun x=>Rd s x.2):=by
 obtain ⟨h0,h1,h2,h3⟩:∃ h0 h1 h2,w.holds=[h0,h1,h2]:=by
  have:=hw.h
  match hh:w.holds with
  | [a,b,c]=>exact ⟨a,b,c,rfl⟩
  | [] | [_] | [_,_] | _::_::_::_::_=>rw [hh] at this; simp at this
 have hz:=hw.z
 have hw':WR (n+1) w:=hw.mono (by omega)
 refine funW (c:=c_spec_l5Bent) mixed c_spec_l5Bent_eq (by simp) rfl rfl fun hg=>?_
 refine dr ?_
 refine oW (f_l5CopyP W0 w h0 h1 h2 (hz.mono (by omega)) h3) rfl trivial rfl rfl ⟨(),trivial⟩ fun _ _=>⟨rfl,?_⟩
 refine dEr ?_
 refine cutz 3 (σ:=Wld × Int) (fun _=>[(4,.ptr 64 0),(5,.ptr 80 0)]) (fun x=>[(1,rdB s x.2),(64,zWB),(80,wBx x.1)]) (fun x=>WR (n+1) x.1∧p≤x.2∧x.2≤p+8) ?_ ?_
 rotate_left
 ·rintro ⟨x,q⟩ ⟨hx,hq1,hq2⟩
  refine dr ?_
  refine ⟨none,_,_,?_,(x,q),⟨hx,hq1,hq2⟩,rfl,rfl⟩
  refine dr ?_
  trivial
 refine dr ?_
 refine cutz 3 (σ:=Int × Nat) (fun x=>bnF x.1 w) (fun x=>bnM s (p+1) w h0 h1 h2 x.2) (fun x=>(x.2=0∧x.1=3)∨(x.2=1∧x.1=4)∨(x.2=2∧x.1≠3∧x.1≠4)) ?_ ?_
 ·refine dr ?_
  refine oW (f_pick W0 s p 100 hs (by omega) (by omega)) rfl ⟨rfl,trivial⟩ rfl rfl ⟨0,by omega,by omega⟩ fun v hv=>⟨rfl,?_⟩
  refine dEr ?_
  by_cases a:v=3
  ·refine ⟨(v,0),.inl ⟨rfl,a⟩,bn_shut h3 v (z:=none) ?_⟩
   refine dr ?_
   trivial
  by_cases b:v=4
  ·refine ⟨(v,1),.inr (.inl ⟨rfl,b⟩),KeepX.s (z:=some 7) ?_⟩
   refine dr ?_
   repeat (refine oB (by simp) ?_; first | refine dr ?_ | exact dz)
   trivial
  refine ⟨(v,2),.inr (.inr ⟨rfl,a,b⟩),KeepX.trans (z':=some 7) (bn_shut (s:=s) (q:=p+1) h3 v (z:=none) ?_) ?_⟩
  ·refine dr ?_
   trivial
  ·refine dr ?_
   repeat (refine oB (by simp) ?_; first | refine dr ?_ | exact dz)
   trivial
 rintro ⟨v,k⟩ hvk
 simp only at hvk
 have ck:=hw.ck
 have ct:=hw.ct
 have hf3:=hw.f
 have hh3:=hw.h
 have zt:=hz.t
 have zl:=hz.z.l
 rcases hvk with ⟨rfl,rfl⟩ | ⟨rfl,rfl⟩ | ⟨rfl,hv3,hv4⟩
 ·
  refine dr ?_
  refine cP (fun k1=>?_) (fun k1=>?_)
  ·exact absurd k1 (by decide)
  refine dr ?_
  refine cP (fun k1=>?_) (fun k1=>?_)
  ·exact absurd k1 (by decide)
  refine dr ?_
  refine cP (fun k1=>?_) (fun k1=>?_)
  ·exact absurd k1 (by decide)
  refine dr ?_
  refine cP (fun k1=>?_) (fun k1=>?_)
  rotate_left
  ·exact absurd rfl k1
  refine dr ?_
  refine cP (fun k2=>?_) (fun k2=>?_)
  ·obtain ⟨l,ls,hl⟩:∃ l ls,w.leases=l::ls:=by
    cases h:w.leases with
    | nil=>rw [h] at k2; simp at k2
    | cons l ls=>exact ⟨l,ls,rfl⟩
   refine dr ?_
   repeat ((first | refine aM (j:=0) rfl (by omega) ?_ | refine oB (by simp; omega) ?_ | refine oB (by simp) ?_); first | refine dr ?_ | exact dz)
   refine ⟨({ w with leases:=w.leases++[w.leases[0]'(by omega)] },p+1),⟨hw.set (.inl rfl) (by simp) rfl rfl (by simp) (by simp only; omega) (by simp only; omega),by simp only; omega,by simp only; omega⟩,bn_end _ (z:=some 7) ?_⟩
   refine dr ?_
   repeat (refine oB (by first | (simp; done) | (simp; exact congrArg CV.row app1)) ?_; first | refine dr ?_ | exact dz)
   trivial
  ·refine dr ?_
   refine ⟨(w,p+1),⟨hw',by simp only; omega,by simp only; omega⟩,bn_end w (z:=some 7) ?_⟩
   refine dr ?_
   repeat (refine oB (by simp) ?_; first | refine dr ?_ | exact dz)
   trivial
 ·
  refine dr ?_
  refine cP (fun k1=>?_) (fun k1=>?_)
  ·exact absurd k1 (by decide)
  refine dr ?_
  refine cP (fun k1=>?_) (fun k1=>?_)
  ·exact absurd k1 (by decide)
  refine dr ?_
  refine cP (fun k1=>?_) (fun k1=>?_)
  ·exact absurd k1 (by decide)
  refine dr ?_
  refine cP (fun k1=>?_) (fun k1=>?_)
  ·exact absurd k1 (by decide)
  refine dr ?_
  refine cP (fun k1=>?_) (fun k1=>?_)
  rotate_left
  ·exact absurd rfl k1
  refine dr ?_
  refine oW (f_pick W0 s (p+1) 3 hs (by omega) (by omega)) rfl ⟨rfl,trivial⟩ rfl rfl ⟨0,by omega,by omega⟩ fun i hi=>⟨rfl,?_⟩
  refine dEr ?_
  refine oW (f_pick W0 s (p+1+1) 3 hs (by omega) (by omega)) rfl ⟨rfl,trivial⟩ rfl rfl ⟨0,by omega,by omega⟩ fun j hj=>⟨rfl,?_⟩
  refine dEr ?_
  obtain ⟨i,rfl⟩:∃ k:Nat,i=k:=⟨i.toNat,by omega⟩
  obtain ⟨j,rfl⟩:∃ k:Nat,j=k:=⟨j.toNat,by omega⟩
  have hi2:i < 3:=by have:=hi.2 (by omega); omega
  have hj2:j < 3:=by have:=hj.2 (by omega); omega
  clear hi hj
  have z3:=hz.z.h
  rw [h3] at z3
  have e0:=z3 h0 (by simp)
  have e1:=z3 h1 (by simp)
  have e2:=z3 h2 (by simp)
  have hc:(i=0∨i=1∨i=2)∧(j=0∨j=1∨j=2):=⟨by omega,by omega⟩
  obtain ⟨rfl | rfl | rfl,rfl | rfl | rfl⟩:=hc
  ·
   refine dr ?_
   repeat ((first | refine nE (j:=0) rfl ?_ | refine oB (by decide) ?_); first | refine dr ?_ | exact dz)
   refine oW (f_l1Path W0 s (p+1+1+1) hs (by omega)) rfl ⟨rfl,trivial⟩ rfl rfl ⟨_,List.mem_cons_self⟩ fun a3 ha3=>⟨rfl,?_⟩
   refine dEr ?_
   refine oW (f_pick W0 s (p+1+1+1+1) 3 hs (by omega) (by omega)) rfl ⟨rfl,trivial⟩ rfl rfl ⟨0,by omega,by omega⟩ fun a4 ha4=>⟨rfl,?_⟩
   refine dEr ?_
   refine oW (f_pick W0 s (p+1+1+1+1+1) 3 hs (by omega) (by omega)) rfl ⟨rfl,trivial⟩ rfl rfl ⟨0,by omega,by omega⟩ fun a5 ha5=>⟨rfl,?_⟩
   have ha5':=ha5.2 (by omega)
   refine dEr ?_
   repeat (refine oB (by omega) ?_; first | refine dEr ?_ | exact dz)
   refine ⟨({ w with holds:=[h0++[⟨a3,false,noE,a4,w.clock+a5⟩],h1,h2] },p+1+1+1+1+1+1),⟨hw.hold (by first | omega | (simp; omega)) (by first | omega | (simp; omega)) (by first | omega | (simp; omega)),by simp only; omega,by simp only; omega⟩,bn_fin _ (h0++[⟨a3,false,noE,a4,w.clock+a5⟩]) (h1) (h2) rfl (z:=some 3) ?_⟩
   refine KeepS.trans (z:=some 3) (F1:=[(4,.ptr 64 0),(5,.ptr 80 0)]) (m1:=(4,.rowP [.c (eHolds (h0++[⟨a3,false,noE,a4,w.clock+a5⟩])),.c (eHolds h1),.own 47 h2.length] 56)::(bnB s (p+1+1+1+1+1+1) w (.c (eLeases w.leases)) (.own 4 3)++[(47,.row (h2.map eHold) 7 53)])) (KeepS.pull 4 31 (m3:=bnB s (p+1+1+1+1+1+1) w (.c (eLeases w.leases)) (.own 4 3)++[(47,.row (h2.map eHold) 7 53)]) (Lp':=[.c (eHolds (h0++[⟨a3,false,noE,a4,w.clock+a5⟩])),.c (eHolds h1),.own 47 h2.length]) rfl rfl (by simp [frA,fr1,eHolds]<;>rfl) rfl ?_) ?_
   ·refine dr ?_
    repeat (refine oB (by first | (simp; done) | (simp [eHolds]; rfl)) ?_; first | refine dr ?_ | exact dz)
    trivial
   refine KeepS.trans (z:=none) (F1:=[(4,.ptr 64 0),(5,.ptr 80 0)]) (m1:=(4,.row [eHolds (h0++[⟨a3,false,noE,a4,w.clock+a5⟩]),eHolds (h1),eHolds (h2)] 1 56)::(bnB s (p+1+1+1+1+1+1) w (.c (eLeases w.leases)) (.own 4 3))) (KeepS.er (KeepS.pull 4 47 (m3:=bnB s (p+1+1+1+1+1+1) w (.c (eLeases w.leases)) (.own 4 3)) (Lp':=[.c (eHolds (h0++[⟨a3,false,noE,a4,w.clock+a5⟩])),.c (eHolds h1),.c (eHolds h2)]) rfl rfl (by simp [frA,fr1,eHolds]<;>rfl) rfl ?_) rfl) ?_
   ·refine dr ?_
    repeat (refine oB (by first | (simp; done) | (simp [eHolds]; rfl)) ?_; first | refine dr ?_ | exact dz)
    trivial
   refine dr ?_
   repeat (refine oB (by first | (simp; done) | (simp [eHolds]; rfl)) ?_; first | refine dr ?_ | exact dz)
   trivial
  ·
   refine dr ?_
   repeat ((first | refine nE (j:=1) rfl ?_ | refine oB (by decide) ?_); first | refine dr ?_ | exact dz)
   refine oW (f_l1Path W0 s (p+1+1+1) hs (by omega)) rfl ⟨rfl,trivial⟩ rfl rfl ⟨_,List.mem_cons_self⟩ fun a3 ha3=>⟨rfl,?_⟩
   refine dEr ?_
   refine oW (f_pick W0 s (p+1+1+1+1) 3 hs (by omega) (by omega)) rfl ⟨rfl,trivial⟩ rfl rfl ⟨0,by omega,by omega⟩ fun a4 ha4=>⟨rfl,?_⟩
   refine dEr ?_
   refine oW (f_pick W0 s (p+1+1+1+1+1) 3 hs (by omega) (by omega)) rfl ⟨rfl,trivial⟩ rfl rfl ⟨0,by omega,by omega⟩ fun a5 ha5=>⟨rfl,?_⟩
   have ha5':=ha5.2 (by omega)
   refine dEr ?_
   repeat (refine oB (by omega) ?_; first | refine dEr ?_ | exact dz)
   refine ⟨({ w with holds:=[h1++[⟨a3,false,noE,a4,w.clock+a5⟩],h1,h2] },p+1+1+1+1+1+1),⟨hw.hold (by first | omega | (simp; omega)) (by first | omega | (simp; omega)) (by first | omega | (simp; omega)),by simp only; omega,by simp only; omega⟩,bn_fin _ (h1++[⟨a3,false,noE,a4,w.clock+a5⟩]) (h1) (h2) rfl (z:=some 3) ?_⟩
   refine KeepS.trans (z:=some 3) (KeepS.ung 4 31 (n:=h1.length) (C:=h1.map eHold) (Lp':=[.c (.row (h1.map eHold++[.agg [CS a3,CB false,CS [],CB false,CS [],CI a4,CI (w.clock+a5)]])),.c (eHolds h1),.own 47 h2.length]) rfl rfl (by simp) ⟨.inl rfl,.inr ⟨rfl,rfl⟩,.inl rfl,trivial⟩) ?_
   refine KeepS.trans (z:=none) (F1:=[(4,.ptr 64 0),(5,.ptr 80 0)]) (m1:=(4,.row [eHolds (h1++[⟨a3,false,noE,a4,w.clock+a5⟩]),eHolds (h1),eHolds (h2)] 1 56)::(bnB s (p+1+1+1+1+1+1) w (.c (eLeases w.leases)) (.own 4 3))) (KeepS.er (KeepS.pull 4 47 (m3:=bnB s (p+1+1+1+1+1+1) w (.c (eLeases w.leases)) (.own 4 3)) (Lp':=[.c (eHolds (h1++[⟨a3,false,noE,a4,w.clock+a5⟩])),.c (eHolds h1),.c (eHolds h2)]) rfl rfl (by simp [frA,fr1,eHolds]<;>rfl) rfl ?_) rfl) ?_
   ·refine dr ?_
    repeat (refine oB (by first | (simp; done) | (simp [eHolds]; rfl)) ?_; first | refine dr ?_ | exact dz)
    trivial
   refine dr ?_
   repeat (refine oB (by first | (simp; done) | (simp [eHolds]; rfl)) ?_; first | refine dr ?_ | exact dz)
   trivial
  ·
   refine dr ?_
   repeat ((first | refine nE (j:=2) rfl ?_ | refine oB (by decide) ?_); first | refine dr ?_ | exact dz)
   refine oW (f_l1Path W0 s (p+1+1+1) hs (by omega)) rfl ⟨rfl,trivial⟩ rfl rfl ⟨_,List.mem_cons_self⟩ fun a3 ha3=>⟨rfl,?_⟩
   refine dEr ?_
   refine oW (f_pick W0 s (p+1+1+1+1) 3 hs (by omega) (by omega)) rfl ⟨rfl,trivial⟩ rfl rfl ⟨0,by omega,by omega⟩ fun a4 ha4=>⟨rfl,?_⟩
   refine dEr ?_
   refine oW (f_pick W0 s (p+1+1+1+1+1) 3 hs (by omega) (by omega)) rfl ⟨rfl,trivial⟩ rfl rfl ⟨0,by omega,by omega⟩ fun a5 ha5=>⟨rfl,?_⟩
   have ha5':=ha5.2 (by omega)
   refine dEr ?_
   repeat (refine oB (by omega) ?_; first | refine dEr ?_ | exact dz)
   refine ⟨({ w with holds:=[h2++[⟨a3,false,noE,a4,w.clock+a5⟩],h1,h2] },p+1+1+1+1+1+1),⟨hw.hold (by first | omega | (simp; omega)) (by first | omega | (simp; omega)) (by first | omega | (simp; omega)),by simp only; omega,by simp only; omega⟩,bn_fin _ (h2++[⟨a3,false,noE,a4,w.clock+a5⟩]) (h1) (h2) rfl (z:=some 3) ?_⟩
   refine KeepS.trans (z:=some 3) (KeepS.ung 4 47 (n:=h2.length) (C:=h2.map eHold) (Lp':=[.c (.row (h2.map eHold++[.agg [CS a3,CB false,CS [],CB false,CS [],CI a4,CI (w.clock+a5)]])),.own 31 h1.length,.c (eHolds h2)]) rfl rfl (by simp) ⟨.inl rfl,.inl rfl,.inr ⟨rfl,rfl⟩,trivial⟩) ?_
   refine KeepS.trans (z:=none) (F1:=[(4,.ptr 64 0),(5,.ptr 80 0)]) (m1:=(4,.row [eHolds (h2++[⟨a3,false,noE,a4,w.clock+a5⟩]),eHolds (h1),eHolds (h2)] 1 56)::(bnB s (p+1+1+1+1+1+1) w (.c (eLeases w.leases)) (.own 4 3))) (KeepS.er (KeepS.pull 4 31 (m3:=bnB s (p+1+1+1+1+1+1) w (.c (eLeases w.leases)) (.own 4 3)) (Lp':=[.c (eHolds (h2++[⟨a3,false,noE,a4,w.clock+a5⟩])),.c (eHolds h1),.c (eHolds h2)]) rfl rfl (by simp [frA,fr1,eHolds]<;>rfl) rfl ?_) rfl) ?_
   ·refine dr ?_
    repeat (refine oB (by first | (simp; done) | (simp [eHolds]; rfl)) ?_; first | refine dr ?_ | exact dz)
    trivial
   refine dr ?_
   repeat (refine oB (by first | (simp; done) | (simp [eHolds]; rfl)) ?_; first | refine dr ?_ | exact dz)
   trivial
  ·
   refine dr ?_
   repeat ((first | refine nE (j:=0) rfl ?_ | refine oB (by decide) ?_); first | refine dr ?_ | exact dz)
   refine oW (f_l1Path W0 s (p+1+1+1) hs (by omega)) rfl ⟨rfl,trivial⟩ rfl rfl ⟨_,List.mem_cons_self⟩ fun a3 ha3=>⟨rfl,?_⟩
   refine dEr ?_
   refine oW (f_pick W0 s (p+1+1+1+1) 3 hs (by omega) (by omega)) rfl ⟨rfl,trivial⟩ rfl rfl ⟨0,by omega,by omega⟩ fun a4 ha4=>⟨rfl,?_⟩
   refine dEr ?_
   refine oW (f_pick W0 s (p+1+1+1+1+1) 3 hs (by omega) (by omega)) rfl ⟨rfl,trivial⟩ rfl rfl ⟨0,by omega,by omega⟩ fun a5 ha5=>⟨rfl,?_⟩
   have ha5':=ha5.2 (by omega)
   refine dEr ?_
   repeat (refine oB (by omega) ?_; first | refine dEr ?_ | exact dz)
   refine ⟨({ w with holds:=[h0,h0++[⟨a3,false,noE,a4,w.clock+a5⟩],h2] },p+1+1+1+1+1+1),⟨hw.hold (by first | omega | (simp; omega)) (by first | omega | (simp; omega)) (by first | omega | (simp; omega)),by simp only; omega,by simp only; omega⟩,bn_fin _ (h0) (h0++[⟨a3,false,noE,a4,w.clock+a5⟩]) (h2) rfl (z:=some 3) ?_⟩
   refine KeepS.trans (z:=some 3) (KeepS.ung 4 15 (n:=h0.length) (C:=h0.map eHold) (Lp':=[.c (eHolds h0),.c (.row (h0.map eHold++[.agg [CS a3,CB false,CS [],CB false,CS [],CI a4,CI (w.clock+a5)]])),.own 47 h2.length]) rfl rfl (by simp) ⟨.inr ⟨rfl,rfl⟩,.inl rfl,.inl rfl,trivial⟩) ?_
   refine KeepS.trans (z:=none) (F1:=[(4,.ptr 64 0),(5,.ptr 80 0)]) (m1:=(4,.row [eHolds (h0),eHolds (h0++[⟨a3,false,noE,a4,w.clock+a5⟩]),eHolds (h2)] 1 56)::(bnB s (p+1+1+1+1+1+1) w (.c (eLeases w.leases)) (.own 4 3))) (KeepS.er (KeepS.pull 4 47 (m3:=bnB s (p+1+1+1+1+1+1) w (.c (eLeases w.leases)) (.own 4 3)) (Lp':=[.c (eHolds h0),.c (eHolds (h0++[⟨a3,false,noE,a4,w.clock+a5⟩])),.c (eHolds h2)]) rfl rfl (by simp [frA,fr1,eHolds]<;>rfl) rfl ?_) rfl) ?_
   ·refine dr ?_
    repeat (refine oB (by first | (simp; done) | (simp [eHolds]; rfl)) ?_; first | refine dr ?_ | exact dz)
    trivial
   refine dr ?_
   repeat (refine oB (by first | (simp; done) | (simp [eHolds]; rfl)) ?_; first | refine dr ?_ | exact dz)
   trivial
  ·
   refine dr ?_
   repeat ((first | refine nE (j:=1) rfl ?_ | refine oB (by decide) ?_); first | refine dr ?_ | exact dz)
   refine oW (f_l1Path W0 s (p+1+1+1) hs (by omega)) rfl ⟨rfl,trivial⟩ rfl rfl ⟨_,List.mem_cons_self⟩ fun a3 ha3=>⟨rfl,?_⟩
   refine dEr ?_
   refine oW (f_pick W0 s (p+1+1+1+1) 3 hs (by omega) (by omega)) rfl ⟨rfl,trivial⟩ rfl rfl ⟨0,by omega,by omega⟩ fun a4 ha4=>⟨rfl,?_⟩
   refine dEr ?_
   refine oW (f_pick W0 s (p+1+1+1+1+1) 3 hs (by omega) (by omega)) rfl ⟨rfl,trivial⟩ rfl rfl ⟨0,by omega,by omega⟩ fun a5 ha5=>⟨rfl,?_⟩
   have ha5':=ha5.2 (by omega)
   refine dEr ?_
   repeat (refine oB (by omega) ?_; first | refine dEr ?_ | exact dz)
   refine ⟨({ w with holds:=[h0,h1++[⟨a3,false,noE,a4,w.clock+a5⟩],h2] },p+1+1+1+1+1+1),⟨hw.hold (by first | omega | (simp; omega)) (by first | omega | (simp; omega)) (by first | omega | (simp; omega)),by simp only; omega,by simp only; omega⟩,bn_fin _ (h0) (h1++[⟨a3,false,noE,a4,w.clock+a5⟩]) (h2) rfl (z:=some 3) ?_⟩
   refine KeepS.trans (z:=some 3) (F1:=[(4,.ptr 64 0),(5,.ptr 80 0)]) (m1:=(4,.rowP [.c (eHolds h0),.c (eHolds (h1++[⟨a3,false,noE,a4,w.clock+a5⟩])),.own 47 h2.length] 56)::(bnB s (p+1+1+1+1+1+1) w (.c (eLeases w.leases)) (.own 4 3)++[(47,.row (h2.map eHold) 7 53)])) (KeepS.pull 4 15 (m3:=bnB s (p+1+1+1+1+1+1) w (.c (eLeases w.leases)) (.own 4 3)++[(47,.row (h2.map eHold) 7 53)]) (Lp':=[.c (eHolds h0),.c (eHolds (h1++[⟨a3,false,noE,a4,w.clock+a5⟩])),.own 47 h2.length]) rfl rfl (by simp [frA,fr1,eHolds]<;>rfl) rfl ?_) ?_
   ·refine dr ?_
    repeat (refine oB (by first | (simp; done) | (simp [eHolds]; rfl)) ?_; first | refine dr ?_ | exact dz)
    trivial
   refine KeepS.trans (z:=none) (F1:=[(4,.ptr 64 0),(5,.ptr 80 0)]) (m1:=(4,.row [eHolds (h0),eHolds (h1++[⟨a3,false,noE,a4,w.clock+a5⟩]),eHolds (h2)] 1 56)::(bnB s (p+1+1+1+1+1+1) w (.c (eLeases w.leases)) (.own 4 3))) (KeepS.er (KeepS.pull 4 47 (m3:=bnB s (p+1+1+1+1+1+1) w (.c (eLeases w.leases)) (.own 4 3)) (Lp':=[.c (eHolds h0),.c (eHolds (h1++[⟨a3,false,noE,a4,w.clock+a5⟩])),.c (eHolds h2)]) rfl rfl (by simp [frA,fr1,eHolds]<;>rfl) rfl ?_) rfl) ?_
   ·refine dr ?_
    repeat (refine oB (by first | (simp; done) | (simp [eHolds]; rfl)) ?_; first | refine dr ?_ | exact dz)
    trivial
   refine dr ?_
   repeat (refine oB (by first | (simp; done) | (simp [eHolds]; rfl)) ?_; first | refine dr ?_ | exact dz)
   trivial
  ·
   refine dr ?_
   repeat ((first | refine nE (j:=2) rfl ?_ | refine oB (by decide) ?_); first | refine dr ?_ | exact dz)
   refine oW (f_l1Path W0 s (p+1+1+1) hs (by omega)) rfl ⟨rfl,trivial⟩ rfl rfl ⟨_,List.mem_cons_self⟩ fun a3 ha3=>⟨rfl,?_⟩
   refine dEr ?_
   refine oW (f_pick W0 s (p+1+1+1+1) 3 hs (by omega) (by omega)) rfl ⟨rfl,trivial⟩ rfl rfl ⟨0,by omega,by omega⟩ fun a4 ha4=>⟨rfl,?_⟩
   refine dEr ?_
   refine oW (f_pick W0 s (p+1+1+1+1+1) 3 hs (by omega) (by omega)) rfl ⟨rfl,trivial⟩ rfl rfl ⟨0,by omega,by omega⟩ fun a5 ha5=>⟨rfl,?_⟩
   have ha5':=ha5.2 (by omega)
   refine dEr ?_
   repeat (refine oB (by omega) ?_; first | refine dEr ?_ | exact dz)
   refine ⟨({ w with holds:=[h0,h2++[⟨a3,false,noE,a4,w.clock+a5⟩],h2] },p+1+1+1+1+1+1),⟨hw.hold (by first | omega | (simp; omega)) (by first | omega | (simp; omega)) (by first | omega | (simp; omega)),by simp only; omega,by simp only; omega⟩,bn_fin _ (h0) (h2++[⟨a3,false,noE,a4,w.clock+a5⟩]) (h2) rfl (z:=some 3) ?_⟩
   refine KeepS.trans (z:=some 3) (KeepS.ung 4 47 (n:=h2.length) (C:=h2.map eHold) (Lp':=[.own 15 h0.length,.c (.row (h2.map eHold++[.agg [CS a3,CB false,CS [],CB false,CS [],CI a4,CI (w.clock+a5)]])),.c (eHolds h2)]) rfl rfl (by simp) ⟨.inl rfl,.inl rfl,.inr ⟨rfl,rfl⟩,trivial⟩) ?_
   refine KeepS.trans (z:=none) (F1:=[(4,.ptr 64 0),(5,.ptr 80 0)]) (m1:=(4,.row [eHolds (h0),eHolds (h2++[⟨a3,false,noE,a4,w.clock+a5⟩]),eHolds (h2)] 1 56)::(bnB s (p+1+1+1+1+1+1) w (.c (eLeases w.leases)) (.own 4 3))) (KeepS.er (KeepS.pull 4 15 (m3:=bnB s (p+1+1+1+1+1+1) w (.c (eLeases w.leases)) (.own 4 3)) (Lp':=[.c (eHolds h0),.c (eHolds (h2++[⟨a3,false,noE,a4,w.clock+a5⟩])),.c (eHolds h2)]) rfl rfl (by simp [frA,fr1,eHolds]<;>rfl) rfl ?_) rfl) ?_
   ·refine dr ?_
    repeat (refine oB (by first | (simp; done) | (simp [eHolds]; rfl)) ?_; first | refine dr ?_ | exact dz)
    trivial
   refine dr ?_
   repeat (refine oB (by first | (simp; done) | (simp [eHolds]; rfl)) ?_; first | refine dr ?_ | exact dz)
   trivial
  ·
   refine dr ?_
   repeat ((first | refine nE (j:=0) rfl ?_ | refine oB (by decide) ?_); first | refine dr ?_ | exact dz)
   refine oW (f_l1Path W0 s (p+1+1+1) hs (by omega)) rfl ⟨rfl,trivial⟩ rfl rfl ⟨_,List.mem_cons_self⟩ fun a3 ha3=>⟨rfl,?_⟩
   refine dEr ?_
   refine oW (f_pick W0 s (p+1+1+1+1) 3 hs (by omega) (by omega)) rfl ⟨rfl,trivial⟩ rfl rfl ⟨0,by omega,by omega⟩ fun a4 ha4=>⟨rfl,?_⟩
   refine dEr ?_
   refine oW (f_pick W0 s (p+1+1+1+1+1) 3 hs (by omega) (by omega)) rfl ⟨rfl,trivial⟩ rfl rfl ⟨0,by omega,by omega⟩ fun a5 ha5=>⟨rfl,?_⟩
   have ha5':=ha5.2 (by omega)
   refine dEr ?_
   repeat (refine oB (by omega) ?_; first | refine dEr ?_ | exact dz)
   refine ⟨({ w with holds:=[h0,h1,h0++[⟨a3,false,noE,a4,w.clock+a5⟩]] },p+1+1+1+1+1+1),⟨hw.hold (by first | omega | (simp; omega)) (by first | omega | (simp; omega)) (by first | omega | (simp; omega)),by simp only; omega,by simp only; omega⟩,bn_fin _ (h0) (h1) (h0++[⟨a3,false,noE,a4,w.clock+a5⟩]) rfl (z:=some 3) ?_⟩
   refine KeepS.trans (z:=some 3) (KeepS.ung 4 15 (n:=h0.length) (C:=h0.map eHold) (Lp':=[.c (eHolds h0),.own 31 h1.length,.c (.row (h0.map eHold++[.agg [CS a3,CB false,CS [],CB false,CS [],CI a4,CI (w.clock+a5)]]))]) rfl rfl (by simp) ⟨.inr ⟨rfl,rfl⟩,.inl rfl,.inl rfl,trivial⟩) ?_
   refine KeepS.trans (z:=none) (F1:=[(4,.ptr 64 0),(5,.ptr 80 0)]) (m1:=(4,.row [eHolds (h0),eHolds (h1),eHolds (h0++[⟨a3,false,noE,a4,w.clock+a5⟩])] 1 56)::(bnB s (p+1+1+1+1+1+1) w (.c (eLeases w.leases)) (.own 4 3))) (KeepS.er (KeepS.pull 4 31 (m3:=bnB s (p+1+1+1+1+1+1) w (.c (eLeases w.leases)) (.own 4 3)) (Lp':=[.c (eHolds h0),.c (eHolds h1),.c (eHolds (h0++[⟨a3,false,noE,a4,w.clock+a5⟩]))]) rfl rfl (by simp [frA,fr1,eHolds]<;>rfl) rfl ?_) rfl) ?_
   ·refine dr ?_
    repeat (refine oB (by first | (simp; done) | (simp [eHolds]; rfl)) ?_; first | refine dr ?_ | exact dz)
    trivial
   refine dr ?_
   repeat (refine oB (by first | (simp; done) | (simp [eHolds]; rfl)) ?_; first | refine dr ?_ | exact dz)
   trivial
  ·
   refine dr ?_
   repeat ((first | refine nE (j:=1) rfl ?_ | refine oB (by decide) ?_); first | refine dr ?_ | exact dz)
   refine oW (f_l1Path W0 s (p+1+1+1) hs (by omega)) rfl ⟨rfl,trivial⟩ rfl rfl ⟨_,List.mem_cons_self⟩ fun a3 ha3=>⟨rfl,?_⟩
   refine dEr ?_
   refine oW (f_pick W0 s (p+1+1+1+1) 3 hs (by omega) (by omega)) rfl ⟨rfl,trivial⟩ rfl rfl ⟨0,by omega,by omega⟩ fun a4 ha4=>⟨rfl,?_⟩
   refine dEr ?_
   refine oW (f_pick W0 s (p+1+1+1+1+1) 3 hs (by omega) (by omega)) rfl ⟨rfl,trivial⟩ rfl rfl ⟨0,by omega,by omega⟩ fun a5 ha5=>⟨rfl,?_⟩
   have ha5':=ha5.2 (by omega)
   refine dEr ?_
   repeat (refine oB (by omega) ?_; first | refine dEr ?_ | exact dz)
   refine ⟨({ w with holds:=[h0,h1,h1++[⟨a3,false,noE,a4,w.clock+a5⟩]] },p+1+1+1+1+1+1),⟨hw.hold (by first | omega | (simp; omega)) (by first | omega | (simp; omega)) (by first | omega | (simp; omega)),by simp only; omega,by simp only; omega⟩,bn_fin _ (h0) (h1) (h1++[⟨a3,false,noE,a4,w.clock+a5⟩]) rfl (z:=some 3) ?_⟩
   refine KeepS.trans (z:=some 3) (KeepS.ung 4 31 (n:=h1.length) (C:=h1.map eHold) (Lp':=[.own 15 h0.length,.c (eHolds h1),.c (.row (h1.map eHold++[.agg [CS a3,CB false,CS [],CB false,CS [],CI a4,CI (w.clock+a5)]]))]) rfl rfl (by simp) ⟨.inl rfl,.inr ⟨rfl,rfl⟩,.inl rfl,trivial⟩) ?_
   refine KeepS.trans (z:=none) (F1:=[(4,.ptr 64 0),(5,.ptr 80 0)]) (m1:=(4,.row [eHolds (h0),eHolds (h1),eHolds (h1++[⟨a3,false,noE,a4,w.clock+a5⟩])] 1 56)::(bnB s (p+1+1+1+1+1+1) w (.c (eLeases w.leases)) (.own 4 3))) (KeepS.er (KeepS.pull 4 15 (m3:=bnB s (p+1+1+1+1+1+1) w (.c (eLeases w.leases)) (.own 4 3)) (Lp':=[.c (eHolds h0),.c (eHolds h1),.c (eHolds (h1++[⟨a3,false,noE,a4,w.clock+a5⟩]))]) rfl rfl (by simp [frA,fr1,eHolds]<;>rfl) rfl ?_) rfl) ?_
   ·refine dr ?_
    repeat (refine oB (by first | (simp; done) | (simp [eHolds]; rfl)) ?_; first | refine dr ?_ | exact dz)
    trivial
   refine dr ?_
   repeat (refine oB (by first | (simp; done) | (simp [eHolds]; rfl)) ?_; first | refine dr ?_ | exact dz)
   trivial
  ·
   refine dr ?_
   repeat ((first | refine nE (j:=2) rfl ?_ | refine oB (by decide) ?_); first | refine dr ?_ | exact dz)
   refine oW (f_l1Path W0 s (p+1+1+1) hs (by omega)) rfl ⟨rfl,trivial⟩ rfl rfl ⟨_,List.mem_cons_self⟩ fun a3 ha3=>⟨rfl,?_⟩
   refine dEr ?_
   refine oW (f_pick W0 s (p+1+1+1+1) 3 hs (by omega) (by omega)) rfl ⟨rfl,trivial⟩ rfl rfl ⟨0,by omega,by omega⟩ fun a4 ha4=>⟨rfl,?_⟩
   refine dEr ?_
   refine oW (f_pick W0 s (p+1+1+1+1+1) 3 hs (by omega) (by omega)) rfl ⟨rfl,trivial⟩ rfl rfl ⟨0,by omega,by omega⟩ fun a5 ha5=>⟨rfl,?_⟩
   have ha5':=ha5.2 (by omega)
   refine dEr ?_
   repeat (refine oB (by omega) ?_; first | refine dEr ?_ | exact dz)
   refine ⟨({ w with holds:=[h0,h1,h2++[⟨a3,false,noE,a4,w.clock+a5⟩]] },p+1+1+1+1+1+1),⟨hw.hold (by first | omega | (simp; omega)) (by first | omega | (simp; omega)) (by first | omega | (simp; omega)),by simp only; omega,by simp only; omega⟩,bn_fin _ (h0) (h1) (h2++[⟨a3,false,noE,a4,w.clock+a5⟩]) rfl (z:=some 3) ?_⟩
   refine KeepS.trans (z:=some 3) (F1:=[(4,.ptr 64 0),(5,.ptr 80 0)]) (m1:=(4,.rowP [.c (eHolds h0),.own 31 h1.length,.c (eHolds (h2++[⟨a3,false,noE,a4,w.clock+a5⟩]))] 56)::(bnB s (p+1+1+1+1+1+1) w (.c (eLeases w.leases)) (.own 4 3)++[(31,.row (h1.map eHold) 7 53)])) (KeepS.pull 4 15 (m3:=bnB s (p+1+1+1+1+1+1) w (.c (eLeases w.leases)) (.own 4 3)++[(31,.row (h1.map eHold) 7 53)]) (Lp':=[.c (eHolds h0),.own 31 h1.length,.c (eHolds (h2++[⟨a3,false,noE,a4,w.clock+a5⟩]))]) rfl rfl (by simp [frA,fr1,eHolds]<;>rfl) rfl ?_) ?_
   ·refine dr ?_
    repeat (refine oB (by first | (simp; done) | (simp [eHolds]; rfl)) ?_; first | refine dr ?_ | exact dz)
    trivial
   refine KeepS.trans (z:=none) (F1:=[(4,.ptr 64 0),(5,.ptr 80 0)]) (m1:=(4,.row [eHolds (h0),eHolds (h1),eHolds (h2++[⟨a3,false,noE,a4,w.clock+a5⟩])] 1 56)::(bnB s (p+1+1+1+1+1+1) w (.c (eLeases w.leases)) (.own 4 3))) (KeepS.er (KeepS.pull 4 31 (m3:=bnB s (p+1+1+1+1+1+1) w (.c (eLeases w.leases)) (.own 4 3)) (Lp':=[.c (eHolds h0),.c (eHolds h1),.c (eHolds (h2++[⟨a3,false,noE,a4,w.clock+a5⟩]))]) rfl rfl (by simp [frA,fr1,eHolds]<;>rfl) rfl ?_) rfl) ?_
   ·refine dr ?_
    repeat (refine oB (by first | (simp; done) | (simp [eHolds]; rfl)) ?_; first | refine dr ?_ | exact dz)
    trivial
   refine dr ?_
   repeat (refine oB (by first | (simp; done) | (simp [eHolds]; rfl)) ?_; first | refine dr ?_ | exact dz)
   trivial
 ·refine dr ?_
  refine cP (fun k0=>?_) (fun k0=>?_)
  ·refine dr ?_
   refine oW (f_num W0 s (p+1) [-3,1,-1,10000] hs (by omega) (by decide)) rfl ⟨rfl,trivial⟩ rfl rfl ⟨1,by decide⟩ fun y hy=>⟨rfl,?_⟩
   have hy2 : -3≤y∧y≤10000:=by
    simp only [List.mem_cons,List.not_mem_nil,or_false] at hy
    omega
   refine dEr ?_
   repeat (refine oB (by omega) ?_; first | refine dEr ?_ | exact dz)
   refine ⟨({ w with clock:=w.clock+y },p+1+1),⟨hw.set (.inl rfl) (by simp) rfl rfl (by simp) (by simp only; omega) (by simp only; omega),by simp only; omega,by simp only; omega⟩,bn_end _ (z:=none) ?_⟩
   refine dr ?_
   repeat (refine oB (by simp) ?_; first | refine dr ?_ | exact dz)
   trivial
  refine dr ?_
  refine cP (fun k1=>?_) (fun k1=>?_)
  ·refine dr ?_
   repeat (refine oB (by omega) ?_; first | refine dr ?_ | exact dz)
   refine oW (f_num W0 s (p+1) [0,-1,w.count - 1,10000] hs (by omega) (by simp)) rfl ⟨rfl,trivial⟩ rfl rfl ⟨0,by simp⟩ fun y hy=>⟨rfl,?_⟩
   have hy2:y=0∨y = -1∨y=w.count - 1∨y=10000:=by
    simpa only [List.mem_cons,List.not_mem_nil,or_false] using hy
   refine dEr ?_
   refine ⟨({ w with count:=y },p+1+1),⟨hw.set (.inl rfl) (by simp) rfl rfl (by simp) (by simp only; omega) (by simp only; omega),by simp only; omega,by simp only; omega⟩,bn_end _ (z:=none) ?_⟩
   refine dr ?_
   repeat (refine oB (by simp) ?_; first | refine dr ?_ | exact dz)
   trivial
  refine dr ?_
  refine cP (fun k2=>?_) (fun k2=>?_)
  ·refine dr ?_
   refine cP (fun j2=>?_) (fun j2=>?_)
   ·refine dr ?_
    repeat (refine sLoM 1 rfl (by omega) ?_; first | refine dr ?_ | exact dz)
    refine ⟨({ w with leases:=w.leases.drop 1 },p+1),⟨hw.set (.inl rfl) (by simp; omega) rfl rfl (by simp) (by simp only; omega) (by simp only; omega),by simp only; omega,by simp only; omega⟩,bn_end _ (z:=none) ?_⟩
    refine dr ?_
    repeat (refine oB (by simp) ?_; first | refine dr ?_ | exact dz)
    trivial
   ·refine dr ?_
    refine ⟨(w,p+1),⟨hw',by simp only; omega,by simp only; omega⟩,bn_end w (z:=none) ?_⟩
    refine dr ?_
    trivial
  refine dr ?_
  refine cP (fun k3=>?_) (fun k3=>?_)
  ·exact absurd k3 hv3
  refine dr ?_
  refine cP (fun k4=>?_) (fun k4=>?_)
  ·exact absurd k4 hv4
  clear k3 k4
  refine dr ?_
  refine cP (fun k5=>?_) (fun k5=>?_)
  ·refine dr ?_
   refine oW (f_pick W0 s (p+1) 3 hs (by omega) (by omega)) rfl ⟨rfl,trivial⟩ rfl rfl ⟨0,by omega,by omega⟩ fun k hk=>⟨rfl,?_⟩
   obtain ⟨k,rfl⟩:∃ j:Nat,k=j:=⟨k.toNat,by omega⟩
   have hk':k < w.floors.length:=by have:=hk.2 (by omega); omega
   refine dEr ?_
   repeat (refine oB (by omega) ?_; first | refine dEr ?_ | exact dz)
   refine oW (f_num W0 s (p+1+1) [-1,w.count,w.count+1,0] hs (by omega) (by simp)) rfl ⟨rfl,trivial⟩ rfl rfl ⟨0,by simp⟩ fun y hy=>⟨rfl,?_⟩
   refine dEr ?_
   repeat ((first | refine aM (j:=k) rfl (by omega) ?_ | refine nE (j:=k) rfl ?_); first | refine dEr ?_ | exact dz)
   refine ⟨({ w with floors:=w.floors.set k y },p+1+1+1),⟨hw.set (.inl rfl) (by simp) rfl (by simp) (by simp) (by simp only; omega) (by simp only; omega),by simp only; omega,by simp only; omega⟩,bn_end _ (z:=none) ?_⟩
   refine dr ?_
   repeat (refine oB (by first | (simp; done) | (simp [List.map_set]; done)) ?_; first | refine dr ?_ | exact dz)
   trivial
  refine dr ?_
  refine cP (fun k6=>?_) (fun k6=>?_)
  ·refine dr ?_
   refine cP (fun j6=>?_) (fun j6=>?_)
   ·refine dr ?_
    refine oW (f_pick W0 s (p+1) w.net.length hs (by omega) (by omega)) rfl ⟨rfl,trivial⟩ rfl rfl ⟨0,by omega,by omega⟩ fun k hk=>⟨rfl,?_⟩
    obtain ⟨k,rfl⟩:∃ j:Nat,k=j:=⟨k.toNat,by omega⟩
    have hk':k < w.net.length:=by have:=hk.2 (by omega); omega
    refine dEr ?_
    refine oW (f_num W0 s (p+1+1) [0,5,2,4] hs (by omega) (by decide)) rfl ⟨rfl,trivial⟩ rfl rfl ⟨0,by decide⟩ fun y hy=>⟨rfl,?_⟩
    refine dEr ?_
    repeat ((first | refine aM (j:=k) rfl (by omega) ?_ | refine nE (j:=k) rfl ?_); first | refine dEr ?_ | exact dz)
    refine ⟨({ w with net:=w.net.set k ⟨y,w.net[k].who,w.net[k].hold⟩ },p+1+1+1),⟨hw.set (.inl rfl) (by simp) rfl rfl (by simp) (by simp only; omega) (by simp only; omega),by simp only; omega,by simp only; omega⟩,bn_end _ (z:=none) ?_⟩
    refine dr ?_
    repeat (refine oB (by first | (simp; done) | (simp [List.map_set]; rfl)) ?_; first | refine dr ?_ | exact dz)
    trivial
   ·refine dr ?_
    refine ⟨(w,p+1),⟨hw',by simp only; omega,by simp only; omega⟩,bn_end w (z:=none) ?_⟩
    refine dr ?_
    trivial
  refine dr ?_
  refine cP (fun k7=>?_) (fun k7=>?_)
  ·refine dr ?_
   refine oW (f_pick W0 s (p+1) 4 hs (by omega) (by omega)) rfl ⟨rfl,trivial⟩ rfl rfl ⟨0,by omega,by omega⟩ fun a1 ha1=>⟨rfl,?_⟩
   have ha1':=ha1.2 (by omega)
   have ha1'':=ha1.1
   refine dEr ?_
   repeat (refine oB (by omega) ?_; first | refine dEr ?_ | exact dz)
   refine oW (f_pick W0 s (p+1+1) 4 hs (by omega) (by omega)) rfl ⟨rfl,trivial⟩ rfl rfl ⟨0,by omega,by omega⟩ fun a2 ha2=>⟨rfl,?_⟩
   refine dEr ?_
   refine oW (f_l1Path W0 s (p+1+1+1) hs (by omega)) rfl ⟨rfl,trivial⟩ rfl rfl ⟨_,List.mem_cons_self⟩ fun a3 ha3=>⟨rfl,?_⟩
   refine dEr ?_
   refine oW (f_pick W0 s (p+1+1+1+1) 4 hs (by omega) (by omega)) rfl ⟨rfl,trivial⟩ rfl rfl ⟨0,by omega,by omega⟩ fun a4 ha4=>⟨rfl,?_⟩
   refine dEr ?_
   repeat ((first | refine oB (by simp; omega) ?_ | refine oB (by simp) ?_); first | refine dEr ?_ | exact dz)
   refine ⟨({ w with net:=w.net++[⟨1+a1,a2,⟨a3,false,noE,a4,0⟩⟩] },p+1+1+1+1+1),⟨hw.set (.inl rfl) (by simp) rfl rfl (by simp) (by simp only; omega) (by simp only; omega),by simp only; omega,by simp only; omega⟩,bn_end _ (z:=none) ?_⟩
   refine dr ?_
   repeat (refine oB (by first | (simp; done) | (simp; rfl)) ?_; first | refine dr ?_ | exact dz)
   trivial
  refine dr ?_
  refine cP (fun k8=>?_) (fun k8=>?_)
  ·refine dr ?_
   refine ⟨({ w with waits:=!w.waits },p+1),⟨hw.set (.inl rfl) (by simp) rfl rfl (by simp) (by simp only; omega) (by simp only; omega),by simp only; omega,by simp only; omega⟩,bn_end _ (z:=none) ?_⟩
   refine dr ?_
   repeat (refine oB (by simp) ?_; first | refine dr ?_ | exact dz)
   trivial
  refine dr ?_
  refine cP (fun k9=>?_) (fun k9=>?_)
  ·have q:=f_spec_OverDo W0 w.over ⟨2,[47,97],[],[113]⟩
   have qs:=@OS.do w.over ⟨2,[47,97],[],[113]⟩
   refine dEr ?_
   repeat (refine c0 q rfl ?_; first | refine dEr ?_ | exact dz)
   refine ⟨({ w with over:=(oDo w.over ⟨2,[47,97],[],[113]⟩).1 },p+1),⟨hw.set (.inr qs.oz) (by simp) rfl rfl (by simp) (by simp only; omega) (by simp only; omega),by simp only; omega,by simp only; omega⟩,bn_end _ (z:=none) ?_⟩
   refine dr ?_
   repeat (refine oB (by simp) ?_; first | refine dr ?_ | exact dz)
   trivial
  ·refine dr ?_
   refine ⟨(w,p+1),⟨hw',by simp only; omega,by simp only; omega⟩,bn_end w (z:=none) ?_⟩
   refine dr ?_
   trivial
end Go.Proofs.YteheahbjaddooaaGreatDoor

namespace Go.Proofs.YteheahbjaddooaaGreatDoor
set_option linter.unusedSimpArgs false
set_option linter.unusedVariables false
open Go Go.RowKit
def w0W:Wld:=newW noO
theorem w0R:WR 0 w0W:=(WG.new noO_ok).wr HZ.new (by omega)
def c_spec_DrawWorldRead:XC:=(.s (.r [.ex 2 (.alloc [.nil,.nil,.nil,(I 0),(I 0),.nil,.nil,.nil,.nil,(B false),(I 0),sE,sE,sE]),.m1 3 (.i 0),.ex 4 (.mv (.s []))]) (.s (.r [.mv 8 0,.ex 9 (.opn 33 [8]),.mv 5 9]) (.s (.r [.mv 10 5,.mv 11 5,.ex 12 (.opn 35 [11]),.ex 13 (.opn 34 [10,12]),.ex 6 (.alloc [.nil,.nil,.nil,(I 0),(I 0),.nil,.nil,.nil,.nil,(B false),(I 0),sE,sE,sE]),.nu (.st 14 6 13)]) (.s (.r [.mv 14 5,.ex 15 (.bsl 1 3 [(.i 0),(.i 1),(.i 2),(.i 0),(.i 1),(.i 2),(.k (.c (.sc (.int .i64 (.negSucc 0))))),(.i 3)]),.ex 16 (.opn 36 [14,15]),.mv 7 16]) (.s (.s (.r [.mv 17 7,.c1 18 37 [17],.mv 19 18,.gt 20 (.fa 6 6) 19,.gt 21 (.ld false 1 20) 19,.gt 22 (.len false 21) 19,.gt 23 (.mv 7) 19,.gt 24 (.bin .gtr 22 23) 19,.ex 25 (.pick 19 24 .n),.mv 26 25,.gt 27 (.fa 6 6) 26,.gt 28 (.ld false 1 27) 26,.gt 29 (.mv 7) 26,.gt 30 (.ia 1 28 29) 26,.gt 31 (.ld false 1 30) 26,.gt 32 (.len false 31) 26,.gt 33 (.bin .gtr 32 (.i 0)) 26,.ex 34 (.pick 26 33 .n),.mv 35 34,.gt 36 (.mv 5) 35,.gt 37 (.opn 38 [36,(.i 4)]) 35,.gt 38 (.bin .gtr 37 (.i 0)) 35,.ex 39 (.pick 35 38 .n)]) (.cnd 39 (.s (.d [.exo [1,32] 40 (.ld true 14 6),.mv 41 7,.f1 42 6 6,.exo [1,32] 43 (.ld false 1 42),.mv 44 7,.exo [1,32] 45 (.ia 1 43 44),.exo [1,32] 46 (.ld false 1 45),.exo [1,32] 47 (.ia 7 46 (.i 0)),.f1 48 0 47,.exo [1,32] 49 (.ld false 1 48),.nuo [1,32] (.st 14 2 40),.mv 3 41,.mv 4 49]) .ret) .skip)) (.s (.d [.exo [1,32] 50 (.ld true 14 6),.mv 51 7,.mv 52 5,.exo [1,32] 53 (.opn 39 [52]),.nu (.st 14 2 50),.mv 3 51,.mv 4 53]) .ret))))))
theorem c_spec_DrawWorldRead_eq:compF Tryz.prog [33,35,34,38,36,39,1000001,1000032] 11=some (c_spec_DrawWorldRead.ac,[(.cell 2 true 14),(.t 3),(.t 4)],54):=by kernel_rfl
theorem f_DrawWorldRead (W0:World) (c:Str):FunW Tryz.prog W0 11 [.c (eCode c)] [] (fun x:Wld × Int × Str=>WR 1 x.1) (fun x => .tup [.c (eWld x.1),.c (CI x.2.1),.c (CS x.2.2)]) (fun _=>[]):=by
 refine funW (c:=c_spec_DrawWorldRead) mixed c_spec_DrawWorldRead_eq (by simp) rfl rfl fun hg=>?_
 refine dr ?_
 refine oW (f_l10Open W0 c) rfl trivial rfl rfl ⟨[],by simp⟩ fun s hs=>⟨rfl,?_⟩
 refine dEr ?_
 refine oW (f_l5World W0 s 0 hs (by omega)) rfl ⟨rfl,trivial⟩ rfl rfl ⟨(w0W,0),w0R,by simp,by simp⟩ fun x hx=>⟨rfl,?_⟩
 obtain ⟨w,q⟩:=x
 obtain ⟨a1,a2,a3⟩:WR 0 w∧0≤q∧q≤0+1200:=hx
 refine dEr ?_
 refine oW (f_l5Bent W0 s q 0 w hs (by omega) (by omega) a1) rfl ⟨rfl,trivial⟩ rfl rfl ⟨(w,q),a1.mono (by omega),by simp only; omega,by simp only; omega⟩ fun x hx=>⟨rfl,?_⟩
 obtain ⟨x,r⟩:=x
 obtain ⟨b1,b2,b3⟩:WR 1 x∧q≤r∧r≤q+8:=hx
 refine dEr ?_
 refine oW (f_num W0 s r [0,1,2,0,1,2,-1,3] hs (by omega) (by decide)) rfl ⟨rfl,trivial⟩ rfl rfl ⟨0,by decide⟩ fun who hwho=>⟨rfl,?_⟩
 refine dEr ?_
 repeat (refine c0 (f_l5Who W0 _) rfl ?_; first | refine dEr ?_ | exact dz)
 have fin:True:=trivial
 refine cP (fun k1=>?_) (fun k1=>?_)
 ·obtain ⟨i,hi,rfl⟩:=isW_nat k1
  refine dr ?_
  refine cP (fun k2=>?_) (fun k2=>?_)
  ·refine dr ?_
   repeat (refine aM (j:=i) rfl (by omega) ?_; first | refine dr ?_ | exact dz)
   refine cP (fun k3=>?_) (fun k3=>?_)
   ·refine dr ?_
    refine oW (f_pick W0 s (r+1) 4 hs (by omega) (by omega)) rfl ⟨rfl,trivial⟩ rfl rfl ⟨0,by omega,by omega⟩ fun v hv=>⟨rfl,?_⟩
    refine dEr ?_
    refine cP (fun k4=>?_) (fun k4=>?_)
    ·refine dr ?_
     repeat ((first | refine aM (j:=i) rfl (by omega) ?_ | refine aM (j:=0) rfl (by omega) ?_); first | refine dr ?_ | exact dz)
     have e2:i < x.holds.length:=by have:=b1.h; omega
     have e3:0 < (x.holds[i]'e2).length:=by simpa using k3
     refine ⟨none,_,_,?_,(x,(i:Int),((x.holds[i]'e2)[0]'e3).path),b1,rfl,rfl⟩
     refine dr ?_
     trivial
    ·refine dr ?_
     refine oW (f_l1Text W0 s (r+1+1) hs (by omega)) rfl ⟨rfl,trivial⟩ rfl rfl ⟨([],r+1+1),by simp only; omega,by simp only; omega⟩ fun y hy=>⟨rfl,?_⟩
     obtain ⟨y,t⟩:=y
     refine dEr ?_
     refine ⟨none,_,_,?_,(x,(i:Int),y),b1,rfl,rfl⟩
     refine dr ?_
     trivial
   ·refine dr ?_
    refine oW (f_l1Text W0 s (r+1) hs (by omega)) rfl ⟨rfl,trivial⟩ rfl rfl ⟨([],r+1),by simp only; omega,by simp only; omega⟩ fun y hy=>⟨rfl,?_⟩
    obtain ⟨y,t⟩:=y
    refine dEr ?_
    refine ⟨none,_,_,?_,(x,(i:Int),y),b1,rfl,rfl⟩
    refine dr ?_
    trivial
  ·refine dr ?_
   refine oW (f_l1Text W0 s (r+1) hs (by omega)) rfl ⟨rfl,trivial⟩ rfl rfl ⟨([],r+1),by simp only; omega,by simp only; omega⟩ fun y hy=>⟨rfl,?_⟩
   obtain ⟨y,t⟩:=y
   refine dEr ?_
   refine ⟨none,_,_,?_,(x,(i:Int),y),b1,rfl,rfl⟩
   refine dr ?_
   trivial
 ·refine dr ?_
  refine oW (f_l1Text W0 s (r+1) hs (by omega)) rfl ⟨rfl,trivial⟩ rfl rfl ⟨([],r+1),by simp only; omega,by simp only; omega⟩ fun y hy=>⟨rfl,?_⟩
  obtain ⟨y,t⟩:=y
  refine dEr ?_
  refine ⟨none,_,_,?_,(x,who,y),b1,rfl,rfl⟩
  refine dr ?_
  trivial
end Go.Proofs.YteheahbjaddooaaGreatDoor

namespace Go.Proofs.YteheahbjaddooaaGreatDoor
set_option linter.unusedSimpArgs false
set_option linter.unusedVariables false
open Go Go.RowKit
def c_laws_FnWorldSo:XC:=(.s (.r [.m1 2 .n]) (.s (.s (.r [.mv 16 0,.ex 17 (.len false 16),.b1 18 .gtr 17 (.i 1048576)]) (.cnd 18 (.s (.r [.m1 2 .y]) .ret) .skip)) (.s (.r [.mv 20 0,.ex 21 (.opn 11 [20]),.mv 19 21,.ex 22 (.ext 19 0),.ex 23 (.ext 19 1),.ex 24 (.ext 19 2),.ex 3 (.alloc [.nil,.nil,.nil,(I 0),(I 0),.nil,.nil,.nil,.nil,(B false),(I 0),sE,sE,sE]),.nu (.st 14 3 22),.mv 4 23,.mv 5 24]) (.s (.r [.l2 26 14 3,.mv 27 4,.mv 28 5,.c1 29 12 [26,27,28],.mv 25 29,.ex 30 (.ext 25 0),.ex 31 (.ext 25 1),.ex 32 (.ext 25 2),.ex 6 (.alloc [sE,(B false),sE]),.nu (.st 3 6 30),.mv 7 31,.mv 8 32]) (.s (.r [.l2 34 14 3,.mv 35 4,.mv 36 5,.c1 37 13 [34,35,36],.mv 33 37,.ex 38 (.ext 33 0),.ex 39 (.ext 33 1),.ex 40 (.ext 33 2),.ex 9 (.alloc [sE,(B false),sE]),.nu (.st 3 9 38),.mv 10 39,.mv 11 40]) (.s (.s (.r [.l2 41 3 6,.l2 42 3 9,.ex 43 (.beq true [.s,.b,.s] 41 42),.mv 44 43,.gf 45 (.mv 7) 44,.gf 46 (.mv 10) 44,.gf 47 (.bb true 45 46) 44,.ex 48 (.pick 44 .y 47),.mv 49 48,.gf 50 (.mv 8) 49,.gf 51 (.mv 11) 49,.gf 52 (.bb true 50 51) 49,.ex 53 (.pick 49 .y 52)]) (.cnd 53 (.s (.r [.m1 2 .n]) .ret) .skip)) (.s (.s (.r [.mv 54 8,.ex 55 (.un .not 54)]) (.cnd 55 (.s (.r [.mv 56 7,.ex 57 (.un .not 56),.mv 58 57,.gt 59 (.ld true 3 6) 58,.gt 60 (.build [sE,(B false),sE] []) 58,.gt 61 (.beq false [.s,.b,.s] 59 60) 58,.ex 62 (.pick 58 61 .n),.mv 2 62]) .ret) .skip)) (.s (.r [.f1 64 0 3,.l2 65 3 64,.c1 66 14 [65],.mv 63 66,.ex 67 (.ext 63 0),.ex 68 (.ext 63 1),.ex 12 (.asn 67 3 39),.mv 13 68]) (.s (.r [.mv 70 12,.mv 71 5,.c1 72 15 [70,71],.mv 69 72,.ex 73 (.ext 69 0),.ex 74 (.ext 69 1),.ex 14 (.alloc [sE,(B false),sE]),.nu (.st 3 14 73),.mv 15 74]) (.s (.r [.mv 75 13,.mv 76 75,.gt 77 (.ld true 3 14) 76,.gt 78 (.ld true 3 6) 76,.gt 79 (.beq false [.s,.b,.s] 77 78) 76,.ex 80 (.pick 76 79 .n),.mv 81 80,.gt 82 (.mv 15) 81,.gt 83 (.mv 7) 81,.gt 84 (.bb false 82 83) 81,.ex 85 (.pick 81 84 .n),.mv 2 85]) .ret))))))))))
theorem c_laws_FnWorldSo_eq:compF Tryz.prog [11] 3=some (c_laws_FnWorldSo.ac,[(.t 2)],86):=by kernel_rfl
theorem f_FnWorldSo (W0:World) (hs:W0.ShapedOpen Tryz.prog) (c0':Str):Fn Tryz.prog W0 3 [eCode c0'] (.c (CB true)) []:=by
 refine fnX (c:=c_laws_FnWorldSo) mixed c_laws_FnWorldSo_eq (by simp) rfl fun hg=>?_
 have hM:=hM_of hs
 refine dr ?_
 refine cP (fun h1=>?_) (fun h1=>?_)
 ·exact dz
 refine dr ?_
 refine oW (f_DrawWorldRead W0 c0') rfl trivial rfl rfl ⟨(w0W,0,[]),w0R.mono (by omega)⟩ fun x hx=>⟨rfl,?_⟩
 obtain ⟨w,who,p⟩:=x
 have q1:=f_impl_WorldRead W0 hM w who p
 have q2:=f_spec_WorldRead W0 w who p
 clear hx
 cases hr:wRead w who p with
 | none =>
  rw [hr] at q1 q2
  refine dEr ?_
  repeat ((first | refine c0 q1 rfl ?_ | refine c0 q2 rfl ?_ | refine xiT ?_ | refine xiF ?_ | refine xbT ?_ | refine xbF ?_ | refine xiN ?_ | refine xiM ?_ | refine xbN ?_ | refine xbM ?_ | refine xeT ?_ | refine xeF ?_ | refine c0 (f_OSt W0 _ _ rfl) rfl ?_ | refine c0 (f_ESt W0 _ _ rfl) rfl ?_ | refine c0 (f_MSt W0 _ _ rfl) rfl ?_); first | refine dEr ?_ | exact dz)
  show CB (eqS [] []&&(eqB false false&&(eqS [] []&&true)))=CB true
  rw [eqS_t.2 rfl,eqB_t.2 rfl]; rfl
 | some r =>
  obtain ⟨e,b⟩:=r
  rw [hr] at q1 q2
  obtain ⟨g1,g2,g3,g4,g5⟩:=wRead_so hr
  obtain ⟨t,g⟩:=g1.og
  have q3:=f_impl_OverView W0 hM w.over
  have q4:=f_impl_TreeGet W0 hM (vwG w.over) p
  rw [if_pos g1.ov,g.vw] at q3
  rw [if_pos g1.gx] at q4
  have e4:eEntO (get (vwG w.over) p) = .tup [eEnt e,CB b]:=by
   rw [← show (get (vwG w.over) p).getD noE=e from g4,← show (get (vwG w.over) p).isSome=b from g5]
   cases get (vwG w.over) p<;>rfl
  rw [e4] at q4
  have e5:eEntsO (some (vwG w.over)) = .tup [eEnts (vwG w.over),CB true]:=rfl
  rw [e5] at q3
  generalize vwG w.over=v at *
  have q1':Fn Tryz.prog W0 12 [eWld w,CI who,CS p] (.c (.tup [eEnt e,CB b,CB true])) []:=q1
  have q2':Fn Tryz.prog W0 13 [eWld w,CI who,CS p] (.c (.tup [eEnt e,CB b,CB true])) []:=q2
  refine dEr ?_
  repeat ((first | refine c0 q1' rfl ?_ | refine c0 q2' rfl ?_ | refine c0 q3 rfl ?_ | refine c0 q4 rfl ?_ | refine xiT ?_ | refine xiF ?_ | refine xbT ?_ | refine xbF ?_ | refine xiN ?_ | refine xiM ?_ | refine xbN ?_ | refine xbM ?_ | refine xeT ?_ | refine xeF ?_ | refine c0 (f_OSt W0 _ _ rfl) rfl ?_ | refine c0 (f_ESt W0 _ _ rfl) rfl ?_ | refine c0 (f_MSt W0 _ _ rfl) rfl ?_); first | refine dEr ?_ | exact dz)
  try rfl
  try exact congrArg CB (eqB_t.2 rfl)
end Go.Proofs.YteheahbjaddooaaGreatDoor
