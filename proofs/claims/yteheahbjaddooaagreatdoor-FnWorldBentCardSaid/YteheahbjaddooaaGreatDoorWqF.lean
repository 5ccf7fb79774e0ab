/- The texts Dd1, Dd2, Ld2, Qb6, Ld6, joined; no condition. -/
import Derived.Test.YteheahbjaddooaaGreatDoorWqE

namespace Go.Proofs.YteheahbjaddooaaGreatDoor
set_option linter.unusedSimpArgs false
set_option linter.unusedVariables false
open Go Go.RowKit
def zbK:XC:=(.s (.r [.ex 6 (.alloc [(I 0),(I 0),sE,(I 0),sE,sE,sE,(I 0)])]) (.s (.r [.mv 8 0,.o1 9 92 [8],.mv 7 9]) (.cut (.s (.r [.mv 10 1,.n1 11 10,.b1 12 .gtr 11 (.i 0),.mv 13 12,.gt 14 (.mv 0) 13,.gt 15 (.opn 38 [14,(.i 2)]) 13,.gt 16 (.bin .eql 15 (.i 0)) 13,.ex 17 (.pick 13 16 .n)]) (.cnd 17 (.r [.mv 18 1,.mv 19 0,.mv 20 1,.n1 21 20,.o1 22 38 [19,21],.i1 23 3 18 22,.f1 24 0 23,.l1 25 1 24,.mv 7 25]) .skip)) (.s (.s (.r [.mv 26 0,.o1 27 38 [26,(.i 16)]]) (.blk 0 (.s (.s (.r [.b1 29 .eql 27 (.i 0),.mv 28 29]) (.cnd 28 .skip (.s (.r [.b1 30 .eql 27 (.i 1),.mv 28 30]) (.cnd 28 .skip (.r [.b1 31 .eql 27 (.i 2),.mv 28 31]))))) (.cnd 28 (.s (.r [.mv 32 0,.o1 33 38 [32,(.i 3)],.mv 34 7,.ex 35 (.build [(I 0),(I 0),sE,(I 0),sE,sE,sE,(I 0)] [(0,(1,(.i 1))),(1,(1,33)),(2,(1,34))]),.s1 8 6 35]) .ret) (.s (.s (.r [.b1 37 .eql 27 (.i 3),.mv 36 37]) (.cnd 36 .skip (.r [.b1 38 .eql 27 (.i 4),.mv 36 38]))) (.cnd 36 (.s (.r [.mv 39 0,.mv 40 1,.o1 41 112 [39,40],.ex 42 (.build [(I 0),(I 0),sE,(I 0),sE,sE,sE,(I 0)] [(0,(1,(.i 2))),(3,(4,41))]),.s1 8 6 42]) .ret) (.s (.r [.b1 44 .eql 27 (.i 5),.mv 43 44]) (.cnd 43 (.s (.r [.ex 45 (.build [(I 0),(I 0),sE,(I 0),sE,sE,sE,(I 0)] [(0,(1,(.i 3)))]),.s1 8 6 45]) .ret) (.s (.r [.b1 47 .eql 27 (.i 6),.mv 46 47]) (.cnd 46 (.s (.r [.ex 48 (.build [(I 0),(I 0),sE,(I 0),sE,sE,sE,(I 0)] [(0,(1,(.i 4)))]),.s1 8 6 48]) .ret) (.s (.r [.b1 50 .eql 27 (.i 7),.mv 49 50]) (.cnd 49 (.s (.r [.mv 51 0,.mv 52 2,.b1 53 .add 52 (.i 1),.o1 54 38 [51,53],.ex 55 (.build [(I 0),(I 0),sE,(I 0),sE,sE,sE,(I 0)] [(0,(1,(.i 6))),(7,(1,54))]),.s1 8 6 55]) .ret) (.s (.r [.b1 57 .eql 27 (.i 8),.mv 56 57]) (.cnd 56 (.s (.r [.mv 58 0,.mv 59 2,.b1 60 .add 59 (.i 1),.o1 61 38 [58,60],.ex 62 (.build [(I 0),(I 0),sE,(I 0),sE,sE,sE,(I 0)] [(0,(1,(.i 7))),(7,(1,61))]),.s1 8 6 62]) .ret) (.s (.r [.b1 64 .eql 27 (.i 9),.mv 63 64]) (.cnd 63 (.s (.r [.mv 65 0,.ex 66 (.bsl 1 3 [(.i 0),(.i 8),(.i 1),(.i 5),(.i 2)]),.o1 67 36 [65,66],.mv 68 0,.ex 69 (.bsl 1 3 [(.k (.c (.sc (.int .i64 (.negSucc 0))))),(.i 3),(.i 0)]),.o1 70 36 [68,69],.mv 71 0,.ex 72 (.bsl 1 9 [(.s [47]),(.s []),(.s [47,97])]),.o1 73 95 [71,72],.mv 74 0,.ex 75 (.bsl 1 3 [(.k (.c (.sc (.int .i64 (.negSucc 0))))),(.i 12),(.i 0)]),.o1 76 36 [74,75],.ex 77 (.build [(I 0),(I 0),sE,(I 0),sE,sE,sE,(I 0)] [(0,(1,67)),(1,(1,70)),(2,(1,73)),(7,(1,76))]),.s1 8 6 77]) .ret) .skip)))))))))))))))) (.s (.r [.mv 78 0,.mv 79 2,.c1 80 113 [(.i 1),79],.o1 81 38 [78,80],.ex 82 (.build [(I 0),(I 0),sE,(I 0),sE,sE,sE,(I 0)] [(0,(1,(.i 5))),(7,(1,81))]),.s1 8 6 82]) .ret)))))
theorem zbL:compF Tryz.prog [38,36,95,92,112] 70=some (zbK.ac,[(.cell 6 true 8)],83):=by kernel_rfl
theorem zfp (W0:World) (s:Str) (p:Int) (t:List Ent) (n:Int) (hs:s.length≤2000) (hp:0≤p∧p≤90000) (ht:t.length≤100000) (hn:0≤n∧n≤100000) :
  FunW Tryz.prog W0 70 [.ptr 1 0,.c (eEnts t),.c (CI n)] (Rd s p) (fun x:Ev × Int=>p≤x.2∧x.2≤p+12) (fun x => .c (eEv x.1)) (fun x=>Rd s x.2):=by
 refine funW (c:=zbK) mixed zbL (by simp) rfl rfl fun hg=>?_
 refine dr ?_
 refine oW (jp W0 s p hs (by omega)) rfl ⟨rfl,trivial⟩ rfl rfl ⟨_,List.mem_cons_self⟩ fun x0 hx0=>⟨rfl,?_⟩
 refine dEr ?_
 refine cutp2 (fun (x:Str) (q:Int)=>[(0,.ptr 1 0),(1,.c (eEnts t)),(2,.c (CI n)),(6,.ptr 96 0),(7,.c (CS x))]) (fun x q=>[(1,rdB s q),(96,.box [.c (CI 0),.c (CI 0),.c (CS []),.c (CI 0),.c (CS []),.c (CS []),.c (CS []),.c (CI 0)])]) (fun x q=>p≤q∧q≤p+3) ?_ ?_
 ·refine dr ?_
  refine cP ?_ ?_<;>intro h1
  ·refine dr ?_
   refine oW (jB W0 s (p+1) 2 hs (by omega) (by omega)) rfl ⟨rfl,trivial⟩ rfl rfl ⟨0,by omega,by omega⟩ fun v hv=>⟨rfl,?_⟩
   refine dEr ?_
   refine cP ?_ ?_<;>intro h2
   ·refine dEr ?_
    refine oW (jB W0 s (p+1+1) t.length hs (by omega) (by omega)) rfl ⟨rfl,trivial⟩ rfl rfl ⟨0,by omega,by omega⟩ fun k2 hk2=>⟨rfl,?_⟩
    refine dEr ?_
    repeat (refine aX hk2.1 (hk2.2 (by omega)) fun e he=>?_; first | refine dEr ?_ | exact dz)
    refine ⟨e.path,p+1+1+1,⟨by omega,by omega⟩,?_⟩
    refine dr ?_
    trivial
   ·refine dEr ?_
    refine ⟨x0,p+1+1,⟨by omega,by omega⟩,?_⟩
    refine dr ?_
    trivial
  ·refine dEr ?_
   refine ⟨x0,p+1,⟨by omega,by omega⟩,?_⟩
   refine dr ?_
   trivial
 rintro x q ⟨hq1,hq2⟩
 refine dr ?_
 refine oW (jB W0 s q 16 hs (by omega) (by omega)) rfl ⟨rfl,trivial⟩ rfl rfl ⟨0,by omega,by omega⟩ fun k hk=>⟨rfl,?_⟩
 refine dEr ?_
 by_cases a:k=0∨k=1∨k=2
 ·rcases a with rfl | rfl | rfl
  ·refine dr ?_
   refine cP ?_ ?_<;>intro h1
   rotate_left
   ·exact absurd rfl h1
   refine dr ?_
   refine cP ?_ ?_<;>intro h1
   rotate_left
   ·exact absurd rfl h1
   refine dr ?_
   refine oW (jB W0 s (q+1) 3 hs (by omega) (by omega)) rfl ⟨rfl,trivial⟩ rfl rfl ⟨0,by omega,by omega⟩ fun v hv=>⟨rfl,?_⟩
   refine dEr ?_
   refine ⟨none,_,_,?_,(⟨1,v,x,noOp,0⟩,q+1+1),⟨by simp only; omega,by simp only; omega⟩,rfl,rfl⟩
   refine dr ?_
   trivial
  ·refine dr ?_
   refine cP ?_ ?_<;>intro h1
   ·exact absurd h1 (by decide)
   refine dr ?_
   refine cP ?_ ?_<;>intro h1
   rotate_left
   ·exact absurd rfl h1
   refine dr ?_
   refine cP ?_ ?_<;>intro h1
   rotate_left
   ·exact absurd rfl h1
   refine dr ?_
   refine oW (jB W0 s (q+1) 3 hs (by omega) (by omega)) rfl ⟨rfl,trivial⟩ rfl rfl ⟨0,by omega,by omega⟩ fun v hv=>⟨rfl,?_⟩
   refine dEr ?_
   refine ⟨none,_,_,?_,(⟨1,v,x,noOp,0⟩,q+1+1),⟨by simp only; omega,by simp only; omega⟩,rfl,rfl⟩
   refine dr ?_
   trivial
  ·refine dr ?_
   refine cP ?_ ?_<;>intro h1
   ·exact absurd h1 (by decide)
   refine dr ?_
   refine cP ?_ ?_<;>intro h1
   ·exact absurd h1 (by decide)
   refine dr ?_
   refine cP ?_ ?_<;>intro h1
   rotate_left
   ·exact absurd rfl h1
   refine dr ?_
   refine oW (jB W0 s (q+1) 3 hs (by omega) (by omega)) rfl ⟨rfl,trivial⟩ rfl rfl ⟨0,by omega,by omega⟩ fun v hv=>⟨rfl,?_⟩
   refine dEr ?_
   refine ⟨none,_,_,?_,(⟨1,v,x,noOp,0⟩,q+1+1),⟨by simp only; omega,by simp only; omega⟩,rfl,rfl⟩
   refine dr ?_
   trivial
 refine dr ?_
 refine cP ?_ ?_<;>intro h1
 ·omega
 refine dr ?_
 refine cP ?_ ?_<;>intro h2
 ·omega
 refine dr ?_
 refine cP ?_ ?_<;>intro h3
 ·omega
 clear h1 h2 h3
 refine dr ?_
 by_cases a:k=3
 ·subst a
  refine cP ?_ ?_<;>intro h1
  rotate_left
  ·exact absurd rfl h1
  refine dr ?_
  refine cP ?_ ?_<;>intro h1
  rotate_left
  ·exact absurd rfl h1
  refine dr ?_
  refine oW (zeX W0 s (q+1) t hs (by omega) (by omega)) rfl ⟨rfl,trivial⟩ rfl rfl ⟨((⟨0,[],[],[]⟩,q+1):Op × Int),by simp only; omega,by simp only; omega⟩ fun y hy=>⟨rfl,?_⟩
  obtain ⟨op,r⟩:=y
  obtain ⟨hr1,hr2⟩:q+1≤r∧r≤q+1+8:=hy
  refine dEr ?_
  refine ⟨none,_,_,?_,(⟨2,0,[],op,0⟩,r),⟨by simp only; omega,by simp only; omega⟩,rfl,rfl⟩
  refine dr ?_
  trivial
 refine cP ?_ ?_<;>intro h1
 ·exact absurd h1 a
 refine dr ?_
 refine cP ?_ ?_<;>intro h1
 ·refine dr ?_
  refine oW (zeX W0 s (q+1) t hs (by omega) (by omega)) rfl ⟨rfl,trivial⟩ rfl rfl ⟨((⟨0,[],[],[]⟩,q+1):Op × Int),by simp only; omega,by simp only; omega⟩ fun y hy=>⟨rfl,?_⟩
  obtain ⟨op,r⟩:=y
  obtain ⟨hr1,hr2⟩:q+1≤r∧r≤q+1+8:=hy
  refine dEr ?_
  refine ⟨none,_,_,?_,(⟨2,0,[],op,0⟩,r),⟨by simp only; omega,by simp only; omega⟩,rfl,rfl⟩
  refine dr ?_
  trivial
 refine dr ?_
 refine cP ?_ ?_<;>intro h2
 ·refine dr ?_
  refine ⟨none,_,_,?_,(⟨3,0,[],noOp,0⟩,q+1),⟨by simp only; omega,by simp only; omega⟩,rfl,rfl⟩
  refine dr ?_
  trivial
 refine dr ?_
 refine cP ?_ ?_<;>intro h3
 ·refine dr ?_
  refine ⟨none,_,_,?_,(⟨4,0,[],noOp,0⟩,q+1),⟨by simp only; omega,by simp only; omega⟩,rfl,rfl⟩
  refine dr ?_
  trivial
 refine dr ?_
 refine cP ?_ ?_<;>intro h4
 ·refine dr ?_
  repeat (refine oB (by omega) ?_; first | refine dr ?_ | exact dz)
  refine oW (jB W0 s (q+1) (n+1) hs (by omega) (by omega)) rfl ⟨rfl,trivial⟩ rfl rfl ⟨0,by omega,by omega⟩ fun v hv=>⟨rfl,?_⟩
  refine dEr ?_
  refine ⟨none,_,_,?_,(⟨6,0,[],noOp,v⟩,q+1+1),⟨by simp only; omega,by simp only; omega⟩,rfl,rfl⟩
  refine dr ?_
  trivial
 refine dr ?_
 refine cP ?_ ?_<;>intro h5
 ·refine dr ?_
  repeat (refine oB (by omega) ?_; first | refine dr ?_ | exact dz)
  refine oW (jB W0 s (q+1) (n+1) hs (by omega) (by omega)) rfl ⟨rfl,trivial⟩ rfl rfl ⟨0,by omega,by omega⟩ fun v hv=>⟨rfl,?_⟩
  refine dEr ?_
  refine ⟨none,_,_,?_,(⟨7,0,[],noOp,v⟩,q+1+1),⟨by simp only; omega,by simp only; omega⟩,rfl,rfl⟩
  refine dr ?_
  trivial
 refine dr ?_
 refine cP ?_ ?_<;>intro h6
 ·refine dr ?_
  refine oW (jA W0 s (q+1) [0,8,1,5,2] hs (by omega) (by decide)) rfl ⟨rfl,trivial⟩ rfl rfl ⟨0,by decide⟩ fun v1 _=>⟨rfl,?_⟩
  refine dEr ?_
  refine oW (jA W0 s (q+1+1) [-1,3,0] hs (by omega) (by decide)) rfl ⟨rfl,trivial⟩ rfl rfl ⟨0,by decide⟩ fun v2 _=>⟨rfl,?_⟩
  refine dEr ?_
  refine oW (f_of W0 s (q+1+1+1) [[47],[],[47,97]] hs (by omega) (by decide)) rfl ⟨rfl,trivial⟩ rfl rfl ⟨_,List.mem_cons_self⟩ fun v3 _=>⟨rfl,?_⟩
  refine dEr ?_
  refine oW (jA W0 s (q+1+1+1+1) [-1,12,0] hs (by omega) (by decide)) rfl ⟨rfl,trivial⟩ rfl rfl ⟨0,by decide⟩ fun v4 _=>⟨rfl,?_⟩
  refine dEr ?_
  refine ⟨none,_,_,?_,(⟨v1,v2,v3,noOp,v4⟩,q+1+1+1+1+1),⟨by simp only; omega,by simp only; omega⟩,rfl,rfl⟩
  refine dr ?_
  trivial
 have hm:maxI 1 n≤100000:=by unfold maxI; split<;>omega
 refine dr ?_
 repeat (refine c0 (zeH W0 1 n) rfl ?_; first | refine dr ?_ | exact dz)
 refine oW (jB W0 s (q+1) (maxI 1 n) hs (by omega) (by omega)) rfl ⟨rfl,trivial⟩ rfl rfl ⟨0,by omega,by omega⟩ fun v hv=>⟨rfl,?_⟩
 refine dEr ?_
 refine ⟨none,_,_,?_,(⟨5,0,[],noOp,v⟩,q+1+1),⟨by simp only; omega,by simp only; omega⟩,rfl,rfl⟩
 refine dr ?_
 trivial
def zcu:XC:=(.s (.r [.ex 2 (.alloc [.nil,.nil,.nil,(I 0),(I 0),.nil,.nil,.nil,.nil,(B false),(I 0),sE,sE,sE])]) (.s (.r [.mv 8 0,.o1 9 94 [8],.ex 3 (.alloc [.nil,.nil,.nil]),.s1 3 3 9]) (.cut (.s (.r [.l2 10 3 3,.c1 11 25 [10],.ex 12 (.un .not 11)]) (.cnd 12 (.r [.ex 13 (.build [.nil,.nil,.nil] []),.s1 3 3 13]) .skip)) (.s (.r [.l2 14 3 3,.o1 15 72 [14],.ex 4 (.alloc [.nil,.nil,.nil,(I 0),(I 0),.nil,.nil,.nil,.nil,(B false),(I 0),sE,sE,sE]),.s1 14 4 15]) (.s (.s (.r [.mv 16 0,.ex 17 (.bsl 1 3 [(.i 12),(.i 24),(.i 36),(.i 48),(.i 6),(.i 0)]),.o1 18 36 [16,17],.mv 5 18]) (.blk 0 (.loop (.s (.s (.r [.mv 19 5,.b1 20 .gtr 19 (.i 0)]) (.cnd 20 .skip (.exit 0))) (.s (.blk 1 (.s (.r [.f1 24 0 4,.l2 25 3 24,.c1 26 69 [25],.mv 23 26,.e1 27 23 0,.e1 28 23 1,.a1 6 27 3 39,.mv 7 28]) (.d [.exo [1,4,5,6,592] 30 (.ld true 14 4),.mv 31 0,.mv 32 6,.f1 33 8 4,.exo [1,4,5,6,592] 34 (.ld false 1 33),.n1 35 34,.exo [1,4,5,6,592] 36 (.opn 70 [31,32,35]),.exo [1,4,5,6,592] 37 (.opn 73 [30,36]),.mv 29 37,.e1 38 29 0,.e1 39 29 1,.s1 14 4 38]))) (.r [.mv 21 5,.b1 22 .sub 21 (.i 1),.mv 5 22])))))) (.s (.r [.l2 40 14 4,.o1 41 45 [40],.s1 14 2 41]) .ret))))))
theorem zcv:compF Tryz.prog [94,36,70,73,72,45,1000001,1000004,1000005,1000006,1000592] 35=some (zcu.ac,[(.cell 2 true 14)],42):=by kernel_rfl
structure WR (n:Nat) (w:Wld):Prop where
 z:WZ (100+n) w
 h:w.holds.length=3
 f:w.floors.length=3
 ck : -(20000+20000 * (n:Int))≤w.clock∧w.clock≤20000+20000 * n
 ct : -(20000+20000 * (n:Int))≤w.count∧w.count≤20000+20000 * n
theorem WG.wr {n:Nat} {w:Wld} (h:WG w) (hz:HZ n w) (hn:n≤100):WR 0 w:=⟨h.wz (hz.mono (by omega)) (by omega),h.pl.hl,h.pl.fl,by have:=h.pl.ck; omega,by have:=h.pl.ct; omega⟩
theorem WZ.mono {n m:Nat} {w:Wld} (h:WZ n w) (hm:n≤m):WZ m w:=⟨h.o.mono hm,h.z.mono hm,by have:=h.h; omega,by have:=h.f; omega,by have:=h.t; omega⟩
theorem WR.mono {n m:Nat} {w:Wld} (h:WR n w) (hm:n≤m):WR m w:=⟨h.z.mono (by omega),h.h,h.f,by have:=h.ck; omega,by have:=h.ct; omega⟩
theorem zjQ:oOk noO=true:=by decide +kernel
theorem zfL (W0:World) (s:Str) (p:Int) (hs:s.length≤2000) (hp:0≤p∧p≤20000) :
  FunW Tryz.prog W0 35 [.ptr 1 0] (Rd s p) (fun x:Wld × Int=>WR 0 x.1∧p≤x.2∧x.2≤p+1200) (fun x => .c (eWld x.1)) (fun x=>Rd s x.2):=by
 refine funW (c:=zcu) mixed zcv (by simp) rfl rfl fun hg=>?_
 refine dr ?_
 refine oW (zff W0 s p hs (by omega)) rfl ⟨rfl,trivial⟩ rfl rfl ⟨(noO,p),OS.no,by simp,by simp; omega⟩ fun x hx=>⟨rfl,?_⟩
 obtain ⟨o0,q0⟩:=x
 obtain ⟨a1,a2,a3⟩:OS o0∧p≤q0∧q0≤p+600:=hx
 refine dEr ?_
 refine cutz 3 (fun (o:Over)=>[(0,.ptr 1 0),(2,.ptr 32 0),(3,.ptr 48 0)]) (fun o=>[(1,rdB s q0),(32,zWB),(48,ovB o)]) (fun o=>OS o∧oOk o=true) ?_ ?_
 ·refine dEr ?_
  repeat (refine c0 (jD W0 o0) rfl ?_; first | refine dEr ?_ | exact dz)
  refine cP ?_ ?_<;>intro h1
  ·refine dr ?_
   refine ⟨noO,⟨OS.no,zjQ⟩,?_⟩
   refine KeepS.trans (F1:=_) (m1:=_) (KeepS.nilC 48 [.nil,.nil,.nil] [.c (.row []),.c (.row []),.c (.row [])] rfl ⟨nc1,nc1,nc1,trivial⟩) (z:=none) ?_
   refine dr ?_
   trivial
  ·refine dr ?_
   refine ⟨o0,⟨a1,h1⟩,?_⟩
   refine KeepX.s (z:=none) ?_
   refine dr ?_
   trivial
 rintro o ⟨ho,h1⟩
 have g0:WG (newW o):=WG.new h1
 refine dr ?_
 refine oW (zgi W0 o (ho.oz.mono (by omega))) rfl trivial rfl rfl ⟨(),trivial⟩ fun _ _=>⟨rfl,?_⟩
 refine dEr ?_
 refine oW (jA W0 s q0 [12,24,36,48,6,0] hs (by omega) (by decide)) rfl ⟨rfl,trivial⟩ rfl rfl ⟨0,by decide⟩ fun n hn=>⟨rfl,?_⟩
 have hn2:0≤n∧n≤48:=by
  simp only [List.mem_cons,List.not_mem_nil,or_false] at hn
  omega
 refine dEr ?_
 refine lq3 (fun (x:Wld) (i q:Int)=>[(0,.ptr 1 0),(2,.ptr 32 0),(3,.ptr 48 0),(4,.ptr 64 0),(5,.c (CI i))]) (fun x _ q=>[(1,rdB s q),(32,zWB),(48,ovB o),(64,.box (wCo 6 x))]++wMn 6 x)
  (fun x i q=>0≤i∧i≤n∧p≤q∧q≤p+601+12 * (n - i)∧WG x∧HZ (n - i).toNat x) (fun _ i _=>i.toNat) (newW o) n (q0+1) ⟨by omega,by omega,by omega,by omega,g0,HZ.new.mono (by omega)⟩ ?_ ?_
 ·refine KeepS.newB 64 o rfl rfl (by decide) (z:=none) ?_
  refine dr ?_
  repeat (refine oB (by simp) ?_; first | refine dr ?_ | exact dz)
  trivial
 rintro x i q ⟨hi1,hi2,hq1,hq2,hx,hz⟩
 refine dr ?_
 refine cP ?_ ?_<;>intro h3
 ·have hv:=jx W0 x.over
  have hvl:=@zn0 x.over
  rw [zdz] at hv
  generalize (view4 x.over).getD []=t at *
  have hnt:x.net.length≤1000:=by have:=hx.pl.nl; omega
  refine dEr ?_
  repeat (refine c0 hv rfl ?_; first | refine dEr ?_ | exact dz)
  refine oW (zfp W0 s q t x.net.length hs (by omega) (by omega) (by omega)) rfl ⟨rfl,trivial⟩ rfl rfl ⟨((⟨0,0,[],noOp,0⟩,q):Ev × Int),by simp only; omega,by simp only; omega⟩ fun y hy=>⟨rfl,?_⟩
  obtain ⟨ev,r⟩:=y
  obtain ⟨hr1,hr2⟩:q≤r∧r≤q+12:=hy
  have hx':=hx.ev ev
  have hz':=hz.ev ev
  refine dEr ?_
  refine oW (zfo W0 x ev hx (hz.mono (by omega))) rfl ⟨rfl,rfl,rfl,trivial⟩ rfl rfl ⟨false,trivial⟩ fun b _=>?_
  generalize evW x ev=rr at *
  obtain ⟨x',c⟩:=rr
  cases b with
  | true =>
   refine ⟨rfl,?_⟩
   refine dEr ?_
   repeat ((first | refine oB (by omega) ?_ | refine oB (by simp) ?_); first | refine dEr ?_ | exact dz)
   refine ⟨x',i - 1,r,⟨by omega,by omega,by omega,by omega,hx',hz'.mono (by omega)⟩,by omega,?_⟩
   refine KeepS.ren 6 592 rfl rfl (z:=none) ?_
   refine dr ?_
   repeat (refine oB (by simp) ?_; first | refine dr ?_ | exact dz)
   trivial
  | false =>
   refine ⟨rfl,?_⟩
   refine dEr ?_
   repeat ((first | refine oB (by omega) ?_ | refine oB (by simp) ?_); first | refine dEr ?_ | exact dz)
   refine ⟨x',i - 1,r,⟨by omega,by omega,by omega,by omega,hx',hz'.mono (by omega)⟩,by omega,?_⟩
   refine KeepX.s (z:=none) ?_
   refine dr ?_
   repeat (refine oB (by simp) ?_; first | refine dr ?_ | exact dz)
   trivial
 refine dr ?_
 have hw:WR 0 x:=hx.wr hz (by omega)
 refine oW (zfn W0 x (hx.wz (hz.mono (by omega)) (by omega))) rfl ⟨rfl,rfl,rfl,trivial⟩ rfl rfl ⟨(),trivial⟩ fun _ _=>⟨rfl,?_⟩
 refine dEr ?_
 repeat (refine oB (by simp) ?_; first | refine dEr ?_ | exact dz)
 refine ⟨none,_,_,?_,(x,q),⟨hw,by omega,by omega⟩,rfl,rfl⟩
 refine dr ?_
 trivial
def Js:XC:=(.s (.r [.ex 1 (.box 0),.ex 2 (.alloc [.nil,.nil,.nil,(I 0),(I 0),.nil,.nil,.nil,.nil,(B false),(I 0),sE,sE,sE])]) (.s (.r [.l2 5 14 1,.ex 3 (.alloc [.nil,.nil,.nil,(I 0),(I 0),.nil,.nil,.nil,.nil,(B false),(I 0),sE,sE,sE]),.s1 14 3 5]) (.s (.r [.f1 6 0 1,.l2 7 3 6,.c1 8 102 [7],.f1 9 0 3,.s1 3 9 8]) (.s (.r [.ex 10 .bsl0,.f1 11 5 1,.l1 12 1 11,.ex 13 (.app true 4 40 72 10 12),.f1 14 5 3,.s1 1 14 13]) (.s (.r [.ex 15 .bsl0,.f1 16 6 3,.s1 1 16 15]) (.s (.s (.r [.m1 4 (.i 0)]) (.blk 0 (.loop (.s (.s (.r [.mv 17 4,.f1 18 6 1,.l1 19 1 18,.n1 20 19,.b1 21 .lss 17 20]) (.cnd 21 .skip (.exit 0))) (.s (.blk 1 (.d [.f1 24 6 3,.l1 25 1 24,.ex 26 .bsl0,.f1 27 6 1,.l1 28 1 27,.mv 29 4,.i1 30 1 28 29,.l1 31 1 30,.ex 32 (.app true 7 80 53 26 31),.ex 33 (.bsl 1 56 [32]),.ex 34 (.app false 1 24 56 25 33),.f1 35 6 3,.s1 1 35 34])) (.r [.mv 22 4,.b1 23 .add 22 (.i 1),.mv 4 23])))))) (.s (.r [.ex 36 .bsl0,.f1 37 7 1,.l1 38 1 37,.ex 39 (.app true 1 8 3 36 38),.f1 40 7 3,.s1 1 40 39]) (.s (.r [.ex 41 .bsl0,.f1 42 8 1,.l1 43 1 42,.ex 44 (.app true 9 96 55 41 43),.f1 45 8 3,.s1 1 45 44]) (.s (.r [.l2 46 14 3,.s1 14 2 46]) .ret)))))))))
theorem Jt:compF Tryz.prog [] 45=some (Js.ac,[(.cell 2 true 14)],47):=by kernel_rfl
def cpM (h0 h1 h2:List Hold):Nat→XM
 | 0=>[(14,.row [] 1 56)]
 | 1=>[(14,.rowP [.own 15 h0.length] 56),(15,.row (h0.map eHold) 7 53)]
 | 2=>[(14,.rowP [.own 15 h0.length,.own 31 h1.length] 56),(15,.row (h0.map eHold) 7 53),(31,.row (h1.map eHold) 7 53)]
 | _=>[(14,.rowP [.own 15 h0.length,.own 31 h1.length,.own 47 h2.length] 56),(15,.row (h0.map eHold) 7 53),(31,.row (h1.map eHold) 7 53),(47,.row (h2.map eHold) 7 53)]
theorem zfm (W0:World) (w:Wld) (h0 h1 h2:List Hold) (hz:WZ 1000000 w) (h3:w.holds=[h0,h1,h2]):FunW Tryz.prog W0 45 [.c (eWld w)] [] (fun _:Unit=>True) (fun _ => .agg [.c (eEnts w.over.base),.c (eMarkss w.over.layers),.c (eMarks w.over.upper),I w.clock,I w.count,.own 208 w.leases.length,.own 14 3,.own 624 w.floors.length,.own 704 w.net.length,B w.waits,I w.op.kind,.c (CS w.op.path),.c (CS w.op.dest),.c (CS w.op.data)]) (fun _=>cpM h0 h1 h2 3++[(208,.row (w.leases.map eLease) 4 72),(624,.row (w.floors.map CI) 1 3),(704,.row (w.net.map eMsg) 9 55)]):=by
 obtain ⟨o,cl,cn,ls,hds,fl,nt,wt,wop⟩:=w
 simp only at h3
 subst h3
 obtain ⟨hzo,⟨hzl,hzh⟩,hh,hf,hn⟩:=hz
 simp only at hzo hzl hzh hh hf hn
 show FunW _ _ _ [.c (.agg [eEnts o.base,eMarkss o.layers,eMarks o.upper,CI cl,CI cn,eLeases ls,eHoldss [h0,h1,h2],eInts fl,eMsgs nt,CB wt,CI wop.kind,CS wop.path,CS wop.dest,CS wop.data])] _ _ _ _
 refine funW (c:=Js) mixed Jt (by simp) rfl rfl fun hg=>?_
 refine dEr ?_
 repeat ((first | refine c0 (jw W0 _ (hzo.mono (by omega))) rfl ?_ | refine oB (by simp; omega) ?_ | refine oB (by simp) ?_); first | refine dEr ?_ | exact dz)
 refine lq (σ:=Nat) (fun k=>[(1,.ptr 16 0),(2,.ptr 32 0),(3,.ptr 48 0),(4,I k)]) (fun k=>cpM h0 h1 h2 k++[(16,.box [.c (eEnts o.base),.c (eMarkss o.layers),.c (eMarks o.upper),I cl,I cn,.c (eLeases ls),.c (eHoldss [h0,h1,h2]),.c (eInts fl),.c (eMsgs nt),B wt,I wop.kind,.c (CS wop.path),.c (CS wop.dest),.c (CS wop.data)]),(32,zWB),(48,.box [.c (eEnts o.base),.c (eMarkss o.layers),.c (eMarks o.upper),I cl,I cn,.own 208 ls.length,.own 14 k,.c (eInts fl),.c (eMsgs nt),B wt,I wop.kind,.c (CS wop.path),.c (CS wop.dest),.c (CS wop.data)]),(208,.row (ls.map eLease) 4 72)]) (fun k=>k≤3) (fun k=>3 - k) 0 (by simp) ?_ ?_
 ·refine KeepX.trans (z:=none) (z':=some 3) (F1:=[(1,.ptr 16 0),(2,.ptr 32 0),(3,.ptr 48 0),(4,I 0)]) (m1:=[(16,.box [.c (eEnts o.base),.c (eMarkss o.layers),.c (eMarks o.upper),I cl,I cn,.c (eLeases ls),.c (eHoldss [h0,h1,h2]),.c (eInts fl),.c (eMsgs nt),B wt,I wop.kind,.c (CS wop.path),.c (CS wop.dest),.c (CS wop.data)]),(32,zWB),(48,.box [.c (eEnts o.base),.c (eMarkss o.layers),.c (eMarks o.upper),I cl,I cn,.own 208 ls.length,.nil,.c (eInts fl),.c (eMsgs nt),B wt,I wop.kind,.c (CS wop.path),.c (CS wop.dest),.c (CS wop.data)]),(208,.row (ls.map eLease) 4 72)]) ?_ ?_
  ·refine dr ?_
   repeat (refine oB (by simp<;>rfl) ?_; first | refine dr ?_ | exact dz)
   trivial
  ·show KeepS _ _ _ _ _
   exact KeepS.er (KeepS.nilB 48 _ [.c (eEnts o.base),.c (eMarkss o.layers),.c (eMarks o.upper),I cl,I cn,.own 208 ls.length,.own 14 0,.c (eInts fl),.c (eMsgs nt),B wt,I wop.kind,.c (CS wop.path),.c (CS wop.dest),.c (CS wop.data)] 14 56 rfl rfl ⟨nr0,nr0,nr0,nr0,nr0,nr0,nr1,nr0,nr0,nr0,nr0,nr0,nr0,nr0,trivial⟩) rfl
 intro k hk
 rcases k with _ | _ | _ | _ | k
 ·have hzk:=hzh h0 (by simp)
  refine dr ?_
  refine cP ?_ ?_<;>intro hq
  rotate_left
  ·simp at hq
  refine dr ?_
  repeat ((first | refine oB (by simp; omega) ?_ | refine oB (by simp) ?_); first | refine dr ?_ | exact dz)
  refine ⟨1,by omega,by omega,?_⟩
  refine KeepS.ren 512 15 rfl rfl (z:=none) ?_
  refine dr ?_
  repeat (refine oB (by simp) ?_; first | refine dr ?_ | exact dz)
  trivial
 ·have hzk:=hzh h1 (by simp)
  refine dr ?_
  refine cP ?_ ?_<;>intro hq
  rotate_left
  ·simp at hq
  refine dr ?_
  repeat ((first | refine oB (by simp; omega) ?_ | refine oB (by simp) ?_); first | refine dr ?_ | exact dz)
  refine ⟨2,by omega,by omega,?_⟩
  refine KeepS.ren 512 31 rfl rfl (z:=none) ?_
  refine dr ?_
  repeat (refine oB (by simp) ?_; first | refine dr ?_ | exact dz)
  trivial
 ·have hzk:=hzh h2 (by simp)
  refine dr ?_
  refine cP ?_ ?_<;>intro hq
  rotate_left
  ·simp at hq
  refine dr ?_
  repeat ((first | refine oB (by simp; omega) ?_ | refine oB (by simp) ?_); first | refine dr ?_ | exact dz)
  refine ⟨3,by omega,by omega,?_⟩
  refine KeepS.ren 512 47 rfl rfl (z:=none) ?_
  refine dr ?_
  repeat (refine oB (by simp) ?_; first | refine dr ?_ | exact dz)
  trivial
 ·refine dr ?_
  refine cP ?_ ?_<;>intro hq
  ·simp at hq
  refine dr ?_
  repeat ((first | refine oB (by simp; omega) ?_ | refine oB (by simp) ?_); first | refine dr ?_ | exact dz)
  refine ⟨none,_,_,?_,(),trivial,rfl,rfl⟩
  refine dr ?_
  repeat (refine oB (by simp) ?_; first | refine dr ?_ | exact dz)
  trivial
 ·omega
theorem zfl (W0:World) (w:Wld) (h0 h1 h2:List Hold) (hz:WZ 1000000 w) (h3:w.holds=[h0,h1,h2]):FunW Tryz.prog W0 45 [.c (eWld w)] [] (fun _:Unit=>True) (fun _ => .agg [.c (eEnts w.over.base),.c (eMarkss w.over.layers),.c (eMarks w.over.upper),I w.clock,I w.count,.own 7 w.leases.length,.own 4 3,.own 5 w.floors.length,.own 6 w.net.length,B w.waits,I w.op.kind,.c (CS w.op.path),.c (CS w.op.dest),.c (CS w.op.data)]) (fun _=>[(4,.rowP [.own 15 h0.length,.own 31 h1.length,.own 47 h2.length] 56),(15,.row (h0.map eHold) 7 53),(31,.row (h1.map eHold) 7 53),(47,.row (h2.map eHold) 7 53),(7,.row (w.leases.map eLease) 4 72),(5,.row (w.floors.map CI) 1 3),(6,.row (w.net.map eMsg) 9 55)]) :=
 ((((zfm W0 w h0 h1 h2 hz h3).swp 14 4).swp 624 5).swp 704 6).swp 208 7
def zbC:XC:=(.s (.r [.ex 3 (.box 1),.ex 4 (.alloc [.nil,.nil,.nil,(I 0),(I 0),.nil,.nil,.nil,.nil,(B false),(I 0),sE,sE,sE])]) (.s (.r [.l2 8 14 3,.o1 9 45 [8],.ex 5 (.alloc [.nil,.nil,.nil,(I 0),(I 0),.nil,.nil,.nil,.nil,(B false),(I 0),sE,sE,sE]),.s1 14 5 9]) (.s (.r [.f1 10 8 5,.l1 11 1 10,.n1 12 11,.mv 6 12]) (.cut (.cut (.r [.mv 13 0,.o1 14 38 [13,(.i 100)]]) (.blk 0 (.s (.r [.b1 16 .eql 14 (.i 0),.mv 15 16]) (.cnd 15 (.d [.f1 17 3 5,.exo [1,15,31,47] 18 (.ld false 1 17),.mv 19 0,.exo [1,15,31,47] 20 (.bsl 1 3 [(.k (.c (.sc (.int .i64 (.negSucc 2))))),(.i 1),(.k (.c (.sc (.int .i64 (.negSucc 0))))),(.i 10000)]),.exo [1,15,31,47] 21 (.opn 36 [19,20]),.b1 22 .add 18 21,.f1 23 3 5,.s1 1 23 22]) (.s (.r [.b1 25 .eql 14 (.i 1),.mv 24 25]) (.cnd 24 (.r [.mv 26 0,.f1 27 4 5,.l1 28 1 27,.b1 29 .sub 28 (.i 1),.ex 30 (.bsl 1 3 [(.i 0),(.k (.c (.sc (.int .i64 (.negSucc 0))))),29,(.i 10000)]),.o1 31 36 [26,30],.f1 32 4 5,.s1 1 32 31]) (.s (.r [.b1 34 .eql 14 (.i 2),.mv 33 34]) (.cnd 33 (.s (.r [.f1 35 5 5,.l1 36 1 35,.n1 37 36,.b1 38 .gtr 37 (.i 0)]) (.cnd 38 (.r [.f1 39 5 5,.l1 40 1 39,.ex 41 (.slr 4 40 (.some (.i 1)) .none),.f1 42 5 5,.s1 1 42 41]) .skip)) (.s (.r [.b1 44 .eql 14 (.i 3),.mv 43 44]) (.cnd 43 (.s (.r [.f1 45 5 5,.l1 46 1 45,.n1 47 46,.b1 48 .gtr 47 (.i 0)]) (.cnd 48 (.d [.f1 49 5 5,.l1 50 1 49,.f1 51 5 5,.l1 52 1 51,.ex 53 (.ia 4 52 (.i 0)),.l2 54 4 53,.ex 55 (.bsl 4 72 [54]),.ex 56 (.app false 4 40 72 50 55),.f1 57 5 5,.s1 1 57 56]) .skip)) (.s (.r [.b1 59 .eql 14 (.i 4),.mv 58 59]) (.cnd 58 (.d [.f1 60 6 5,.exo [1,15,31,47] 61 (.ld false 1 60),.mv 62 0,.exo [1,15,31,47] 63 (.opn 38 [62,(.i 3)]),.f1 64 6 5,.exo [1,15,31,47] 65 (.ld false 1 64),.mv 66 0,.exo [1,15,31,47] 67 (.opn 38 [66,(.i 3)]),.exo [1,15,31,47] 68 (.ia 1 65 67),.exo [1,15,31,47] 69 (.ld false 1 68),.mv 70 0,.exo [1,15,31,47] 71 (.opn 92 [70]),.mv 72 0,.exo [1,15,31,47] 73 (.opn 38 [72,(.i 3)]),.f1 74 3 5,.exo [1,15,31,47] 75 (.ld false 1 74),.mv 76 0,.exo [1,15,31,47] 77 (.opn 38 [76,(.i 3)]),.b1 78 .add 75 77,.ex 79 (.build [sE,(B false),sE,(B false),sE,(I 0),(I 0)] [(0,(1,71)),(5,(1,73)),(6,(1,78))]),.exo [1,15,31,47] 80 (.bsl 7 53 [79]),.exo [1,15,31,47] 81 (.app false 7 80 53 69 80),.exo [1,15,31,47] 82 (.ia 1 61 63),⟨.none,(.st 1 82 81),.none,false,[1,15,31,47]⟩]) (.s (.r [.b1 84 .eql 14 (.i 5),.mv 83 84]) (.cnd 83 (.d [.f1 85 7 5,.exo [1,15,31,47] 86 (.ld false 1 85),.mv 87 0,.exo [1,15,31,47] 88 (.opn 38 [87,(.i 3)]),.mv 89 0,.f1 90 4 5,.exo [1,15,31,47] 91 (.ld false 1 90),.f1 92 4 5,.exo [1,15,31,47] 93 (.ld false 1 92),.b1 94 .add 93 (.i 1),.exo [1,15,31,47] 95 (.bsl 1 3 [(.k (.c (.sc (.int .i64 (.negSucc 0))))),91,94,(.i 0)]),.exo [1,15,31,47] 96 (.opn 36 [89,95]),.exo [1,15,31,47] 97 (.ia 1 86 88),.s1 1 97 96]) (.s (.r [.b1 99 .eql 14 (.i 6),.mv 98 99]) (.cnd 98 (.s (.r [.mv 100 6,.b1 101 .gtr 100 (.i 0)]) (.cnd 101 (.s (.r [.mv 102 0,.mv 103 6,.o1 104 38 [102,103],.mv 7 104]) (.d [.f1 105 8 5,.exo [1,15,31,47] 106 (.ld false 1 105),.mv 107 7,.mv 108 0,.exo [1,15,31,47] 109 (.bsl 1 3 [(.i 0),(.i 5),(.i 2),(.i 4)]),.exo [1,15,31,47] 110 (.opn 36 [108,109]),.exo [1,15,31,47] 111 (.ia 9 106 107),.f1 112 0 111,.s1 1 112 110])) .skip)) (.s (.r [.b1 114 .eql 14 (.i 7),.mv 113 114]) (.cnd 113 (.d [.f1 115 8 5,.exo [1,15,31,47] 116 (.ld false 1 115),.mv 117 0,.exo [1,15,31,47] 118 (.opn 38 [117,(.i 4)]),.b1 119 .add (.i 1) 118,.mv 120 0,.exo [1,15,31,47] 121 (.opn 38 [120,(.i 4)]),.mv 122 0,.exo [1,15,31,47] 123 (.opn 92 [122]),.mv 124 0,.exo [1,15,31,47] 125 (.opn 38 [124,(.i 4)]),.ex 126 (.build [sE,(B false),sE,(B false),sE,(I 0),(I 0)] [(0,(1,123)),(5,(1,125))]),.ex 127 (.build [(I 0),(I 0),sE,(B false),sE,(B false),sE,(I 0),(I 0)] [(0,(1,119)),(1,(1,121)),(2,(7,126))]),.exo [1,15,31,47] 128 (.bsl 9 55 [127]),.ex 129 (.app false 9 96 55 116 128),.f1 130 8 5,.s1 1 130 129]) (.s (.r [.b1 132 .eql 14 (.i 8),.mv 131 132]) (.cnd 131 (.r [.f1 133 9 5,.l1 134 1 133,.ex 135 (.un .not 134),.f1 136 9 5,.s1 1 136 135]) (.s (.r [.b1 138 .eql 14 (.i 9),.mv 137 138]) (.cnd 137 (.r [.f1 140 0 5,.l2 141 3 140,.ex 142 (.build [(I 0),sE,sE,sE] [(0,(1,(.i 2))),(1,(1,(.s [47,97]))),(3,(1,(.s [113])))]),.c1 143 93 [141,142],.mv 139 143,.e1 144 139 0,.e1 145 139 1,.f1 146 0 5,.s1 3 146 144]) .skip)))))))))))))))))))))) (.s (.r [.l2 147 14 5,.s1 14 4 147]) .ret)))))
theorem zbD:compF Tryz.prog [45,38,36,92,1000001,1000015,1000031,1000047] 34=some (zbC.ac,[(.cell 4 true 14)],148):=by kernel_rfl
abbrev bnC (w:Wld) (lv hv fv nv:PV):XB := .box [.c (eEnts w.over.base),.c (eMarkss w.over.layers),.c (eMarks w.over.upper),I w.clock,I w.count,lv,hv,fv,nv,B w.waits,I w.op.kind,.c (CS w.op.path),.c (CS w.op.dest),.c (CS w.op.data)]
abbrev bnH (h0 h1 h2:List Hold):XM:=[(4,.rowP [.own 15 h0.length,.own 31 h1.length,.own 47 h2.length] 56),(15,.row (h0.map eHold) 7 53),(31,.row (h1.map eHold) 7 53),(47,.row (h2.map eHold) 7 53)]
abbrev bnL (w:Wld):XM:=[(7,.row (w.leases.map eLease) 4 72)]
abbrev bnN (w:Wld):XM:=[(5,.row (w.floors.map CI) 1 3),(6,.row (w.net.map eMsg) 9 55)]
abbrev bnF (v:Int) (w:Wld):Fr:=[(0,.ptr 1 0),(4,.ptr 64 0),(5,.ptr 80 0),(6,I w.net.length),(14,.c (CI v))]
abbrev bnB (s:Str) (q:Int) (w:Wld) (lv hv:PV):XM:=[(1,rdB s q),(64,zWB),(80,bnC w lv hv (.own 5 w.floors.length) (.own 6 w.net.length))]++bnN w
theorem ZS {s:Str} {q:Int} {w:Wld} {h0 h1 h2:List Hold} (h3:w.holds=[h0,h1,h2]) {F:Fr} {m:XM} {z:Option Nat} (v:Int)
  (h:KeepX [1] z F m (bnF v w) (bnB s q w (.own 7 w.leases.length) (.own 4 3)++bnH h0 h1 h2++bnL w)):KeepX [1] (some 3) F m (bnF v w) (bnB s q w (.own 7 w.leases.length) (.c (eHoldss w.holds))++bnL w):=by
 refine KeepX.trans (z':=some 3) h ?_
 refine KeepS.trans (z:=some 3) (F1:=bnF v w) (m1:=(4,.rowP [.c (eHolds h0),.own 31 h1.length,.own 47 h2.length] 56)::(bnB s q w (.own 7 w.leases.length) (.own 4 3)++[(31,.row (h1.map eHold) 7 53),(47,.row (h2.map eHold) 7 53)]++bnL w)) (KeepS.pull 4 15 rfl rfl (by simp [frA,fr1]; rfl) rfl ?_) ?_
 ·refine dr ?_
  trivial
 refine KeepS.trans (z:=some 3) (F1:=bnF v w) (m1:=(4,.rowP [.c (eHolds h0),.c (eHolds h1),.own 47 h2.length] 56)::(bnB s q w (.own 7 w.leases.length) (.own 4 3)++[(47,.row (h2.map eHold) 7 53)]++bnL w)) (KeepS.pull 4 31 rfl rfl (by simp [frA,fr1]; rfl) rfl ?_) ?_
 ·refine dr ?_
  trivial
 refine KeepS.trans (z:=some 4) (F1:=bnF v w) (m1:=(4,.row [eHolds h0,eHolds h1,eHolds h2] 1 56)::(bnB s q w (.own 7 w.leases.length) (.own 4 3)++bnL w)) (KeepS.er (KeepS.pull 4 47 (Lp':=[.c (eHolds h0),.c (eHolds h1),.c (eHolds h2)]) rfl rfl (by simp [frA,fr1]; rfl) rfl ?_) rfl) ?_
 ·refine dr ?_
  trivial
 rw [h3]
 refine dr ?_
 repeat (refine oB (by simp) ?_; first | refine dr ?_ | exact dz)
 trivial
theorem zp {s:Str} {q:Int} (x:Wld) {F:Fr} {m:XM} {z:Option Nat}
  (h:KeepX [1] z F m [(4,.ptr 64 0),(5,.ptr 80 0)] (bnB s q x (.c (eLeases x.leases)) (.c (eHoldss x.holds)))):KeepX [1] (some 3) F m [(4,.ptr 64 0),(5,.ptr 80 0)] [(1,rdB s q),(64,zWB),(80,wBx x)]:=by
 refine KeepX.trans (z':=some 3) h ?_
 refine KeepX.trans (z:=some 5) (z':=some 6) (F1:=[(4,.ptr 64 0),(5,.ptr 80 0)]) (m1:=[(1,rdB s q),(64,zWB),(80,bnC x (.c (eLeases x.leases)) (.c (eHoldss x.holds)) (.c (eInts x.floors)) (.own 6 x.net.length)),(6,.row (x.net.map eMsg) 9 55)]) ?_ ?_
 ·refine dr ?_
  repeat (refine oB (by simp) ?_; first | refine dr ?_ | exact dz)
  trivial
 ·refine dr ?_
  repeat (refine oB (by simp) ?_; first | refine dr ?_ | exact dz)
  trivial
theorem zq {s:Str} {q:Int} (x:Wld) (g0 g1 g2:List Hold) (hx:x.holds=[g0,g1,g2]) {F:Fr} {m:XM} {z:Option Nat}
  (h:KeepX [1] z F m [(4,.ptr 64 0),(5,.ptr 80 0)] ((4,.row [eHolds g0,eHolds g1,eHolds g2] 1 56)::bnB s q x (.c (eLeases x.leases)) (.own 4 3))):KeepX [1] (some 3) F m [(4,.ptr 64 0),(5,.ptr 80 0)] [(1,rdB s q),(64,zWB),(80,wBx x)]:=by
 refine zp x (z:=some 3) (KeepX.trans (z':=some 4) h ?_)
 rw [hx]
 refine dr ?_
 repeat (refine oB (by simp) ?_; first | refine dr ?_ | exact dz)
 trivial
theorem WR.hold {n:Nat} {w:Wld} (h:WR n w) {g0 g1 g2:List Hold} (e0:g0.length≤101+n) (e1:g1.length≤101+n) (e2:g2.length≤101+n):WR (n+1) { w with holds:=[g0,g1,g2] }:=by
 obtain ⟨⟨z1,⟨z2,z3⟩,z4,z5,z6⟩,h,f,ck,ct⟩:=h
 refine ⟨⟨z1.mono (by omega),⟨by simp only; omega,fun y hy=>?_⟩,by simp; omega,by simp only; omega,by simp only; omega⟩,rfl,f,by simp only; omega,by simp only; omega⟩
 simp only [List.mem_cons,List.not_mem_nil,or_false] at hy
 rcases hy with rfl | rfl | rfl<;>omega
def bnM (s:Str) (q:Int) (w:Wld) (h0 h1 h2:List Hold):Nat→XM
 | 0=>bnB s q w (.own 7 w.leases.length) (.c (eHoldss w.holds))++bnL w
 | 1=>bnB s q w (.c (eLeases w.leases)) (.own 4 3)++bnH h0 h1 h2
 | _=>bnB s q w (.c (eLeases w.leases)) (.c (eHoldss w.holds))
theorem WR.set {n:Nat} {w x:Wld} (h:WR n w) (h1:x.over=w.over∨OZ 32 x.over) (h2:x.leases.length≤w.leases.length+1) (h3:x.holds=w.holds) (h4:x.floors.length=w.floors.length) (h5:x.net.length≤w.net.length+1)
  (h6 : -(20000+20000 * (n:Int)+10010)≤x.clock∧x.clock≤20000+20000 * n+10010) (h7 : -(20000+20000 * (n:Int)+10010)≤x.count∧x.count≤20000+20000 * n+10010):WR (n+1) x:=by
 obtain ⟨⟨z1,⟨z2,z3⟩,z4,z5,z6⟩,h,f,ck,ct⟩:=h
 refine ⟨⟨?_,⟨by omega,fun y hy=>?_⟩,by rw [h3]; omega,by omega,by omega⟩,by rw [h3]; exact h,by omega,by omega,by omega⟩
 ·rcases h1 with e | h1
  ·rw [e]; exact z1.mono (by omega)
  ·exact h1.mono (by omega)
 ·rw [h3] at hy; have:=z3 y hy; omega
set_option maxHeartbeats 8000000 in
theorem zfi (W0:World) (s:Str) (p:Int) (n:Nat) (w:Wld) (hs:s.length≤2000) (hp:0≤p∧p≤90000) (hn:n≤1000) (hw:WR n w) :
  FunW Tryz.prog W0 34 [.ptr 1 0,.c (eWld w)] (Rd s p) (fun x:Wld × Int=>WR (n+1) x.1∧p≤x.2∧x.2≤p+8) (fun x => .c (eWld x.1)) (fun x=>Rd s x.2):=by
 obtain ⟨h0,h1,h2,h3⟩:∃ h0 h1 h2,w.holds=[h0,h1,h2]:=by
  have:=hw.h
  match hh:w.holds with
  | [a,b,c]=>exact ⟨a,b,c,rfl⟩
  | [] | [_] | [_,_] | _::_::_::_::_=>rw [hh] at this; simp at this
 have hz:=hw.z
 have hw':WR (n+1) w:=hw.mono (by omega)
 refine funW (c:=zbC) mixed zbD (by simp) rfl rfl fun hg=>?_
 refine dr ?_
 refine oW (zfl W0 w h0 h1 h2 (hz.mono (by omega)) h3) rfl trivial rfl rfl ⟨(),trivial⟩ fun _ _=>⟨rfl,?_⟩
 refine dEr ?_
 refine cutz 3 (σ:=Wld × Int) (fun _=>[(4,.ptr 64 0),(5,.ptr 80 0)]) (fun x=>[(1,rdB s x.2),(64,zWB),(80,wBx x.1)]) (fun x=>WR (n+1) x.1∧p≤x.2∧x.2≤p+8) ?_ ?_
 rotate_left
 ·rintro ⟨x,q⟩ ⟨hx,hq1,hq2⟩
  refine dr ?_
  refine ⟨none,_,_,?_,(x,q),⟨hx,hq1,hq2⟩,rfl,rfl⟩
  refine dr ?_
  trivial
 refine dr ?_
 refine cutz 3 (σ:=Int × Nat) (fun x=>bnF x.1 w) (fun x=>bnM s (p+1) w h0 h1 h2 x.2) (fun x=>(x.2=0∧x.1=3)∨(x.2=1∧x.1=4)∨(x.2=2∧x.1≠3∧x.1≠4)) ?_ ?_
 ·refine dr ?_
  refine oW (jB W0 s p 100 hs (by omega) (by omega)) rfl ⟨rfl,trivial⟩ rfl rfl ⟨0,by omega,by omega⟩ fun v hv=>⟨rfl,?_⟩
  refine dEr ?_
  by_cases a:v=3
  ·refine ⟨(v,0),.inl ⟨rfl,a⟩,ZS h3 v (z:=none) ?_⟩
   refine dr ?_
   trivial
  by_cases b:v=4
  ·refine ⟨(v,1),.inr (.inl ⟨rfl,b⟩),KeepX.s (z:=some 7) ?_⟩
   refine dr ?_
   repeat (refine oB (by simp) ?_; first | refine dr ?_ | exact dz)
   trivial
  refine ⟨(v,2),.inr (.inr ⟨rfl,a,b⟩),KeepX.trans (z':=some 7) (ZS (s:=s) (q:=p+1) h3 v (z:=none) ?_) ?_⟩
  ·refine dr ?_
   trivial
  ·refine dr ?_
   repeat (refine oB (by simp) ?_; first | refine dr ?_ | exact dz)
   trivial
 rintro ⟨v,k⟩ hvk
 simp only at hvk
 have ck:=hw.ck
 have ct:=hw.ct
 have hf3:=hw.f
 have hh3:=hw.h
 have zt:=hz.t
 have zl:=hz.z.l
 rcases hvk with ⟨rfl,rfl⟩ | ⟨rfl,rfl⟩ | ⟨rfl,hv3,hv4⟩
 ·
  refine dr ?_
  refine cP ?_ ?_<;>intro k1
  ·exact absurd k1 (by decide)
  refine dr ?_
  refine cP ?_ ?_<;>intro k1
  ·exact absurd k1 (by decide)
  refine dr ?_
  refine cP ?_ ?_<;>intro k1
  ·exact absurd k1 (by decide)
  refine dr ?_
  refine cP ?_ ?_<;>intro k1
  rotate_left
  ·exact absurd rfl k1
  refine dr ?_
  refine cP ?_ ?_<;>intro k2
  ·obtain ⟨l,ls,hl⟩:∃ l ls,w.leases=l::ls:=by
    cases h:w.leases with
    | nil=>rw [h] at k2; simp at k2
    | cons l ls=>exact ⟨l,ls,rfl⟩
   refine dr ?_
   repeat ((first | refine aM (j:=0) rfl (by omega) ?_ | refine oB (by simp; omega) ?_ | refine oB (by simp) ?_); first | refine dr ?_ | exact dz)
   refine ⟨({ w with leases:=w.leases++[w.leases[0]'(by omega)] },p+1),⟨hw.set (.inl rfl) (by simp) rfl rfl (by simp) (by simp only; omega) (by simp only; omega),by simp only; omega,by simp only; omega⟩,zp _ (z:=some 7) ?_⟩
   refine dr ?_
   repeat (refine oB (by first | (simp; done) | (simp; exact congrArg CV.row app1)) ?_; first | refine dr ?_ | exact dz)
   trivial
  ·refine dr ?_
   refine ⟨(w,p+1),⟨hw',by simp only; omega,by simp only; omega⟩,zp w (z:=some 7) ?_⟩
   refine dr ?_
   repeat (refine oB (by simp) ?_; first | refine dr ?_ | exact dz)
   trivial
 ·
  refine dr ?_
  refine cP ?_ ?_<;>intro k1
  ·exact absurd k1 (by decide)
  refine dr ?_
  refine cP ?_ ?_<;>intro k1
  ·exact absurd k1 (by decide)
  refine dr ?_
  refine cP ?_ ?_<;>intro k1
  ·exact absurd k1 (by decide)
  refine dr ?_
  refine cP ?_ ?_<;>intro k1
  ·exact absurd k1 (by decide)
  refine dr ?_
  refine cP ?_ ?_<;>intro k1
  rotate_left
  ·exact absurd rfl k1
  refine dr ?_
  refine oW (jB W0 s (p+1) 3 hs (by omega) (by omega)) rfl ⟨rfl,trivial⟩ rfl rfl ⟨0,by omega,by omega⟩ fun i hi=>⟨rfl,?_⟩
  refine dEr ?_
  refine oW (jB W0 s (p+1+1) 3 hs (by omega) (by omega)) rfl ⟨rfl,trivial⟩ rfl rfl ⟨0,by omega,by omega⟩ fun j hj=>⟨rfl,?_⟩
  refine dEr ?_
  obtain ⟨i,rfl⟩:∃ k:Nat,i=k:=⟨i.toNat,by omega⟩
  obtain ⟨j,rfl⟩:∃ k:Nat,j=k:=⟨j.toNat,by omega⟩
  have hi2:i < 3:=by have:=hi.2 (by omega); omega
  have hj2:j < 3:=by have:=hj.2 (by omega); omega
  clear hi hj
  have z3:=hz.z.h
  rw [h3] at z3
  have e0:=z3 h0 (by simp)
  have e1:=z3 h1 (by simp)
  have e2:=z3 h2 (by simp)
  have hc:(i=0∨i=1∨i=2)∧(j=0∨j=1∨j=2):=⟨by omega,by omega⟩
  obtain ⟨rfl | rfl | rfl,rfl | rfl | rfl⟩:=hc
  ·
   refine dr ?_
   repeat ((first | refine nE (j:=0) rfl ?_ | refine oB (by decide) ?_); first | refine dr ?_ | exact dz)
   refine oW (jp W0 s (p+1+1+1) hs (by omega)) rfl ⟨rfl,trivial⟩ rfl rfl ⟨_,List.mem_cons_self⟩ fun a3 ha3=>⟨rfl,?_⟩
   refine dEr ?_
   refine oW (jB W0 s (p+1+1+1+1) 3 hs (by omega) (by omega)) rfl ⟨rfl,trivial⟩ rfl rfl ⟨0,by omega,by omega⟩ fun a4 ha4=>⟨rfl,?_⟩
   refine dEr ?_
   refine oW (jB W0 s (p+1+1+1+1+1) 3 hs (by omega) (by omega)) rfl ⟨rfl,trivial⟩ rfl rfl ⟨0,by omega,by omega⟩ fun a5 ha5=>⟨rfl,?_⟩
   have ha5':=ha5.2 (by omega)
   refine dEr ?_
   repeat (refine oB (by omega) ?_; first | refine dEr ?_ | exact dz)
   refine ⟨({ w with holds:=[h0++[⟨a3,false,noE,a4,w.clock+a5⟩],h1,h2] },p+1+1+1+1+1+1),⟨hw.hold (by first | omega | (simp; omega)) (by first | omega | (simp; omega)) (by first | omega | (simp; omega)),by simp only; omega,by simp only; omega⟩,zq _ (h0++[⟨a3,false,noE,a4,w.clock+a5⟩]) (h1) (h2) rfl (z:=some 3) ?_⟩
   refine KeepS.trans (z:=some 3) (F1:=[(4,.ptr 64 0),(5,.ptr 80 0)]) (m1:=(4,.rowP [.c (eHolds (h0++[⟨a3,false,noE,a4,w.clock+a5⟩])),.c (eHolds h1),.own 47 h2.length] 56)::(bnB s (p+1+1+1+1+1+1) w (.c (eLeases w.leases)) (.own 4 3)++[(47,.row (h2.map eHold) 7 53)])) (KeepS.pull 4 31 (m3:=bnB s (p+1+1+1+1+1+1) w (.c (eLeases w.leases)) (.own 4 3)++[(47,.row (h2.map eHold) 7 53)]) (Lp':=[.c (eHolds (h0++[⟨a3,false,noE,a4,w.clock+a5⟩])),.c (eHolds h1),.own 47 h2.length]) rfl rfl (by simp [frA,fr1,eHolds]<;>rfl) rfl ?_) ?_
   ·refine dr ?_
    repeat (refine oB (by first | (simp; done) | (simp [eHolds]; rfl)) ?_; first | refine dr ?_ | exact dz)
    trivial
   refine KeepS.trans (z:=none) (F1:=[(4,.ptr 64 0),(5,.ptr 80 0)]) (m1:=(4,.row [eHolds (h0++[⟨a3,false,noE,a4,w.clock+a5⟩]),eHolds (h1),eHolds (h2)] 1 56)::(bnB s (p+1+1+1+1+1+1) w (.c (eLeases w.leases)) (.own 4 3))) (KeepS.er (KeepS.pull 4 47 (m3:=bnB s (p+1+1+1+1+1+1) w (.c (eLeases w.leases)) (.own 4 3)) (Lp':=[.c (eHolds (h0++[⟨a3,false,noE,a4,w.clock+a5⟩])),.c (eHolds h1),.c (eHolds h2)]) rfl rfl (by simp [frA,fr1,eHolds]<;>rfl) rfl ?_) rfl) ?_
   ·refine dr ?_
    repeat (refine oB (by first | (simp; done) | (simp [eHolds]; rfl)) ?_; first | refine dr ?_ | exact dz)
    trivial
   refine dr ?_
   repeat (refine oB (by first | (simp; done) | (simp [eHolds]; rfl)) ?_; first | refine dr ?_ | exact dz)
   trivial
  ·
   refine dr ?_
   repeat ((first | refine nE (j:=1) rfl ?_ | refine oB (by decide) ?_); first | refine dr ?_ | exact dz)
   refine oW (jp W0 s (p+1+1+1) hs (by omega)) rfl ⟨rfl,trivial⟩ rfl rfl ⟨_,List.mem_cons_self⟩ fun a3 ha3=>⟨rfl,?_⟩
   refine dEr ?_
   refine oW (jB W0 s (p+1+1+1+1) 3 hs (by omega) (by omega)) rfl ⟨rfl,trivial⟩ rfl rfl ⟨0,by omega,by omega⟩ fun a4 ha4=>⟨rfl,?_⟩
   refine dEr ?_
   refine oW (jB W0 s (p+1+1+1+1+1) 3 hs (by omega) (by omega)) rfl ⟨rfl,trivial⟩ rfl rfl ⟨0,by omega,by omega⟩ fun a5 ha5=>⟨rfl,?_⟩
   have ha5':=ha5.2 (by omega)
   refine dEr ?_
   repeat (refine oB (by omega) ?_; first | refine dEr ?_ | exact dz)
   refine ⟨({ w with holds:=[h1++[⟨a3,false,noE,a4,w.clock+a5⟩],h1,h2] },p+1+1+1+1+1+1),⟨hw.hold (by first | omega | (simp; omega)) (by first | omega | (simp; omega)) (by first | omega | (simp; omega)),by simp only; omega,by simp only; omega⟩,zq _ (h1++[⟨a3,false,noE,a4,w.clock+a5⟩]) (h1) (h2) rfl (z:=some 3) ?_⟩
   refine KeepS.trans (z:=some 3) (KeepS.ung 4 31 (n:=h1.length) (C:=h1.map eHold) (Lp':=[.c (.row (h1.map eHold++[.agg [CS a3,CB false,CS [],CB false,CS [],CI a4,CI (w.clock+a5)]])),.c (eHolds h1),.own 47 h2.length]) rfl rfl (by simp) ⟨.inl rfl,.inr ⟨rfl,rfl⟩,.inl rfl,trivial⟩) ?_
   refine KeepS.trans (z:=none) (F1:=[(4,.ptr 64 0),(5,.ptr 80 0)]) (m1:=(4,.row [eHolds (h1++[⟨a3,false,noE,a4,w.clock+a5⟩]),eHolds (h1),eHolds (h2)] 1 56)::(bnB s (p+1+1+1+1+1+1) w (.c (eLeases w.leases)) (.own 4 3))) (KeepS.er (KeepS.pull 4 47 (m3:=bnB s (p+1+1+1+1+1+1) w (.c (eLeases w.leases)) (.own 4 3)) (Lp':=[.c (eHolds (h1++[⟨a3,false,noE,a4,w.clock+a5⟩])),.c (eHolds h1),.c (eHolds h2)]) rfl rfl (by simp [frA,fr1,eHolds]<;>rfl) rfl ?_) rfl) ?_
   ·refine dr ?_
    repeat (refine oB (by first | (simp; done) | (simp [eHolds]; rfl)) ?_; first | refine dr ?_ | exact dz)
    trivial
   refine dr ?_
   repeat (refine oB (by first | (simp; done) | (simp [eHolds]; rfl)) ?_; first | refine dr ?_ | exact dz)
   trivial
  ·
   refine dr ?_
   repeat ((first | refine nE (j:=2) rfl ?_ | refine oB (by decide) ?_); first | refine dr ?_ | exact dz)
   refine oW (jp W0 s (p+1+1+1) hs (by omega)) rfl ⟨rfl,trivial⟩ rfl rfl ⟨_,List.mem_cons_self⟩ fun a3 ha3=>⟨rfl,?_⟩
   refine dEr ?_
   refine oW (jB W0 s (p+1+1+1+1) 3 hs (by omega) (by omega)) rfl ⟨rfl,trivial⟩ rfl rfl ⟨0,by omega,by omega⟩ fun a4 ha4=>⟨rfl,?_⟩
   refine dEr ?_
   refine oW (jB W0 s (p+1+1+1+1+1) 3 hs (by omega) (by omega)) rfl ⟨rfl,trivial⟩ rfl rfl ⟨0,by omega,by omega⟩ fun a5 ha5=>⟨rfl,?_⟩
   have ha5':=ha5.2 (by omega)
   refine dEr ?_
   repeat (refine oB (by omega) ?_; first | refine dEr ?_ | exact dz)
   refine ⟨({ w with holds:=[h2++[⟨a3,false,noE,a4,w.clock+a5⟩],h1,h2] },p+1+1+1+1+1+1),⟨hw.hold (by first | omega | (simp; omega)) (by first | omega | (simp; omega)) (by first | omega | (simp; omega)),by simp only; omega,by simp only; omega⟩,zq _ (h2++[⟨a3,false,noE,a4,w.clock+a5⟩]) (h1) (h2) rfl (z:=some 3) ?_⟩
   refine KeepS.trans (z:=some 3) (KeepS.ung 4 47 (n:=h2.length) (C:=h2.map eHold) (Lp':=[.c (.row (h2.map eHold++[.agg [CS a3,CB false,CS [],CB false,CS [],CI a4,CI (w.clock+a5)]])),.own 31 h1.length,.c (eHolds h2)]) rfl rfl (by simp) ⟨.inl rfl,.inl rfl,.inr ⟨rfl,rfl⟩,trivial⟩) ?_
   refine KeepS.trans (z:=none) (F1:=[(4,.ptr 64 0),(5,.ptr 80 0)]) (m1:=(4,.row [eHolds (h2++[⟨a3,false,noE,a4,w.clock+a5⟩]),eHolds (h1),eHolds (h2)] 1 56)::(bnB s (p+1+1+1+1+1+1) w (.c (eLeases w.leases)) (.own 4 3))) (KeepS.er (KeepS.pull 4 31 (m3:=bnB s (p+1+1+1+1+1+1) w (.c (eLeases w.leases)) (.own 4 3)) (Lp':=[.c (eHolds (h2++[⟨a3,false,noE,a4,w.clock+a5⟩])),.c (eHolds h1),.c (eHolds h2)]) rfl rfl (by simp [frA,fr1,eHolds]<;>rfl) rfl ?_) rfl) ?_
   ·refine dr ?_
    repeat (refine oB (by first | (simp; done) | (simp [eHolds]; rfl)) ?_; first | refine dr ?_ | exact dz)
    trivial
   refine dr ?_
   repeat (refine oB (by first | (simp; done) | (simp [eHolds]; rfl)) ?_; first | refine dr ?_ | exact dz)
   trivial
  ·
   refine dr ?_
   repeat ((first | refine nE (j:=0) rfl ?_ | refine oB (by decide) ?_); first | refine dr ?_ | exact dz)
   refine oW (jp W0 s (p+1+1+1) hs (by omega)) rfl ⟨rfl,trivial⟩ rfl rfl ⟨_,List.mem_cons_self⟩ fun a3 ha3=>⟨rfl,?_⟩
   refine dEr ?_
   refine oW (jB W0 s (p+1+1+1+1) 3 hs (by omega) (by omega)) rfl ⟨rfl,trivial⟩ rfl rfl ⟨0,by omega,by omega⟩ fun a4 ha4=>⟨rfl,?_⟩
   refine dEr ?_
   refine oW (jB W0 s (p+1+1+1+1+1) 3 hs (by omega) (by omega)) rfl ⟨rfl,trivial⟩ rfl rfl ⟨0,by omega,by omega⟩ fun a5 ha5=>⟨rfl,?_⟩
   have ha5':=ha5.2 (by omega)
   refine dEr ?_
   repeat (refine oB (by omega) ?_; first | refine dEr ?_ | exact dz)
   refine ⟨({ w with holds:=[h0,h0++[⟨a3,false,noE,a4,w.clock+a5⟩],h2] },p+1+1+1+1+1+1),⟨hw.hold (by first | omega | (simp; omega)) (by first | omega | (simp; omega)) (by first | omega | (simp; omega)),by simp only; omega,by simp only; omega⟩,zq _ (h0) (h0++[⟨a3,false,noE,a4,w.clock+a5⟩]) (h2) rfl (z:=some 3) ?_⟩
   refine KeepS.trans (z:=some 3) (KeepS.ung 4 15 (n:=h0.length) (C:=h0.map eHold) (Lp':=[.c (eHolds h0),.c (.row (h0.map eHold++[.agg [CS a3,CB false,CS [],CB false,CS [],CI a4,CI (w.clock+a5)]])),.own 47 h2.length]) rfl rfl (by simp) ⟨.inr ⟨rfl,rfl⟩,.inl rfl,.inl rfl,trivial⟩) ?_
   refine KeepS.trans (z:=none) (F1:=[(4,.ptr 64 0),(5,.ptr 80 0)]) (m1:=(4,.row [eHolds (h0),eHolds (h0++[⟨a3,false,noE,a4,w.clock+a5⟩]),eHolds (h2)] 1 56)::(bnB s (p+1+1+1+1+1+1) w (.c (eLeases w.leases)) (.own 4 3))) (KeepS.er (KeepS.pull 4 47 (m3:=bnB s (p+1+1+1+1+1+1) w (.c (eLeases w.leases)) (.own 4 3)) (Lp':=[.c (eHolds h0),.c (eHolds (h0++[⟨a3,false,noE,a4,w.clock+a5⟩])),.c (eHolds h2)]) rfl rfl (by simp [frA,fr1,eHolds]<;>rfl) rfl ?_) rfl) ?_
   ·refine dr ?_
    repeat (refine oB (by first | (simp; done) | (simp [eHolds]; rfl)) ?_; first | refine dr ?_ | exact dz)
    trivial
   refine dr ?_
   repeat (refine oB (by first | (simp; done) | (simp [eHolds]; rfl)) ?_; first | refine dr ?_ | exact dz)
   trivial
  ·
   refine dr ?_
   repeat ((first | refine nE (j:=1) rfl ?_ | refine oB (by decide) ?_); first | refine dr ?_ | exact dz)
   refine oW (jp W0 s (p+1+1+1) hs (by omega)) rfl ⟨rfl,trivial⟩ rfl rfl ⟨_,List.mem_cons_self⟩ fun a3 ha3=>⟨rfl,?_⟩
   refine dEr ?_
   refine oW (jB W0 s (p+1+1+1+1) 3 hs (by omega) (by omega)) rfl ⟨rfl,trivial⟩ rfl rfl ⟨0,by omega,by omega⟩ fun a4 ha4=>⟨rfl,?_⟩
   refine dEr ?_
   refine oW (jB W0 s (p+1+1+1+1+1) 3 hs (by omega) (by omega)) rfl ⟨rfl,trivial⟩ rfl rfl ⟨0,by omega,by omega⟩ fun a5 ha5=>⟨rfl,?_⟩
   have ha5':=ha5.2 (by omega)
   refine dEr ?_
   repeat (refine oB (by omega) ?_; first | refine dEr ?_ | exact dz)
   refine ⟨({ w with holds:=[h0,h1++[⟨a3,false,noE,a4,w.clock+a5⟩],h2] },p+1+1+1+1+1+1),⟨hw.hold (by first | omega | (simp; omega)) (by first | omega | (simp; omega)) (by first | omega | (simp; omega)),by simp only; omega,by simp only; omega⟩,zq _ (h0) (h1++[⟨a3,false,noE,a4,w.clock+a5⟩]) (h2) rfl (z:=some 3) ?_⟩
   refine KeepS.trans (z:=some 3) (F1:=[(4,.ptr 64 0),(5,.ptr 80 0)]) (m1:=(4,.rowP [.c (eHolds h0),.c (eHolds (h1++[⟨a3,false,noE,a4,w.clock+a5⟩])),.own 47 h2.length] 56)::(bnB s (p+1+1+1+1+1+1) w (.c (eLeases w.leases)) (.own 4 3)++[(47,.row (h2.map eHold) 7 53)])) (KeepS.pull 4 15 (m3:=bnB s (p+1+1+1+1+1+1) w (.c (eLeases w.leases)) (.own 4 3)++[(47,.row (h2.map eHold) 7 53)]) (Lp':=[.c (eHolds h0),.c (eHolds (h1++[⟨a3,false,noE,a4,w.clock+a5⟩])),.own 47 h2.length]) rfl rfl (by simp [frA,fr1,eHolds]<;>rfl) rfl ?_) ?_
   ·refine dr ?_
    repeat (refine oB (by first | (simp; done) | (simp [eHolds]; rfl)) ?_; first | refine dr ?_ | exact dz)
    trivial
   refine KeepS.trans (z:=none) (F1:=[(4,.ptr 64 0),(5,.ptr 80 0)]) (m1:=(4,.row [eHolds (h0),eHolds (h1++[⟨a3,false,noE,a4,w.clock+a5⟩]),eHolds (h2)] 1 56)::(bnB s (p+1+1+1+1+1+1) w (.c (eLeases w.leases)) (.own 4 3))) (KeepS.er (KeepS.pull 4 47 (m3:=bnB s (p+1+1+1+1+1+1) w (.c (eLeases w.leases)) (.own 4 3)) (Lp':=[.c (eHolds h0),.c (eHolds (h1++[⟨a3,false,noE,a4,w.clock+a5⟩])),.c (eHolds h2)]) rfl rfl (by simp [frA,fr1,eHolds]<;>rfl) rfl ?_) rfl) ?_
   ·refine dr ?_
    repeat (refine oB (by first | (simp; done) | (simp [eHolds]; rfl)) ?_; first | refine dr ?_ | exact dz)
    trivial
   refine dr ?_
   repeat (refine oB (by first | (simp; done) | (simp [eHolds]; rfl)) ?_; first | refine dr ?_ | exact dz)
   trivial
  ·
   refine dr ?_
   repeat ((first | refine nE (j:=2) rfl ?_ | refine oB (by decide) ?_); first | refine dr ?_ | exact dz)
   refine oW (jp W0 s (p+1+1+1) hs (by omega)) rfl ⟨rfl,trivial⟩ rfl rfl ⟨_,List.mem_cons_self⟩ fun a3 ha3=>⟨rfl,?_⟩
   refine dEr ?_
   refine oW (jB W0 s (p+1+1+1+1) 3 hs (by omega) (by omega)) rfl ⟨rfl,trivial⟩ rfl rfl ⟨0,by omega,by omega⟩ fun a4 ha4=>⟨rfl,?_⟩
   refine dEr ?_
   refine oW (jB W0 s (p+1+1+1+1+1) 3 hs (by omega) (by omega)) rfl ⟨rfl,trivial⟩ rfl rfl ⟨0,by omega,by omega⟩ fun a5 ha5=>⟨rfl,?_⟩
   have ha5':=ha5.2 (by omega)
   refine dEr ?_
   repeat (refine oB (by omega) ?_; first | refine dEr ?_ | exact dz)
   refine ⟨({ w with holds:=[h0,h2++[⟨a3,false,noE,a4,w.clock+a5⟩],h2] },p+1+1+1+1+1+1),⟨hw.hold (by first | omega | (simp; omega)) (by first | omega | (simp; omega)) (by first | omega | (simp; omega)),by simp only; omega,by simp only; omega⟩,zq _ (h0) (h2++[⟨a3,false,noE,a4,w.clock+a5⟩]) (h2) rfl (z:=some 3) ?_⟩
   refine KeepS.trans (z:=some 3) (KeepS.ung 4 47 (n:=h2.length) (C:=h2.map eHold) (Lp':=[.own 15 h0.length,.c (.row (h2.map eHold++[.agg [CS a3,CB false,CS [],CB false,CS [],CI a4,CI (w.clock+a5)]])),.c (eHolds h2)]) rfl rfl (by simp) ⟨.inl rfl,.inl rfl,.inr ⟨rfl,rfl⟩,trivial⟩) ?_
   refine KeepS.trans (z:=none) (F1:=[(4,.ptr 64 0),(5,.ptr 80 0)]) (m1:=(4,.row [eHolds (h0),eHolds (h2++[⟨a3,false,noE,a4,w.clock+a5⟩]),eHolds (h2)] 1 56)::(bnB s (p+1+1+1+1+1+1) w (.c (eLeases w.leases)) (.own 4 3))) (KeepS.er (KeepS.pull 4 15 (m3:=bnB s (p+1+1+1+1+1+1) w (.c (eLeases w.leases)) (.own 4 3)) (Lp':=[.c (eHolds h0),.c (eHolds (h2++[⟨a3,false,noE,a4,w.clock+a5⟩])),.c (eHolds h2)]) rfl rfl (by simp [frA,fr1,eHolds]<;>rfl) rfl ?_) rfl) ?_
   ·refine dr ?_
    repeat (refine oB (by first | (simp; done) | (simp [eHolds]; rfl)) ?_; first | refine dr ?_ | exact dz)
    trivial
   refine dr ?_
   repeat (refine oB (by first | (simp; done) | (simp [eHolds]; rfl)) ?_; first | refine dr ?_ | exact dz)
   trivial
  ·
   refine dr ?_
   repeat ((first | refine nE (j:=0) rfl ?_ | refine oB (by decide) ?_); first | refine dr ?_ | exact dz)
   refine oW (jp W0 s (p+1+1+1) hs (by omega)) rfl ⟨rfl,trivial⟩ rfl rfl ⟨_,List.mem_cons_self⟩ fun a3 ha3=>⟨rfl,?_⟩
   refine dEr ?_
   refine oW (jB W0 s (p+1+1+1+1) 3 hs (by omega) (by omega)) rfl ⟨rfl,trivial⟩ rfl rfl ⟨0,by omega,by omega⟩ fun a4 ha4=>⟨rfl,?_⟩
   refine dEr ?_
   refine oW (jB W0 s (p+1+1+1+1+1) 3 hs (by omega) (by omega)) rfl ⟨rfl,trivial⟩ rfl rfl ⟨0,by omega,by omega⟩ fun a5 ha5=>⟨rfl,?_⟩
   have ha5':=ha5.2 (by omega)
   refine dEr ?_
   repeat (refine oB (by omega) ?_; first | refine dEr ?_ | exact dz)
   refine ⟨({ w with holds:=[h0,h1,h0++[⟨a3,false,noE,a4,w.clock+a5⟩]] },p+1+1+1+1+1+1),⟨hw.hold (by first | omega | (simp; omega)) (by first | omega | (simp; omega)) (by first | omega | (simp; omega)),by simp only; omega,by simp only; omega⟩,zq _ (h0) (h1) (h0++[⟨a3,false,noE,a4,w.clock+a5⟩]) rfl (z:=some 3) ?_⟩
   refine KeepS.trans (z:=some 3) (KeepS.ung 4 15 (n:=h0.length) (C:=h0.map eHold) (Lp':=[.c (eHolds h0),.own 31 h1.length,.c (.row (h0.map eHold++[.agg [CS a3,CB false,CS [],CB false,CS [],CI a4,CI (w.clock+a5)]]))]) rfl rfl (by simp) ⟨.inr ⟨rfl,rfl⟩,.inl rfl,.inl rfl,trivial⟩) ?_
   refine KeepS.trans (z:=none) (F1:=[(4,.ptr 64 0),(5,.ptr 80 0)]) (m1:=(4,.row [eHolds (h0),eHolds (h1),eHolds (h0++[⟨a3,false,noE,a4,w.clock+a5⟩])] 1 56)::(bnB s (p+1+1+1+1+1+1) w (.c (eLeases w.leases)) (.own 4 3))) (KeepS.er (KeepS.pull 4 31 (m3:=bnB s (p+1+1+1+1+1+1) w (.c (eLeases w.leases)) (.own 4 3)) (Lp':=[.c (eHolds h0),.c (eHolds h1),.c (eHolds (h0++[⟨a3,false,noE,a4,w.clock+a5⟩]))]) rfl rfl (by simp [frA,fr1,eHolds]<;>rfl) rfl ?_) rfl) ?_
   ·refine dr ?_
    repeat (refine oB (by first | (simp; done) | (simp [eHolds]; rfl)) ?_; first | refine dr ?_ | exact dz)
    trivial
   refine dr ?_
   repeat (refine oB (by first | (simp; done) | (simp [eHolds]; rfl)) ?_; first | refine dr ?_ | exact dz)
   trivial
  ·
   refine dr ?_
   repeat ((first | refine nE (j:=1) rfl ?_ | refine oB (by decide) ?_); first | refine dr ?_ | exact dz)
   refine oW (jp W0 s (p+1+1+1) hs (by omega)) rfl ⟨rfl,trivial⟩ rfl rfl ⟨_,List.mem_cons_self⟩ fun a3 ha3=>⟨rfl,?_⟩
   refine dEr ?_
   refine oW (jB W0 s (p+1+1+1+1) 3 hs (by omega) (by omega)) rfl ⟨rfl,trivial⟩ rfl rfl ⟨0,by omega,by omega⟩ fun a4 ha4=>⟨rfl,?_⟩
   refine dEr ?_
   refine oW (jB W0 s (p+1+1+1+1+1) 3 hs (by omega) (by omega)) rfl ⟨rfl,trivial⟩ rfl rfl ⟨0,by omega,by omega⟩ fun a5 ha5=>⟨rfl,?_⟩
   have ha5':=ha5.2 (by omega)
   refine dEr ?_
   repeat (refine oB (by omega) ?_; first | refine dEr ?_ | exact dz)
   refine ⟨({ w with holds:=[h0,h1,h1++[⟨a3,false,noE,a4,w.clock+a5⟩]] },p+1+1+1+1+1+1),⟨hw.hold (by first | omega | (simp; omega)) (by first | omega | (simp; omega)) (by first | omega | (simp; omega)),by simp only; omega,by simp only; omega⟩,zq _ (h0) (h1) (h1++[⟨a3,false,noE,a4,w.clock+a5⟩]) rfl (z:=some 3) ?_⟩
   refine KeepS.trans (z:=some 3) (KeepS.ung 4 31 (n:=h1.length) (C:=h1.map eHold) (Lp':=[.own 15 h0.length,.c (eHolds h1),.c (.row (h1.map eHold++[.agg [CS a3,CB false,CS [],CB false,CS [],CI a4,CI (w.clock+a5)]]))]) rfl rfl (by simp) ⟨.inl rfl,.inr ⟨rfl,rfl⟩,.inl rfl,trivial⟩) ?_
   refine KeepS.trans (z:=none) (F1:=[(4,.ptr 64 0),(5,.ptr 80 0)]) (m1:=(4,.row [eHolds (h0),eHolds (h1),eHolds (h1++[⟨a3,false,noE,a4,w.clock+a5⟩])] 1 56)::(bnB s (p+1+1+1+1+1+1) w (.c (eLeases w.leases)) (.own 4 3))) (KeepS.er (KeepS.pull 4 15 (m3:=bnB s (p+1+1+1+1+1+1) w (.c (eLeases w.leases)) (.own 4 3)) (Lp':=[.c (eHolds h0),.c (eHolds h1),.c (eHolds (h1++[⟨a3,false,noE,a4,w.clock+a5⟩]))]) rfl rfl (by simp [frA,fr1,eHolds]<;>rfl) rfl ?_) rfl) ?_
   ·refine dr ?_
    repeat (refine oB (by first | (simp; done) | (simp [eHolds]; rfl)) ?_; first | refine dr ?_ | exact dz)
    trivial
   refine dr ?_
   repeat (refine oB (by first | (simp; done) | (simp [eHolds]; rfl)) ?_; first | refine dr ?_ | exact dz)
   trivial
  ·
   refine dr ?_
   repeat ((first | refine nE (j:=2) rfl ?_ | refine oB (by decide) ?_); first | refine dr ?_ | exact dz)
   refine oW (jp W0 s (p+1+1+1) hs (by omega)) rfl ⟨rfl,trivial⟩ rfl rfl ⟨_,List.mem_cons_self⟩ fun a3 ha3=>⟨rfl,?_⟩
   refine dEr ?_
   refine oW (jB W0 s (p+1+1+1+1) 3 hs (by omega) (by omega)) rfl ⟨rfl,trivial⟩ rfl rfl ⟨0,by omega,by omega⟩ fun a4 ha4=>⟨rfl,?_⟩
   refine dEr ?_
   refine oW (jB W0 s (p+1+1+1+1+1) 3 hs (by omega) (by omega)) rfl ⟨rfl,trivial⟩ rfl rfl ⟨0,by omega,by omega⟩ fun a5 ha5=>⟨rfl,?_⟩
   have ha5':=ha5.2 (by omega)
   refine dEr ?_
   repeat (refine oB (by omega) ?_; first | refine dEr ?_ | exact dz)
   refine ⟨({ w with holds:=[h0,h1,h2++[⟨a3,false,noE,a4,w.clock+a5⟩]] },p+1+1+1+1+1+1),⟨hw.hold (by first | omega | (simp; omega)) (by first | omega | (simp; omega)) (by first | omega | (simp; omega)),by simp only; omega,by simp only; omega⟩,zq _ (h0) (h1) (h2++[⟨a3,false,noE,a4,w.clock+a5⟩]) rfl (z:=some 3) ?_⟩
   refine KeepS.trans (z:=some 3) (F1:=[(4,.ptr 64 0),(5,.ptr 80 0)]) (m1:=(4,.rowP [.c (eHolds h0),.own 31 h1.length,.c (eHolds (h2++[⟨a3,false,noE,a4,w.clock+a5⟩]))] 56)::(bnB s (p+1+1+1+1+1+1) w (.c (eLeases w.leases)) (.own 4 3)++[(31,.row (h1.map eHold) 7 53)])) (KeepS.pull 4 15 (m3:=bnB s (p+1+1+1+1+1+1) w (.c (eLeases w.leases)) (.own 4 3)++[(31,.row (h1.map eHold) 7 53)]) (Lp':=[.c (eHolds h0),.own 31 h1.length,.c (eHolds (h2++[⟨a3,false,noE,a4,w.clock+a5⟩]))]) rfl rfl (by simp [frA,fr1,eHolds]<;>rfl) rfl ?_) ?_
   ·refine dr ?_
    repeat (refine oB (by first | (simp; done) | (simp [eHolds]; rfl)) ?_; first | refine dr ?_ | exact dz)
    trivial
   refine KeepS.trans (z:=none) (F1:=[(4,.ptr 64 0),(5,.ptr 80 0)]) (m1:=(4,.row [eHolds (h0),eHolds (h1),eHolds (h2++[⟨a3,false,noE,a4,w.clock+a5⟩])] 1 56)::(bnB s (p+1+1+1+1+1+1) w (.c (eLeases w.leases)) (.own 4 3))) (KeepS.er (KeepS.pull 4 31 (m3:=bnB s (p+1+1+1+1+1+1) w (.c (eLeases w.leases)) (.own 4 3)) (Lp':=[.c (eHolds h0),.c (eHolds h1),.c (eHolds (h2++[⟨a3,false,noE,a4,w.clock+a5⟩]))]) rfl rfl (by simp [frA,fr1,eHolds]<;>rfl) rfl ?_) rfl) ?_
   ·refine dr ?_
    repeat (refine oB (by first | (simp; done) | (simp [eHolds]; rfl)) ?_; first | refine dr ?_ | exact dz)
    trivial
   refine dr ?_
   repeat (refine oB (by first | (simp; done) | (simp [eHolds]; rfl)) ?_; first | refine dr ?_ | exact dz)
   trivial
 ·refine dr ?_
  refine cP ?_ ?_<;>intro k0
  ·refine dr ?_
   refine oW (jA W0 s (p+1) [-3,1,-1,10000] hs (by omega) (by decide)) rfl ⟨rfl,trivial⟩ rfl rfl ⟨1,by decide⟩ fun y hy=>⟨rfl,?_⟩
   have hy2 : -3≤y∧y≤10000:=by
    simp only [List.mem_cons,List.not_mem_nil,or_false] at hy
    omega
   refine dEr ?_
   repeat (refine oB (by omega) ?_; first | refine dEr ?_ | exact dz)
   refine ⟨({ w with clock:=w.clock+y },p+1+1),⟨hw.set (.inl rfl) (by simp) rfl rfl (by simp) (by simp only; omega) (by simp only; omega),by simp only; omega,by simp only; omega⟩,zp _ (z:=none) ?_⟩
   refine dr ?_
   repeat (refine oB (by simp) ?_; first | refine dr ?_ | exact dz)
   trivial
  refine dr ?_
  refine cP ?_ ?_<;>intro k1
  ·refine dr ?_
   repeat (refine oB (by omega) ?_; first | refine dr ?_ | exact dz)
   refine oW (jA W0 s (p+1) [0,-1,w.count - 1,10000] hs (by omega) (by simp)) rfl ⟨rfl,trivial⟩ rfl rfl ⟨0,by simp⟩ fun y hy=>⟨rfl,?_⟩
   have hy2:y=0∨y = -1∨y=w.count - 1∨y=10000:=by
    simpa only [List.mem_cons,List.not_mem_nil,or_false] using hy
   refine dEr ?_
   refine ⟨({ w with count:=y },p+1+1),⟨hw.set (.inl rfl) (by simp) rfl rfl (by simp) (by simp only; omega) (by simp only; omega),by simp only; omega,by simp only; omega⟩,zp _ (z:=none) ?_⟩
   refine dr ?_
   repeat (refine oB (by simp) ?_; first | refine dr ?_ | exact dz)
   trivial
  refine dr ?_
  refine cP ?_ ?_<;>intro k2
  ·refine dr ?_
   refine cP ?_ ?_<;>intro j2
   ·refine dr ?_
    repeat (refine sLoM 1 rfl (by omega) ?_; first | refine dr ?_ | exact dz)
    refine ⟨({ w with leases:=w.leases.drop 1 },p+1),⟨hw.set (.inl rfl) (by simp; omega) rfl rfl (by simp) (by simp only; omega) (by simp only; omega),by simp only; omega,by simp only; omega⟩,zp _ (z:=none) ?_⟩
    refine dr ?_
    repeat (refine oB (by simp) ?_; first | refine dr ?_ | exact dz)
    trivial
   ·refine dr ?_
    refine ⟨(w,p+1),⟨hw',by simp only; omega,by simp only; omega⟩,zp w (z:=none) ?_⟩
    refine dr ?_
    trivial
  refine dr ?_
  refine cP ?_ ?_<;>intro k3
  ·exact absurd k3 hv3
  refine dr ?_
  refine cP ?_ ?_<;>intro k4
  ·exact absurd k4 hv4
  clear k3 k4
  refine dr ?_
  refine cP ?_ ?_<;>intro k5
  ·refine dr ?_
   refine oW (jB W0 s (p+1) 3 hs (by omega) (by omega)) rfl ⟨rfl,trivial⟩ rfl rfl ⟨0,by omega,by omega⟩ fun k hk=>⟨rfl,?_⟩
   obtain ⟨k,rfl⟩:∃ j:Nat,k=j:=⟨k.toNat,by omega⟩
   have hk':k < w.floors.length:=by have:=hk.2 (by omega); omega
   refine dEr ?_
   repeat (refine oB (by omega) ?_; first | refine dEr ?_ | exact dz)
   refine oW (jA W0 s (p+1+1) [-1,w.count,w.count+1,0] hs (by omega) (by simp)) rfl ⟨rfl,trivial⟩ rfl rfl ⟨0,by simp⟩ fun y hy=>⟨rfl,?_⟩
   refine dEr ?_
   repeat ((first | refine aM (j:=k) rfl (by omega) ?_ | refine nE (j:=k) rfl ?_); first | refine dEr ?_ | exact dz)
   refine ⟨({ w with floors:=w.floors.set k y },p+1+1+1),⟨hw.set (.inl rfl) (by simp) rfl (by simp) (by simp) (by simp only; omega) (by simp only; omega),by simp only; omega,by simp only; omega⟩,zp _ (z:=none) ?_⟩
   refine dr ?_
   repeat (refine oB (by first | (simp; done) | (simp [List.map_set]; done)) ?_; first | refine dr ?_ | exact dz)
   trivial
  refine dr ?_
  refine cP ?_ ?_<;>intro k6
  ·refine dr ?_
   refine cP ?_ ?_<;>intro j6
   ·refine dr ?_
    refine oW (jB W0 s (p+1) w.net.length hs (by omega) (by omega)) rfl ⟨rfl,trivial⟩ rfl rfl ⟨0,by omega,by omega⟩ fun k hk=>⟨rfl,?_⟩
    obtain ⟨k,rfl⟩:∃ j:Nat,k=j:=⟨k.toNat,by omega⟩
    have hk':k < w.net.length:=by have:=hk.2 (by omega); omega
    refine dEr ?_
    refine oW (jA W0 s (p+1+1) [0,5,2,4] hs (by omega) (by decide)) rfl ⟨rfl,trivial⟩ rfl rfl ⟨0,by decide⟩ fun y hy=>⟨rfl,?_⟩
    refine dEr ?_
    repeat ((first | refine aM (j:=k) rfl (by omega) ?_ | refine nE (j:=k) rfl ?_); first | refine dEr ?_ | exact dz)
    refine ⟨({ w with net:=w.net.set k ⟨y,w.net[k].who,w.net[k].hold⟩ },p+1+1+1),⟨hw.set (.inl rfl) (by simp) rfl rfl (by simp) (by simp only; omega) (by simp only; omega),by simp only; omega,by simp only; omega⟩,zp _ (z:=none) ?_⟩
    refine dr ?_
    repeat (refine oB (by first | (simp; done) | (simp [List.map_set]; rfl)) ?_; first | refine dr ?_ | exact dz)
    trivial
   ·refine dr ?_
    refine ⟨(w,p+1),⟨hw',by simp only; omega,by simp only; omega⟩,zp w (z:=none) ?_⟩
    refine dr ?_
    trivial
  refine dr ?_
  refine cP ?_ ?_<;>intro k7
  ·refine dr ?_
   refine oW (jB W0 s (p+1) 4 hs (by omega) (by omega)) rfl ⟨rfl,trivial⟩ rfl rfl ⟨0,by omega,by omega⟩ fun a1 ha1=>⟨rfl,?_⟩
   have ha1':=ha1.2 (by omega)
   have ha1'':=ha1.1
   refine dEr ?_
   repeat (refine oB (by omega) ?_; first | refine dEr ?_ | exact dz)
   refine oW (jB W0 s (p+1+1) 4 hs (by omega) (by omega)) rfl ⟨rfl,trivial⟩ rfl rfl ⟨0,by omega,by omega⟩ fun a2 ha2=>⟨rfl,?_⟩
   refine dEr ?_
   refine oW (jp W0 s (p+1+1+1) hs (by omega)) rfl ⟨rfl,trivial⟩ rfl rfl ⟨_,List.mem_cons_self⟩ fun a3 ha3=>⟨rfl,?_⟩
   refine dEr ?_
   refine oW (jB W0 s (p+1+1+1+1) 4 hs (by omega) (by omega)) rfl ⟨rfl,trivial⟩ rfl rfl ⟨0,by omega,by omega⟩ fun a4 ha4=>⟨rfl,?_⟩
   refine dEr ?_
   repeat ((first | refine oB (by simp; omega) ?_ | refine oB (by simp) ?_); first | refine dEr ?_ | exact dz)
   refine ⟨({ w with net:=w.net++[⟨1+a1,a2,⟨a3,false,noE,a4,0⟩⟩] },p+1+1+1+1+1),⟨hw.set (.inl rfl) (by simp) rfl rfl (by simp) (by simp only; omega) (by simp only; omega),by simp only; omega,by simp only; omega⟩,zp _ (z:=none) ?_⟩
   refine dr ?_
   repeat (refine oB (by first | (simp; done) | (simp; rfl)) ?_; first | refine dr ?_ | exact dz)
   trivial
  refine dr ?_
  refine cP ?_ ?_<;>intro k8
  ·refine dr ?_
   refine ⟨({ w with waits:=!w.waits },p+1),⟨hw.set (.inl rfl) (by simp) rfl rfl (by simp) (by simp only; omega) (by simp only; omega),by simp only; omega,by simp only; omega⟩,zp _ (z:=none) ?_⟩
   refine dr ?_
   repeat (refine oB (by simp) ?_; first | refine dr ?_ | exact dz)
   trivial
  refine dr ?_
  refine cP ?_ ?_<;>intro k9
  ·have q:=zf9 W0 w.over ⟨2,[47,97],[],[113]⟩
   have qs:=@OS.do w.over ⟨2,[47,97],[],[113]⟩
   refine dEr ?_
   repeat (refine c0 q rfl ?_; first | refine dEr ?_ | exact dz)
   refine ⟨({ w with over:=(oDo w.over ⟨2,[47,97],[],[113]⟩).1 },p+1),⟨hw.set (.inr qs.oz) (by simp) rfl rfl (by simp) (by simp only; omega) (by simp only; omega),by simp only; omega,by simp only; omega⟩,zp _ (z:=none) ?_⟩
   refine dr ?_
   repeat (refine oB (by simp) ?_; first | refine dr ?_ | exact dz)
   trivial
  ·refine dr ?_
   refine ⟨(w,p+1),⟨hw',by simp only; omega,by simp only; omega⟩,zp w (z:=none) ?_⟩
   refine dr ?_
   trivial

def w0W:Wld:=newW noO
theorem w0R:WR 0 w0W:=(WG.new zjQ).wr HZ.new (by omega)
def Yk:XC:=(.s (.r [.ex 2 (.alloc [.nil,.nil,.nil,(I 0),(I 0),.nil,.nil,.nil,.nil,(B false),(I 0),sE,sE,sE])]) (.s (.r [.mv 4 0,.o1 5 33 [4],.mv 3 5]) (.s (.r [.mv 6 3,.mv 7 3,.mv 8 3,.o1 9 35 [8],.o1 10 34 [7,9],.o1 11 34 [6,10],.s1 14 2 11]) .ret)))
theorem Yl:compF Tryz.prog [33,35,34] 17=some (Yk.ac,[(.cell 2 true 14)],12):=by kernel_rfl
theorem zdV (W0:World) (c:Str):FunW Tryz.prog W0 17 [.c (eCode c)] [] (fun x:Wld=>WR 2 x) (fun x => .c (eWld x)) (fun _=>[]):=by
 refine funW (c:=Yk) mixed Yl (by simp) rfl rfl fun hg=>?_
 refine dr ?_
 refine oW (zeF W0 c) rfl trivial rfl rfl ⟨[],by simp⟩ fun s hs=>⟨rfl,?_⟩
 refine dEr ?_
 refine oW (zfL W0 s 0 hs (by omega)) rfl ⟨rfl,trivial⟩ rfl rfl ⟨(w0W,0),w0R,by simp,by simp⟩ fun x hx=>⟨rfl,?_⟩
 obtain ⟨w,q⟩:=x
 obtain ⟨a1,a2,a3⟩:WR 0 w∧0≤q∧q≤0+1200:=hx
 refine dEr ?_
 refine oW (zfi W0 s q 0 w hs (by omega) (by omega) a1) rfl ⟨rfl,trivial⟩ rfl rfl ⟨(w,q),a1.mono (by omega),by simp only; omega,by simp only; omega⟩ fun x hx=>⟨rfl,?_⟩
 obtain ⟨x,r⟩:=x
 obtain ⟨b1,b2,b3⟩:WR 1 x∧q≤r∧r≤q+8:=hx
 refine dEr ?_
 refine oW (zfi W0 s r 1 x hs (by omega) (by omega) b1) rfl ⟨rfl,trivial⟩ rfl rfl ⟨(x,r),b1.mono (by omega),by simp only; omega,by simp only; omega⟩ fun y hy=>⟨rfl,?_⟩
 obtain ⟨y,t⟩:=y
 have c1:WR 2 y:=hy.1
 refine dEr ?_
 refine ⟨none,_,_,?_,y,c1,rfl,rfl⟩
 refine dr ?_
 trivial
def Yo:XC:=(.s (.r [.ex 2 (.alloc [.nil,.nil,.nil,(I 0),(I 0),.nil,.nil,.nil,.nil,(B false),(I 0),sE,sE,sE]),.ex 3 (.alloc [.nil,.nil,.nil,(I 0),(I 0),.nil,.nil,.nil,.nil,(B false),(I 0),sE,sE,sE])]) (.s (.r [.mv 8 0,.o1 9 33 [8],.mv 4 9]) (.s (.r [.mv 10 4,.o1 11 35 [10],.ex 5 (.alloc [.nil,.nil,.nil,(I 0),(I 0),.nil,.nil,.nil,.nil,(B false),(I 0),sE,sE,sE]),.s1 14 5 11]) (.s (.r [.l2 12 14 5,.c1 13 45 [12],.ex 6 (.alloc [.nil,.nil,.nil,(I 0),(I 0),.nil,.nil,.nil,.nil,(B false),(I 0),sE,sE,sE]),.s1 14 6 13]) (.s (.s (.r [.mv 14 4,.o1 15 38 [14,(.i 8)],.mv 7 15]) (.blk 0 (.loop (.s (.s (.r [.mv 16 7,.b1 17 .gtr 16 (.i 0)]) (.cnd 17 .skip (.exit 0))) (.s (.blk 1 (.r [.mv 20 4,.l2 21 14 6,.o1 22 34 [20,21],.s1 14 6 22])) (.r [.mv 18 7,.b1 19 .sub 18 (.i 1),.mv 7 19])))))) (.s (.d [.exo [32,48] 23 (.ld true 14 5),.exo [32,48] 24 (.ld true 14 6),.nuo [32,48] (.st 14 2 23),.nuo [32,48] (.st 14 3 24)]) .ret))))))
theorem Yp:compF Tryz.prog [33,35,34,38,1000032,1000048] 16=some (Yo.ac,[(.cell 2 true 14),(.cell 3 true 14)],25):=by kernel_rfl
theorem zdX (W0:World) (c:Str):FunW Tryz.prog W0 16 [.c (eCode c)] [] (fun x:Wld × Wld=>WR 0 x.1∧WR 7 x.2) (fun x => .tup [.c (eWld x.1),.c (eWld x.2)]) (fun _=>[]):=by
 refine funW (c:=Yo) mixed Yp (by simp) rfl rfl fun hg=>?_
 refine dr ?_
 refine oW (zeF W0 c) rfl trivial rfl rfl ⟨[],by simp⟩ fun s hs=>⟨rfl,?_⟩
 refine dEr ?_
 refine oW (zfL W0 s 0 hs (by omega)) rfl ⟨rfl,trivial⟩ rfl rfl ⟨(w0W,0),w0R,by simp,by simp⟩ fun x hx=>⟨rfl,?_⟩
 obtain ⟨w,q⟩:=x
 obtain ⟨a1,a2,a3⟩:WR 0 w∧0≤q∧q≤0+1200:=hx
 refine dEr ?_
 refine dr ?_
 repeat (refine c0 (zfk W0 w (a1.z.mono (by omega))) rfl ?_; first | refine dr ?_ | exact dz)
 intro _
 refine oW (jB W0 s q 8 hs (by omega) (by omega)) rfl ⟨rfl,trivial⟩ rfl rfl ⟨0,by omega,by omega⟩ fun n hn=>⟨rfl,?_⟩
 have hn2:=hn.2 (by omega)
 have hn1:=hn.1
 refine dEr ?_
 refine lp3 (fun (x:Wld) (i r:Int)=>[(2,.ptr 32 0),(3,.ptr 48 0),(4,.ptr 1 0),(5,.ptr 80 0),(6,.ptr 96 0),(7,.c (CI i))]) (fun x _ r=>[(1,rdB s r),(32,zWB),(48,zWB),(80,wBx w),(96,wBx x)])
  (fun x i r=>WR (7 - i).toNat x∧0≤i∧i≤7∧0≤r∧r≤1201+8 * (7 - i)) (fun _ i _=>i.toNat) w n (q+1) ⟨a1.mono (by omega),by omega,by omega,by omega,by omega⟩ ?_ ?_
 ·refine dr ?_
  trivial
 rintro x i r ⟨hx,hi1,hi2,hr1,hr2⟩
 refine dr ?_
 refine cP ?_ ?_<;>intro h1
 ·refine dr ?_
  refine oW (zfi W0 s r (7 - i).toNat x hs (by omega) (by omega) hx) rfl ⟨rfl,trivial⟩ rfl rfl ⟨(x,r),hx.mono (by omega),by simp only; omega,by simp only; omega⟩ fun y hy=>⟨rfl,?_⟩
  obtain ⟨y,t⟩:=y
  obtain ⟨b1,b2,b3⟩:WR ((7 - i).toNat+1) y∧r≤t∧t≤r+8:=hy
  refine dEr ?_
  repeat (refine oB (by omega) ?_; first | refine dEr ?_ | exact dz)
  refine ⟨y,i - 1,t,⟨b1.mono (by omega),by omega,by omega,by omega,by omega⟩,by omega,?_⟩
  refine dr ?_
  trivial
 ·refine dr ?_
  refine ⟨none,_,_,?_,(w,x),⟨a1,hx.mono (by omega)⟩,rfl,rfl⟩
  refine dr ?_
  trivial
def Ym:XC:=(.s (.r [.ex 2 (.alloc [.nil,.nil,.nil,(I 0),(I 0),.nil,.nil,.nil,.nil,(B false),(I 0),sE,sE,sE]),.m1 3 (.i 0),.ex 4 (.mv (.s []))]) (.s (.r [.mv 8 0,.o1 9 33 [8],.mv 5 9]) (.s (.r [.mv 10 5,.mv 11 5,.o1 12 35 [11],.o1 13 34 [10,12],.ex 6 (.alloc [.nil,.nil,.nil,(I 0),(I 0),.nil,.nil,.nil,.nil,(B false),(I 0),sE,sE,sE]),.s1 14 6 13]) (.s (.r [.mv 14 5,.ex 15 (.bsl 1 3 [(.i 0),(.i 1),(.i 2),(.i 0),(.i 1),(.i 2),(.k (.c (.sc (.int .i64 (.negSucc 0))))),(.i 3)]),.o1 16 36 [14,15],.mv 7 16]) (.s (.s (.r [.mv 17 7,.c1 18 37 [17],.mv 19 18,.gt 20 (.fa 6 6) 19,.gt 21 (.ld false 1 20) 19,.gt 22 (.len false 21) 19,.gt 23 (.mv 7) 19,.gt 24 (.bin .gtr 22 23) 19,.ex 25 (.pick 19 24 .n),.mv 26 25,.gt 27 (.fa 6 6) 26,.gt 28 (.ld false 1 27) 26,.gt 29 (.mv 7) 26,.gt 30 (.ia 1 28 29) 26,.gt 31 (.ld false 1 30) 26,.gt 32 (.len false 31) 26,.gt 33 (.bin .gtr 32 (.i 0)) 26,.ex 34 (.pick 26 33 .n),.mv 35 34,.gt 36 (.mv 5) 35,.gt 37 (.opn 38 [36,(.i 4)]) 35,.gt 38 (.bin .gtr 37 (.i 0)) 35,.ex 39 (.pick 35 38 .n)]) (.cnd 39 (.s (.d [.exo [1,32] 40 (.ld true 14 6),.mv 41 7,.f1 42 6 6,.exo [1,32] 43 (.ld false 1 42),.mv 44 7,.exo [1,32] 45 (.ia 1 43 44),.exo [1,32] 46 (.ld false 1 45),.exo [1,32] 47 (.ia 7 46 (.i 0)),.f1 48 0 47,.exo [1,32] 49 (.ld false 1 48),.nuo [1,32] (.st 14 2 40),.mv 3 41,.mv 4 49]) .ret) .skip)) (.s (.d [.exo [1,32] 50 (.ld true 14 6),.mv 51 7,.mv 52 5,.exo [1,32] 53 (.opn 39 [52]),.s1 14 2 50,.mv 3 51,.mv 4 53]) .ret))))))
theorem Yn:compF Tryz.prog [33,35,34,38,36,39,1000001,1000032] 11=some (Ym.ac,[(.cell 2 true 14),(.t 3),(.t 4)],54):=by kernel_rfl
theorem zdW (W0:World) (c:Str):FunW Tryz.prog W0 11 [.c (eCode c)] [] (fun x:Wld × Int × Str=>WR 1 x.1) (fun x => .tup [.c (eWld x.1),.c (CI x.2.1),.c (CS x.2.2)]) (fun _=>[]):=by
 refine funW (c:=Ym) mixed Yn (by simp) rfl rfl fun hg=>?_
 refine dr ?_
 refine oW (zeF W0 c) rfl trivial rfl rfl ⟨[],by simp⟩ fun s hs=>⟨rfl,?_⟩
 refine dEr ?_
 refine oW (zfL W0 s 0 hs (by omega)) rfl ⟨rfl,trivial⟩ rfl rfl ⟨(w0W,0),w0R,by simp,by simp⟩ fun x hx=>⟨rfl,?_⟩
 obtain ⟨w,q⟩:=x
 obtain ⟨a1,a2,a3⟩:WR 0 w∧0≤q∧q≤0+1200:=hx
 refine dEr ?_
 refine oW (zfi W0 s q 0 w hs (by omega) (by omega) a1) rfl ⟨rfl,trivial⟩ rfl rfl ⟨(w,q),a1.mono (by omega),by simp only; omega,by simp only; omega⟩ fun x hx=>⟨rfl,?_⟩
 obtain ⟨x,r⟩:=x
 obtain ⟨b1,b2,b3⟩:WR 1 x∧q≤r∧r≤q+8:=hx
 refine dEr ?_
 refine oW (jA W0 s r [0,1,2,0,1,2,-1,3] hs (by omega) (by decide)) rfl ⟨rfl,trivial⟩ rfl rfl ⟨0,by decide⟩ fun who hwho=>⟨rfl,?_⟩
 refine dEr ?_
 repeat (refine c0 (jz W0 _) rfl ?_; first | refine dEr ?_ | exact dz)
 have fin:True:=trivial
 refine cP ?_ ?_<;>intro k1
 ·obtain ⟨i,hi,rfl⟩:=qi k1
  refine dr ?_
  refine cP ?_ ?_<;>intro k2
  ·refine dr ?_
   repeat (refine aM (j:=i) rfl (by omega) ?_; first | refine dr ?_ | exact dz)
   refine cP ?_ ?_<;>intro k3
   ·refine dr ?_
    refine oW (jB W0 s (r+1) 4 hs (by omega) (by omega)) rfl ⟨rfl,trivial⟩ rfl rfl ⟨0,by omega,by omega⟩ fun v hv=>⟨rfl,?_⟩
    refine dEr ?_
    refine cP ?_ ?_<;>intro k4
    ·refine dr ?_
     repeat ((first | refine aM (j:=i) rfl (by omega) ?_ | refine aM (j:=0) rfl (by omega) ?_); first | refine dr ?_ | exact dz)
     have e2:i < x.holds.length:=by have:=b1.h; omega
     have e3:0 < (x.holds[i]'e2).length:=by simpa using k3
     refine ⟨none,_,_,?_,(x,(i:Int),((x.holds[i]'e2)[0]'e3).path),b1,rfl,rfl⟩
     refine dr ?_
     trivial
    ·refine dr ?_
     refine oW (zeL W0 s (r+1+1) hs (by omega)) rfl ⟨rfl,trivial⟩ rfl rfl ⟨([],r+1+1),by simp only; omega,by simp only; omega⟩ fun y hy=>⟨rfl,?_⟩
     obtain ⟨y,t⟩:=y
     refine dEr ?_
     refine ⟨none,_,_,?_,(x,(i:Int),y),b1,rfl,rfl⟩
     refine dr ?_
     trivial
   ·refine dr ?_
    refine oW (zeL W0 s (r+1) hs (by omega)) rfl ⟨rfl,trivial⟩ rfl rfl ⟨([],r+1),by simp only; omega,by simp only; omega⟩ fun y hy=>⟨rfl,?_⟩
    obtain ⟨y,t⟩:=y
    refine dEr ?_
    refine ⟨none,_,_,?_,(x,(i:Int),y),b1,rfl,rfl⟩
    refine dr ?_
    trivial
  ·refine dr ?_
   refine oW (zeL W0 s (r+1) hs (by omega)) rfl ⟨rfl,trivial⟩ rfl rfl ⟨([],r+1),by simp only; omega,by simp only; omega⟩ fun y hy=>⟨rfl,?_⟩
   obtain ⟨y,t⟩:=y
   refine dEr ?_
   refine ⟨none,_,_,?_,(x,(i:Int),y),b1,rfl,rfl⟩
   refine dr ?_
   trivial
 ·refine dr ?_
  refine oW (zeL W0 s (r+1) hs (by omega)) rfl ⟨rfl,trivial⟩ rfl rfl ⟨([],r+1),by simp only; omega,by simp only; omega⟩ fun y hy=>⟨rfl,?_⟩
  obtain ⟨y,t⟩:=y
  refine dEr ?_
  refine ⟨none,_,_,?_,(x,who,y),b1,rfl,rfl⟩
  refine dr ?_
  trivial

def Ya:XC:=(.s (.r [.m1 2 .n]) (.s (.s (.r [.mv 16 0,.n1 17 16,.b1 18 .gtr 17 (.i 1048576)]) (.cnd 18 (.s (.r [.m1 2 .y]) .ret) .skip)) (.s (.r [.mv 20 0,.o1 21 11 [20],.mv 19 21,.e1 22 19 0,.e1 23 19 1,.e1 24 19 2,.ex 3 (.alloc [.nil,.nil,.nil,(I 0),(I 0),.nil,.nil,.nil,.nil,(B false),(I 0),sE,sE,sE]),.s1 14 3 22,.mv 4 23,.mv 5 24]) (.s (.r [.l2 26 14 3,.mv 27 4,.mv 28 5,.c1 29 12 [26,27,28],.mv 25 29,.e1 30 25 0,.e1 31 25 1,.e1 32 25 2,.ex 6 (.alloc [sE,(B false),sE]),.s1 3 6 30,.mv 7 31,.mv 8 32]) (.s (.r [.l2 34 14 3,.mv 35 4,.mv 36 5,.c1 37 13 [34,35,36],.mv 33 37,.e1 38 33 0,.e1 39 33 1,.e1 40 33 2,.ex 9 (.alloc [sE,(B false),sE]),.s1 3 9 38,.mv 10 39,.mv 11 40]) (.s (.s (.r [.l2 41 3 6,.l2 42 3 9,.ex 43 (.beq true [.s,.b,.s] 41 42),.mv 44 43,.gf 45 (.mv 7) 44,.gf 46 (.mv 10) 44,.gf 47 (.bb true 45 46) 44,.ex 48 (.pick 44 .y 47),.mv 49 48,.gf 50 (.mv 8) 49,.gf 51 (.mv 11) 49,.gf 52 (.bb true 50 51) 49,.ex 53 (.pick 49 .y 52)]) (.cnd 53 (.s (.r [.m1 2 .n]) .ret) .skip)) (.s (.s (.r [.mv 54 8,.ex 55 (.un .not 54)]) (.cnd 55 (.s (.r [.mv 56 7,.ex 57 (.un .not 56),.mv 58 57,.gt 59 (.ld true 3 6) 58,.gt 60 (.build [sE,(B false),sE] []) 58,.gt 61 (.beq false [.s,.b,.s] 59 60) 58,.ex 62 (.pick 58 61 .n),.mv 2 62]) .ret) .skip)) (.s (.r [.f1 64 0 3,.l2 65 3 64,.c1 66 14 [65],.mv 63 66,.e1 67 63 0,.e1 68 63 1,.a1 12 67 3 39,.mv 13 68]) (.s (.r [.mv 70 12,.mv 71 5,.c1 72 15 [70,71],.mv 69 72,.e1 73 69 0,.e1 74 69 1,.ex 14 (.alloc [sE,(B false),sE]),.s1 3 14 73,.mv 15 74]) (.s (.r [.mv 75 13,.mv 76 75,.gt 77 (.ld true 3 14) 76,.gt 78 (.ld true 3 6) 76,.gt 79 (.beq false [.s,.b,.s] 77 78) 76,.ex 80 (.pick 76 79 .n),.mv 81 80,.gt 82 (.mv 15) 81,.gt 83 (.mv 7) 81,.gt 84 (.bb false 82 83) 81,.ex 85 (.pick 81 84 .n),.mv 2 85]) .ret))))))))))
theorem Yb:compF Tryz.prog [11] 3=some (Ya.ac,[(.t 2)],86):=by kernel_rfl
theorem zd7 (W0:World) (hs:W0.ShapedOpen Tryz.prog) (c0':Str):Fn Tryz.prog W0 3 [eCode c0'] (.c (CB true)) []:=by
 refine fnX (c:=Ya) mixed Yb (by simp) rfl fun hg=>?_
 have hM:=zhV hs
 refine dr ?_
 refine cP ?_ ?_<;>intro h1
 ·exact dz
 refine dr ?_
 refine oW (zdW W0 c0') rfl trivial rfl rfl ⟨(w0W,0,[]),w0R.mono (by omega)⟩ fun x hx=>⟨rfl,?_⟩
 obtain ⟨w,who,p⟩:=x
 have q1:=zeA W0 hM w who p
 have q2:=zgl W0 w who p
 clear hx
 cases hr:wRead w who p with
 | none =>
  rw [hr] at q1 q2
  refine dEr ?_
  repeat ((first | refine c0 q1 rfl ?_ | refine c0 q2 rfl ?_ | refine xiT ?_ | refine xiF ?_ | refine xbT ?_ | refine xbF ?_ | refine xiN ?_ | refine xiM ?_ | refine xbN ?_ | refine xbM ?_ | refine xeT ?_ | refine xeF ?_ | refine c0 (jf W0 _ _ rfl) rfl ?_ | refine c0 (jd W0 _ _ rfl) rfl ?_ | refine c0 (je W0 _ _ rfl) rfl ?_); first | refine dEr ?_ | exact dz)
  show CB (eqS [] []&&(eqB false false&&(eqS [] []&&true)))=CB true
  rw [zW.2 rfl,zQ.2 rfl]; rfl
 | some r =>
  obtain ⟨e,b⟩:=r
  rw [hr] at q1 q2
  obtain ⟨g1,g2,g3,g4,g5⟩:=zn6 hr
  obtain ⟨t,g⟩:=g1.og
  have q3:=zew W0 hM w.over
  have q4:=zez W0 hM (vwG w.over) p
  rw [if_pos g1.ov,g.vw] at q3
  rw [if_pos g1.gx] at q4
  have e4:eEntO (get (vwG w.over) p) = .tup [eEnt e,CB b]:=by
   rw [← show (get (vwG w.over) p).getD noE=e from g4,← show (get (vwG w.over) p).isSome=b from g5]
   cases get (vwG w.over) p<;>rfl
  rw [e4] at q4
  have e5:eEntsO (some (vwG w.over)) = .tup [eEnts (vwG w.over),CB true]:=rfl
  rw [e5] at q3
  generalize vwG w.over=v at *
  have q1':Fn Tryz.prog W0 12 [eWld w,CI who,CS p] (.c (.tup [eEnt e,CB b,CB true])) []:=q1
  have q2':Fn Tryz.prog W0 13 [eWld w,CI who,CS p] (.c (.tup [eEnt e,CB b,CB true])) []:=q2
  refine dEr ?_
  repeat ((first | refine c0 q1' rfl ?_ | refine c0 q2' rfl ?_ | refine c0 q3 rfl ?_ | refine c0 q4 rfl ?_ | refine xiT ?_ | refine xiF ?_ | refine xbT ?_ | refine xbF ?_ | refine xiN ?_ | refine xiM ?_ | refine xbN ?_ | refine xbM ?_ | refine xeT ?_ | refine xeF ?_ | refine c0 (jf W0 _ _ rfl) rfl ?_ | refine c0 (jd W0 _ _ rfl) rfl ?_ | refine c0 (je W0 _ _ rfl) rfl ?_); first | refine dEr ?_ | exact dz)
  try rfl
  try exact congrArg CB (zQ.2 rfl)

theorem ZP:¬ WG noW:=fun h=>by have:=h.pl.hl; simp [noW] at this
theorem ZL {w:Wld} {n:Int} (hn:n < 0):¬ WG { w with count:=n }:=fun h=>by have:=h.pl.ct.1; simp only at this; omega
theorem ZO {w:Wld} {m:Msg} (hm:¬ isW m.who):¬ WG { w with net:=w.net++[m] }:=fun h=>hm (h.ms m (by simp)).who
theorem ZN {w:Wld} (hl:w.leases≠[]):¬ WG { w with leases:=w.leases++w.leases }:=fun h=>by
 obtain ⟨x,l,hx⟩:=List.exists_cons_of_ne_nil hl
 have hd:(w.leases++w.leases).Pairwise LsD:=h.ls.d
 rw [List.pairwise_append] at hd
 exact hd.2.2 x (by simp [hx]) x (by simp [hx]) ⟨rfl,rfl⟩
theorem zhw {t:List Ent} {p:Str} {e:Ent} (hp:p≠[47]) (h:get t p=some e):e.path=p:=by
 unfold get at h
 rw [if_neg hp] at h
 unfold find at h
 have:=List.find?_some h
 simpa using this
theorem ZM {w:Wld} {a:List Hold} {r:List (List Hold)} {h:Hold} {n:Int} (hh:h.path≠[47]) (hp:h.path≠[]) (hs:h.has=true) (he:h.ent=noE) (ht:w.clock < h.til) (hw:w.holds=a::r):¬ WG { w with holds:=(a++[h])::r }:=fun g=>by
 have hd:=(g.hd 0 (by omega)).g h (by simp [hdW])
 obtain ⟨l,_,h2,h3,_⟩:=hd.2.2.2 ht
 rw [hs] at h2
 obtain ⟨e,h4⟩:=Option.isSome_iff_exists.1 h2
 have h5:=zhw hh h4
 have h6:(get (vwG w.over) h.path).getD noE=h.ent:=h3
 have h4':get (vwG w.over) h.path=some e:=h4
 rw [h4',he] at h6
 have:e=noE:=h6
 rw [this] at h5
 exact hp h5.symm
theorem zh4 {w:Wld} {a:List Hold} {r:List (List Hold)} {h:Hold} (hw:w.holds=a::r):¬ w={ w with holds:=(a++[h])::r }:=fun e=>by
 have:=congrArg Wld.holds e
 rw [hw] at this
 simp at this
theorem zjN {w:Wld} {m:Msg}:¬ w={ w with net:=w.net++[m] }:=fun e=>by
 have:=congrArg Wld.net e
 simp at this
theorem three {α:Type} {l:List α} (h:l.length=3):∃ a b c,l=[a,b,c]:=by
 match l,h with
 | [a,b,c],_=>exact ⟨a,b,c,rfl⟩

theorem KeepX.er {k0:List Nat} {z:Option Nat} {A F2:Fr} {m m2 m3:XM} (e:Go.Proofs.YteheahbjaddooaaGreatDoor.er m2=Go.Proofs.YteheahbjaddooaaGreatDoor.er m3) (h:KeepX k0 z A m F2 m2):KeepX k0 (some 3) A m F2 m3:=fun W0 F K hA hK =>
 KeepX.s h W0 F K hA (by rw [e]; exact hK)
abbrev bentB (w:Wld) (l h n:PV):XB := .box [.c (eEnts w.over.base),.c (eMarkss w.over.layers),.c (eMarks w.over.upper),I w.clock,I w.count,l,h,.c (eInts w.floors),n,B w.waits,I w.op.kind,.c (CS w.op.path),.c (CS w.op.dest),.c (CS w.op.data)]
abbrev bentM (w:Wld) (r:XB):XM:=[(80,wBx w),(96,bentB w (.own 960 (w.leases.length+w.leases.length)) (.c (eHoldss w.holds)) (.c (eMsgs w.net))),(960,.row (w.leases.map eLease++w.leases.map eLease) 4 72),
 (112,bentB w (.c (eLeases w.leases)) (.c (eHoldss w.holds)) (.own 1104 (w.net.length+1))),(1104,.row (w.net.map eMsg++[eMsg ⟨1,3,⟨[47,97],false,noE,0,0⟩⟩]) 9 55),(128,bentB w (.c (eLeases w.leases)) (.own 1264 3) (.c (eMsgs w.net))),(1264,r)]
theorem kT' {a b:Int} {A B:Prop} (h:a=b) (k:A):cndX (eqI a b) A B:=by rw [zT.2 h]; exact k
theorem kF' {a b:Int} {A B:Prop} (h:a≠b) (k:B):cndX (eqI a b) A B:=by rw [zdM.2 h]; exact k
theorem zdD {w:Wld} {a b:List Lease}:eWld { w with leases:=a++b } = .agg [eEnts w.over.base,eMarkss w.over.layers,eMarks w.over.upper,CI w.clock,CI w.count,.row (a.map eLease++b.map eLease),eHoldss w.holds,eInts w.floors,eMsgs w.net,CB w.waits,CI w.op.kind,CS w.op.path,CS w.op.dest,CS w.op.data]:=by
 rw [← List.map_append]; rfl
theorem zdE {w:Wld} {m:Msg}:eWld { w with net:=w.net++[m] } = .agg [eEnts w.over.base,eMarkss w.over.layers,eMarks w.over.upper,CI w.clock,CI w.count,eLeases w.leases,eHoldss w.holds,eInts w.floors,.row (w.net.map eMsg++[eMsg m]),CB w.waits,CI w.op.kind,CS w.op.path,CS w.op.dest,CS w.op.data]:=by
 show CV.agg [eEnts w.over.base,eMarkss w.over.layers,eMarks w.over.upper,CI w.clock,CI w.count,eLeases w.leases,eHoldss w.holds,eInts w.floors,.row ((w.net++[m]).map eMsg),CB w.waits,CI w.op.kind,CS w.op.path,CS w.op.dest,CS w.op.data]=_
 rw [List.map_append]; rfl
theorem zdC {w:Wld} {a b c:List Hold} {h:Hold}:eWld { w with holds:=(a++[h])::[b,c] } = .agg [eEnts w.over.base,eMarkss w.over.layers,eMarks w.over.upper,CI w.clock,CI w.count,eLeases w.leases,.row [.row (a.map eHold++[eHold h]),eHolds b,eHolds c],eInts w.floors,eMsgs w.net,CB w.waits,CI w.op.kind,CS w.op.path,CS w.op.dest,CS w.op.data]:=by
 show CV.agg [eEnts w.over.base,eMarkss w.over.layers,eMarks w.over.upper,CI w.clock,CI w.count,eLeases w.leases,.row [.row ((a++[h]).map eHold),eHolds b,eHolds c],eInts w.floors,eMsgs w.net,CB w.waits,CI w.op.kind,CS w.op.path,CS w.op.dest,CS w.op.data]=_
 rw [List.map_append]; rfl
def Q8:XC:=(.s (.r [.m1 2 .n]) (.s (.s (.r [.mv 10 0,.n1 11 10,.b1 12 .gtr 11 (.i 1048576)]) (.cnd 12 (.s (.r [.m1 2 .y]) .ret) .skip)) (.s (.r [.mv 14 0,.o1 15 16 [14],.mv 13 15,.e1 16 13 0,.e1 17 13 1,.ex 3 (.alloc [.nil,.nil,.nil,(I 0),(I 0),.nil,.nil,.nil,.nil,(B false),(I 0),sE,sE,sE]),.ex 4 (.alloc [.nil,.nil,.nil,(I 0),(I 0),.nil,.nil,.nil,.nil,(B false),(I 0),sE,sE,sE]),.s1 14 3 16,.s1 14 4 17]) (.s (.r [.mv 18 0,.o1 19 17 [18],.ex 5 (.alloc [.nil,.nil,.nil,(I 0),(I 0),.nil,.nil,.nil,.nil,(B false),(I 0),sE,sE,sE]),.s1 14 5 19]) (.s (.s (.d [.l2 20 14 3,.l2 21 14 4,.c1 22 18 [20,21],.l2 23 14 3,.l2 24 14 4,.c1 25 19 [23,24],.ex 26 (.bb true 22 25),.mv 27 26,.gf 28 (.ld true 14 3) 27,.gf 29 (.ld true 14 4) 27,.gf 30 (.call 18 [28,29]) 27,.gf 31 (.ld true 14 4) 27,.gf 32 (.ld true 14 3) 27,.gf 33 (.call 18 [31,32]) 27,.gf 34 (.bb true 30 33) 27,.ex 35 (.pick 27 .y 34),.mv 36 35,.gf 37 (.ld true 14 5) 36,.gf 38 (.ld true 14 5) 36,.gf 39 (.call 18 [37,38]) 36,.gf 40 (.un .not 39) 36,.ex 41 (.pick 36 .y 40),.mv 42 41,.gf 43 (.ld true 14 5) 42,.gf 44 (.call 20 [43]) 42,.gf 45 (.ld true 14 5) 42,.gf 46 (.call 21 [45]) 42,.gf 47 (.bb true 44 46) 42,.ex 48 (.pick 42 .y 47),.mv 49 48,.gf 50 (.build [.nil,.nil,.nil,(I 0),(I 0),.nil,.nil,.nil,.nil,(B false),(I 0),sE,sE,sE] []) 49,.gf 51 (.call 20 [50]) 49,.ex 52 (.pick 49 .y 51)]) (.cnd 52 (.s (.r [.m1 2 .n]) .ret) .skip)) (.s (.s (.r [.l2 53 14 5,.c1 54 21 [53],.ex 55 (.un .not 54)]) (.cnd 55 (.s (.r [.m1 2 .y]) .ret) .skip)) (.s (.r [.l2 56 14 5,.ex 6 (.alloc [.nil,.nil,.nil,(I 0),(I 0),.nil,.nil,.nil,.nil,(B false),(I 0),sE,sE,sE]),.s1 14 6 56]) (.s (.d [.ex 57 .bsl0,.f1 58 5 5,.l1 59 1 58,.ex 60 (.app true 4 40 72 57 59),.f1 61 5 5,.l1 62 1 61,.ex 63 (.app false 4 40 72 60 62),.f1 64 5 6,.s1 1 64 63]) (.s (.r [.l2 65 14 5,.ex 7 (.alloc [.nil,.nil,.nil,(I 0),(I 0),.nil,.nil,.nil,.nil,(B false),(I 0),sE,sE,sE]),.s1 14 7 65]) (.s (.r [.ex 66 .bsl0,.f1 67 8 5,.l1 68 1 67,.ex 69 (.app true 9 96 55 66 68),.ex 70 (.build [sE,(B false),sE,(B false),sE,(I 0),(I 0)] [(0,(1,(.s [47,97])))]),.ex 71 (.build [(I 0),(I 0),sE,(B false),sE,(B false),sE,(I 0),(I 0)] [(0,(1,(.i 1))),(1,(1,(.i 3))),(2,(7,70))]),.ex 72 (.bsl 9 55 [71]),.ex 73 (.app false 9 96 55 69 72),.f1 74 8 7,.s1 1 74 73]) (.s (.r [.l2 75 14 5,.ex 8 (.alloc [.nil,.nil,.nil,(I 0),(I 0),.nil,.nil,.nil,.nil,(B false),(I 0),sE,sE,sE]),.s1 14 8 75]) (.cut (.r [.ex 76 .bsl0,.f1 77 6 5,.l1 78 1 77,.ex 79 (.app true 1 24 56 76 78),.f1 80 6 8,.s1 1 80 79]) (.s (.d [.f1 81 6 8,.exo [1408] 82 (.ld false 1 81),.ex 83 .bsl0,.f1 84 6 5,.exo [1408] 85 (.ld false 1 84),.exo [1408] 86 (.ia 1 85 (.i 0)),.exo [1408] 87 (.ld false 1 86),.ex 88 (.app true 7 80 53 83 87),.f1 89 3 5,.exo [1408] 90 (.ld false 1 89),.b1 91 .add 90 (.i 1),.ex 92 (.build [sE,(B false),sE,(B false),sE,(I 0),(I 0)] [(0,(1,(.s [47,122,122]))),(1,(1,.y)),(6,(1,91))]),.exo [1408] 93 (.bsl 7 53 [92]),.exo [1408] 94 (.app false 7 80 53 88 93),.exo [1408] 95 (.ia 1 82 (.i 0)),⟨.none,(.st 1 95 94),.none,false,[1408]⟩]) (.s (.r [.l2 96 14 5,.ex 9 (.alloc [.nil,.nil,.nil,(I 0),(I 0),.nil,.nil,.nil,.nil,(B false),(I 0),sE,sE,sE]),.s1 14 9 96]) (.s (.r [.f1 97 4 9,.nu (.st 1 97 (.k (.c (.sc (.int .i64 (.negSucc 0))))))]) (.s (.r [.f1 98 5 5,.l1 99 1 98,.n1 100 99,.b1 101 .eql 100 (.i 0),.mv 102 101,.gf 103 (.ld true 14 6) 102,.gf 104 (.call 20 [103]) 102,.gf 105 (.un .not 104) 102,.ex 106 (.pick 102 .y 105),.mv 107 106,.gt 108 (.ld true 14 7) 107,.gt 109 (.call 20 [108]) 107,.gt 110 (.un .not 109) 107,.ex 111 (.pick 107 110 .n),.mv 112 111,.gt 113 (.ld true 14 8) 112,.gt 114 (.call 20 [113]) 112,.gt 115 (.un .not 114) 112,.ex 116 (.pick 112 115 .n),.mv 117 116,.gt 118 (.ld true 14 9) 117,.gt 119 (.call 20 [118]) 117,.gt 120 (.un .not 119) 117,.ex 121 (.pick 117 120 .n),.mv 122 121,.gt 123 (.ld true 14 5) 122,.gt 124 (.ld true 14 7) 122,.gt 125 (.call 18 [123,124]) 122,.gt 126 (.un .not 125) 122,.ex 127 (.pick 122 126 .n),.mv 128 127,.gt 129 (.ld true 14 5) 128,.gt 130 (.ld true 14 8) 128,.gt 131 (.call 18 [129,130]) 128,.gt 132 (.un .not 131) 128,.ex 133 (.pick 128 132 .n),.mv 2 133]) .ret))))))))))))))))
theorem Q9:compF Tryz.prog [16,17,1001408] 4=some (Q8.ac,[(.t 2)],134):=by kernel_rfl
theorem zd6 (W0:World) (hs:W0.ShapedOpen Tryz.prog) (c0':Str):Fn Tryz.prog W0 4 [eCode c0'] (.c (CB true)) []:=by
 refine fnX (c:=Q8) mixed Q9 (by simp) rfl fun hg=>?_
 have hM:=zhV hs
 refine dr ?_
 refine cP ?_ ?_<;>intro h0
 ·exact dz
 refine dr ?_
 refine oW (zdX W0 c0') rfl trivial rfl rfl ⟨(w0W,w0W),w0R,w0R.mono (by omega)⟩ fun x hx=>⟨rfl,?_⟩
 obtain ⟨p,q⟩:=x
 clear hx
 refine dEr ?_
 refine oW (zdV W0 c0') rfl trivial rfl rfl ⟨w0W,w0R.mono (by omega)⟩ fun w hx=>⟨rfl,?_⟩
 have hh:w.holds.length=3:=hx.h
 have hzl:w.leases.length≤1000:=by have:=hx.z.z.l; omega
 have hzh:∀ x∈w.holds,x.length≤1000:=fun x h=>by have:=hx.z.z.h x h; omega
 clear hx
 have q1:=jo W0 p q
 have q2:=zgm W0 p q
 have q3:=jo W0 q p
 rw [show decide (q=p)=decide (p=q) from decide_eq_decide.2 eq_comm] at q3
 have q4:Fn Tryz.prog W0 18 [eWld w,eWld w] (.c (CB true)) []:=by
  have:=jo W0 w w
  simpa using this
 have q5:=jm W0 hM w
 have q6:=zgk W0 w
 have q7:=jm W0 hM noW
 rw [tb_f ZP] at q7
 generalize decide (p=q)=s at *
 by_cases hw:WG w
 rotate_left
 ·rw [tb_f hw] at q5 q6
  refine dEr ?_
  repeat ((first | refine c0 q1 rfl ?_ | refine c0 q2 rfl ?_ | refine c0 q3 rfl ?_ | refine c0 q4 rfl ?_ | refine c0 q5 rfl ?_ | refine c0 q6 rfl ?_ | refine c0 q7 rfl ?_ | refine xiT ?_ | refine xiF ?_ | refine xbT ?_ | refine xbF ?_ | refine xiN ?_ | refine xiM ?_ | refine xbN ?_ | refine xbM ?_ | refine xeT ?_ | refine xeF ?_ | refine c0 (jf W0 _ _ rfl) rfl ?_ | refine c0 (jd W0 _ _ rfl) rfl ?_ | refine c0 (je W0 _ _ rfl) rfl ?_); first | refine dEr ?_ | exact dz)
 rw [tb_t hw] at q5 q6
 obtain ⟨a,b,c,eh⟩:=three hh
 obtain ⟨ov,ck,ct,ls,hds,fl,nt,wt,op⟩:=w
 simp only at eh hzl hzh
 subst eh
 have za:a.length≤1000:=hzh a (by simp)
 have hn:nt.length≤12:=hw.pl.nl
 have hc:0≤ck∧ck≤10000:=hw.pl.ck
 refine dEr ?_
 repeat ((first | refine c0 q1 rfl ?_ | refine c0 q2 rfl ?_ | refine c0 q3 rfl ?_ | refine c0 q4 rfl ?_ | refine c0 q5 rfl ?_ | refine c0 q6 rfl ?_ | refine c0 q7 rfl ?_ | refine oB (by simp; omega) ?_ | refine oB (by simp) ?_ | refine xiT ?_ | refine xiF ?_ | refine xbT ?_ | refine xbF ?_ | refine xiN ?_ | refine xiM ?_ | refine xbN ?_ | refine xbM ?_ | refine xeT ?_ | refine xeF ?_ | refine c0 (jf W0 _ _ rfl) rfl ?_ | refine c0 (jd W0 _ _ rfl) rfl ?_ | refine c0 (je W0 _ _ rfl) rfl ?_); first | refine dEr ?_ | exact dz)
 refine cuts (σ:=Unit) (fun _=>[(5,.ptr 80 0),(6,.ptr 96 0),(7,.ptr 112 0),(8,.ptr 128 0)]) (fun _=>bentM ⟨ov,ck,ct,ls,[a,b,c],fl,nt,wt,op⟩ (.rowP [.c (eHolds a),.c (eHolds b),.c (eHolds c)] 56)) (fun _=>True) ?_ ?_
 ·refine dr ?_
  repeat ((first | refine oB (by simp; omega) ?_ | refine oB (by simp) ?_); first | refine dr ?_ | exact dz)
  refine ⟨(),trivial,?_⟩
  refine KeepX.er (m2:=bentM ⟨ov,ck,ct,ls,[a,b,c],fl,nt,wt,op⟩ (.row [eHolds a,eHolds b,eHolds c] 1 56)) (z:=none) rfl ?_
  refine dr ?_
  trivial
 rintro _ _
 have qy:=jm W0 hM { (⟨ov,ck,ct,ls,[a,b,c],fl,nt,wt,op⟩:Wld) with net:=nt++[⟨1,3,⟨[47,97],false,noE,0,0⟩⟩] }
 rw [tb_f (ZO (m:=⟨1,3,⟨[47,97],false,noE,0,0⟩⟩) (fun h=>by have:=h.2; simp only at this; omega)),zdE (w:=⟨ov,ck,ct,ls,[a,b,c],fl,nt,wt,op⟩)] at qy
 have qz:=jm W0 hM { (⟨ov,ck,ct,ls,[a,b,c],fl,nt,wt,op⟩:Wld) with holds:=(a++[⟨[47,122,122],true,noE,0,ck+1⟩])::[b,c] }
 rw [tb_f (ZM (w:=⟨ov,ck,ct,ls,[a,b,c],fl,nt,wt,op⟩) (h:=⟨[47,122,122],true,noE,0,ck+1⟩) (n:=0) (by simp) (by simp) rfl rfl (by show ck < ck+1; omega) rfl),zdC (w:=⟨ov,ck,ct,ls,[a,b,c],fl,nt,wt,op⟩)] at qz
 have qv:=jm W0 hM { (⟨ov,ck,ct,ls,[a,b,c],fl,nt,wt,op⟩:Wld) with count := -1 }
 rw [tb_f (ZL (w:=⟨ov,ck,ct,ls,[a,b,c],fl,nt,wt,op⟩) (n := -1) (by omega))] at qv
 have sy:=jo W0 ⟨ov,ck,ct,ls,[a,b,c],fl,nt,wt,op⟩ { (⟨ov,ck,ct,ls,[a,b,c],fl,nt,wt,op⟩:Wld) with net:=nt++[⟨1,3,⟨[47,97],false,noE,0,0⟩⟩] }
 rw [decide_eq_false (zjN (w:=⟨ov,ck,ct,ls,[a,b,c],fl,nt,wt,op⟩)),zdE (w:=⟨ov,ck,ct,ls,[a,b,c],fl,nt,wt,op⟩)] at sy
 have sz:=jo W0 ⟨ov,ck,ct,ls,[a,b,c],fl,nt,wt,op⟩ { (⟨ov,ck,ct,ls,[a,b,c],fl,nt,wt,op⟩:Wld) with holds:=(a++[⟨[47,122,122],true,noE,0,ck+1⟩])::[b,c] }
 rw [decide_eq_false (zh4 (w:=⟨ov,ck,ct,ls,[a,b,c],fl,nt,wt,op⟩) (h:=⟨[47,122,122],true,noE,0,ck+1⟩) rfl),zdC (w:=⟨ov,ck,ct,ls,[a,b,c],fl,nt,wt,op⟩)] at sz
 cases hls:ls with
 | nil =>
  subst hls
  refine dEr ?_
  repeat ((first | refine ⟨0,rfl,_,rfl,?_⟩ | refine c0 qy rfl ?_ | refine c0 qz rfl ?_ | refine c0 qv rfl ?_ | refine c0 sy rfl ?_ | refine c0 sz rfl ?_ | refine oB (by decide) ?_ | refine oB (by simp; omega) ?_ | refine oB (by simp) ?_ | refine kT' (by simp) ?_ | refine xiT ?_ | refine xiF ?_ | refine xbT ?_ | refine xbF ?_ | refine xiN ?_ | refine xiM ?_ | refine xbN ?_ | refine xbM ?_ | refine xeT ?_ | refine xeF ?_ | refine c0 (jf W0 _ _ rfl) rfl ?_ | refine c0 (jd W0 _ _ rfl) rfl ?_ | refine c0 (je W0 _ _ rfl) rfl ?_); first | refine dEr ?_ | exact dz)
  rfl
 | cons l0 lr =>
  subst hls
  have qx:=jm W0 hM { (⟨ov,ck,ct,l0::lr,[a,b,c],fl,nt,wt,op⟩:Wld) with leases:=(l0::lr)++(l0::lr) }
  rw [tb_f (ZN (w:=⟨ov,ck,ct,l0::lr,[a,b,c],fl,nt,wt,op⟩) (by simp)),zdD (w:=⟨ov,ck,ct,l0::lr,[a,b,c],fl,nt,wt,op⟩)] at qx
  refine dEr ?_
  repeat ((first | refine ⟨0,rfl,_,rfl,?_⟩ | refine c0 qx rfl ?_ | refine c0 qy rfl ?_ | refine c0 qz rfl ?_ | refine c0 qv rfl ?_ | refine c0 sy rfl ?_ | refine c0 sz rfl ?_ | refine oB (by decide) ?_ | refine oB (by simp; omega) ?_ | refine oB (by simp) ?_ | refine kF' (by simp; omega) ?_ | refine xiT ?_ | refine xiF ?_ | refine xbT ?_ | refine xbF ?_ | refine xiN ?_ | refine xiM ?_ | refine xbN ?_ | refine xbM ?_ | refine xeT ?_ | refine xeF ?_ | refine c0 (jf W0 _ _ rfl) rfl ?_ | refine c0 (jd W0 _ _ rfl) rfl ?_ | refine c0 (je W0 _ _ rfl) rfl ?_); first | refine dEr ?_ | exact dz)
  rfl
end Go.Proofs.YteheahbjaddooaaGreatDoor
