/- The texts Pc1, Ie0, Be1, Pz1, Be2, Be3, Be4, Be5, Shelf, Sh1, Ib1, Sh2, Sh3, Ib2, Ib3, Ib4, Ib5, Ib6, Ic1, Ie1, Ie2, Ie3, Ie4, Lb1, Lx1, Lx2, Lx3, Lx4, Cm1, Dm1, Dm2, Zj, joined; no condition. -/
import Derived.Test.YtmkmldepkponaaaGreatDoorWcC
import Derived.Shelf.Strings.Builder1
import Derived.Shelf.Strings.Builder2
import Derived.Shelf.Strings.OnBuilder
import Derived.Shelf.Small.Bits
import Derived.Shelf.Strconv.Itoa0
import Derived.Shelf.Strings.Search1
import Derived.Shelf.Strings.Search2
import Derived.Shelf.Strings.Search3
import Derived.Shelf.Strings.Count
import Derived.Shelf.LaysM
import Derived.Shelf.Strings.Shaped
import Derived.Shelf.Strings.Split
import Derived.Shelf.Unicode.DecodeSlow
import Derived.Shelf.SlGeneric
import Derived.Shelf.SlSortCmp.NoneTotal
import Derived.Ground.SlsfProg
import Derived.Test.YtmkmldepkponaaaGreatDoorProg
import Derived.Shelf.SlSortCmp.WholeK
import Derived.Laws.Cover1
import Derived.OpenShut
import Derived.Carry
import Derived.ChangeSame
import Derived.ProofKit
import Derived.Test.YtmkmldepkponaaaGreatDoorRows
import Derived.Test.YtmkmldepkponaaaGreatDoorCards
import Derived.Test.YtmkmldepkponaaaGreatDoorTie
import Derived.Deep.DeepHandedRow
import Derived.Lib.LaidTab
import Derived.Sort.Row
import Derived.JoinedOf
import Derived.JoinedCond

namespace Go.Proofs.YtmkmldepkponaaaGreatDoor
set_option linter.unusedSimpArgs false
set_option linter.unusedVariables false
open Go Go.RowKit
theorem lq {k0:List Nat} {body:(Fr→XM→Prop)→Fr→XM→Prop} {F:Fr} {m:XM} {σ:Type} (fr:σ→Fr) (mm:σ→XM) (inv:σ→Prop) (me:σ→Nat) (x0:σ) (h0:inv x0) (hk:zK k0 (some 3) F m (fr x0) (mm x0))
  (hb:∀ x,inv x→body (fun F' m'=>∃ x',inv x'∧me x' < me x∧zK k0 (some 3) F' m' (fr x') (mm x')) (fr x) (mm x)):LoopX k0 body F m :=
 ⟨σ,fr,mm,inv,me,some 3,some 3,_,⟨x0,h0,hk⟩,fun _ _ _ h=>h,hb⟩
theorem lq2 {k0:List Nat} {body:(Fr→XM→Prop)→Fr→XM→Prop} {F:Fr} {m:XM} {α β:Type} (fr:α→β→Fr) (mm:α→β→XM) (inv:α→β→Prop) (me:α→β→Nat) (a0:α) (b0:β) (h0:inv a0 b0) (hk:zK k0 (some 3) F m (fr a0 b0) (mm a0 b0))
  (hb:∀ a b,inv a b→body (fun F' m'=>∃ a' b',inv a' b'∧me a' b' < me a b∧zK k0 (some 3) F' m' (fr a' b') (mm a' b')) (fr a b) (mm a b)):LoopX k0 body F m :=
 ⟨α × β,fun x=>fr x.1 x.2,fun x=>mm x.1 x.2,fun x=>inv x.1 x.2,fun x=>me x.1 x.2,some 3,some 3,fun x F' m'=>∃ a' b',inv a' b'∧me a' b' < me x.1 x.2∧zK k0 (some 3) F' m' (fr a' b') (mm a' b'),
  ⟨(a0,b0),h0,hk⟩,fun _ _ _ ⟨a,b,h⟩=>⟨(a,b),h⟩,fun x h=>hb x.1 x.2 h⟩
structure OZ (k:Nat) (o:Over):Prop where
 b:o.base.length≤k
 n:o.layers.length≤k
 l:∀ l∈o.layers,l.length≤k
 u:o.upper.length≤k
theorem OS.oz {o:Over} (h:OS o):OZ 32 o:=⟨by have:=h.b; omega,by have:=h.n; omega,h.l,h.u⟩
theorem OZ.mono {o:Over} {n m:Nat} (h:OZ n o) (hm:n≤m):OZ m o:=⟨by have:=h.b; omega,by have:=h.n; omega,fun l hl=>by have:=h.l l hl; omega,by have:=h.u; omega⟩
def zjI:XC:=(.s (.r [.x1 1 0,.ex 2 (.alloc [.nil,.nil,.nil])]) (.s (.d [.ex 5 .bsl0,.f1 6 0 1,.l1 7 1 6,.ex 8 (.app true 3 40 77 5 7),.ex 9 .bsl0,.f1 10 2 1,.l1 11 1 10,.ex 12 (.app true 3 40 34 9 11),.ex 13 (.build [.nil,.nil,.nil] [(0,(1,8)),(2,(1,12))]),.ex 3 (.alloc [.nil,.nil,.nil]),.s1 3 3 13]) (.s (.s (.r [.m1 4 (.i 0)]) (.blk 0 (.loop (.s (.s (.r [.mv 14 4,.f1 15 1 1,.l1 16 1 15,.n1 17 16,.b1 18 .lss 14 17]) (.ce 18 0)) (.s (.blk 1 (.d [.f1 21 1 3,.l1 22 1 21,.ex 23 .bsl0,.f1 24 1 1,.l1 25 1 24,.mv 26 4,.i1 27 1 25 26,.l1 28 1 27,.ex 29 (.app true 3 40 34 23 28),.ex 30 (.bsl 1 25 [29]),.ex 31 (.app false 1 24 25 22 30),.f1 32 1 3,.s1 1 32 31])) (.ic 19 20 4)))))) (.s (.r [.l2 33 3 3,.s1 3 2 33]) .ret))))
theorem zcr:zj Tryz.prog [] 66=some (zjI.ac,[(.cell 2 true 3)],34):=by kernel_rfl
theorem zkN (W0:World) (o:Over) (h:OZ 1000000 o):zy Tryz.prog W0 66 [.c (zA o)] [] (fun _:Unit=>True) (fun _ => .agg [.c (zh o.base),.own 4 o.layers.length,.c (ze o.upper)]) (fun _=>[(4,.row (o.layers.map ze) 1 25)]):=by
 refine fW mixed zcr fun hg=>?_
 obtain ⟨z1,z2,z3,z4⟩:=h;refine dr ?_;refine lq (σ:=Nat) (fun k=>[(1,.ptr 16 0),(2,.ptr 32 0),(3,.ptr 48 0),(4,I k)]) (fun k=>[(4,.row ((o.layers.take k).map ze) 1 25),(16,.box [.c (zh o.base),.c (zJ o.layers),.c (ze o.upper)]),(32,.box [.nil,.nil,.nil]),(48,.box [.c (zh o.base),.own 4 k,.c (ze o.upper)])]) (fun k=>k≤o.layers.length) (fun k=>o.layers.length - k) 0 (by simp) ?_ ?_
 ·refine zK.trans (z:=some 128) (z':=some 3) (F1:=[(1,.ptr 16 0),(2,.ptr 32 0),(3,.ptr 48 0),(4,I 0)]) (m1:=[(16,.box [.c (zh o.base),.c (zJ o.layers),.c (ze o.upper)]),(32,.box [.nil,.nil,.nil]),(48,.box [.c (zh o.base),.nil,.own 192 o.upper.length]),(192,.row (o.upper.map zq) 3 34)]) ?_ ?_
  ·refine dr ?_;repeat (refine oB (by simp<;>rfl) ?_; first|refine dr ?_|exact dz)
   trivial
  refine zK.trans (z:=some 192) (z':=some 3) (F1:=[(1,.ptr 16 0),(2,.ptr 32 0),(3,.ptr 48 0),(4,I 0)]) (m1:=[(16,.box [.c (zh o.base),.c (zJ o.layers),.c (ze o.upper)]),(32,.box [.nil,.nil,.nil]),(48,.box [.c (zh o.base),.nil,.c (ze o.upper)])]) ?_ ?_
  ·refine dr ?_;repeat (refine oB (by simp<;>rfl) ?_; first|refine dr ?_|exact dz)
   trivial
  ·show zr _ _ _ _ _;exact zr.nilB 48 [.c (zh o.base),.nil,.c (ze o.upper)] [.c (zh o.base),.own 4 0,.c (ze o.upper)] 4 25 rfl rfl ⟨nr0,nr1,nr0,trivial⟩
 intro k hk;refine dr ?_;apply cP<;>intro h1
 ·have hk':k < o.layers.length:=by omega
  have hz:=z3 _ (List.getElem_mem hk');refine dr ?_;repeat ((first|refine oB (by simp; omega) ?_|refine oB (by simp) ?_); first|refine dr ?_|exact dz)
  refine ⟨k+1,by omega,by omega,?_⟩;rw [List.take_succ_eq_append_getElem hk',List.map_append];refine zr.push (C:=(o.layers.take k).map ze) (L:=o.layers[k].map zq) 4 464 rfl rfl (by simp) ?_;refine dr ?_;trivial
 have hkl:k=o.layers.length:=by omega
 subst hkl;rw [List.take_length];refine dr ?_;refine ⟨none,_,_,?_,(),trivial,rfl,rfl⟩;refine dr ?_;trivial
theorem zdc (W0:World) (o:Over) (h:OZ 1000000 o):Fn Tryz.prog W0 66 [zA o] (.c (zA o)) []:=by
 refine fX mixed zcr fun hg=>?_
 obtain ⟨z1,z2,z3,z4⟩:=h;refine dr ?_;refine lq (σ:=Nat) (fun k=>[(1,.ptr 16 0),(2,.ptr 32 0),(3,.ptr 48 0),(4,I k)]) (fun k=>[(4,.row ((o.layers.take k).map ze) 1 25),(16,.box [.c (zh o.base),.c (zJ o.layers),.c (ze o.upper)]),(32,.box [.nil,.nil,.nil]),(48,.box [.c (zh o.base),.own 4 k,.c (ze o.upper)])]) (fun k=>k≤o.layers.length) (fun k=>o.layers.length - k) 0 (by simp) ?_ ?_
 ·refine zK.trans (z:=some 128) (z':=some 3) (F1:=[(1,.ptr 16 0),(2,.ptr 32 0),(3,.ptr 48 0),(4,I 0)]) (m1:=[(16,.box [.c (zh o.base),.c (zJ o.layers),.c (ze o.upper)]),(32,.box [.nil,.nil,.nil]),(48,.box [.c (zh o.base),.nil,.own 192 o.upper.length]),(192,.row (o.upper.map zq) 3 34)]) ?_ ?_
  ·refine dr ?_;repeat (refine oB (by simp<;>rfl) ?_; first|refine dr ?_|exact dz)
   trivial
  refine zK.trans (z:=some 192) (z':=some 3) (F1:=[(1,.ptr 16 0),(2,.ptr 32 0),(3,.ptr 48 0),(4,I 0)]) (m1:=[(16,.box [.c (zh o.base),.c (zJ o.layers),.c (ze o.upper)]),(32,.box [.nil,.nil,.nil]),(48,.box [.c (zh o.base),.nil,.c (ze o.upper)])]) ?_ ?_
  ·refine dr ?_;repeat (refine oB (by simp<;>rfl) ?_; first|refine dr ?_|exact dz)
   trivial
  ·show zr _ _ _ _ _;exact zr.nilB 48 [.c (zh o.base),.nil,.c (ze o.upper)] [.c (zh o.base),.own 4 0,.c (ze o.upper)] 4 25 rfl rfl ⟨nr0,nr1,nr0,trivial⟩
 intro k hk;refine dr ?_;apply cP<;>intro h1
 ·have hk':k < o.layers.length:=by omega
  have hz:=z3 _ (List.getElem_mem hk');refine dr ?_;repeat ((first|refine oB (by simp; omega) ?_|refine oB (by simp) ?_); first|refine dr ?_|exact dz)
  refine ⟨k+1,by omega,by omega,?_⟩;rw [List.take_succ_eq_append_getElem hk',List.map_append];refine zr.push (C:=(o.layers.take k).map ze) (L:=o.layers[k].map zq) 4 464 rfl rfl (by simp) ?_;refine dr ?_;trivial
 have hkl:k=o.layers.length:=by omega
 subst hkl;rw [List.take_length];refine dr ?_;rfl
def ziU:XC:=(.s (.r [.x1 1 0,.ex 2 (.alloc [.nil,.nil,.nil]),.m1 3 .n]) (.s (.s (.r [.l2 5 3 1,.c1 6 16 [5],.u1 7 6]) (.cnd 7 (.s (.r [.ex 8 (.build [.nil,.nil,.nil] []),.s1 3 2 8,.m1 3 .n]) .ret) .skip)) (.s (.r [.l2 9 3 1,.o1 10 66 [9],.ex 4 (.alloc [.nil,.nil,.nil]),.s1 3 4 10]) (.s (.s (.r [.f1 11 1 1,.l1 12 1 11,.n1 13 12,.b1 14 .geq 13 (.i 4)]) (.cnd 14 (.s (.r [.l2 15 3 4,.s1 3 2 15,.m1 3 .n]) .ret) .skip)) (.s (.r [.f1 16 1 4,.l1 17 1 16,.f1 18 2 4,.l1 19 1 18,.ex 20 (.bsl 1 25 [19]),.ex 21 (.app false 1 24 25 17 20),.f1 22 1 4,.s1 1 22 21]) (.s (.r [.ex 23 .bsl0,.f1 24 2 4,.s1 1 24 23]) (.s (.r [.l2 25 3 4,.s1 3 2 25,.m1 3 .y]) .ret)))))))
theorem ziV:zj Tryz.prog [66] 33=some (ziU.ac,[(.cell 2 true 3),(.t 3)],26):=by kernel_rfl
theorem zk3 (W0:World) (o:Over):Fn Tryz.prog W0 33 [zA o] (.c (eOB (jV o))) []:=by
 refine fX mixed ziV fun hg=>?_
 refine dEr ?_;repeat (refine c0 (zaE W0 o) rfl ?_; first|refine dEr ?_|exact dz)
 apply cP<;>intro h1
 ·refine dr ?_;rw [jV,if_neg (by simp [h1])]<;>rfl
 have hz:=OS.ok h1;rw [jV,if_pos h1];refine dr ?_;refine oW (zkN W0 o (hz.oz.mono (by omega))) rfl trivial rfl rfl ⟨(),trivial⟩ fun _ _=>⟨rfl,?_⟩
 refine dEr ?_;apply cP<;>intro h2
 ·refine dr ?_;repeat (refine oB (by simp) ?_; first|refine dr ?_|exact dz)
  rw [if_pos (by omega)]<;>rfl
 ·have:=hz.n;refine dr ?_;repeat ((first|refine oB (by simp; omega) ?_|refine oB (by simp) ?_); first|refine dr ?_|exact dz)
  rw [if_neg (by omega)];exact congrArg (fun y=>CV.tup [.agg [zh o.base,y,ze []],CB true]) (by simp [zJ])
def ziQ:XC:=(.s (.r [.x1 1 0,.ex 2 (.alloc [.nil,.nil,.nil])]) (.s (.s (.r [.l2 4 3 1,.c1 5 16 [4],.u1 6 5]) (.cnd 6 (.s (.r [.ex 7 (.build [.nil,.nil,.nil] []),.s1 3 2 7]) .ret) .skip)) (.s (.r [.l2 8 3 1,.c1 9 66 [8],.ex 3 (.alloc [.nil,.nil,.nil]),.s1 3 3 9]) (.s (.r [.ex 10 .bsl0,.f1 11 2 3,.s1 1 11 10]) (.s (.r [.l2 12 3 3,.s1 3 2 12]) .ret)))))
theorem ziR:zj Tryz.prog [] 31=some (ziQ.ac,[(.cell 2 true 3)],13):=by kernel_rfl
theorem zk2 (W0:World) (o:Over):Fn Tryz.prog W0 31 [zA o] (.c (zA (qy o))) []:=by
 refine fX mixed ziR fun hg=>?_
 refine dEr ?_;repeat (refine c0 (zaE W0 o) rfl ?_; first|refine dEr ?_|exact dz)
 apply cP<;>intro h1
 ·refine dr ?_;rw [qy,if_neg (by simp [h1])]<;>rfl
 have hz:=OS.ok h1;rw [qy,if_pos h1];refine dEr ?_;repeat (refine c0 (zdc W0 o (hz.oz.mono (by omega))) rfl ?_; first|refine dEr ?_|exact dz)
 rfl
def ziW:XC:=(.s (.r [.x1 1 0,.ex 2 (.alloc [.nil,.nil,.nil])]) (.s (.s (.r [.l2 4 3 1,.c1 5 16 [4],.u1 6 5]) (.cnd 6 (.s (.r [.ex 7 (.build [.nil,.nil,.nil] []),.s1 3 2 7]) .ret) .skip)) (.s (.r [.l2 8 3 1,.c1 9 66 [8],.ex 3 (.alloc [.nil,.nil,.nil]),.s1 3 3 9]) (.s (.r [.l2 11 3 1,.c1 12 51 [11],.mv 10 12,.e1 13 10 0,.e1 14 10 1,.f1 15 0 3,.s1 1 15 13]) (.s (.r [.ex 16 .bsl0,.f1 17 1 3,.s1 1 17 16]) (.s (.r [.l2 18 3 3,.s1 3 2 18]) .ret))))))
theorem ziX:zj Tryz.prog [] 28=some (ziW.ac,[(.cell 2 true 3)],19):=by kernel_rfl
theorem zk4 (W0:World) (o:Over):Fn Tryz.prog W0 28 [zA o] (.c (zA (yb o))) []:=by
 refine fX mixed ziX fun hg=>?_
 refine dEr ?_;repeat (refine c0 (zaE W0 o) rfl ?_; first|refine dEr ?_|exact dz)
 apply cP<;>intro h1
 ·refine dr ?_;rw [yb,if_neg (by simp [h1])]<;>rfl
 obtain ⟨t,x,g⟩:=OG.of h1;rw [g.sink.1];have q:=zaB W0 o;rw [g.low] at q;refine dEr ?_;repeat ((first|refine c0 (zdc W0 o (g.os.oz.mono (by omega))) rfl ?_|refine c0 q rfl ?_); first|refine dEr ?_|exact dz)
 rfl
end Go.Proofs.YtmkmldepkponaaaGreatDoor

namespace Go.Proofs.YtmkmldepkponaaaGreatDoor
set_option linter.unusedSimpArgs false
set_option linter.unusedVariables false
open Go Go.RowKit
theorem YO {L:List Ent} {e:TypeId}:rlXO (.row (L.map zs) 3 e)=true:=rlRow fun _=>rfl
theorem Jw {L:List Mark} {e:TypeId}:rlXO (.row (L.map zq) 3 e)=true:=rlRow fun _=>rfl
def zgD:XC:=(.s (.r [.a2 2 3 77]) (.s (.r [.mv 3 0,.ex 4 (.app true 3 40 77 (.k .nil) 3),.a1 2 4 3 77]) .ret))
theorem zgE:zj Tryz.prog [] 86=some (zgD.ac,[(.t 2)],5):=by kernel_rfl
theorem zcZ (W0:World) (t:List Ent) (ht:t.length≤1100000):zy Tryz.prog W0 86 [.c (zh t)] [] (fun _:Unit=>True) (fun _ => .own 4 t.length) (fun _=>[(4,.row (t.map zs) 3 77)]):=by
 refine zy.swp (R:=fun _ => .own 64 t.length) (M:=fun _=>[(64,.row (t.map zs) 3 77)]) (vs:=[.c (zh t)]) (mp:=[]) ?_ 4 64;refine fW mixed zgE fun hg=>?_
 refine dr ?_;repeat ((first|refine oB (by simp; omega) ?_|refine oB (by simp) ?_); first|refine dr ?_|exact dz)
 refine ⟨none,_,_,?_,(),trivial,rfl,rfl⟩;refine dr ?_;trivial
def zgF:XC:=(.s (.r [.a2 2 3 34]) (.s (.r [.mv 3 0,.ex 4 (.app true 3 40 34 (.k .nil) 3),.a1 2 4 3 34]) .ret))
theorem zgG:zj Tryz.prog [] 67=some (zgF.ac,[(.t 2)],5):=by kernel_rfl
theorem zax (W0:World) (t:List Mark) (ht:t.length≤1100000):zy Tryz.prog W0 67 [.c (ze t)] [] (fun _:Unit=>True) (fun _ => .own 4 t.length) (fun _=>[(4,.row (t.map zq) 3 34)]):=by
 refine zy.swp (R:=fun _ => .own 64 t.length) (M:=fun _=>[(64,.row (t.map zq) 3 34)]) (vs:=[.c (ze t)]) (mp:=[]) ?_ 4 64;refine fW mixed zgG fun hg=>?_
 refine dr ?_;repeat ((first|refine oB (by simp; omega) ?_|refine oB (by simp) ?_); first|refine dr ?_|exact dz)
 refine ⟨none,_,_,?_,(),trivial,rfl,rfl⟩;refine dr ?_;trivial
def lmL (o:Over):List (List CV):=o.layers.map fun l=>l.map zq
theorem zff {o:Over}:∀ C∈lmL o,∀ x∈C,x.cells.all rle1=true:=fun C hC x hx=>by
 obtain ⟨l,_,rfl⟩:=List.mem_map.1 hC;obtain ⟨m,_,rfl⟩:=List.mem_map.1 hx;rfl
def ovM (c:Nat) (o:Over):XM:=(c,.row (o.base.map zs) 3 77)::(16+c,.row (o.upper.map zq) 3 34)::(32+c,.rowP (zG c 3 (lmL o)) 25)::je c 3 34 3 (lmL o)
def ovP (c:Nat) (o:Over):PV := .agg [.own c o.base.length,.own (32+c) o.layers.length,.own (16+c) o.upper.length]
def zgH:XC:=(.s (.r [.x1 1 0,.ex 2 (.alloc [.nil,.nil,.nil])]) (.s (.r [.a2 3 1 25]) (.s (.s (.r [.f1 6 1 1,.l1 7 1 6,.n1 8 7,.m1 9 (.i 0)]) (.blk 0 (.loop (.s (.r [.b1 10 .lss 9 8]) (.s (.ce 10 0) (.s (.blk 1 (.s (.r [.i1 11 1 7 9,.l1 12 1 11,.a1 5 12 3 34]) (.r [.mv 13 3,.mv 14 5,.o1 15 67 [14],.ex 16 (.bsl 1 25 [15]),.ex 17 (.app false 1 24 25 13 16),.a1 3 17 1 25]))) (.r [.b1 18 .add 9 (.i 1),.mv 9 18]))))))) (.s (.d [.f1 19 0 1,.exo [9,25] 20 (.ld false 1 19),.exo [9,25] 21 (.opn 86 [20]),.mv 22 3,.f1 23 2 1,.exo [9,25] 24 (.ld false 1 23),.exo [9,25] 25 (.opn 67 [24]),.ex 26 (.build [.nil,.nil,.nil] [(0,(1,21)),(1,(1,22)),(2,(1,25))]),.s1 3 2 26]) .ret))))
theorem zgI:zj Tryz.prog [86,67,1000009,1000025] 70=some (zgH.ac,[(.cell 2 true 3)],27):=by kernel_rfl
theorem zc0 (W0:World) (o:Over) (h:OZ 1100000 o):zy Tryz.prog W0 70 [.c (zA o)] [] (fun _:Unit=>True) (fun _=>ovP 9 o) (fun _=>ovM 9 o):=by
 refine fW' [] mixed zgI (fun hg=>?_) rfl;obtain ⟨z1,z2,z3,z4⟩:=h;refine dr ?_;refine lq (σ:=Nat) (fun k=>[(1,.ptr 16 0),(2,.ptr 32 0),(3,.own 48 k),(7,.c (zJ o.layers)),(8,I o.layers.length),(9,I k)])
  (fun k=>(16,.box [.c (zh o.base),.c (zJ o.layers),.c (ze o.upper)])::(32,.box [.nil,.nil,.nil])::(48,.rowP (zG 9 3 ((lmL o).take k)) 25)::je 9 3 34 3 ((lmL o).take k)) (fun k=>k≤o.layers.length) (fun k=>o.layers.length - k) 0 (by simp) ?_ ?_
 ·refine zr.er (zK.s (z:=none) (m2:=[(16,.box [.c (zh o.base),.c (zJ o.layers),.c (ze o.upper)]),(32,.box [.nil,.nil,.nil]),(48,.row [] 1 25)]) ?_) rfl;refine dr ?_;trivial
 have hlm:(lmL o).length=o.layers.length:=by simp [lmL]
 have hlmk:∀ {k:Nat} (h:k < o.layers.length) (h':k < (lmL o).length),(lmL o)[k]=o.layers[k].map zq:=fun _ _=>by simp [lmL]
 intro k hk;have tl:((lmL o).take k).length=k:=by simp; omega
 obtain ⟨T,O,fa⟩:=famP 9 3 34 3 ((lmL o).take k);rw [fa.t,fa.o];refine dr ?_;apply cP<;>intro h1
 ·have hk':k < o.layers.length:=by omega
  have hz:=z3 _ (List.getElem_mem hk');refine dr ?_;refine oF (cs:=[ze o.layers[k]]) ((zax W0 _ hz).swp 4 6) rfl ?_ rfl ⟨(),trivial⟩ fun _ _=>⟨rfl,⟨⟨Jw,(js (P:=[_,_,_]) rfl).trans (fa.no (.inl (by decide)))⟩,trivial⟩,?_⟩
  ·exact zd rfl (zd rfl (zd (fa.inO fun i hi=>by simp only [apX]; rw [zb (by omega),zb (by omega),zb (by omega),fa.row hi]; rfl) fa.inT))
  refine dEr ?_;repeat ((first|refine fT (frX1 ((js (P:=[_,_,_,_]) rfl).trans (fa.no (id:=256) (.inr (by decide))))) ?_|refine oB (fa.len.trans tl) ?_|refine oB (by simp; omega) ?_); first|refine dEr ?_|exact dz)
  refine ⟨k+1,by omega,by omega,?_⟩;have hN:∀ i < ((lmL o).take k).length,sw 6 (16 * (3+k)+9) (16 * (3+i)+9)=16 * (3+i)+9:=fun i hi=>jF (by omega) (by omega)
  have hNN:sw 6 (16 * (3+k)+9) (16 * (3+k)+9)=6:=by
   unfold sw;have:Nat.beq (16 * (3+k)+9) 6=false:=by
    cases hb:Nat.beq (16 * (3+k)+9) 6 with
    | false=>rfl
    | true=>have:=Nat.eq_of_beq_eq_true hb; omega
   rw [this,Nat.beq_refl]
  have hN6:sw 6 (16 * (3+k)+9) 6=16 * (3+k)+9:=rfl;have hkl:k < (lmL o).length:=by omega
  have tk:(lmL o).take (k+1)=(lmL o).take k++[o.layers[k].map zq]:=by rw [List.take_succ_eq_append_getElem hkl,hlmk hk' hkl]
  have tl1:((lmL o).take (k+1)).length=k+1:=by simp; omega
  refine zr.rn 6 (16 * (3+k)+9) rfl rfl ⟨⟨_,rfl,rnP (jF (by decide) (by omega))⟩,⟨_,rfl,rnP (jF (by decide) (by omega))⟩,⟨_,rfl,rnO (jF (by decide) (by omega))⟩,⟨_,rfl,rfl⟩,⟨_,rfl,rfl⟩,⟨_,rfl,rfl⟩,trivial⟩
   ⟨⟨_,Zd (jF (by decide) (by omega)) rfl,rfl⟩,⟨_,Zd (jF (by decide) (by omega)) rfl,rfl⟩,⟨_,Zd (jF (by decide) (by omega)) rfl,?_⟩,Js fun i hi=>?_⟩ (fun id h=>by cases h) ?_ rfl
  ·rw [tk,YG,tl,fa.o];simp only [yz,List.map_append,fa.ren hN]
   congr 2
   simp only [List.map_cons,List.map_nil]
   congr 1
   show PV.own (sw 6 (16 * (3+k)+9) 6) _=_;rw [hN6];simp
  ·by_cases hik:i < k
   ·rw [hN i (by omega)];show lkX (_::_::_::_::_::T) _=_;rw [zb (by simp<;>omega),zb (by simp [sw]<;>omega),zb (by omega),zb (by omega),zb (by omega),fa.row (by omega)];simp
   ·have:i=k:=by omega
    subst this;rw [hNN];have e:((lmL o).take (i+1))[i]=o.layers[i].map zq:=by simp [lmL]
    rw [e];rfl
  ·exact zd rfl (zd rfl (zd (yy fun i hi=>by rw [zb (by omega),zb (by omega),zb (by omega),qT hi]; rfl) yo))
 have hkl:k=o.layers.length:=by omega
 subst hkl;have tlk:(lmL o).take o.layers.length=lmL o:=by rw [← hlm,List.take_length]
 rw [tlk] at fa;have qb:zy Tryz.prog W0 86 [.c (zh o.base)] [] (fun _:Unit=>True) (fun _ => .own 9 o.base.length) (fun _=>[(9,.row (o.base.map zs) 3 77)]):=(zcZ W0 _ z1).swp 4 9;have qu:zy Tryz.prog W0 67 [.c (ze o.upper)] [] (fun _:Unit=>True) (fun _ => .own 25 o.upper.length) (fun _=>[(25,.row (o.upper.map zq) 3 34)]):=(zax W0 _ z4).swp 4 25;refine dr ?_;refine oF (cs:=[zh o.base]) qb rfl ?_ rfl ⟨(),trivial⟩ fun _ _=>⟨rfl,⟨⟨YO,(js (P:=[_,_,_]) rfl).trans (fa.no (.inl (by decide)))⟩,trivial⟩,?_⟩
 ·exact zd rfl (zd rfl (zd (fa.inO fun i hi=>by simp only [apX]; rw [zb (by omega),zb (by omega),zb (by omega),fa.row hi]; rfl) fa.inT))
 dsimp only [apX];refine Ze (zcP rfl) (yJ ⟨rfl,rfl,rfl,fa.mmS fun i hi=>?_⟩ ?_)
 ·rw [zb (by omega),zb (by omega),zb (by omega),zb (by omega),fa.row (by omega)]
 refine dr ?_;refine oF (cs:=[ze o.upper]) qu rfl ?_ rfl ⟨(),trivial⟩ fun _ _=>⟨rfl,⟨⟨Jw,(js (P:=[_,_,_,_]) rfl).trans (fa.no (.inl (by decide)))⟩,trivial⟩,?_⟩
 ·exact zd rfl (zd rfl (zd rfl (zd (fa.inO fun i hi=>by simp only [apX]; rw [zb (by omega),zb (by omega),zb (by omega),zb (by omega),fa.row hi]; rfl) fa.inT)))
 dsimp only [apX];refine Ze (zcP rfl) (yJ ⟨rfl,rfl,rfl,rfl,fa.mmS fun i hi=>?_⟩ ?_)
 ·rw [zb (by omega),zb (by omega),zb (by omega),zb (by omega),zb (by omega),fa.row (by omega)]
 refine dEr ?_;have hN:∀ i < (lmL o).length,sw 48 41 (16 * (3+i)+9)=16 * (3+i)+9:=fun i hi=>jF (by omega) (by omega)
 refine ⟨some 3,_,_,?_,(),trivial,rfl,rfl⟩;refine zr.rn 48 41 rfl rfl ⟨⟨_,rfl,rfl⟩,trivial⟩ ⟨⟨_,rfl,rfl⟩,⟨_,rfl,rfl⟩,⟨_,rfl,congrArg (fun L=>XB.rowP L 25) ((fa.ren hN).trans fa.o.symm)⟩,Js fun i hi=>?_⟩ (fun id h=>by cases h) ?_ ?_
 ·rw [hN i hi];show lkX (_::_::_::_::_::T) _=_;rw [zb (by omega),zb (by omega),zb (by omega),zb (by omega),zb (by omega),fa.row hi]
 ·exact zd rfl (zd rfl (zd (yy fun i hi=>by unfold ovM; rw [zb (by omega),zb (by omega),zb (by omega),qT hi]; rfl) yo))
 ·rfl
end Go.Proofs.YtmkmldepkponaaaGreatDoor

namespace Go.Proofs.YtmkmldepkponaaaGreatDoor
set_option linter.unusedSimpArgs false
set_option linter.unusedVariables false
open Go Go.RowKit
def zjP:XC:=(.s (.r [.a2 2 3 77]) (.s (.r [.mv 5 0,.n1 6 5,.ex 7 (.mks 3 40 77 (.c (.agg [(.sc (.string ⟨#[]⟩)),(.sc (.bool false)),(.sc (.string ⟨#[]⟩))])) 6),.a1 3 7 3 77]) (.s (.s (.r [.m1 4 (.i 0)]) (.blk 0 (.loop (.s (.s (.r [.mv 8 4,.mv 9 0,.n1 10 9,.b1 11 .lss 8 10]) (.ce 11 0)) (.s (.blk 1 (.r [.mv 14 3,.mv 15 4,.mv 16 0,.mv 17 4,.i1 18 3 16 17,.l2 19 3 18,.c1 20 98 [19],.i1 21 3 14 15,.s1 3 21 20])) (.ic 12 13 4)))))) (.s (.r [.mv 22 3,.a1 2 22 3 77]) .ret))))
theorem zjQ:zj Tryz.prog [] 57=some (zjP.ac,[(.t 2)],23):=by kernel_rfl
theorem zla (W0:World) (t:List Ent) (ht:t.length≤1048576):zy Tryz.prog W0 57 [.c (zh t)] [] (fun _:Unit=>True) (fun _ => .own 4 t.length) (fun _=>[(4,.row (t.map zs) 3 77)]):=by
 refine zy.swp (R:=fun _ => .own 112 t.length) (M:=fun _=>[(112,.row (t.map zs) 3 77)]) (vs:=[.c (zh t)]) (mp:=[]) ?_ 4 112;refine fW mixed zjQ fun hg=>?_
 refine dr ?_;refine lp (σ:=Nat) (fun k=>[(0,.c (zh t)),(3,.own 112 t.length),(4,I k)]) (fun k=>[(112,.row ((t.take k).map zs++List.replicate (t.length - k) (zs ⟨[],false,[]⟩)) 3 77)]) (fun k=>k≤t.length) (fun k=>t.length - k) 0 (by simp) ?_ ?_
 ·refine dr ?_;trivial
 rintro k hk;refine dr ?_;apply cP<;>intro h2
 ·refine dr ?_;repeat ((first|refine c0 (zdm W0 _) rfl ?_|refine oB (Za hk) ?_|refine aE (j:=k) rfl (J6 (by omega)) ?_); first|refine dr ?_|exact dz)
  intro hg2;refine dr ?_;refine ⟨k+1,by omega,by omega,?_⟩;refine dr ?_;repeat (refine oB (by rw [← Qp (f:=zs) (by omega:k < t.length)]<;>rfl) ?_; first|refine dr ?_|exact dz)
  trivial
 ·have:k=t.length:=by omega
  subst this;refine dr ?_;refine ⟨none,_,_,?_,(),trivial,rfl,rfl⟩;refine dr ?_;repeat (refine oB (by simp) ?_; first|refine dr ?_|exact dz)
  trivial
def zjR:XC:=(.s (.r [.a2 2 3 34]) (.s (.r [.mv 5 0,.n1 6 5,.ex 7 (.mks 3 40 34 (.c (.agg [(.sc (.string ⟨#[]⟩)),(.sc (.int .i64 0)),(.sc (.string ⟨#[]⟩))])) 6),.a1 3 7 3 34]) (.s (.s (.r [.m1 4 (.i 0)]) (.blk 0 (.loop (.s (.s (.r [.mv 8 4,.mv 9 0,.n1 10 9,.b1 11 .lss 8 10]) (.ce 11 0)) (.s (.blk 1 (.r [.mv 14 3,.mv 15 4,.mv 16 0,.mv 17 4,.i1 18 3 16 17,.l2 19 3 18,.c1 20 99 [19],.i1 21 3 14 15,.s1 3 21 20])) (.ic 12 13 4)))))) (.s (.r [.mv 22 3,.a1 2 22 3 34]) .ret))))
theorem zjS:zj Tryz.prog [] 59=some (zjR.ac,[(.t 2)],23):=by kernel_rfl
theorem zdp (W0:World) (t:List Mark) (ht:t.length≤1048576):zy Tryz.prog W0 59 [.c (ze t)] [] (fun _:Unit=>True) (fun _ => .own 4 t.length) (fun _=>[(4,.row (t.map zq) 3 34)]):=by
 refine zy.swp (R:=fun _ => .own 112 t.length) (M:=fun _=>[(112,.row (t.map zq) 3 34)]) (vs:=[.c (ze t)]) (mp:=[]) ?_ 4 112;refine fW mixed zjS fun hg=>?_
 refine dr ?_;refine lp (σ:=Nat) (fun k=>[(0,.c (ze t)),(3,.own 112 t.length),(4,I k)]) (fun k=>[(112,.row ((t.take k).map zq++List.replicate (t.length - k) (zq ⟨[],0,[]⟩)) 3 34)]) (fun k=>k≤t.length) (fun k=>t.length - k) 0 (by simp) ?_ ?_
 ·refine dr ?_;trivial
 rintro k hk;refine dr ?_;apply cP<;>intro h2
 ·refine dr ?_;repeat ((first|refine c0 (zdn W0 _) rfl ?_|refine oB (Za hk) ?_|refine aE (j:=k) rfl (J6 (by omega)) ?_); first|refine dr ?_|exact dz)
  intro hg2;refine dr ?_;refine ⟨k+1,by omega,by omega,?_⟩;refine dr ?_;repeat (refine oB (by rw [← Qp (f:=zq) (by omega:k < t.length)]<;>rfl) ?_; first|refine dr ?_|exact dz)
  trivial
 ·have:k=t.length:=by omega
  subst this;refine dr ?_;refine ⟨none,_,_,?_,(),trivial,rfl,rfl⟩;refine dr ?_;repeat (refine oB (by simp) ?_; first|refine dr ?_|exact dz)
  trivial
theorem zbp {α:Type}:∀ {n:Nat} {l:List α} {a:α} {K:α→Prop},l[n]? = some a→K a→nthK n l K
 | _,[],_,_,h,_=>by simp at h
 | 0,x::l,a,K,h,k=>by simp at h; subst h; exact k
 | n+1,x::l,a,K,h,k=>zbp (n:=n) (l:=l) (by simpa using h) k
def lmT (t:List (List Mark)):List (List CV):=t.map fun l=>l.map zq
def qz (c:Nat) (t:List (List Mark)) (k:Nat):List PV:=zG c 3 ((lmT t).take k)++List.replicate (t.length - k) (.c (.row []))
theorem zmD {c:Nat} {t:List (List Mark)} {k:Nat} (hk:k≤t.length):(qz c t k).length=t.length:=by
 unfold qz;rw [List.length_append,jv,List.length_take,List.length_replicate];simp [lmT]; omega
theorem zmC {c:Nat} {t:List (List Mark)} {k:Nat} (hk:k < t.length):(qz c t k)[k]? = some (.c (.row [])):=by
 unfold qz;have hl:(zG c 3 ((lmT t).take k)).length=k:=by rw [jv,List.length_take]; simp [lmT]; omega
 rw [List.getElem?_append_right (by omega),hl,Nat.sub_self,List.getElem?_replicate,if_pos (by omega)]
theorem zmE {c:Nat} {t:List (List Mark)} {k:Nat} (hk:k < t.length) (y:PV):(qz c t k).set k y=zG c 3 ((lmT t).take k)++y::List.replicate (t.length - (k+1)) (.c (.row [])):=by
 unfold qz;have hl:(zG c 3 ((lmT t).take k)).length=k:=by rw [jv,List.length_take]; simp [lmT]; omega
 rw [List.set_append_right _ _ (by omega),hl,Nat.sub_self,show t.length - k=(t.length - (k+1))+1 by omega,List.replicate_succ,List.set_cons_zero]
theorem zmB {c:Nat} {t:List (List Mark)}:qz c t t.length=zG c 3 (lmT t):=by
 unfold qz;rw [Nat.sub_self,List.replicate_zero,List.append_nil,show t.length=(lmT t).length by simp [lmT],List.take_length]
theorem ze0 {c:Nat} {t:List (List Mark)} {k:Nat} {m:XM} (h:∀ i < ((lmT t).take k).length,(lkX m (16 * (3+i)+c)).isSome=true):((qz c t k).all fun x=>x.cells.all (in1X m))=true:=by
 unfold qz;rw [List.all_append,yy h,Bool.true_and,List.all_eq_true];intro x hx;rw [(List.mem_replicate.1 hx).2]; rfl
def zjT:XC:=(.s (.r [.a2 2 1 25]) (.s (.r [.mv 5 0,.n1 6 5,.ex 7 (.mks 1 24 25 (.c (.row [])) 6),.a1 3 7 1 25]) (.s (.s (.r [.m1 4 (.i 0)]) (.blk 0 (.loop (.s (.s (.r [.mv 8 4,.mv 9 0,.n1 10 9,.b1 11 .lss 8 10]) (.ce 11 0)) (.s (.blk 1 (.r [.mv 14 3,.mv 15 4,.mv 16 0,.mv 17 4,.i1 18 1 16 17,.l1 19 1 18,.o1 20 59 [19],.i1 21 1 14 15,.s1 1 21 20])) (.ic 12 13 4)))))) (.s (.r [.mv 22 3,.a1 2 22 1 25]) .ret))))
theorem zjU:zj Tryz.prog [59] 58=some (zjT.ac,[(.t 2)],23):=by kernel_rfl
theorem zlc (W0:World) (t:List (List Mark)) (ht:t.length≤1048576) (ht2:∀ l∈t,l.length≤1048576):zy Tryz.prog W0 58 [.c (zJ t)] [] (fun _:Unit=>True) (fun _ => .own 39 t.length) (fun _=>(39,.rowP (zG 7 3 (lmT t)) 25)::je 7 3 34 3 (lmT t)):=by
 refine fW' [] mixed zjU (fun hg=>?_) rfl;have hlm:(lmT t).length=t.length:=by simp [lmT]
 refine dr ?_;refine lq (σ:=Nat) (fun k=>[(0,.c (zJ t)),(3,.own 112 t.length),(4,I k)]) (fun k=>(112,.rowP (qz 7 t k) 25)::je 7 3 34 3 ((lmT t).take k)) (fun k=>k≤t.length) (fun k=>t.length - k) 0 (by simp) ?_ ?_
 ·refine zr.er (zK.s (z:=none) (m2:=[(112,.row (List.replicate t.length (.row [])) 1 25)]) ?_) (by simp [er,XB.er,qz,zG,je]);refine dr ?_;trivial
 intro k hk;have tl:((lmT t).take k).length=k:=by simp; omega
 obtain ⟨T,O,fa⟩:=famP 7 3 34 3 ((lmT t).take k);rw [fa.t];refine dr ?_;apply cP<;>intro h1
 ·have hk':k < t.length:=by omega
  have q:zy Tryz.prog W0 59 [.c (ze t[k])] [] (fun _:Unit=>True) (fun _ => .own 6 t[k].length) (fun _=>[(6,.row (t[k].map zq) 3 34)]):=(zdp W0 _ (ht2 _ (List.getElem_mem hk'))).swp 4 6;refine dr ?_;refine oF (cs:=[ze t[k]]) q rfl ?_ rfl ⟨(),trivial⟩ fun _ _=>⟨rfl,⟨⟨Jw,(js (P:=[_]) rfl).trans (fa.no (.inl (by decide)))⟩,trivial⟩,?_⟩
  ·exact zd (ze0 fun i hi=>by
    show (lkX (_::T) _).isSome=true;rw [zb (by omega),fa.row hi]; rfl) fa.inT
  refine dEr ?_;repeat ((first|refine oB (zmD hk) ?_|refine zbp (zmC hk') ?_); first|refine dEr ?_|exact dz)
  refine ⟨k+1,by omega,by omega,?_⟩;have hN:∀ i < ((lmT t).take k).length,sw 6 (16 * (3+k)+7) (16 * (3+i)+7)=16 * (3+i)+7:=fun i hi=>jF (by omega) (by omega)
  have hNN:sw 6 (16 * (3+k)+7) (16 * (3+k)+7)=6:=by
   unfold sw;have:Nat.beq (16 * (3+k)+7) 6=false:=by
    cases hb:Nat.beq (16 * (3+k)+7) 6 with
    | false=>rfl
    | true=>have:=Nat.eq_of_beq_eq_true hb; omega
   rw [this,Nat.beq_refl]
  have hN6:sw 6 (16 * (3+k)+7) 6=16 * (3+k)+7:=rfl;have hkl:k < (lmT t).length:=by omega
  have tk:(lmT t).take (k+1)=(lmT t).take k++[t[k].map zq]:=by rw [List.take_succ_eq_append_getElem hkl]; simp [lmT]
  refine zr.rn 6 (16 * (3+k)+7) rfl rfl ⟨⟨_,rfl,rfl⟩,⟨_,rfl,rnO (jF (by decide) (by omega))⟩,⟨_,rfl,rfl⟩,trivial⟩
   ⟨⟨_,Zd (jF (by decide) (by omega)) rfl,?_⟩,Js fun i hi=>?_⟩ (fun id h=>by cases h) ?_ rfl
  ·rw [zmE hk'];simp only [yz,List.map_append,List.map_cons];rw [YF fun i hi=>hN i hi];unfold qz;rw [tk,YG,tl,List.append_assoc]
   congr 2
   simp only [List.singleton_append]
   congr 1
   ·show PV.own (sw 6 (16 * (3+k)+7) 6) _=_;rw [hN6];simp
   ·rw [List.map_replicate]; rfl
  ·by_cases hik:i < k
   ·rw [hN i (by omega)];show lkX (_::_::T) _=_;rw [zb (by simp<;>omega),zb (by simp<;>omega),fa.row (by omega)];simp
   ·have hi2:i < k+1:=by simpa [tk,tl] using hi
    have:i=k:=by omega
    subst this;rw [hNN];have e:((lmT t).take (i+1))[i]=t[i].map zq:=by simp [lmT]
    rw [e];rfl
  ·refine zd (ze0 fun i hi=>?_) yo;rw [zb (by omega),qT hi]; rfl
 have hkl:k=t.length:=by omega
 subst hkl;rw [zmB];have tlk:(lmT t).take t.length=lmT t:=by rw [← hlm,List.take_length]
 rw [tlk] at fa;refine dr ?_;have hN:∀ i < (lmT t).length,sw 112 39 (16 * (3+i)+7)=16 * (3+i)+7:=fun i hi=>jF (by omega) (by omega)
 refine ⟨some 3,_,_,?_,(),trivial,rfl,rfl⟩;refine zr.rn 112 39 rfl rfl ⟨⟨_,rfl,rfl⟩,trivial⟩ ⟨⟨_,rfl,congrArg (fun L=>XB.rowP L 25) (YF hN)⟩,Js fun i hi=>?_⟩ (fun id h=>by cases h) ?_ rfl
 ·rw [hN i hi];show lkX (_::T) _=_;rw [zb (by omega),fa.row hi]
 ·exact zd (yy fun i hi=>by rw [zb (by omega),qT hi]; rfl) yo
theorem zlP {o:Over}:lmT o.layers=lmL o:=rfl
theorem zeY {o:Over}:inMX (ovM 7 o)=true:=zd rfl (zd rfl (zd (yy fun i hi=>by unfold ovM; rw [zb (by omega),zb (by omega),zb (by omega),qT hi]; rfl) yo))
def zjV:XC:=(.s (.r [.x1 1 0,.ex 2 (.alloc [.nil,.nil,.nil])]) (.s (.r [.ex 3 (.alloc [.nil,.nil,.nil])]) (.s (.r [.f1 4 0 1,.l1 5 1 4,.o1 6 57 [5],.f1 7 0 3,.s1 1 7 6]) (.cut (.r [.f1 8 1 1,.l1 9 1 8,.o1 10 58 [9],.f1 11 1 3,.s1 1 11 10]) (.s (.r [.f1 12 2 1,.l1 13 1 12,.o1 14 59 [13],.f1 15 2 3,.s1 1 15 14]) (.s (.r [.l2 16 3 3,.s1 3 2 16]) .ret))))))
theorem zjW:zj Tryz.prog [57,58,59] 19=some (zjV.ac,[(.cell 2 true 3)],17):=by kernel_rfl
theorem zaI (W0:World) (o:Over) (h1:o.base.length≤1048576) (h2:o.layers.length≤1048576) (h3:∀ l∈o.layers,l.length≤1048576) (h4:o.upper.length≤1048576) :
  zy Tryz.prog W0 19 [.c (zA o)] [] (fun _:Unit=>True) (fun _=>ovP 7 o) (fun _=>ovM 7 o):=by
 refine fW' [] mixed zjW (fun hg=>?_) rfl;obtain ⟨T,O,fa⟩:=famP 7 3 34 3 (lmL o);have qb:zy Tryz.prog W0 57 [.c (zh o.base)] [] (fun _:Unit=>True) (fun _ => .own 7 o.base.length) (fun _=>[(7,.row (o.base.map zs) 3 77)]):=(zla W0 _ h1).swp 4 7;have qu:zy Tryz.prog W0 59 [.c (ze o.upper)] [] (fun _:Unit=>True) (fun _ => .own 23 o.upper.length) (fun _=>[(23,.row (o.upper.map zq) 3 34)]):=(zdp W0 _ h4).swp 4 23;have ql:=zlc W0 o.layers h2 h3;rw [zlP,fa.t,fa.o] at ql;have hsk:∀ {m:XM} {id:Nat},id % 16≠7→lkX (apX T m) id=lkX m id:=fun h=>fa.skip (.inr h)
 refine dEr ?_;refine oW qb rfl trivial rfl rfl ⟨(),trivial⟩ fun _ _=>⟨rfl,?_⟩
 refine dEr ?_;refine z7 (σ:=Unit) 3 (fun _=>[(1,.ptr 16 0),(2,.ptr 32 0),(3,.ptr 48 0)])
  (fun _=>(16,.box [.c (zh o.base),.c (zJ o.layers),.c (ze o.upper)])::(32,.box [.nil,.nil,.nil])::(48,.box [.own 7 o.base.length,.own 39 o.layers.length,.nil])::(7,.row (o.base.map zs) 3 77)::(39,.rowP O 25)::T) (fun _=>True) ?_ ?_
 ·refine dr ?_;refine oF (cs:=[zJ o.layers]) ql rfl rfl rfl ⟨(),trivial⟩ fun _ _=>⟨rfl,?_,?_⟩
  ·rw [← fa.t,← fa.o];refine ⟨⟨zbL,rfl⟩,zbk zff fun i hi=>?_⟩;show lkX [_,_,_,_] _=none;rw [zb (by simp<;>omega),zb (by simp<;>omega),zb (by simp<;>omega),zb (by simp<;>omega)]; rfl
  have h48:∀ {m:XM},lkX m 48=some (.box [.own 7 o.base.length,.nil,.nil])→lkX (apX ((39,.rowP O 25)::T) m) 48=some (.box [.own 7 o.base.length,.nil,.nil]):=fun h=>(js (P:=[_]) rfl).trans ((hsk (by decide)).trans h)
  refine dEr ?_;refine onI (h48 rfl) ?_;refine dEr ?_;refine ⟨(),trivial,?_⟩;have hup:∀ {m:XM} {b:XB} {id:Nat} {y:XB},id % 16≠7→id≠39→id≠48→lkX m id=some y→lkX (updX (apX ((39,.rowP O 25)::T) m) 48 b) id=some y:=fun h1 h2 h3 h4=>(Y5 h3).trans ((zb h2).trans ((hsk h1).trans h4))
  exact zr.ls ⟨rfl,rfl,rfl,trivial⟩ ⟨hup (by decide) (by decide) (by decide) rfl,hup (by decide) (by decide) (by decide) rfl,zn5 (h48 rfl),(Y5 (by decide)).trans ((zb (by decide)).trans ((fa.skip (.inl (by decide))).trans rfl)),(Y5 (by decide)).trans rfl,fa.mmS fun i hi=>(Y5 (by omega)).trans ((zb (by omega)).trans (fa.fst hi))⟩ (fun id h=>by cases h)
   (zd rfl (zd rfl (zd rfl (zd rfl (zd (fa.inO fun i hi=>by
    rw [zb (by omega),zb (by omega),zb (by omega),zb (by omega),zb (by omega),fa.row hi]; rfl) fa.inT))))) rfl
 intro _ _;refine dr ?_;refine oF (cs:=[ze o.upper]) qu rfl ?_ rfl ⟨(),trivial⟩ fun _ _=>⟨rfl,⟨⟨Jw,(js (P:=[_,_,_,_,_]) rfl).trans (fa.no (id:=23) (.inl (by decide)))⟩,trivial⟩,?_⟩
 ·exact zd rfl (zd rfl (zd rfl (zd rfl (zd (fa.inO fun i hi=>by
   show (lkX (_::_::_::_::_::T) _).isSome=true;rw [zb (by omega),zb (by omega),zb (by omega),zb (by omega),zb (by omega),fa.row hi]; rfl) fa.inT))))
 refine dEr ?_;refine ⟨some 3,_,_,?_,(),trivial,rfl,rfl⟩;refine zr.ls ⟨rfl,trivial⟩ ⟨rfl,rfl,congrArg (fun L=>some (XB.rowP L 25)) fa.o.symm,q9 fun i hi=>?_⟩ (fun id h=>by cases h) zeY rfl;show lkX (_::_::_::_::_::_::T) _=_;rw [zb (by simp<;>omega),zb (by simp<;>omega),zb (by simp<;>omega),zb (by simp<;>omega),zb (by simp<;>omega),zb (by simp<;>omega)];exact fa.row hi
end Go.Proofs.YtmkmldepkponaaaGreatDoor

namespace Go.Proofs.YtmkmldepkponaaaGreatDoor
set_option linter.unusedSimpArgs false
set_option linter.unusedVariables false
open Go Go.RowKit
def digF:Nat→Nat→Str→Str
 | 0,_,out=>out
 | f+1,n,out=>if n=0 then out else digF f (n / 10) (UInt8.ofNat (48+n % 10)::out)
theorem zcN:∀ (f g n:Nat) (out:Str),n < f→n < g→digF f n out=digF g n out
 | 0,_,_,_,h,_=>by omega
 | _+1,0,_,_,_,h=>by omega
 | f+1,g+1,n,out,h1,h2=>by
  unfold digF;by_cases h:n=0
  ·rw [if_pos h,if_pos h]
  ·rw [if_neg h,if_neg h];exact zcN f g _ _ (by omega) (by omega)
theorem zka {n:Nat} {out:Str} (h:n≠0):digF (n+1) n out=digF (n / 10+1) (n / 10) (UInt8.ofNat (48+n % 10)::out):=by
 conv=>lhs; unfold digF
 rw [if_neg h];exact zcN _ _ _ _ (by omega) (by omega)
theorem zkb {out:Str}:digF 1 0 out=out:=rfl
def mT (k:Int):Str:=if k≤0 then [109,48] else 109::digF (k.toNat+1) k.toNat []
def entM (k:Int):Ent:=⟨mT k,(k+1) % 3==0,mT (k+2)⟩
def q7 (k:Int):Mark:=⟨mT k,k+1,mT (k+2)⟩
def mkE (k:Int) (n:Nat):List Ent:=(List.range n).map fun i:Nat=>entM (k+3 * i)
def mkM (k:Int) (n:Nat):List Mark:=(List.range n).map fun i:Nat=>q7 (k+3 * i)
theorem Zj {k:Int} {n:Nat}:(mkE k n).length=n:=by simp [mkE]
theorem yU {k:Int} {n:Nat}:(mkM k n).length=n:=by simp [mkM]
theorem zeC {k:Int} {n i:Nat} (h:i < (mkE k n).length):(mkE k n)[i]=entM (k+3 * i):=by simp [mkE]
theorem zeD {k:Int} {n i:Nat} (h:i < (mkM k n).length):(mkM k n)[i]=q7 (k+3 * i):=by simp [mkM]
def part {α:Type} (a t:List α) (i:Nat):List α:=a.take i++t.drop i
theorem YI {α:Type} {a t:List α} {i:Nat} (h:a.length=t.length) (hi:i≤t.length):(part a t i).length=t.length:=by
 unfold part; simp; omega
theorem zbE {α:Type} {a t:List α}:part a t 0=t:=by simp [part]
theorem YH {α:Type} {a t:List α} (h:a.length=t.length):part a t t.length=a:=by
 unfold part; rw [List.drop_length,List.append_nil,← h,List.take_length]
theorem zbF {α:Type} {a t:List α} {i:Nat} (h:a.length=t.length) (hi:i < t.length):(part a t i)[i]? = some t[i]:=by
 unfold part;rw [List.getElem?_append_right (by simp; omega),List.length_take,Nat.min_eq_left (by omega),Nat.sub_self,List.getElem?_drop,Nat.add_zero];exact List.getElem?_eq_getElem hi
theorem zbG {α:Type} {a t:List α} {i:Nat} (h:a.length=t.length) (hi:i < t.length) (y:α) (hy:y=a[i]):(part a t i).set i y=part a t (i+1):=by
 subst hy;unfold part;rw [List.set_append_right _ _ (by simp; omega),List.length_take,Nat.min_eq_left (by omega),Nat.sub_self,List.drop_eq_getElem_cons hi,List.set_cons_zero,List.take_succ_eq_append_getElem (by omega),List.append_assoc];rfl
def ssK:Int→List (List Mark)→Int
 | k,[]=>k
 | k,l::L=>ssK (k+3 * l.length) L
def ja:Int→List (List Mark)→List (List Mark)
 | _,[]=>[]
 | k,l::L=>mkM k l.length::ja (k+3 * l.length) L
theorem Yz:∀ {L:List (List Mark)} {k:Int},(ja k L).length=L.length
 | [],_=>rfl
 | l::L,k=>by simp [ja,Yz (L:=L)]
theorem zbV:∀ {L:List (List Mark)} {k:Int} {i:Nat} (h:i < L.length),ssK k (L.take (i+1))=ssK k (L.take i)+3 * (L[i].length:Int)
 | [],_,_,h=>by simp at h
 | l::L,k,0,_=>by simp [ssK]
 | l::L,k,i+1,h=>by
  simp only [List.take_succ_cons,ssK];rw [zbV (by simpa using h)];simp
theorem zbg:∀ {L:List (List Mark)} {k:Int} {i:Nat} (h:i < L.length),(ja k L)[i]? = some (mkM (ssK k (L.take i)) L[i].length)
 | [],_,_,h=>by simp at h
 | l::L,k,0,_=>by simp [ja,ssK]
 | l::L,k,i+1,h=>by
  simp only [ja,List.getElem?_cons_succ,List.take_succ_cons,ssK];rw [zbg (by simpa using h)];simp
theorem zfV:∀ {L:List (List Mark)} {k:Int},k≤ssK k L
 | [],k=>Int.le_refl _
 | l::L,k=>Int.le_trans (by omega) (zfV (L:=L) (k:=k+3 * l.length))
def sumL (L:List (List Mark)):Nat:=(L.map List.length).sum
theorem ZT:∀ {L:List (List Mark)} {k:Int},ssK k L=k+3 * (sumL L:Int)
 | [],k=>by simp [ssK,sumL]
 | l::L,k=>by
  rw [ssK,ZT];simp only [sumL,List.map_cons,List.sum_cons];omega
theorem zf1 (L:List (List Mark)) (i:Nat):sumL (L.take i)≤sumL L:=by
 have h:sumL (L.take i++L.drop i)=sumL (L.take i)+sumL (L.drop i):=by
  unfold sumL; rw [List.map_append,List.sum_append]
 rw [List.take_append_drop] at h;omega
def mkO (k:Int) (o:Over):Over:=⟨mkE k o.base.length,ja (k+3 * o.base.length) o.layers,mkM (ssK (k+3 * o.base.length) o.layers) o.upper.length⟩
def mkK (k:Int) (o:Over):Int:=ssK (k+3 * o.base.length) o.layers+3 * o.upper.length
theorem Jr {k:Int} {o:Over}:k≤mkK k o:=by
 have:=@zfV o.layers (k+3 * o.base.length);unfold mkK; omega
end Go.Proofs.YtmkmldepkponaaaGreatDoor

namespace Go.Proofs.YtmkmldepkponaaaGreatDoor
set_option linter.unusedSimpArgs false
set_option linter.unusedVariables false
open Go Go.RowKit
def zia:XC:=(.s (.r [.ex 2 (.mv (.s []))]) (.s (.s (.r [.mv 4 0,.b1 5 .leq 4 (.i 0)]) (.cnd 5 (.s (.r [.ex 2 (.mv (.s [109,48]))]) .ret) .skip)) (.s (.r [.ex 3 (.mv (.s []))]) (.s (.blk 0 (.loop (.s (.s (.r [.mv 6 0,.b1 7 .gtr 6 (.i 0)]) (.ce 7 0)) (.blk 1 (.s (.r [.mv 8 0,.b1 9 .rem 8 (.i 10),.b1 10 .add (.i 48) 9,.ex 11 (.conv .u8 10),.ex 12 (.bsl 1 5 [11]),.ex 13 (.b2s 12),.mv 14 3,.b1 15 .add 13 14,.mv 3 15]) (.r [.mv 16 0,.b1 17 .quo 16 (.i 10),.mv 0 17])))))) (.s (.r [.mv 18 3,.ex 19 (.bin .add (.s [109]) 18),.mv 2 19]) .ret)))))
theorem zib:zj Tryz.prog [] 65=some (zia.ac,[(.t 2)],20):=by kernel_rfl
theorem Ya (W0:World) (k:Int) (hk:k≤1000000000):Fn Tryz.prog W0 65 [CI k] (.c (CS (mT k))) []:=by
 refine fX mixed zib fun hg=>?_
 refine dr ?_;apply cP<;>intro h1
 ·refine dr ?_;rw [mT,if_pos h1]
 refine dr ?_;refine lp2 (fun (n:Nat) (out:Str)=>[(0,.c (CI n)),(3,.c (CS out))]) (fun _ _=>[]) (fun n out=>n+out.length≤1000000000∧digF (n+1) n out=digF (k.toNat+1) k.toNat []) (fun n _=>n) k.toNat [] ⟨by simp; omega,rfl⟩ ?_ ?_
 ·refine dr ?_;repeat (refine oB (by rw [Int.toNat_of_nonneg (by omega)]) ?_; first|refine dr ?_|exact dz)
  trivial
 rintro n out ⟨hn,hd⟩;refine dr ?_;apply cP<;>intro h2
 ·have hch:(48+(n:Int) % 10).toNat=48+n % 10:=by omega
  refine dr ?_;repeat ((first|refine oB ⟨by omega,by decide,by omega⟩ ?_|refine oB (show (1:Nat)≤9223372036854775807 by decide) ?_|refine oB (show 1+out.length≤9223372036854775807 by omega) ?_); first|refine dr ?_|exact dz)
  refine ⟨n / 10,UInt8.ofNat (48+n % 10)::out,⟨by simp; omega,by rw [← zka (by omega)]; exact hd⟩,by omega,?_⟩;refine dr ?_;repeat (refine oB (congrArg (fun c=>PV.c (CS (UInt8.ofNat c::out))) hch) ?_; first|refine dr ?_|exact dz)
  trivial
 ·have:n=0:=by omega
  subst this;rw [zkb] at hd;refine dr ?_;repeat (refine oB (by simp; omega) ?_; first|refine dr ?_|exact dz)
  rw [mT,if_neg (by omega),← hd];rfl
def zh2:XC:=(.s (.r [.m1 4 (.i 0)]) (.s (.s (.r [.m1 5 (.i 0)]) (.blk 0 (.loop (.s (.s (.r [.mv 6 5,.mv 7 0,.n1 8 7,.b1 9 .lss 6 8]) (.ce 9 0)) (.s (.blk 1 (.s (.r [.mv 12 0,.mv 13 5,.mv 14 1,.c1 15 65 [14],.i1 16 3 12 13,.f1 17 0 16,.s1 1 17 15]) (.s (.ic 18 19 1) (.s (.r [.mv 20 0,.mv 21 5,.mv 22 1,.b1 23 .rem 22 (.i 3),.b1 24 .eql 23 (.i 0),.i1 25 3 20 21,.f1 26 1 25,.s1 1 26 24]) (.s (.ic 27 28 1) (.s (.r [.mv 29 0,.mv 30 5,.mv 31 1,.c1 32 65 [31],.i1 33 3 29 30,.f1 34 2 33,.s1 1 34 32]) (.ic 35 36 1))))))) (.ic 10 11 5)))))) (.s (.r [.mv 37 1,.mv 4 37]) .ret)))
theorem zh3:zj Tryz.prog [] 24=some (zh2.ac,[(.t 4)],38):=by kernel_rfl
theorem zkR (W0:World) (t:List Ent) (k:Int) (hk:0≤k∧k≤100000000) (ht:t.length≤1048576):zy Tryz.prog W0 24 [.own 4 t.length,.c (CI k)] [(4,.row (t.map zs) 3 77)] (fun _:Unit=>True) (fun _ => .c (CI (k+3 * t.length))) (fun _=>[(4,.row ((mkE k t.length).map zs) 3 77)]):=by
 refine fW mixed zh3 fun hg=>?_
 have hml:(mkE k t.length).length=t.length:=Zj;refine dr ?_;refine lp (σ:=Nat) (fun i=>[(0,.own 4 t.length),(1,I (k+3 * i)),(5,I i)]) (fun i=>[(4,.row ((part (mkE k t.length) t i).map zs) 3 77)]) (fun i=>i≤t.length) (fun i=>t.length - i) 0 (by simp) ?_ ?_
 ·refine dr ?_;repeat ((first|refine oB (by simp) ?_|refine oB (by rw [zbE]) ?_); first|refine dr ?_|exact dz)
  trivial
 intro i hi;have hpl:=YI hml hi;refine dr ?_;apply cP<;>intro h1
 ·have hi':i < t.length:=by omega
  have hat:=zbF hml hi';have h0:((part (mkE k t.length) t i).map zs)[i]? = some (zs t[i]):=by rw [List.getElem?_map,hat]; rfl
  have hl0:((part (mkE k t.length) t i).map zs).length=t.length:=by simpa using hpl
  have hs:∀ y,(((part (mkE k t.length) t i).map zs).set i y)[i]? = some y:=fun y=>List.getElem?_set_self (by omega)
  have hs2:∀ y z,((((part (mkE k t.length) t i).map zs).set i y).set i z)[i]? = some z:=fun y z=>List.getElem?_set_self (by rw [List.length_set]; omega)
  refine dEr ?_;repeat ((first|refine c0 (Ya W0 _ (by omega)) rfl ?_|refine oB (by first|exact hl0|(simp only [List.length_set]; exact hl0)) ?_|refine aE (j:=i) rfl h0 ?_|refine aE (j:=i) rfl (hs _) ?_|refine aE (j:=i) rfl (hs2 _ _) ?_|refine oB ⟨by omega,by decide,by omega⟩ ?_); first|refine dEr ?_|exact dz)
  have hm:zs (mkE k t.length)[i]=zs (entM (k+3 * i)):=by rw [zeC]
  refine ⟨i+1,by omega,by omega,?_⟩;have hfin:∀ y z x,x=zs (entM (k+3 * i))→(((((part (mkE k t.length) t i).map zs).set i y).set i z).set i x)=(part (mkE k t.length) t (i+1)).map zs:=fun y z x hx=>by
   rw [List.set_set,List.set_set,hx,← hm,← List.map_set,zbG hml hi' _ rfl]
  refine dr ?_;repeat ((first|refine oB (congrArg I (by omega)) ?_|refine oB (congrArg (fun r=>XB.row r 3 77) (hfin _ _ _ (by simp [zs,zq,entM,q7,ym,Int.add_assoc]))) ?_); first|refine dr ?_|exact dz)
  trivial
 ·have:i=t.length:=by omega
  subst this;rw [YH hml];refine dr ?_;refine ⟨none,_,_,?_,(),trivial,rfl,rfl⟩;refine dr ?_;trivial
def zh4:XC:=(.s (.r [.m1 4 (.i 0)]) (.s (.s (.r [.m1 5 (.i 0)]) (.blk 0 (.loop (.s (.s (.r [.mv 6 5,.mv 7 0,.n1 8 7,.b1 9 .lss 6 8]) (.ce 9 0)) (.s (.blk 1 (.s (.r [.mv 12 0,.mv 13 5,.mv 14 1,.c1 15 65 [14],.i1 16 3 12 13,.f1 17 0 16,.s1 1 17 15]) (.s (.ic 18 19 1) (.s (.r [.mv 20 0,.mv 21 5,.mv 22 1,.i1 23 3 20 21,.f1 24 1 23,.s1 1 24 22]) (.s (.ic 25 26 1) (.s (.r [.mv 27 0,.mv 28 5,.mv 29 1,.c1 30 65 [29],.i1 31 3 27 28,.f1 32 2 31,.s1 1 32 30]) (.ic 33 34 1))))))) (.ic 10 11 5)))))) (.s (.r [.mv 35 1,.mv 4 35]) .ret)))
theorem zh7:zj Tryz.prog [] 64=some (zh4.ac,[(.t 4)],36):=by kernel_rfl
theorem zde (W0:World) (t:List Mark) (k:Int) (hk:0≤k∧k≤100000000) (ht:t.length≤1048576):zy Tryz.prog W0 64 [.own 4 t.length,.c (CI k)] [(4,.row (t.map zq) 3 34)] (fun _:Unit=>True) (fun _ => .c (CI (k+3 * t.length))) (fun _=>[(4,.row ((mkM k t.length).map zq) 3 34)]):=by
 refine fW mixed zh7 fun hg=>?_
 have hml:(mkM k t.length).length=t.length:=yU;refine dr ?_;refine lp (σ:=Nat) (fun i=>[(0,.own 4 t.length),(1,I (k+3 * i)),(5,I i)]) (fun i=>[(4,.row ((part (mkM k t.length) t i).map zq) 3 34)]) (fun i=>i≤t.length) (fun i=>t.length - i) 0 (by simp) ?_ ?_
 ·refine dr ?_;repeat ((first|refine oB (by simp) ?_|refine oB (by rw [zbE]) ?_); first|refine dr ?_|exact dz)
  trivial
 intro i hi;have hpl:=YI hml hi;refine dr ?_;apply cP<;>intro h1
 ·have hi':i < t.length:=by omega
  have hat:=zbF hml hi';have h0:((part (mkM k t.length) t i).map zq)[i]? = some (zq t[i]):=by rw [List.getElem?_map,hat]; rfl
  have hl0:((part (mkM k t.length) t i).map zq).length=t.length:=by simpa using hpl
  have hs:∀ y,(((part (mkM k t.length) t i).map zq).set i y)[i]? = some y:=fun y=>List.getElem?_set_self (by omega)
  have hs2:∀ y z,((((part (mkM k t.length) t i).map zq).set i y).set i z)[i]? = some z:=fun y z=>List.getElem?_set_self (by rw [List.length_set]; omega)
  refine dEr ?_;repeat ((first|refine c0 (Ya W0 _ (by omega)) rfl ?_|refine oB (by first|exact hl0|(simp only [List.length_set]; exact hl0)) ?_|refine aE (j:=i) rfl h0 ?_|refine aE (j:=i) rfl (hs _) ?_|refine aE (j:=i) rfl (hs2 _ _) ?_|refine oB ⟨by omega,by decide,by omega⟩ ?_); first|refine dEr ?_|exact dz)
  have hm:zq (mkM k t.length)[i]=zq (q7 (k+3 * i)):=by rw [zeD]
  refine ⟨i+1,by omega,by omega,?_⟩;have hfin:∀ y z x,x=zq (q7 (k+3 * i))→(((((part (mkM k t.length) t i).map zq).set i y).set i z).set i x)=(part (mkM k t.length) t (i+1)).map zq:=fun y z x hx=>by
   rw [List.set_set,List.set_set,hx,← hm,← List.map_set,zbG hml hi' _ rfl]
  refine dr ?_;repeat ((first|refine oB (congrArg I (by omega)) ?_|refine oB (congrArg (fun r=>XB.row r 3 34) (hfin _ _ _ (by simp [zs,zq,entM,q7,ym,Int.add_assoc]))) ?_); first|refine dr ?_|exact dz)
  trivial
 ·have:i=t.length:=by omega
  subst this;rw [YH hml];refine dr ?_;refine ⟨none,_,_,?_,(),trivial,rfl,rfl⟩;refine dr ?_;trivial
end Go.Proofs.YtmkmldepkponaaaGreatDoor

namespace Go.Proofs.YtmkmldepkponaaaGreatDoor
set_option linter.unusedSimpArgs false
set_option linter.unusedVariables false
open Go Go.RowKit
theorem ksn {a b:Str} {A B:Prop} (h:a=b) (k:B):cndX (!eqS a b) A B:=by rw [zau.2 h]; exact k
theorem kbn {a b:Bool} {A B:Prop} (h:a=b) (k:B):cndX (!eqB a b) A B:=by rw [QZ.2 h]; exact k
theorem kin {a b:Int} {A B:Prop} (h:a=b) (k:B):cndX (!eqI a b) A B:=by rw [Q0.2 h]; exact k
theorem klf {a b:Int} {A B:Prop} (h:b≤a) (k:B):cndX (ltI a b) A B:=by rw [za7.2 h]; exact k
def zhU:XC:=(.s (.r [.m1 4 (.i 0)]) (.s (.s (.r [.m1 5 (.i 0)]) (.blk 0 (.loop (.s (.s (.r [.mv 6 5,.mv 7 0,.n1 8 7,.b1 9 .lss 6 8]) (.ce 9 0)) (.s (.blk 1 (.s (.s (.d [.mv 12 0,.mv 13 5,.i1 14 3 12 13,.f1 15 0 14,.l1 16 1 15,.mv 17 1,.c1 18 65 [17],.b1 19 .neq 16 18]) (.cnd 19 (.s (.r [.ex 4 (.mv (.k (.c (.sc (.int .i64 (.negSucc 0))))))]) .ret) .skip)) (.s (.ic 20 21 1) (.s (.s (.r [.mv 22 0,.mv 23 5,.i1 24 3 22 23,.f1 25 1 24,.l1 26 1 25,.mv 27 1,.b1 28 .rem 27 (.i 3),.b1 29 .eql 28 (.i 0),.ex 30 (.bb true 26 29)]) (.cnd 30 (.s (.r [.ex 4 (.mv (.k (.c (.sc (.int .i64 (.negSucc 0))))))]) .ret) .skip)) (.s (.ic 31 32 1) (.s (.s (.d [.mv 33 0,.mv 34 5,.i1 35 3 33 34,.f1 36 2 35,.l1 37 1 36,.mv 38 1,.c1 39 65 [38],.b1 40 .neq 37 39]) (.cnd 40 (.s (.r [.ex 4 (.mv (.k (.c (.sc (.int .i64 (.negSucc 0))))))]) .ret) .skip)) (.ic 41 42 1))))))) (.ic 10 11 5)))))) (.s (.r [.mv 43 1,.mv 4 43]) .ret)))
theorem zhV:zj Tryz.prog [] 25=some (zhU.ac,[(.t 4)],44):=by kernel_rfl
theorem zky (W0:World) (k:Int) (n:Nat) (hk:0≤k∧k≤100000000) (hn:n≤1048576):Fn Tryz.prog W0 25 [zh (mkE k n),CI k] (.c (CI (k+3 * n))) []:=by
 refine fX mixed zhV fun hg=>?_
 have hml:(mkE k n).length=n:=Zj;refine dr ?_;refine lp (σ:=Nat) (fun i=>[(0,.c (zh (mkE k n))),(1,I (k+3 * i)),(5,I i)]) (fun _=>[]) (fun i=>i≤n) (fun i=>n - i) 0 (by simp) ?_ ?_
 ·refine dr ?_;repeat (refine oB (congrArg I (by simp)) ?_; first|refine dr ?_|exact dz)
  trivial
 intro i hi;refine dr ?_;apply cP<;>intro h1
 ·have hi':i < (mkE k n).length:=by omega
  have e1:(mkE k n)[i]=entM (k+3 * i):=zeC hi';refine dEr ?_;repeat ((first|refine c0 (Ya W0 _ (by omega)) rfl ?_|refine aM (j:=i) rfl hi' ?_|refine ksn (by rw [e1]; simp [entM,q7,Int.add_assoc]) ?_|refine kbn (by rw [e1]; simp [entM,ym]) ?_|refine kin (by rw [e1]; simp [q7]) ?_|refine oB ⟨by omega,by decide,by omega⟩ ?_); first|refine dEr ?_|exact dz)
  refine ⟨i+1,by omega,by omega,?_⟩;refine dr ?_;repeat (refine oB (congrArg I (by omega)) ?_; first|refine dr ?_|exact dz)
  trivial
 ·have h1:((mkE k n).length:Int)≤i:=h1;have:i=n:=by omega
  subst this;exact dz
def zhW:XC:=(.s (.r [.m1 4 (.i 0)]) (.s (.s (.r [.m1 5 (.i 0)]) (.blk 0 (.loop (.s (.s (.r [.mv 6 5,.mv 7 0,.n1 8 7,.b1 9 .lss 6 8]) (.ce 9 0)) (.s (.blk 1 (.s (.s (.d [.mv 12 0,.mv 13 5,.i1 14 3 12 13,.f1 15 0 14,.l1 16 1 15,.mv 17 1,.c1 18 65 [17],.b1 19 .neq 16 18]) (.cnd 19 (.s (.r [.ex 4 (.mv (.k (.c (.sc (.int .i64 (.negSucc 0))))))]) .ret) .skip)) (.s (.ic 20 21 1) (.s (.s (.r [.mv 22 0,.mv 23 5,.i1 24 3 22 23,.f1 25 1 24,.l1 26 1 25,.mv 27 1,.b1 28 .neq 26 27]) (.cnd 28 (.s (.r [.ex 4 (.mv (.k (.c (.sc (.int .i64 (.negSucc 0))))))]) .ret) .skip)) (.s (.ic 29 30 1) (.s (.s (.d [.mv 31 0,.mv 32 5,.i1 33 3 31 32,.f1 34 2 33,.l1 35 1 34,.mv 36 1,.c1 37 65 [36],.b1 38 .neq 35 37]) (.cnd 38 (.s (.r [.ex 4 (.mv (.k (.c (.sc (.int .i64 (.negSucc 0))))))]) .ret) .skip)) (.ic 39 40 1))))))) (.ic 10 11 5)))))) (.s (.r [.mv 41 1,.mv 4 41]) .ret)))
theorem zhZ:zj Tryz.prog [] 69=some (zhW.ac,[(.t 4)],42):=by kernel_rfl
theorem zc2 (W0:World) (k:Int) (n:Nat) (hk:0≤k∧k≤100000000) (hn:n≤1048576):Fn Tryz.prog W0 69 [ze (mkM k n),CI k] (.c (CI (k+3 * n))) []:=by
 refine fX mixed zhZ fun hg=>?_
 have hml:(mkM k n).length=n:=yU;refine dr ?_;refine lp (σ:=Nat) (fun i=>[(0,.c (ze (mkM k n))),(1,I (k+3 * i)),(5,I i)]) (fun _=>[]) (fun i=>i≤n) (fun i=>n - i) 0 (by simp) ?_ ?_
 ·refine dr ?_;repeat (refine oB (congrArg I (by simp)) ?_; first|refine dr ?_|exact dz)
  trivial
 intro i hi;refine dr ?_;apply cP<;>intro h1
 ·have hi':i < (mkM k n).length:=by omega
  have e1:(mkM k n)[i]=q7 (k+3 * i):=zeD hi';refine dEr ?_;repeat ((first|refine c0 (Ya W0 _ (by omega)) rfl ?_|refine aM (j:=i) rfl hi' ?_|refine ksn (by rw [e1]; simp [entM,q7,Int.add_assoc]) ?_|refine kbn (by rw [e1]; simp [entM,ym]) ?_|refine kin (by rw [e1]; simp [q7]) ?_|refine oB ⟨by omega,by decide,by omega⟩ ?_); first|refine dEr ?_|exact dz)
  refine ⟨i+1,by omega,by omega,?_⟩;refine dr ?_;repeat (refine oB (congrArg I (by omega)) ?_; first|refine dr ?_|exact dz)
  trivial
 ·have h1:((mkM k n).length:Int)≤i:=h1;have:i=n:=by omega
  subst this;exact dz
theorem zbh:∀ {t:List (List Mark)} {k:Int},(ja k t).map List.length=t.map List.length
 | [],_=>rfl
 | l::t,k=>by simp [ja,yU,zbh (t:=t)]
theorem zep {t t':List (List Mark)} (h:t'.map List.length=t.map List.length):(lmT t').map List.length=(lmT t).map List.length:=by
 simpa [lmT,List.map_map,Function.comp_def] using h
theorem ze3 {t:List (List Mark)} {k:Int} {i:Nat}:(part (ja k t) t i).map List.length=t.map List.length:=by
 unfold part;rw [List.map_append,List.map_take,List.map_drop,zbh,List.take_append_drop]
def zh5:XC:=(.s (.r [.m1 4 (.i 0)]) (.s (.s (.r [.m1 5 (.i 0)]) (.blk 0 (.loop (.s (.s (.r [.mv 6 5,.mv 7 0,.n1 8 7,.b1 9 .lss 6 8]) (.ce 9 0)) (.s (.blk 1 (.r [.mv 12 0,.mv 13 5,.i1 14 1 12 13,.l1 15 1 14,.mv 16 1,.o1 17 64 [15,16],.mv 1 17])) (.ic 10 11 5)))))) (.s (.r [.mv 18 1,.mv 4 18]) .ret)))
theorem zh6:zj Tryz.prog [64] 63=some (zh5.ac,[(.t 4)],19):=by kernel_rfl
theorem zkT (W0:World) (t:List (List Mark)) (k:Int) (hk:0≤k∧k+3 * sumL t≤100000000) (ht:∀ l∈t,l.length≤1048576) (htl:t.length≤1048576) :
  zy Tryz.prog W0 63 [.own 39 t.length,.c (CI k)] ((39,.rowP (zG 7 3 (lmT t)) 25)::je 7 3 34 3 (lmT t)) (fun _:Unit=>True) (fun _ => .c (CI (ssK k t))) (fun _=>(39,.rowP (zG 7 3 (lmT t)) 25)::je 7 3 34 3 (lmT (ja k t))):=by
 refine fW' _ mixed zh6 (fun hg=>?_) rfl;have hml:(ja k t).length=t.length:=Yz;have hlm:∀ u:List (List Mark),(lmT u).length=u.length:=fun u=>by simp [lmT]
 have hO:∀ i,zG 7 3 (lmT (part (ja k t) t i))=zG 7 3 (lmT t):=fun i=>zbD (zep ze3)
 have hk0:∀ i id,(((39,XB.rowP (zG 7 3 (lmT t)) 25)::je 7 3 34 3 (lmT t)).map (·.1)).contains id=true→(lkX ((39,XB.rowP (zG 7 3 (lmT t)) 25)::je 7 3 34 3 (lmT (part (ja k t) t i))) id).isSome=true:=fun i id h=>by
  have:=zbj h;rw [lkX] at this ⊢;cases hb:Nat.beq id 39 with
  | true=>rfl
  | false =>
   rw [hb] at this;rw [Yb (L':=lmT t) (by
    have:=congrArg List.length (ze3 (t:=t) (k:=k) (i:=i))
    simpa [lmT] using this)]
   exact this
 generalize hkk:(((39,XB.rowP (zG 7 3 (lmT t)) 25)::je 7 3 34 3 (lmT t)).map (·.1))=kk at *;have hin:∀ i,inMX ((39,XB.rowP (zG 7 3 (lmT t)) 25)::je 7 3 34 3 (lmT (part (ja k t) t i)))=true:=fun i=>zd (by
  rw [← hO i];exact yy fun j hj=>by rw [zb (by omega),qT hj]; rfl) yo
 refine dr ?_;refine lq (σ:=Nat) (fun i=>[(0,.own 39 t.length),(1,I (ssK k (t.take i))),(5,I i)]) (fun i=>(39,.rowP (zG 7 3 (lmT t)) 25)::je 7 3 34 3 (lmT (part (ja k t) t i))) (fun i=>i≤t.length) (fun i=>t.length - i) 0 (by simp) ?_ ?_
 ·refine zr.ls ⟨rfl,rfl,rfl,trivial⟩ ⟨rfl,?_⟩ (hk0 0) (hin 0) rfl;rw [zbE];exact q9 fun i hi=>by
   show lkX (_::je 7 3 _ 3 _) _=_;rw [zb (by omega),qT hi]
 intro i hi;obtain ⟨T,O,fa⟩:=famP 7 3 34 3 (lmT (part (ja k t) t i));have hOi:=fa.o;rw [hO i] at hOi;rw [fa.t,hOi];refine dr ?_;apply cP<;>intro h1
 ·have hi':i < t.length:=by omega
  have hpl:(part (ja k t) t i).length=t.length:=YI hml hi;have hlt:=ht _ (List.getElem_mem hi');have hss:=ZT (L:=t.take i) (k:=k);have hsu:=zf1 t i;have hat:(lmT (part (ja k t) t i))[i]'(by rw [hlm]; omega)=t[i].map zq:=by
   have:=zbF hml hi';have h2:(lmT (part (ja k t) t i))[i]? = some (t[i].map zq):=by simp [lmT,this]
   rw [List.getElem?_eq_getElem (by rw [hlm]; omega)] at h2;exact Option.some.inj h2
  have hget:O[i]? = some (.own (16 * (3+i)+7) t[i].length):=by
   rw [fa.get (by rw [hlm]; omega),hat]; simp
  have q:zy Tryz.prog W0 64 [.own (16 * (3+i)+7) t[i].length,.c (CI (ssK k (t.take i)))] [(16 * (3+i)+7,.row (t[i].map zq) 3 34)] (fun _:Unit=>True) (fun _ => .c (CI (ssK k (t.take i)+3 * t[i].length))) (fun _=>[(16 * (3+i)+7,.row ((mkM (ssK k (t.take i)) t[i].length).map zq) 3 34)]) :=
   (zde W0 t[i] (ssK k (t.take i)) ⟨by omega,by omega⟩ hlt).swp 4 (16 * (3+i)+7)
  refine dr ?_;repeat ((first|refine oB (fa.len.trans (by rw [hlm]; exact hpl)) ?_|refine zbp hget ?_); first|refine dr ?_|exact dz)
  refine oW' q (fun id b hb=>?_) rfl (by simp [inPX,inAX,in1X,lkX]) ⟨(),trivial⟩ fun _ _=>⟨fun id h => .inl ?_,?_⟩
  ·have hm:=j0 hb;simp only [List.mem_singleton,Prod.mk.injEq] at hm;obtain ⟨rfl,rfl⟩:=hm;show lkX (_::T) _=_;rw [zb (by omega),fa.row (by rw [hlm]; omega),hat]
  ·rw [lkX] at h ⊢;cases hb:Nat.beq id (16 * (3+i)+7) with
   | true=>rfl
   | false=>rw [hb] at h; exact h
  have hne:∀ {m:XM} {b:XB} {id:Nat},id≠16 * (3+i)+7→lkX (ji m [(16 * (3+i)+7,b)]) id=lkX m id:=fun h=>by rw [jU,zb h]; rfl
  have heq:∀ {m:XM} {b:XB},lkX (ji m [(16 * (3+i)+7,b)]) (16 * (3+i)+7)=some b:=fun {m b}=>by rw [jU,lkX,Nat.beq_refl]
  have hsi:=zbV (k:=k) hi';have hpl2:(part (ja k t) t (i+1)).length=t.length:=YI hml (by omega);refine dEr ?_;refine ⟨i+1,by omega,by omega,?_⟩;rw [← hOi];refine zr.ls ⟨rfl,congrArg (fun n=>some (I n)) hsi.symm,rfl,trivial⟩ ⟨(hne (by omega)).trans rfl,q9 fun j hj=>?_⟩ (hk0 (i+1)) (hin (i+1)) rfl;have hj':j < t.length:=by rw [hlm,hpl2] at hj; exact hj
  have hmi:(ja k t)[i]? = some (mkM (ssK k (t.take i)) t[i].length):=zbg hi';have hset:=zbG hml hi' _ (rfl:(ja k t)[i]'(by omega)=_);by_cases e:j=i
  ·subst e;refine heq.trans ?_;have h2:(lmT (part (ja k t) t (j+1)))[j]? = some ((mkM (ssK k (t.take j)) t[j].length).map zq):=by
    rw [← hset];simp only [lmT,List.getElem?_map,List.getElem?_set_self (show j < (part (ja k t) t j).length by omega)];rw [List.getElem?_eq_getElem (by omega)] at hmi;rw [Option.some.inj hmi]; rfl
   rw [List.getElem?_eq_getElem hj] at h2;rw [Option.some.inj h2]
  ·refine (hne (by omega)).trans ?_;show lkX (_::T) _=_;rw [zb (by omega),fa.row (by rw [hlm]; omega)];have h2:(lmT (part (ja k t) t (i+1)))[j]? = (lmT (part (ja k t) t i))[j]? := by
    rw [← hset];simp only [lmT,List.getElem?_map,List.getElem?_set_ne (Ne.symm e)]
   rw [List.getElem?_eq_getElem hj,List.getElem?_eq_getElem (by rw [hlm]; omega)] at h2;rw [Option.some.inj h2]
 ·have:i=t.length:=by omega
  subst this;rw [YH hml] at fa;rw [List.take_length];refine dr ?_;refine ⟨some 3,_,_,?_,(),trivial,rfl,rfl⟩;have hk1:=hk0 t.length;have hin1:=hin t.length;rw [YH hml] at hk1 hin1;rw [← hOi];exact zr.ls ⟨rfl,trivial⟩ ⟨rfl,q9 fun j hj=>by
   show lkX (_::T) _=_;rw [zb (by omega),fa.row hj]⟩ hk1 hin1 rfl
end Go.Proofs.YtmkmldepkponaaaGreatDoor

namespace Go.Proofs.YtmkmldepkponaaaGreatDoor
set_option linter.unusedSimpArgs false
set_option linter.unusedVariables false
open Go Go.RowKit
theorem Zp {c:Nat} {o:Over} {id:Nat} (h:id % 16≠c % 16):lkX (ovM c o) id=none:=by
 unfold ovM;rw [zb (by rintro rfl; exact h rfl),zb (by rintro rfl; omega),zb (by rintro rfl; omega)];exact zaJ (.inr h)
theorem yx {c:Nat} {o o':Over} {id:Nat} (hl:o.layers.length=o'.layers.length):(lkX (ovM c o) id).isSome=(lkX (ovM c o') id).isSome:=by
 unfold ovM;simp only [lkX];cases Nat.beq id c<;>simp only
 ·cases Nat.beq id (16+c)<;>simp only
  ·cases Nat.beq id (32+c)<;>simp only
   ·exact Yb (by simp [lmL,hl])
   ·rfl
  ·rfl
 ·rfl
theorem zl7 {o:Over} {k:Int}:(mkO k o).layers.map List.length=o.layers.map List.length:=zbh
theorem j1 {o:Over} {k:Int}:(mkO k o).layers.length=o.layers.length:=Yz
def zhX:XC:=(.s (.r [.m1 4 (.i 0)]) (.s (.s (.r [.m1 5 (.i 0)]) (.blk 0 (.loop (.s (.s (.r [.mv 6 5,.mv 7 0,.n1 8 7,.b1 9 .lss 6 8]) (.ce 9 0)) (.s (.blk 1 (.s (.r [.mv 12 0,.mv 13 5,.i1 14 1 12 13,.l1 15 1 14,.mv 16 1,.c1 17 69 [15,16],.mv 1 17]) (.s (.r [.mv 18 1,.b1 19 .lss 18 (.i 0)]) (.cnd 19 (.s (.r [.ex 4 (.mv (.k (.c (.sc (.int .i64 (.negSucc 0))))))]) .ret) .skip)))) (.ic 10 11 5)))))) (.s (.r [.mv 20 1,.mv 4 20]) .ret)))
theorem zhY:zj Tryz.prog [] 68=some (zhX.ac,[(.t 4)],21):=by kernel_rfl
theorem zkz (W0:World) (k:Int) (t:List (List Mark)) (hk:0≤k∧k+3 * sumL t≤100000000) (ht:∀ l∈t,l.length≤1048576) (htl:t.length≤1048576):Fn Tryz.prog W0 68 [zJ (ja k t),CI k] (.c (CI (ssK k t))) []:=by
 refine fX mixed zhY fun hg=>?_
 have hml:(ja k t).length=t.length:=Yz;refine dr ?_;refine lp (σ:=Nat) (fun i=>[(0,.c (zJ (ja k t))),(1,I (ssK k (t.take i))),(5,I i)]) (fun _=>[]) (fun i=>i≤t.length) (fun i=>t.length - i) 0 (by simp) ?_ ?_
 ·refine dr ?_;trivial
 intro i hi;refine dr ?_;apply cP<;>intro h1
 ·have hi':i < t.length:=by omega
  have hlt:=ht _ (List.getElem_mem hi');have hss:=ZT (L:=t.take i) (k:=k);have hsu:=zf1 t i;have hmi:(ja k t)[i]'(by omega)=mkM (ssK k (t.take i)) t[i].length:=by
   have:=zbg (k:=k) hi';rw [List.getElem?_eq_getElem (by omega)] at this;exact Option.some.inj this
  have hsi:=zbV (k:=k) hi';have q:=zc2 W0 (ssK k (t.take i)) t[i].length ⟨by omega,by omega⟩ hlt;rw [← hmi] at q;refine dEr ?_;repeat ((first|refine aM (j:=i) rfl (show i < (ja k t).length by omega) ?_|refine c0 q rfl ?_); first|refine dEr ?_|exact dz)
  refine klf (by omega) ?_;refine dr ?_;refine ⟨i+1,by omega,by omega,?_⟩;refine dr ?_;repeat (refine oB (congrArg I hsi.symm) ?_; first|refine dr ?_|exact dz)
  trivial
 ·have h1:((ja k t).length:Int)≤i:=h1;have:i=t.length:=by omega
  subst this;rw [List.take_length];exact dz
def zh0:XC:=(.s (.r [.x1 2 0,.m1 4 (.i 0)]) (.s (.r [.f1 5 0 2,.l1 6 1 5,.mv 7 1,.c1 8 25 [6,7],.mv 1 8]) (.s (.s (.r [.mv 9 1,.b1 10 .lss 9 (.i 0)]) (.cnd 10 (.s (.r [.ex 4 (.mv (.k (.c (.sc (.int .i64 (.negSucc 0))))))]) .ret) .skip)) (.s (.r [.f1 11 1 2,.l1 12 1 11,.mv 13 1,.c1 14 68 [12,13],.mv 1 14]) (.s (.s (.r [.mv 15 1,.b1 16 .lss 15 (.i 0)]) (.cnd 16 (.s (.r [.ex 4 (.mv (.k (.c (.sc (.int .i64 (.negSucc 0))))))]) .ret) .skip)) (.s (.r [.f1 17 2 2,.l1 18 1 17,.mv 19 1,.c1 20 69 [18,19],.mv 1 20]) (.s (.s (.r [.mv 21 1,.b1 22 .lss 21 (.i 0)]) (.cnd 22 (.s (.r [.ex 4 (.mv (.k (.c (.sc (.int .i64 (.negSucc 0))))))]) .ret) .skip)) (.s (.r [.mv 23 1,.mv 4 23]) .ret))))))))
theorem zh1:zj Tryz.prog [] 30=some (zh0.ac,[(.t 4)],24):=by kernel_rfl
theorem Q1 (W0:World) (k:Int) (o:Over) (hk:0≤k∧mkK k o≤100000000) (h1:o.base.length≤1048576) (h2:o.layers.length≤1048576) (h3:∀ l∈o.layers,l.length≤1048576) (h4:o.upper.length≤1048576):Fn Tryz.prog W0 30 [zA (mkO k o),CI k] (.c (CI (mkK k o))) []:=by
 refine fX mixed zh1 fun hg=>?_
 have e1:=@ZT o.layers (k+3 * o.base.length);have hK:mkK k o=ssK (k+3 * o.base.length) o.layers+3 * o.upper.length:=rfl;have q1:Fn Tryz.prog W0 25 [zh (mkO k o).base,CI k] (.c (CI (k+3 * o.base.length))) []:=zky W0 k o.base.length ⟨by omega,by omega⟩ h1;have q2:Fn Tryz.prog W0 68 [zJ (mkO k o).layers,CI (k+3 * o.base.length)] (.c (CI (ssK (k+3 * o.base.length) o.layers))) []:=zkz W0 (k+3 * o.base.length) o.layers ⟨by omega,by omega⟩ h3 h2;have q3:Fn Tryz.prog W0 69 [ze (mkO k o).upper,CI (ssK (k+3 * o.base.length) o.layers)] (.c (CI (ssK (k+3 * o.base.length) o.layers+3 * o.upper.length))) []:=zc2 W0 _ o.upper.length ⟨by omega,by omega⟩ h4;refine dEr ?_;repeat ((first|refine c0 q1 rfl ?_|refine klf (by omega) ?_|refine c0 q2 rfl ?_|refine c0 q3 rfl ?_); first|refine dEr ?_|exact dz)
 try rfl
def zh8:XC:=(.s (.r [.x1 2 0,.m1 4 (.i 0)]) (.s (.r [.f1 5 0 2,.l1 6 1 5,.mv 7 1,.o1 8 24 [6,7],.mv 1 8]) (.cut (.r [.f1 9 1 2,.l1 10 1 9,.mv 11 1,.o1 12 63 [10,11],.mv 1 12]) (.s (.r [.f1 13 2 2,.l1 14 1 13,.mv 15 1,.o1 16 64 [14,15],.mv 1 16]) (.s (.r [.mv 17 1,.mv 4 17]) .ret)))))
theorem zh9:zj Tryz.prog [24,63,64] 23=some (zh8.ac,[(.t 4)],18):=by kernel_rfl
theorem Q9 (W0:World) (k:Int) (o:Over) (hk:0≤k∧mkK k o≤100000000) (h1:o.base.length≤1048576) (h2:o.layers.length≤1048576) (h3:∀ l∈o.layers,l.length≤1048576) (h4:o.upper.length≤1048576) :
  zy Tryz.prog W0 23 [ovP 7 o,.c (CI k)] (ovM 7 o) (fun _:Unit=>True) (fun _ => .c (CI (mkK k o))) (fun _=>ovM 7 (mkO k o)):=by
 refine fW' _ mixed zh9 (fun hg=>?_) rfl;have e1:=@ZT o.layers (k+3 * o.base.length);have hK:mkK k o=ssK (k+3 * o.base.length) o.layers+3 * o.upper.length:=rfl;have hOO:zG 7 3 (lmL (mkO k o))=zG 7 3 (lmL o):=zbD (zep zl7);have hk0:∀ id,((ovM 7 o).map (·.1)).contains id=true→(lkX (ovM 7 (mkO k o)) id).isSome=true:=fun id h=>by
  rw [yx (o':=o) j1]; exact zbj h
 generalize hkk:(ovM 7 o).map (·.1)=kk at *;have q1:zy Tryz.prog W0 24 [.own 7 o.base.length,.c (CI k)] [(7,.row (o.base.map zs) 3 77)] (fun _:Unit=>True) (fun _ => .c (CI (k+3 * o.base.length))) (fun _=>[(7,.row ((mkE k o.base.length).map zs) 3 77)]):=(zkR W0 o.base k ⟨by omega,by omega⟩ h1).swp 4 7;have q2:=zkT W0 o.layers (k+3 * o.base.length) ⟨by omega,by omega⟩ h3 h2;have q3:zy Tryz.prog W0 64 [.own 23 o.upper.length,.c (CI (ssK (k+3 * o.base.length) o.layers))] [(23,.row (o.upper.map zq) 3 34)] (fun _:Unit=>True) (fun _ => .c (CI (ssK (k+3 * o.base.length) o.layers+3 * o.upper.length))) (fun _=>[(23,.row ((mkM (ssK (k+3 * o.base.length) o.layers) o.upper.length).map zq) 3 34)]):=(zde W0 o.upper _ ⟨by omega,by omega⟩ h4).swp 4 23;obtain ⟨T,O,fa⟩:=famP 7 3 34 3 (lmL o);obtain ⟨T',O',fa'⟩:=famP 7 3 34 3 (lmL (mkO k o));have hO':O'=O:=by rw [← fa.o,← fa'.o]; exact hOO
 subst hO';have ovT:ovM 7 o=(7,.row (o.base.map zs) 3 77)::(23,.row (o.upper.map zq) 3 34)::(39,.rowP O' 25)::T:=by unfold ovM; rw [fa.t,fa.o]
 have q2:zy Tryz.prog W0 63 [.own 39 o.layers.length,.c (CI (k+3 * o.base.length))] ((39,.rowP O' 25)::T) (fun _:Unit=>True) (fun _ => .c (CI (ssK (k+3 * o.base.length) o.layers))) (fun _=>(39,.rowP O' 25)::T'):=by
  rw [← fa.t,← fa'.t,← fa.o]; exact q2
 rw [ovT];refine dEr ?_;repeat (refine fT (frX1 ((js (P:=[_,_,_]) rfl).trans (fa.no (id:=32) (.inr (by decide))))) ?_; first|refine dEr ?_|exact dz)
 refine oW q1 rfl ⟨rfl,trivial⟩ rfl rfl ⟨(),trivial⟩ fun _ _=>⟨rfl,?_⟩
 refine dEr ?_;refine z7 (σ:=Unit) 3 (fun _=>[(1,I (ssK (k+3 * o.base.length) o.layers)),(2,.ptr 32 0)])
  (fun _=>(32,.box [.own 7 o.base.length,.own 39 o.layers.length,.own 23 o.upper.length])::(7,.row ((mkE k o.base.length).map zs) 3 77)::(23,.row (o.upper.map zq) 3 34)::(39,.rowP O' 25)::T') (fun _=>True) ?_ ?_
 ·refine dr ?_;refine oW' q2 (fun id b hb=>qL (l:=(39,.rowP O' 25)::T) ⟨rfl,fa.mmS fun i hi=>?_⟩ _ (j0 hb)) ?_ rfl ⟨(),trivial⟩ fun _ _=>⟨fun id h => .inl ?_,?_⟩
  ·show lkX (_::_::_::_::T) _=_;rw [zb (by simp<;>omega),zb (by omega),zb (by omega),zb (by omega),fa.row hi]
  ·exact zd (fa.inO fun i hi=>by rw [zb (by omega),fa.row hi]; rfl) fa.inT
  ·rw [lkX,← fa'.t] at h;rw [lkX,← fa.t];cases hb:Nat.beq id 39 with
   | true=>rfl
   | false =>
    rw [hb] at h;simp only at h ⊢;rw [Yb (L':=lmL (mkO k o)) (by simp [lmL,j1])];exact h
  have hmg:∀ {m:XM} {id:Nat},id < 39→lkX (ji m ((39,.rowP O' 25)::T')) id=lkX m id:=fun h=>by rw [jU,zb (by omega),fa'.no (.inl (by omega))]
  have hm39:∀ {m:XM},lkX (ji m ((39,.rowP O' 25)::T')) 39=some (.rowP O' 25):=fun {m}=>by rw [jU]; rfl
  have hmT:∀ {m:XM} i (hi:i < (lmL (mkO k o)).length),lkX (ji m ((39,.rowP O' 25)::T')) (16 * (3+i)+7)=some (.row (lmL (mkO k o))[i] 3 34):=fun i hi=>by rw [jU,zb (by omega),fa'.row hi]
  refine dEr ?_;refine ⟨(),trivial,?_⟩;exact zr.ls ⟨rfl,rfl,trivial⟩ ⟨(hmg (by decide)).trans rfl,(hmg (by decide)).trans rfl,(hmg (by decide)).trans rfl,hm39,fa'.mmS hmT⟩ (fun id h=>by
    have:=hk0 id h;rw [show ovM 7 (mkO k o)=(7,.row ((mkO k o).base.map zs) 3 77)::(23,.row ((mkO k o).upper.map zq) 3 34)::(39,.rowP O' 25)::T' by unfold ovM; rw [fa'.t,fa'.o]] at this;simp only [lkX] at this ⊢;cases h0:Nat.beq id 32<;>cases h7:Nat.beq id 7<;>cases h23:Nat.beq id 23<;>cases h39:Nat.beq id 39<;>simp_all) (zd rfl (zd rfl (zd rfl (zd (fa'.inO fun i hi=>by
    rw [zb (by omega),zb (by omega),zb (by omega),zb (by omega),fa'.row hi]; rfl) fa'.inT)))) rfl
 intro _ _;refine dr ?_;refine oW q3 rfl ⟨rfl,trivial⟩ rfl rfl ⟨(),trivial⟩ fun _ _=>⟨rfl,?_⟩
 refine dEr ?_;refine ⟨some 3,_,_,?_,(),trivial,rfl,rfl⟩;refine zr.ls ⟨rfl,trivial⟩ ⟨rfl,rfl,congrArg (fun L=>some (XB.rowP L 25)) fa'.o.symm,q9 fun i hi=>?_⟩ hk0 zeY rfl;show lkX (_::_::_::_::T') _=_;rw [zb (by simp<;>omega),zb (by simp<;>omega),zb (by simp<;>omega),zb (by simp<;>omega)];exact fa'.row hi
end Go.Proofs.YtmkmldepkponaaaGreatDoor

namespace Go.Proofs.YtmkmldepkponaaaGreatDoor
set_option linter.unusedSimpArgs false
set_option linter.unusedVariables false
open Go Go.RowKit
def s79 (i:Nat):Nat:=if i % 16=7 then i+2 else if i % 16=9 then i - 2 else i
theorem zm6 (i:Nat):s79 (s79 i)=i:=by
 unfold s79;split
 ·rw [if_neg (by omega),if_pos (by omega)]; omega
 split
 ·rw [if_pos (by omega)]; omega
 rfl
theorem zfm (k:Nat):s79 (16 * k+7)=16 * k+9:=by unfold s79; rw [if_pos (by omega)]
theorem owns79:∀ {k:Nat} {L:List (List CV)},(zG 7 k L).map (renA s79)=zG 9 k L
 | _,[]=>rfl
 | k,C::L=>by
  rw [zG,zG,List.map_cons,owns79 (k:=k+1)];show PV.own (s79 (16 * k+7)) _::_=_;rw [zfm]
theorem fam79 {sz:Nat} {e:TypeId}:∀ {k:Nat} {L:List (List CV)},renX s79 (je 7 sz e k L)=je 9 sz e k L
 | _,[]=>rfl
 | k,C::L=>by
  rw [je,je,renX,fam79 (k:=k+1),zfm];rfl
theorem ovM79 {o:Over}:renX s79 (ovM 7 o)=ovM 9 o:=by
 unfold ovM;rw [renX,renX,renX,fam79];simp only [yz,owns79];rfl
theorem zaC (W0:World) (k:Int) (o:Over) (hk:0≤k∧mkK k o≤100000000) (h1:o.base.length≤1048576) (h2:o.layers.length≤1048576) (h3:∀ l∈o.layers,l.length≤1048576) (h4:o.upper.length≤1048576) :
  zy Tryz.prog W0 23 [ovP 9 o,.c (CI k)] (ovM 9 o) (fun _:Unit=>True) (fun _ => .c (CI (mkK k o))) (fun _=>ovM 9 (mkO k o)):=by
 have:=(Q9 W0 k o hk h1 h2 h3 h4).ren zm6;simp only [ovM79] at this;exact this
end Go.Proofs.YtmkmldepkponaaaGreatDoor

namespace Go.Proofs
open Go.Shelf
def Tryz.lays156_ren:Go.Shelf.Ren:=⟨fun | 156=>158 | 165=>173 | 166=>174 | 169=>175 | 240=>198 | 241=>199 | 276=>211 | 277=>212 | n=>n,fun | 31=>99 | 9=>9 | 3=>3 | 4=>4 | 0=>0 | 20=>20 | 72=>159 | 76=>163 | 70=>157 | 37=>22 | 75=>162 | 127=>185 | 164=>195 | 5=>5 | 80=>165 | n=>n,fun | n=>n⟩
theorem Tryz.lays156:Go.Proofs.Lays.n156 Tryz.prog Tryz.lays156_ren:={
 mixed:=by kernel_rfl
 f156:=Tryz.func158.trans (congrArg some (by kernel_rfl))
 f165:=Tryz.func173.trans (congrArg some (by kernel_rfl))
 f166:=Tryz.func174.trans (congrArg some (by kernel_rfl))
 f169:=Tryz.func175.trans (congrArg some (by kernel_rfl))
 f240:=Tryz.func198.trans (congrArg some (by kernel_rfl))
 f241:=Tryz.func199.trans (congrArg some (by kernel_rfl))
 f276:=Tryz.func211.trans (congrArg some (by kernel_rfl))
 f277:=Tryz.func212.trans (congrArg some (by kernel_rfl))
 t0:=Tryz.underlying0
 a0:=Tryz.isAgg0
 z0:=Tryz.sizeOf0
 v0:=Tryz.zeroValue0
 t3:=Tryz.underlying3
 a3:=Tryz.isAgg3
 z3:=Tryz.sizeOf3
 v3:=Tryz.zeroValue3
 t4:=Tryz.underlying4
 a4:=Tryz.isAgg4
 z4:=Tryz.sizeOf4
 v4:=Tryz.zeroValue4
 t9:=Tryz.underlying9
 a9:=Tryz.isAgg9
 z9:=Tryz.sizeOf9
 v9:=Tryz.zeroValue9
 t20:=Tryz.underlying20
 a20:=Tryz.isAgg20
 z20:=Tryz.sizeOf20
 v20:=Tryz.zeroValue20
 t31:=Tryz.underlying99
 a31:=Tryz.isAgg99
 z31:=Tryz.sizeOf99
 v31:=Tryz.zeroValue99
 t37:=Tryz.underlying22
 a37:=Tryz.isAgg22
 z37:=Tryz.sizeOf22
 v37:=Tryz.zeroValue22
 t70:=Tryz.underlying157
 a70:=Tryz.isAgg157
 z70:=Tryz.sizeOf157
 v70:=Tryz.zeroValue157
 t72:=Tryz.underlying159
 a72:=Tryz.isAgg159
 z72:=Tryz.sizeOf159
 v72:=Tryz.zeroValue159
 t75:=Tryz.underlying162
 a75:=Tryz.isAgg162
 z75:=Tryz.sizeOf162
 v75:=Tryz.zeroValue162
 t76:=Tryz.underlying163
 a76:=Tryz.isAgg163
 z76:=Tryz.sizeOf163
 v76:=Tryz.zeroValue163
 t127:=Tryz.underlying185
 a127:=Tryz.isAgg185
 z127:=Tryz.sizeOf185
 v127:=Tryz.zeroValue185
 t164:=Tryz.underlying195
 a164:=Tryz.isAgg195
 z164:=Tryz.sizeOf195
 v164:=Tryz.zeroValue195 }
theorem Tryz.Builder_Extra_156:Builder.Extra Tryz.prog Tryz.lays156_ren:={
 sizeBuilder:=by kernel_rfl
 liesBuilder:=by kernel_rfl
 t5:=Tryz.underlying5
 a5:=Tryz.isAgg5
 z5:=Tryz.sizeOf5
 v5:=Tryz.zeroValue5
 infoByte:=by kernel_rfl
 cellsByte:=by kernel_rfl
 sizeByte:=by kernel_rfl
 neB5:=by decide }
open Go.RowKit in
theorem Tryz.strings_Join_none (a:Option Addr) (c:Nat) (sep:ByteArray) (w:World) :
  Calls Tryz.prog 158 #[.slice a 0 c,.string sep] w fun e w'=>e = .returned (.string ⟨#[]⟩)∧w'=w:=Any.strings_Join_none Tryz.lays156 Tryz.Builder_Extra_156 a c sep w
open Go.RowKit in
theorem Tryz.strings_Join (bk o c:Nat) (xs:List ByteArray) (sep:ByteArray) (w:World) (hcells:∀ (j:Nat) x,xs[j]? = some x→w.cell? ⟨bk,o+j,none⟩=some (.string x)) (hbk:bk < w.heap.size) (hN:xs.length≤140737488355328) (hcap:xs.length≤c) (hlen:(Lib.join (xs.map (·.data.toList)) sep.data.toList).length≤140737488355328) :
  Calls Tryz.prog 158 #[.slice (some ⟨bk,o,none⟩) xs.length c,.string sep] w fun e w'=>e = .returned (.string ⟨(Lib.join (xs.map (·.data.toList)) sep.data.toList).toArray⟩)∧Below w.heap.size w w':=Any.strings_Join Tryz.lays156 Tryz.Builder_Extra_156 bk o c xs sep w hcells hbk hN hcap hlen
def Tryz.lays146_ren:Go.Shelf.Ren:=⟨fun | 146=>171 | 221=>197 | 268=>208 | 138=>209 | 143=>210 | 195=>215 | 197=>216 | 218=>217 | 219=>218 | 260=>219 | 217=>220 | 225=>221 | 224=>222 | 267=>223 | 266=>224 | 314=>225 | n=>n,fun | 9=>9 | 31=>99 | 3=>3 | 4=>4 | 0=>0 | 105=>202 | 21=>21 | 5=>5 | 46=>153 | 119=>205 | 139=>208 | 138=>207 | 146=>209 | 51=>176 | n=>n,fun | 1=>0 | 3=>1 | 4=>2 | n=>n⟩
theorem Tryz.lays146:Go.Proofs.Lays.n146 Tryz.prog Tryz.lays146_ren:={
 mixed:=by kernel_rfl
 f138:=Tryz.func209.trans (congrArg some (by kernel_rfl))
 f143:=Tryz.func210.trans (congrArg some (by kernel_rfl))
 f146:=Tryz.func171.trans (congrArg some (by kernel_rfl))
 f195:=Tryz.func215.trans (congrArg some (by kernel_rfl))
 f197:=Tryz.func216.trans (congrArg some (by kernel_rfl))
 f217:=Tryz.func220.trans (congrArg some (by kernel_rfl))
 f218:=Tryz.func217.trans (congrArg some (by kernel_rfl))
 f219:=Tryz.func218.trans (congrArg some (by kernel_rfl))
 f221:=Tryz.func197.trans (congrArg some (by kernel_rfl))
 f224:=Tryz.func222.trans (congrArg some (by kernel_rfl))
 f225:=Tryz.func221.trans (congrArg some (by kernel_rfl))
 f260:=Tryz.func219.trans (congrArg some (by kernel_rfl))
 f266:=Tryz.func224.trans (congrArg some (by kernel_rfl))
 f267:=Tryz.func223.trans (congrArg some (by kernel_rfl))
 f268:=Tryz.func208.trans (congrArg some (by kernel_rfl))
 f314:=Tryz.func225.trans (congrArg some (by kernel_rfl))
 t0:=Tryz.underlying0
 a0:=Tryz.isAgg0
 z0:=Tryz.sizeOf0
 v0:=Tryz.zeroValue0
 t3:=Tryz.underlying3
 a3:=Tryz.isAgg3
 z3:=Tryz.sizeOf3
 v3:=Tryz.zeroValue3
 t4:=Tryz.underlying4
 a4:=Tryz.isAgg4
 z4:=Tryz.sizeOf4
 v4:=Tryz.zeroValue4
 t5:=Tryz.underlying5
 a5:=Tryz.isAgg5
 z5:=Tryz.sizeOf5
 v5:=Tryz.zeroValue5
 t9:=Tryz.underlying9
 a9:=Tryz.isAgg9
 z9:=Tryz.sizeOf9
 v9:=Tryz.zeroValue9
 t21:=Tryz.underlying21
 a21:=Tryz.isAgg21
 z21:=Tryz.sizeOf21
 v21:=Tryz.zeroValue21
 t31:=Tryz.underlying99
 a31:=Tryz.isAgg99
 z31:=Tryz.sizeOf99
 v31:=Tryz.zeroValue99
 t46:=Tryz.underlying153
 a46:=Tryz.isAgg153
 z46:=Tryz.sizeOf153
 v46:=Tryz.zeroValue153
 t51:=Tryz.underlying176
 a51:=Tryz.isAgg176
 z51:=Tryz.sizeOf176
 v51:=Tryz.zeroValue176
 t105:=Tryz.underlying202
 a105:=Tryz.isAgg202
 z105:=Tryz.sizeOf202
 v105:=Tryz.zeroValue202
 t119:=Tryz.underlying205
 a119:=Tryz.isAgg205
 z119:=Tryz.sizeOf205
 t138:=Tryz.underlying207
 a138:=Tryz.isAgg207
 z138:=Tryz.sizeOf207
 v138:=Tryz.zeroValue207
 t139:=Tryz.underlying208
 a139:=Tryz.isAgg208
 z139:=Tryz.sizeOf208
 v139:=Tryz.zeroValue208
 t146:=Tryz.underlying209
 a146:=Tryz.isAgg209
 z146:=Tryz.sizeOf209
 v146:=Tryz.zeroValue209
 g1:=by kernel_rfl
 g3:=by kernel_rfl
 g4:=by kernel_rfl }
open Go.RowKit Go.Lib in
theorem Tryz.strings_Split (s sep:ByteArray) (m:Int) (w:World) (hs:s.size < 4294967281) (hm:w.cell? ⟨0,0,none⟩=some (.int .i64 m)) (h1:1≤sep.size) :
  Calls Tryz.prog 171 #[.string s,.string sep] w fun e w' =>
   e = .returned (.slice (some ⟨w.heap.size,0,none⟩) (Lib.countB s sep+1) (Lib.countB s sep+1))∧w'=w.alloc (.cells ((Lib.splitB sep 0 (Lib.countB s sep) s).map Value.string).toArray 9):=Any.strings_Split Tryz.lays146 (by kernel_rfl) s sep m w hs hm h1
def Tryz.sortE_ren:Go.Shelf.Ren:=⟨fun | 6=>155 | 15=>165 | 14=>170 | 28=>186 | 29=>187 | 20=>189 | 21=>190 | 22=>191 | 23=>192 | 24=>193 | 25=>194 | 26=>195 | 27=>196 | 46=>205 | 47=>201 | 48=>202 | 49=>206 | 50=>207 | 57=>214 | n=>n,fun | 22=>23 | 24=>77 | 25=>146 | 3=>3 | 39=>153 | 0=>0 | 53=>176 | 55=>178 | 4=>4 | 46=>169 | 45=>168 | 50=>173 | 5=>5 | 9=>9 | 66=>186 | 70=>190 | 76=>198 | 77=>199 | n=>n,fun | n=>n⟩
theorem Tryz.sortE:Go.Proofs.SlLaysF0.n6 Tryz.prog Tryz.sortE_ren:={
 mixed:=by kernel_rfl
 f6:=⟨Tryz.f155.name,by decide,Tryz.func155.trans (congrArg some (by kernel_rfl))⟩
 f14:=⟨Tryz.f170.name,by decide,Tryz.func170.trans (congrArg some (by kernel_rfl))⟩
 f15:=Tryz.func165.trans (congrArg some (by kernel_rfl))
 f20:=⟨Tryz.f189.name,by decide,Tryz.func189.trans (congrArg some (by kernel_rfl))⟩
 f21:=⟨Tryz.f190.name,by decide,Tryz.func190.trans (congrArg some (by kernel_rfl))⟩
 f22:=⟨Tryz.f191.name,by decide,Tryz.func191.trans (congrArg some (by kernel_rfl))⟩
 f23:=⟨Tryz.f192.name,by decide,Tryz.func192.trans (congrArg some (by kernel_rfl))⟩
 f24:=⟨Tryz.f193.name,by decide,Tryz.func193.trans (congrArg some (by kernel_rfl))⟩
 f25:=⟨Tryz.f194.name,by decide,Tryz.func194.trans (congrArg some (by kernel_rfl))⟩
 f26:=⟨Tryz.f195.name,by decide,Tryz.func195.trans (congrArg some (by kernel_rfl))⟩
 f27:=⟨Tryz.f196.name,by decide,Tryz.func196.trans (congrArg some (by kernel_rfl))⟩
 f28:=Tryz.func186.trans (congrArg some (by kernel_rfl))
 f29:=Tryz.func187.trans (congrArg some (by kernel_rfl))
 f46:=⟨Tryz.f205.name,by decide,Tryz.func205.trans (congrArg some (by kernel_rfl))⟩
 f47:=Tryz.func201.trans (congrArg some (by kernel_rfl))
 f48:=Tryz.func202.trans (congrArg some (by kernel_rfl))
 f49:=⟨Tryz.f206.name,by decide,Tryz.func206.trans (congrArg some (by kernel_rfl))⟩
 f50:=⟨Tryz.f207.name,by decide,Tryz.func207.trans (congrArg some (by kernel_rfl))⟩
 f57:=⟨Tryz.f214.name,by decide,Tryz.func214.trans (congrArg some (by kernel_rfl))⟩
 t0:=Tryz.underlying0
 a0:=Tryz.isAgg0
 z0:=Tryz.sizeOf0
 v0:=Tryz.zeroValue0
 t3:=Tryz.underlying3
 a3:=Tryz.isAgg3
 z3:=Tryz.sizeOf3
 v3:=Tryz.zeroValue3
 t4:=Tryz.underlying4
 a4:=Tryz.isAgg4
 z4:=Tryz.sizeOf4
 v4:=Tryz.zeroValue4
 t5:=Tryz.underlying5
 a5:=Tryz.isAgg5
 z5:=Tryz.sizeOf5
 v5:=Tryz.zeroValue5
 t9:=Tryz.underlying9
 a9:=Tryz.isAgg9
 z9:=Tryz.sizeOf9
 v9:=Tryz.zeroValue9
 t22:=Tryz.underlying23
 a22:=Tryz.isAgg23
 z22:=Tryz.sizeOf23
 v22:=Tryz.zeroValue23
 t25:=Tryz.underlying146
 a25:=Tryz.isAgg146
 z25:=Tryz.sizeOf146
 v25:=Tryz.zeroValue146
 t39:=Tryz.underlying153
 a39:=Tryz.isAgg153
 z39:=Tryz.sizeOf153
 v39:=Tryz.zeroValue153
 t45:=Tryz.underlying168
 a45:=Tryz.isAgg168
 z45:=Tryz.sizeOf168
 v45:=Tryz.zeroValue168
 t46:=Tryz.underlying169
 a46:=Tryz.isAgg169
 z46:=Tryz.sizeOf169
 v46:=Tryz.zeroValue169
 t50:=Tryz.underlying173
 a50:=Tryz.isAgg173
 z50:=Tryz.sizeOf173
 v50:=Tryz.zeroValue173
 t53:=Tryz.underlying176
 a53:=Tryz.isAgg176
 z53:=Tryz.sizeOf176
 v53:=Tryz.zeroValue176
 t55:=Tryz.underlying178
 a55:=Tryz.isAgg178
 z55:=Tryz.sizeOf178
 v55:=Tryz.zeroValue178
 t66:=Tryz.underlying186
 a66:=Tryz.isAgg186
 z66:=Tryz.sizeOf186
 v66:=Tryz.zeroValue186
 t70:=Tryz.underlying190
 a70:=Tryz.isAgg190
 z70:=Tryz.sizeOf190
 v70:=Tryz.zeroValue190
 t76:=Tryz.underlying198
 a76:=Tryz.isAgg198
 z76:=Tryz.sizeOf198
 v76:=Tryz.zeroValue198
 t77:=Tryz.underlying199
 a77:=Tryz.isAgg199
 z77:=Tryz.sizeOf199
 v77:=Tryz.zeroValue199 }
def Tryz.sortM_ren:Go.Shelf.Ren:=⟨fun | 6=>140 | 15=>165 | 14=>164 | 28=>186 | 29=>187 | 20=>178 | 21=>179 | 22=>180 | 23=>181 | 24=>182 | 25=>183 | 26=>184 | 27=>185 | 46=>200 | 47=>201 | 48=>202 | 49=>203 | 50=>204 | 57=>213 | n=>n,fun | 22=>25 | 24=>34 | 25=>142 | 3=>3 | 39=>153 | 0=>0 | 53=>176 | 55=>178 | 4=>4 | 46=>169 | 45=>168 | 50=>173 | 5=>5 | 9=>9 | 66=>186 | 70=>190 | 76=>198 | 77=>199 | n=>n,fun | n=>n⟩
theorem Tryz.sortM:Go.Proofs.SlLaysF0.n6 Tryz.prog Tryz.sortM_ren:={
 mixed:=by kernel_rfl
 f6:=⟨Tryz.f140.name,by decide,Tryz.func140.trans (congrArg some (by kernel_rfl))⟩
 f14:=⟨Tryz.f164.name,by decide,Tryz.func164.trans (congrArg some (by kernel_rfl))⟩
 f15:=Tryz.func165.trans (congrArg some (by kernel_rfl))
 f20:=⟨Tryz.f178.name,by decide,Tryz.func178.trans (congrArg some (by kernel_rfl))⟩
 f21:=⟨Tryz.f179.name,by decide,Tryz.func179.trans (congrArg some (by kernel_rfl))⟩
 f22:=⟨Tryz.f180.name,by decide,Tryz.func180.trans (congrArg some (by kernel_rfl))⟩
 f23:=⟨Tryz.f181.name,by decide,Tryz.func181.trans (congrArg some (by kernel_rfl))⟩
 f24:=⟨Tryz.f182.name,by decide,Tryz.func182.trans (congrArg some (by kernel_rfl))⟩
 f25:=⟨Tryz.f183.name,by decide,Tryz.func183.trans (congrArg some (by kernel_rfl))⟩
 f26:=⟨Tryz.f184.name,by decide,Tryz.func184.trans (congrArg some (by kernel_rfl))⟩
 f27:=⟨Tryz.f185.name,by decide,Tryz.func185.trans (congrArg some (by kernel_rfl))⟩
 f28:=Tryz.func186.trans (congrArg some (by kernel_rfl))
 f29:=Tryz.func187.trans (congrArg some (by kernel_rfl))
 f46:=⟨Tryz.f200.name,by decide,Tryz.func200.trans (congrArg some (by kernel_rfl))⟩
 f47:=Tryz.func201.trans (congrArg some (by kernel_rfl))
 f48:=Tryz.func202.trans (congrArg some (by kernel_rfl))
 f49:=⟨Tryz.f203.name,by decide,Tryz.func203.trans (congrArg some (by kernel_rfl))⟩
 f50:=⟨Tryz.f204.name,by decide,Tryz.func204.trans (congrArg some (by kernel_rfl))⟩
 f57:=⟨Tryz.f213.name,by decide,Tryz.func213.trans (congrArg some (by kernel_rfl))⟩
 t0:=Tryz.underlying0
 a0:=Tryz.isAgg0
 z0:=Tryz.sizeOf0
 v0:=Tryz.zeroValue0
 t3:=Tryz.underlying3
 a3:=Tryz.isAgg3
 z3:=Tryz.sizeOf3
 v3:=Tryz.zeroValue3
 t4:=Tryz.underlying4
 a4:=Tryz.isAgg4
 z4:=Tryz.sizeOf4
 v4:=Tryz.zeroValue4
 t5:=Tryz.underlying5
 a5:=Tryz.isAgg5
 z5:=Tryz.sizeOf5
 v5:=Tryz.zeroValue5
 t9:=Tryz.underlying9
 a9:=Tryz.isAgg9
 z9:=Tryz.sizeOf9
 v9:=Tryz.zeroValue9
 t22:=Tryz.underlying25
 a22:=Tryz.isAgg25
 z22:=Tryz.sizeOf25
 v22:=Tryz.zeroValue25
 t25:=Tryz.underlying142
 a25:=Tryz.isAgg142
 z25:=Tryz.sizeOf142
 v25:=Tryz.zeroValue142
 t39:=Tryz.underlying153
 a39:=Tryz.isAgg153
 z39:=Tryz.sizeOf153
 v39:=Tryz.zeroValue153
 t45:=Tryz.underlying168
 a45:=Tryz.isAgg168
 z45:=Tryz.sizeOf168
 v45:=Tryz.zeroValue168
 t46:=Tryz.underlying169
 a46:=Tryz.isAgg169
 z46:=Tryz.sizeOf169
 v46:=Tryz.zeroValue169
 t50:=Tryz.underlying173
 a50:=Tryz.isAgg173
 z50:=Tryz.sizeOf173
 v50:=Tryz.zeroValue173
 t53:=Tryz.underlying176
 a53:=Tryz.isAgg176
 z53:=Tryz.sizeOf176
 v53:=Tryz.zeroValue176
 t55:=Tryz.underlying178
 a55:=Tryz.isAgg178
 z55:=Tryz.sizeOf178
 v55:=Tryz.zeroValue178
 t66:=Tryz.underlying186
 a66:=Tryz.isAgg186
 z66:=Tryz.sizeOf186
 v66:=Tryz.zeroValue186
 t70:=Tryz.underlying190
 a70:=Tryz.isAgg190
 z70:=Tryz.sizeOf190
 v70:=Tryz.zeroValue190
 t76:=Tryz.underlying198
 a76:=Tryz.isAgg198
 z76:=Tryz.sizeOf198
 v76:=Tryz.zeroValue198
 t77:=Tryz.underlying199
 a77:=Tryz.isAgg199
 z77:=Tryz.sizeOf199
 v77:=Tryz.zeroValue199 }
end Go.Proofs

namespace Go.Proofs.YtmkmldepkponaaaGreatDoor
set_option linter.unusedSimpArgs false
set_option linter.unusedVariables false
open Go Go.RowKit
theorem zeb {c:UInt8}:∀ {a:Str} (b:Str),c ∉ a→Lib.index (a++c::b) [c]=(a.length:Int)
 | [],b,_=>by simp [Lib.index]
 | x::a,b,h=>by
  simp only [List.mem_cons,not_or] at h;have ih:=zeb (a:=a) b h.2;rw [List.cons_append,Lib.index,ih];have e:[c].isPrefixOf (x::(a++c::b))=false:=by simp [List.isPrefixOf,h.1]
  rw [e];simp
theorem zfP {c:UInt8}:∀ (k:Nat) (s:Str),s.count c=k→Lib.splitK [c] 0 k s=cut c s
 | 0,s,h=>by rw [Lib.splitK,QU (List.count_eq_zero.1 h)]
 | k+1,s,h=>by
  have hm:c∈s:=List.count_pos_iff.1 (by omega);obtain ⟨a,b,e,ha⟩:=List.eq_append_cons_of_mem hm;subst e;have hb:b.count c=k:=by
   rw [List.count_append,List.count_eq_zero.2 ha,List.count_cons_self] at h; omega
  rw [Lib.splitK,zeb b ha,if_neg (by simp),QT b ha];have e1:((a.length:Int).toNat+0)=a.length:=by simp
  have e2:((a.length:Int).toNat+[c].length)=a.length+1:=by simp
  rw [e1,e2,List.take_left,List.drop_append,List.drop_of_length_le (by omega)];have e3:a.length+1 - a.length=1:=by omega
  rw [e3];simp only [List.drop_succ_cons,List.drop_zero,List.nil_append];rw [zfP k b hb]
theorem zcG (c:UInt8):∀ (s:Str),∀ n∈cut c s,n.length≤s.length
 | [],n,h=>by simp [cut] at h; simp [h]
 | b::t,n,h=>by
  have ih:=zcG c t;unfold cut at h;split at h
  ·rcases List.mem_cons.1 h with rfl | h
   ·simp
   ·have:=ih n h; simp; omega
  ·split at h
   ·simp at h; subst h; simp
   ·rename_i x r hc;rw [hc] at ih;rcases List.mem_cons.1 h with rfl | h
    ·have:=ih x (by simp); simp; omega
    ·have:=ih n (by simp [h]); simp; omega
def HM (W0:World):Prop:=∃ m,W0.cell? ⟨0,0,none⟩=some (.int .i64 m)
theorem zkt (W0:World) (hM:HM W0) (s:Str) (hs:s.length≤1000000):Fn Tryz.prog W0 171 [CS s,CS [47]] (.c (jM (cut 47 s))) []:=by
 intro κ w vs hB hm hr;obtain ⟨v1,v2,hvs⟩:∃ v1 v2,vs.toList=[v1,v2]:=by
  have:=za.length hr
  match h:vs.toList with
  | [a,b]=>exact ⟨a,b,rfl⟩
  | [] | [_] | _::_::_::_=>rw [h] at this; simp at this
 rw [hvs] at hr;obtain ⟨r1,r2,_⟩:=hr;cases r1 with | sc _=>?_
 cases r2 with | sc _=>?_
 have hv:vs=#[.string ⟨⟨s⟩⟩,.string ⟨⟨[47]⟩⟩]:=by rw [← hvs]
 subst hv;obtain ⟨m,hc⟩:=hM;have hc':w.cell? ⟨0,0,none⟩=some (.int .i64 m):=by
  rw [y0 (hB.block 0 (yG hc))]; exact hc
 refine (Tryz.strings_Split ⟨⟨s⟩⟩ ⟨⟨[47]⟩⟩ m w (by show s.length < _; omega) hc' (by decide)).mono ?_;rintro e w' ⟨rfl,rfl⟩;have hcount:Lib.countB ⟨⟨s⟩⟩ ⟨⟨[47]⟩⟩=s.count 47:=Lib.count_one 47 s;have hsp:(Lib.splitB ⟨⟨[47]⟩⟩ 0 (Lib.countB ⟨⟨s⟩⟩ ⟨⟨[47]⟩⟩) ⟨⟨s⟩⟩).map (·.data.toList)=cut 47 s:=by
  rw [Lib.splitB_data,hcount]; exact zfP _ s rfl
 generalize hL:Lib.splitB ⟨⟨[47]⟩⟩ 0 (Lib.countB ⟨⟨s⟩⟩ ⟨⟨[47]⟩⟩) ⟨⟨s⟩⟩=L at hsp;have hlen:L.length=Lib.countB ⟨⟨s⟩⟩ ⟨⟨[47]⟩⟩+1:=by rw [← hL]; exact Lib.splitB_all _ (by decide) 0 _ _ rfl
 have hn:L.length=(cut 47 s).length:=by rw [← hsp,List.length_map]
 have hle:s.count 47≤s.length:=List.count_le_length;refine ⟨_,_,[],κ,rfl,⟨rfl,rfl⟩,hm.below (ZZ w _),?_⟩;rw [← hlen,hn];have hrow:(jM (cut 47 s)) = .row ((cut 47 s).map CS):=rfl;have hcells:((cut 47 s).map CS).flatMap CV.cells=(cut 47 s).map CS:=by
  generalize cut 47 s=l;induction l with
  | nil=>rfl
  | cons a l ih=>rw [List.map_cons,List.flatMap_cons,ih]; rfl
 have key:RepC (w.alloc (.cells (L.map Value.string).toArray 9)) (zi κ []) (.row ((cut 47 s).map CS)) (.slice (some ⟨w.heap.size,0,none⟩) ((cut 47 s).map CS).length (cut 47 s).length):=by
  refine .row (sz:=1) (vs:=L.map Value.string) (by simp; exact zak 47 s) (by omega) (by simp) (by rw [← hn,hlen,hcount]; unfold maxLen; omega) ?_ ?_ ?_ ?_ ?_ ?_
  ·intro h;have:=hm.mem.live_lt h;omega
  ·intro x hx;obtain ⟨a,_,rfl⟩:=List.mem_map.1 hx;rfl
  ·rw [hcells]; simp [hn]
  ·intro i x v hx hv;rw [hcells,← hsp,List.map_map,List.getElem?_map] at hx;rw [List.getElem?_map] at hv;cases hi:L[i]? with
   | none=>rw [hi] at hx; cases hx
   | some y =>
    rw [hi] at hx hv;cases hx; cases hv;refine .sc ?_;have hmem:y.data.toList∈cut 47 s:=by rw [← hsp]; exact List.mem_map_of_mem (List.mem_of_getElem? hi)
    have:=zcG 47 s _ hmem;show y.size≤maxLen;have e:y.size=y.data.toList.length:=by cases y; rfl
    rw [e]; unfold maxLen; omega
  ·intro v hv;obtain ⟨a,_,rfl⟩:=List.mem_map.1 hv;rfl
  ·intro j v hj;rw [jX (yt w rfl _)]
   simpa using hj
 rw [List.length_map] at key;exact key
theorem zm1 {w:World} {S:Nat→Prop} {l:List Str} {v:Value} (h:RepC w S (jM l) v):(l=[]∧∃ o cap,v = .slice o 0 cap) ∨
  ∃ b off cap,v = .slice (some ⟨b,off,none⟩) l.length cap∧l.length≤cap∧l≠[]∧∀ (j:Nat) (x:Str),l[j]? = some x→w.cell? ⟨b,off+j,none⟩=some (.string ⟨⟨x⟩⟩):=by
 unfold jM at h;generalize hL:l.map CS=L at h;cases h with
 | nil _=>left; refine ⟨?_,_,_,rfl⟩; simpa using hL
 | @row L b off cap sz vs hne _ hcap _ _ hsz hlen hr _ hc =>
  right;subst hL;have hcells:(l.map CS).flatMap CV.cells=l.map CS:=by
   generalize l=l;induction l with
   | nil=>rfl
   | cons a l ih=>rw [List.map_cons,List.flatMap_cons,ih]; rfl
  refine ⟨b,off,cap,by simp,by simpa using hcap,by simpa using hne,fun j x hx=>?_⟩;rw [hcells] at hlen hr;have hx':(l.map CS)[j]? = some (CS x):=by rw [List.getElem?_map,hx]; rfl
  have hj:j < vs.length:=by
   rw [← hlen,List.length_map];exact (List.getElem?_eq_some_iff.1 hx).1
  have hv:=hr j _ vs[j] hx' (List.getElem?_eq_getElem hj);have:vs[j] = .string ⟨⟨x⟩⟩:=by
   generalize vs[j]=v at hv;cases hv; rfl
  rw [hc j _ (List.getElem?_eq_getElem hj),this]
def ZI (l:List Str):Str:=Lib.join l [47]
theorem zee:∀ {l:List Str},l≠[]→jn l=47::ZI l
 | [],h=>absurd rfl h
 | x::r,_=>by
  unfold ZI;rw [Lib.join_cons];have:Lib.joinTail [47] r=jn r:=by
   unfold Lib.joinTail jn;rw [List.flatMap_def]; rfl
  rw [this]; rfl
theorem zef {l:List Str}:(ZI l).length≤(jn l).length:=by
 cases l with
 | nil=>simp [ZI,Lib.join_nil]
 | cons x r=>rw [zee (by simp)]; simp
theorem zkm (W0:World) (l:List Str) (hl:(jn l).length≤1000000):Fn Tryz.prog W0 158 [jM l,CS [47]] (.c (CS (ZI l))) []:=by
 intro κ w vs hB hm hr;obtain ⟨v1,v2,hvs⟩:∃ v1 v2,vs.toList=[v1,v2]:=by
  have:=za.length hr
  match h:vs.toList with
  | [a,b]=>exact ⟨a,b,rfl⟩
  | [] | [_] | _::_::_::_=>rw [h] at this; simp at this
 rw [hvs] at hr;obtain ⟨r1,r2,_⟩:=hr;cases r2 with | sc _=>?_
 have hll:l.length≤(jn l).length:=by
  clear r1 hl hvs;induction l with
  | nil=>simp
  | cons a l ih=>simp [jn] at ih ⊢; omega
 have fin:∀ r:Str,r.length≤1000000→Rep κ [] w (.c (CS r)) (.string ⟨⟨r⟩⟩):=fun r h=>RepC.sc (by show ByteArray.size _≤maxLen; unfold maxLen; show r.length≤_; omega)
 rcases zm1 r1 with ⟨rfl,o,cap,rfl⟩ | ⟨b,off,cap,rfl,hcap,hne,hcells⟩
 ·have hv:vs=#[.slice o 0 cap,.string ⟨⟨[47]⟩⟩]:=by rw [← hvs]
  subst hv;refine (Tryz.strings_Join_none o cap ⟨⟨[47]⟩⟩ w).mono ?_;rintro e w' ⟨rfl,rfl⟩;exact ⟨_,_,[],κ,rfl,⟨rfl,rfl⟩,hm,fin [] (by simp)⟩
 ·have hv:vs=#[.slice (some ⟨b,off,none⟩) l.length cap,.string ⟨⟨[47]⟩⟩]:=by rw [← hvs]
  subst hv;have hbk:b < w.heap.size:=by
   cases l with
   | nil=>exact absurd rfl hne
   | cons x r=>exact yG (hcells 0 x rfl)
  have hmap:(l.map fun x=>(⟨⟨x⟩⟩:ByteArray)).map (·.data.toList)=l:=by rw [List.map_map]; exact List.map_id l
  have hj:(Lib.join ((l.map fun x=>(⟨⟨x⟩⟩:ByteArray)).map (·.data.toList)) (⟨⟨[47]⟩⟩:ByteArray).data.toList)=ZI l:=by rw [hmap]; rfl
  have hjl:=zef (l:=l);have h:=Tryz.strings_Join b off cap (l.map fun x=>⟨⟨x⟩⟩) ⟨⟨[47]⟩⟩ w (fun j x hx=>by
   rw [List.getElem?_map] at hx;cases hi:l[j]? with
   | none=>rw [hi] at hx; cases hx
   | some y=>rw [hi] at hx; cases hx; exact hcells j y hi) hbk (by simp; omega) (by simpa using hcap) (by rw [hj]; omega)
  rw [hj,List.length_map] at h;refine h.mono ?_;rintro e w' ⟨rfl,hw⟩;exact ⟨_,_,[],κ,rfl,⟨rfl,rfl⟩,hm.below hw,RepC.sc (by show ByteArray.size _≤maxLen; unfold maxLen; show (ZI l).length≤_; omega)⟩
end Go.Proofs.YtmkmldepkponaaaGreatDoor

namespace Go.Proofs.YtmkmldepkponaaaGreatDoor
set_option linter.unusedSimpArgs false
set_option linter.unusedVariables false
open Go Go.RowKit
def zhm:XC:=(.s (.r [.m1 2 .n]) (.s (.s (.r [.mv 4 0,.ex 5 (.len true 4),.b1 6 .lss 5 (.i 1),.mv 7 6,.h3 8 0 7,.gf 9 (.len true 8) 7,.gf 10 (.bin .gtr 9 (.i 3)) 7,.p1 11 7 10]) (.cnd 11 (.rf 2) .skip)) (.s (.s (.r [.m1 3 (.i 0)]) (.blk 0 (.loop (.s (.s (.r [.mv 12 3,.mv 13 0,.ex 14 (.len true 13),.b1 15 .lss 12 14]) (.ce 15 0)) (.s (.blk 1 (.s (.r [.mv 18 0,.mv 19 3,.ex 20 (.idx 18 19),.b1 21 .lss 20 (.u 97),.mv 22 21,.h3 23 0 22,.h3 24 3 22,.gf 25 (.idx 23 24) 22,.gf 26 (.bin .gtr 25 (.u 122)) 22,.p1 27 22 26]) (.cnd 27 (.rf 2) .skip))) (.ic 16 17 3)))))) (.rt 2))))
theorem zhn:zj Tryz.prog [] 172=some (zhm.ac,[(.t 2)],28):=by kernel_rfl
theorem zkX (W0:World) (s:Str):Fn Tryz.prog W0 172 [CS s] (.c (CB (jp s))) []:=by
 refine fX mixed zhn fun hg=>?_
 refine dr ?_;apply cP<;>intro h1
 ·refine dr ?_;exact bF (by rw [jp]; simp; omega)
 refine dr ?_;apply cP<;>intro h2
 ·refine dr ?_;exact bF (by rw [jp]; simp; omega)
 refine dr ?_;refine lp (σ:=Nat) (fun k=>[(0,.c (CS s)),(3,I k)]) (fun _=>[]) (fun k=>k≤s.length∧(s.take k).all jt=true) (fun k=>s.length - k) 0 ⟨by simp,by simp⟩ ?_ ?_
 ·refine dr ?_;trivial
 rintro k ⟨hk,ha⟩;refine dr ?_;apply cP<;>intro h3
 ·have hk':k < s.length:=by omega
  have no:jt s[k]=false→CB false=CB (jp s):=fun h=>bF (by rw [jp,ZY hk' h]; rfl)
  refine dr ?_;apply cP<;>intro h4
  ·refine dr ?_;exact no (by simp [jt]; omega)
  ·refine dr ?_;apply cP<;>intro h5
   ·refine dr ?_;exact no (by simp [jt]; omega)
   ·refine dr ?_;refine ⟨k+1,⟨by omega,qE hk' ha (by simp [jt]; omega)⟩,by omega,?_⟩;refine dr ?_;trivial
 ·have:k=s.length:=by omega
  subst this;rw [List.take_length] at ha;refine dr ?_;exact bT (by rw [jp,ha]; simp; omega)
def Z4 (s:Str):CV:=if pOk s=true then .tup [jM (names s),CB true] else .tup [jM [],CB false]
def zhq:XC:=(.s (.r [.a2 2 1 9,.m1 3 .n]) (.s (.s (.r [.mv 7 0,.ex 8 (.bin .eql 7 (.s [])),.mv 9 8,.h3 10 0 9,.gf 11 (.idx 10 (.i 0)) 9,.gf 12 (.bin .neq 11 (.u 47)) 9,.p1 13 9 12,.mv 14 13,.h3 15 0 14,.gf 16 (.len true 15) 14,.gf 17 (.bin .gtr 16 (.i 12)) 14,.p1 18 14 17]) (.cnd 18 (.s (.r [.a2 2 1 9,.m1 3 .n]) .ret) .skip)) (.s (.r [.mv 19 0,.ex 20 (.sls 19 (.some (.i 1)) .none),.ex 21 (.call 171 [20,(.s [47])]),.a1 4 21 1 9]) (.s (.s (.r [.mv 22 4,.n1 23 22,.b1 24 .gtr 23 (.i 3)]) (.cnd 24 (.s (.r [.a2 2 1 9,.m1 3 .n]) .ret) .skip)) (.s (.s (.r [.mv 25 4,.n1 26 25,.m1 27 (.i 0)]) (.blk 0 (.loop (.s (.r [.b1 28 .lss 27 26]) (.s (.ce 28 0) (.s (.blk 1 (.s (.r [.i1 29 1 25 27,.l1 30 1 29,.mv 6 30]) (.s (.r [.mv 31 6,.c1 32 172 [31],.u1 33 32]) (.cnd 33 (.s (.r [.a2 2 1 9,.m1 3 .n]) .ret) .skip)))) (.r [.b1 34 .add 27 (.i 1),.mv 27 34]))))))) (.s (.r [.mv 35 4,.a1 2 35 1 9,.m1 3 .y]) .ret))))))
theorem zhr:zj Tryz.prog [] 157=some (zhq.ac,[(.t 2),(.t 3)],36):=by kernel_rfl
theorem zdg (W0:World) (hM:HM W0) (s:Str):Fn Tryz.prog W0 157 [CS s] (.c (Z4 s)) []:=by
 refine fX mixed zhr fun hg=>?_
 have no:pOk s=false→CV.tup [jM [],CB false]=Z4 s:=fun h=>by rw [Z4,if_neg (by simp [h])]
 refine dr ?_;apply cP<;>intro h1
 ·refine dr ?_;exact no (by rw [h1]; rfl)
 cases hs:s with
 | nil=>exact absurd hs h1
 | cons b t =>
  rw [← hs];have hl:1≤s.length:=by rw [hs]; simp
  refine dr ?_;apply cP<;>intro h2
  ·refine dr ?_;have:s.head? ≠ some 47:=by
    rw [hs];intro e;have:b=47:=by simpa using e
    subst hs; subst this;exact h2 rfl
   exact no (by
    cases hp:pOk s with
    | false=>rfl
    | true=>exact absurd (yc hp).2.2 this)
  have hb:b=47:=by
   have:(s[0]).toNat=47:=by omega
   subst hs;exact UInt8.toNat_inj.1 this
  refine dr ?_;apply cP<;>intro h3
  ·refine dr ?_;exact no (by
    cases hp:pOk s with
    | false=>rfl
    | true=>have:=(yc hp).2.1; omega)
  refine dr ?_;repeat ((first|refine sLo 1 rfl (by omega) ?_|refine c0 (zkt W0 hM _ (by simp; omega)) rfl ?_); first|refine dr ?_|exact dz)
  intro hg1;have hd:s.drop 1=t:=by rw [hs]; rfl
  rw [hd] at hg1 ⊢;have hp:pOk s=((cut 47 t).all jp&&((cut 47 t).length≤3)):=by
   have hne:=zak 47 t;have h1c:1≤(cut 47 t).length:=by
    cases hc:cut 47 t with
    | nil=>exact absurd hc hne
    | cons _ _=>simp
   rw [pOk];by_cases h2:s.length < 2
   ·have ht:t=[]:=by
     rw [hs] at h2;cases t with
     | nil=>rfl
     | cons _ _=>simp at h2; omega
    have:names s=[]:=by rw [names,if_pos (.inl h2)]
    rw [this,ht]; simp [cut,jp]
   ·have:names s=cut 47 t:=by
     rw [names,if_neg (by rw [hs] at h2 ⊢; simp at h2 ⊢; exact ⟨h2,hb⟩),hs]; rfl
    rw [this,Bool.eq_iff_iff]; simp [h1c,show s.length≤12 by omega]
  have hn:pOk s=true→names s=cut 47 t:=fun h=>by
   have h2:=(yc h);rw [names,if_neg (by simp [h2.2.2]; omega),hs]; rfl
  generalize cut 47 t=l at *;refine dr ?_;apply cP<;>intro h4
  ·refine dr ?_;exact no (by rw [hp]; simp; omega)
  refine dr ?_;refine lp (σ:=Nat) (fun k=>[(4,.c (jM l)),(25,.c (jM l)),(26,I l.length),(27,I k)]) (fun _=>[]) (fun k=>k≤l.length∧(l.take k).all jp=true) (fun k=>l.length - k) 0 ⟨by simp,by simp⟩ ?_ ?_
  ·refine dr ?_;trivial
  rintro k ⟨hk,ha⟩;refine dr ?_;apply cP<;>intro h5
  ·have hk':k < l.length:=by omega
   refine dEr ?_;repeat (refine c0 (zkX W0 _) rfl ?_; first|refine dEr ?_|exact dz)
   apply cP<;>intro h6
   ·refine dr ?_;exact no (by rw [hp,ZY hk' h6]; rfl)
   ·refine dr ?_;refine ⟨k+1,⟨by omega,qE hk' ha h6⟩,by omega,?_⟩;refine dr ?_;trivial
  ·have:k=l.length:=by omega
   subst this;rw [List.take_length] at ha;have hy:pOk s=true:=by rw [hp,ha]; simp; omega
   refine dr ?_;rw [Z4,if_pos hy,hn hy]
def zgV:XC:=(.s (.r [.m1 2 .n]) (.s (.r [.mv 6 0,.c1 7 157 [6],.mv 5 7,.e1 8 5 0,.e1 9 5 1,.a1 3 8 1 9,.mv 4 9]) (.s (.r [.mv 10 4,.mv 2 10]) .ret)))
theorem zgW:zj Tryz.prog [] 123=some (zgV.ac,[(.t 2)],11):=by kernel_rfl
theorem Q3 (W0:World) (hM:HM W0) (s:Str):Fn Tryz.prog W0 123 [CS s] (.c (CB (pOk s))) []:=by
 refine fX mixed zgW fun hg=>?_
 have hc:=zdg W0 hM s;unfold Z4 at hc;cases hp:pOk s with
 | true =>
  rw [if_pos hp] at hc;refine dr ?_;repeat (refine c0 hc rfl ?_; first|refine dr ?_|exact dz)
  intro hg1;exact dz
 | false =>
  rw [if_neg (by simp [hp])] at hc;refine dr ?_;repeat (refine c0 hc rfl ?_; first|refine dr ?_|exact dz)
  intro hg1;exact dz
def zgZ:XC:=(.s (.r [.ex 2 (.mv (.s []))]) (.s (.r [.mv 6 0,.c1 7 157 [6],.mv 5 7,.e1 8 5 0,.e1 9 5 1,.a1 3 8 1 9,.mv 4 9]) (.s (.s (.r [.mv 10 4,.u1 11 10]) (.cnd 11 (.s (.r [.ex 2 (.mv (.s []))]) .ret) .skip)) (.s (.r [.mv 12 3,.mv 13 3,.n1 14 13,.b1 15 .sub 14 (.i 1),.ex 16 (.slr 1 12 .none (.some 15)),.ex 17 (.call 158 [16,(.s [47])]),.ex 18 (.bin .add (.s [47]) 17),.mv 2 18]) .ret))))
theorem zg0:zj Tryz.prog [] 117=some (zgZ.ac,[(.t 2)],19):=by kernel_rfl
theorem yK (W0:World) (hM:HM W0) (s:Str):Fn Tryz.prog W0 117 [CS s] (.c (CS (pUp s))) []:=by
 refine fX mixed zg0 fun hg=>?_
 have hc:=zdg W0 hM s;unfold Z4 at hc;cases hp:pOk s with
 | true =>
  rw [if_pos hp] at hc;obtain ⟨⟨h1,h2⟩,h3,h4⟩:=qp hp;have h12:=(yc hp).2.1;have hj:(jn ((names s).take ((names s).length - 1))).length≤12:=by
   have:jn (names s)=jn ((names s).take ((names s).length - 1))++jn ((names s).drop ((names s).length - 1)):=by rw [← zec,List.take_append_drop]
   have e:=congrArg List.length this;rw [← h4,List.length_append] at e;omega
  have hjl:=zef (l:=(names s).take ((names s).length - 1));refine dr ?_;repeat (refine c0 hc rfl ?_; first|refine dr ?_|exact dz)
  intro hg1;refine dr ?_;repeat ((first|refine sHiM ((names s).length - 1) (by omega) (by omega) ?_|refine c0 (zkm W0 ((names s).take ((names s).length - 1)) (by omega)) rfl ?_|refine oB (by simp; omega) ?_); first|refine dr ?_|exact dz)
  intro hg2;refine dr ?_;rw [pUp,if_pos hp];have hdl:(names s).take ((names s).length - 1)=(names s).dropLast:=by rw [List.dropLast_eq_take]
  rw [hdl];by_cases hn:(names s).length=1
  ·have:(names s).dropLast=[]:=by
    rw [← List.length_eq_zero_iff,List.length_dropLast]; omega
   rw [if_pos hn,this]; rfl
  ·have:(names s).dropLast≠[]:=by
    intro e; have:=congrArg List.length e; rw [List.length_dropLast] at this; simp at this; omega
   rw [if_neg hn,zee this]; rfl
 | false =>
  rw [if_neg (by simp [hp])] at hc;refine dr ?_;repeat (refine c0 hc rfl ?_; first|refine dr ?_|exact dz)
  intro hg1;refine dr ?_;rw [pUp,if_neg (by simp [hp])]
def zhy:XC:=(.s (.r [.m1 4 .n]) (.s (.r [.mv 5 0,.ex 6 (.len true 5),.mv 7 1,.ex 8 (.len true 7),.b1 9 .geq 6 8,.mv 10 9,.g3 11 0 10,.g3 12 1 10,.gt 13 (.len true 12) 10,.gt 14 (.sls 11 .none (.some 13)) 10,.g3 15 1 10,.gt 16 (.bin .eql 14 15) 10,.p2 17 10 16,.mv 4 17]) .ret))
theorem zhz:zj Tryz.prog [] 177=some (zhy.ac,[(.t 4)],18):=by kernel_rfl
theorem zkZ (W0:World) (s p:Str):Fn Tryz.prog W0 177 [CS s,CS p] (.c (CB (p.isPrefixOf s))) []:=by
 refine fX mixed zhz fun hg=>?_
 refine dr ?_;apply cP<;>intro h1
 ·refine dr ?_;repeat (refine sHi p.length rfl (by omega) ?_; first|refine dr ?_|exact dz)
  refine congrArg CB ?_;rw [Bool.eq_iff_iff,List.isPrefixOf_iff_prefix,List.prefix_iff_eq_take];simp [Z6];exact eq_comm
 ·refine dr ?_;refine bF ?_;rw [Bool.eq_false_iff]; intro h;have:=(List.isPrefixOf_iff_prefix.1 h).length_le;omega
def zjN:XC:=(.s (.r [.m1 4 .n]) (.s (.r [.mv 5 0,.mv 6 1,.c1 7 177 [5,6],.mv 4 7]) .ret))
theorem zjO:zj Tryz.prog [] 163=some (zjN.ac,[(.t 4)],8):=by kernel_rfl
theorem zkl (W0:World) (s p:Str):Fn Tryz.prog W0 163 [CS s,CS p] (.c (CB (p.isPrefixOf s))) []:=by
 refine fX mixed zjO fun hg=>?_
 refine dEr ?_;repeat (refine c0 (zkZ W0 _ _) rfl ?_; first|refine dEr ?_|exact dz)
def zgX:XC:=(.s (.r [.m1 4 .n]) (.s (.s (.r [.mv 5 0,.c1 6 123 [5],.u1 7 6]) (.cnd 7 (.rf 4) .skip)) (.s (.s (.r [.mv 8 1,.ex 9 (.bin .eql 8 (.s [47]))]) (.cnd 9 (.rt 4) .skip)) (.s (.r [.mv 10 1,.c1 11 123 [10],.mv 12 11,.g3 13 0 12,.g3 14 1 12,.gt 15 (.bin .add 14 (.s [47])) 12,.gt 16 (.call 163 [13,15]) 12,.p2 17 12 16,.mv 4 17]) .ret))))
theorem zgY:zj Tryz.prog [] 139=some (zgX.ac,[(.t 4)],18):=by kernel_rfl
def und2 (s d:Str):Bool:=pOk s&&(d==[47]||(pOk d&&(d++[47]).isPrefixOf s))
theorem Y4 {s d:Str} (hs:pOk s=true) (hd:pOk d=true):und2 s d=und s d:=by
 unfold und2 und; rw [hs,hd]; simp
theorem zc6 (W0:World) (hM:HM W0) (s d:Str):Fn Tryz.prog W0 139 [CS s,CS d] (.c (CB (und2 s d))) []:=by
 refine fX mixed zgY fun hg=>?_
 refine dEr ?_;repeat (refine c0 (Q3 W0 hM s) rfl ?_; first|refine dEr ?_|exact dz)
 apply cP<;>intro h1
 ·refine dr ?_;exact bF (by simp [und2,h1])
 refine dr ?_;apply cP<;>intro h2
 ·refine dr ?_;exact bT (by simp [und2,h1,h2])
 refine dEr ?_;repeat (refine c0 (Q3 W0 hM d) rfl ?_; first|refine dEr ?_|exact dz)
 apply cP<;>intro h3
 ·have hl:=(yc h3).2.1;refine dEr ?_;repeat ((first|refine c0 (zkl W0 _ _) rfl ?_|refine oB (by simp; omega) ?_); first|refine dEr ?_|exact dz)
  refine congrArg CB ?_;rw [Bool.eq_iff_iff]; simp [und2,h1,h2,h3]
 ·refine dr ?_;exact bF (by simp [und2,h2,h3])
def zhc:XC:=(.s (.r [.m1 2 .n]) (.s (.s (.r [.mv 6 0,.ex 7 (.len true 6),.b1 8 .gtr 7 (.i 6)]) (.cnd 8 (.rf 2) .skip)) (.s (.s (.r [.m1 3 (.i 0)]) (.blk 0 (.loop (.s (.s (.r [.mv 9 3,.mv 10 0,.ex 11 (.len true 10),.b1 12 .lss 9 11]) (.ce 12 0)) (.s (.blk 1 (.s (.r [.mv 15 0,.mv 16 3,.ex 17 (.idx 15 16),.b1 18 .geq 17 (.u 97),.mv 19 18,.g3 20 0 19,.g3 21 3 19,.gt 22 (.idx 20 21) 19,.gt 23 (.bin .leq 22 (.u 122)) 19,.p2 24 19 23,.mv 4 24]) (.s (.r [.mv 25 0,.mv 26 3,.ex 27 (.idx 25 26),.b1 28 .geq 27 (.u 48),.mv 29 28,.g3 30 0 29,.g3 31 3 29,.gt 32 (.idx 30 31) 29,.gt 33 (.bin .leq 32 (.u 57)) 29,.p2 34 29 33,.mv 5 34]) (.s (.r [.mv 35 4,.u1 36 35,.mv 37 36,.g3 38 5 37,.gt 39 (.un .not 38) 37,.p2 40 37 39]) (.cnd 40 (.rf 2) .skip))))) (.ic 13 14 3)))))) (.rt 2))))
theorem zhd:zj Tryz.prog [] 124=some (zhc.ac,[(.t 2)],41):=by kernel_rfl
theorem zc1 (W0:World) (s:Str):Fn Tryz.prog W0 124 [CS s] (.c (CB (jY s))) []:=by
 refine fX mixed zhd fun hg=>?_
 refine dr ?_;apply cP<;>intro h1
 ·refine dr ?_;exact bF (by rw [jY]; simp; omega)
 refine dr ?_;refine lp (σ:=Nat) (fun k=>[(0,.c (CS s)),(3,I k)]) (fun _=>[]) (fun k=>k≤s.length∧(s.take k).all jI=true) (fun k=>s.length - k) 0 ⟨by simp,by simp⟩ ?_ ?_
 ·refine dr ?_;trivial
 rintro k ⟨hk,ha⟩;refine dr ?_;apply cP<;>intro h2
 ·have hk':k < s.length:=by omega
  have no:jI s[k]=false→CB false=CB (jY s):=fun h=>bF (by rw [jY,ZY hk' h]; rfl)
  have nx:jI s[k]=true→∃ x',(x'≤s.length∧(s.take x').all jI=true)∧x'=k+1:=fun h=>⟨k+1,⟨by omega,qE hk' ha h⟩,rfl⟩
  refine dr ?_;apply cP<;>intro h3
  ·refine dr ?_;apply cP<;>intro h4
   ·refine dr ?_;apply cP<;>intro h5
    ·refine dr ?_;apply cP<;>intro h6
     ·refine dr ?_;exact no (by simp [jI,jt]; omega)
     ·omega
    ·refine dr ?_;refine ⟨k+1,⟨by omega,qE hk' ha (by simp [jI,jt]; omega)⟩,by omega,?_⟩;refine dr ?_;trivial
   ·omega
  ·refine dr ?_;apply cP<;>intro h4
   ·refine dr ?_;apply cP<;>intro h6
    ·refine dr ?_;exact no (by simp [jI,jt]; omega)
    ·refine dr ?_;refine ⟨k+1,⟨by omega,qE hk' ha (by simp [jI,jt]; omega)⟩,by omega,?_⟩;refine dr ?_;trivial
   ·refine dr ?_;exact no (by simp [jI,jt]; omega)
 ·have:k=s.length:=by omega
  subst this;rw [List.take_length] at ha;refine dr ?_;exact bT (by rw [jY,ha]; simp; omega)
end Go.Proofs.YtmkmldepkponaaaGreatDoor

namespace Go.Proofs.YtmkmldepkponaaaGreatDoor
set_option linter.unusedSimpArgs false
set_option linter.unusedVariables false
open Go Go.RowKit
theorem cmpNaN (x:ByteArray) (W:World):Calls Tryz.prog 166 #[.string x] W fun e w'=>e = .returned (.bool false)∧w'=W:=by
 go_enter Tryz.func166,Tryz.ntmps166;go_wp2;go_ret;exact ⟨rfl,rfl⟩
def cmpS (a b:Str):Int:=if ltS a b=true then -1 else if ltS b a=true then 1 else 0
theorem zcD (x y:Str) (W:World):Calls Tryz.prog 142 #[.string ⟨⟨x⟩⟩,.string ⟨⟨y⟩⟩] W fun e w'=>e = .returned (.int .i64 (cmpS x y))∧w'=W:=by
 go_enter Tryz.func142,Tryz.ntmps142;go_wp2_with (go_at_call 166; refine (cmpNaN _ _).mono ?_; rintro e w' ⟨rfl,rfl⟩)
 ·have h:Op.bytesLess x y=true:=by assumption
  go_ret;refine ⟨?_,rfl⟩;rw [cmpS,Zg,if_pos h]; rfl
 ·have h:Op.bytesLess x y=false:=by assumption
  have h2:(!x==y)=true:=by assumption
  go_ret;refine ⟨?_,rfl⟩;have h3:ltS y x=true:=by
   rcases Yt x y with e | e | e
   ·subst e; simp at h2
   ·rw [Zg,h] at e; cases e
   ·exact e
  rw [cmpS,Zg,if_neg (by simp [h]),if_pos h3]; rfl
 ·have h:Op.bytesLess x y=false:=by assumption
  have h2:(!x==y)=false:=by assumption
  go_ret;refine ⟨?_,rfl⟩;have e:x=y:=by simpa using h2
  subst e;rw [cmpS,qZ]; rfl
theorem zah (a b:Str):decide (cmpS a b < 0)=ltS a b:=by
 unfold cmpS;cases h:ltS a b with
 | true=>simp
 | false =>
  cases h2:ltS b a with
  | true=>simp
  | false=>simp
def vEnt (x:Ent):List Value:=[.string ⟨⟨x.path⟩⟩,(.bool x.dir),.string ⟨⟨x.data⟩⟩]
theorem zj1 (x y:Ent) (W:World):Calls Tryz.prog 156 #[.agg #[.string ⟨⟨x.path⟩⟩,(.bool x.dir),.string ⟨⟨x.data⟩⟩],.agg #[.string ⟨⟨y.path⟩⟩,(.bool y.dir),.string ⟨⟨y.data⟩⟩]] W fun e w'=>e = .returned (.int .i64 (cmpS x.path y.path))∧∃ q os',w'=Sort.grow (W.drewN q) os':=by
 have hcon:=fun W'=>zcD x.path y.path W'
 generalize cmpS x.path y.path=r at hcon ⊢;go_enter Tryz.func156,Tryz.ntmps156;go_wp2_with (go_at_call 142; refine (hcon _).mono ?_; rintro e w' ⟨rfl,rfl⟩);go_ret;exact ⟨rfl,0,_,by rw [Sort.alloc_eq_grow,Sort.alloc_eq_grow,Sort.grow_grow]; rfl⟩
def vMark (x:Mark):List Value:=[.string ⟨⟨x.path⟩⟩,(.int .i64 x.kind),.string ⟨⟨x.data⟩⟩]
theorem zj2 (x y:Mark) (W:World):Calls Tryz.prog 141 #[.agg #[.string ⟨⟨x.path⟩⟩,(.int .i64 x.kind),.string ⟨⟨x.data⟩⟩],.agg #[.string ⟨⟨y.path⟩⟩,(.int .i64 y.kind),.string ⟨⟨y.data⟩⟩]] W fun e w'=>e = .returned (.int .i64 (cmpS x.path y.path))∧∃ q os',w'=Sort.grow (W.drewN q) os':=by
 have hcon:=fun W'=>zcD x.path y.path W'
 generalize cmpS x.path y.path=r at hcon ⊢;go_enter Tryz.func141,Tryz.ntmps141;go_wp2_with (go_at_call 142; refine (hcon _).mono ?_; rintro e w' ⟨rfl,rfl⟩);go_ret;exact ⟨rfl,0,_,by rw [Sort.alloc_eq_grow,Sort.alloc_eq_grow,Sort.grow_grow]; rfl⟩
end Go.Proofs.YtmkmldepkponaaaGreatDoor

namespace Go.Proofs.YtmkmldepkponaaaGreatDoor
set_option linter.unusedSimpArgs false
set_option linter.unusedVariables false
open Go Go.RowKit
theorem zdG {α:Type} [Inhabited α] {enc:α→List Value} {k:Nat} (hk:∀ x,(enc x).length=k):∀ (l:List α) (t:Nat),t < l.length * k→(l.flatMap enc)[t]! = (enc l[t / k]!)[t % k]!
 | [],t,h=>by simp at h
 | a::r,t,h=>by
  have k0:0 < k:=by
   rcases Nat.eq_zero_or_pos k with h0 | h0
   ·subst h0; simp at h
   ·exact h0
  rw [List.flatMap_cons];by_cases ht:t < k
  ·rw [Nat.div_eq_of_lt ht,Nat.mod_eq_of_lt ht];have e:(enc a++r.flatMap enc)[t]? = (enc a)[t]? := List.getElem?_append_left (by rw [hk]; exact ht);simp only [List.getElem!_eq_getElem?_getD,e];simp
  ·have h2:t - k < r.length * k:=by rw [List.length_cons,Nat.add_mul,Nat.one_mul] at h; omega
   have ih:=zdG hk r (t - k) h2;have e:(enc a++r.flatMap enc)[t]? = (r.flatMap enc)[t - k]? := by rw [List.getElem?_append_right (by rw [hk]; omega),hk]
   have e1:t / k=(t - k) / k+1:=by
    conv=>lhs; rw [show t=t - k+k by omega]
    exact Nat.add_div_right _ k0
   have e2:t % k=(t - k) % k:=by
    conv=>lhs; rw [show t=t - k+k by omega]
    exact Nat.add_mod_right _ _
   rw [e1,e2];simp only [List.getElem!_eq_getElem?_getD] at ih ⊢;rw [e,ih]; simp
theorem J4 {α:Type} {enc:α→List Value} {k:Nat} (hk:∀ x,(enc x).length=k):∀ (l:List α),(l.flatMap enc).length=l.length * k
 | []=>by simp
 | a::r=>by rw [List.flatMap_cons,List.length_append,J4 hk r,hk,List.length_cons,Nat.add_mul]; omega
theorem zdA {α:Type} [Inhabited α] {enc:α→List Value} {k:Nat} (hk:∀ x,(enc x).length=k) (l:List α):Sort.flatK enc k l.toArray=(l.flatMap enc).toArray:=by
 refine Sort.ext_get! (by simp [J4 hk]) fun t ht=>?_
 have ht':t < l.length * k:=by simpa using ht
 rw [Sort.get_flatK _ _ _ _ (by simpa using ht')];have:=zdG hk l t ht';simp only [List.getElem!_eq_getElem?_getD] at this;simp [this]
theorem zmJ {w:World} {b:Nat} {F F' rest:List Value} {e:TypeId} {n:Nat} {os:Array Obj} (hb:w.heap[b]? = some (.cells (F++rest).toArray e (0,0))) (hl:F'.length=F.length) :
  (Sort.grow (Sort.putRow id (Sort.ahead w n) b 0 F'.toArray) os).heap[b]? = some (.cells (F'++rest).toArray e (0,0)):=by
 have hlt:b < w.heap.size:=(Array.getElem?_eq_some_iff.1 hb).1;unfold Sort.grow;simp only;rw [Array.getElem?_append_left (by simpa using hlt)];unfold Sort.putRow Sort.mapBlock;simp only [Sort.heap_ahead,Array.getElem?_modify,if_true,hb,Option.map_some,Sort.onCells]
 congr 2
 unfold Sort.putCells;apply Array.ext
 ·simp [hl]
 ·intro i h1 h2;simp only [Array.getElem_mapIdx,List.getElem_toArray];simp at h1;by_cases hi:i < F'.length
  ·rw [if_pos (by simp; omega),List.getElem_append_left hi];simp [hi]
  ·rw [if_neg (by simp; omega),List.getElem_append_right (by omega),List.getElem_append_right (by omega)];simp only [hl]
theorem zmL {w:World} {b k:Nat} {F':List Value} {n:Nat} {os:Array Obj} (hk:k < w.heap.size) (hne:b≠k) :
  (Sort.grow (Sort.putRow id (Sort.ahead w n) b 0 F'.toArray) os).heap[k]? = w.heap[k]? := by
 unfold Sort.grow;simp only;rw [Array.getElem?_append_left (by simpa using hk)];unfold Sort.putRow Sort.mapBlock;simp [Array.getElem?_modify,hne]
section
variable {κ:Kap} {m:Mem} {w:World} {α:Type} {enc:α→List Value} {f:α→CV}
theorem zmU {v u:Value} (h:zc κ m w (.c (.sc v)) u):u=v∧wfv v:=by
 have h:RepC w (zi κ m) (.sc v) u:=h;cases h; exact ⟨rfl,by assumption⟩
theorem zfd:∀ {vs us:List Value},za (zc κ m w) (vs.map fun v => .c (.sc v)) us→us=vs∧∀ v∈vs,wfv v
 | [],[],_=>⟨rfl,by simp⟩
 | v::vs,u::us,h=>by
  obtain ⟨h1,h2⟩:=zmU h.1;obtain ⟨h3,h4⟩:=zfd h.2;exact ⟨by rw [h1,h3],by simpa using ⟨h2,h4⟩⟩
 | [],_::_,h=>h.elim
 | _::_,[],h=>h.elim
theorem zfq:∀ {vs:List Value},(∀ v∈vs,wfv v)→za (zc κ m w) (vs.map fun v => .c (.sc v)) vs
 | [],_=>trivial
 | v::vs,h=>⟨show RepC w (zi κ m) (.sc v) v from .sc (h v (by simp)),zfq fun u hu=>h u (by simp [hu])⟩
theorem zad (hf:∀ a,f a = .agg ((enc a).map .sc)):∀ (X:List α),((X.map f).map PV.c).flatMap PV.cells=(X.flatMap enc).map fun v => .c (.sc v)
 | []=>rfl
 | a::X=>by
  rw [List.map_cons,List.map_cons,List.flatMap_cons,List.flatMap_cons,List.map_append,zad hf X,hf];simp [PV.cells,CV.cells]
end
theorem zfG {α:Type} [Inhabited α] {P:Program} {W0:World} {F:FuncId} {fv:Value} {T:TypeId} {id k:Nat} {enc:α→List Value} {f:α→CV} {key:α→Str} {lt:α→α→Bool} (hf:∀ a,f a = .agg ((enc a).map .sc)) (hk:∀ x,(enc x).length=k) (h0:0 < k) (hlt:∀ a b,lt a b=ltS (key a) (key b))
  (hnone:∀ p cap w,Calls P F #[.slice p 0 cap,fv] w fun e w'=>e = .returned (.tuple #[])∧w'=w)
  (hsome:∀ b cap (d:Array α) w,Sort.HoldsK enc k w b 0 d→b < w.heap.size→d.size < 4611686018427387904→Calls P F #[.slice (some ⟨b,0,none⟩) d.size cap,fv] w fun e w' =>
   e = .returned (.tuple #[])∧∃ d' n os,Sort.PermIn 0 d.size d d'∧Sort.SortedIn lt 0 d.size d'∧w'=sortWorldK enc k w b 0 n d' os)
  (X:List α) (hX:X.length≤1000000) :
  zy P W0 F [.own id X.length,.c (.sc fv)] [(id,.row (X.map f) k T)] (qc key X) (fun _ => .c (.tup [])) (fun S=>[(id,.row (S.map f) k T)]):=by
 intro κ w vs hB hm hr;obtain ⟨v1,v2,hvs⟩:∃ v1 v2,vs.toList=[v1,v2]:=by
  have:=za.length hr
  match h:vs.toList with
  | [a,b]=>exact ⟨a,b,rfl⟩
  | [] | [_] | _::_::_::_=>rw [h] at this; simp at this
 rw [hvs] at hr;obtain ⟨r1,r2,_⟩:=hr;have e2:v2=fv:=by
  have r2:RepC w (zi κ (er [(id,.row (X.map f) k T)])) (.sc fv) v2:=r2;cases r2; rfl
 subst e2;obtain ⟨⟨a,cap0,rfl,_⟩,hnm,L,sz,e,g1,g2,g3,_⟩:=r1;have hl:lk (er [(id,XB.row (X.map f) k T)]) id=some (.row ((X.map f).map .c) k T):=by simp [er,lk,XB.er]
 rw [hl] at g1;cases g1;have gO:=g3 (by simp);have hv:vs=#[.slice a X.length cap0,v2]:=by rw [← hvs]
 subst hv;have ret:∀ {κ':Kap} {m':Mem} {w':World},Rep κ' m' w' (.c (.tup [])) (.tuple #[]):=fun {κ' m' w'}=>show RepC w' _ (.tup []) (.tuple [].toArray) from .tup rfl (by simp)
 by_cases hXn:X=[]
 ·subst hXn;refine (hnone a cap0 w).mono ?_;rintro e w' ⟨rfl,rfl⟩;exact ⟨_,_,_,κ,rfl,⟨_,rfl,[],⟨List.Perm.nil,List.Pairwise.nil⟩,rfl,rfl⟩,hm,ret⟩
 obtain ⟨hsz,_,hblk⟩:=hm.mem.blk id _ hl;rcases hblk with ⟨_,hL⟩ | ⟨b,us,rest,hkb,hh,hall⟩
 ·rcases hL with hL | hL
  ·simp at hL; exact absurd hL hXn
  ·have:=Jk hL; simp [maxLen] at this; omega
 unfold zW at gO;rw [hkb] at gO;obtain ⟨cap,arr,e',hsl,hle,hcap,hb2,hsz2⟩:=gO;injection hsl with q1 q2 q3
 subst q1 q3;rw [zad hf] at hall;obtain ⟨rfl,hwf⟩:=zfd hall;have hblt:b < w.heap.size:=(Array.getElem?_eq_some_iff.1 hh).1;have hfl:=J4 hk X;have hH:Sort.HoldsK enc k w b 0 X.toArray:=by
  unfold Sort.HoldsK;rw [zdA hk];intro j hj;have hj':j < (X.flatMap enc).length:=by simpa using hj
  refine ⟨?_,?_⟩
  ·unfold World.cell?;simp only [hh,Nat.zero_add];rw [List.getElem?_toArray,List.getElem?_append_left hj',List.getElem?_eq_getElem hj'];have:(X.flatMap enc).toArray[j]! = (X.flatMap enc)[j]:=by rw [getElem!_pos _ j (by simpa using hj')]; rfl
   exact congrArg some this.symm
  ·unfold World.frozen?;simp only [hh]; simp
 have hs:=hsome b cap0 X.toArray w hH hblt (by simp; omega);simp only [List.size_toArray] at hs;refine hs.mono ?_;rintro e w' ⟨rfl,d',n,os,hp,hsd,rfl⟩;have hds:d'.size=X.length:=by simpa using hp.1
 have hperm:d'.toList.Perm X:=by
  have:=hp.2.2;rw [Array.extract_eq_self_of_le (by omega)] at this
  simpa using this
 have hsorts:qc key X d'.toList:=by
  refine ⟨hperm,?_⟩;rw [List.pairwise_iff_getElem];intro i j hi hj hij;rw [← hlt];have:=hsd i j (Nat.zero_le _) hij (by simpa [hds] using hj)
  simpa [getElem!_pos,show i < d'.size by simpa using hi,show j < d'.size by simpa using hj] using this
 have hwf':∀ v∈d'.toList.flatMap enc,wfv v:=by
  intro v hv;obtain ⟨x,hx,hv⟩:=List.mem_flatMap.1 hv;exact hwf v (List.mem_flatMap.2 ⟨x,hperm.mem_iff.1 hx,hv⟩)
 have hW:sortWorldK enc k w b 0 n d' os=Sort.grow (Sort.putRow _root_.id (Sort.ahead w n) b 0 (d'.toList.flatMap enc).toArray) os:=by
  unfold sortWorldK Sort.putRowK;rw [← zdA hk d'.toList]
 rw [hW];have hl2:(d'.toList.flatMap enc).length=(X.flatMap enc).length:=by rw [J4 hk,J4 hk]; simp [hds]
 have hheap:=zmJ (n:=n) (os:=os) hh hl2;have e1:upd (er [(id,XB.row (X.map f) k T)]) id (.row ((d'.toList.map f).map .c) k T)=er [(id,XB.row (d'.toList.map f) k T)]:=by simp [er,XB.er,upd]
 have hturn:=hm.turn (κ':=κ) (id:=id) (x := .row ((d'.toList.map f).map .c) k T) (y := .row ((X.map f).map .c) k T) (w':=Sort.grow (Sort.putRow _root_.id (Sort.ahead w n) b 0 (d'.toList.flatMap enc).toArray) os)
  hB.size hl rfl rfl rfl (by simp [Sort.grow,Sort.putRow,Sort.mapBlock]) rfl (fun _ _=>rfl) (fun j hj hne=>zmL hj (fun e=>hne (by rw [hkb,e]))) (.inl rfl) (fun cs h=>by cases h)
  (fun L sz e h=>by
   cases h;refine ⟨_,rfl,by simp [hds],fun _=>⟨rfl,fun b' arr e' hb' ha=>?_⟩⟩;rw [hkb] at hb'; cases hb';rw [hh] at ha; cases ha;exact ⟨_,hheap,by simp [hl2]⟩)
  (fun _=>by
   refine ⟨fun x hx=>?_,h0,.inr ⟨b,_,rest,hkb,hheap,?_⟩⟩
   ·obtain ⟨y,hy,rfl⟩:=List.mem_map.1 hx;obtain ⟨z,_,rfl⟩:=List.mem_map.1 hy;rw [hf]; simp [PV.cells,CV.cells,hk]
   ·rw [zad hf]; exact zfq hwf') (.inr ⟨b,hkb⟩)
 rw [e1] at hturn;exact ⟨_,_,_,κ,rfl,⟨_,rfl,d'.toList,hsorts,rfl,rfl⟩,hturn.1,ret⟩
instance:Inhabited Ent:=⟨⟨[],false,[]⟩⟩
instance:Inhabited Mark:=⟨⟨[],0,[]⟩⟩
theorem zeu {x y z:Str} (h1:ltS x y=false) (h2:ltS y z=false):ltS x z=false:=by
 rcases Qe h1 with rfl | h3
 ·exact h2
 ·rcases Qe h2 with rfl | h4
  ·exact ZL h3
  ·exact ZL (yT h4 h3)
theorem swoS {α:Type} [Inhabited α] (key:α→Str):Sort.SWO (ltOf fun x y:α=>cmpS (key x) (key y)):=by
 have e:∀ x y:α,ltOf (fun x y:α=>cmpS (key x) (key y)) x y=ltS (key x) (key y):=fun x y=>zah _ _
 refine ⟨fun x=>?_,fun x y z h1 h2=>?_,fun x y z h1 h2=>?_⟩
 ·rw [e]; exact qZ _
 ·rw [e] at *; exact yT h1 h2
 ·rw [e] at *; exact zeu h1 h2
theorem JC {α:Type} {key:α→Str} {X:List α}:∃ S,qc key X S:=by
 refine ⟨X.mergeSort (fun a b=>!ltS (key b) (key a)),List.mergeSort_perm _ _,?_⟩;have h:=List.pairwise_mergeSort (le:=fun a b:α=>!ltS (key b) (key a)) (fun a b c h1 h2=>by
  simp only [Bool.not_eq_true'] at *; exact zeu h2 h1) (fun a b=>by
  rcases Yt (key a) (key b) with h | h | h
  ·rw [h,qZ]; rfl
  ·rw [ZL h]; rfl
  ·rw [ZL h]; simp) X
 exact h.imp fun h=>by simpa using h
def zhs:XC:=(.r [.mv 2 0,.ex 3 (.opn 155 [2,(.k (.c (.sc (.func (.func 156) #[] #[]))))])])
theorem zht:zj Tryz.prog [155] 113=some (zhs.ac,[],4):=by kernel_rfl
theorem zkr (W0:World) (id:Nat) (X:List Ent) (hX:X.length≤1000000):zy Tryz.prog W0 155 [.own id X.length,.c (.sc (.func (.func 156) ⟨[]⟩ ⟨[]⟩))] [(id,.row (X.map zs) 3 77)] (qc Ent.path X) (fun _ => .c (.tup [])) (fun S=>[(id,.row (S.map zs) 3 77)]):=by
 have eg:∀ args w,(callFunc 156 args).run Tryz.prog w = .ok (.enter 156 args) w:=enters_of Tryz.func156 (by kernel_rfl) rfl;refine zfG (enc:=vEnt) (lt:=ltOf fun x y:Ent=>cmpS x.path y.path) (fun _=>rfl) (fun _=>rfl) (by decide) (fun x y=>zah _ _) (fun p cap w=>?_) (fun b cap d w hH hb hd=>?_) X hX
 ·exact AnyF.slices_SortFunc_none { Tryz.sortE with } p cap _ w
 ·exact AnyQ.slices_SortFunc Tryz.sortE 3 Tryz.isAgg77 Tryz.sizeOf77 vEnt (fun _=>rfl) (fun x v hv=>by simp [vEnt] at hv; rcases hv with rfl|rfl|rfl<;>rfl) (fun x y=>cmpS x.path y.path) (swoS Ent.path) 156 #[] b 0 cap d w eg (fun _ _ _ _ x y=>zj1 x y _) hH hb hd
theorem zdh (W0:World) (X:List Ent) (hX:X.length≤1000000):zy Tryz.prog W0 113 [.own 1 X.length] [(1,.row (X.map zs) 3 77)] (qc Ent.path X) (fun _ => .tup []) (fun S=>[(1,.row (S.map zs) 3 77)]):=by
 refine fW mixed zht fun hg=>?_
 refine dr ?_;refine oW (zkr W0 1 X hX) rfl ⟨rfl,trivial⟩ rfl rfl JC fun S hS=>⟨rfl,?_⟩
 refine dr ?_;refine ⟨none,_,_,?_,S,hS,rfl,rfl⟩;refine dr ?_;trivial
def zhu:XC:=(.r [.mv 2 0,.ex 3 (.opn 140 [2,(.k (.c (.sc (.func (.func 141) #[] #[]))))])])
theorem zhv:zj Tryz.prog [140] 107=some (zhu.ac,[],4):=by kernel_rfl
theorem zks (W0:World) (id:Nat) (X:List Mark) (hX:X.length≤1000000):zy Tryz.prog W0 140 [.own id X.length,.c (.sc (.func (.func 141) ⟨[]⟩ ⟨[]⟩))] [(id,.row (X.map zq) 3 34)] (qc Mark.path X) (fun _ => .c (.tup [])) (fun S=>[(id,.row (S.map zq) 3 34)]):=by
 have eg:∀ args w,(callFunc 141 args).run Tryz.prog w = .ok (.enter 141 args) w:=enters_of Tryz.func141 (by kernel_rfl) rfl;refine zfG (enc:=vMark) (lt:=ltOf fun x y:Mark=>cmpS x.path y.path) (fun _=>rfl) (fun _=>rfl) (by decide) (fun x y=>zah _ _) (fun p cap w=>?_) (fun b cap d w hH hb hd=>?_) X hX
 ·exact AnyF.slices_SortFunc_none { Tryz.sortM with } p cap _ w
 ·exact AnyQ.slices_SortFunc Tryz.sortM 3 Tryz.isAgg34 Tryz.sizeOf34 vMark (fun _=>rfl) (fun x v hv=>by simp [vMark] at hv; rcases hv with rfl|rfl|rfl<;>rfl) (fun x y=>cmpS x.path y.path) (swoS Mark.path) 141 #[] b 0 cap d w eg (fun _ _ _ _ x y=>zj2 x y _) hH hb hd
theorem zdi (W0:World) (X:List Mark) (hX:X.length≤1000000):zy Tryz.prog W0 107 [.own 1 X.length] [(1,.row (X.map zq) 3 34)] (qc Mark.path X) (fun _ => .tup []) (fun S=>[(1,.row (S.map zq) 3 34)]):=by
 refine fW mixed zhv fun hg=>?_
 refine dr ?_;refine oW (zks W0 1 X hX) rfl ⟨rfl,trivial⟩ rfl rfl JC fun S hS=>⟨rfl,?_⟩
 refine dr ?_;refine ⟨none,_,_,?_,S,hS,rfl,rfl⟩;refine dr ?_;trivial
end Go.Proofs.YtmkmldepkponaaaGreatDoor

namespace Go.Proofs.YtmkmldepkponaaaGreatDoor
set_option linter.unusedSimpArgs false
set_option linter.unusedVariables false
open Go Go.RowKit
theorem zdI {α:Type} {key:α→Str} {t:List α} {p:Str} {k:Nat} (h:k < t.length) (hp:key t[k]=p) (hn:∀ i (h':i < t.length),i < k→key t[i]≠p):fnd key t p=some t[k]:=by
 unfold fnd;rw [List.find?_eq_some_iff_getElem];exact ⟨by simp [hp],k,h,rfl,fun i hi=>by simpa using hn i (by omega) hi⟩
theorem zdH {α:Type} {key:α→Str} {t:List α} {p:Str} (hn:∀ i (h':i < t.length),key t[i]≠p):fnd key t p=none :=
 j5.2 fun e he=>by obtain ⟨i,hi,rfl⟩:=List.mem_iff_getElem.1 he; exact hn i hi
def noM:Mark:=⟨[],0,[]⟩
def eMarkO:Option Mark→CV
 | none => .tup [zq noM,CB false]
 | some m => .tup [zq m,CB true]
theorem Z3 (o:Option Mark):eMarkO o = .tup [zq (o.getD noM),CB o.isSome]:=by cases o<;>rfl
def zhe:XC:=(.s (.r [.ex 4 (.alloc zE),.m1 5 .n]) (.s (.s (.r [.mv 8 0,.n1 9 8,.m1 10 (.i 0)]) (.blk 0 (.loop (.s (.r [.b1 11 .lss 10 9]) (.s (.ce 11 0) (.s (.blk 1 (.s (.r [.i1 12 3 8 10,.l2 13 3 12,.ex 7 (.alloc zE),.s1 3 7 13]) (.s (.r [.f1 14 0 7,.l1 15 1 14,.mv 16 1,.b1 17 .eql 15 16]) (.cnd 17 (.s (.r [.l2 18 3 7,.s1 3 4 18,.m1 5 .y]) .ret) .skip)))) (.r [.b1 19 .add 10 (.i 1),.mv 10 19]))))))) (.s (.r [.ex 20 (.build zE []),.s1 3 4 20,.m1 5 .n]) .ret)))
theorem zhf:zj Tryz.prog [] 115=some (zhe.ac,[(.cell 4 true 3),(.t 5)],21):=by kernel_rfl
theorem zay (W0:World) (t:List Ent) (p:Str):Fn Tryz.prog W0 115 [zh t,CS p] (.c (eEntO (find t p))) []:=by
 refine fX mixed zhf fun hg=>?_
 have g1:=jJ (hg _ (by simp:zh t∈_));refine dr ?_;refine lp (σ:=Nat) (fun k=>[(1,.c (CS p)),(4,.ptr 64 0),(8,.c (zh t)),(9,I t.length),(10,I k)]) (fun _=>[(64,.box [.c (CS []),(.c (CB false)),.c (CS [])])]) (fun k=>k≤t.length∧∀ i (h':i < t.length),i < k→t[i].path≠p) (fun k=>t.length - k) 0 ⟨by simp,by simp⟩ ?_ ?_
 ·refine dr ?_;trivial
 rintro k ⟨hk,ha⟩;refine dr ?_;apply cP<;>intro h1
 ·refine dr ?_;apply cP<;>intro h2
  ·refine dr ?_;have:find t p=some t[k]:=zdI (key:=Ent.path) (by omega) h2 ha;rw [this]; rfl
  ·refine dr ?_;refine ⟨k+1,⟨by omega,fun i h' hi=>?_⟩,by omega,?_⟩
   ·by_cases e:i=k
    ·subst e; exact h2
    ·exact ha i h' (by omega)
   ·refine dr ?_;trivial
 ·refine dr ?_;have:find t p=none:=zdH (key:=Ent.path) fun i h'=>ha i h' (by omega)
  rw [this]; rfl
def zhi:XC:=(.s (.r [.ex 4 (.alloc [sE,(I 0),sE]),.m1 5 .n]) (.s (.s (.r [.mv 8 0,.n1 9 8,.m1 10 (.i 0)]) (.blk 0 (.loop (.s (.r [.b1 11 .lss 10 9]) (.s (.ce 11 0) (.s (.blk 1 (.s (.r [.i1 12 3 8 10,.l2 13 3 12,.ex 7 (.alloc [sE,(I 0),sE]),.s1 3 7 13]) (.s (.r [.f1 14 0 7,.l1 15 1 14,.mv 16 1,.b1 17 .eql 15 16]) (.cnd 17 (.s (.r [.l2 18 3 7,.s1 3 4 18,.m1 5 .y]) .ret) .skip)))) (.r [.b1 19 .add 10 (.i 1),.mv 10 19]))))))) (.s (.r [.ex 20 (.build [sE,(I 0),sE] []),.s1 3 4 20,.m1 5 .n]) .ret)))
theorem zhj:zj Tryz.prog [] 118=some (zhi.ac,[(.cell 4 true 3),(.t 5)],21):=by kernel_rfl
theorem Jb (W0:World) (t:List Mark) (p:Str):Fn Tryz.prog W0 118 [ze t,CS p] (.c (eMarkO (zD t p))) []:=by
 refine fX mixed zhj fun hg=>?_
 have g1:=jJ (hg _ (by simp:ze t∈_));refine dr ?_;refine lp (σ:=Nat) (fun k=>[(1,.c (CS p)),(4,.ptr 64 0),(8,.c (ze t)),(9,I t.length),(10,I k)]) (fun _=>[(64,.box [.c (CS []),(.c (CI 0)),.c (CS [])])]) (fun k=>k≤t.length∧∀ i (h':i < t.length),i < k→t[i].path≠p) (fun k=>t.length - k) 0 ⟨by simp,by simp⟩ ?_ ?_
 ·refine dr ?_;trivial
 rintro k ⟨hk,ha⟩;refine dr ?_;apply cP<;>intro h1
 ·refine dr ?_;apply cP<;>intro h2
  ·refine dr ?_;have:zD t p=some t[k]:=zdI (key:=Mark.path) (by omega) h2 ha;rw [this]; rfl
  ·refine dr ?_;refine ⟨k+1,⟨by omega,fun i h' hi=>?_⟩,by omega,?_⟩
   ·by_cases e:i=k
    ·subst e; exact h2
    ·exact ha i h' (by omega)
   ·refine dr ?_;trivial
 ·refine dr ?_;have:zD t p=none:=zdH (key:=Mark.path) fun i h'=>ha i h' (by omega)
  rw [this]; rfl
def zg7:XC:=(.s (.r [.a2 2 3 77]) (.s (.r [.mv 3 0,.ex 4 (.app true 3 40 77 (.k .nil) 3),.a1 2 4 3 77]) .ret))
theorem zg8:zj Tryz.prog [] 86=some (zg7.ac,[(.t 2)],5):=by kernel_rfl
theorem zaw (W0:World) (t:List Ent) (ht:t.length≤1000000):Fn Tryz.prog W0 86 [zh t] (.c (zh t)) []:=by
 refine fX mixed zg8 fun hg=>?_
 refine dr ?_;repeat ((first|refine oB (by simp; omega) ?_|refine oB (by simp) ?_); first|refine dr ?_|exact dz)
 rfl
def zhw:XC:=(.s (.r [.m1 4 (.i 0)]) (.s (.r [.mv 8 1,.c1 9 117 [8],.mv 5 9]) (.s (.s (.r [.mv 10 5,.ex 11 (.bin .eql 10 (.s [47]))]) (.cnd 11 (.s (.r [.m1 4 (.i 0)]) .ret) .skip)) (.s (.r [.mv 13 0,.mv 14 5,.c1 15 115 [13,14],.mv 12 15,.e1 16 12 0,.e1 17 12 1,.ex 6 (.alloc zE),.s1 3 6 16,.mv 7 17]) (.s (.s (.r [.mv 18 7,.u1 19 18]) (.cnd 19 (.s (.r [.m1 4 (.i 2)]) .ret) .skip)) (.s (.s (.r [.f1 20 1 6,.l1 21 1 20,.u1 22 21]) (.cnd 22 (.s (.r [.m1 4 (.i 3)]) .ret) .skip)) (.s (.r [.m1 4 (.i 0)]) .ret)))))))
theorem zhx:zj Tryz.prog [] 116=some (zhw.ac,[(.t 4)],23):=by kernel_rfl
theorem Jc (W0:World) (hM:HM W0) (t:List Ent) (p:Str):Fn Tryz.prog W0 116 [zh t,CS p] (.c (CI (upC2 t p))) []:=by
 refine fX mixed zhx fun hg=>?_
 refine dEr ?_;repeat (refine c0 (yK W0 hM p) rfl ?_; first|refine dEr ?_|exact dz)
 apply cP<;>intro h1
 ·refine dr ?_;rw [upC2,if_pos h1]<;>rfl
 have hc:=zay W0 t (pUp p);rw [upC2,if_neg h1];cases hx:find t (pUp p) with
 | none =>
  rw [hx] at hc;refine dEr ?_;repeat (refine c0 hc rfl ?_; first|refine dEr ?_|exact dz)
  try rfl
 | some e =>
  rw [hx] at hc;refine dEr ?_;repeat (refine c0 hc rfl ?_; first|refine dEr ?_|exact dz)
  apply cP<;>intro h2
  ·refine dr ?_;exact congrArg CI (by simp [h2])
  ·refine dr ?_;exact congrArg CI (by simp [h2])
def zg1:XC:=(.s (.r [.m1 2 .n]) (.s (.s (.r [.mv 5 0,.n1 6 5,.b1 7 .gtr 6 (.i 16)]) (.cnd 7 (.rf 2) .skip)) (.s (.s (.r [.mv 8 0,.n1 9 8,.m1 10 (.i 0)]) (.blk 0 (.loop (.s (.r [.b1 11 .lss 10 9]) (.s (.ce 11 0) (.s (.blk 1 (.s (.r [.mv 12 10,.i1 13 3 8 10,.l2 14 3 13,.ex 4 (.alloc zE),.mv 3 12,.s1 3 4 14]) (.s (.s (.r [.f1 15 0 4,.l1 16 1 15,.c1 17 123 [16],.u1 18 17,.mv 19 18,.h1 20 2 4 19,.h2 21 1 20 19,.gf 22 (.call 124 [21]) 19,.gf 23 (.un .not 22) 19,.p1 24 19 23,.mv 25 24,.h1 26 1 4 25,.h2 27 1 26 25,.h3 28 27 25,.g1 29 2 4 28,.g2 30 1 29 28,.gt 31 (.bin .neq 30 (.s [])) 28,.gf 32 (.pick 28 31 .n) 25,.p1 33 25 32]) (.cnd 33 (.rf 2) .skip)) (.s (.s (.d [.mv 34 3,.b1 35 .gtr 34 (.i 0),.mv 36 35,.g3 37 0 36,.g3 38 3 36,.gt 39 (.bin .sub 38 (.i 1)) 36,.gt 40 (.ia 3 37 39) 36,.g1 41 0 40 36,.g2 42 1 41 36,.g1 43 0 4 36,.g2 44 1 43 36,.gt 45 (.bin .geq 42 44) 36,.p2 46 36 45]) (.cnd 46 (.rf 2) .skip)) (.s (.r [.mv 47 0,.f1 48 0 4,.l1 49 1 48,.c1 50 116 [47,49],.b1 51 .neq 50 (.i 0)]) (.cnd 51 (.rf 2) .skip)))))) (.r [.b1 52 .add 10 (.i 1),.mv 10 52]))))))) (.rt 2))))
theorem zg2:zj Tryz.prog [] 85=some (zg1.ac,[(.t 2)],53):=by kernel_rfl
theorem Ja (W0:World) (hM:HM W0) (t:List Ent):Fn Tryz.prog W0 85 [zh t] (.c (CB (tOk t))) []:=by
 refine fX mixed zg2 fun hg=>?_
 have g1:=jJ (hg _ (by simp:zh t∈_));have no:¬ TG t→CB false=CB (tOk t):=fun h=>bF (by
  rw [Bool.eq_false_iff]; exact fun e=>h (TG.of e))
 refine dr ?_;apply cP<;>intro h1
 ·refine dr ?_;exact no fun h=>by have:=h.len; omega
 refine dr ?_;refine lp (σ:=Nat) (fun k=>[(0,.c (zh t)),(8,.c (zh t)),(9,I t.length),(10,I k)]) (fun _=>[]) (fun k=>k≤t.length∧∀ j (h:j < t.length),j < k→eok t[j]=true∧zR t (pUp t[j].path)=true∧(0 < j→ltS t[j - 1].path t[j].path=true)) (fun k=>t.length - k) 0 ⟨by simp,by simp⟩ ?_ ?_
 ·refine dr ?_;trivial
 rintro k ⟨hk,ha⟩;refine dr ?_;apply cP<;>intro h2;rotate_left
 ·refine dr ?_;refine bT (Qx.2 ⟨by omega,yV.2 fun j hj=>?_,fun e he=>?_,fun e he=>?_⟩)
  ·exact (ha (j+1) hj (by omega)).2.2 (by omega)
  ·obtain ⟨j,hj,rfl⟩:=List.mem_iff_getElem.1 he;exact (ha j hj (by omega)).1
  ·obtain ⟨j,hj,rfl⟩:=List.mem_iff_getElem.1 he;exact (ha j hj (by omega)).2.1
 have hk':k < t.length:=by omega
 have no1:eok t[k]=false→CB false=CB (tOk t):=fun h=>no fun g=>by
  have:=g.ok _ (List.getElem_mem hk'); rw [h] at this; cases this
 refine dEr ?_;repeat (refine c0 (Q3 W0 hM _) rfl ?_; first|refine dEr ?_|exact dz)
 apply cP<;>intro h3
 ·refine dr ?_;exact no1 (by simp [eok,h3])
 refine dEr ?_;repeat (refine c0 (zc1 W0 _) rfl ?_; first|refine dEr ?_|exact dz)
 apply cP<;>intro h4
 ·refine dr ?_;exact no1 (by simp [eok,h4])
 refine dr ?_;apply cP<;>intro h5
 ·refine dr ?_;apply cP<;>intro h6
  ·refine dr ?_;exact no1 (by simp [eok,h5,h6])
  ·have hok:eok t[k]=true:=by rw [eok,h3,h4]; simp [h6]
   clear h6;refine dr ?_;apply cP<;>intro h7
   ·refine dr ?_;repeat (refine aM (j:=k - 1) (by omega) (by omega) ?_; first|refine dr ?_|exact dz)
    cases h8:ltS t[k - 1].path t[k].path
    ·refine dr ?_;exact no fun h=>by
      have:=yV.1 h.srt (k - 1) (by omega);simp only [show k - 1+1=k by omega] at this;rw [h8] at this; cases this
    ·refine dEr ?_;repeat (refine c0 (Jc W0 hM t _) rfl ?_; first|refine dEr ?_|exact dz)
     apply cP<;>intro h9
     ·refine dr ?_;exact no fun h=>h9 ((qF).2 (h.up _ (List.getElem_mem hk')))
     ·refine dr ?_;refine ⟨k+1,⟨by omega,fun j h hj=>?_⟩,by omega,?_⟩
      ·by_cases e:j=k
       ·subst e; exact ⟨hok,qF.1 h9,fun _=>h8⟩
       ·exact ha j h (by omega)
      ·refine dr ?_;trivial
   ·refine dEr ?_;repeat (refine c0 (Jc W0 hM t _) rfl ?_; first|refine dEr ?_|exact dz)
    apply cP<;>intro h9
    ·refine dr ?_;exact no fun h=>h9 ((qF).2 (h.up _ (List.getElem_mem hk')))
    ·refine dr ?_;refine ⟨k+1,⟨by omega,fun j h hj=>?_⟩,by omega,?_⟩
     ·by_cases e:j=k
      ·subst e; exact ⟨hok,qF.1 h9,fun h=>by omega⟩
      ·exact ha j h (by omega)
     ·refine dr ?_;trivial
 ·have hok:eok t[k]=true:=by simp [eok,h3,h4,h5]
  refine dr ?_;apply cP<;>intro h7
  ·refine dr ?_;repeat (refine aM (j:=k - 1) (by omega) (by omega) ?_; first|refine dr ?_|exact dz)
   cases h8:ltS t[k - 1].path t[k].path
   ·refine dr ?_;exact no fun h=>by
     have:=yV.1 h.srt (k - 1) (by omega);simp only [show k - 1+1=k by omega] at this;rw [h8] at this; cases this
   ·refine dEr ?_;repeat (refine c0 (Jc W0 hM t _) rfl ?_; first|refine dEr ?_|exact dz)
    apply cP<;>intro h9
    ·refine dr ?_;exact no fun h=>h9 ((qF).2 (h.up _ (List.getElem_mem hk')))
    ·refine dr ?_;refine ⟨k+1,⟨by omega,fun j h hj=>?_⟩,by omega,?_⟩
     ·by_cases e:j=k
      ·subst e; exact ⟨hok,qF.1 h9,fun _=>h8⟩
      ·exact ha j h (by omega)
     ·refine dr ?_;trivial
  ·refine dEr ?_;repeat (refine c0 (Jc W0 hM t _) rfl ?_; first|refine dEr ?_|exact dz)
   apply cP<;>intro h9
   ·refine dr ?_;exact no fun h=>h9 ((qF).2 (h.up _ (List.getElem_mem hk')))
   ·refine dr ?_;refine ⟨k+1,⟨by omega,fun j h hj=>?_⟩,by omega,?_⟩
    ·by_cases e:j=k
     ·subst e; exact ⟨hok,qF.1 h9,fun h=>by omega⟩
     ·exact ha j h (by omega)
    ·refine dr ?_;trivial
def zg5:XC:=(.s (.r [.m1 4 .n]) (.s (.s (.r [.mv 7 0,.n1 8 7,.m1 9 (.i 0)]) (.blk 0 (.loop (.s (.r [.b1 10 .lss 9 8]) (.s (.ce 10 0) (.s (.blk 1 (.s (.r [.i1 11 3 7 9,.l2 12 3 11,.ex 6 (.alloc [sE,(I 0),sE]),.s1 3 6 12]) (.s (.r [.f1 13 1 6,.l1 14 1 13,.b1 15 .eql 14 (.i 4),.mv 16 15,.g3 17 1 16,.g1 18 0 6 16,.g2 19 1 18 16,.gt 20 (.call 139 [17,19]) 16,.p2 21 16 20]) (.cnd 21 (.rt 4) .skip)))) (.r [.b1 22 .add 9 (.i 1),.mv 9 22]))))))) (.rf 4)))
theorem zg6:zj Tryz.prog [] 106=some (zg5.ac,[(.t 4)],23):=by kernel_rfl
def qR (l:List Mark) (p:Str):Bool:=l.any fun m=>m.kind==4&&und2 p m.path
theorem y8 (W0:World) (hM:HM W0) (t:List Mark) (p:Str):Fn Tryz.prog W0 106 [ze t,CS p] (.c (CB (qR t p))) []:=by
 refine fX mixed zg6 fun hg=>?_
 have g1:=jJ (hg _ (by simp:ze t∈_));refine dr ?_;refine lp (σ:=Nat) (fun k=>[(1,.c (CS p)),(7,.c (ze t)),(8,I t.length),(9,I k)]) (fun _=>[]) (fun k=>k≤t.length∧qR (t.take k) p=false) (fun k=>t.length - k) 0 ⟨by simp,by simp [qR]⟩ ?_ ?_
 ·refine dr ?_;trivial
 rintro k ⟨hk,ha⟩;refine dr ?_;apply cP<;>intro h1
 ·have hk':k < t.length:=by omega
  have no:(t[k].kind==4&&und2 p t[k].path)=false→qR (t.take (k+1)) p=false:=fun h=>by
   rw [qR] at ha ⊢;rw [List.take_succ_eq_append_getElem hk',List.any_append,ha]; simpa using h
  have yes:(t[k].kind==4&&und2 p t[k].path)=true→CB true=CB (qR t p):=fun h=>bT (by
   rw [qR,List.any_eq_true]; exact ⟨t[k],List.getElem_mem hk',h⟩)
  refine dr ?_;apply cP<;>intro h2
  ·refine dEr ?_;repeat (refine c0 (zc6 W0 hM _ _) rfl ?_; first|refine dEr ?_|exact dz)
   apply cP<;>intro h3
   ·refine dr ?_;exact yes (by simp [h2,h3])
   ·refine dr ?_;refine ⟨k+1,⟨by omega,no (by simp [h3])⟩,by omega,?_⟩;refine dr ?_;trivial
  ·refine dr ?_;refine ⟨k+1,⟨by omega,no (by simp [h2])⟩,by omega,?_⟩;refine dr ?_;trivial
 ·refine dr ?_;have:k=t.length:=by omega
  subst this;rw [List.take_length] at ha;rw [ha]
theorem zgp {l:List Mark} (h:∀ m∈l,pOk m.path=true) {p:Str} (hp:pOk p=true):qR l p=bare l p:=by
 rw [Bool.eq_iff_iff,qR,bare,List.any_eq_true,List.any_eq_true];constructor
 ·rintro ⟨m,hm,h1⟩; exact ⟨m,hm,by rw [← Y4 hp (h m hm)]; exact h1⟩
 ·rintro ⟨m,hm,h1⟩; exact ⟨m,hm,by rw [Y4 hp (h m hm)]; exact h1⟩
theorem yF {l:List Mark} (h:LG l) {p:Str} (hp:pOk p=true):qR l p=bare l p:=zgp (fun _ hm=>h.path hm) hp
def zhg:XC:=(.s (.r [.m1 4 .n]) (.s (.s (.r [.mv 7 0,.n1 8 7,.m1 9 (.i 0)]) (.blk 0 (.loop (.s (.r [.b1 10 .lss 9 8]) (.s (.ce 10 0) (.s (.blk 1 (.s (.r [.i1 11 3 7 9,.l2 12 3 11,.ex 6 (.alloc [sE,(I 0),sE]),.s1 3 6 12]) (.s (.r [.f1 13 1 6,.l1 14 1 13,.b1 15 .neq 14 (.i 2),.mv 16 15,.g1 17 0 6 16,.g2 18 1 17 16,.g3 19 1 16,.gt 20 (.bin .eql 18 19) 16,.g3 21 20 16,.h3 22 1 21,.h1 23 0 6 21,.h2 24 1 23 21,.gf 25 (.call 139 [22,24]) 21,.gt 26 (.pick 21 .y 25) 16,.p2 27 16 26]) (.cnd 27 (.rt 4) .skip)))) (.r [.b1 28 .add 9 (.i 1),.mv 9 28]))))))) (.rf 4)))
theorem zhh:zj Tryz.prog [] 125=some (zhg.ac,[(.t 4)],29):=by kernel_rfl
def yO (l:List Mark) (p:Str):Bool:=l.any fun m=>m.kind != 2&&(m.path==p||und2 p m.path)
theorem zc7 (W0:World) (hM:HM W0) (t:List Mark) (p:Str):Fn Tryz.prog W0 125 [ze t,CS p] (.c (CB (yO t p))) []:=by
 refine fX mixed zhh fun hg=>?_
 have g1:=jJ (hg _ (by simp:ze t∈_));refine dr ?_;refine lp (σ:=Nat) (fun k=>[(1,.c (CS p)),(7,.c (ze t)),(8,I t.length),(9,I k)]) (fun _=>[]) (fun k=>k≤t.length∧yO (t.take k) p=false) (fun k=>t.length - k) 0 ⟨by simp,by simp [yO]⟩ ?_ ?_
 ·refine dr ?_;trivial
 rintro k ⟨hk,ha⟩;refine dr ?_;apply cP<;>intro h1
 ·have hk':k < t.length:=by omega
  have no:(t[k].kind != 2&&(t[k].path==p||und2 p t[k].path))=false→yO (t.take (k+1)) p=false:=fun h=>by
   rw [yO] at ha ⊢;rw [List.take_succ_eq_append_getElem hk',List.any_append,ha]; simpa using h
  have yes:(t[k].kind != 2&&(t[k].path==p||und2 p t[k].path))=true→CB true=CB (yO t p):=fun h=>bT (by
   rw [yO,List.any_eq_true]; exact ⟨t[k],List.getElem_mem hk',h⟩)
  refine dr ?_;apply cP<;>intro h2
  ·refine dr ?_;apply cP<;>intro h4
   ·refine dr ?_;exact yes (by simp [h2,h4])
   ·refine dEr ?_;repeat (refine c0 (zc6 W0 hM _ _) rfl ?_; first|refine dEr ?_|exact dz)
    apply cP<;>intro h3
    ·refine dr ?_;exact yes (by simp [h2,h3])
    ·refine dr ?_;refine ⟨k+1,⟨by omega,no (by simp [h3,h4])⟩,by omega,?_⟩;refine dr ?_;trivial
  ·refine dr ?_;refine ⟨k+1,⟨by omega,no (by simp [h2])⟩,by omega,?_⟩;refine dr ?_;trivial
 ·refine dr ?_;have:k=t.length:=by omega
  subst this;rw [List.take_length] at ha;rw [ha]
theorem zd3 {l:List Mark} (h:LG l) {p:Str} (hp:pOk p=true):yO l p=zQ l p:=by
 rw [Bool.eq_iff_iff,yO,List.any_eq_true];constructor
 ·rintro ⟨m,hm,h1⟩;simp only [Bool.and_eq_true,Bool.or_eq_true,beq_iff_eq,bne_iff_ne] at h1;rw [Y4 hp (h.path hm)] at h1;exact Yn hm h1.1 h1.2
 ·intro h1;obtain ⟨m,hm,hk,hu⟩:=zbs h1;refine ⟨m,hm,?_⟩;simp only [Bool.and_eq_true,Bool.or_eq_true,beq_iff_eq,bne_iff_ne];rw [Y4 hp (h.path hm)];exact ⟨hk,hu⟩
def zhA:XC:=(.s (.r [.x1 1 0,.m1 2 .n]) (.s (.r [.f1 3 1 1,.l1 4 1 3,.b1 5 .eql 4 (.i 2),.mv 6 5,.h1 7 1 1 6,.h2 8 1 7 6,.gf 9 (.bin .eql 8 (.i 4)) 6,.p1 10 6 9,.mv 2 10]) .ret))
theorem zhB:zj Tryz.prog [] 126=some (zhA.ac,[(.t 2)],11):=by kernel_rfl
theorem Q4 (W0:World) (m:Mark):Fn Tryz.prog W0 126 [zq m] (.c (CB (decide (m.kind=2∨m.kind=4)))) []:=by
 refine fX mixed zhB fun hg=>?_
 refine dr ?_;apply cP<;>intro h1
 ·refine dr ?_;exact bT (by simp [h1])
 ·refine dr ?_;refine congrArg CB ?_;rw [Bool.eq_iff_iff]; simp [h1,ym]
def zhk:XC:=(.s (.r [.x1 1 0,.m1 2 .n]) (.s (.s (.r [.f1 3 1 1,.l1 4 1 3,.b1 5 .lss 4 (.i 1),.mv 6 5,.h1 7 1 1 6,.h2 8 1 7 6,.gf 9 (.bin .gtr 8 (.i 4)) 6,.p1 10 6 9,.mv 11 10,.h1 12 0 1 11,.h2 13 1 12 11,.gf 14 (.call 123 [13]) 11,.gf 15 (.un .not 14) 11,.p1 16 11 15]) (.cnd 16 (.rf 2) .skip)) (.s (.s (.r [.f1 17 1 1,.l1 18 1 17,.b1 19 .neq 18 (.i 1)]) (.cnd 19 (.s (.r [.f1 20 2 1,.l1 21 1 20,.ex 22 (.bin .eql 21 (.s [])),.mv 2 22]) .ret) .skip)) (.s (.r [.f1 23 2 1,.l1 24 1 23,.c1 25 124 [24],.mv 2 25]) .ret))))
theorem zhl:zj Tryz.prog [] 138=some (zhk.ac,[(.t 2)],26):=by kernel_rfl
theorem zkU (W0:World) (hM:HM W0) (m:Mark):Fn Tryz.prog W0 138 [zq m] (.c (CB (mok m))) []:=by
 refine fX mixed zhl fun hg=>?_
 refine dr ?_;apply cP<;>intro h1
 ·refine dr ?_;exact bF (by simp [mok]; omega)
 refine dr ?_;apply cP<;>intro h2
 ·refine dr ?_;exact bF (by simp [mok]; omega)
 refine dEr ?_;repeat (refine c0 (Q3 W0 hM _) rfl ?_; first|refine dEr ?_|exact dz)
 apply cP<;>intro h3
 ·refine dr ?_;exact bF (by simp [mok,h3])
 have hk:(decide (1≤m.kind)&&decide (m.kind≤4))=true:=by simp; omega
 refine dr ?_;apply cP<;>intro h4
 ·refine dr ?_;refine congrArg CB ?_;rw [mok,hk,h3,Bool.eq_iff_iff];simp [h4,Z6];intro e; rw [e]; rfl
 ·refine dEr ?_;repeat (refine c0 (zc1 W0 _) rfl ?_; first|refine dEr ?_|exact dz)
  refine congrArg CB ?_;rw [mok,hk,h3,Bool.eq_iff_iff];simp [h4]
end Go.Proofs.YtmkmldepkponaaaGreatDoor

namespace Go.Proofs.YtmkmldepkponaaaGreatDoor
set_option linter.unusedSimpArgs false
set_option linter.unusedVariables false
open Go Go.RowKit
def zgK:XC:=(.s (.r [.m1 2 .n]) (.s (.s (.r [.mv 8 0,.n1 9 8,.b1 10 .gtr 9 (.i 32)]) (.cnd 10 (.rf 2) .skip)) (.s (.s (.r [.mv 11 0,.n1 12 11,.m1 13 (.i 0)]) (.blk 0 (.loop (.s (.r [.b1 14 .lss 13 12]) (.s (.ce 14 0) (.s (.blk 1 (.s (.r [.mv 15 13,.i1 16 3 11 13,.l2 17 3 16,.ex 4 (.alloc [sE,(I 0),sE]),.mv 3 15,.s1 3 4 17]) (.s (.s (.r [.l2 18 3 4,.c1 19 138 [18],.u1 20 19]) (.cnd 20 (.rf 2) .skip)) (.s (.s (.d [.mv 21 3,.b1 22 .gtr 21 (.i 0),.mv 23 22,.g3 24 0 23,.g3 25 3 23,.gt 26 (.bin .sub 25 (.i 1)) 23,.gt 27 (.ia 3 24 26) 23,.g1 28 0 27 23,.g2 29 1 28 23,.g1 30 0 4 23,.g2 31 1 30 23,.gt 32 (.bin .geq 29 31) 23,.p2 33 23 32]) (.cnd 33 (.rf 2) .skip)) (.s (.s (.r [.f1 34 0 4,.l1 35 1 34,.c1 36 117 [35],.mv 5 36]) (.s (.r [.mv 37 5,.ex 38 (.bin .neq 37 (.s [47]))]) (.cnd 38 (.s (.r [.mv 40 0,.mv 41 5,.c1 42 118 [40,41],.mv 39 42,.e1 43 39 0,.e1 44 39 1,.ex 6 (.alloc [sE,(I 0),sE]),.s1 3 6 43,.mv 7 44]) (.s (.r [.mv 45 7,.u1 46 45,.mv 47 46,.gf 48 (.ld true 3 6) 47,.gf 49 (.call 126 [48]) 47,.gf 50 (.un .not 49) 47,.p1 51 47 50]) (.cnd 51 (.rf 2) .skip))) .skip))) (.s (.r [.f1 52 1 4,.l1 53 1 52,.b1 54 .eql 53 (.i 3),.mv 55 54,.h1 56 1 4 55,.h2 57 1 56 55,.gf 58 (.bin .eql 57 (.i 4)) 55,.p1 59 55 58,.mv 60 59,.g3 61 0 60,.g1 62 0 4 60,.g2 63 1 62 60,.gt 64 (.call 106 [61,63]) 60,.p2 65 60 64]) (.cnd 65 (.rf 2) .skip))))))) (.r [.b1 66 .add 13 (.i 1),.mv 13 66]))))))) (.rt 2))))
theorem zgL:zj Tryz.prog [] 104=some (zgK.ac,[(.t 2)],67):=by kernel_rfl
theorem zc3 (W0:World) (hM:HM W0) (l:List Mark):Fn Tryz.prog W0 104 [ze l] (.c (CB (lOk l))) []:=by
 refine fX mixed zgL fun hg=>?_
 have g1:=jJ (hg _ (by simp:ze l∈_));have no:¬ (lOk l=true)→CB false=CB (lOk l):=fun h=>bF (by rw [Bool.eq_false_iff]; exact h)
 refine dr ?_;apply cP<;>intro h1
 ·refine dr ?_;exact no fun h=>by have:=(jo.1 h).1; omega
 refine dr ?_;refine lp (σ:=Nat) (fun k=>[(0,.c (ze l)),(11,.c (ze l)),(12,I l.length),(13,I k)]) (fun _=>[]) (fun k=>k≤l.length∧∀ j (h:j < l.length),j < k→mok l[j]=true∧inD l l[j].path=true∧(0 < j→ltS l[j - 1].path l[j].path=true)∧(2 < l[j].kind→qR l l[j].path=false)) (fun k=>l.length - k) 0 ⟨by simp,by simp⟩ ?_ ?_
 ·refine dr ?_;trivial
 rintro k ⟨hk,ha⟩;refine dr ?_;apply cP<;>intro h2;rotate_left
 ·refine dr ?_;have hs:Srt Mark.path l:=yV.2 fun j hj=>(ha (j+1) hj (by omega)).2.2.1 (by omega)
  have hm:∀ m∈l,mok m=true:=fun m hm=>by
   obtain ⟨j,hj,rfl⟩:=List.mem_iff_getElem.1 hm;exact (ha j hj (by omega)).1
  refine bT (jo.2 ⟨by omega,hs,hm,fun m hm'=>?_,fun m hm' hk3=>?_⟩)
  ·obtain ⟨j,hj,rfl⟩:=List.mem_iff_getElem.1 hm';exact (ha j hj (by omega)).2.1
  ·rw [← yF ⟨hs,hm⟩ (qw (hm m hm'))];obtain ⟨j,hj,rfl⟩:=List.mem_iff_getElem.1 hm';exact (ha j hj (by omega)).2.2.2 hk3
 have hk':k < l.length:=by omega
 refine dEr ?_;repeat (refine c0 (zkU W0 hM l[k]) rfl ?_; first|refine dEr ?_|exact dz)
 apply cP<;>intro h3
 ·refine dr ?_;exact no fun h=>by have:=(jo.1 h).2.2.1 _ (List.getElem_mem hk'); rw [h3] at this; cases this
 have hok:mok l[k]=true:=h3;refine dr ?_;apply cP<;>intro h7
 ·refine dr ?_;repeat (refine aM (j:=k - 1) (by omega) (by omega) ?_; first|refine dr ?_|exact dz)
  cases h8:ltS l[k - 1].path l[k].path
  ·refine dr ?_;exact no fun h=>by
    have:=yV.1 (jo.1 h).2.1 (k - 1) (by omega);simp only [show k - 1+1=k by omega] at this;rw [h8] at this; cases this
  ·have hlast:0 < k→ltS l[k - 1].path l[k].path=true:=fun _=>h8
   refine dr ?_;refine dEr ?_;repeat (refine c0 (yK W0 hM _) rfl ?_; first|refine dEr ?_|exact dz)
   apply cP<;>intro h9
   ·have hc:=Jb W0 l (pUp l[k].path);rw [Z3] at hc;refine dEr ?_;repeat (refine c0 hc rfl ?_; first|refine dEr ?_|exact dz)
    apply cP<;>intro h90
    ·refine dr ?_;exact no fun h=>by
      rcases yP.1 ((jo.1 h).2.2.2.1 _ (List.getElem_mem hk')) with h' | ⟨m,h1,_⟩
      ·exact h9 h'
      ·rw [h1] at h90; cases h90
    ·obtain ⟨m,hm⟩:=Option.isSome_iff_exists.1 h90;have hc2:=Q4 W0 ((zD l (pUp l[k].path)).getD noM);refine dEr ?_;repeat (refine c0 hc2 rfl ?_; first|refine dEr ?_|exact dz)
     apply cP<;>intro h10
     ·refine dr ?_;exact no fun h=>by
       rcases yP.1 ((jo.1 h).2.2.2.1 _ (List.getElem_mem hk')) with h' | ⟨m,h1,h2⟩
       ·exact h9 h'
       ·rw [h1] at h10; exact h10 h2
     ·have hin:inD l l[k].path=true:=yP.2 (.inr ⟨m,hm,by rw [hm] at h10; exact h10⟩);refine dr ?_;apply cP<;>intro h11
      ·refine dEr ?_;repeat (refine c0 (y8 W0 hM l _) rfl ?_; first|refine dEr ?_|exact dz)
       apply cP<;>intro h13
       ·refine dr ?_;exact no fun h=>by
         have:=(jo.1 h).2.2.2.2 _ (List.getElem_mem hk') (by omega);rw [yF (LG.of h) (qw hok)] at h13;rw [this] at h13; cases h13
       ·refine dr ?_;refine ⟨k+1,⟨by omega,fun j h hj=>?_⟩,by omega,?_⟩
        ·by_cases e:j=k
         ·subst e; exact ⟨hok,hin,hlast,fun _=>h13⟩
         ·exact ha j h (by omega)
        ·refine dr ?_;trivial
      ·refine dr ?_;apply cP<;>intro h12
       ·refine dEr ?_;repeat (refine c0 (y8 W0 hM l _) rfl ?_; first|refine dEr ?_|exact dz)
        apply cP<;>intro h13
        ·refine dr ?_;exact no fun h=>by
          have:=(jo.1 h).2.2.2.2 _ (List.getElem_mem hk') (by omega);rw [yF (LG.of h) (qw hok)] at h13;rw [this] at h13; cases h13
        ·refine dr ?_;refine ⟨k+1,⟨by omega,fun j h hj=>?_⟩,by omega,?_⟩
         ·by_cases e:j=k
          ·subst e; exact ⟨hok,hin,hlast,fun _=>h13⟩
          ·exact ha j h (by omega)
         ·refine dr ?_;trivial
       ·refine dr ?_;refine ⟨k+1,⟨by omega,fun j h hj=>?_⟩,by omega,?_⟩
        ·by_cases e:j=k
         ·subst e; exact ⟨hok,hin,hlast,fun h=>by have:=ZO hok; omega⟩
         ·exact ha j h (by omega)
        ·refine dr ?_;trivial
   ·have hin:inD l l[k].path=true:=yP.2 (.inl h9);refine dr ?_;apply cP<;>intro h11
    ·refine dEr ?_;repeat (refine c0 (y8 W0 hM l _) rfl ?_; first|refine dEr ?_|exact dz)
     apply cP<;>intro h13
     ·refine dr ?_;exact no fun h=>by
       have:=(jo.1 h).2.2.2.2 _ (List.getElem_mem hk') (by omega);rw [yF (LG.of h) (qw hok)] at h13;rw [this] at h13; cases h13
     ·refine dr ?_;refine ⟨k+1,⟨by omega,fun j h hj=>?_⟩,by omega,?_⟩
      ·by_cases e:j=k
       ·subst e; exact ⟨hok,hin,hlast,fun _=>h13⟩
       ·exact ha j h (by omega)
      ·refine dr ?_;trivial
    ·refine dr ?_;apply cP<;>intro h12
     ·refine dEr ?_;repeat (refine c0 (y8 W0 hM l _) rfl ?_; first|refine dEr ?_|exact dz)
      apply cP<;>intro h13
      ·refine dr ?_;exact no fun h=>by
        have:=(jo.1 h).2.2.2.2 _ (List.getElem_mem hk') (by omega);rw [yF (LG.of h) (qw hok)] at h13;rw [this] at h13; cases h13
      ·refine dr ?_;refine ⟨k+1,⟨by omega,fun j h hj=>?_⟩,by omega,?_⟩
       ·by_cases e:j=k
        ·subst e; exact ⟨hok,hin,hlast,fun _=>h13⟩
        ·exact ha j h (by omega)
       ·refine dr ?_;trivial
     ·refine dr ?_;refine ⟨k+1,⟨by omega,fun j h hj=>?_⟩,by omega,?_⟩
      ·by_cases e:j=k
       ·subst e; exact ⟨hok,hin,hlast,fun h=>by have:=ZO hok; omega⟩
       ·exact ha j h (by omega)
      ·refine dr ?_;trivial
 ·have hlast:0 < k→ltS l[k - 1].path l[k].path=true:=fun h=>by omega
  refine dr ?_;refine dEr ?_;repeat (refine c0 (yK W0 hM _) rfl ?_; first|refine dEr ?_|exact dz)
  apply cP<;>intro h9
  ·have hc:=Jb W0 l (pUp l[k].path);rw [Z3] at hc;refine dEr ?_;repeat (refine c0 hc rfl ?_; first|refine dEr ?_|exact dz)
   apply cP<;>intro h90
   ·refine dr ?_;exact no fun h=>by
     rcases yP.1 ((jo.1 h).2.2.2.1 _ (List.getElem_mem hk')) with h' | ⟨m,h1,_⟩
     ·exact h9 h'
     ·rw [h1] at h90; cases h90
   ·obtain ⟨m,hm⟩:=Option.isSome_iff_exists.1 h90;have hc2:=Q4 W0 ((zD l (pUp l[k].path)).getD noM);refine dEr ?_;repeat (refine c0 hc2 rfl ?_; first|refine dEr ?_|exact dz)
    apply cP<;>intro h10
    ·refine dr ?_;exact no fun h=>by
      rcases yP.1 ((jo.1 h).2.2.2.1 _ (List.getElem_mem hk')) with h' | ⟨m,h1,h2⟩
      ·exact h9 h'
      ·rw [h1] at h10; exact h10 h2
    ·have hin:inD l l[k].path=true:=yP.2 (.inr ⟨m,hm,by rw [hm] at h10; exact h10⟩);refine dr ?_;apply cP<;>intro h11
     ·refine dEr ?_;repeat (refine c0 (y8 W0 hM l _) rfl ?_; first|refine dEr ?_|exact dz)
      apply cP<;>intro h13
      ·refine dr ?_;exact no fun h=>by
        have:=(jo.1 h).2.2.2.2 _ (List.getElem_mem hk') (by omega);rw [yF (LG.of h) (qw hok)] at h13;rw [this] at h13; cases h13
      ·refine dr ?_;refine ⟨k+1,⟨by omega,fun j h hj=>?_⟩,by omega,?_⟩
       ·by_cases e:j=k
        ·subst e; exact ⟨hok,hin,hlast,fun _=>h13⟩
        ·exact ha j h (by omega)
       ·refine dr ?_;trivial
     ·refine dr ?_;apply cP<;>intro h12
      ·refine dEr ?_;repeat (refine c0 (y8 W0 hM l _) rfl ?_; first|refine dEr ?_|exact dz)
       apply cP<;>intro h13
       ·refine dr ?_;exact no fun h=>by
         have:=(jo.1 h).2.2.2.2 _ (List.getElem_mem hk') (by omega);rw [yF (LG.of h) (qw hok)] at h13;rw [this] at h13; cases h13
       ·refine dr ?_;refine ⟨k+1,⟨by omega,fun j h hj=>?_⟩,by omega,?_⟩
        ·by_cases e:j=k
         ·subst e; exact ⟨hok,hin,hlast,fun _=>h13⟩
         ·exact ha j h (by omega)
        ·refine dr ?_;trivial
      ·refine dr ?_;refine ⟨k+1,⟨by omega,fun j h hj=>?_⟩,by omega,?_⟩
       ·by_cases e:j=k
        ·subst e; exact ⟨hok,hin,hlast,fun h=>by have:=ZO hok; omega⟩
        ·exact ha j h (by omega)
       ·refine dr ?_;trivial
  ·have hin:inD l l[k].path=true:=yP.2 (.inl h9);refine dr ?_;apply cP<;>intro h11
   ·refine dEr ?_;repeat (refine c0 (y8 W0 hM l _) rfl ?_; first|refine dEr ?_|exact dz)
    apply cP<;>intro h13
    ·refine dr ?_;exact no fun h=>by
      have:=(jo.1 h).2.2.2.2 _ (List.getElem_mem hk') (by omega);rw [yF (LG.of h) (qw hok)] at h13;rw [this] at h13; cases h13
    ·refine dr ?_;refine ⟨k+1,⟨by omega,fun j h hj=>?_⟩,by omega,?_⟩
     ·by_cases e:j=k
      ·subst e; exact ⟨hok,hin,hlast,fun _=>h13⟩
      ·exact ha j h (by omega)
     ·refine dr ?_;trivial
   ·refine dr ?_;apply cP<;>intro h12
    ·refine dEr ?_;repeat (refine c0 (y8 W0 hM l _) rfl ?_; first|refine dEr ?_|exact dz)
     apply cP<;>intro h13
     ·refine dr ?_;exact no fun h=>by
       have:=(jo.1 h).2.2.2.2 _ (List.getElem_mem hk') (by omega);rw [yF (LG.of h) (qw hok)] at h13;rw [this] at h13; cases h13
     ·refine dr ?_;refine ⟨k+1,⟨by omega,fun j h hj=>?_⟩,by omega,?_⟩
      ·by_cases e:j=k
       ·subst e; exact ⟨hok,hin,hlast,fun _=>h13⟩
       ·exact ha j h (by omega)
      ·refine dr ?_;trivial
    ·refine dr ?_;refine ⟨k+1,⟨by omega,fun j h hj=>?_⟩,by omega,?_⟩
     ·by_cases e:j=k
      ·subst e; exact ⟨hok,hin,hlast,fun h=>by have:=ZO hok; omega⟩
      ·exact ha j h (by omega)
     ·refine dr ?_;trivial
def zgM:XC:=(.s (.r [.a2 4 3 77,.m1 5 .n]) (.s (.s (.r [.mv 13 0,.c1 14 104 [13],.u1 15 14,.mv 16 15,.h3 17 1 16,.gf 18 (.call 85 [17]) 16,.gf 19 (.un .not 18) 16,.p1 20 16 19]) (.cnd 20 (.s (.r [.a2 4 3 77,.m1 5 .n]) .ret) .skip)) (.s (.r [.a2 6 3 77]) (.s (.s (.r [.mv 21 1,.n1 22 21,.m1 23 (.i 0)]) (.blk 0 (.loop (.s (.r [.b1 24 .lss 23 22]) (.s (.ce 24 0) (.s (.blk 1 (.s (.r [.i1 25 3 21 23,.l2 26 3 25,.ex 8 (.alloc zE),.s1 3 8 26]) (.s (.r [.mv 28 0,.f1 29 0 8,.l1 30 1 29,.c1 31 118 [28,30],.mv 27 31,.e1 32 27 0,.e1 33 27 1,.ex 9 (.alloc [sE,(I 0),sE]),.s1 3 9 32,.mv 10 33]) (.s (.r [.mv 34 10,.u1 35 34,.mv 36 35,.g3 37 0 36,.g1 38 0 8 36,.g2 39 1 38 36,.gt 40 (.call 125 [37,39]) 36,.gt 41 (.un .not 40) 36,.p2 42 36 41]) (.cnd 42 (.r [.mv 43 6,.l2 44 3 8,.ex 45 (.bsl 3 77 [44]),.ex 46 (.app false 3 40 77 43 45),.a1 6 46 3 77]) .skip))))) (.r [.b1 47 .add 23 (.i 1),.mv 23 47]))))))) (.s (.s (.r [.mv 48 0,.n1 49 48,.m1 50 (.i 0)]) (.blk 2 (.loop (.s (.r [.b1 51 .lss 50 49]) (.s (.ce 51 2) (.s (.blk 3 (.s (.r [.i1 52 3 48 50,.l2 53 3 52,.ex 12 (.alloc [sE,(I 0),sE]),.s1 3 12 53]) (.s (.r [.f1 54 1 12,.l1 55 1 54,.b1 56 .neq 55 (.i 3)]) (.cnd 56 (.d [.mv 57 6,.f1 58 0 12,.l1 59 1 58,.l2 60 3 12,.c1 61 126 [60],.f1 62 2 12,.l1 63 1 62,.ex 64 (.build zE [(0,(1,59)),(1,(1,61)),(2,(1,63))]),.ex 65 (.bsl 3 77 [64]),.ex 66 (.app false 3 40 77 57 65),.a1 6 66 3 77]) .skip)))) (.r [.b1 67 .add 50 (.i 1),.mv 50 67]))))))) (.s (.s (.r [.mv 68 6,.n1 69 68,.b1 70 .gtr 69 (.i 16)]) (.cnd 70 (.s (.r [.a2 4 3 77,.m1 5 .n]) .ret) .skip)) (.s (.r [.mv 71 6,.o1 72 113 [71]]) (.s (.r [.mv 73 6,.a1 4 73 3 77,.m1 5 .y]) .ret))))))))
theorem zcp:zj Tryz.prog [113] 87=some (zgM.ac,[(.t 4),(.t 5)],74):=by kernel_rfl
theorem zc4 (W0:World) (hM:HM W0) (l:List Mark) (t:List Ent):Fn Tryz.prog W0 87 [ze l,zh t] (.c (QV (lOn l t))) []:=by
 refine fX mixed zcp fun hg=>?_
 refine dEr ?_;repeat (refine c0 (zc3 W0 hM _) rfl ?_; first|refine dEr ?_|exact dz)
 apply cP<;>intro h1
 ·refine dr ?_;rw [lOn,if_neg (by simp [h1])]<;>rfl
 refine dEr ?_;repeat (refine c0 (Ja W0 hM _) rfl ?_; first|refine dEr ?_|exact dz)
 apply cP<;>intro h2
 ·refine dr ?_;rw [lOn,if_neg (by simp [h2])]<;>rfl
 have gl:=LG.of h1;have gt:=TG.of h2;have hll:=(jo.1 h1).1;have htl:=gt.len;have e:lOn l t=if (onX l t).length≤16 then some (jz l t) else none:=by rw [lOn,if_pos (by simp [h1,h2]),zeQ h1 gt.srt]
 rw [e];refine dr ?_;refine lp2 (fun (k:Nat) (out:List Ent)=>[(0,.c (ze l)),(6,.own 96 out.length),(21,.c (zh t)),(22,I t.length),(23,I k)]) (fun _ out=>[(96,.row (out.map zs) 3 77)]) (fun k out=>k≤t.length∧out=(t.take k).filter (fun e=>!(zD l e.path).isSome&&!zQ l e.path)∧out.length≤k) (fun k _=>t.length - k) 0 [] ⟨by simp,rfl,by simp⟩ ?_ ?_
 ·refine dr ?_;trivial
 rintro k out ⟨hk,ho,hle⟩;refine dr ?_;apply cP<;>intro h3
 ·have hk':k < t.length:=by omega
  have hc:=Jb W0 l t[k].path;rw [Z3] at hc;have hh:=zc7 W0 hM l t[k].path;rw [zd3 gl (gt.path (List.getElem_mem hk'))] at hh;refine dEr ?_;repeat (refine c0 hc rfl ?_; first|refine dEr ?_|exact dz)
  apply cP<;>intro h4
  ·refine dEr ?_;repeat (refine c0 hh rfl ?_; first|refine dEr ?_|exact dz)
   apply cP<;>intro h5
   ·refine dr ?_;repeat ((first|refine oB (by simp; omega) ?_|refine oB (by simp) ?_); first|refine dr ?_|exact dz)
    refine ⟨k+1,out++[t[k]],⟨by omega,by rw [J2 hk' (by simp [h4,h5]),ho],by simp; omega⟩,by omega,?_⟩;refine dr ?_;repeat (refine oB (by simp<;>rfl) ?_; first|refine dr ?_|exact dz)
    trivial
   ·refine dr ?_;refine ⟨k+1,out,⟨by omega,by rw [Je hk' (by simp [h5]),ho],by omega⟩,by omega,?_⟩;refine dr ?_;trivial
  ·refine dr ?_;refine ⟨k+1,out,⟨by omega,by rw [Je hk' (by simp [h4]),ho],by omega⟩,by omega,?_⟩;refine dr ?_;trivial
 have hkl:k=t.length:=by omega
 rw [hkl,List.take_length] at ho;have hX:onX l t=out++l.filterMap zX:=by rw [onX,ho]
 have hout:out.length≤16:=by omega
 clear ho hle hk h3 hkl;rw [hX];generalize hoo:out=o0 at *;refine dr ?_;refine lp2 (fun (k:Nat) (out:List Ent)=>[(6,.own 96 out.length),(48,.c (ze l)),(49,I l.length),(50,I k)]) (fun _ out=>[(96,.row (out.map zs) 3 77)]) (fun k out=>k≤l.length∧out=o0++(l.take k).filterMap zX∧out.length≤o0.length+k) (fun k _=>l.length - k) 0 o0 ⟨by simp,by simp,by simp⟩ ?_ ?_
 ·refine dr ?_;trivial
 clear hoo;rintro k out ⟨hk,ho,hle⟩;refine dr ?_;apply cP<;>intro h3
 ·have hk':k < l.length:=by omega
  have hmk:=ZO (gl.ok _ (List.getElem_mem hk'));have hn:o0++(l.take (k+1)).filterMap zX=out++(zX l[k]).toList:=by rw [Yc hk',← List.append_assoc,← ho]
  refine dr ?_;apply cP<;>intro h4
  ·have he:zX l[k]=some ⟨l[k].path,decide (l[k].kind=2∨l[k].kind=4),l[k].data⟩:=by
    unfold zX;by_cases h5:l[k].kind=1
    ·rw [if_pos h5]; simp [h5]
    ·rw [if_neg h5,if_pos (by omega)];have:=zeG (gl.ok _ (List.getElem_mem hk')) h5;rw [this]; simp; omega
   rw [he] at hn;refine dEr ?_;repeat ((first|refine c0 (Q4 W0 l[k]) rfl ?_|refine oB (by simp; omega) ?_|refine oB (by simp) ?_); first|refine dEr ?_|exact dz)
   refine ⟨k+1,_,⟨by omega,hn.symm,by simp; omega⟩,by omega,?_⟩;refine dr ?_;repeat (refine oB (by simp<;>rfl) ?_; first|refine dr ?_|exact dz)
   trivial
  ·have he:zX l[k]=none:=by unfold zX; rw [if_neg (by omega),if_neg (by omega)]
   rw [he] at hn;refine dr ?_;refine ⟨k+1,out,⟨by omega,by rw [hn]; simp,by omega⟩,by omega,?_⟩;refine dr ?_;trivial
 have hkl:k=l.length:=by omega
 rw [hkl,List.take_length] at ho;rw [← ho];have hX2:onX l t=out:=by rw [hX,ho]
 refine dr ?_;apply cP<;>intro h5
 ·refine dr ?_;rw [if_neg (by omega)]<;>rfl
 ·refine dr ?_;refine oW ((zdh W0 out (by omega)).swp 1 96) rfl ⟨rfl,trivial⟩ rfl rfl JC fun S hS=>⟨rfl,?_⟩
  refine dEr ?_;repeat (refine oB (by simp [hS.len]) ?_; first|refine dEr ?_|exact dz)
  rw [← hX2] at hS;rw [if_pos (by omega),zeS h1 gt.srt hS]<;>rfl
end Go.Proofs.YtmkmldepkponaaaGreatDoor

namespace Go.Proofs.YtmkmldepkponaaaGreatDoor
set_option linter.unusedSimpArgs false
set_option linter.unusedVariables false
open Go Go.RowKit
def zg3:XC:=(.s (.r [.a2 4 1 9]) (.s (.s (.r [.mv 8 0,.c1 9 85 [8],.u1 10 9,.mv 11 10,.h3 12 1 11,.gf 13 (.call 85 [12]) 11,.gf 14 (.un .not 13) 11,.p1 15 11 14]) (.cnd 15 (.s (.r [.a2 4 1 9]) .ret) .skip)) (.s (.r [.a2 5 1 9]) (.s (.r [.m1 6 (.i 0),.m1 7 (.i 0)]) (.s (.blk 0 (.loop (.s (.s (.r [.mv 16 6,.mv 17 0,.n1 18 17,.b1 19 .lss 16 18,.mv 20 19,.h3 21 7 20,.h3 22 1 20,.gf 23 (.len false 22) 20,.gf 24 (.bin .lss 21 23) 20,.p1 25 20 24]) (.ce 25 0)) (.blk 1 (.blk 2 (.s (.d [.mv 48 7,.mv 49 1,.n1 50 49,.b1 51 .eql 48 50,.mv 52 51,.h3 53 6 52,.h3 54 0 52,.gf 55 (.len false 54) 52,.gf 56 (.bin .lss 53 55) 52,.h3 57 56 52,.g3 58 0 57,.g3 59 6 57,.gt 60 (.ia 3 58 59) 57,.g1 61 0 60 57,.g2 62 1 61 57,.g3 63 1 57,.g3 64 7 57,.gt 65 (.ia 3 63 64) 57,.g1 66 0 65 57,.g2 67 1 66 57,.gt 68 (.bin .lss 62 67) 57,.gf 69 (.pick 57 68 .n) 52,.p1 70 52 69,.mv 47 70]) (.cnd 47 (.s (.r [.mv 71 5,.mv 72 0,.mv 73 6,.i1 74 3 72 73,.f1 75 0 74,.l1 76 1 75,.ex 77 (.bsl 1 9 [76]),.ex 78 (.app false 1 16 9 71 77),.a1 5 78 1 9]) (.ic 79 80 6)) (.s (.d [.mv 82 6,.mv 83 0,.n1 84 83,.b1 85 .eql 82 84,.mv 86 85,.h3 87 1 86,.h3 88 7 86,.gf 89 (.ia 3 87 88) 86,.h1 90 0 89 86,.h2 91 1 90 86,.h3 92 0 86,.h3 93 6 86,.gf 94 (.ia 3 92 93) 86,.h1 95 0 94 86,.h2 96 1 95 86,.gf 97 (.bin .lss 91 96) 86,.p1 98 86 97,.mv 81 98]) (.cnd 81 (.s (.r [.mv 99 5,.mv 100 1,.mv 101 7,.i1 102 3 100 101,.f1 103 0 102,.l1 104 1 103,.ex 105 (.bsl 1 9 [104]),.ex 106 (.app false 1 16 9 99 105),.a1 5 106 1 9]) (.ic 107 108 7)) (.s (.s (.d [.mv 26 0,.mv 27 6,.i1 28 3 26 27,.l2 29 3 28,.mv 30 1,.mv 31 7,.i1 32 3 30 31,.l2 33 3 32,.ex 34 (.beq true [.s,.b,.s] 29 33)]) (.cnd 34 (.r [.mv 35 5,.mv 36 0,.mv 37 6,.i1 38 3 36 37,.f1 39 0 38,.l1 40 1 39,.ex 41 (.bsl 1 9 [40]),.ex 42 (.app false 1 16 9 35 41),.a1 5 42 1 9]) .skip)) (.s (.ic 43 44 6) (.ic 45 46 7)))))))))))) (.s (.r [.mv 109 5,.a1 4 109 1 9]) .ret))))))
theorem zg4:zj Tryz.prog [] 114=some (zg3.ac,[(.t 4)],110):=by kernel_rfl
def jQ (a b:List Ent):List Str:=if (tOk a&&tOk b)=true then zZ a b else []
theorem zl2 {x:Ent} {a:List Ent}:zT (x::a) []=x.path::zT a []:=by rw [zT]
theorem zl1 {x:Ent} {a:List Ent}:zT [] (x::a)=x.path::zT [] a:=by rw [zT]
theorem zbc {x y:Ent} {a b:List Ent}:zT (x::a) (y::b)=if ltS x.path y.path=true then x.path::zT a (y::b) else if ltS y.path x.path=true then y.path::zT (x::a) b else if x=y then zT a b else x.path::zT a b:=by rw [zT]
theorem zcY (W0:World) (hM:HM W0) (a b:List Ent):Fn Tryz.prog W0 114 [zh a,zh b] (.c (jM (jQ a b))) []:=by
 refine fX mixed zg4 fun hg=>?_
 refine dEr ?_;repeat (refine c0 (Ja W0 hM _) rfl ?_; first|refine dEr ?_|exact dz)
 apply cP<;>intro h1
 ·refine dr ?_;repeat (refine oB (by simp) ?_; first|refine dr ?_|exact dz)
  rw [jQ,if_neg (by simp [h1])]<;>rfl
 refine dEr ?_;repeat (refine c0 (Ja W0 hM _) rfl ?_; first|refine dEr ?_|exact dz)
 apply cP<;>intro h2
 ·refine dr ?_;repeat (refine oB (by simp) ?_; first|refine dr ?_|exact dz)
  rw [jQ,if_neg (by simp [h2])]<;>rfl
 have ga:=TG.of h1;have gb:=TG.of h2;have la:=ga.len;have lb:=gb.len;rw [jQ,if_pos (by simp [h1,h2]),← zl4 ga gb];refine dr ?_;refine lp3 (fun (i j:Nat) (out:List Str)=>[(0,.c (zh a)),(1,.c (zh b)),(5,.own 80 out.length),(6,I i),(7,I j)]) (fun _ _ out=>[(80,.row (out.map CS) 1 9)])
  (fun i j out=>i≤a.length∧j≤b.length∧out++zT (a.drop i) (b.drop j)=zT a b∧out.length≤i+j) (fun i j _=>a.length+b.length - i - j) 0 0 [] ⟨by simp,by simp,by simp,by simp⟩ ?_ ?_
 ·refine dr ?_;trivial
 rintro i j out ⟨hi,hj,ho,hle⟩;have stepA:∀ (h:i < a.length),j=b.length∨(∃ h':j < b.length,ltS a[i].path b[j].path=true)→(out++[a[i].path])++zT (a.drop (i+1)) (b.drop j)=zT a b:=fun h hc=>by
  rw [← ho,List.drop_eq_getElem_cons h];rcases hc with hc | ⟨h',hc⟩
  ·rw [List.drop_of_length_le (l:=b) (by omega),zl2]; simp
  ·rw [List.drop_eq_getElem_cons h',zbc,if_pos hc]; simp
 have stepB:∀ (h:j < b.length),i=a.length∨(∃ h':i < a.length,ltS a[i].path b[j].path=false∧ltS b[j].path a[i].path=true)→(out++[b[j].path])++zT (a.drop i) (b.drop (j+1))=zT a b:=fun h hc=>by
  rw [← ho,List.drop_eq_getElem_cons (l:=b) h];rcases hc with hc | ⟨h',hc,hc2⟩
  ·rw [List.drop_of_length_le (l:=a) (by omega),zl1]; simp
  ·rw [List.drop_eq_getElem_cons h',zbc,if_neg (by rw [hc]; simp),if_pos hc2]; simp
 refine dr ?_;apply cP<;>intro hA
 ·have hA':i < a.length:=by omega
  refine dr ?_;apply cP<;>intro hB
  ·refine dr ?_;repeat ((first|refine oB (by simp; omega) ?_|refine oB (by simp) ?_); first|refine dr ?_|exact dz)
   refine ⟨i+1,j,out++[a[i].path],⟨by omega,by omega,stepA hA' (.inl (by omega)),by simp; omega⟩,by omega,?_⟩;refine dr ?_;repeat (refine oB (by simp<;>rfl) ?_; first|refine dr ?_|exact dz)
   trivial
  ·have hB':j < b.length:=by omega
   refine dr ?_;apply cP<;>intro hA2;rotate_left
   ·omega
   refine dr ?_;apply cP<;>intro hC
   ·refine dr ?_;repeat ((first|refine oB (by simp; omega) ?_|refine oB (by simp) ?_); first|refine dr ?_|exact dz)
    refine ⟨i+1,j,out++[a[i].path],⟨by omega,by omega,stepA hA' (.inr ⟨hB',hC⟩),by simp; omega⟩,by omega,?_⟩;refine dr ?_;repeat (refine oB (by simp<;>rfl) ?_; first|refine dr ?_|exact dz)
    trivial
   refine dr ?_;apply cP<;>intro hD
   ·omega
   refine dr ?_;apply cP<;>intro hE
   ·refine dr ?_;repeat ((first|refine oB (by simp; omega) ?_|refine oB (by simp) ?_); first|refine dr ?_|exact dz)
    refine ⟨i,j+1,out++[b[j].path],⟨by omega,by omega,stepB hB' (.inr ⟨hA',hC,hE⟩),by simp; omega⟩,by omega,?_⟩;refine dr ?_;repeat (refine oB (by simp<;>rfl) ?_; first|refine dr ?_|exact dz)
    trivial
   have hm:zT (a.drop i) (b.drop j)=if a[i]=b[j] then zT (a.drop (i+1)) (b.drop (j+1)) else a[i].path::zT (a.drop (i+1)) (b.drop (j+1)):=by
    rw [List.drop_eq_getElem_cons hA',List.drop_eq_getElem_cons hB',zbc,if_neg (by rw [hC]; simp),if_neg (by rw [hE]; simp)]
   refine dr ?_;apply cP<;>intro hF
   ·have hne:a[i]≠b[j]:=by have:=QJ a[i] b[j]; rw [hF] at this; simpa using this
    rw [if_neg hne] at hm;refine dr ?_;repeat ((first|refine oB (by simp; omega) ?_|refine oB (by simp) ?_); first|refine dr ?_|exact dz)
    refine ⟨i+1,j+1,out++[a[i].path],⟨by omega,by omega,by rw [← ho,hm]; simp,by simp; omega⟩,by omega,?_⟩;refine dr ?_;repeat (refine oB (by simp<;>rfl) ?_; first|refine dr ?_|exact dz)
    trivial
   ·have heq:a[i]=b[j]:=by have:=QJ a[i] b[j]; rw [hF] at this; simpa using this
    rw [if_pos heq] at hm;refine dr ?_;refine ⟨i+1,j+1,out,⟨by omega,by omega,by rw [← ho,hm],by omega⟩,by omega,?_⟩;refine dr ?_;trivial
 ·have hA':i=a.length:=by omega
  refine dr ?_;apply cP<;>intro hB
  ·have hB':j < b.length:=by omega
   refine dr ?_;apply cP<;>intro hB2
   ·omega
   refine dr ?_;apply cP<;>intro hA2
   ·omega
   refine dr ?_;apply cP<;>intro hD;rotate_left
   ·omega
   refine dr ?_;repeat ((first|refine oB (by simp; omega) ?_|refine oB (by simp) ?_); first|refine dr ?_|exact dz)
   refine ⟨i,j+1,out++[b[j].path],⟨by omega,by omega,stepB hB' (.inl hA'),by simp; omega⟩,by omega,?_⟩;refine dr ?_;repeat (refine oB (by simp<;>rfl) ?_; first|refine dr ?_|exact dz)
   trivial
  ·have hj':j=b.length:=by omega
   rw [hA',hj',List.drop_length,List.drop_length,zT,List.append_nil] at ho;refine dr ?_;repeat (refine oB (by simp) ?_; first|refine dr ?_|exact dz)
   rw [← ho]<;>rfl
def zgJ:XC:=(.s (.r [.a2 4 3 34]) (.s (.r [.a2 5 3 34]) (.s (.s (.r [.mv 14 0,.mv 15 1,.c1 16 114 [14,15],.n1 17 16,.m1 18 (.i 0)]) (.blk 0 (.loop (.s (.r [.b1 19 .lss 18 17]) (.s (.ce 19 0) (.s (.blk 1 (.s (.r [.i1 20 1 16 18,.l1 21 1 20,.mv 7 21]) (.s (.r [.mv 23 1,.mv 24 7,.c1 25 115 [23,24],.mv 22 25,.e1 26 22 0,.e1 27 22 1,.ex 8 (.alloc zE),.s1 3 8 26,.mv 9 27]) (.blk 2 (.s (.r [.mv 29 9,.mv 30 29,.g1 31 1 8 30,.g2 32 1 31 30,.p2 33 30 32,.mv 28 33]) (.cnd 28 (.r [.mv 34 5,.mv 35 7,.ex 36 (.build [sE,(I 0),sE] [(0,(1,35)),(1,(1,(.i 2)))]),.ex 37 (.bsl 3 34 [36]),.ex 38 (.app false 3 40 34 34 37),.a1 5 38 3 34]) (.s (.r [.mv 40 9,.mv 39 40]) (.cnd 39 (.r [.mv 41 5,.mv 42 7,.f1 43 2 8,.l1 44 1 43,.ex 45 (.build [sE,(I 0),sE] [(0,(1,42)),(1,(1,(.i 1))),(2,(1,44))]),.ex 46 (.bsl 3 34 [45]),.ex 47 (.app false 3 40 34 41 46),.a1 5 47 3 34]) (.s (.r [.mv 49 1,.mv 50 7,.c1 51 116 [49,50],.b1 52 .eql 51 (.i 0),.mv 48 52]) (.cnd 48 (.r [.mv 53 5,.mv 54 7,.ex 55 (.build [sE,(I 0),sE] [(0,(1,54)),(1,(1,(.i 3)))]),.ex 56 (.bsl 3 34 [55]),.ex 57 (.app false 3 40 34 53 56),.a1 5 57 3 34]) .skip)))))))))) (.r [.b1 58 .add 18 (.i 1),.mv 18 58]))))))) (.s (.s (.r [.mv 59 5,.n1 60 59,.m1 61 (.i 0)]) (.blk 3 (.loop (.s (.r [.b1 62 .lss 61 60]) (.s (.ce 62 3) (.s (.blk 4 (.s (.r [.mv 63 61,.mv 10 63]) (.s (.r [.mv 64 5,.mv 65 10,.i1 66 3 64 65,.f1 67 0 66,.l1 68 1 67,.c1 69 117 [68],.mv 11 69]) (.blk 5 (.loop (.s (.s (.r [.mv 70 11,.ex 71 (.bin .neq 70 (.s [47]))]) (.ce 71 5)) (.s (.blk 6 (.s (.r [.mv 75 5,.mv 76 11,.c1 77 118 [75,76],.mv 74 77,.e1 78 74 0,.e1 79 74 1,.ex 12 (.alloc [sE,(I 0),sE]),.s1 3 12 78,.mv 13 79]) (.s (.r [.mv 80 13,.u1 81 80]) (.cnd 81 (.r [.mv 82 5,.mv 83 11,.ex 84 (.build [sE,(I 0),sE] [(0,(1,83)),(1,(1,(.i 2)))]),.ex 85 (.bsl 3 34 [84]),.ex 86 (.app false 3 40 34 82 85),.a1 5 86 3 34]) .skip)))) (.r [.mv 72 11,.c1 73 117 [72],.mv 11 73])))))))) (.r [.b1 87 .add 61 (.i 1),.mv 61 87]))))))) (.s (.r [.mv 88 5,.o1 89 107 [88]]) (.s (.r [.mv 90 5,.a1 4 90 3 34]) .ret))))))
theorem zco:zj Tryz.prog [107] 76=some (zgJ.ac,[(.t 4)],91):=by kernel_rfl
def qS (a b:List Ent):List Mark:=if (tOk a&&tOk b)=true then diff a b else []
theorem YJ {l l0:List Mark} {u:Str} (h:∃ s,l=l0++s):∃ s,jf l u=l0++s:=by
 obtain ⟨s,rfl⟩:=h;unfold jf;split
 ·exact ⟨s,rfl⟩
 ·exact ⟨s++[⟨u,2,[]⟩],by simp⟩
theorem Y7 {l:List Mark} {u:Str}:(jf l u).length≤l.length+1:=by
 unfold jf; split<;>simp
theorem zgf {m:Nat} {q:Str} (h:pUp q=[47]):jd m q=[]:=by
 cases m with
 | zero=>rfl
 | succ m=>unfold jd; rw [if_pos h]
theorem zdN:∀ {us:List Str} {l:List Mark},(us.foldl jf l).length≤l.length+us.length
 | [],l=>by simp
 | u::us,l=>by
  have h:=zdN (us:=us) (l:=jf l u);have h2:=Y7 (l:=l) (u:=u);simp only [List.foldl_cons,List.length_cons]; omega
theorem zcc {l:List Mark} {m:Mark}:(jH l m).length≤l.length+3:=by
 have h:=zdN (us:=jd 3 m.path) (l:=l);have h2:=zb8 3 m.path;unfold jH; omega
theorem zkA (W0:World) (hM:HM W0) (a b:List Ent):Fn Tryz.prog W0 76 [zh a,zh b] (.c (ze (qS a b))) []:=by
 refine fX mixed zco fun hg=>?_
 have hT:(∀ p∈jQ a b,pOk p=true)∧(jQ a b).length≤32∧(jQ a b≠[]→TG b):=by
  unfold jQ;split
  ·rename_i h;simp only [Bool.and_eq_true] at h;have h1:=(qN h.1).1;have h2:=(qN h.2).1;have h3:=zb6 (a:=a) (b:=b);exact ⟨fun p hp=>zb7 h.1 h.2 hp,by omega,fun _=>TG.of h.2⟩
  ·exact ⟨fun p hp=>(by cases hp),by simp,fun h=>absurd rfl h⟩
 obtain ⟨hT1,hT2,hT3⟩:=hT;have hfin:∀ S,qc Mark.path (((jQ a b).filterMap (zB b)).foldl jH ((jQ a b).filterMap (zB b))) S→S=qS a b:=by
  intro S hS;unfold jQ at hS;unfold qS;split at hS
  ·rename_i h;rw [if_pos h];simp only [Bool.and_eq_true] at h;exact zcK (TG.of h.1) (TG.of h.2) hS
  ·rename_i h;rw [if_neg h];exact List.Perm.eq_nil hS.1
 refine dEr ?_;repeat (refine c0 (zcY W0 hM a b) rfl ?_; first|refine dEr ?_|exact dz)
 generalize jQ a b=T at *;refine lp2 (fun (k:Nat) (out:List Mark)=>[(1,.c (zh b)),(5,.own 80 out.length),(16,.c (jM T)),(17,I T.length),(18,I k)]) (fun _ out=>[(80,.row (out.map zq) 3 34)]) (fun k out=>k≤T.length∧out=(T.take k).filterMap (zB b)∧out.length≤k) (fun k _=>T.length - k) 0 [] ⟨by simp,rfl,by simp⟩ ?_ ?_
 ·refine dr ?_;trivial
 rintro k out ⟨hk,ho,hle⟩;refine dr ?_;apply cP<;>intro h1
 ·have hk':k < T.length:=by omega
  have gb:=hT3 (fun e=>by rw [e] at hk'; simp at hk');have hp:=hT1 _ (List.getElem_mem hk');have hn:(T.take (k+1)).filterMap (zB b)=out++(zB b T[k]).toList:=by rw [Yc hk',← ho]
  have hc:=zay W0 b T[k];cases hx:find b T[k] with
  | some e =>
   rw [hx] at hc;refine dEr ?_;repeat (refine c0 hc rfl ?_; first|refine dEr ?_|exact dz)
   apply cP<;>intro h2
   ·have e1:zB b T[k]=some ⟨T[k],2,[]⟩:=by
     have:=gb.data (jT hx).2 h2;unfold zB; rw [jm hp,hx]; simp [h2,this]
    rw [e1] at hn;refine dr ?_;repeat ((first|refine oB (by simp; omega) ?_|refine oB (by simp) ?_); first|refine dr ?_|exact dz)
    refine ⟨k+1,out++[⟨T[k],2,[]⟩],⟨by omega,by rw [hn]; rfl,by simp; omega⟩,by omega,?_⟩;refine dr ?_;repeat (refine oB (by simp<;>rfl) ?_; first|refine dr ?_|exact dz)
    trivial
   ·have e1:zB b T[k]=some ⟨T[k],1,e.data⟩:=by
     unfold zB; rw [jm hp,hx]; simp [h2]
    rw [e1] at hn;refine dr ?_;repeat ((first|refine oB (by simp; omega) ?_|refine oB (by simp) ?_); first|refine dr ?_|exact dz)
    refine ⟨k+1,out++[⟨T[k],1,e.data⟩],⟨by omega,by rw [hn]; rfl,by simp; omega⟩,by omega,?_⟩;refine dr ?_;repeat (refine oB (by simp<;>rfl) ?_; first|refine dr ?_|exact dz)
    trivial
  | none =>
   rw [hx] at hc;refine dEr ?_;repeat ((first|refine c0 hc rfl ?_|refine c0 (Jc W0 hM b _) rfl ?_); first|refine dEr ?_|exact dz)
   apply cP<;>intro h2
   ·have e1:zB b T[k]=some ⟨T[k],3,[]⟩:=by
     unfold zB; rw [jm hp,hx]; simp only [qF.1 h2,if_true]
    rw [e1] at hn;refine dr ?_;repeat ((first|refine oB (by simp; omega) ?_|refine oB (by simp) ?_); first|refine dr ?_|exact dz)
    refine ⟨k+1,out++[⟨T[k],3,[]⟩],⟨by omega,by rw [hn]; rfl,by simp; omega⟩,by omega,?_⟩;refine dr ?_;repeat (refine oB (by simp<;>rfl) ?_; first|refine dr ?_|exact dz)
    trivial
   ·have e1:zB b T[k]=none:=by
     have:zR b (pUp T[k])=false:=by
      rw [Bool.eq_false_iff]; exact fun e=>h2 (qF.2 e)
     unfold zB; rw [jm hp,hx]; simp [this]
    rw [e1] at hn;refine dr ?_;refine ⟨k+1,out,⟨by omega,by rw [hn]; simp,by omega⟩,by omega,?_⟩;refine dr ?_;trivial
 have hkl:k=T.length:=by omega
 rw [hkl,List.take_length] at ho;have hpo:∀ m∈out,pOk m.path=true:=fun m hm=>by
  rw [ho] at hm;obtain ⟨p,hp,e⟩:=List.mem_filterMap.1 hm;rw [yl e]; exact hT1 p hp
 rw [← ho] at hfin;have hol:out.length≤32:=by omega
 clear ho hle hk h1 hkl hT1 hT2 hT3;generalize hoo:out=D at *;refine dr ?_;refine lp2 (fun (k:Nat) (out:List Mark)=>[(5,.own 80 out.length),(60,I D.length),(61,I k)]) (fun _ out=>[(80,.row (out.map zq) 3 34)]) (fun k out=>k≤D.length∧out=(D.take k).foldl jH D∧out.length≤D.length+3 * k∧∃ s,out=D++s) (fun k _=>D.length - k) 0 D ⟨by simp,by simp,by simp,[],by simp⟩ ?_ ?_
 ·refine dr ?_;trivial
 clear hoo;rintro k out ⟨hk,ho,hle,hs⟩;refine dr ?_;apply cP<;>intro h1
 ·have hk':k < D.length:=by omega
  have hko:k < out.length:=by obtain ⟨s,rfl⟩:=hs; simp; omega
  have hget:out[k]=D[k]:=by
   obtain ⟨s,rfl⟩:=hs;rw [List.getElem_append_left hk']
  have hp:=hpo _ (List.getElem_mem hk');have hn:(D.take (k+1)).foldl jH D=jH out D[k]:=by rw [qU hk',← ho]
  have hnl:=zcc (l:=out) (m:=D[k]);refine dEr ?_;repeat (refine c0 (yK W0 hM _) rfl ?_; first|refine dEr ?_|exact dz)
  rw [hget];refine lp3 (fun (m:Nat) (q:Str) (o:List Mark)=>[(5,.own 80 o.length),(60,I D.length),(61,I k),(11,.c (CS (pUp q)))]) (fun _ _ o=>[(80,.row (o.map zq) 3 34)])
   (fun m q o=>pOk q=true∧(names q).length≤m∧(jd m q).foldl jf o=jH out D[k]∧o.length+m≤out.length+3∧∃ s,o=D++s) (fun m _ _=>m) 3 D[k].path out ⟨hp,(qp hp).1.2,rfl,by omega,hs⟩ ?_ ?_
  ·refine dr ?_;trivial
  rintro m q o ⟨hq,hqn,hqo,hql,hqs⟩;refine dr ?_;apply cP<;>intro h2
  ·obtain ⟨u1,_,u3⟩:=yd hq h2;cases m with
   | zero=>have:=(qp hq).1.1; omega
   | succ m =>
    have hqo2:(jd m (pUp q)).foldl jf (jf o (pUp q))=jH out D[k]:=by
     rw [← hqo]; conv=>rhs; rw [jd,if_neg h2]
     rfl
    have hal:=Y7 (l:=o) (u:=pUp q);have hc:=Jb W0 o (pUp q);rw [Z3] at hc;refine dEr ?_;repeat (refine c0 hc rfl ?_; first|refine dEr ?_|exact dz)
    apply cP<;>intro h3
    ·have e1:jf o (pUp q)=o++[⟨pUp q,2,[]⟩]:=by unfold jf; rw [if_neg (by simp [h3])]
     refine dEr ?_;repeat ((first|refine oB (by simp; omega) ?_|refine oB (by simp) ?_|refine c0 (yK W0 hM _) rfl ?_); first|refine dEr ?_|exact dz)
     refine ⟨m,pUp q,jf o (pUp q),⟨u1,by omega,hqo2,by omega,YJ hqs⟩,by omega,?_⟩;refine dr ?_;repeat (refine oB (by simp [e1]<;>rfl) ?_; first|refine dr ?_|exact dz)
     trivial
    ·have e1:jf o (pUp q)=o:=by unfold jf; rw [if_pos h3]
     refine dEr ?_;repeat (refine c0 (yK W0 hM _) rfl ?_; first|refine dEr ?_|exact dz)
     refine ⟨m,pUp q,jf o (pUp q),⟨u1,by omega,hqo2,by omega,YJ hqs⟩,by omega,?_⟩;refine dr ?_;repeat (refine oB (by simp [e1]<;>rfl) ?_; first|refine dr ?_|exact dz)
     trivial
  ·rw [zgf h2] at hqo;have hqo:o=jH out D[k]:=hqo;refine dr ?_;refine ⟨k+1,o,⟨by omega,by rw [hn,hqo],by rw [hqo]; omega,hqs⟩,by omega,?_⟩;refine dr ?_;trivial
 have hkl:k=D.length:=by omega
 rw [hkl,List.take_length] at ho;rw [← ho] at hfin;refine dr ?_;refine oW ((zdi W0 out (by omega)).swp 1 80) rfl ⟨rfl,trivial⟩ rfl rfl JC fun S hS=>⟨rfl,?_⟩
 refine dEr ?_;repeat (refine oB (by simp [hS.len]) ?_; first|refine dEr ?_|exact dz)
 rw [hfin S hS]<;>rfl
end Go.Proofs.YtmkmldepkponaaaGreatDoor

namespace Go.Proofs.YtmkmldepkponaaaGreatDoor
set_option linter.unusedSimpArgs false
set_option linter.unusedVariables false
open Go Go.RowKit
def qM (o:Over):Option (List Ent × List Ent):=match jj o with
 | none=>none
 | some t=>match lOn o.upper t with
  | none=>none
  | some x=>if o.upper=diff t x then some (t,x) else none
def eOT:Option (List Ent × List Ent)→CV
 | none => .tup [zh [],zh [],CB false]
 | some x => .tup [zh x.1,zh x.2,CB true]
theorem zbq {o:Over}:oOk o=(qM o).isSome:=by
 unfold oOk qM jL;cases jj o with
 | none=>rfl
 | some t =>
  simp only;cases lOn o.upper t with
  | none=>rfl
  | some x =>
   simp only;by_cases h:o.upper=diff t x
   ·rw [if_pos h]; simp [h]
   ·rw [if_neg h]; simp [h]
def zho:XC:=(.s (.r [.x1 1 0,.a2 2 3 77,.a2 3 3 77,.m1 4 .n]) (.s (.s (.r [.f1 12 0 1,.l1 13 1 12,.c1 14 85 [13],.u1 15 14,.mv 16 15,.h1 17 1 1 16,.h2 18 1 17 16,.gf 19 (.len false 18) 16,.gf 20 (.bin .gtr 19 (.i 4)) 16,.p1 21 16 20]) (.cnd 21 (.s (.r [.a2 2 3 77,.a2 3 3 77,.m1 4 .n]) .ret) .skip)) (.s (.r [.f1 22 0 1,.l1 23 1 22,.c1 24 86 [23],.a1 5 24 3 77]) (.s (.s (.r [.f1 25 1 1,.l1 26 1 25,.n1 27 26,.m1 28 (.i 0)]) (.blk 0 (.loop (.s (.r [.b1 29 .lss 28 27]) (.s (.ce 29 0) (.s (.blk 1 (.s (.r [.i1 30 1 26 28,.l1 31 1 30,.a1 7 31 3 34]) (.s (.r [.mv 33 7,.mv 34 5,.c1 35 87 [33,34],.mv 32 35,.e1 36 32 0,.e1 37 32 1,.a1 8 36 3 77,.mv 9 37]) (.s (.s (.r [.mv 38 9,.u1 39 38]) (.cnd 39 (.s (.r [.a2 2 3 77,.a2 3 3 77,.m1 4 .n]) .ret) .skip)) (.r [.mv 40 8,.a1 5 40 3 77]))))) (.r [.b1 41 .add 28 (.i 1),.mv 28 41]))))))) (.s (.r [.f1 43 2 1,.l1 44 1 43,.mv 45 5,.c1 46 87 [44,45],.mv 42 46,.e1 47 42 0,.e1 48 42 1,.a1 10 47 3 77,.mv 11 48]) (.s (.s (.d [.mv 49 11,.u1 50 49,.mv 51 50,.h1 52 2 1 51,.h2 53 1 52 51,.h3 54 5 51,.h3 55 10 51,.gf 56 (.call 76 [54,55]) 51,.gf 57 (.call 47 [53,56]) 51,.gf 58 (.un .not 57) 51,.p1 59 51 58]) (.cnd 59 (.s (.r [.a2 2 3 77,.a2 3 3 77,.m1 4 .n]) .ret) .skip)) (.s (.r [.mv 60 5,.mv 61 10,.a1 2 60 3 77,.a1 3 61 3 77,.m1 4 .y]) .ret)))))))
theorem zhp:zj Tryz.prog [] 50=some (zho.ac,[(.t 2),(.t 3),(.t 4)],62):=by kernel_rfl
theorem zdf (W0:World) (hM:HM W0) (o:Over):Fn Tryz.prog W0 50 [zA o] (.c (eOT (qM o))) []:=by
 refine fX mixed zhp fun hg=>?_
 have no:jj o=none→CV.tup [zh [],zh [],CB false]=eOT (qM o):=fun h=>by rw [qM,h]; rfl
 refine dEr ?_;repeat (refine c0 (Ja W0 hM _) rfl ?_; first|refine dEr ?_|exact dz)
 apply cP<;>intro h1
 ·refine dr ?_;repeat (refine oB (by simp) ?_; first|refine dr ?_|exact dz)
  exact no (by rw [jj,if_neg (by simp [h1])])
 refine dr ?_;apply cP<;>intro h2
 ·refine dr ?_;repeat (refine oB (by simp) ?_; first|refine dr ?_|exact dz)
  exact no (by rw [jj,if_neg (by omega)])
 have hl4:jj o=lowerA o.layers o.base:=by rw [jj,if_pos ⟨h1,by omega⟩]
 have hbl:=(qN h1).1;refine dEr ?_;repeat (refine c0 (zaw W0 _ (by omega)) rfl ?_; first|refine dEr ?_|exact dz)
 refine lp2 (fun (k:Nat) (t:List Ent)=>[(1,.ptr 16 0),(5,.c (zh t)),(26,.c (zJ o.layers)),(27,I o.layers.length),(28,I k)]) (fun _ _=>[(16,.box [.c (zh o.base),.c (zJ o.layers),.c (ze o.upper)]),(32,.row [] 3 77),(48,.row [] 3 77)]) (fun k t=>k≤o.layers.length∧lowerA (o.layers.take k) o.base=some t∧tOk t=true) (fun k _=>o.layers.length - k) 0 o.base ⟨by simp,rfl,h1⟩ ?_ ?_
 ·refine dr ?_;trivial
 rintro k t ⟨hk,ha,ht⟩;refine dr ?_;apply cP<;>intro h3
 ·have hk':k < o.layers.length:=by omega
  have hn:lowerA (o.layers.take (k+1)) o.base=lOn o.layers[k] t:=by
   rw [List.take_succ_eq_append_getElem hk',Zf,ha];simp only [lowerA];cases lOn o.layers[k] t<;>rfl
  have hc:=zc4 W0 hM o.layers[k] t;cases hx:lOn o.layers[k] t with
  | none =>
   rw [hx] at hc;refine dEr ?_;repeat ((first|refine c0 hc rfl ?_|refine oB (by simp) ?_); first|refine dEr ?_|exact dz)
   refine no ?_;have e:o.layers=o.layers.take (k+1)++o.layers.drop (k+1):=by rw [List.take_append_drop]
   rw [hl4,e,Zf,hn,hx]
  | some t' =>
   rw [hx] at hc;refine dEr ?_;repeat (refine c0 hc rfl ?_; first|refine dEr ?_|exact dz)
   refine ⟨k+1,t',⟨by omega,by rw [hn,hx],ZJ hx⟩,by omega,?_⟩;refine dr ?_;trivial
 have hkl:k=o.layers.length:=by omega
 rw [hkl,List.take_length] at ha;have hl4':jj o=some t:=by rw [hl4,ha]
 have hc:=zc4 W0 hM o.upper t;have e:qM o=match lOn o.upper t with
  | none=>none
  | some x=>if o.upper=diff t x then some (t,x) else none:=by rw [qM,hl4']
 rw [e];cases hx:lOn o.upper t with
 | none =>
  rw [hx] at hc;refine dEr ?_;repeat ((first|refine c0 hc rfl ?_|refine oB (by simp) ?_); first|refine dEr ?_|exact dz)
  try rfl
 | some x =>
  rw [hx] at hc;have hd:=zkA W0 hM t x;rw [qS,if_pos (by simp [ht,ZJ hx])] at hd;refine dEr ?_;repeat ((first|refine c0 hc rfl ?_|refine c0 hd rfl ?_|refine c0 (zc5 W0 _ _) rfl ?_); first|refine dEr ?_|exact dz)
  apply cP<;>intro h4
  ·refine dr ?_;repeat (refine oB (by simp) ?_; first|refine dr ?_|exact dz)
   show _=eOT (if o.upper=diff t x then some (t,x) else none);rw [if_neg h4]<;>rfl
  ·refine dr ?_;repeat (refine oB (by simp) ?_; first|refine dr ?_|exact dz)
   show _=eOT (if o.upper=diff t x then some (t,x) else none);rw [if_pos h4]<;>rfl
def zgP:XC:=(.s (.r [.x1 1 0,.m1 2 .n]) (.s (.r [.l2 7 3 1,.c1 8 50 [7],.mv 6 8,.e1 9 6 0,.e1 10 6 1,.e1 11 6 2,.a1 3 9 3 77,.a1 4 10 3 77,.mv 5 11]) (.s (.r [.mv 12 5,.mv 2 12]) .ret)))
theorem zgQ:zj Tryz.prog [] 15=some (zgP.ac,[(.t 2)],13):=by kernel_rfl
theorem Q2 (W0:World) (hM:HM W0) (o:Over):Fn Tryz.prog W0 15 [zA o] (.c (CB (oOk o))) []:=by
 refine fX mixed zgQ fun hg=>?_
 have hc:=zdf W0 hM o;cases hx:qM o with
 | none =>
  rw [hx] at hc;refine dEr ?_;repeat (refine c0 hc rfl ?_; first|refine dEr ?_|exact dz)
  rw [zbq,hx]<;>rfl
 | some x =>
  rw [hx] at hc;refine dEr ?_;repeat (refine c0 hc rfl ?_; first|refine dEr ?_|exact dz)
  rw [zbq,hx]<;>rfl
end Go.Proofs.YtmkmldepkponaaaGreatDoor

namespace Go.Proofs.YtmkmldepkponaaaGreatDoor
set_option linter.unusedSimpArgs false
set_option linter.unusedVariables false
open Go Go.RowKit
end Go.Proofs.YtmkmldepkponaaaGreatDoor

namespace Go.Proofs.YtmkmldepkponaaaGreatDoor
set_option linter.unusedSimpArgs false
set_option linter.unusedVariables false
open Go Go.RowKit
def zg9:XC:=(.s (.r [.a2 2 3 34]) (.s (.r [.mv 3 0,.ex 4 (.app true 3 40 34 (.k .nil) 3),.a1 2 4 3 34]) .ret))
theorem zha:zj Tryz.prog [] 67=some (zg9.ac,[(.t 2)],5):=by kernel_rfl
theorem JZ (W0:World) (t:List Mark) (ht:t.length≤1000000):Fn Tryz.prog W0 67 [ze t] (.c (ze t)) []:=by
 refine fX mixed zha fun hg=>?_
 refine dr ?_;repeat ((first|refine oB (by simp; omega) ?_|refine oB (by simp) ?_); first|refine dr ?_|exact dz)
 rfl
def zhb:XC:=(.s (.r [.x1 1 0,.ex 2 (.alloc [.nil,.nil,.nil])]) (.s (.r [.a2 3 1 25]) (.s (.s (.r [.f1 6 1 1,.l1 7 1 6,.n1 8 7,.m1 9 (.i 0)]) (.blk 0 (.loop (.s (.r [.b1 10 .lss 9 8]) (.s (.ce 10 0) (.s (.blk 1 (.s (.r [.i1 11 1 7 9,.l1 12 1 11,.a1 5 12 3 34]) (.r [.mv 13 3,.mv 14 5,.c1 15 67 [14],.ex 16 (.bsl 1 25 [15]),.ex 17 (.app false 1 24 25 13 16),.a1 3 17 1 25]))) (.r [.b1 18 .add 9 (.i 1),.mv 9 18]))))))) (.s (.d [.f1 19 0 1,.l1 20 1 19,.c1 21 86 [20],.mv 22 3,.f1 23 2 1,.l1 24 1 23,.c1 25 67 [24],.ex 26 (.build [.nil,.nil,.nil] [(0,(1,21)),(1,(1,22)),(2,(1,25))]),.s1 3 2 26]) .ret))))
theorem zcq:zj Tryz.prog [] 70=some (zhb.ac,[(.cell 2 true 3)],27):=by kernel_rfl
theorem zku (W0:World) (o:Over) (h:OZ 1000000 o):zy Tryz.prog W0 70 [.c (zA o)] [] (fun _:Unit=>True) (fun _ => .agg [.c (zh o.base),.own 4 o.layers.length,.c (ze o.upper)]) (fun _=>[(4,.row (o.layers.map ze) 1 25)]):=by
 refine zy.swp (R:=fun _ => .agg [.c (zh o.base),.own 48 o.layers.length,.c (ze o.upper)]) (M:=fun _=>[(48,.row (o.layers.map ze) 1 25)]) (vs:=[.c (zA o)]) (mp:=[]) ?_ 4 48;refine fW mixed zcq fun hg=>?_
 obtain ⟨z1,z2,z3,z4⟩:=h;refine dr ?_;refine lp (σ:=Nat) (fun k=>[(1,.ptr 16 0),(2,.ptr 32 0),(3,.own 48 k),(7,.c (zJ o.layers)),(8,I o.layers.length),(9,I k)]) (fun k=>[(16,.box [.c (zh o.base),.c (zJ o.layers),.c (ze o.upper)]),(32,.box [.nil,.nil,.nil]),(48,.row ((o.layers.take k).map ze) 1 25)]) (fun k=>k≤o.layers.length) (fun k=>o.layers.length - k) 0 (by simp) ?_ ?_
 ·refine dr ?_;repeat (refine oB (by simp) ?_; first|refine dr ?_|exact dz)
  trivial
 intro k hk;refine dr ?_;apply cP<;>intro h1
 ·have hk':k < o.layers.length:=by omega
  have hz:=z3 _ (List.getElem_mem hk');refine dEr ?_;repeat ((first|refine c0 (JZ W0 _ hz) rfl ?_|refine oB (by simp; omega) ?_); first|refine dEr ?_|exact dz)
  refine ⟨k+1,by omega,by omega,?_⟩;rw [List.take_succ_eq_append_getElem hk',List.map_append];refine dr ?_;trivial
 have hkl:k=o.layers.length:=by omega
 subst hkl;rw [List.take_length];refine dEr ?_;repeat ((first|refine c0 (zaw W0 _ z1) rfl ?_|refine c0 (JZ W0 _ z4) rfl ?_); first|refine dEr ?_|exact dz)
 refine ⟨none,_,_,?_,(),trivial,rfl,rfl⟩;refine dr ?_;trivial
theorem zkv (W0:World) (o:Over) (h:OZ 1000000 o):Fn Tryz.prog W0 70 [zA o] (.c (zA o)) []:=by
 refine fX mixed zcq fun hg=>?_
 obtain ⟨z1,z2,z3,z4⟩:=h;refine dr ?_;refine lp (σ:=Nat) (fun k=>[(1,.ptr 16 0),(2,.ptr 32 0),(3,.own 48 k),(7,.c (zJ o.layers)),(8,I o.layers.length),(9,I k)]) (fun k=>[(16,.box [.c (zh o.base),.c (zJ o.layers),.c (ze o.upper)]),(32,.box [.nil,.nil,.nil]),(48,.row ((o.layers.take k).map ze) 1 25)]) (fun k=>k≤o.layers.length) (fun k=>o.layers.length - k) 0 (by simp) ?_ ?_
 ·refine dr ?_;repeat (refine oB (by simp) ?_; first|refine dr ?_|exact dz)
  trivial
 intro k hk;refine dr ?_;apply cP<;>intro h1
 ·have hk':k < o.layers.length:=by omega
  have hz:=z3 _ (List.getElem_mem hk');refine dEr ?_;repeat ((first|refine c0 (JZ W0 _ hz) rfl ?_|refine oB (by simp; omega) ?_); first|refine dEr ?_|exact dz)
  refine ⟨k+1,by omega,by omega,?_⟩;rw [List.take_succ_eq_append_getElem hk',List.map_append];refine dr ?_;trivial
 have hkl:k=o.layers.length:=by omega
 subst hkl;rw [List.take_length];refine dEr ?_;repeat ((first|refine c0 (zaw W0 _ z1) rfl ?_|refine c0 (JZ W0 _ z4) rfl ?_); first|refine dEr ?_|exact dz)
 rfl
theorem zme {o:Over} {t x:List Ent} (g:OG o t x):qM o=some (t,x):=by
 unfold qM;rw [g.low];simp only;rw [g.on];simp only;rw [if_pos g.up]
theorem zmd {o:Over} (h:oOk o=false):qM o=none:=by
 rw [zbq] at h;cases hx:qM o with
 | none=>rfl
 | some x=>rw [hx] at h; cases h
def zgR:XC:=(.s (.r [.x1 1 0,.ex 2 (.alloc [.nil,.nil,.nil]),.m1 3 .n]) (.s (.s (.r [.l2 5 3 1,.c1 6 15 [5],.u1 7 6]) (.cnd 7 (.s (.r [.ex 8 (.build [.nil,.nil,.nil] []),.s1 3 2 8,.m1 3 .n]) .ret) .skip)) (.s (.r [.l2 9 3 1,.o1 10 70 [9],.ex 4 (.alloc [.nil,.nil,.nil]),.s1 3 4 10]) (.s (.s (.r [.f1 11 1 4,.l1 12 1 11,.n1 13 12,.b1 14 .eql 13 (.i 4)]) (.cnd 14 (.s (.r [.l2 15 3 4,.s1 3 2 15,.m1 3 .n]) .ret) .skip)) (.s (.r [.f1 16 1 4,.l1 17 1 16,.f1 18 2 4,.l1 19 1 18,.ex 20 (.bsl 1 25 [19]),.ex 21 (.app false 1 24 25 17 20),.f1 22 1 4,.s1 1 22 21]) (.s (.r [.f1 23 2 4,.nu (.st 1 23 (.k .nil))]) (.s (.r [.l2 24 3 4,.s1 3 2 24,.m1 3 .y]) .ret)))))))
theorem zgS:zj Tryz.prog [70] 34=some (zgR.ac,[(.cell 2 true 3),(.t 3)],25):=by kernel_rfl
theorem zkC (W0:World) (hM:HM W0) (o:Over):Fn Tryz.prog W0 34 [zA o] (.c (eOB (jV o))) []:=by
 refine fX mixed zgS fun hg=>?_
 refine dEr ?_;repeat (refine c0 (Q2 W0 hM o) rfl ?_; first|refine dEr ?_|exact dz)
 apply cP<;>intro h1
 ·refine dr ?_;rw [jV,if_neg (by simp [h1])]<;>rfl
 have hz:=OS.ok h1;have hn:=hz.n;rw [jV,if_pos h1];refine dr ?_;refine oW (zku W0 o (hz.oz.mono (by omega))) rfl trivial rfl rfl ⟨(),trivial⟩ fun _ _=>⟨rfl,?_⟩
 refine dEr ?_;apply cP<;>intro h2
 ·refine dr ?_;repeat (refine oB (by simp) ?_; first|refine dr ?_|exact dz)
  rw [if_pos (by omega)]<;>rfl
 ·refine dr ?_;repeat ((first|refine oB (by simp; omega) ?_|refine oB (by simp) ?_); first|refine dr ?_|exact dz)
  rw [if_neg (by omega)];exact congrArg (fun y=>CV.tup [.agg [zh o.base,y,ze []],CB true]) (by simp [zJ])
def zgN:XC:=(.s (.r [.x1 1 0,.ex 2 (.alloc [.nil,.nil,.nil])]) (.s (.s (.r [.l2 4 3 1,.c1 5 15 [4],.u1 6 5]) (.cnd 6 (.s (.r [.ex 7 (.build [.nil,.nil,.nil] []),.s1 3 2 7]) .ret) .skip)) (.s (.r [.l2 8 3 1,.c1 9 70 [8],.ex 3 (.alloc [.nil,.nil,.nil]),.s1 3 3 9]) (.s (.r [.f1 10 2 3,.nu (.st 1 10 (.k .nil))]) (.s (.r [.l2 11 3 3,.s1 3 2 11]) .ret)))))
theorem zgO:zj Tryz.prog [] 32=some (zgN.ac,[(.cell 2 true 3)],12):=by kernel_rfl
theorem zkB (W0:World) (hM:HM W0) (o:Over):Fn Tryz.prog W0 32 [zA o] (.c (zA (qy o))) []:=by
 refine fX mixed zgO fun hg=>?_
 refine dEr ?_;repeat (refine c0 (Q2 W0 hM o) rfl ?_; first|refine dEr ?_|exact dz)
 apply cP<;>intro h1
 ·refine dr ?_;rw [qy,if_neg (by simp [h1])]<;>rfl
 have hz:=OS.ok h1;rw [qy,if_pos h1];refine dEr ?_;repeat (refine c0 (zkv W0 o (hz.oz.mono (by omega))) rfl ?_; first|refine dEr ?_|exact dz)
 rfl
def zgT:XC:=(.s (.r [.x1 1 0,.ex 2 (.alloc [.nil,.nil,.nil])]) (.s (.r [.l2 7 3 1,.c1 8 50 [7],.mv 6 8,.e1 9 6 0,.e1 10 6 1,.e1 11 6 2,.a1 3 9 3 77,.a1 4 10 3 77,.mv 5 11]) (.s (.s (.r [.mv 12 5,.u1 13 12]) (.cnd 13 (.s (.r [.ex 14 (.build [.nil,.nil,.nil] []),.s1 3 2 14]) .ret) .skip)) (.s (.r [.mv 15 3,.f1 16 2 1,.l1 17 1 16,.c1 18 67 [17],.ex 19 (.build [.nil,.nil,.nil] [(0,(1,15)),(2,(1,18))]),.s1 3 2 19]) .ret))))
theorem zgU:zj Tryz.prog [] 29=some (zgT.ac,[(.cell 2 true 3)],20):=by kernel_rfl
theorem zkD (W0:World) (hM:HM W0) (o:Over):Fn Tryz.prog W0 29 [zA o] (.c (zA (yb o))) []:=by
 refine fX mixed zgU fun hg=>?_
 have q:=zdf W0 hM o;cases h1:oOk o with
 | false =>
  rw [zmd h1] at q;refine dEr ?_;repeat (refine c0 q rfl ?_; first|refine dEr ?_|exact dz)
  rw [yb,if_neg (by simp [h1])]<;>rfl
 | true =>
  obtain ⟨t,x,g⟩:=OG.of h1;have hz:=g.os.u;rw [zme g] at q;rw [g.sink.1];refine dEr ?_;repeat ((first|refine c0 q rfl ?_|refine c0 (JZ W0 _ (by omega)) rfl ?_); first|refine dEr ?_|exact dz)
  rfl
end Go.Proofs.YtmkmldepkponaaaGreatDoor

namespace Go.Proofs.YtmkmldepkponaaaGreatDoor
set_option linter.unusedSimpArgs false
set_option linter.unusedVariables false
open Go Go.RowKit
theorem zcX (W0:World) (hM:HM W0) (l:List Mark) (t x:List Ent) (hx:lOn l t=some x):zy Tryz.prog W0 87 [.c (ze l),.c (zh t)] [] (fun _:Unit=>True) (fun _ => .tup [.own 4 x.length,.c (CB true)]) (fun _=>[(4,.row (x.map zs) 3 77)]):=by
 refine zy.swp (R:=fun _ => .tup [.own 96 x.length,.c (CB true)]) (M:=fun _=>[(96,.row (x.map zs) 3 77)]) (vs:=[.c (ze l),.c (zh t)]) (mp:=[]) ?_ 4 96;refine fW mixed zcp fun hg=>?_
 refine dEr ?_;repeat (refine c0 (zc3 W0 hM _) rfl ?_; first|refine dEr ?_|exact dz)
 apply cP<;>intro h1
 ·rw [lOn,if_neg (by simp [h1])] at hx;cases hx
 refine dEr ?_;repeat (refine c0 (Ja W0 hM _) rfl ?_; first|refine dEr ?_|exact dz)
 apply cP<;>intro h2
 ·rw [lOn,if_neg (by simp [h2])] at hx;cases hx
 have gl:=LG.of h1;have gt:=TG.of h2;have hll:=(jo.1 h1).1;have htl:=gt.len;have e:lOn l t=if (onX l t).length≤16 then some (jz l t) else none:=by rw [lOn,if_pos (by simp [h1,h2]),zeQ h1 gt.srt]
 rw [e] at hx;refine dr ?_;refine lp2 (fun (k:Nat) (out:List Ent)=>[(0,.c (ze l)),(6,.own 96 out.length),(21,.c (zh t)),(22,I t.length),(23,I k)]) (fun _ out=>[(96,.row (out.map zs) 3 77)]) (fun k out=>k≤t.length∧out=(t.take k).filter (fun e=>!(zD l e.path).isSome&&!zQ l e.path)∧out.length≤k) (fun k _=>t.length - k) 0 [] ⟨by simp,rfl,by simp⟩ ?_ ?_
 ·refine dr ?_;trivial
 rintro k out ⟨hk,ho,hle⟩;refine dr ?_;apply cP<;>intro h3
 ·have hk':k < t.length:=by omega
  have hc:=Jb W0 l t[k].path;rw [Z3] at hc;have hh:=zc7 W0 hM l t[k].path;rw [zd3 gl (gt.path (List.getElem_mem hk'))] at hh;refine dEr ?_;repeat (refine c0 hc rfl ?_; first|refine dEr ?_|exact dz)
  apply cP<;>intro h4
  ·refine dEr ?_;repeat (refine c0 hh rfl ?_; first|refine dEr ?_|exact dz)
   apply cP<;>intro h5
   ·refine dr ?_;repeat ((first|refine oB (by simp; omega) ?_|refine oB (by simp) ?_); first|refine dr ?_|exact dz)
    refine ⟨k+1,out++[t[k]],⟨by omega,by rw [J2 hk' (by simp [h4,h5]),ho],by simp; omega⟩,by omega,?_⟩;refine dr ?_;repeat (refine oB (by simp<;>rfl) ?_; first|refine dr ?_|exact dz)
    trivial
   ·refine dr ?_;refine ⟨k+1,out,⟨by omega,by rw [Je hk' (by simp [h5]),ho],by omega⟩,by omega,?_⟩;refine dr ?_;trivial
  ·refine dr ?_;refine ⟨k+1,out,⟨by omega,by rw [Je hk' (by simp [h4]),ho],by omega⟩,by omega,?_⟩;refine dr ?_;trivial
 have hkl:k=t.length:=by omega
 rw [hkl,List.take_length] at ho;have hX:onX l t=out++l.filterMap zX:=by rw [onX,ho]
 have hout:out.length≤16:=by omega
 clear ho hle hk h3 hkl;rw [hX] at hx;generalize hoo:out=o0 at *;refine dr ?_;refine lp2 (fun (k:Nat) (out:List Ent)=>[(6,.own 96 out.length),(48,.c (ze l)),(49,I l.length),(50,I k)]) (fun _ out=>[(96,.row (out.map zs) 3 77)]) (fun k out=>k≤l.length∧out=o0++(l.take k).filterMap zX∧out.length≤o0.length+k) (fun k _=>l.length - k) 0 o0 ⟨by simp,by simp,by simp⟩ ?_ ?_
 ·refine dr ?_;trivial
 clear hoo;rintro k out ⟨hk,ho,hle⟩;refine dr ?_;apply cP<;>intro h3
 ·have hk':k < l.length:=by omega
  have hmk:=ZO (gl.ok _ (List.getElem_mem hk'));have hn:o0++(l.take (k+1)).filterMap zX=out++(zX l[k]).toList:=by rw [Yc hk',← List.append_assoc,← ho]
  refine dr ?_;apply cP<;>intro h4
  ·have he:zX l[k]=some ⟨l[k].path,decide (l[k].kind=2∨l[k].kind=4),l[k].data⟩:=by
    unfold zX;by_cases h5:l[k].kind=1
    ·rw [if_pos h5]; simp [h5]
    ·rw [if_neg h5,if_pos (by omega)];have:=zeG (gl.ok _ (List.getElem_mem hk')) h5;rw [this]; simp; omega
   rw [he] at hn;refine dEr ?_;repeat ((first|refine c0 (Q4 W0 l[k]) rfl ?_|refine oB (by simp; omega) ?_|refine oB (by simp) ?_); first|refine dEr ?_|exact dz)
   refine ⟨k+1,_,⟨by omega,hn.symm,by simp; omega⟩,by omega,?_⟩;refine dr ?_;repeat (refine oB (by simp<;>rfl) ?_; first|refine dr ?_|exact dz)
   trivial
  ·have he:zX l[k]=none:=by unfold zX; rw [if_neg (by omega),if_neg (by omega)]
   rw [he] at hn;refine dr ?_;refine ⟨k+1,out,⟨by omega,by rw [hn]; simp,by omega⟩,by omega,?_⟩;refine dr ?_;trivial
 have hkl:k=l.length:=by omega
 rw [hkl,List.take_length] at ho;rw [← ho] at hx;have hX2:onX l t=out:=by rw [hX,ho]
 refine dr ?_;apply cP<;>intro h5
 ·rw [if_neg (by omega)] at hx;cases hx
 ·refine dr ?_;refine oW ((zdh W0 out (by omega)).swp 1 96) rfl ⟨rfl,trivial⟩ rfl rfl JC fun S hS=>⟨rfl,?_⟩
  have hSl:=hS.len;rw [if_pos (by omega)] at hx;have hSx:S=x:=(zeS h1 gt.srt (by rw [hX2]; exact hS)).trans (Option.some.inj hx);subst hSx;refine dEr ?_;refine ⟨none,_,_,?_,(),trivial,rfl,rfl⟩;refine dr ?_;repeat (refine oB (by simp [hS.len]) ?_; first|refine dr ?_|exact dz)
  trivial
theorem zkn (W0:World) (hM:HM W0) (a b:List Ent) (y:List Mark) (hy:qS a b=y):zy Tryz.prog W0 76 [.c (zh a),.c (zh b)] [] (fun _:Unit=>True) (fun _ => .own 4 y.length) (fun _=>[(4,.row (y.map zq) 3 34)]):=by
 subst hy;refine zy.swp (R:=fun _ => .own 80 (qS a b).length) (M:=fun _=>[(80,.row ((qS a b).map zq) 3 34)]) (vs:=[.c (zh a),.c (zh b)]) (mp:=[]) ?_ 4 80;refine fW mixed zco fun hg=>?_
 have hT:(∀ p∈jQ a b,pOk p=true)∧(jQ a b).length≤32∧(jQ a b≠[]→TG b):=by
  unfold jQ;split
  ·rename_i h;simp only [Bool.and_eq_true] at h;have h1:=(qN h.1).1;have h2:=(qN h.2).1;have h3:=zb6 (a:=a) (b:=b);exact ⟨fun p hp=>zb7 h.1 h.2 hp,by omega,fun _=>TG.of h.2⟩
  ·exact ⟨fun p hp=>(by cases hp),by simp,fun h=>absurd rfl h⟩
 obtain ⟨hT1,hT2,hT3⟩:=hT;have hfin:∀ S,qc Mark.path (((jQ a b).filterMap (zB b)).foldl jH ((jQ a b).filterMap (zB b))) S→S=qS a b:=by
  intro S hS;unfold jQ at hS;unfold qS;split at hS
  ·rename_i h;rw [if_pos h];simp only [Bool.and_eq_true] at h;exact zcK (TG.of h.1) (TG.of h.2) hS
  ·rename_i h;rw [if_neg h];exact List.Perm.eq_nil hS.1
 refine dEr ?_;repeat (refine c0 (zcY W0 hM a b) rfl ?_; first|refine dEr ?_|exact dz)
 generalize jQ a b=T at *;refine lp2 (fun (k:Nat) (out:List Mark)=>[(1,.c (zh b)),(5,.own 80 out.length),(16,.c (jM T)),(17,I T.length),(18,I k)]) (fun _ out=>[(80,.row (out.map zq) 3 34)]) (fun k out=>k≤T.length∧out=(T.take k).filterMap (zB b)∧out.length≤k) (fun k _=>T.length - k) 0 [] ⟨by simp,rfl,by simp⟩ ?_ ?_
 ·refine dr ?_;trivial
 rintro k out ⟨hk,ho,hle⟩;refine dr ?_;apply cP<;>intro h1
 ·have hk':k < T.length:=by omega
  have gb:=hT3 (fun e=>by rw [e] at hk'; simp at hk');have hp:=hT1 _ (List.getElem_mem hk');have hn:(T.take (k+1)).filterMap (zB b)=out++(zB b T[k]).toList:=by rw [Yc hk',← ho]
  have hc:=zay W0 b T[k];cases hx:find b T[k] with
  | some e =>
   rw [hx] at hc;refine dEr ?_;repeat (refine c0 hc rfl ?_; first|refine dEr ?_|exact dz)
   apply cP<;>intro h2
   ·have e1:zB b T[k]=some ⟨T[k],2,[]⟩:=by
     have:=gb.data (jT hx).2 h2;unfold zB; rw [jm hp,hx]; simp [h2,this]
    rw [e1] at hn;refine dr ?_;repeat ((first|refine oB (by simp; omega) ?_|refine oB (by simp) ?_); first|refine dr ?_|exact dz)
    refine ⟨k+1,out++[⟨T[k],2,[]⟩],⟨by omega,by rw [hn]; rfl,by simp; omega⟩,by omega,?_⟩;refine dr ?_;repeat (refine oB (by simp<;>rfl) ?_; first|refine dr ?_|exact dz)
    trivial
   ·have e1:zB b T[k]=some ⟨T[k],1,e.data⟩:=by
     unfold zB; rw [jm hp,hx]; simp [h2]
    rw [e1] at hn;refine dr ?_;repeat ((first|refine oB (by simp; omega) ?_|refine oB (by simp) ?_); first|refine dr ?_|exact dz)
    refine ⟨k+1,out++[⟨T[k],1,e.data⟩],⟨by omega,by rw [hn]; rfl,by simp; omega⟩,by omega,?_⟩;refine dr ?_;repeat (refine oB (by simp<;>rfl) ?_; first|refine dr ?_|exact dz)
    trivial
  | none =>
   rw [hx] at hc;refine dEr ?_;repeat ((first|refine c0 hc rfl ?_|refine c0 (Jc W0 hM b _) rfl ?_); first|refine dEr ?_|exact dz)
   apply cP<;>intro h2
   ·have e1:zB b T[k]=some ⟨T[k],3,[]⟩:=by
     unfold zB; rw [jm hp,hx]; simp only [qF.1 h2,if_true]
    rw [e1] at hn;refine dr ?_;repeat ((first|refine oB (by simp; omega) ?_|refine oB (by simp) ?_); first|refine dr ?_|exact dz)
    refine ⟨k+1,out++[⟨T[k],3,[]⟩],⟨by omega,by rw [hn]; rfl,by simp; omega⟩,by omega,?_⟩;refine dr ?_;repeat (refine oB (by simp<;>rfl) ?_; first|refine dr ?_|exact dz)
    trivial
   ·have e1:zB b T[k]=none:=by
     have:zR b (pUp T[k])=false:=by
      rw [Bool.eq_false_iff]; exact fun e=>h2 (qF.2 e)
     unfold zB; rw [jm hp,hx]; simp [this]
    rw [e1] at hn;refine dr ?_;refine ⟨k+1,out,⟨by omega,by rw [hn]; simp,by omega⟩,by omega,?_⟩;refine dr ?_;trivial
 have hkl:k=T.length:=by omega
 rw [hkl,List.take_length] at ho;have hpo:∀ m∈out,pOk m.path=true:=fun m hm=>by
  rw [ho] at hm;obtain ⟨p,hp,e⟩:=List.mem_filterMap.1 hm;rw [yl e]; exact hT1 p hp
 rw [← ho] at hfin;have hol:out.length≤32:=by omega
 clear ho hle hk h1 hkl hT1 hT2 hT3;generalize hoo:out=D at *;refine dr ?_;refine lp2 (fun (k:Nat) (out:List Mark)=>[(5,.own 80 out.length),(60,I D.length),(61,I k)]) (fun _ out=>[(80,.row (out.map zq) 3 34)]) (fun k out=>k≤D.length∧out=(D.take k).foldl jH D∧out.length≤D.length+3 * k∧∃ s,out=D++s) (fun k _=>D.length - k) 0 D ⟨by simp,by simp,by simp,[],by simp⟩ ?_ ?_
 ·refine dr ?_;trivial
 clear hoo;rintro k out ⟨hk,ho,hle,hs⟩;refine dr ?_;apply cP<;>intro h1
 ·have hk':k < D.length:=by omega
  have hko:k < out.length:=by obtain ⟨s,rfl⟩:=hs; simp; omega
  have hget:out[k]=D[k]:=by
   obtain ⟨s,rfl⟩:=hs;rw [List.getElem_append_left hk']
  have hp:=hpo _ (List.getElem_mem hk');have hn:(D.take (k+1)).foldl jH D=jH out D[k]:=by rw [qU hk',← ho]
  have hnl:=zcc (l:=out) (m:=D[k]);refine dEr ?_;repeat (refine c0 (yK W0 hM _) rfl ?_; first|refine dEr ?_|exact dz)
  rw [hget];refine lp3 (fun (m:Nat) (q:Str) (o:List Mark)=>[(5,.own 80 o.length),(60,I D.length),(61,I k),(11,.c (CS (pUp q)))]) (fun _ _ o=>[(80,.row (o.map zq) 3 34)])
   (fun m q o=>pOk q=true∧(names q).length≤m∧(jd m q).foldl jf o=jH out D[k]∧o.length+m≤out.length+3∧∃ s,o=D++s) (fun m _ _=>m) 3 D[k].path out ⟨hp,(qp hp).1.2,rfl,by omega,hs⟩ ?_ ?_
  ·refine dr ?_;trivial
  rintro m q o ⟨hq,hqn,hqo,hql,hqs⟩;refine dr ?_;apply cP<;>intro h2
  ·obtain ⟨u1,_,u3⟩:=yd hq h2;cases m with
   | zero=>have:=(qp hq).1.1; omega
   | succ m =>
    have hqo2:(jd m (pUp q)).foldl jf (jf o (pUp q))=jH out D[k]:=by
     rw [← hqo]; conv=>rhs; rw [jd,if_neg h2]
     rfl
    have hal:=Y7 (l:=o) (u:=pUp q);have hc:=Jb W0 o (pUp q);rw [Z3] at hc;refine dEr ?_;repeat (refine c0 hc rfl ?_; first|refine dEr ?_|exact dz)
    apply cP<;>intro h3
    ·have e1:jf o (pUp q)=o++[⟨pUp q,2,[]⟩]:=by unfold jf; rw [if_neg (by simp [h3])]
     refine dEr ?_;repeat ((first|refine oB (by simp; omega) ?_|refine oB (by simp) ?_|refine c0 (yK W0 hM _) rfl ?_); first|refine dEr ?_|exact dz)
     refine ⟨m,pUp q,jf o (pUp q),⟨u1,by omega,hqo2,by omega,YJ hqs⟩,by omega,?_⟩;refine dr ?_;repeat (refine oB (by simp [e1]<;>rfl) ?_; first|refine dr ?_|exact dz)
     trivial
    ·have e1:jf o (pUp q)=o:=by unfold jf; rw [if_pos h3]
     refine dEr ?_;repeat (refine c0 (yK W0 hM _) rfl ?_; first|refine dEr ?_|exact dz)
     refine ⟨m,pUp q,jf o (pUp q),⟨u1,by omega,hqo2,by omega,YJ hqs⟩,by omega,?_⟩;refine dr ?_;repeat (refine oB (by simp [e1]<;>rfl) ?_; first|refine dr ?_|exact dz)
     trivial
  ·rw [zgf h2] at hqo;have hqo:o=jH out D[k]:=hqo;refine dr ?_;refine ⟨k+1,o,⟨by omega,by rw [hn,hqo],by rw [hqo]; omega,hqs⟩,by omega,?_⟩;refine dr ?_;trivial
 have hkl:k=D.length:=by omega
 rw [hkl,List.take_length] at ho;rw [← ho] at hfin;refine dr ?_;refine oW ((zdi W0 out (by omega)).swp 1 80) rfl ⟨rfl,trivial⟩ rfl rfl JC fun S hS=>⟨rfl,?_⟩
 have hSl:=hS.len;have hSx:=hfin S hS;refine dEr ?_;rw [← hSx];refine ⟨none,_,_,?_,(),trivial,rfl,rfl⟩;refine dr ?_;repeat (refine oB (by simp [hS.len]) ?_; first|refine dr ?_|exact dz)
 trivial
end Go.Proofs.YtmkmldepkponaaaGreatDoor

namespace Go.Proofs.YtmkmldepkponaaaGreatDoor
set_option linter.unusedSimpArgs false
set_option linter.unusedVariables false
open Go Go.RowKit
def ziI:XC:=(.s (.r [.x1 1 0,.a2 2 3 77,.a2 3 3 77,.m1 4 .n]) (.s (.s (.r [.f1 12 0 1,.l1 13 1 12,.c1 14 85 [13],.u1 15 14,.mv 16 15,.h1 17 1 1 16,.h2 18 1 17 16,.gf 19 (.len false 18) 16,.gf 20 (.bin .gtr 19 (.i 4)) 16,.p1 21 16 20]) (.cnd 21 (.s (.r [.a2 2 3 77,.a2 3 3 77,.m1 4 .n]) .ret) .skip)) (.s (.r [.f1 22 0 1,.l1 23 1 22,.o1 24 86 [23],.a1 5 24 3 77]) (.s (.s (.r [.f1 25 1 1,.l1 26 1 25,.n1 27 26,.m1 28 (.i 0)]) (.blk 0 (.loop (.s (.r [.b1 29 .lss 28 27]) (.s (.ce 29 0) (.s (.blk 1 (.s (.r [.i1 30 1 26 28,.l1 31 1 30,.a1 7 31 3 34]) (.s (.r [.mv 33 7,.mv 34 5,.o1 35 87 [33,34],.mv 32 35,.e1 36 32 0,.e1 37 32 1,.a1 8 36 3 77,.mv 9 37]) (.s (.s (.r [.mv 38 9,.u1 39 38]) (.cnd 39 (.s (.r [.a2 2 3 77,.a2 3 3 77,.m1 4 .n]) .ret) .skip)) (.r [.mv 40 8,.a1 5 40 3 77]))))) (.r [.b1 41 .add 28 (.i 1),.mv 28 41]))))))) (.s (.r [.f1 43 2 1,.l1 44 1 43,.mv 45 5,.o1 46 87 [44,45],.mv 42 46,.e1 47 42 0,.e1 48 42 1,.a1 10 47 3 77,.mv 11 48]) (.s (.s (.d [.mv 49 11,.u1 50 49,.mv 51 50,.h1 52 2 1 51,.gfo [36] 53 (.ld false 1 52) 51,.h3 54 5 51,.h3 55 10 51,.gfo [36] 56 (.opn 76 [54,55]) 51,.gf 57 (.call 47 [53,56]) 51,.gf 58 (.un .not 57) 51,.p1 59 51 58]) (.cnd 59 (.s (.r [.a2 2 3 77,.a2 3 3 77,.m1 4 .n]) .ret) .skip)) (.s (.r [.mv 60 5,.mv 61 10,.a1 2 60 3 77,.a1 3 61 3 77,.m1 4 .y]) .ret)))))))
theorem ziJ:zj Tryz.prog [87,76,86,1000036] 50=some (ziI.ac,[(.t 2),(.t 3),(.t 4)],62):=by kernel_rfl
theorem zkY (W0:World) (hM:HM W0) (o:Over) (t x:List Ent) (g:OG o t x):zy Tryz.prog W0 50 [.c (zA o)] [] (fun _:Unit=>True) (fun _ => .tup [.own 4 t.length,.own 20 x.length,.c (CB true)])
  (fun _=>[(4,.row (t.map zs) 3 77),(20,.row (x.map zs) 3 77)]):=by
 refine fW mixed ziJ fun hg=>?_
 obtain ⟨gl1,gl2,gl3⟩:=g.lay;have hbl:=(qN gl3).1;refine dEr ?_;repeat (refine c0 (Ja W0 hM _) rfl ?_; first|refine dEr ?_|exact dz)
 apply cP<;>intro h1
 ·exact absurd gl3 (by simp [h1])
 refine dr ?_;apply cP<;>intro h2
 ·exfalso;omega
 refine dEr ?_;refine oW (zcZ W0 _ (by omega)) rfl trivial rfl rfl ⟨(),trivial⟩ fun _ _=>⟨rfl,?_⟩
 refine dEr ?_;refine lq2 (fun (k:Nat) (y:List Ent)=>[(1,.ptr 16 0),(5,.own 4 y.length),(26,.c (zJ o.layers)),(27,I o.layers.length),(28,I k)]) (fun _ y=>[(16,.box [.c (zh o.base),.c (zJ o.layers),.c (ze o.upper)]),(4,.row (y.map zs) 3 77),(32,.row [] 3 77),(48,.row [] 3 77)]) (fun k y=>k≤o.layers.length∧lowerA (o.layers.take k) o.base=some y∧tOk y=true) (fun k _=>o.layers.length - k) 0 o.base ⟨by simp,rfl,gl3⟩ ?_ ?_
 ·refine zK.s (z:=none) ?_;refine dr ?_;trivial
 rintro k y ⟨hk,ha,hy⟩;refine dr ?_;apply cP<;>intro h3
 ·have hk':k < o.layers.length:=by omega
  have hn:lowerA (o.layers.take (k+1)) o.base=lOn o.layers[k] y:=by
   rw [List.take_succ_eq_append_getElem hk',Zf,ha];simp only [lowerA];cases lOn o.layers[k] y<;>rfl
  obtain ⟨y',hy'⟩:∃ y',lOn o.layers[k] y=some y':=by
   cases hx:lOn o.layers[k] y with
   | some y'=>exact ⟨y',rfl⟩
   | none =>
    exfalso;have e:o.layers=o.layers.take (k+1)++o.layers.drop (k+1):=by rw [List.take_append_drop]
    rw [e,Zf,hn,hx] at gl2;cases gl2
  refine dEr ?_;refine oF (cs:=[ze o.layers[k],zh y]) ((zcX W0 hM o.layers[k] y y' hy').swp 4 20) (oB lmp rfl) rfl rfl ⟨(),trivial⟩ fun _ _=>⟨rfl,⟨⟨YO,rfl⟩,trivial⟩,?_⟩
  refine dEr ?_;refine ⟨k+1,y',⟨by omega,by rw [hn,hy'],ZJ hy'⟩,by omega,?_⟩;refine zr.ren 4 20 rfl rfl (z:=none) ?_;refine dr ?_;trivial
 have hkl:k=o.layers.length:=by omega
 rw [hkl,List.take_length,gl2] at ha;cases ha;clear hkl hk h3;refine dEr ?_;refine oF (cs:=[ze o.upper,zh t]) ((zcX W0 hM o.upper t x g.on).swp 4 20) (oB lmp rfl) rfl rfl ⟨(),trivial⟩ fun _ _=>⟨rfl,⟨⟨YO,rfl⟩,trivial⟩,?_⟩
 have hd:qS t x=o.upper:=by rw [qS,if_pos (by simp [hy,ZJ g.on]),g.up]
 refine dEr ?_;refine oF (cs:=[zh t,zh x]) ((zkn W0 hM t x o.upper hd).swp 4 36) (oB lmp (oB lmp rfl)) rfl rfl ⟨(),trivial⟩ fun _ _=>⟨rfl,⟨⟨Jw,rfl⟩,trivial⟩,?_⟩
 refine dEr ?_;repeat (refine c0 (zc5 W0 _ _) rfl ?_; first|refine dEr ?_|exact dz)
 apply cP<;>intro h4
 ·exact absurd rfl h4
 refine dr ?_;refine ⟨none,_,_,?_,(),trivial,rfl,rfl⟩;refine dr ?_;trivial
end Go.Proofs.YtmkmldepkponaaaGreatDoor

namespace Go.Proofs.YtmkmldepkponaaaGreatDoor
set_option linter.unusedSimpArgs false
set_option linter.unusedVariables false
open Go Go.RowKit
theorem Zo {o:Over} {m:XM} {c:Nat} (h1:lkX m c=none) (h2:lkX m (16+c)=none) (h3:lkX m (32+c)=none) (h4:∀ i,lkX m (16 * (3+i)+c)=none):newR m (ovM c o) :=
 ⟨⟨YO,h1⟩,⟨Jw,h2⟩,⟨zbL,h3⟩,zbk zff fun i _=>h4 i⟩
theorem zbA {o:Over}:inMX (ovM 9 o)=true:=zd rfl (zd rfl (zd (yy fun i hi=>by unfold ovM; rw [zb (by omega),zb (by omega),zb (by omega),qT hi]; rfl) yo))
end Go.Proofs.YtmkmldepkponaaaGreatDoor

namespace Go.Proofs.YtmkmldepkponaaaGreatDoor
set_option linter.unusedSimpArgs false
set_option linter.unusedVariables false
open Go Go.RowKit
def zgz:XC:=(.s (.r [.x1 1 0,.ex 2 (.alloc [.nil,.nil,.nil])]) (.s (.r [.l2 7 3 1,.o1 8 50 [7],.mv 6 8,.e1 9 6 0,.e1 10 6 1,.e1 11 6 2,.a1 3 9 3 77,.a1 4 10 3 77,.mv 5 11]) (.s (.s (.r [.mv 12 5,.u1 13 12]) (.cnd 13 (.s (.r [.ex 14 (.build [.nil,.nil,.nil] []),.s1 3 2 14]) .ret) .skip)) (.s (.r [.mv 15 3,.f1 16 2 1,.l1 17 1 16,.o1 18 67 [17],.ex 19 (.build [.nil,.nil,.nil] [(0,(1,15)),(2,(1,18))]),.s1 3 2 19]) .ret))))
theorem zgA:zj Tryz.prog [50,67] 29=some (zgz.ac,[(.cell 2 true 3)],20):=by kernel_rfl
theorem zkq (W0:World) (hM:HM W0) (o:Over) (t x:List Ent) (g:OG o t x):zy Tryz.prog W0 29 [.c (zA o)] [] (fun _:Unit=>True) (fun _=>ovP 9 ⟨t,[],o.upper⟩) (fun _=>ovM 9 ⟨t,[],o.upper⟩):=by
 refine fW' [] mixed zgA (fun hg=>?_) rfl;have q1:zy Tryz.prog W0 50 [.c (zA o)] [] (fun _:Unit=>True) (fun _ => .tup [.own 9 t.length,.own 20 x.length,.c (CB true)]) (fun _=>[(9,.row (t.map zs) 3 77),(20,.row (x.map zs) 3 77)]):=(zkY W0 hM o t x g).swp 4 9;have q2:zy Tryz.prog W0 67 [.c (ze o.upper)] [] (fun _:Unit=>True) (fun _ => .own 25 o.upper.length) (fun _=>[(25,.row (o.upper.map zq) 3 34)]):=(zax W0 o.upper (by have:=g.os.u; omega)).swp 4 25;refine dEr ?_;refine oW q1 rfl trivial rfl rfl ⟨(),trivial⟩ fun _ _=>⟨rfl,?_⟩
 refine dEr ?_;refine oW q2 rfl trivial rfl rfl ⟨(),trivial⟩ fun _ _=>⟨rfl,?_⟩
 refine dEr ?_;refine ⟨some 3,_,_,?_,(),trivial,rfl,rfl⟩;exact zr.trans (z:=some 3) (zr.nilF (cs:=[.own 9 t.length,.nil,.own 25 o.upper.length]) (ds:=[.own 9 t.length,.own 41 0,.own 25 o.upper.length]) 41 1 25 (by decide) rfl rfl ⟨.inl rfl,.inr ⟨rfl,rfl⟩,.inl rfl,trivial⟩)
  (zr.er (m2:=[(9,.row (t.map zs) 3 77),(25,.row (o.upper.map zq) 3 34),(41,.row [] 1 25)]) (zr.ls ⟨rfl,trivial⟩ ⟨rfl,rfl,rfl,trivial⟩ (fun id h=>by cases h) rfl rfl) rfl)
def zgv:XC:=(.s (.r [.x1 1 0,.ex 2 (.alloc [.nil,.nil,.nil])]) (.s (.s (.r [.l2 4 3 1,.c1 5 15 [4],.u1 6 5]) (.cnd 6 (.s (.r [.ex 7 (.build [.nil,.nil,.nil] []),.s1 3 2 7]) .ret) .skip)) (.cut (.r [.l2 8 3 1,.o1 9 70 [8],.ex 3 (.alloc [.nil,.nil,.nil]),.s1 3 3 9]) (.cut (.r [.f1 10 2 3,.nu (.st 1 10 (.k .nil))]) (.s (.r [.l2 11 3 3,.s1 3 2 11]) .ret)))))
theorem zgw:zj Tryz.prog [70] 32=some (zgv.ac,[(.cell 2 true 3)],12):=by kernel_rfl
theorem zko (W0:World) (hM:HM W0) (o:Over) (ho:oOk o=true):zy Tryz.prog W0 32 [.c (zA o)] [] (fun _:Unit=>True) (fun _=>ovP 9 ⟨o.base,o.layers,[]⟩) (fun _=>ovM 9 ⟨o.base,o.layers,[]⟩):=by
 refine fW' [] mixed zgw (fun hg=>?_) rfl;have hz:=OS.ok ho;obtain ⟨T,O,fa⟩:=famP 9 3 34 3 (lmL o);have ovT:ovM 9 o=(9,.row (o.base.map zs) 3 77)::(25,.row (o.upper.map zq) 3 34)::(41,.rowP O 25)::T:=by unfold ovM; rw [fa.t,fa.o]
 have q:=zc0 W0 o (hz.oz.mono (by omega));rw [ovT] at q;have hsk:∀ {m:XM} {id:Nat},id % 16≠9→lkX (apX T m) id=lkX m id:=fun h=>fa.skip (.inr h)
 refine dEr ?_;repeat (refine c0 (Q2 W0 hM o) rfl ?_; first|refine dEr ?_|exact dz)
 apply cP<;>intro h1
 ·exact absurd ho (by simp [h1])
 refine dEr ?_;refine z7 (σ:=Unit) 3 (fun _=>[(2,.ptr 32 0),(3,.ptr 48 0)])
  (fun _=>(32,.box [.nil,.nil,.nil])::(48,.box [.own 9 o.base.length,.own 41 o.layers.length,.own 25 o.upper.length])::(9,.row (o.base.map zs) 3 77)::(25,.row (o.upper.map zq) 3 34)::(41,.rowP O 25)::T) (fun _=>True) ?_ ?_
 ·refine dr ?_;refine oF (cs:=[zA o]) q rfl rfl rfl ⟨(),trivial⟩ fun _ _=>⟨rfl,?_,?_⟩
  ·rw [← ovT];exact Zo rfl rfl rfl fun i=>by show lkX [_,_] _=none; rw [zb (by simp<;>omega),zb (by simp<;>omega)]; rfl
  refine dEr ?_;repeat (refine fT (frX1 ((js (P:=[_,_,_]) rfl).trans ((hsk (id:=48) (by decide)).trans rfl))) ?_; first|refine dEr ?_|exact dz)
  refine ⟨(),trivial,?_⟩;exact zr.ls ⟨rfl,rfl,trivial⟩ ⟨(js (P:=[_,_,_,_]) rfl).trans ((hsk (id:=32) (by decide)).trans rfl),rfl,rfl,rfl,rfl,fa.mmS fun i hi=>by
    show lkX (_::_::_::_::apX T _) _=_;rw [zb (by simp<;>omega),zb (by omega),zb (by omega),zb (by omega),fa.fst hi]⟩ (fun id h=>by cases h)
   (zd rfl (zd rfl (zd rfl (zd rfl (zd (fa.inO fun i hi=>by
    rw [zb (by omega),zb (by omega),zb (by omega),zb (by omega),zb (by omega),fa.row hi]; rfl) fa.inT))))) rfl
 intro _ _;refine z7 (σ:=Unit) 3 (fun _=>[(2,.ptr 32 0),(3,.ptr 48 0)])
  (fun _=>(25,.row [] 3 34)::(32,.box [.nil,.nil,.nil])::(48,.box [.own 9 o.base.length,.own 41 o.layers.length,.own 25 0])::(9,.row (o.base.map zs) 3 77)::(41,.rowP O 25)::T) (fun _=>True) ?_ ?_
 ·refine dr ?_;refine ⟨(),trivial,?_⟩;have hid:lkX ((32,XB.box [.nil,.nil,.nil])::(48,XB.box [.own 9 o.base.length,.own 41 o.layers.length,.nil])::(9,XB.row (o.base.map zs) 3 77)::(41,XB.rowP O 25)::T) 25=none:=(js (P:=[_,_,_,_]) rfl).trans (fa.no (.inl (by decide)));have hnil:=zr.nilR (k0:=[]) (A:=[(2,.ptr 32 0),(3,.ptr 48 0)]) 48 [.own 9 o.base.length,.own 41 o.layers.length,.nil] [.own 9 o.base.length,.own 41 o.layers.length,.own 25 0] 25 3 34 (by decide) rfl hid ⟨.inl rfl,.inl rfl,.inr ⟨rfl,rfl⟩,trivial⟩;refine zr.trans (z:=some 3) ?_ hnil;refine zr.ls ⟨rfl,rfl,trivial⟩ ⟨rfl,rfl,rfl,rfl,fa.mmS fun i hi=>?_⟩ (fun id h=>by cases h) ?_ rfl
  ·show lkX (_::_::_::_::_::T) _=_;rw [zb (by omega),zb (by simp<;>omega),zb (by omega),zb (by omega),zb (by omega),fa.row hi]
  ·exact zd rfl (zd rfl (zd rfl (zd (fa.inO fun i hi=>by
    rw [zb (by omega),zb (by omega),zb (by omega),zb (by omega),fa.row hi]; rfl) fa.inT)))
 intro _ _;refine dr ?_;refine ⟨some 3,_,_,?_,(),trivial,rfl,rfl⟩;refine zr.ls ⟨rfl,trivial⟩ ⟨rfl,rfl,congrArg (fun L=>some (XB.rowP L 25)) fa.o.symm,q9 fun i hi=>?_⟩ (fun id h=>by cases h) zbA rfl;show lkX (_::_::_::_::_::T) _=_;rw [zb (by omega),zb (by simp<;>omega),zb (by omega),zb (by omega),zb (by omega)];exact fa.row hi
def zgx:XC:=(.s (.r [.x1 1 0,.ex 2 (.alloc [.nil,.nil,.nil]),.m1 3 .n]) (.s (.s (.r [.l2 5 3 1,.c1 6 15 [5],.u1 7 6]) (.cnd 7 (.s (.r [.ex 8 (.build [.nil,.nil,.nil] []),.s1 3 2 8,.m1 3 .n]) .ret) .skip)) (.cut (.r [.l2 9 3 1,.o1 10 70 [9],.ex 4 (.alloc [.nil,.nil,.nil]),.s1 3 4 10]) (.s (.s (.r [.f1 11 1 4,.l1 12 1 11,.n1 13 12,.b1 14 .eql 13 (.i 4)]) (.cnd 14 (.s (.r [.l2 15 3 4,.s1 3 2 15,.m1 3 .n]) .ret) .skip)) (.s (.r [.f1 16 1 4,.l1 17 1 16,.f1 18 2 4,.l1 19 1 18,.ex 20 (.bsl 1 25 [19]),.ex 21 (.app false 1 24 25 17 20),.f1 22 1 4,.s1 1 22 21]) (.cut (.r [.f1 23 2 4,.nu (.st 1 23 (.k .nil))]) (.s (.r [.l2 24 3 4,.s1 3 2 24,.m1 3 .y]) .ret)))))))
theorem zgy:zj Tryz.prog [70] 34=some (zgx.ac,[(.cell 2 true 3),(.t 3)],25):=by kernel_rfl
theorem zkp (W0:World) (hM:HM W0) (o:Over) (ho:oOk o=true) (o':Over) (b':Bool) (hp:jV o=(o',b')):zy Tryz.prog W0 34 [.c (zA o)] [] (fun _:Unit=>True) (fun _ => .tup [ovP 9 o',.c (CB b')]) (fun _=>ovM 9 o'):=by
 refine fW' [] mixed zgy (fun hg=>?_) rfl;have hz:=OS.ok ho;obtain ⟨T,O,fa⟩:=famP 9 3 34 3 (lmL o);have ovT:ovM 9 o=(9,.row (o.base.map zs) 3 77)::(25,.row (o.upper.map zq) 3 34)::(41,.rowP O 25)::T:=by unfold ovM; rw [fa.t,fa.o]
 have q:=zc0 W0 o (hz.oz.mono (by omega));rw [ovT] at q;have hsk:∀ {m:XM} {id:Nat},id % 16≠9→lkX (apX T m) id=lkX m id:=fun h=>fa.skip (.inr h)
 rw [jV,if_pos ho] at hp;refine dEr ?_;repeat (refine c0 (Q2 W0 hM o) rfl ?_; first|refine dEr ?_|exact dz)
 apply cP<;>intro h1
 ·exact absurd ho (by simp [h1])
 refine dEr ?_;refine z7 (σ:=Unit) 3 (fun _=>[(2,.ptr 32 0),(3,B false),(4,.ptr 64 0)])
  (fun _=>(32,.box [.nil,.nil,.nil])::(64,.box [.own 9 o.base.length,.own 41 o.layers.length,.own 25 o.upper.length])::(9,.row (o.base.map zs) 3 77)::(25,.row (o.upper.map zq) 3 34)::(41,.rowP O 25)::T) (fun _=>True) ?_ ?_
 ·refine dr ?_;refine oF (cs:=[zA o]) q rfl rfl rfl ⟨(),trivial⟩ fun _ _=>⟨rfl,?_,?_⟩
  ·rw [← ovT];exact Zo rfl rfl rfl fun i=>by show lkX [_,_] _=none; rw [zb (by simp<;>omega),zb (by simp<;>omega)]; rfl
  refine dEr ?_;repeat (refine fT (frX1 ((js (P:=[_,_,_]) rfl).trans ((hsk (id:=64) (by decide)).trans rfl))) ?_; first|refine dEr ?_|exact dz)
  refine ⟨(),trivial,?_⟩;exact zr.ls ⟨rfl,rfl,rfl,trivial⟩ ⟨(js (P:=[_,_,_,_]) rfl).trans ((hsk (id:=32) (by decide)).trans rfl),rfl,rfl,rfl,rfl,fa.mmS fun i hi=>by
    show lkX (_::_::_::_::apX T _) _=_;rw [zb (by simp<;>omega),zb (by omega),zb (by omega),zb (by omega),fa.fst hi]⟩ (fun id h=>by cases h)
   (zd rfl (zd rfl (zd rfl (zd rfl (zd (fa.inO fun i hi=>by
    rw [zb (by omega),zb (by omega),zb (by omega),zb (by omega),zb (by omega),fa.row hi]; rfl) fa.inT))))) rfl
 intro _ _;have hn4:=hz.n;have hOl:O.length=o.layers.length:=fa.len.trans (by simp [lmL]);refine dr ?_;apply cP<;>intro h2
 ·rw [if_pos (by omega)] at hp;cases hp;refine dr ?_;refine ⟨some 3,_,_,?_,(),trivial,rfl,rfl⟩;refine zr.ls ⟨rfl,trivial⟩ ⟨rfl,rfl,congrArg (fun L=>some (XB.rowP L 25)) fa.o.symm,q9 fun i hi=>?_⟩ (fun id h=>by cases h) zbA rfl;show lkX (_::_::_::_::_::T) _=_;rw [zb (by simp<;>omega),zb (by simp<;>omega),zb (by simp<;>omega),zb (by simp<;>omega),zb (by simp<;>omega),fa.row hi]
 rw [if_neg (by omega)] at hp;cases hp;have hlm:(lmL o).length=o.layers.length:=by simp [lmL]
 have hl2:lmL ⟨o.base,o.layers++[o.upper],[]⟩=lmL o++[o.upper.map zq]:=by simp [lmL]
 obtain ⟨T2,O2,fb⟩:=famP 9 3 34 3 (lmL o++[o.upper.map zq]);refine dr ?_;repeat ((first|refine fT (frX1 ((js (P:=[_,_,_,_,_]) rfl).trans (fa.no (id:=320) (.inr (by decide))))) ?_|refine oB hOl ?_|refine oB (by omega) ?_); first|refine dr ?_|exact dz)
 refine z7 (σ:=Unit) 3 (fun _=>[(2,.ptr 32 0),(3,B false),(4,.ptr 64 0)])
  (fun _=>(25,.row [] 3 34)::(32,.box [.nil,.nil,.nil])::(64,.box [.own 9 o.base.length,.own 41 (o.layers.length+1),.own 25 0])::(9,.row (o.base.map zs) 3 77)::(41,.rowP O2 25)::T2) (fun _=>True) ?_ ?_
 ·refine dr ?_;refine ⟨(),trivial,?_⟩;have hid:lkX ((32,XB.box [.nil,.nil,.nil])::(64,XB.box [.own 9 o.base.length,.own 41 (o.layers.length+1),.nil])::(9,XB.row (o.base.map zs) 3 77)::(41,XB.rowP O2 25)::T2) 25=none:=(js (P:=[_,_,_,_]) rfl).trans (fb.no (.inl (by decide)));have hnil:=zr.nilR (k0:=[]) (A:=[(2,.ptr 32 0),(3,B false),(4,.ptr 64 0)]) 64 [.own 9 o.base.length,.own 41 (o.layers.length+1),.nil] [.own 9 o.base.length,.own 41 (o.layers.length+1),.own 25 0] 25 3 34 (by decide) rfl hid ⟨.inl rfl,.inl rfl,.inr ⟨rfl,rfl⟩,trivial⟩;refine zr.trans (z:=some 3) ?_ hnil;have hN:∀ i < (lmL o).length,sw 25 (16 * (3+o.layers.length)+9) (16 * (3+i)+9)=16 * (3+i)+9:=fun i hi=>jF (by omega) (by omega)
  have hNN:sw 25 (16 * (3+o.layers.length)+9) (16 * (3+o.layers.length)+9)=25:=by
   unfold sw;have:Nat.beq (16 * (3+o.layers.length)+9) 25=false:=by
    cases hb:Nat.beq (16 * (3+o.layers.length)+9) 25 with
    | false=>rfl
    | true=>have:=Nat.eq_of_beq_eq_true hb; omega
   rw [this,Nat.beq_refl]
  have hN6:sw 25 (16 * (3+o.layers.length)+9) 25=16 * (3+o.layers.length)+9:=rfl;refine zr.rn 25 (16 * (3+o.layers.length)+9) rfl rfl ⟨⟨_,rfl,rnP (jF (by decide) (by omega))⟩,⟨_,rfl,rfl⟩,⟨_,rfl,rnP (jF (by decide) (by omega))⟩,trivial⟩
   ⟨⟨_,Zd (jF (by decide) (by omega)) rfl,rfl⟩,⟨_,Zd (jF (by decide) (by omega)) rfl,?_⟩,⟨_,Zd (jF (by decide) (by omega)) rfl,rfl⟩,⟨_,Zd (jF (by decide) (by omega)) rfl,?_⟩,fb.mmR fun i hi=>?_⟩ (fun id h=>by cases h) ?_ rfl
  ·show XB.box [.own (sw 25 (16 * (3+o.layers.length)+9) 9) _,.own (sw 25 (16 * (3+o.layers.length)+9) 41) _,.nil]=_;rw [jF (by decide) (by omega),jF (by decide) (by omega)]
  ·rw [← fb.o,YG,hlm,fa.o];simp only [yz,List.map_append,fa.ren hN]
   congr 2
   simp only [List.map_cons,List.map_nil]
   congr 1
   show PV.own (sw 25 (16 * (3+o.layers.length)+9) 25) _=_;rw [hN6];simp
  ·by_cases hik:i < (lmL o).length
   ·rw [hN i hik,List.getElem_append_left hik];show lkX (_::_::_::_::_::_::T) _=_;rw [zb (by simp<;>omega),zb (by simp<;>omega),zb (by simp<;>omega),zb (by simp<;>omega),zb (by simp<;>omega),zb (by simp<;>omega),fa.row hik]
   ·have:i=o.layers.length:=by simp at hi; omega
    subst this;rw [hNN,List.getElem_append_right (by omega)];simp only [hlm,Nat.sub_self];rfl
  ·exact zd rfl (zd rfl (zd rfl (zd (fb.inO fun i hi=>by
    rw [zb (by omega),zb (by omega),zb (by omega),zb (by omega),fb.row hi]; rfl) fb.inT)))
 intro _ _;refine dr ?_;refine ⟨some 3,_,_,?_,(),trivial,rfl,rfl⟩;have hle:(o.layers++[o.upper]).length=o.layers.length+1:=by simp
 refine zr.ls ⟨?_,trivial⟩ ⟨rfl,rfl,congrArg (fun L=>some (XB.rowP L 25)) (fb.o.symm.trans (by rw [hl2])),?_⟩ (fun id h=>by cases h) zbA rfl
 ·rw [show ovP 9 ⟨o.base,o.layers++[o.upper],[]⟩ = .agg [.own 9 o.base.length,.own 41 (o.layers++[o.upper]).length,.own 25 0] from rfl,hle];rfl
 ·rw [hl2];refine q9 fun i hi=>?_
  show lkX (_::_::_::_::_::T2) _=_;rw [zb (by omega),zb (by simp<;>omega),zb (by simp<;>omega),zb (by omega),zb (by omega)];exact fb.row hi
end Go.Proofs.YtmkmldepkponaaaGreatDoor

namespace Go.Proofs.YtmkmldepkponaaaGreatDoor
set_option linter.unusedSimpArgs false
set_option linter.unusedVariables false
open Go Go.RowKit
theorem zaV {W:World} (h:W.ShapedOpen Tryz.prog):HM W :=
 Go.Proofs.cell_of_shapedOpen_int (zero:=#[.int .i64 0]) (t:=3) h (of_decide_eq_true (by kernel_rfl)) (by kernel_rfl) rfl (by kernel_rfl) (by kernel_rfl) Tryz.underlying3
end Go.Proofs.YtmkmldepkponaaaGreatDoor

namespace Go.Proofs.YtmkmldepkponaaaGreatDoor
set_option linter.unusedSimpArgs false
set_option linter.unusedVariables false
open Go Go.RowKit
theorem znd {c:Nat} {o:Over} {m:XM} {l:List PV} {K:List CV→Prop} {e1 e2 e3 e4:TypeId} (h1:lkX m c=some (.row (o.base.map zs) 3 e1)) (h2:lkX m (16+c)=some (.row (o.upper.map zq) 3 e2)) (h3:lkX m (32+c)=some (.rowP (zG c 3 (lmL o)) e3))
  (h4:∀ i (h:i < (lmL o).length),lkX m (16 * (3+i)+c)=some (.row (lmL o)[i] 3 e4)) (hK:yg m l fun r=>K (zA o::r)):yg m (ovP c o::l) K:=by
 unfold ovP;simp only [yg,YS,YR];refine onI h1 (oB (by simp) (onI h3 (oB (by simp [jv,lmL]) (jP h4 ?_))));refine onI h2 (oB (by simp) ?_);have e:(lmL o).map CV.row=o.layers.map ze:=by unfold lmL; rw [List.map_map]; rfl
 rw [e];exact hK
theorem kNN {a:Int} {A B:Prop} (k:B):cndX (!eqI a a) A B:=by rw [Q0.2 rfl]; exact k
theorem kBB {b:Bool} {A B:Prop} (k:B):cndX (!eqB b b) A B:=by rw [QZ.2 rfl]; exact k
theorem zb4 {α:Type} {f:α→Int→Int} (hf:∀ a l,-1≤l → -1≤f a l∧f a l≤l) {t:List α} {l:Int} (h:0≤szR f t l):szR f t l≤l - t.length:=by
 unfold szR at h ⊢;split at h
 ·omega
 rename_i g;rw [if_neg g];exact (zb1 hf (t:=t) (l:=l - t.length) (by omega)).2
theorem zf3:∀ {L:List (List Mark)} {l:Int},0≤l→0≤szL (szR jl) L l→szL (szR jl) L l≤l - (sumL L:Int)
 | [],l,_,_=>by simp [szL,sumL]
 | a::L,l,h0,h=>by
  unfold szL at h ⊢;split at h
  ·omega
  rename_i g;rw [if_neg g];have h1:=zb4 (fun a l=>@yD a l) (by omega:0≤szR jl a l);have h2:=zf3 (L:=L) (by omega) h;have h3:sumL (a::L)=a.length+sumL L:=by simp [sumL]
  omega
theorem znW {o:Over} {l:Int} (h0:0≤l) (h:0≤qC o l):(o.base.length:Int)+sumL o.layers+o.upper.length≤l:=by
 unfold qC at h;split at h
 ·omega
 rename_i g1;split at h
 ·omega
 rename_i g2;split at h
 ·omega
 have k1:=zb4 (fun a l=>@Qv a l) (by omega:0≤szR jK o.base l);have k3:=zb4 (fun a l=>@yD a l) h;have k2:=Qw (by omega) (by omega:0≤szR (szR jl) o.layers (szR jK o.base l));have k4:szR (szR jl) o.layers (szR jK o.base l)=szL (szR jl) o.layers (szR jK o.base l - o.layers.length):=by
  rw [szR,if_neg (by omega)]
 have k5:=zf3 (by omega) k2.2;omega
theorem zbe {o:Over} {l k:Int} (h0:0≤l) (h:0≤qC o l):mkK k o≤k+3 * l:=by
 have:=znW h0 h;rw [mkK,ZT];omega
def ziA:XC:=(.s (.r [.m1 4 (.i 0)]) (.s (.s (.r [.m1 5 (.i 0)]) (.blk 0 (.loop (.s (.s (.r [.mv 6 5,.mv 7 0,.n1 8 7,.b1 9 .lss 6 8]) (.ce 9 0)) (.s (.blk 1 (.s (.r [.mv 12 0,.mv 13 5,.mv 14 1,.c1 15 65 [14],.i1 16 3 12 13,.f1 17 0 16,.s1 1 17 15]) (.s (.ic 18 19 1) (.s (.r [.mv 20 0,.mv 21 5,.mv 22 1,.b1 23 .rem 22 (.i 3),.b1 24 .eql 23 (.i 0),.i1 25 3 20 21,.f1 26 1 25,.s1 1 26 24]) (.s (.ic 27 28 1) (.s (.r [.mv 29 0,.mv 30 5,.mv 31 1,.c1 32 65 [31],.i1 33 3 29 30,.f1 34 2 33,.s1 1 34 32]) (.ic 35 36 1))))))) (.ic 10 11 5)))))) (.s (.r [.mv 37 1,.mv 4 37]) .ret)))
theorem ziB:zj Tryz.prog [] 24=some (ziA.ac,[(.t 4)],38):=by kernel_rfl
theorem zkS (W0:World):Fn Tryz.prog W0 24 [zh [],CI 1] (.c (CI 1)) []:=by
 refine fX mixed ziB fun hg=>?_
 refine dr ?_;refine lp (σ:=Unit) (fun _=>[(0,.c (zh [])),(1,I 1),(5,I 0)]) (fun _=>[]) (fun _=>True) (fun _=>0) () trivial ?_ ?_
 ·refine dr ?_;trivial
 intro _ _;refine dr ?_;apply cP<;>intro h1
 ·exact absurd h1 (by simp)
 exact dz
end Go.Proofs.YtmkmldepkponaaaGreatDoor

namespace Go.Proofs.YtmkmldepkponaaaGreatDoor
set_option linter.unusedSimpArgs false
set_option linter.unusedVariables false
open Go Go.RowKit
end Go.Proofs.YtmkmldepkponaaaGreatDoor

namespace Go.Proofs.YtmkmldepkponaaaGreatDoor
set_option linter.unusedSimpArgs false
set_option linter.unusedVariables false
open Go Go.RowKit
structure LkO (c:Nat) (o:Over) (m:XM):Prop where
 h1:lkX m c=some (.row (o.base.map zs) 3 77)
 h2:lkX m (16+c)=some (.row (o.upper.map zq) 3 34)
 h3:lkX m (32+c)=some (.rowP (zG c 3 (lmL o)) 25)
 h4:∀ i (h:i < (lmL o).length),lkX m (16 * (3+i)+c)=some (.row (lmL o)[i] 3 34)
theorem LkO.of {c:Nat} {o:Over} {m:XM} {m':XM} (h:LkO c o m) (e:∀ id,id % 16=c % 16→lkX m' id=lkX m id):LkO c o m' :=
 ⟨(e _ rfl).trans h.h1,(e _ (by omega)).trans h.h2,(e _ (by omega)).trans h.h3,fun i hi=>(e _ (by omega)).trans (h.h4 i hi)⟩
theorem LkO.self {c:Nat} {o:Over} (hc:c < 16):LkO c o (ovM c o):=by
 unfold ovM;refine ⟨?_,?_,?_,fun i hi=>?_⟩
 ·simp only [lkX,Nat.beq_refl]
 ·rw [zb (by omega)]; simp only [lkX,Nat.beq_refl]
 ·rw [zb (by omega),zb (by omega)]; simp only [lkX,Nat.beq_refl]
 ·rw [zb (by omega),zb (by omega),zb (by omega),qT hi]
theorem LkO.cons {c:Nat} {o:Over} {m:XM} {id:Nat} {b:XB} (h:LkO c o m) (hid:id % 16≠c % 16):LkO c o ((id,b)::m) :=
 h.of fun i hi=>zb (by rintro rfl; exact hid hi)
theorem LkO.snap {c:Nat} {o:Over} {m:XM} (h:LkO c o m) {l:List PV} {K:List CV→Prop} (hK:yg m l fun r=>K (zA o::r)):yg m (ovP c o::l) K:=znd h.h1 h.h2 h.h3 h.h4 hK
theorem LkO.mmS {c:Nat} {o:Over} {m:XM} (h:LkO c o m):mmS m (ovM c o):=⟨h.h1,h.h2,h.h3,q9 h.h4⟩
theorem LkO.inB {c:Nat} {o:Over} {m:XM} (h:LkO c o m):((ovM c o).all fun p=>inBX m p.2)=true :=
 zd rfl (zd rfl (zd (yy fun i hi=>by rw [h.h4 i hi]; rfl) yo))
theorem zem {c:Nat} {o:Over} {m:XM} {id:Nat} (h:id % 16≠c % 16):lkX (apX (ovM c o) m) id=lkX m id:=by rw [Qb,Zp h]
theorem LkO.ap {c:Nat} {o:Over} {m:XM} (hc:c < 16):LkO c o (apX (ovM c o) m):=by
 have h:=LkO.self (o:=o) hc;refine ⟨?_,?_,?_,fun i hi=>?_⟩<;>rw [Qb]
 ·rw [h.h1]
 ·rw [h.h2]
 ·rw [h.h3]
 ·rw [h.h4 i hi]
theorem LkO.ap2 {c c':Nat} {o o':Over} {m:XM} (h:LkO c o m) (hc:c % 16≠c' % 16):LkO c o (apX (ovM c' o') m) :=
 h.of fun i hi=>zem (by omega)
structure OvV (c:Nat) (o:Over) (M:XM):Prop where
 e:M=ovM c o
 c16:c < 16
theorem ovV (c:Nat) (o:Over) (hc:c < 16):∃ M,OvV c o M:=⟨_,rfl,hc⟩
theorem OvV.ap {c:Nat} {o:Over} {M m:XM} (h:OvV c o M):LkO c o (apX M m):=by obtain ⟨rfl,hc⟩:=h; exact .ap hc
theorem OvV.self {c:Nat} {o:Over} {M:XM} (h:OvV c o M):LkO c o M:=by obtain ⟨rfl,hc⟩:=h; exact .self hc
theorem OvV.ap2 {c c':Nat} {o o':Over} {M m:XM} (h:OvV c' o' M) (hl:LkO c o m) (hc:c % 16≠c' % 16):LkO c o (apX M m):=by obtain ⟨rfl,_⟩:=h; exact hl.ap2 hc
theorem OvV.skip {c:Nat} {o:Over} {M m:XM} (h:OvV c o M) {id:Nat} (hid:id % 16≠c % 16):lkX (apX M m) id=lkX m id:=by obtain ⟨rfl,_⟩:=h; exact zem hid
theorem OvV.no {c:Nat} {o:Over} {M:XM} (h:OvV c o M) {id:Nat} (hid:id % 16≠c % 16):lkX M id=none:=by obtain ⟨rfl,_⟩:=h; exact Zp hid
theorem OvV.mmS {c:Nat} {o:Over} {M m:XM} (h:OvV c o M) (hl:LkO c o m):mmS m M:=by obtain ⟨rfl,_⟩:=h; exact hl.mmS
theorem OvV.inB {c:Nat} {o:Over} {M m:XM} (h:OvV c o M) (hl:LkO c o m):(M.all fun p=>inBX m p.2)=true:=by obtain ⟨rfl,_⟩:=h; exact hl.inB
def ziD:XC:=(.s (.r [.m1 4 (.i 0)]) (.s (.s (.r [.m1 5 (.i 0)]) (.blk 0 (.loop (.s (.s (.r [.mv 6 5,.mv 7 0,.n1 8 7,.b1 9 .lss 6 8]) (.ce 9 0)) (.s (.blk 1 (.r [.mv 12 0,.mv 13 5,.i1 14 1 12 13,.l1 15 1 14,.mv 16 1,.c1 17 64 [15,16],.mv 1 17])) (.ic 10 11 5)))))) (.s (.r [.mv 18 1,.mv 4 18]) .ret)))
theorem ziE:zj Tryz.prog [] 63=some (ziD.ac,[(.t 4)],19):=by kernel_rfl
theorem zkW (W0:World):Fn Tryz.prog W0 63 [zJ [],CI 1] (.c (CI 1)) []:=by
 refine fX mixed ziE fun hg=>?_
 refine dr ?_;refine lp (σ:=Unit) (fun _=>[(0,.c (zJ [])),(1,I 1),(5,I 0)]) (fun _=>[]) (fun _=>True) (fun _=>0) () trivial ?_ ?_
 ·refine dr ?_;trivial
 intro _ _;refine dr ?_;apply cP<;>intro h1
 ·exact absurd h1 (by simp)
 exact dz
def ziC:XC:=(.s (.r [.m1 4 (.i 0)]) (.s (.s (.r [.m1 5 (.i 0)]) (.blk 0 (.loop (.s (.s (.r [.mv 6 5,.mv 7 0,.n1 8 7,.b1 9 .lss 6 8]) (.ce 9 0)) (.s (.blk 1 (.s (.r [.mv 12 0,.mv 13 5,.mv 14 1,.c1 15 65 [14],.i1 16 3 12 13,.f1 17 0 16,.s1 1 17 15]) (.s (.ic 18 19 1) (.s (.r [.mv 20 0,.mv 21 5,.mv 22 1,.i1 23 3 20 21,.f1 24 1 23,.s1 1 24 22]) (.s (.ic 25 26 1) (.s (.r [.mv 27 0,.mv 28 5,.mv 29 1,.c1 30 65 [29],.i1 31 3 27 28,.f1 32 2 31,.s1 1 32 30]) (.ic 33 34 1))))))) (.ic 10 11 5)))))) (.s (.r [.mv 35 1,.mv 4 35]) .ret)))
theorem ziF:zj Tryz.prog [] 64=some (ziC.ac,[(.t 4)],36):=by kernel_rfl
theorem zkV (W0:World):Fn Tryz.prog W0 64 [ze [],CI 1] (.c (CI 1)) []:=by
 refine fX mixed ziF fun hg=>?_
 refine dr ?_;refine lp (σ:=Unit) (fun _=>[(0,.c (ze [])),(1,I 1),(5,I 0)]) (fun _=>[]) (fun _=>True) (fun _=>0) () trivial ?_ ?_
 ·refine dr ?_;trivial
 intro _ _;refine dr ?_;apply cP<;>intro h1
 ·exact absurd h1 (by simp)
 exact dz
def ziG:XC:=(.s (.r [.x1 2 0,.m1 4 (.i 0)]) (.s (.r [.f1 5 0 2,.l1 6 1 5,.mv 7 1,.c1 8 24 [6,7],.mv 1 8]) (.s (.r [.f1 9 1 2,.l1 10 1 9,.mv 11 1,.c1 12 63 [10,11],.mv 1 12]) (.s (.r [.f1 13 2 2,.l1 14 1 13,.mv 15 1,.c1 16 64 [14,15],.mv 1 16]) (.s (.r [.mv 17 1,.mv 4 17]) .ret)))))
theorem ziH:zj Tryz.prog [] 23=some (ziG.ac,[(.t 4)],18):=by kernel_rfl
theorem zaD (W0:World):Fn Tryz.prog W0 23 [zA noO,CI 1] (.c (CI 1)) []:=by
 refine fX mixed ziH fun hg=>?_
 refine dEr ?_;repeat ((first|refine c0 (zkS W0) rfl ?_|refine c0 (zkW W0) rfl ?_|refine c0 (zkV W0) rfl ?_); first|refine dEr ?_|exact dz)
 try rfl
theorem Z9 (W0:World):Fn Tryz.prog W0 30 [zA noO,CI 1] (.c (CI 1)) []:=Q1 W0 1 noO ⟨by omega,by decide⟩ (by simp [noO]) (by simp [noO]) (by simp [noO]) (by simp [noO])
abbrev zx (c:Nat) (o:Over):XB := .box [.own c o.base.length,.own (32+c) o.layers.length,.own (16+c) o.upper.length]
abbrev zg (o:Over):XB := .box [.c (zh o.base),.c (zJ o.layers),.c (ze o.upper)]
theorem LkO.inBox {c:Nat} {o:Over} {m:XM} (h:LkO c o m):inBX m (zx c o)=true:=zd (by show (lkX m c).isSome=true; rw [h.h1]; rfl) (zd (by show (lkX m (32+c)).isSome=true; rw [h.h3]; rfl) (zd (by show (lkX m (16+c)).isSome=true; rw [h.h2]; rfl) rfl))
end Go.Proofs.YtmkmldepkponaaaGreatDoor

namespace Go.Proofs.YtmkmldepkponaaaGreatDoor
set_option linter.unusedSimpArgs false
set_option linter.unusedVariables false
open Go Go.RowKit
theorem ZN {m:XM}:∀ {l1 l2:XM},mmS m l1→mmS m l2→mmS m (apX l1 l2)
 | [],_,_,h=>h
 | (id,x)::l,_,h,k=>⟨h.1,ZN (l1:=l) h.2 k⟩
theorem QF {f:Nat × XB→Bool}:∀ {l1 l2:XM},l1.all f=true→l2.all f=true→(apX l1 l2).all f=true
 | [],_,_,h=>h
 | p::l,_,h,k=>by
  rw [List.all_cons,Bool.and_eq_true] at h;exact zd h.1 (QF h.2 k)
theorem zf0 {n:Nat}:∀ {L:List (List Mark)},(∀ l∈L,l.length≤n)→sumL L≤n * L.length
 | [],_=>by simp [sumL]
 | l::L,h=>by
  have h1:=h l (by simp);have h2:=zf0 (L:=L) fun x hx=>h x (by simp [hx])
  have h3:sumL (l::L)=l.length+sumL L:=by simp [sumL]
  rw [h3,List.length_cons,Nat.mul_add];omega
theorem zbf {w:Over} (os:OS w):mkK 1 w≤100000000:=by
 have h:=zf0 os.l;have h1:=os.b;have h2:=os.n;have h3:=os.u;have h4:32 * w.layers.length≤128:=by omega
 rw [mkK,ZT];omega
theorem OvV.mrg {c:Nat} {o:Over} {M m:XM} (h:OvV c o M):LkO c o (ji m M) :=
 ⟨by rw [jU,h.self.h1],by rw [jU,h.self.h2],by rw [jU,h.self.h3],fun i hi=>by rw [jU,h.self.h4 i hi]⟩
theorem zmN (W0:World) (hM:HM W0) (a:Over) (t x:List Ent) (g:OG a t x):zy Tryz.prog W0 29 [.c (zA a)] [] (fun _:Unit=>True) (fun _=>ovP 9 (yb a)) (fun _=>ovM 9 (yb a)):=by
 rw [g.sink.1]; exact zkq W0 hM a t x g
theorem zmy {a:Over} {t x:List Ent} (g:OG a t x):OS (yb a):=by rw [g.sink.1]; exact g.sink.2.os
theorem zmM (W0:World) (hM:HM W0) (a:Over) (t x:List Ent) (g:OG a t x):zy Tryz.prog W0 32 [.c (zA a)] [] (fun _:Unit=>True) (fun _=>ovP 9 (qy a)) (fun _=>ovM 9 (qy a)):=by
 rw [g.drop.1]; exact zko W0 hM a g.ok
theorem zmx {a:Over} {t x:List Ent} (g:OG a t x):OS (qy a):=by rw [g.drop.1]; exact g.drop.2.os
def zhG:XC:=(.s (.r [.x1 1 0,.m1 2 .n]) (.s (.r [.m1 3 (.i 1048576)]) (.s (.r [.l2 11 3 1,.mv 12 3,.c1 13 17 [11,12],.mv 3 13]) (.s (.s (.r [.mv 14 3,.b1 15 .lss 14 (.i 0)]) (.cnd 15 (.rt 2) .skip)) (.s (.r [.l2 16 3 1,.o1 17 19 [16],.c1 18 28 [17],.ex 4 (.alloc [.nil,.nil,.nil]),.s1 3 4 18]) (.cut (.r [.l2 19 3 1,.o1 20 19 [19],.ex 5 (.alloc [.nil,.nil,.nil]),.s1 3 5 20]) (.cut (.r [.l2 21 3 5,.o1 22 29 [21],.ex 6 (.alloc [.nil,.nil,.nil]),.s1 3 6 22]) (.s (.s (.r [.l2 23 3 6,.l2 24 3 4,.c1 25 22 [23,24],.u1 26 25]) (.cnd 26 (.rf 2) .skip)) (.s (.s (.d [.exl 27 (.ld true 3 5),.exl 28 (.ld true 3 1),.exl 29 (.opn 19 [28]),.c1 30 22 [27,29],.u1 31 30]) (.cnd 31 (.rf 2) .skip)) (.s (.r [.m1 7 (.i 1)]) (.cut (.r [.l2 32 3 5,.mv 33 7,.o1 34 23 [32,33],.mv 7 34]) (.s (.s (.r [.mv 35 7,.b1 36 .lss 35 (.i 0),.mv 37 36,.gf 38 (.ld true 3 6) 37,.gf 39 (.ld true 3 4) 37,.gf 40 (.call 22 [38,39]) 37,.gf 41 (.un .not 40) 37,.p1 42 37 41]) (.cnd 42 (.rf 2) .skip)) (.s (.r [.m1 8 (.i 1)]) (.cut (.r [.l2 43 3 6,.mv 44 8,.o1 45 23 [43,44],.mv 8 45]) (.s (.r [.m1 9 (.i 1)]) (.s (.r [.l2 46 3 6,.mv 47 9,.c1 48 30 [46,47],.mv 9 48]) (.s (.s (.r [.mv 49 9,.b1 50 .lss 49 (.i 0)]) (.cnd 50 (.rf 2) .skip)) (.s (.s (.r [.mv 51 9,.mv 52 8,.b1 53 .neq 51 52]) (.cnd 53 (.rf 2) .skip)) (.cut (.r [.l2 54 3 1,.o1 55 19 [54],.o1 56 29 [55],.ex 10 (.alloc [.nil,.nil,.nil]),.s1 3 10 56]) (.s (.s (.r [.l2 57 3 10,.l2 58 3 4,.c1 59 22 [57,58],.u1 60 59]) (.cnd 60 (.rf 2) .skip)) (.s (.r [.m1 9 (.i 1)]) (.s (.r [.l2 61 3 6,.mv 62 9,.c1 63 30 [61,62],.mv 9 63]) (.s (.s (.r [.mv 64 9,.b1 65 .lss 64 (.i 0)]) (.cnd 65 (.rf 2) .skip)) (.s (.s (.r [.mv 66 9,.mv 67 8,.b1 68 .neq 66 67]) (.cnd 68 (.rf 2) .skip)) (.rt 2)))))))))))))))))))))))))
theorem zhH:zj Tryz.prog [19,29,23] 6=some (zhG.ac,[(.t 2)],69):=by kernel_rfl
theorem zkk (W0:World) (hs:W0.ShapedOpen Tryz.prog) (a:Over):Fn Tryz.prog W0 6 [zA a] (.c (CB true)) []:=by
 have hM:=zaV hs;refine fX' mixed zhH fun hg=>?_
 have z1:=@zb3 a 1048576 (by omega);refine dEr ?_;repeat (refine c0 (zaG W0 a _ (by omega)) rfl ?_; first|refine dEr ?_|exact dz)
 apply cP<;>intro h1
 ·exact dz
 have fa:=zb2 (by omega) (by omega) h1;have qt:=zaH W0 a fa.h1 fa.h2 fa.h3 fa.h4;have qs:=zk4 W0 a;have qi:=zkD W0 hM a;have qo:=zaI W0 a fa.h1 fa.h2 fa.h3 fa.h4;have qv:∀ u:Over,Fn Tryz.prog W0 22 [zA u,zA u] (.c (CB true)) []:=fun u=>by
  have:=zaz W0 u u
  rwa [show decide (u=u)=true by simp] at this
 have hmk:mkK 1 a≤100000000:=by have:=@zbe a 1048576 1 (by omega) h1; omega
 have hmk0:=@Jr 1 a;have qm:=Q9 W0 1 a ⟨by omega,hmk⟩ fa.h1 fa.h2 fa.h3 fa.h4;obtain ⟨M7,v7⟩:=ovV 7 a (by omega);rw [← v7.e] at qo qm;generalize hw:yb a=w at *;refine dEr ?_;repeat ((first|refine oN qt rfl ?_|refine c0 qs rfl ?_); first|refine dEr ?_|exact dz)
 refine z7 (σ:=Unit) 3 (fun _=>[(1,.ptr 16 0),(2,B false),(4,.ptr 64 0),(5,.ptr 80 0)])
  (fun _=>(16,zg a)::(64,zg w)::(80,zx 7 a)::M7) (fun _=>True) ?_ ?_
 ·refine dr ?_;refine oF (cs:=[zA a]) qo rfl rfl rfl ⟨(),trivial⟩ fun _ _=>⟨rfl,?_,?_⟩
  ·rw [v7.e];exact Zo rfl rfl rfl fun i=>by show lkX [_,_] _=none; rw [zb (by simp<;>omega),zb (by simp<;>omega)]; rfl
  refine dEr ?_;repeat (refine fT (frX1 ((v7.skip (id:=80) (by decide)).trans rfl)) ?_; first|refine dEr ?_|exact dz)
  refine ⟨(),trivial,?_⟩;refine zr.ls ⟨rfl,rfl,rfl,rfl,trivial⟩ ⟨(zb (by decide)).trans ((v7.skip (id:=16) (by decide)).trans rfl),(zb (by decide)).trans ((v7.skip (id:=64) (by decide)).trans rfl),rfl,v7.mmS (v7.ap.cons (by decide))⟩ (fun id h=>by cases h)
   (zd rfl (zd rfl (zd (((v7.self.cons (by decide)).cons (by decide)).cons (by decide)).inBox (v7.inB (((v7.self.cons (by decide)).cons (by decide)).cons (by decide)))))) rfl
 intro _ _;cases ho:oOk a with
 | false =>
  have hw0:w=noO:=by rw [← hw,yb,if_neg (by simp [ho])]
  subst hw0;have l7:LkO 7 a ((16,zg a)::(64,zg noO)::(80,zx 7 a)::M7):=((v7.self.cons (by decide)).cons (by decide)).cons (by decide);have t7:LkO 7 a ((16,zg a)::(64,zg noO)::(80,zx 7 a)::(96,zg noO)::M7):=(((v7.self.cons (by decide)).cons (by decide)).cons (by decide)).cons (by decide);refine z7 (σ:=Unit) 3 (fun _=>[(1,.ptr 16 0),(2,B false),(4,.ptr 64 0),(5,.ptr 80 0),(6,.ptr 96 0)])
   (fun _=>(16,zg a)::(64,zg noO)::(80,zx 7 a)::(96,zg noO)::M7) (fun _=>True) ?_ ?_
  ·refine dr ?_;refine oF (cs:=[zA a]) qi.funW (l7.snap rfl) (zd rfl (zd rfl (zd l7.inBox (v7.inB l7)))) (zd l7.inBox rfl) ⟨(),trivial⟩ fun _ _=>⟨rfl,trivial,?_⟩
   refine dEr ?_;repeat (refine fT (frX1 ((js (P:=[_,_,_]) rfl).trans (v7.no (by decide)))) ?_; first|refine dEr ?_|exact dz)
   refine ⟨(),trivial,?_⟩;exact zr.ls ⟨rfl,rfl,rfl,rfl,rfl,trivial⟩ ⟨rfl,rfl,rfl,rfl,v7.mmS (l7.cons (by decide))⟩ (fun id h=>by cases h) (zd rfl (zd rfl (zd t7.inBox (zd rfl (v7.inB t7))))) rfl
  intro _ _;refine dEr ?_;repeat ((first|refine c0 (qv noO) rfl ?_|refine kBB ?_); first|refine dEr ?_|exact dz)
  refine oN qt rfl ?_;dsimp only [apX];refine Ze (y4 fun p hp => .inr (Zi hp)) (yJ ⟨rfl,rfl,rfl,rfl,v7.mmS t7⟩ ?_);refine dEr ?_;rw [t7.h1];refine dr ?_;repeat (refine oB (by simp) ?_; first|refine dr ?_|exact dz)
  rw [t7.h3];refine dr ?_;repeat (refine oB (by simp [jv,lmL]) ?_; first|refine dr ?_|exact dz)
  refine jP t7.h4 ?_;rw [show (lmL a).map CV.row=a.layers.map ze by unfold lmL; rw [List.map_map]; rfl];refine dEr ?_;rw [t7.h2];refine dEr ?_;repeat ((first|refine oB (by simp) ?_|refine c0 (qv a) rfl ?_|refine kBB ?_); first|refine dEr ?_|exact dz)
  refine z7 (σ:=Unit) 3 (fun _=>[(1,.ptr 16 0),(2,B false),(4,.ptr 64 0),(6,.ptr 96 0),(7,I (mkK 1 a))])
   (fun _=>[(16,zg a),(64,zg noO),(96,zg noO)]) (fun _=>True) ?_ ?_
  ·refine dr ?_;refine oW' qm (fun id b hb=>qL (l:=M7) (v7.mmS t7) _ (j0 hb)) (v7.inB v7.self) (zd v7.self.inBox rfl) ⟨(),trivial⟩ fun _ _=>⟨fun id h => .inl ?_,?_⟩
   ·rw [v7.e,yx (o':=mkO 1 a) j1.symm]; exact h
   refine dEr ?_;refine ⟨(),trivial,?_⟩;have hmg:∀ {m:XM} {id:Nat},id % 16≠7→lkX (ji m (ovM 7 (mkO 1 a))) id=lkX m id:=fun h=>by rw [jU,Zp h]
   exact zr.ls ⟨rfl,rfl,rfl,rfl,rfl,trivial⟩ ⟨(hmg (by decide)).trans rfl,(hmg (by decide)).trans rfl,(hmg (by decide)).trans rfl,trivial⟩ (fun id h=>by cases h) rfl rfl
  intro _ _;refine dEr ?_;repeat ((first|refine klf (by omega) ?_|refine c0 (qv noO) rfl ?_|refine kBB ?_); first|refine dEr ?_|exact dz)
  refine z7 (σ:=Unit) 3 (fun _=>[(1,.ptr 16 0),(2,B false),(4,.ptr 64 0),(6,.ptr 96 0),(8,I 1)])
   (fun _=>[(16,zg a),(64,zg noO),(96,zg noO)]) (fun _=>True) ?_ ?_
  ·refine dr ?_;refine oN (zaD W0) rfl ?_;refine dEr ?_;refine ⟨(),trivial,?_⟩;exact zr.ls ⟨rfl,rfl,rfl,rfl,rfl,trivial⟩ ⟨rfl,rfl,rfl,trivial⟩ (fun id h=>by cases h) rfl rfl
  intro _ _;refine dEr ?_;repeat ((first|refine c0 (Z9 W0) rfl ?_|refine klf (by omega) ?_|refine kNN ?_); first|refine dEr ?_|exact dz)
  refine z7 (σ:=Unit) 3 (fun _=>[(1,.ptr 16 0),(2,B false),(4,.ptr 64 0),(6,.ptr 96 0),(8,I 1),(10,.ptr 160 0)])
   (fun _=>[(16,zg a),(64,zg noO),(160,zg noO),(96,zg noO)]) (fun _=>True) ?_ ?_
  ·refine dEr ?_;repeat ((first|refine oN qt rfl ?_|refine oN qi rfl ?_); first|refine dEr ?_|exact dz)
   refine ⟨(),trivial,?_⟩;exact zr.ls ⟨rfl,rfl,rfl,rfl,rfl,rfl,trivial⟩ ⟨rfl,rfl,rfl,rfl,trivial⟩ (fun id h=>by cases h) rfl rfl
  intro _ _;refine dEr ?_;repeat ((first|refine c0 (qv noO) rfl ?_|refine kBB ?_|refine c0 (Z9 W0) rfl ?_|refine klf (by omega) ?_|refine kNN ?_); first|refine dEr ?_|exact dz)
 | true =>
 obtain ⟨t,x,g⟩:=OG.of ho;have qx:=zmN W0 hM a t x g;have os:=zmy g;rw [hw] at qx os;obtain ⟨M9,v9⟩:=ovV 9 w (by omega);rw [← v9.e] at qx;refine z7 (σ:=Unit) 3 (fun _=>[(1,.ptr 16 0),(2,B false),(4,.ptr 64 0),(5,.ptr 80 0),(6,.ptr 96 0)])
  (fun _=>(16,zg a)::(64,zg w)::(80,zx 7 a)::(96,zx 9 w)::apX M7 M9) (fun _=>True) ?_ ?_
 ·have l7:LkO 7 a ((16,zg a)::(64,zg w)::(80,zx 7 a)::M7):=((v7.self.cons (by decide)).cons (by decide)).cons (by decide);refine dr ?_;refine oF (cs:=[zA a]) qx (l7.snap rfl) (zd rfl (zd rfl (zd l7.inBox (v7.inB l7)))) (zd l7.inBox rfl) ⟨(),trivial⟩ fun _ _=>⟨rfl,?_,?_⟩
  ·have hn:∀ id,id % 16=9→lkX ((16,zg a)::(64,zg w)::(80,zx 7 a)::M7) id=none:=fun id h=>by
    rw [zb (by omega),zb (by omega),zb (by omega),v7.no (by omega)]
   rw [v9.e];exact Zo (hn _ rfl) (hn _ rfl) (hn _ rfl) fun i=>hn _ (by omega)
  refine dEr ?_;repeat (refine fT (frX1 ((v9.skip (id:=96) (by decide)).trans ((js (P:=[_,_,_]) rfl).trans (v7.no (by decide))))) ?_; first|refine dEr ?_|exact dz)
  refine ⟨(),trivial,?_⟩;have t7:LkO 7 a ((16,zg a)::(64,zg w)::(80,zx 7 a)::(96,zx 9 w)::apX M7 M9):=(((v7.ap.cons (by decide)).cons (by decide)).cons (by decide)).cons (by decide);have t9:LkO 9 w ((16,zg a)::(64,zg w)::(80,zx 7 a)::(96,zx 9 w)::apX M7 M9):=((((v7.ap2 v9.self (by decide)).cons (by decide)).cons (by decide)).cons (by decide)).cons (by decide);exact zr.ls ⟨rfl,rfl,rfl,rfl,rfl,trivial⟩ ⟨(zb (by decide)).trans ((v9.skip (id:=16) (by decide)).trans rfl),(zb (by decide)).trans ((v9.skip (id:=64) (by decide)).trans rfl),(zb (by decide)).trans ((v9.skip (id:=80) (by decide)).trans rfl),rfl,
    ZN (v7.mmS ((v9.ap2 l7 (by decide)).cons (by decide))) (v9.mmS (v9.ap.cons (by decide)))⟩ (fun id h=>by cases h)
   (zd rfl (zd rfl (zd t7.inBox (zd t9.inBox (QF (v7.inB t7) (v9.inB t9)))))) rfl
 intro _ _;have eLw:(lmL w).map CV.row=w.layers.map ze:=by unfold lmL; rw [List.map_map]; rfl
 have t7:LkO 7 a ((16,zg a)::(64,zg w)::(80,zx 7 a)::(96,zx 9 w)::apX M7 M9):=(((v7.ap.cons (by decide)).cons (by decide)).cons (by decide)).cons (by decide);have t9:LkO 9 w ((16,zg a)::(64,zg w)::(80,zx 7 a)::(96,zx 9 w)::apX M7 M9):=((((v7.ap2 v9.self (by decide)).cons (by decide)).cons (by decide)).cons (by decide)).cons (by decide);refine dEr ?_;rw [t9.h1];refine dr ?_;repeat (refine oB (by simp) ?_; first|refine dr ?_|exact dz)
 rw [t9.h3];refine dr ?_;repeat (refine oB (by simp [jv,lmL]) ?_; first|refine dr ?_|exact dz)
 refine jP t9.h4 ?_;rw [eLw];refine dEr ?_;rw [t9.h2];refine dEr ?_;repeat ((first|refine oB (by simp) ?_|refine c0 (qv w) rfl ?_|refine kBB ?_); first|refine dEr ?_|exact dz)
 refine oN qt rfl ?_;dsimp only [apX];refine Ze (y4 fun p hp => .inr (Zi hp)) (yJ ⟨rfl,rfl,rfl,rfl,ZN (v7.mmS t7) (v9.mmS t9)⟩ ?_);refine dEr ?_;rw [t7.h1];refine dr ?_;repeat (refine oB (by simp) ?_; first|refine dr ?_|exact dz)
 rw [t7.h3];refine dr ?_;repeat (refine oB (by simp [jv,lmL]) ?_; first|refine dr ?_|exact dz)
 refine jP t7.h4 ?_;rw [show (lmL a).map CV.row=a.layers.map ze by unfold lmL; rw [List.map_map]; rfl];refine dEr ?_;rw [t7.h2];refine dEr ?_;repeat ((first|refine oB (by simp) ?_|refine c0 (qv a) rfl ?_|refine kBB ?_); first|refine dEr ?_|exact dz)
 refine z7 (σ:=Unit) 3 (fun _=>[(1,.ptr 16 0),(2,B false),(4,.ptr 64 0),(6,.ptr 96 0),(7,I (mkK 1 a))])
  (fun _=>(16,zg a)::(64,zg w)::(96,zx 9 w)::M9) (fun _=>True) ?_ ?_
 ·refine dr ?_;refine oW' qm (fun id b hb=>qL (l:=M7) (v7.mmS t7) _ (j0 hb)) (v7.inB v7.self) (zd v7.self.inBox rfl) ⟨(),trivial⟩ fun _ _=>⟨fun id h => .inl ?_,?_⟩
  ·rw [v7.e,yx (o':=mkO 1 a) j1.symm]; exact h
  refine dEr ?_;refine ⟨(),trivial,?_⟩;have hmg:∀ {m:XM} {id:Nat},id % 16≠7→lkX (ji m (ovM 7 (mkO 1 a))) id=lkX m id:=fun h=>by rw [jU,Zp h]
  exact zr.ls ⟨rfl,rfl,rfl,rfl,rfl,trivial⟩ ⟨(hmg (by decide)).trans rfl,(hmg (by decide)).trans rfl,(hmg (by decide)).trans rfl,v9.mmS (t9.of fun id h=>hmg (by omega))⟩ (fun id h=>by cases h)
   (zd rfl (zd rfl (zd (((v9.self.cons (by decide)).cons (by decide)).cons (by decide)).inBox (v9.inB (((v9.self.cons (by decide)).cons (by decide)).cons (by decide)))))) rfl
 intro _ _;refine dEr ?_;repeat (refine klf (by omega) ?_; first|refine dEr ?_|exact dz)
 have s9:LkO 9 w ((16,zg a)::(64,zg w)::(96,zx 9 w)::M9):=((v9.self.cons (by decide)).cons (by decide)).cons (by decide);rw [s9.h1];refine dr ?_;repeat (refine oB (by simp) ?_; first|refine dr ?_|exact dz)
 rw [s9.h3];refine dr ?_;repeat (refine oB (by simp [jv,lmL]) ?_; first|refine dr ?_|exact dz)
 refine jP s9.h4 ?_;rw [eLw];refine dEr ?_;rw [s9.h2];refine dEr ?_;repeat ((first|refine oB (by simp) ?_|refine c0 (qv w) rfl ?_|refine kBB ?_); first|refine dEr ?_|exact dz)
 have hkw:=zbf os;have hkw0:=@Jr 1 w;have qn:=zaC W0 1 w ⟨by omega,hkw⟩ (by have:=os.b; omega) (by have:=os.n; omega) (fun l hl=>by have:=os.l l hl; omega) (by have:=os.u; omega);have qh:=Q1 W0 1 w ⟨by omega,hkw⟩ (by have:=os.b; omega) (by have:=os.n; omega) (fun l hl=>by have:=os.l l hl; omega) (by have:=os.u; omega);obtain ⟨N9,u9⟩:=ovV 9 (mkO 1 w) (by omega);rw [← v9.e,← u9.e] at qn;refine z7 (σ:=Unit) 3 (fun _=>[(1,.ptr 16 0),(2,B false),(4,.ptr 64 0),(6,.ptr 96 0),(8,I (mkK 1 w))])
  (fun _=>(16,zg a)::(64,zg w)::(96,zx 9 w)::N9) (fun _=>True) ?_ ?_
 ·refine dr ?_;refine oW' qn (fun id b hb=>qL (l:=M9) (v9.mmS s9) _ (j0 hb)) (v9.inB v9.self) (zd v9.self.inBox rfl) ⟨(),trivial⟩ fun _ _=>⟨fun id h => .inl ?_,?_⟩
  ·rw [v9.e,yx (o':=mkO 1 w) j1.symm,← u9.e]; exact h
  refine dEr ?_;refine ⟨(),trivial,?_⟩;have hmg:∀ {m:XM} {id:Nat},id % 16≠9→lkX (ji m N9) id=lkX m id:=fun h=>by rw [jU,u9.no h]
  exact zr.ls ⟨rfl,rfl,rfl,rfl,rfl,trivial⟩ ⟨(hmg (by decide)).trans rfl,(hmg (by decide)).trans rfl,(hmg (by decide)).trans rfl,u9.mmS u9.mrg⟩ (fun id h=>by cases h)
   (zd rfl (zd rfl (zd (((u9.self.cons (by decide)).cons (by decide)).cons (by decide)).inBox (u9.inB (((u9.self.cons (by decide)).cons (by decide)).cons (by decide)))))) rfl
 intro _ _;have r9:LkO 9 (mkO 1 w) ((16,zg a)::(64,zg w)::(96,zx 9 w)::N9):=((u9.self.cons (by decide)).cons (by decide)).cons (by decide);have eLm:(lmL (mkO 1 w)).map CV.row=(mkO 1 w).layers.map ze:=by unfold lmL; rw [List.map_map]; rfl
 refine dEr ?_;dsimp only [apX];rw [r9.h1];refine dr ?_;repeat (refine oB (by simp [mkO,Zj]) ?_; first|refine dr ?_|exact dz)
 rw [r9.h3];refine dr ?_;repeat (refine oB (by simp [jv,lmL,j1]) ?_; first|refine dr ?_|exact dz)
 refine jP r9.h4 ?_;rw [eLm];refine dEr ?_;dsimp only [apX];rw [r9.h2];refine dEr ?_;repeat ((first|refine oB (by simp [mkO,yU]) ?_|refine c0 qh rfl ?_|refine klf (by omega) ?_|refine kNN ?_); first|refine dEr ?_|exact dz)
 refine z7 (σ:=Unit) 3 (fun _=>[(1,.ptr 16 0),(2,B false),(4,.ptr 64 0),(6,.ptr 96 0),(8,I (mkK 1 w)),(10,.ptr 160 0)])
  (fun _=>(16,zg a)::(64,zg w)::(160,zg w)::(96,zx 9 w)::N9) (fun _=>True) ?_ ?_
 ·refine dEr ?_;repeat ((first|refine oN qt rfl ?_|refine oN qi rfl ?_|refine fT (frX1 ((js (P:=[_,_,_]) rfl).trans (u9.no (id:=160) (by decide)))) ?_); first|refine dEr ?_|exact dz)
  refine ⟨(),trivial,?_⟩;exact zr.ls ⟨rfl,rfl,rfl,rfl,rfl,rfl,trivial⟩ ⟨rfl,rfl,rfl,rfl,u9.mmS (r9.cons (by decide))⟩ (fun id h=>by cases h)
   (zd rfl (zd rfl (zd rfl (zd ((((u9.self.cons (by decide)).cons (by decide)).cons (by decide)).cons (by decide)).inBox (u9.inB ((((u9.self.cons (by decide)).cons (by decide)).cons (by decide)).cons (by decide))))))) rfl
 intro _ _;have p9:LkO 9 (mkO 1 w) ((16,zg a)::(64,zg w)::(160,zg w)::(96,zx 9 w)::N9):=(((u9.self.cons (by decide)).cons (by decide)).cons (by decide)).cons (by decide);refine dEr ?_;repeat ((first|refine c0 (qv w) rfl ?_|refine kBB ?_); first|refine dEr ?_|exact dz)
 dsimp only [apX];rw [p9.h1];refine dr ?_;repeat (refine oB (by simp [mkO,Zj]) ?_; first|refine dr ?_|exact dz)
 rw [p9.h3];refine dr ?_;repeat (refine oB (by simp [jv,lmL,j1]) ?_; first|refine dr ?_|exact dz)
 refine jP p9.h4 ?_;rw [eLm];refine dEr ?_;dsimp only [apX];rw [p9.h2];refine dEr ?_;repeat ((first|refine oB (by simp [mkO,yU]) ?_|refine c0 qh rfl ?_|refine klf (by omega) ?_|refine kNN ?_); first|refine dEr ?_|exact dz)
def zhC:XC:=(.s (.r [.x1 1 0,.m1 2 .n]) (.s (.r [.m1 3 (.i 1048576)]) (.s (.r [.l2 11 3 1,.mv 12 3,.c1 13 17 [11,12],.mv 3 13]) (.s (.s (.r [.mv 14 3,.b1 15 .lss 14 (.i 0)]) (.cnd 15 (.rt 2) .skip)) (.s (.r [.l2 16 3 1,.o1 17 19 [16],.c1 18 31 [17],.ex 4 (.alloc [.nil,.nil,.nil]),.s1 3 4 18]) (.cut (.r [.l2 19 3 1,.o1 20 19 [19],.ex 5 (.alloc [.nil,.nil,.nil]),.s1 3 5 20]) (.cut (.r [.l2 21 3 5,.o1 22 32 [21],.ex 6 (.alloc [.nil,.nil,.nil]),.s1 3 6 22]) (.s (.s (.r [.l2 23 3 6,.l2 24 3 4,.c1 25 22 [23,24],.u1 26 25]) (.cnd 26 (.rf 2) .skip)) (.s (.s (.d [.exl 27 (.ld true 3 5),.exl 28 (.ld true 3 1),.exl 29 (.opn 19 [28]),.c1 30 22 [27,29],.u1 31 30]) (.cnd 31 (.rf 2) .skip)) (.s (.r [.m1 7 (.i 1)]) (.cut (.r [.l2 32 3 5,.mv 33 7,.o1 34 23 [32,33],.mv 7 34]) (.s (.s (.r [.mv 35 7,.b1 36 .lss 35 (.i 0),.mv 37 36,.gf 38 (.ld true 3 6) 37,.gf 39 (.ld true 3 4) 37,.gf 40 (.call 22 [38,39]) 37,.gf 41 (.un .not 40) 37,.p1 42 37 41]) (.cnd 42 (.rf 2) .skip)) (.s (.r [.m1 8 (.i 1)]) (.cut (.r [.l2 43 3 6,.mv 44 8,.o1 45 23 [43,44],.mv 8 45]) (.s (.r [.m1 9 (.i 1)]) (.s (.r [.l2 46 3 6,.mv 47 9,.c1 48 30 [46,47],.mv 9 48]) (.s (.s (.r [.mv 49 9,.b1 50 .lss 49 (.i 0)]) (.cnd 50 (.rf 2) .skip)) (.s (.s (.r [.mv 51 9,.mv 52 8,.b1 53 .neq 51 52]) (.cnd 53 (.rf 2) .skip)) (.cut (.r [.l2 54 3 1,.o1 55 19 [54],.o1 56 32 [55],.ex 10 (.alloc [.nil,.nil,.nil]),.s1 3 10 56]) (.s (.s (.r [.l2 57 3 10,.l2 58 3 4,.c1 59 22 [57,58],.u1 60 59]) (.cnd 60 (.rf 2) .skip)) (.s (.r [.m1 9 (.i 1)]) (.s (.r [.l2 61 3 6,.mv 62 9,.c1 63 30 [61,62],.mv 9 63]) (.s (.s (.r [.mv 64 9,.b1 65 .lss 64 (.i 0)]) (.cnd 65 (.rf 2) .skip)) (.s (.s (.r [.mv 66 9,.mv 67 8,.b1 68 .neq 66 67]) (.cnd 68 (.rf 2) .skip)) (.rt 2)))))))))))))))))))))))))
theorem zhD:zj Tryz.prog [19,32,23] 7=some (zhC.ac,[(.t 2)],69):=by kernel_rfl
theorem zki (W0:World) (hs:W0.ShapedOpen Tryz.prog) (a:Over):Fn Tryz.prog W0 7 [zA a] (.c (CB true)) []:=by
 have hM:=zaV hs;refine fX' mixed zhD fun hg=>?_
 have z1:=@zb3 a 1048576 (by omega);refine dEr ?_;repeat (refine c0 (zaG W0 a _ (by omega)) rfl ?_; first|refine dEr ?_|exact dz)
 apply cP<;>intro h1
 ·exact dz
 have fa:=zb2 (by omega) (by omega) h1;have qt:=zaH W0 a fa.h1 fa.h2 fa.h3 fa.h4;have qs:=zk2 W0 a;have qi:=zkB W0 hM a;have qo:=zaI W0 a fa.h1 fa.h2 fa.h3 fa.h4;have qv:∀ u:Over,Fn Tryz.prog W0 22 [zA u,zA u] (.c (CB true)) []:=fun u=>by
  have:=zaz W0 u u
  rwa [show decide (u=u)=true by simp] at this
 have hmk:mkK 1 a≤100000000:=by have:=@zbe a 1048576 1 (by omega) h1; omega
 have hmk0:=@Jr 1 a;have qm:=Q9 W0 1 a ⟨by omega,hmk⟩ fa.h1 fa.h2 fa.h3 fa.h4;obtain ⟨M7,v7⟩:=ovV 7 a (by omega);rw [← v7.e] at qo qm;generalize hw:qy a=w at *;refine dEr ?_;repeat ((first|refine oN qt rfl ?_|refine c0 qs rfl ?_); first|refine dEr ?_|exact dz)
 refine z7 (σ:=Unit) 3 (fun _=>[(1,.ptr 16 0),(2,B false),(4,.ptr 64 0),(5,.ptr 80 0)])
  (fun _=>(16,zg a)::(64,zg w)::(80,zx 7 a)::M7) (fun _=>True) ?_ ?_
 ·refine dr ?_;refine oF (cs:=[zA a]) qo rfl rfl rfl ⟨(),trivial⟩ fun _ _=>⟨rfl,?_,?_⟩
  ·rw [v7.e];exact Zo rfl rfl rfl fun i=>by show lkX [_,_] _=none; rw [zb (by simp<;>omega),zb (by simp<;>omega)]; rfl
  refine dEr ?_;repeat (refine fT (frX1 ((v7.skip (id:=80) (by decide)).trans rfl)) ?_; first|refine dEr ?_|exact dz)
  refine ⟨(),trivial,?_⟩;refine zr.ls ⟨rfl,rfl,rfl,rfl,trivial⟩ ⟨(zb (by decide)).trans ((v7.skip (id:=16) (by decide)).trans rfl),(zb (by decide)).trans ((v7.skip (id:=64) (by decide)).trans rfl),rfl,v7.mmS (v7.ap.cons (by decide))⟩ (fun id h=>by cases h)
   (zd rfl (zd rfl (zd (((v7.self.cons (by decide)).cons (by decide)).cons (by decide)).inBox (v7.inB (((v7.self.cons (by decide)).cons (by decide)).cons (by decide)))))) rfl
 intro _ _;cases ho:oOk a with
 | false =>
  have hw0:w=noO:=by rw [← hw,qy,if_neg (by simp [ho])]
  subst hw0;have l7:LkO 7 a ((16,zg a)::(64,zg noO)::(80,zx 7 a)::M7):=((v7.self.cons (by decide)).cons (by decide)).cons (by decide);have t7:LkO 7 a ((16,zg a)::(64,zg noO)::(80,zx 7 a)::(96,zg noO)::M7):=(((v7.self.cons (by decide)).cons (by decide)).cons (by decide)).cons (by decide);refine z7 (σ:=Unit) 3 (fun _=>[(1,.ptr 16 0),(2,B false),(4,.ptr 64 0),(5,.ptr 80 0),(6,.ptr 96 0)])
   (fun _=>(16,zg a)::(64,zg noO)::(80,zx 7 a)::(96,zg noO)::M7) (fun _=>True) ?_ ?_
  ·refine dr ?_;refine oF (cs:=[zA a]) qi.funW (l7.snap rfl) (zd rfl (zd rfl (zd l7.inBox (v7.inB l7)))) (zd l7.inBox rfl) ⟨(),trivial⟩ fun _ _=>⟨rfl,trivial,?_⟩
   refine dEr ?_;repeat (refine fT (frX1 ((js (P:=[_,_,_]) rfl).trans (v7.no (by decide)))) ?_; first|refine dEr ?_|exact dz)
   refine ⟨(),trivial,?_⟩;exact zr.ls ⟨rfl,rfl,rfl,rfl,rfl,trivial⟩ ⟨rfl,rfl,rfl,rfl,v7.mmS (l7.cons (by decide))⟩ (fun id h=>by cases h) (zd rfl (zd rfl (zd t7.inBox (zd rfl (v7.inB t7))))) rfl
  intro _ _;refine dEr ?_;repeat ((first|refine c0 (qv noO) rfl ?_|refine kBB ?_); first|refine dEr ?_|exact dz)
  refine oN qt rfl ?_;dsimp only [apX];refine Ze (y4 fun p hp => .inr (Zi hp)) (yJ ⟨rfl,rfl,rfl,rfl,v7.mmS t7⟩ ?_);refine dEr ?_;rw [t7.h1];refine dr ?_;repeat (refine oB (by simp) ?_; first|refine dr ?_|exact dz)
  rw [t7.h3];refine dr ?_;repeat (refine oB (by simp [jv,lmL]) ?_; first|refine dr ?_|exact dz)
  refine jP t7.h4 ?_;rw [show (lmL a).map CV.row=a.layers.map ze by unfold lmL; rw [List.map_map]; rfl];refine dEr ?_;rw [t7.h2];refine dEr ?_;repeat ((first|refine oB (by simp) ?_|refine c0 (qv a) rfl ?_|refine kBB ?_); first|refine dEr ?_|exact dz)
  refine z7 (σ:=Unit) 3 (fun _=>[(1,.ptr 16 0),(2,B false),(4,.ptr 64 0),(6,.ptr 96 0),(7,I (mkK 1 a))])
   (fun _=>[(16,zg a),(64,zg noO),(96,zg noO)]) (fun _=>True) ?_ ?_
  ·refine dr ?_;refine oW' qm (fun id b hb=>qL (l:=M7) (v7.mmS t7) _ (j0 hb)) (v7.inB v7.self) (zd v7.self.inBox rfl) ⟨(),trivial⟩ fun _ _=>⟨fun id h => .inl ?_,?_⟩
   ·rw [v7.e,yx (o':=mkO 1 a) j1.symm]; exact h
   refine dEr ?_;refine ⟨(),trivial,?_⟩;have hmg:∀ {m:XM} {id:Nat},id % 16≠7→lkX (ji m (ovM 7 (mkO 1 a))) id=lkX m id:=fun h=>by rw [jU,Zp h]
   exact zr.ls ⟨rfl,rfl,rfl,rfl,rfl,trivial⟩ ⟨(hmg (by decide)).trans rfl,(hmg (by decide)).trans rfl,(hmg (by decide)).trans rfl,trivial⟩ (fun id h=>by cases h) rfl rfl
  intro _ _;refine dEr ?_;repeat ((first|refine klf (by omega) ?_|refine c0 (qv noO) rfl ?_|refine kBB ?_); first|refine dEr ?_|exact dz)
  refine z7 (σ:=Unit) 3 (fun _=>[(1,.ptr 16 0),(2,B false),(4,.ptr 64 0),(6,.ptr 96 0),(8,I 1)])
   (fun _=>[(16,zg a),(64,zg noO),(96,zg noO)]) (fun _=>True) ?_ ?_
  ·refine dr ?_;refine oN (zaD W0) rfl ?_;refine dEr ?_;refine ⟨(),trivial,?_⟩;exact zr.ls ⟨rfl,rfl,rfl,rfl,rfl,trivial⟩ ⟨rfl,rfl,rfl,trivial⟩ (fun id h=>by cases h) rfl rfl
  intro _ _;refine dEr ?_;repeat ((first|refine c0 (Z9 W0) rfl ?_|refine klf (by omega) ?_|refine kNN ?_); first|refine dEr ?_|exact dz)
  refine z7 (σ:=Unit) 3 (fun _=>[(1,.ptr 16 0),(2,B false),(4,.ptr 64 0),(6,.ptr 96 0),(8,I 1),(10,.ptr 160 0)])
   (fun _=>[(16,zg a),(64,zg noO),(160,zg noO),(96,zg noO)]) (fun _=>True) ?_ ?_
  ·refine dEr ?_;repeat ((first|refine oN qt rfl ?_|refine oN qi rfl ?_); first|refine dEr ?_|exact dz)
   refine ⟨(),trivial,?_⟩;exact zr.ls ⟨rfl,rfl,rfl,rfl,rfl,rfl,trivial⟩ ⟨rfl,rfl,rfl,rfl,trivial⟩ (fun id h=>by cases h) rfl rfl
  intro _ _;refine dEr ?_;repeat ((first|refine c0 (qv noO) rfl ?_|refine kBB ?_|refine c0 (Z9 W0) rfl ?_|refine klf (by omega) ?_|refine kNN ?_); first|refine dEr ?_|exact dz)
 | true =>
 obtain ⟨t,x,g⟩:=OG.of ho;have qx:=zmM W0 hM a t x g;have os:=zmx g;rw [hw] at qx os;obtain ⟨M9,v9⟩:=ovV 9 w (by omega);rw [← v9.e] at qx;refine z7 (σ:=Unit) 3 (fun _=>[(1,.ptr 16 0),(2,B false),(4,.ptr 64 0),(5,.ptr 80 0),(6,.ptr 96 0)])
  (fun _=>(16,zg a)::(64,zg w)::(80,zx 7 a)::(96,zx 9 w)::apX M7 M9) (fun _=>True) ?_ ?_
 ·have l7:LkO 7 a ((16,zg a)::(64,zg w)::(80,zx 7 a)::M7):=((v7.self.cons (by decide)).cons (by decide)).cons (by decide);refine dr ?_;refine oF (cs:=[zA a]) qx (l7.snap rfl) (zd rfl (zd rfl (zd l7.inBox (v7.inB l7)))) (zd l7.inBox rfl) ⟨(),trivial⟩ fun _ _=>⟨rfl,?_,?_⟩
  ·have hn:∀ id,id % 16=9→lkX ((16,zg a)::(64,zg w)::(80,zx 7 a)::M7) id=none:=fun id h=>by
    rw [zb (by omega),zb (by omega),zb (by omega),v7.no (by omega)]
   rw [v9.e];exact Zo (hn _ rfl) (hn _ rfl) (hn _ rfl) fun i=>hn _ (by omega)
  refine dEr ?_;repeat (refine fT (frX1 ((v9.skip (id:=96) (by decide)).trans ((js (P:=[_,_,_]) rfl).trans (v7.no (by decide))))) ?_; first|refine dEr ?_|exact dz)
  refine ⟨(),trivial,?_⟩;have t7:LkO 7 a ((16,zg a)::(64,zg w)::(80,zx 7 a)::(96,zx 9 w)::apX M7 M9):=(((v7.ap.cons (by decide)).cons (by decide)).cons (by decide)).cons (by decide);have t9:LkO 9 w ((16,zg a)::(64,zg w)::(80,zx 7 a)::(96,zx 9 w)::apX M7 M9):=((((v7.ap2 v9.self (by decide)).cons (by decide)).cons (by decide)).cons (by decide)).cons (by decide);exact zr.ls ⟨rfl,rfl,rfl,rfl,rfl,trivial⟩ ⟨(zb (by decide)).trans ((v9.skip (id:=16) (by decide)).trans rfl),(zb (by decide)).trans ((v9.skip (id:=64) (by decide)).trans rfl),(zb (by decide)).trans ((v9.skip (id:=80) (by decide)).trans rfl),rfl,
    ZN (v7.mmS ((v9.ap2 l7 (by decide)).cons (by decide))) (v9.mmS (v9.ap.cons (by decide)))⟩ (fun id h=>by cases h)
   (zd rfl (zd rfl (zd t7.inBox (zd t9.inBox (QF (v7.inB t7) (v9.inB t9)))))) rfl
 intro _ _;have eLw:(lmL w).map CV.row=w.layers.map ze:=by unfold lmL; rw [List.map_map]; rfl
 have t7:LkO 7 a ((16,zg a)::(64,zg w)::(80,zx 7 a)::(96,zx 9 w)::apX M7 M9):=(((v7.ap.cons (by decide)).cons (by decide)).cons (by decide)).cons (by decide);have t9:LkO 9 w ((16,zg a)::(64,zg w)::(80,zx 7 a)::(96,zx 9 w)::apX M7 M9):=((((v7.ap2 v9.self (by decide)).cons (by decide)).cons (by decide)).cons (by decide)).cons (by decide);refine dEr ?_;rw [t9.h1];refine dr ?_;repeat (refine oB (by simp) ?_; first|refine dr ?_|exact dz)
 rw [t9.h3];refine dr ?_;repeat (refine oB (by simp [jv,lmL]) ?_; first|refine dr ?_|exact dz)
 refine jP t9.h4 ?_;rw [eLw];refine dEr ?_;rw [t9.h2];refine dEr ?_;repeat ((first|refine oB (by simp) ?_|refine c0 (qv w) rfl ?_|refine kBB ?_); first|refine dEr ?_|exact dz)
 refine oN qt rfl ?_;dsimp only [apX];refine Ze (y4 fun p hp => .inr (Zi hp)) (yJ ⟨rfl,rfl,rfl,rfl,ZN (v7.mmS t7) (v9.mmS t9)⟩ ?_);refine dEr ?_;rw [t7.h1];refine dr ?_;repeat (refine oB (by simp) ?_; first|refine dr ?_|exact dz)
 rw [t7.h3];refine dr ?_;repeat (refine oB (by simp [jv,lmL]) ?_; first|refine dr ?_|exact dz)
 refine jP t7.h4 ?_;rw [show (lmL a).map CV.row=a.layers.map ze by unfold lmL; rw [List.map_map]; rfl];refine dEr ?_;rw [t7.h2];refine dEr ?_;repeat ((first|refine oB (by simp) ?_|refine c0 (qv a) rfl ?_|refine kBB ?_); first|refine dEr ?_|exact dz)
 refine z7 (σ:=Unit) 3 (fun _=>[(1,.ptr 16 0),(2,B false),(4,.ptr 64 0),(6,.ptr 96 0),(7,I (mkK 1 a))])
  (fun _=>(16,zg a)::(64,zg w)::(96,zx 9 w)::M9) (fun _=>True) ?_ ?_
 ·refine dr ?_;refine oW' qm (fun id b hb=>qL (l:=M7) (v7.mmS t7) _ (j0 hb)) (v7.inB v7.self) (zd v7.self.inBox rfl) ⟨(),trivial⟩ fun _ _=>⟨fun id h => .inl ?_,?_⟩
  ·rw [v7.e,yx (o':=mkO 1 a) j1.symm]; exact h
  refine dEr ?_;refine ⟨(),trivial,?_⟩;have hmg:∀ {m:XM} {id:Nat},id % 16≠7→lkX (ji m (ovM 7 (mkO 1 a))) id=lkX m id:=fun h=>by rw [jU,Zp h]
  exact zr.ls ⟨rfl,rfl,rfl,rfl,rfl,trivial⟩ ⟨(hmg (by decide)).trans rfl,(hmg (by decide)).trans rfl,(hmg (by decide)).trans rfl,v9.mmS (t9.of fun id h=>hmg (by omega))⟩ (fun id h=>by cases h)
   (zd rfl (zd rfl (zd (((v9.self.cons (by decide)).cons (by decide)).cons (by decide)).inBox (v9.inB (((v9.self.cons (by decide)).cons (by decide)).cons (by decide)))))) rfl
 intro _ _;refine dEr ?_;repeat (refine klf (by omega) ?_; first|refine dEr ?_|exact dz)
 have s9:LkO 9 w ((16,zg a)::(64,zg w)::(96,zx 9 w)::M9):=((v9.self.cons (by decide)).cons (by decide)).cons (by decide);rw [s9.h1];refine dr ?_;repeat (refine oB (by simp) ?_; first|refine dr ?_|exact dz)
 rw [s9.h3];refine dr ?_;repeat (refine oB (by simp [jv,lmL]) ?_; first|refine dr ?_|exact dz)
 refine jP s9.h4 ?_;rw [eLw];refine dEr ?_;rw [s9.h2];refine dEr ?_;repeat ((first|refine oB (by simp) ?_|refine c0 (qv w) rfl ?_|refine kBB ?_); first|refine dEr ?_|exact dz)
 have hkw:=zbf os;have hkw0:=@Jr 1 w;have qn:=zaC W0 1 w ⟨by omega,hkw⟩ (by have:=os.b; omega) (by have:=os.n; omega) (fun l hl=>by have:=os.l l hl; omega) (by have:=os.u; omega);have qh:=Q1 W0 1 w ⟨by omega,hkw⟩ (by have:=os.b; omega) (by have:=os.n; omega) (fun l hl=>by have:=os.l l hl; omega) (by have:=os.u; omega);obtain ⟨N9,u9⟩:=ovV 9 (mkO 1 w) (by omega);rw [← v9.e,← u9.e] at qn;refine z7 (σ:=Unit) 3 (fun _=>[(1,.ptr 16 0),(2,B false),(4,.ptr 64 0),(6,.ptr 96 0),(8,I (mkK 1 w))])
  (fun _=>(16,zg a)::(64,zg w)::(96,zx 9 w)::N9) (fun _=>True) ?_ ?_
 ·refine dr ?_;refine oW' qn (fun id b hb=>qL (l:=M9) (v9.mmS s9) _ (j0 hb)) (v9.inB v9.self) (zd v9.self.inBox rfl) ⟨(),trivial⟩ fun _ _=>⟨fun id h => .inl ?_,?_⟩
  ·rw [v9.e,yx (o':=mkO 1 w) j1.symm,← u9.e]; exact h
  refine dEr ?_;refine ⟨(),trivial,?_⟩;have hmg:∀ {m:XM} {id:Nat},id % 16≠9→lkX (ji m N9) id=lkX m id:=fun h=>by rw [jU,u9.no h]
  exact zr.ls ⟨rfl,rfl,rfl,rfl,rfl,trivial⟩ ⟨(hmg (by decide)).trans rfl,(hmg (by decide)).trans rfl,(hmg (by decide)).trans rfl,u9.mmS u9.mrg⟩ (fun id h=>by cases h)
   (zd rfl (zd rfl (zd (((u9.self.cons (by decide)).cons (by decide)).cons (by decide)).inBox (u9.inB (((u9.self.cons (by decide)).cons (by decide)).cons (by decide)))))) rfl
 intro _ _;have r9:LkO 9 (mkO 1 w) ((16,zg a)::(64,zg w)::(96,zx 9 w)::N9):=((u9.self.cons (by decide)).cons (by decide)).cons (by decide);have eLm:(lmL (mkO 1 w)).map CV.row=(mkO 1 w).layers.map ze:=by unfold lmL; rw [List.map_map]; rfl
 refine dEr ?_;dsimp only [apX];rw [r9.h1];refine dr ?_;repeat (refine oB (by simp [mkO,Zj]) ?_; first|refine dr ?_|exact dz)
 rw [r9.h3];refine dr ?_;repeat (refine oB (by simp [jv,lmL,j1]) ?_; first|refine dr ?_|exact dz)
 refine jP r9.h4 ?_;rw [eLm];refine dEr ?_;dsimp only [apX];rw [r9.h2];refine dEr ?_;repeat ((first|refine oB (by simp [mkO,yU]) ?_|refine c0 qh rfl ?_|refine klf (by omega) ?_|refine kNN ?_); first|refine dEr ?_|exact dz)
 refine z7 (σ:=Unit) 3 (fun _=>[(1,.ptr 16 0),(2,B false),(4,.ptr 64 0),(6,.ptr 96 0),(8,I (mkK 1 w)),(10,.ptr 160 0)])
  (fun _=>(16,zg a)::(64,zg w)::(160,zg w)::(96,zx 9 w)::N9) (fun _=>True) ?_ ?_
 ·refine dEr ?_;repeat ((first|refine oN qt rfl ?_|refine oN qi rfl ?_|refine fT (frX1 ((js (P:=[_,_,_]) rfl).trans (u9.no (id:=160) (by decide)))) ?_); first|refine dEr ?_|exact dz)
  refine ⟨(),trivial,?_⟩;exact zr.ls ⟨rfl,rfl,rfl,rfl,rfl,rfl,trivial⟩ ⟨rfl,rfl,rfl,rfl,u9.mmS (r9.cons (by decide))⟩ (fun id h=>by cases h)
   (zd rfl (zd rfl (zd rfl (zd ((((u9.self.cons (by decide)).cons (by decide)).cons (by decide)).cons (by decide)).inBox (u9.inB ((((u9.self.cons (by decide)).cons (by decide)).cons (by decide)).cons (by decide))))))) rfl
 intro _ _;have p9:LkO 9 (mkO 1 w) ((16,zg a)::(64,zg w)::(160,zg w)::(96,zx 9 w)::N9):=(((u9.self.cons (by decide)).cons (by decide)).cons (by decide)).cons (by decide);refine dEr ?_;repeat ((first|refine c0 (qv w) rfl ?_|refine kBB ?_); first|refine dEr ?_|exact dz)
 dsimp only [apX];rw [p9.h1];refine dr ?_;repeat (refine oB (by simp [mkO,Zj]) ?_; first|refine dr ?_|exact dz)
 rw [p9.h3];refine dr ?_;repeat (refine oB (by simp [jv,lmL,j1]) ?_; first|refine dr ?_|exact dz)
 refine jP p9.h4 ?_;rw [eLm];refine dEr ?_;dsimp only [apX];rw [p9.h2];refine dEr ?_;repeat ((first|refine oB (by simp [mkO,yU]) ?_|refine c0 qh rfl ?_|refine klf (by omega) ?_|refine kNN ?_); first|refine dEr ?_|exact dz)
end Go.Proofs.YtmkmldepkponaaaGreatDoor

namespace Go.Proofs.YtmkmldepkponaaaGreatDoor
set_option linter.unusedSimpArgs false
set_option linter.unusedVariables false
open Go Go.RowKit Go.WideShapes Go.ChangeShapes Go.ChangeAt
abbrev RC (W:World) (y:CV) (v:Value):Prop:=RepC W (fun _=>False) y v∧v.oneCell'=true
def Opn {H:Type} (enc:TypeId × Value→H) (P:Program) (W:World) (t:TypeId) {α:Type} (f:α→CV):Prop :=
 ∀ (base:Nat) (sp:Nat→Bool) (held:Bool) (fuel:Nat) (cs:List Value) (x:DataW H × List MemPlace),DataW.trod enc P W base sp held fuel t cs=some x→∃ a:α,za (RC W) (f a).cells cs
section
variable {H:Type} {enc:TypeId × Value→H} {P:Program} {W:World}
theorem zmu {t:TypeId} (ht:P.underlying t=some .bool):Opn enc P W t CB:=by
 intro base sp held fuel cs x h;obtain ⟨b,rfl,_⟩:=DataW.trod_bool ht h;exact ⟨b,⟨.sc trivial,rfl⟩,trivial⟩
theorem zmv {t:TypeId} (ht:P.underlying t=some (.int .i64)):Opn enc P W t CI:=by
 intro base sp held fuel cs x h;obtain ⟨n,rfl,_,hw⟩:=DataW.trod_int ht h;refine ⟨n,⟨.sc ?_,rfl⟩,trivial⟩
 simpa [Lit.wf,wfv] using hw
theorem zmw {t:TypeId} (ht:P.underlying t=some .string):Opn enc P W t CS:=by
 intro base sp held fuel cs x h;obtain ⟨s,rfl,_,hs⟩:=DataW.trod_string ht h;exact ⟨s.data.toList,⟨.sc hs,rfl⟩,trivial⟩
theorem QC {a:Addr} (h:a.spot=none) (n:Nat):a.add n=⟨a.block,a.off+n,none⟩:=by
 unfold Addr.add;split
 ·rename_i hn; subst hn; cases a; simp at h; subst h; rfl
 ·rfl
theorem zcd {α:Type} {R:CV→Value→Prop} {f:α→CV} {sz:Nat} {g:Nat→List Value}:∀ {L:List α} {k:Nat},(∀ i (h:i < L.length),za R (f L[i]).cells (g (k+i))) →
  za R ((L.map f).flatMap CV.cells) ((List.range' k L.length).flatMap g)
 | [],k,_=>trivial
 | a::L,k,h=>by
  simp only [List.map_cons,List.flatMap_cons,List.length_cons,List.range'_succ];refine za.append (h 0 (by simp)) (zcd (sz:=sz) (k:=k+1) fun i hi=>?_);have:=h (i+1) (by simp; omega);rw [show k+1+i=k+(i+1) by omega]
  simpa using this
theorem zek {α:Type} {q:Nat→α→Prop}:∀ {n:Nat},(∀ i,i < n→∃ a,q i a)→∃ L:List α,L.length=n∧∀ i (h:i < L.length),q i L[i]
 | 0,_=>⟨[],rfl,fun i h=>by simp at h⟩
 | n+1,h=>by
  obtain ⟨L,hl,hq⟩:=zek (n:=n) fun i hi=>h i (by omega)
  obtain ⟨a,ha⟩:=h n (by omega);refine ⟨L++[a],by simp [hl],fun i hi=>?_⟩;by_cases hin:i < L.length
  ·rw [List.getElem_append_left hin]; exact hq i hin
  ·have:i=L.length:=by simp at hi; omega
   subst this;simp only [List.getElem_concat_length];rw [hl]; exact ha
theorem zby {t e:TypeId} {α:Type} {f:α→CV} (sz:Nat) (ht:P.underlying t=some (.slice e)) (hc:P.cellsOf e=sz) (h0:0 < sz) (hf:∀ a,(f a).cells.length=sz) (he:Opn enc P W e f):Opn enc P W t (fun l:List α => .row (l.map f)):=by
 intro base sp held fuel cs x h;rcases DataW.trod_slice ht h with ⟨rfl,_⟩ | ⟨a,len,cap,elems,rest,n,_,rfl,_,_,hle,hcap,helen,hel,_⟩
 ·exact ⟨[],⟨.nil (Nat.zero_le _),rfl⟩,trivial⟩
 ·rw [hc] at hel;have key:∀ i,i < len→∃ (y:α),∃ cs',cs'.length=sz∧(∀ j,j < sz→W.cell? ((a.add (i * sz)).add j)=cs'[j]?)∧za (RC W) (f y).cells cs':=by
   intro i hi;have h1:=hel i hi;have h2:∃ z,elems[i]? = some z:=⟨elems[i]'(by omega),by simp [helen,hi]⟩;obtain ⟨z,h2⟩:=h2;rw [h2] at h1;obtain ⟨cs',h3,h4⟩:=Option.bind_eq_some_iff.1 h1;obtain ⟨y,hy⟩:=he _ _ _ _ _ _ h4;obtain ⟨_,h5,h6⟩:=World.cells?_some h3;exact ⟨y,cs',h5,h6,hy⟩
  obtain ⟨L,hl,hL⟩:=zek key;refine ⟨L,⟨?_,rfl⟩,trivial⟩;by_cases hne:L=[]
  ·subst hne;simp only [List.length_nil] at hl;subst hl;exact .nil hcap
  ·have hpos:0 < L.length:=List.length_pos_iff.2 hne;have hsp:a.spot=none:=by
    obtain ⟨cs',h5,h6,_⟩:=hL 0 hpos;have:=h6 0 h0;simp only [Nat.zero_mul] at this;have e0:(a.add 0).add 0=a:=by simp [Addr.add]
    rw [e0] at this;have h7:∃ u,cs'[0]? = some u:=⟨cs'[0]'(by omega),by simp [h5,h0]⟩;obtain ⟨u,h7⟩:=h7;rw [h7] at this;unfold World.cell? at this;split at this
    ·split at this
     ·cases this
     ·rename_i hh; simpa using hh
    ·cases this
   let g:Nat→List Value:=fun i=>(List.range sz).map fun j=>(W.cell? ⟨a.block,a.off+(i * sz+j),none⟩).getD undef
   have hg:∀ i (h:i < L.length),za (RC W) (f L[i]).cells (g i)∧∀ j,j < sz→W.cell? ⟨a.block,a.off+(i * sz+j),none⟩=(g i)[j]? := by
    intro i hi;obtain ⟨cs',h5,h6,h7⟩:=hL i hi;have e:g i=cs':=by
     apply List.ext_getElem?;intro j;by_cases hj:j < sz
     ·have:=h6 j hj;rw [QC hsp,QC rfl] at this;simp only [g,List.getElem?_map,List.getElem?_range hj,Option.map_some];rw [show a.off+(i * sz+j)=a.off+i * sz+j by omega,this];have:cs'[j]? = some (cs'[j]'(by omega)):=by simp [h5,hj]
      rw [this]; rfl
     ·rw [List.getElem?_eq_none (by simp [g]; omega),List.getElem?_eq_none (by omega)]
    rw [e];refine ⟨h7,fun j hj=>?_⟩;have:=h6 j hj;rw [QC hsp,QC rfl] at this;rw [← this,show a.off+i * sz+j=a.off+(i * sz+j) by omega]
   have hall:=zcd (R:=RC W) (f:=f) (sz:=sz) (g:=g) (L:=L) (k:=0) fun i hi=>by simpa using (hg i hi).1
   have hlen:(L.map f).length=len:=by simpa using hl
   have hcell:∀ (m:Nat),m≤L.length→∀ j v,((List.range' 0 m).flatMap g)[j]? = some v→W.cell? ⟨a.block,a.off+j,none⟩=some v:=by
    intro m;induction m with
    | zero=>intro _ j v hv; simp at hv
    | succ m ih =>
     intro hm j v hv;rw [List.range'_concat,List.flatMap_append] at hv;have hln:∀ m,((List.range' 0 m).flatMap g).length=m * sz:=by
      intro m;induction m with
      | zero=>simp
      | succ m ih=>rw [List.range'_concat,List.flatMap_append,List.length_append,ih]; simp [g,Nat.add_mul]
     by_cases hj:j < m * sz
     ·rw [List.getElem?_append_left (by rw [hln]; exact hj)] at hv;exact ih (by omega) j v hv
     ·rw [List.getElem?_append_right (by rw [hln]; omega),hln] at hv;simp only [Nat.zero_add,Nat.one_mul,List.flatMap_cons,List.flatMap_nil,List.append_nil] at hv;have hj2:j - m * sz < sz:=by
       rcases Nat.lt_or_ge (j - m * sz) sz with h' | h'
       ·exact h'
       ·rw [List.getElem?_eq_none (by simp [g]; omega)] at hv; cases hv
      have:=(hg m (by omega)).2 _ hj2;rw [hv,show m * sz+(j - m * sz)=j by omega] at this;exact this
   obtain ⟨ab,ao,asp⟩:=a;simp only at hsp;subst hsp;rw [← hlen];refine .row (sz:=sz) (vs:=(List.range' 0 L.length).flatMap g) (by simpa using hne) h0 (by rw [hlen]; exact hle) hcap (fun h=>h) ?_ hall.length ?_ ?_ fun j v hv=>?_
   ·intro y hy;obtain ⟨b,_,rfl⟩:=List.mem_map.1 hy;exact hf b
   ·intro i y v hy hv;obtain ⟨u,hu,hr⟩:=hall.get i y hy;rw [hv] at hu; cases hu; exact hr.1
   ·intro v hv;obtain ⟨i,hi⟩:=List.mem_iff_getElem?.1 hv;have hlt:i < ((L.map f).flatMap CV.cells).length:=by
     rw [hall.length]; exact (List.getElem?_eq_some_iff.1 hi).1
    obtain ⟨u,hu,hr⟩:=hall.get i _ (List.getElem?_eq_getElem hlt);rw [hi] at hu; cases hu; exact hr.2
   ·exact hcell L.length (Nat.le_refl _) j v hv
def FOpn {H:Type} (enc:TypeId × Value→H) (P:Program) (W:World) (n:Nat) (off:Nat) (fs:List Field) {β:Type} (g:β→List CV):Prop :=
 ∀ (base:Nat) (sp:Nat→Bool) (held:Bool) (fuel:Nat) (cs:List Value),cs.length=n→(∀ f∈fs,∃ x,DataW.trod enc P W base sp held fuel f.type ((cs.drop f.offset).take (P.cellsOf f.type))=some x)→∃ b,za (RC W) (g b) (cs.drop off)
theorem zaO {n off:Nat} (h:n≤off):FOpn enc P W n off [] (fun _:Unit=>[]):=by
 intro base sp held fuel cs hl _;refine ⟨(),?_⟩;rw [List.drop_eq_nil_of_le (by omega)]; trivial
theorem yM {n off:Nat} {fd:Field} {fs:List Field} {α β:Type} {f:α→CV} {g:β→List CV} (k:Nat) (ho:fd.offset=off) (hk:P.cellsOf fd.type=k) (hf:Opn enc P W fd.type f)
  (hr:FOpn enc P W n (off+k) fs g):FOpn enc P W n off (fd::fs) (fun p:α × β=>(f p.1).cells++g p.2):=by
 intro base sp held fuel cs hl h;obtain ⟨x,hx⟩:=h fd (by simp);obtain ⟨a,ha⟩:=hf _ _ _ _ _ _ hx;obtain ⟨b,hb⟩:=hr base sp held fuel cs hl fun f hf=>h f (by simp [hf])
 refine ⟨(a,b),?_⟩;have e:cs.drop off=(cs.drop off).take k++cs.drop (off+k):=by
  rw [← List.drop_drop,List.take_append_drop]
 rw [e];rw [ho,hk] at ha;exact ha.append hb
theorem zbz {t:TypeId} {fs:Array Field} {β:Type} {g:β→List CV} (n:Nat) (ht:P.underlying t=some (.struct fs)) (hn:P.cellsOf t=n) (h:FOpn enc P W n 0 fs.toList g):Opn enc P W t (fun b => .agg (g b)):=by
 intro base sp held fuel cs x hx;obtain ⟨xs,n',_,_,h1,h2,h3⟩:=DataW.trod_struct ht hx;obtain ⟨b,hb⟩:=h base sp held n' cs (by omega) fun f hf=>by
  obtain ⟨i,hi⟩:=List.mem_iff_getElem?.1 hf;have:=h3 i f (by simpa using hi);have hlt:i < xs.length:=by
   rw [h2];have:=(List.getElem?_eq_some_iff.1 hi).1
   simpa using this
  exact ⟨xs[i],by rw [this]; simp [hlt]⟩
 exact ⟨b,hb⟩
theorem zbx {t:TypeId} {α β:Type} {f:α→CV} {g:β→CV} (h:Opn enc P W t f) (j:α→β) (e:∀ a,(g (j a)).cells=(f a).cells):Opn enc P W t g:=by
 intro base sp held fuel cs x hx;obtain ⟨a,ha⟩:=h _ _ _ _ _ _ hx;exact ⟨j a,by rw [e]; exact ha⟩
theorem Y9 {t:TypeId} {α:Type} {f:α→CV} {fs:Array Field} (ht:P.underlying t=some (.struct fs)) (h:Opn enc P W t f) {g:α→List CV} (hg:∀ a,f a = .agg (g a)) {base:Nat} {v:Value} {r:Reach} {b2:Nat} (hv:Value.okWide P W r b2 t v)
  {sp:Nat→Bool} {held:Bool} {d:DataW H} {ps:List MemPlace} (hd:DataW.Trod enc P W base sp held t v d ps):∃ a,RepC W (fun _=>False) (f a) v:=by
 unfold Value.okWide at hv;rw [ht] at hv;obtain ⟨cs,rfl,_,_⟩:=hv;obtain ⟨fuel,hx⟩:=hd;obtain ⟨a,ha⟩:=h _ _ _ _ _ _ hx;refine ⟨a,?_⟩;rw [hg] at ha ⊢;have e:(Value.agg cs).cells.toList=cs.toList:=rfl;rw [e] at ha;have:RepC W (fun _=>False) (.agg (g a)) (.agg cs.toList.toArray):=by
  refine .agg ha.length (fun i y u hy hu=>?_) fun u hu=>?_
  ·obtain ⟨u',hu',hr⟩:=ha.get i y hy;rw [hu] at hu'; cases hu'; exact hr.1
  ·obtain ⟨i,hi⟩:=List.mem_iff_getElem?.1 hu;have hlt:i < (g a).length:=by
    rw [show (g a).length=cs.toList.length from ha.length]; exact (List.getElem?_eq_some_iff.1 hi).1
   obtain ⟨u',hu',hr⟩:=ha.get i _ (List.getElem?_eq_getElem hlt);rw [hi] at hu'; cases hu'; exact hr.2
 simpa using this
theorem zaM {f:FuncId} {args:List CV} {vs:Array Value} (h:Fn P W f args (.c (CB true)) []) (ha:za (RepC W fun _=>False) args vs.toList) :
  Calls P f vs W fun e W'=>e = .returned (.bool true)∧Below W.heap.size W W':=by
 have hlive:∀ b,¬ zi ⟨fun _=>none,fun _=>False⟩ [] b:=by
  rintro b (hb | ⟨id,hb,_⟩)
  ·exact hb
  ·simp [lk] at hb
 have hm:MemOk ⟨fun _=>none,fun _=>False⟩ [] W:=⟨fun id b hb=>by simp [lk] at hb,fun i j b hi=>by simp [lk] at hi,fun b hb=>hb.elim,fun id b hb=>by simp [lk] at hb⟩;refine (h ⟨fun _=>none,fun _=>False⟩ W vs (Below.refl _ _) (MW.start hm fun b hb=>(hlive b hb).elim) ?_).mono ?_
 ·have key:∀ {args:List CV} {us:List Value},za (RepC W fun _=>False) args us→za (Rep ⟨fun _=>none,fun _=>False⟩ [] W) (args.map .c) us:=by
   intro args;induction args with
   | nil=>intro us h; cases us with | nil=>trivial | cons=>exact h.elim
   | cons a l ih =>
    intro us h;cases us with
    | nil=>exact h.elim
    | cons u us =>
     refine ⟨RepC.rep (h.1.mono fun b o v _ hc=>⟨hlive b,hc⟩),ih h.2⟩
  exact key ha
 ·rintro e W' ⟨v,r,m',κ',rfl,⟨rfl,rfl⟩,h1,h2⟩;refine ⟨?_,?_⟩
  ·have:=Rep.c h2;cases this;rfl
  ·have e:=h1.ext;exact ⟨e.os,e.tape,e.output,e.size,fun k hk=>e.block k hk fun ⟨id,hid,_⟩=>by simp [lk] at hid⟩
theorem zf8 (hl:laidOutB P=true) {W':World} (hb:Below W.heap.size W W') {sp:Nat→Bool}:∀ {ts:List TypeId} {vs:List Value} {ds:List (DataW H)} {ps:List MemPlace},(∀ t∈ts,P.readableRec t=true∧t < P.types.size) →
  DataW.TrodAll enc P W 0 (fun _=>true) true ts vs ds ps→(∀ p∈ps,p.block < W.heap.size)→(∀ p∈ps,sp p.block=true)→DataW.TrodAll enc P W' 0 sp true ts vs ds ps
 | [],[],[],ps,_,h,_,_=>h
 | t::ts,v::vs,d::ds,ps,hr,h,hlt,hs=>by
  obtain ⟨p,q,h1,h2,rfl⟩:=h;obtain ⟨h3,h4⟩:=hr t (by simp);exact ⟨p,q,WideElems.Trod_stays hl h3 h4 h1 (fun x hx=>hb.same (hlt x (by simp [hx]))) (fun x hx=>hs x (by simp [hx])),
   zf8 hl hb (fun t ht=>hr t (by simp [ht])) h2 (fun x hx=>hlt x (by simp [hx])) (fun x hx=>hs x (by simp [hx])),rfl⟩
 | [],_::_,_,_,_,h,_,_=>h.elim
 | [],[],_::_,_,_,h,_,_=>h.elim
 | _::_,[],_,_,_,h,_,_=>h.elim
 | _::_,_::_,[],_,_,h,_,_=>h.elim
theorem za2 (hl:laidOutB P=true) {fn:Func} {s:ChangeSpec} {tb:TypeId} {apart fresh handsOn again:Bool} {W':World} {args:Array Value} {ds:List (DataW H)} {before:List MemPlace}
  (hr:(fn.params.toList.all fun t=>P.readableRec t&&decide (t < P.types.size))=true) (hres:fn.resultTypes=#[tb]) (htb:P.underlying tb=some .bool) (hv:s.vars=[])
  (hW:DataW.Whole enc P fn.params.toList s.vars apart W args.toList ds [] before) (hs:s.fn H (ds++[])={ results:=[.lit (.bool true)],args:=ds }) (hb:Below W.heap.size W W') :
  s.post enc P fn apart fresh handsOn again W args (.bool true) W':=by
 have hr:∀ t∈fn.params.toList,P.readableRec t=true∧t < P.types.size:=fun t ht=>by
  have:=List.all_eq_true.1 hr t ht
  simpa using this
 have hlt:∀ p∈before,p.block < W.heap.size:=fun p hp=>hW.lt p hp
 have hW0:=hW;obtain ⟨p,q,hA,hV,hpq,hfz,hnd⟩:=hW;rw [hv] at hV;obtain ⟨_,rfl⟩:=trodVars_none hV;rw [List.append_nil] at hpq;subst hpq;have hbool:∀ (b:Nat) (sp:Nat→Bool) (hd:Bool),DataW.TrodAll enc P W' b sp hd fn.resultTypes.toList ((Value.bool true).resultList fn.resultTypes.size) (s.fn H (ds++[])).results []:=by
  intro b sp hd;rw [hres,hs];exact trodAll_mk1 ⟨1,by simp [DataW.trod,Value.cells,htb]⟩
 have hargs:∀ sp:Nat→Bool,(∀ x∈before,sp x.block=true)→DataW.TrodAll enc P W' 0 sp true fn.params.toList args.toList ds before:=fun sp hsp=>zf8 hl hb hr hA hlt hsp
 have hvars:∀ sp,DataW.TrodVars enc P W' sp s.vars [] []:=fun sp=>by rw [hv]; rfl
 refine ⟨ds,[],before,[],before,[],hW0,hbool _ _ _,?_,?_,World.keptBut_mono (fun x hx=>⟨hx,.inr (.inl hx)⟩) (hb.frame (·∈before)),fun _=>⟨fun j t r ht hr'=>?_,(s.fn H (ds++[])).results++ds,[],before,⟨before,[],?_,?_,(List.append_nil _).symm,fun b off hx=>?_,hnd⟩,fun x hx _=>hx⟩⟩
 ·rw [hs]; exact hargs _ fun x hx=>by simpa using hlt x hx
 ·rw [hs]; exact hvars _
 ·rw [hres] at ht hr'
  match j,ht,hr' with
  | 0,ht,hr' =>
   have e1:tb=t:=by simpa using ht
   have e2:Value.bool true=r:=by simpa [Value.resultList] using hr'
   subst e1 e2;simp [Value.okWide,htb,Cell.okWide,Cell.ok]
  | j+1,ht,_=>simp at ht
 ·have:=trodAll_append (hargs (fun _=>true) fun _ _=>rfl) (hbool 0 (fun _=>true) true)
  simpa using this
 ·exact hvars _
 ·rw [hb.frozen (hlt _ hx)]; exact hfz b off hx
end
end Go.Proofs.YtmkmldepkponaaaGreatDoor

namespace Go.Proofs.YtmkmldepkponaaaGreatDoor
set_option linter.unusedSimpArgs false
set_option linter.unusedVariables false
open Go Go.RowKit Go.WideShapes Go.ChangeShapes Go.ChangeAt
theorem za1:laidOutB Tryz.prog=true:=by kernel_rfl
theorem ownK:ownKnob Tryz.prog.godebug=none:=by kernel_rfl
section
variable {H:Type} {enc:TypeId × Value→H} {W:World}
theorem YC:Opn enc Tryz.prog W 9 CS:=zmw (by kernel_rfl)
theorem zmj:Opn enc Tryz.prog W 4 CB:=zmu (by kernel_rfl)
theorem zmk:Opn enc Tryz.prog W 3 CI:=zmv (by kernel_rfl)
theorem zmf:Opn enc Tryz.prog W 108 zs:=by
 refine zbx (zbz 3 Tryz.underlying108 (by kernel_rfl) (yM 1 rfl (by kernel_rfl) YC (yM 1 rfl (by kernel_rfl) zmj (yM 1 rfl (by kernel_rfl) YC (zaO (by decide))))))
  (fun p=>⟨p.1,p.2.1,p.2.2.1⟩) fun _=>rfl
theorem zmh:Opn enc Tryz.prog W 110 zq:=by
 refine zbx (zbz 3 Tryz.underlying110 (by kernel_rfl) (yM 1 rfl (by kernel_rfl) YC (yM 1 rfl (by kernel_rfl) zmk (yM 1 rfl (by kernel_rfl) YC (zaO (by decide))))))
  (fun p=>⟨p.1,p.2.1,p.2.2.1⟩) fun _=>rfl
theorem zmg:Opn enc Tryz.prog W 36 zh:=zby 3 (by kernel_rfl) (by kernel_rfl) (by decide) (fun _=>rfl) zmf
theorem zeM:Opn enc Tryz.prog W 38 ze:=zby 3 (by kernel_rfl) (by kernel_rfl) (by decide) (fun _=>rfl) zmh
theorem zmi:Opn enc Tryz.prog W 37 zJ:=zby 1 (by kernel_rfl) (by kernel_rfl) (by decide) (fun _=>rfl) zeM
theorem zbr:Opn enc Tryz.prog W 40 zA:=by
 refine zbx (zbz 3 Tryz.underlying40 (by kernel_rfl) (yM 1 rfl (by kernel_rfl) zmg (yM 1 rfl (by kernel_rfl) zmi (yM 1 rfl (by kernel_rfl) zeM (zaO (by decide))))))
  (fun p=>⟨p.1,p.2.1,p.2.2.1⟩) fun _=>rfl
end
end Go.Proofs.YtmkmldepkponaaaGreatDoor

namespace Go.Proofs.YtmkmldepkponaaaGreatDoor
set_option linter.unusedSimpArgs false
set_option linter.unusedVariables false
open Go Go.RowKit Go.WideShapes Go.ChangeShapes Go.ChangeAt
def zmO:List Value:=[128,191,160,191,128,159,144,191,128,143,0,0,0,0,0,0,0,0,0,0,0,0,0,0,0,0,0,0,0,0,0,0].map fun n:Nat=>Value.int .u8 (n:Int)
def firstCells:List Value:=Go.Pinned.utf8FirstZ.map fun n:Nat=>Value.int .u8 (n:Int)
def yR (P:Program) (os:Os):World:=Sort.mapBlock (Sort.mapBlock (World.holding P os ⟨#[],#[],[]⟩) 2 fun _=>zmO.toArray) 1 fun _=>firstCells.toArray
end Go.Proofs.YtmkmldepkponaaaGreatDoor

namespace Go.Proofs.YtmkmldepkponaaaGreatDoor
set_option linter.unusedSimpArgs false
set_option linter.unusedVariables false
open Go Go.RowKit
theorem zaW {P:Program} {f:FuncId} {fn:Func} {s:ChangeSpec} {c:OpenClaim}
  (h1:(c.wf (OpenSpec.ofChange s))=true)
  (h2:(laidOutB P)=true)
  (h3:(mapsRowed P)=true)
  (h4:(fn.params.all (P.readableRec ·))=true)
  (h5:(namedTie P c.named s.vars)=true)
  (h6:((c.stops==[]))=true)
  (h7:((P.stops==[]))=true)
  (h8:((c.knobs==[]))=true)
  (h9:((P.stopKnobs==[]))=true)
  (h10:((c.inPlace==P.inPlace f))=true)
  (h11:((c.unfollowed==P.unfollowed f))=true)
  (h12:((c.recurses==P.recurses f))=true)
  (h13:((c.named==P.varsNamed f))=true)
  (h14:((c.maps==(fn.params.toList++s.plain.varTypes P).any (P.mapsRec ·)))=true)
  (h15:((c.ifaces==(fn.params.toList++s.plain.varTypes P).any (P.ifacesRec ·)))=true)
  (h16:((c.mapsOut==P.mapsAmong fn.resultTypes.toList))=true)
  (h17:((c.loops==(fn.params.toList++s.plain.varTypes P).any (P.loopsFrom ·)))=true)
  (h18:((c.wideKeys==(fn.params.toList++s.plain.varTypes P++fn.resultTypes.toList).any (P.wideKeysFrom ·)))=true)
  (h19:(s.vars.all (P.varReadable ·))=true)
  (h20:(fn.resultTypes.all (fun t=>P.readableRec t&&decide (t < P.types.size)))=true)
  (h21:((c.ifacesOut==fn.resultTypes.toList.any (P.ifacesRec ·)))=true)
  (h22:((c.loopsOut==fn.resultTypes.toList.any (P.loopsFrom ·)))=true)
  (h23:((c.plainKeys==P.plainKeys))=true)
  (h24:(c.shortTexts.isNone)=true)
  (h25:(P.stopsHeard)=true)
  (h26:(P.mayEnter)=true)
  (h27:((c.lifted==P.liftsFinal))=true)
  (h28:((P.make==some c.make))=true)
  (h29:(c.kinds==[])=true)
  (h30:((c.pinned==c.pinnedBy))=true)
  (h31:((c.veiled==(fn.params.toList++s.plain.varTypes P++fn.resultTypes.toList).any (P.veiledRec ·)))=true)
  (h32:(c.veiledFits P fn.params.toList (fn.params.toList++s.plain.varTypes P++fn.resultTypes.toList))=true)
  (h0:c.domain.isEmpty=true):joinedFacts P f fn s c=true:=by
 unfold joinedFacts;rw [h0,if_pos rfl];rw [h1,h2,h3,h4,h5,h6,h7,h8,h9,h10,h11,h12,h13,h14,h15,h16,h17,h18,h19,h20,h21,h22,h23,h24,h25,h26,h27,h28,h29,h30,h31,h32];rfl
end Go.Proofs.YtmkmldepkponaaaGreatDoor
