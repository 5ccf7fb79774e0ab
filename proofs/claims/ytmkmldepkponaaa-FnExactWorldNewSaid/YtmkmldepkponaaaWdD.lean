/- The texts Iw0, Iw1, Be7, Lw1, Cm1, Dm1, joined; no condition. -/
import Derived.Test.YtmkmldepkponaaaWdC
import Derived.OpenShut
import Derived.Carry
import Derived.ChangeSame
import Derived.ProofKit
import Derived.Test.YtmkmldepkponaaaRows

namespace Go.Proofs.Ytmkmldepkponaaa
set_option linter.unusedSimpArgs false
set_option linter.unusedVariables false
open Go Go.RowKit
def zd3:XC:=(.s (.r [.a2 2 3 76]) (.s (.r [.mv 3 0,.ex 4 (.app true 3 40 76 (.k .nil) 3),.a1 2 4 3 76]) .ret))
theorem zd4:zn Try.prog [] 46=some (zd3.ac,[(.t 2)],5):=by kernel_rfl
theorem zgm (W0:World) (t:List Ent) (ht:t.length≤1100000):Fn Try.prog W0 46 [zD t] (.c (zD t)) []:=by
 refine fX mixed zd4 fun hg=>?_
 refine dr ?_;repeat ((first|refine oB (by simp; omega) ?_|refine oB (by simp) ?_); first|refine dr ?_|exact dz)
 rfl
def zd5:XC:=(.s (.r [.a2 2 3 78]) (.s (.r [.mv 3 0,.ex 4 (.app true 3 40 78 (.k .nil) 3),.a1 2 4 3 78]) .ret))
theorem zd6:zn Try.prog [] 45=some (zd5.ac,[(.t 2)],5):=by kernel_rfl
theorem za3 (W0:World) (t:List Mark) (ht:t.length≤1100000):Fn Try.prog W0 45 [zs t] (.c (zs t)) []:=by
 refine fX mixed zd6 fun hg=>?_
 refine dr ?_;repeat ((first|refine oB (by simp; omega) ?_|refine oB (by simp) ?_); first|refine dr ?_|exact dz)
 rfl
def zd7:XC:=(.s (.r [.x1 1 0,.ex 2 (.alloc [.nil,.nil,.nil])]) (.s (.r [.a2 3 1 30]) (.s (.s (.r [.f1 6 1 1,.l1 7 1 6,.n1 8 7,.m1 9 (.i 0)]) (.blk 0 (.loop (.s (.r [.b1 10 .lss 9 8]) (.s (.ce 10 0) (.s (.blk 1 (.s (.r [.i1 11 1 7 9,.l1 12 1 11,.a1 5 12 3 78]) (.r [.mv 13 3,.mv 14 5,.c1 15 45 [14],.ex 16 (.bsl 1 30 [15]),.ex 17 (.app false 1 24 30 13 16),.a1 3 17 1 30]))) (.r [.b1 18 .add 9 (.i 1),.mv 9 18]))))))) (.s (.d [.f1 19 0 1,.l1 20 1 19,.c1 21 46 [20],.mv 22 3,.f1 23 2 1,.l1 24 1 23,.c1 25 45 [24],.ex 26 (.build [.nil,.nil,.nil] [(0,(1,21)),(1,(1,22)),(2,(1,25))]),.s1 3 2 26]) .ret))))
theorem zd8:zn Try.prog [] 20=some (zd7.ac,[(.cell 2 true 3)],27):=by kernel_rfl
theorem zgn (W0:World) (o:Over) (h:OZ 1100000 o):Fn Try.prog W0 20 [z8 o] (.c (z8 o)) []:=by
 refine fX mixed zd8 fun hg=>?_
 obtain ⟨z1,z2,z3,z4⟩:=h;refine dr ?_;refine lp (σ:=Nat) (fun k=>[(1,.ptr 16 0),(2,.ptr 32 0),(3,.own 48 k),(7,.c (zT o.layers)),(8,I o.layers.length),(9,I k)]) (fun k=>[(16,.box [.c (zD o.base),.c (zT o.layers),.c (zs o.upper)]),(32,.box [.nil,.nil,.nil]),(48,.row ((o.layers.take k).map zs) 1 30)]) (fun k=>k≤o.layers.length) (fun k=>o.layers.length - k) 0 (by simp) ?_ ?_
 ·refine dr ?_;repeat (refine oB (by simp) ?_; first|refine dr ?_|exact dz)
  trivial
 intro k hk;refine dr ?_;apply cP<;>intro h1
 ·have hk':k < o.layers.length:=by omega
  have hz:=z3 _ (List.getElem_mem hk');refine dEr ?_;repeat ((first|refine c0 (za3 W0 _ hz) rfl ?_|refine oB (by simp; omega) ?_); first|refine dEr ?_|exact dz)
  refine ⟨k+1,by omega,by omega,?_⟩;rw [List.take_succ_eq_append_getElem hk',List.map_append];refine dr ?_;trivial
 have hkl:k=o.layers.length:=by omega
 subst hkl;rw [List.take_length];refine dEr ?_;repeat ((first|refine c0 (zgm W0 _ z1) rfl ?_|refine c0 (za3 W0 _ z4) rfl ?_); first|refine dEr ?_|exact dz)
 rfl
def zeh:XC:=(.s (.r [.x1 1 0,.ex 2 (.alloc zW)]) (.s (.d [.l2 3 3 1,.c1 4 20 [3],.ex 5 (.mks 1 24 86 (.c (.row [])) (.i 3)),.ex 6 (.mks 1 8 3 (I 0) (.i 3)),.ex 7 (.build zW [(0,(3,4)),(6,(1,5)),(7,(1,6))]),.s1 14 2 7]) .ret))
theorem zei:zn Try.prog [] 7=some (zeh.ac,[(.cell 2 true 14)],8):=by kernel_rfl
theorem zgC (W0:World) (o:Over) (h:OZ 1100000 o):Fn Try.prog W0 7 [z8 o] (.c (eWld (newW o))) []:=by
 refine fX mixed zei fun hg=>?_
 refine dEr ?_;repeat ((first|refine c0 (zgn W0 o h) rfl ?_|refine nE (j:=3) rfl ?_|refine oB (by simp) ?_); first|refine dEr ?_|exact dz)
 rfl
def zfN:XC:=(.s (.r [.x1 1 0,.ex 2 (.alloc zW)]) (.s (.d [.l2 3 3 1,.c1 4 16 [3],.ex 5 (.mks 1 24 86 (.c (.row [])) (.i 3)),.ex 6 (.mks 1 8 3 (I 0) (.i 3)),.ex 7 (.build zW [(0,(3,4)),(6,(1,5)),(7,(1,6))]),.s1 14 2 7]) .ret))
theorem zfO:zn Try.prog [] 5=some (zfN.ac,[(.cell 2 true 14)],8):=by kernel_rfl
theorem zgU (W0:World) (o:Over) (h:OZ 1100000 o):Fn Try.prog W0 5 [z8 o] (.c (eWld (newW o))) []:=by
 refine fX mixed zfO fun hg=>?_
 refine dEr ?_;repeat ((first|refine c0 (zgD W0 o h) rfl ?_|refine nE (j:=3) rfl ?_|refine oB (by simp) ?_); first|refine dEr ?_|exact dz)
 rfl

def wnP (c:Nat) (o:Over):PV := .agg [.own c o.base.length,.own (32+c) o.layers.length,.own (16+c) o.upper.length,I 0,I 0,.nil,.own 27 3,.own 11 3,.nil,B false,I 0,.c (CS []),.c (CS []),.c (CS [])]
abbrev wnF (l:List Int):XB := .row (l.map CI) 1 3
abbrev wnH:XB := .row (([[],[],[]]:List (List Hold)).map j7) 1 86
theorem zcA {s:Nat→Nat} (h:∀ k,s (16 * k+9)=16 * k+9):∀ {k:Nat} {L:List (List CV)},(zt 9 k L).map (renA s)=zt 9 k L
 | _,[]=>rfl
 | k,C::L=>by
  rw [zt,List.map_cons,zcA h (k:=k+1)];show PV.own (s (16 * k+9)) _::_=_;rw [h]
theorem zbe {s:Nat→Nat} (h:∀ k,s (16 * k+9)=16 * k+9) {sz:Nat} {e:TypeId}:∀ {k:Nat} {L:List (List CV)},renX s (zI 9 sz e k L)=zI 9 sz e k L
 | _,[]=>rfl
 | k,C::L=>by
  rw [zI,renX,zbe h (k:=k+1),h];rfl
theorem zcx {s:Nat→Nat} (h:∀ k,s (16 * k+9)=16 * k+9) {o:Over}:renX s (ovM 9 o)=ovM 9 o:=by
 have h0:=h 0;have h1:=h 1;have h2:=h 2;simp only [Nat.mul_zero,Nat.zero_add,Nat.mul_one] at h0 h1 h2;unfold ovM;rw [renX,renX,renX,zbe h];simp only [qK,zcA h];simp only [h0,h1,h2,Nat.reduceAdd,Nat.reduceMul]
theorem sw9 {a b:Nat} (ha:a % 16≠9) (hb:b % 16≠9) (k:Nat):sw a b (16 * k+9)=16 * k+9:=jQ (by omega) (by omega)
def zdV:XC:=(.s (.r [.x1 1 0,.ex 2 (.alloc zW)]) (.s (.d [.l2 3 3 1,.o1 4 20 [3],.ex 5 (.newr 3 86 (.c (.row []))),.ex 6 (.newr 3 3 (I 0)),.ex 7 (.build zW [(0,(3,4)),(6,(1,5)),(7,(1,6))]),.s1 14 2 7]) .ret))
theorem zdW:zn Try.prog [20,999996] 7=some (zdV.ac,[(.cell 2 true 14)],8):=by kernel_rfl
theorem zgj (W0:World) (o:Over) (h:OZ 1100000 o):zu Try.prog W0 7 [.c (z8 o)] [] (fun _:Unit=>True)
  (fun _ => .agg [.own 9 o.base.length,.own 41 o.layers.length,.own 25 o.upper.length,I 0,I 0,.nil,.own 80 3,.own 96 3,.nil,B false,I 0,.c (CS []),.c (CS []),.c (CS [])]) (fun _=>(96,wnF [0,0,0])::(80,wnH)::ovM 9 o):=by
 refine fW' [] mixed zdW (fun hg=>?_) rfl;have q:=zgl W0 o h;obtain ⟨M9,v9⟩:=ovV 9 o (by omega);rw [← v9.e] at q ⊢;refine dr ?_;refine oF (cs:=[z8 o]) q rfl rfl rfl ⟨(),trivial⟩ fun _ _=>⟨rfl,?_,?_⟩
 ·rw [v9.e];exact YR rfl rfl rfl fun i=>by show lkX [_,_] _=none; rw [zf (by simp<;>omega),zf (by simp<;>omega)]; rfl
 have hs:∀ {m:XM} {id:Nat},id % 16≠9→lkX (apX M9 m) id=lkX m id:=fun h=>v9.skip h
 have h32:∀ {x y z:Nat × XB} {m:XM},x.1≠32→y.1≠32→lkX (x::y::apX M9 (z::m)) 32=lkX (z::m) 32:=fun h1 h2=>by rw [zf h1.symm,zf h2.symm,hs (by decide)]
 refine dEr ?_;repeat ((first|refine oB (hs (id:=80) (by decide)) ?_|refine oB ((jw (P:=[_]) rfl).trans (hs (id:=96) (by decide))) ?_|refine onI ((h32 (by decide) (by decide)).trans rfl) ?_|refine onI (zdE ((h32 (by decide) (by decide)).trans rfl)) ?_); first|refine dEr ?_|exact dz)
 refine ⟨some 3,_,_,?_,(),trivial,rfl,rfl⟩;have s9:LkO 9 o ((96,wnF [0,0,0])::(80,wnH)::M9):=(v9.self.cons (by decide)).cons (by decide);have e1:lkX M9 9=_:=v9.self.h1;have e2:lkX M9 25=_:=v9.self.h2;have e3:lkX M9 41=_:=v9.self.h3;refine zB.ls ⟨rfl,trivial⟩ ⟨(y2 (by decide)).trans rfl,(y2 (by decide)).trans rfl,v9.mmS (((v9.ap.cons (by decide)).cons (by decide)).of fun id hid=>y2 (by omega))⟩ (fun id h=>by cases h) (zl rfl (zl rfl (v9.inB s9))) ?_;simp [inPX,inAX,in1X,lkX,e1,e2,e3]
theorem zgi (W0:World) (o:Over) (h:OZ 1100000 o):zu Try.prog W0 7 [.c (z8 o)] [] (fun _:Unit=>True) (fun _=>wnP 9 o) (fun _=>(11,wnF [0,0,0])::(27,wnH)::ovM 9 o):=by
 have:=((zgj W0 o h).ren (y0 80 27)).ren (y0 96 11);simp only [renX,zcx (sw9 (a:=80) (b:=27) (by decide) (by decide)),zcx (sw9 (a:=96) (b:=11) (by decide) (by decide))] at this;exact this

def mkW (k:Int) (o:Over):Wld:=⟨mkO k o,0,0,[],[[],[],[]],mkI (mkK k o) 3,[],false,noOp⟩
def ze1:XC:=(.s (.r [.x1 2 0,.m1 4 (.i 0)]) (.s (.r [.f1 5 0 2,.l2 6 3 5,.mv 7 1,.c1 8 36 [6,7],.mv 1 8]) (.s (.s (.r [.mv 9 1,.b1 10 .lss 9 (.i 0)]) (.cnd 10 (.s (.r [.ex 4 (.mv (.k (.c (.sc (.int .i64 (.negSucc 0))))))]) .ret) .skip)) (.s (.r [.f1 11 5 2,.l1 12 1 11,.mv 13 1,.c1 14 37 [12,13],.mv 1 14]) (.s (.s (.r [.mv 15 1,.b1 16 .lss 15 (.i 0)]) (.cnd 16 (.s (.r [.ex 4 (.mv (.k (.c (.sc (.int .i64 (.negSucc 0))))))]) .ret) .skip)) (.s (.r [.f1 17 6 2,.l1 18 1 17,.mv 19 1,.c1 20 38 [18,19],.mv 1 20]) (.s (.s (.r [.mv 21 1,.b1 22 .lss 21 (.i 0)]) (.cnd 22 (.s (.r [.ex 4 (.mv (.k (.c (.sc (.int .i64 (.negSucc 0))))))]) .ret) .skip)) (.s (.r [.f1 23 7 2,.l1 24 1 23,.mv 25 1,.c1 26 39 [24,25],.mv 1 26]) (.s (.s (.r [.mv 27 1,.b1 28 .lss 27 (.i 0)]) (.cnd 28 (.s (.r [.ex 4 (.mv (.k (.c (.sc (.int .i64 (.negSucc 0))))))]) .ret) .skip)) (.s (.r [.f1 29 8 2,.l1 30 1 29,.mv 31 1,.c1 32 40 [30,31],.mv 1 32]) (.s (.s (.r [.mv 33 1,.b1 34 .lss 33 (.i 0)]) (.cnd 34 (.s (.r [.ex 4 (.mv (.k (.c (.sc (.int .i64 (.negSucc 0))))))]) .ret) .skip)) (.s (.r [.mv 35 1,.mv 4 35]) .ret))))))))))))
theorem ze2:zn Try.prog [] 12=some (ze1.ac,[(.t 4)],36):=by kernel_rfl
theorem zgB (W0:World) (k:Int) (o:Over) (hk:0≤k∧mkK k o≤100000000) (h1:o.base.length≤1048576) (h2:o.layers.length≤1048576) (h3:∀ l∈o.layers,l.length≤1048576) (h4:o.upper.length≤1048576):Fn Try.prog W0 12 [eWld (mkW k o),CI k] (.c (CI (mkK k o+3))) []:=by
 refine fX mixed ze2 fun hg=>?_
 have hg1:=@Yz k o;have q1:Fn Try.prog W0 36 [z8 (mkW k o).over,CI k] (.c (CI (mkK k o))) []:=zgA W0 k o hk h1 h2 h3 h4;have q2:=zgv W0 (mkK k o);have q3:=zgu W0 (mkK k o) (by omega);have q4:=zgy W0 (mkK k o) 3 ⟨by omega,hk.2⟩ (by omega);have q5:=zgw W0 (mkK k o+3);refine dEr ?_;repeat ((first|refine c0 q1 rfl ?_|refine klf (by omega) ?_|refine c0 q2 rfl ?_|refine c0 q3 rfl ?_|refine c0 q4 rfl ?_|refine c0 q5 rfl ?_); first|refine dEr ?_|exact dz)
 try rfl
def zff:XC:=(.s (.r [.x1 2 0,.m1 4 (.i 0)]) (.cut (.r [.f1 5 0 2,.l2 6 3 5,.mv 7 1,.o1 8 10 [6,7],.mv 1 8]) (.s (.r [.f1 9 5 2,.l1 10 1 9,.mv 11 1,.c1 12 32 [10,11],.mv 1 12]) (.s (.r [.f1 13 6 2,.l1 14 1 13,.mv 15 1,.c1 16 33 [14,15],.mv 1 16]) (.s (.r [.f1 17 7 2,.l1 18 1 17,.mv 19 1,.o1 20 34 [18,19],.mv 1 20]) (.s (.r [.f1 21 8 2,.l1 22 1 21,.mv 23 1,.c1 24 35 [22,23],.mv 1 24]) (.s (.r [.mv 25 1,.mv 4 25]) .ret)))))))
theorem zfg:zn Try.prog [10,34] 11=some (zff.ac,[(.t 4)],26):=by kernel_rfl
theorem zgP (W0:World) (k:Int) (o:Over) (hk:0≤k∧mkK k o≤100000000) (h1:o.base.length≤1048576) (h2:o.layers.length≤1048576) (h3:∀ l∈o.layers,l.length≤1048576) (h4:o.upper.length≤1048576) :
  zu Try.prog W0 11 [wnP 9 o,.c (CI k)] ((11,wnF [0,0,0])::(27,wnH)::ovM 9 o) (fun _:Unit=>True) (fun _ => .c (CI (mkK k o+3))) (fun _=>(11,wnF (mkI (mkK k o) 3))::(27,wnH)::ovM 9 (mkO k o)):=by
 have hg1:=@Yz k o;have qm:=zgO W0 k o hk h1 h2 h3 h4;have qi:zu Try.prog W0 34 [.own 11 3,.c (CI (mkK k o))] [(11,wnF [0,0,0])] (fun _:Unit=>True) (fun _ => .c (CI (mkK k o+3))) (fun _=>[(11,wnF (mkI (mkK k o) 3))]):=(zgM W0 [0,0,0] (mkK k o) ⟨by omega,hk.2⟩ (by simp)).swp 4 11;obtain ⟨M9,v9⟩:=ovV 9 o (by omega);obtain ⟨N9,u9⟩:=ovV 9 (mkO k o) (by omega);rw [← v9.e,← u9.e] at qm ⊢;refine fW' _ mixed zfg (fun hg=>?_) rfl;have hk0:∀ id,(((11,wnF [0,0,0])::(27,wnH)::M9).map (·.1)).contains id=true→∀ b,(lkX ((11,b)::(27,wnH)::N9) id).isSome=true:=fun id h b=>by
  have:=Qf h;rw [lkX,lkX] at this ⊢;cases e1:Nat.beq id 11 with
  | true=>rfl
  | false =>
   cases e2:Nat.beq id 27 with
   | true=>rfl
   | false =>
    rw [e1,e2,v9.e,Ja (o':=mkO k o) yn.symm,← u9.e] at this;exact this
 generalize hkk:((11,wnF [0,0,0])::(27,wnH)::M9).map (·.1)=kk at *;have i1:lkX M9 9=_:=v9.self.h1;refine dr ?_;repeat (refine fT (frX1 ((jw (P:=[_,_]) rfl).trans (v9.no (id:=32) (by decide)))) ?_; first|refine dr ?_|exact dz)
 refine cutz (σ:=Unit) 3 (fun _=>[(1,I (mkK k o)),(2,.ptr 32 0),(4,I 0)])
  (fun _=>(32,.box [.own 9 o.base.length,.own 41 o.layers.length,.own 25 o.upper.length,I 0,I 0,.nil,.own 27 3,.own 11 3,.nil,B false,I 0,.c (CS []),.c (CS []),.c (CS [])])::(11,wnF [0,0,0])::(27,wnH)::N9) (fun _=>True) ?_ ?_
 ·refine dr ?_;have s9:∀ {b:XB},LkO 9 o ((32,b)::(11,wnF [0,0,0])::(27,wnH)::M9):=fun {b}=>((v9.self.cons (by decide)).cons (by decide)).cons (by decide)
  have n9:∀ {b:XB},LkO 9 (mkO k o) ((32,b)::(11,wnF [0,0,0])::(27,wnH)::N9):=fun {b}=>((u9.self.cons (by decide)).cons (by decide)).cons (by decide)
  refine oW' qm (fun id b hb=>Zt (l:=M9) (v9.mmS s9) _ (qj hb)) (v9.inB v9.self) (zl v9.self.inBox rfl) ⟨(),trivial⟩ fun _ _=>⟨fun id h => .inl ?_,?_⟩
  ·rw [v9.e,Ja (o':=mkO k o) yn.symm,← u9.e]; exact h
  refine dEr ?_;refine ⟨(),trivial,?_⟩;have hmg:∀ {m:XM} {id:Nat},id % 16≠9→lkX (z5 m N9) id=lkX m id:=fun h=>by rw [jr,u9.no h]
  refine zB.ls ⟨rfl,rfl,rfl,trivial⟩ ⟨(hmg (by decide)).trans rfl,(hmg (by decide)).trans rfl,(hmg (by decide)).trans rfl,u9.mmS u9.mrg⟩ (fun id h=>?_) (zl ?_ (zl rfl (zl rfl (u9.inB n9)))) rfl
  ·have:=hk0 id h (wnF [0,0,0]);rw [lkX];cases Nat.beq id 32<;>first|rfl|exact this
  ·have e1:lkX N9 9=_:=u9.self.h1;have e2:lkX N9 25=_:=u9.self.h2;have e3:lkX N9 41=_:=u9.self.h3;simp [inBX,in1X,lkX,e1,e2,e3]
 intro _ _;refine dEr ?_;repeat ((first|refine c0 (zgS W0 (mkK k o)) rfl ?_|refine c0 (zgR W0 (mkK k o) (by omega)) rfl ?_); first|refine dEr ?_|exact dz)
 refine oW qi rfl ⟨rfl,trivial⟩ rfl rfl ⟨(),trivial⟩ fun _ _=>⟨rfl,?_⟩
 refine dEr ?_;repeat (refine c0 (zgT W0 (mkK k o+3)) rfl ?_; first|refine dEr ?_|exact dz)
 refine ⟨some 3,_,_,?_,(),trivial,rfl,rfl⟩;refine zB.ls ⟨rfl,trivial⟩ ⟨rfl,rfl,u9.mmS ?_⟩ (fun id h=>hk0 id h _) (zl rfl (zl rfl (u9.inB ((u9.self.cons (by decide)).cons (by decide))))) rfl;exact ((u9.self.cons (by decide)).cons (by decide)).cons (by decide)

abbrev boxW (w:Wld):XB := .box [.c (zD w.over.base),.c (zT w.over.layers),.c (zs w.over.upper),.c (CI w.clock),.c (CI w.count),.c (j9 w.leases),.c (j8 w.holds),.c (qS w.floors),.c (qa w.net),.c (CB w.waits),.c (CI w.op.kind),.c (CS w.op.path),.c (CS w.op.dest),.c (CS w.op.data)]
abbrev boxN (o:Over):XB := .box [.own 9 o.base.length,.own (32+9) o.layers.length,.own (16+9) o.upper.length,I 0,I 0,.nil,.own 27 3,.own 11 3,.nil,B false,I 0,.c (CS []),.c (CS []),.c (CS [])]
theorem LkO.inBoxN {o:Over} {m:XM} (h:LkO 9 o m) (h1:(lkX m 11).isSome=true) (h2:(lkX m 27).isSome=true):inBX m (boxN o)=true:=by
 have e1:lkX m 9=_:=h.h1;have e2:lkX m 25=_:=h.h2;have e3:lkX m 41=_:=h.h3;simp [inBX,in1X,h1,h2,e1,e2,e3]
def zej:XC:=(.s (.r [.x1 1 0,.m1 2 .n]) (.s (.r [.m1 3 (.i 1048576)]) (.s (.r [.l2 11 3 1,.mv 12 3,.c1 13 4 [11,12],.mv 3 13]) (.s (.s (.r [.mv 14 3,.b1 15 .lss 14 (.i 0)]) (.cnd 15 (.rt 2) .skip)) (.s (.r [.l2 16 3 1,.o1 17 6 [16],.c1 18 5 [17],.ex 4 (.alloc zW),.s1 14 4 18]) (.cut (.r [.l2 19 3 1,.o1 20 6 [19],.ex 5 (.alloc [.nil,.nil,.nil]),.s1 3 5 20]) (.cut (.r [.l2 21 3 5,.o1 22 7 [21],.ex 6 (.alloc zW),.s1 14 6 22]) (.s (.s (.r [.l2 23 14 6,.l2 24 14 4,.c1 25 8 [23,24],.u1 26 25]) (.cnd 26 (.rf 2) .skip)) (.s (.s (.d [.exl 27 (.ld true 3 5),.exl 28 (.ld true 3 1),.exl 29 (.opn 6 [28]),.c1 30 9 [27,29],.u1 31 30]) (.cnd 31 (.rf 2) .skip)) (.s (.r [.m1 7 (.i 1)]) (.cut (.r [.l2 32 3 5,.mv 33 7,.o1 34 10 [32,33],.mv 7 34]) (.s (.s (.r [.mv 35 7,.b1 36 .lss 35 (.i 0),.mv 37 36,.gf 38 (.ld true 14 6) 37,.gf 39 (.ld true 14 4) 37,.gf 40 (.call 8 [38,39]) 37,.gf 41 (.un .not 40) 37,.p1 42 37 41]) (.cnd 42 (.rf 2) .skip)) (.s (.r [.m1 8 (.i 1)]) (.cut (.r [.l2 43 14 6,.mv 44 8,.o1 45 11 [43,44],.mv 8 45]) (.s (.r [.m1 9 (.i 1)]) (.s (.r [.l2 46 14 6,.mv 47 9,.c1 48 12 [46,47],.mv 9 48]) (.s (.s (.r [.mv 49 9,.b1 50 .lss 49 (.i 0)]) (.cnd 50 (.rf 2) .skip)) (.s (.s (.r [.mv 51 9,.mv 52 8,.b1 53 .neq 51 52]) (.cnd 53 (.rf 2) .skip)) (.cut (.r [.l2 54 3 1,.o1 55 6 [54],.o1 56 7 [55],.ex 10 (.alloc zW),.s1 14 10 56]) (.s (.s (.r [.l2 57 14 10,.l2 58 14 4,.c1 59 8 [57,58],.u1 60 59]) (.cnd 60 (.rf 2) .skip)) (.s (.r [.m1 9 (.i 1)]) (.s (.r [.l2 61 14 6,.mv 62 9,.c1 63 12 [61,62],.mv 9 63]) (.s (.s (.r [.mv 64 9,.b1 65 .lss 64 (.i 0)]) (.cnd 65 (.rf 2) .skip)) (.s (.s (.r [.mv 66 9,.mv 67 8,.b1 68 .neq 66 67]) (.cnd 68 (.rf 2) .skip)) (.rt 2)))))))))))))))))))))))))
theorem zek:zn Try.prog [6,7,10,11] 3=some (zej.ac,[(.t 2)],69):=by kernel_rfl
theorem zgh (W0:World) (a:Over):Fn Try.prog W0 3 [z8 a] (.c (CB true)) []:=by
 refine fX' mixed zek fun hg=>?_
 have z1:=@zjB a 1048576 (by omega);refine dEr ?_;repeat (refine c0 (zgZ W0 a _ (by omega)) rfl ?_; first|refine dEr ?_|exact dz)
 apply cP<;>intro h1
 ·exact dz
 have fa:=zjA (by omega) (by omega) h1;have oz:OZ 1100000 a:=⟨by have:=fa.h1; omega,by have:=fa.h2; omega,fun l hl=>by have:=fa.h3 l hl; omega,by have:=fa.h4; omega⟩;have qt:=zg4 W0 a fa.h1 fa.h2 fa.h3 fa.h4;have qs:=zgU W0 a oz;have qi:=zgC W0 a oz;have qo:=zg5 W0 a fa.h1 fa.h2 fa.h3 fa.h4;have qx:=zgi W0 a oz;have qv:∀ u:Over,Fn Try.prog W0 9 [z8 u,z8 u] (.c (CB true)) []:=fun u=>by
  have:=za4 W0 u u
  rwa [show decide (u=u)=true by simp] at this
 have qw:∀ u:Wld,Fn Try.prog W0 8 [eWld u,eWld u] (.c (CB true)) []:=fun u=>by
  have:=zgs W0 u u
  rwa [show decide (u=u)=true by simp] at this
 have hmk:mkK 1 a≤100000000:=by have:=@zhW a 1048576 1 (by omega) h1; omega
 have hmk0:=@Yz 1 a;have qm:=za8 W0 1 a ⟨by omega,hmk⟩ fa.h1 fa.h2 fa.h3 fa.h4;have qn:=zgP W0 1 a ⟨by omega,hmk⟩ fa.h1 fa.h2 fa.h3 fa.h4;have qh:=zgB W0 1 a ⟨by omega,hmk⟩ fa.h1 fa.h2 fa.h3 fa.h4;obtain ⟨M7,v7⟩:=ovV 7 a (by omega);obtain ⟨M9,v9⟩:=ovV 9 a (by omega);obtain ⟨N9,u9⟩:=ovV 9 (mkO 1 a) (by omega);rw [← v7.e] at qo qm;rw [← v9.e] at qx;rw [← v9.e,← u9.e] at qn;refine dEr ?_;repeat ((first|refine oN qt rfl ?_|refine c0 qs rfl ?_); first|refine dEr ?_|exact dz)
 refine cutz (σ:=Unit) 3 (fun _=>[(1,.ptr 16 0),(2,B false),(4,.ptr 64 0),(5,.ptr 80 0)])
  (fun _=>(16,boxC a)::(64,boxW (newW a))::(80,boxO 7 a)::M7) (fun _=>True) ?_ ?_
 ·refine dr ?_;refine oF (cs:=[z8 a]) qo rfl rfl rfl ⟨(),trivial⟩ fun _ _=>⟨rfl,?_,?_⟩
  ·rw [v7.e];exact YR rfl rfl rfl fun i=>by show lkX [_,_] _=none; rw [zf (by simp<;>omega),zf (by simp<;>omega)]; rfl
  refine dEr ?_;repeat (refine fT (frX1 ((v7.skip (id:=80) (by decide)).trans rfl)) ?_; first|refine dEr ?_|exact dz)
  refine ⟨(),trivial,?_⟩;refine zB.ls ⟨rfl,rfl,rfl,rfl,trivial⟩ ⟨(zf (by decide)).trans ((v7.skip (id:=16) (by decide)).trans rfl),(zf (by decide)).trans ((v7.skip (id:=64) (by decide)).trans rfl),rfl,v7.mmS (v7.ap.cons (by decide))⟩ (fun id h=>by cases h)
   (zl rfl (zl rfl (zl (((v7.self.cons (by decide)).cons (by decide)).cons (by decide)).inBox (v7.inB (((v7.self.cons (by decide)).cons (by decide)).cons (by decide)))))) rfl
 intro _ _;refine cutz (σ:=Unit) 3 (fun _=>[(1,.ptr 16 0),(2,B false),(4,.ptr 64 0),(5,.ptr 80 0),(6,.ptr 96 0)])
  (fun _=>(16,boxC a)::(64,boxW (newW a))::(80,boxO 7 a)::(96,boxN a)::(11,wnF [0,0,0])::(27,wnH)::apX M7 M9) (fun _=>True) ?_ ?_
 ·have l7:LkO 7 a ((16,boxC a)::(64,boxW (newW a))::(80,boxO 7 a)::M7):=((v7.self.cons (by decide)).cons (by decide)).cons (by decide);refine dr ?_;refine oF (cs:=[z8 a]) qx (l7.snap rfl) (zl rfl (zl rfl (zl l7.inBox (v7.inB l7)))) (zl l7.inBox rfl) ⟨(),trivial⟩ fun _ _=>⟨rfl,?_,?_⟩
  ·have hn:∀ id,id % 16=9∨id % 16=11→lkX ((16,boxC a)::(64,boxW (newW a))::(80,boxO 7 a)::M7) id=none:=fun id h=>by
    rw [zf (by omega),zf (by omega),zf (by omega),v7.no (by omega)]
   rw [v9.e];exact ⟨⟨rfl,hn _ (.inr rfl)⟩,⟨rfl,hn _ (.inr rfl)⟩,YR (hn _ (.inl rfl)) (hn _ (.inl rfl)) (hn _ (.inl rfl)) fun i=>hn _ (by omega)⟩
  refine dEr ?_;repeat (refine fT (frX1 ((jw (P:=[_,_]) rfl).trans ((v9.skip (id:=96) (by decide)).trans ((jw (P:=[_,_,_]) rfl).trans (v7.no (by decide)))))) ?_; first|refine dEr ?_|exact dz)
  refine ⟨(),trivial,?_⟩;have t7:LkO 7 a ((16,boxC a)::(64,boxW (newW a))::(80,boxO 7 a)::(96,boxN a)::(11,wnF [0,0,0])::(27,wnH)::apX M7 M9):=(((((v7.ap.cons (by decide)).cons (by decide)).cons (by decide)).cons (by decide)).cons (by decide)).cons (by decide);have t9:LkO 9 a ((16,boxC a)::(64,boxW (newW a))::(80,boxO 7 a)::(96,boxN a)::(11,wnF [0,0,0])::(27,wnH)::apX M7 M9):=((((((v7.ap2 v9.self (by decide)).cons (by decide)).cons (by decide)).cons (by decide)).cons (by decide)).cons (by decide)).cons (by decide);exact zB.ls ⟨rfl,rfl,rfl,rfl,rfl,trivial⟩ ⟨(jw (P:=[_,_,_]) rfl).trans ((v9.skip (id:=16) (by decide)).trans rfl),(jw (P:=[_,_,_]) rfl).trans ((v9.skip (id:=64) (by decide)).trans rfl),(jw (P:=[_,_,_]) rfl).trans ((v9.skip (id:=80) (by decide)).trans rfl),rfl,rfl,rfl,
    YC (v7.mmS ((((v9.ap2 l7 (by decide)).cons (by decide)).cons (by decide)).cons (by decide))) (v9.mmS (((v9.ap.cons (by decide)).cons (by decide)).cons (by decide)))⟩ (fun id h=>by cases h)
   (zl rfl (zl rfl (zl t7.inBox (zl (t9.inBoxN rfl rfl) (zl rfl (zl rfl (zaq (v7.inB t7) (v9.inB t9)))))))) rfl
 intro _ _;have eL:∀ u:Over,(lmL u).map CV.row=u.layers.map zs:=fun u=>by unfold lmL; rw [List.map_map]; rfl
 have t7:LkO 7 a ((16,boxC a)::(64,boxW (newW a))::(80,boxO 7 a)::(96,boxN a)::(11,wnF [0,0,0])::(27,wnH)::apX M7 M9):=(((((v7.ap.cons (by decide)).cons (by decide)).cons (by decide)).cons (by decide)).cons (by decide)).cons (by decide);have t9:LkO 9 a ((16,boxC a)::(64,boxW (newW a))::(80,boxO 7 a)::(96,boxN a)::(11,wnF [0,0,0])::(27,wnH)::apX M7 M9):=((((((v7.ap2 v9.self (by decide)).cons (by decide)).cons (by decide)).cons (by decide)).cons (by decide)).cons (by decide)).cons (by decide);refine dEr ?_;rw [t9.h1];refine dr ?_;repeat (refine oB (by simp) ?_; first|refine dr ?_|exact dz)
 rw [t9.h3];refine dr ?_;repeat (refine oB (by simp [qq,lmL]) ?_; first|refine dr ?_|exact dz)
 refine yZ t9.h4 ?_;rw [eL];refine dEr ?_;rw [t9.h2];refine dEr ?_;repeat ((first|refine oB (by simp) ?_|refine c0 (qw (newW a)) rfl ?_|refine kBB ?_); first|refine dEr ?_|exact dz)
 refine oN qt rfl ?_;dsimp only [apX];refine Yo (QV fun p hp => .inr (Yw hp)) (JP ⟨rfl,rfl,rfl,rfl,rfl,rfl,YC (v7.mmS t7) (v9.mmS t9)⟩ ?_);refine dEr ?_;rw [t7.h1];refine dr ?_;repeat (refine oB (by simp) ?_; first|refine dr ?_|exact dz)
 rw [t7.h3];refine dr ?_;repeat (refine oB (by simp [qq,lmL]) ?_; first|refine dr ?_|exact dz)
 refine yZ t7.h4 ?_;rw [eL];refine dEr ?_;rw [t7.h2];refine dEr ?_;repeat ((first|refine oB (by simp) ?_|refine c0 (qv a) rfl ?_|refine kBB ?_); first|refine dEr ?_|exact dz)
 refine cutz (σ:=Unit) 3 (fun _=>[(1,.ptr 16 0),(2,B false),(4,.ptr 64 0),(6,.ptr 96 0),(7,I (mkK 1 a))])
  (fun _=>(16,boxC a)::(64,boxW (newW a))::(96,boxN a)::(11,wnF [0,0,0])::(27,wnH)::M9) (fun _=>True) ?_ ?_
 ·refine dr ?_;refine oW' qm (fun id b hb=>Zt (l:=M7) (v7.mmS t7) _ (qj hb)) (v7.inB v7.self) (zl v7.self.inBox rfl) ⟨(),trivial⟩ fun _ _=>⟨fun id h => .inl ?_,?_⟩
  ·rw [v7.e,Ja (o':=mkO 1 a) yn.symm]; exact h
  refine dEr ?_;refine ⟨(),trivial,?_⟩;have hmg:∀ {m:XM} {id:Nat},id % 16≠7→lkX (z5 m (ovM 7 (mkO 1 a))) id=lkX m id:=fun h=>by rw [jr,YS h]
  have s9:LkO 9 a ((16,boxC a)::(64,boxW (newW a))::(96,boxN a)::(11,wnF [0,0,0])::(27,wnH)::M9):=((((v9.self.cons (by decide)).cons (by decide)).cons (by decide)).cons (by decide)).cons (by decide);exact zB.ls ⟨rfl,rfl,rfl,rfl,rfl,trivial⟩ ⟨(hmg (by decide)).trans rfl,(hmg (by decide)).trans rfl,(hmg (by decide)).trans rfl,(hmg (by decide)).trans rfl,(hmg (by decide)).trans rfl,v9.mmS (t9.of fun id h=>hmg (by omega))⟩ (fun id h=>by cases h)
   (zl rfl (zl rfl (zl (s9.inBoxN rfl rfl) (zl rfl (zl rfl (v9.inB s9)))))) rfl
 intro _ _;refine dEr ?_;repeat (refine klf (by omega) ?_; first|refine dEr ?_|exact dz)
 have s9:LkO 9 a ((16,boxC a)::(64,boxW (newW a))::(96,boxN a)::(11,wnF [0,0,0])::(27,wnH)::M9):=((((v9.self.cons (by decide)).cons (by decide)).cons (by decide)).cons (by decide)).cons (by decide);rw [s9.h1];refine dr ?_;repeat (refine oB (by simp) ?_; first|refine dr ?_|exact dz)
 rw [s9.h3];refine dr ?_;repeat (refine oB (by simp [qq,lmL]) ?_; first|refine dr ?_|exact dz)
 refine yZ s9.h4 ?_;rw [eL];refine dEr ?_;rw [s9.h2];refine dEr ?_;repeat ((first|refine oB (by simp) ?_|refine c0 (qw (newW a)) rfl ?_|refine kBB ?_); first|refine dEr ?_|exact dz)
 refine cutz (σ:=Unit) 3 (fun _=>[(1,.ptr 16 0),(2,B false),(4,.ptr 64 0),(6,.ptr 96 0),(8,I (mkK 1 a+3))])
  (fun _=>(16,boxC a)::(64,boxW (newW a))::(96,boxN a)::(11,wnF (mkI (mkK 1 a) 3))::(27,wnH)::N9) (fun _=>True) ?_ ?_
 ·refine dr ?_;refine oW' qn (fun id b hb=>Zt (l:=(11,wnF [0,0,0])::(27,wnH)::M9) ⟨rfl,rfl,v9.mmS s9⟩ _ (qj hb)) (zl rfl (zl rfl (v9.inB ((v9.self.cons (by decide)).cons (by decide))))) (zl ?_ rfl) ⟨(),trivial⟩ fun _ _=>⟨fun id h => .inl ?_,?_⟩
  ·have e1:lkX M9 9=_:=v9.self.h1;have e2:lkX M9 25=_:=v9.self.h2;have e3:lkX M9 41=_:=v9.self.h3;simp [inPX,inAX,in1X,lkX,wnP,e1,e2,e3]
  ·rw [lkX,lkX] at h ⊢;cases e1:Nat.beq id 11 with
   | true=>rfl
   | false =>
    cases e2:Nat.beq id 27 with
    | true=>rfl
    | false =>
     rw [e1,e2] at h;rw [v9.e,Ja (o':=mkO 1 a) yn.symm,← u9.e];exact h
  refine dEr ?_;refine ⟨(),trivial,?_⟩;have hmg:∀ {m:XM} {id:Nat},id % 16≠9→id≠11→id≠27→lkX (z5 m ((11,wnF (mkI (mkK 1 a) 3))::(27,wnH)::N9)) id=lkX m id:=fun h a b=>by rw [jr,zf a,zf b,u9.no h]
  have n9:LkO 9 (mkO 1 a) ((16,boxC a)::(64,boxW (newW a))::(96,boxN a)::(11,wnF (mkI (mkK 1 a) 3))::(27,wnH)::N9):=((((u9.self.cons (by decide)).cons (by decide)).cons (by decide)).cons (by decide)).cons (by decide);have hN:∀ {m:XM},LkO 9 (mkO 1 a) (z5 m ((11,wnF (mkI (mkK 1 a) 3))::(27,wnH)::N9)):=fun {m}=>by
   have h:=(u9.self.cons (id:=27) (b:=wnH) (by decide)).cons (id:=11) (b:=wnF (mkI (mkK 1 a) 3)) (by decide);exact ⟨by rw [jr,h.h1],by rw [jr,h.h2],by rw [jr,h.h3],fun i hi=>by rw [jr,h.h4 i hi]⟩
  have h11:∀ {m:XM},lkX (z5 m ((11,wnF (mkI (mkK 1 a) 3))::(27,wnH)::N9)) 11=some (wnF (mkI (mkK 1 a) 3)):=fun {m}=>by rw [jr]; rfl
  have h27:∀ {m:XM},lkX (z5 m ((11,wnF (mkI (mkK 1 a) 3))::(27,wnH)::N9)) 27=some wnH:=fun {m}=>by rw [jr]; rfl
  exact zB.ls ⟨rfl,rfl,rfl,rfl,rfl,trivial⟩ ⟨(hmg (by decide) (by decide) (by decide)).trans rfl,(hmg (by decide) (by decide) (by decide)).trans rfl,(hmg (by decide) (by decide) (by decide)).trans rfl,h11,h27,u9.mmS hN⟩ (fun id h=>by cases h)
   (zl rfl (zl rfl (zl (n9.inBoxN rfl rfl) (zl rfl (zl rfl (u9.inB n9)))))) rfl
 intro _ _;have n9:LkO 9 (mkO 1 a) ((16,boxC a)::(64,boxW (newW a))::(96,boxN a)::(11,wnF (mkI (mkK 1 a) 3))::(27,wnH)::N9):=((((u9.self.cons (by decide)).cons (by decide)).cons (by decide)).cons (by decide)).cons (by decide);refine dEr ?_;dsimp only [apX];rw [n9.h1];refine dr ?_;repeat (refine oB (by simp [mkO,Qc]) ?_; first|refine dr ?_|exact dz)
 rw [n9.h3];refine dr ?_;repeat (refine oB (by simp [qq,lmL,yn]) ?_; first|refine dr ?_|exact dz)
 refine yZ n9.h4 ?_;rw [eL];refine dEr ?_;dsimp only [apX];rw [n9.h2];refine dEr ?_;repeat ((first|refine oB (by simp [mkO,Z8]) ?_|refine c0 qh rfl ?_|refine klf (by omega) ?_|refine kNN ?_); first|refine dEr ?_|exact dz)
 refine cutz (σ:=Unit) 3 (fun _=>[(1,.ptr 16 0),(2,B false),(4,.ptr 64 0),(6,.ptr 96 0),(8,I (mkK 1 a+3)),(10,.ptr 160 0)])
  (fun _=>(16,boxC a)::(64,boxW (newW a))::(160,boxW (newW a))::(96,boxN a)::(11,wnF (mkI (mkK 1 a) 3))::(27,wnH)::N9) (fun _=>True) ?_ ?_
 ·refine dEr ?_;repeat ((first|refine oN qt rfl ?_|refine oN qi rfl ?_|refine fT (frX1 ((jw (P:=[_,_,_,_,_]) rfl).trans (u9.no (id:=160) (by decide)))) ?_); first|refine dEr ?_|exact dz)
  refine ⟨(),trivial,?_⟩;have p9:LkO 9 (mkO 1 a) ((16,boxC a)::(64,boxW (newW a))::(160,boxW (newW a))::(96,boxN a)::(11,wnF (mkI (mkK 1 a) 3))::(27,wnH)::N9):=(((((u9.self.cons (by decide)).cons (by decide)).cons (by decide)).cons (by decide)).cons (by decide)).cons (by decide);exact zB.ls ⟨rfl,rfl,rfl,rfl,rfl,rfl,trivial⟩ ⟨rfl,rfl,rfl,rfl,rfl,rfl,u9.mmS (n9.cons (by decide))⟩ (fun id h=>by cases h)
   (zl rfl (zl rfl (zl rfl (zl (p9.inBoxN rfl rfl) (zl rfl (zl rfl (u9.inB p9))))))) rfl
 intro _ _;have p9:LkO 9 (mkO 1 a) ((16,boxC a)::(64,boxW (newW a))::(160,boxW (newW a))::(96,boxN a)::(11,wnF (mkI (mkK 1 a) 3))::(27,wnH)::N9):=(((((u9.self.cons (by decide)).cons (by decide)).cons (by decide)).cons (by decide)).cons (by decide)).cons (by decide);refine dEr ?_;repeat ((first|refine c0 (qw (newW a)) rfl ?_|refine kBB ?_); first|refine dEr ?_|exact dz)
 dsimp only [apX];rw [p9.h1];refine dr ?_;repeat (refine oB (by simp [mkO,Qc]) ?_; first|refine dr ?_|exact dz)
 rw [p9.h3];refine dr ?_;repeat (refine oB (by simp [qq,lmL,yn]) ?_; first|refine dr ?_|exact dz)
 refine yZ p9.h4 ?_;rw [eL];refine dEr ?_;dsimp only [apX];rw [p9.h2];refine dEr ?_;repeat ((first|refine oB (by simp [mkO,Z8]) ?_|refine c0 qh rfl ?_|refine klf (by omega) ?_|refine kNN ?_); first|refine dEr ?_|exact dz)

open Go Go.RowKit Go.WideShapes Go.ChangeShapes Go.ChangeAt
abbrev RC (W:World) (y:CV) (v:Value):Prop:=RepC W (fun _=>False) y v∧v.oneCell'=true
def Opn {H:Type} (enc:TypeId × Value→H) (P:Program) (W:World) (t:TypeId) {α:Type} (f:α→CV):Prop :=
 ∀ (base:Nat) (sp:Nat→Bool) (held:Bool) (fuel:Nat) (cs:List Value) (x:DataW H × List MemPlace),DataW.trod enc P W base sp held fuel t cs=some x→∃ a:α,za (RC W) (f a).cells cs
section
variable {H:Type} {enc:TypeId × Value→H} {P:Program} {W:World}
theorem zii {t:TypeId} (ht:P.underlying t=some .bool):Opn enc P W t CB:=by
 intro base sp held fuel cs x h;obtain ⟨b,rfl,_⟩:=DataW.trod_bool ht h;exact ⟨b,⟨.sc trivial,rfl⟩,trivial⟩
theorem zij {t:TypeId} (ht:P.underlying t=some (.int .i64)):Opn enc P W t CI:=by
 intro base sp held fuel cs x h;obtain ⟨n,rfl,_,hw⟩:=DataW.trod_int ht h;refine ⟨n,⟨.sc ?_,rfl⟩,trivial⟩
 simpa [Lit.wf,wfv] using hw
theorem zik {t:TypeId} (ht:P.underlying t=some .string):Opn enc P W t CS:=by
 intro base sp held fuel cs x h;obtain ⟨s,rfl,_,hs⟩:=DataW.trod_string ht h;exact ⟨s.data.toList,⟨.sc hs,rfl⟩,trivial⟩
theorem Jv {a:Addr} (h:a.spot=none) (n:Nat):a.add n=⟨a.block,a.off+n,none⟩:=by
 unfold Addr.add;split
 ·rename_i hn; subst hn; cases a; simp at h; subst h; rfl
 ·rfl
theorem zam {α:Type} {R:CV→Value→Prop} {f:α→CV} {sz:Nat} {g:Nat→List Value}:∀ {L:List α} {k:Nat},(∀ i (h:i < L.length),za R (f L[i]).cells (g (k+i))) →
  za R ((L.map f).flatMap CV.cells) ((List.range' k L.length).flatMap g)
 | [],k,_=>trivial
 | a::L,k,h=>by
  simp only [List.map_cons,List.flatMap_cons,List.length_cons,List.range'_succ];refine za.append (h 0 (by simp)) (zam (sz:=sz) (k:=k+1) fun i hi=>?_);have:=h (i+1) (by simp; omega);rw [show k+1+i=k+(i+1) by omega]
  simpa using this
theorem zbT {α:Type} {q:Nat→α→Prop}:∀ {n:Nat},(∀ i,i < n→∃ a,q i a)→∃ L:List α,L.length=n∧∀ i (h:i < L.length),q i L[i]
 | 0,_=>⟨[],rfl,fun i h=>by simp at h⟩
 | n+1,h=>by
  obtain ⟨L,hl,hq⟩:=zbT (n:=n) fun i hi=>h i (by omega)
  obtain ⟨a,ha⟩:=h n (by omega);refine ⟨L++[a],by simp [hl],fun i hi=>?_⟩;by_cases hin:i < L.length
  ·rw [List.getElem_append_left hin]; exact hq i hin
  ·have:i=L.length:=by simp at hi; omega
   subst this;simp only [List.getElem_concat_length];rw [hl]; exact ha
theorem YP {t e:TypeId} {α:Type} {f:α→CV} (sz:Nat) (ht:P.underlying t=some (.slice e)) (hc:P.cellsOf e=sz) (h0:0 < sz) (hf:∀ a,(f a).cells.length=sz) (he:Opn enc P W e f):Opn enc P W t (fun l:List α => .row (l.map f)):=by
 intro base sp held fuel cs x h;rcases DataW.trod_slice ht h with ⟨rfl,_⟩ | ⟨a,len,cap,elems,rest,n,_,rfl,_,_,hle,hcap,helen,hel,_⟩
 ·exact ⟨[],⟨.nil (Nat.zero_le _),rfl⟩,trivial⟩
 ·rw [hc] at hel;have key:∀ i,i < len→∃ (y:α),∃ cs',cs'.length=sz∧(∀ j,j < sz→W.cell? ((a.add (i * sz)).add j)=cs'[j]?)∧za (RC W) (f y).cells cs':=by
   intro i hi;have h1:=hel i hi;have h2:∃ z,elems[i]? = some z:=⟨elems[i]'(by omega),by simp [helen,hi]⟩;obtain ⟨z,h2⟩:=h2;rw [h2] at h1;obtain ⟨cs',h3,h4⟩:=Option.bind_eq_some_iff.1 h1;obtain ⟨y,hy⟩:=he _ _ _ _ _ _ h4;obtain ⟨_,h5,h6⟩:=World.cells?_some h3;exact ⟨y,cs',h5,h6,hy⟩
  obtain ⟨L,hl,hL⟩:=zbT key;refine ⟨L,⟨?_,rfl⟩,trivial⟩;by_cases hne:L=[]
  ·subst hne;simp only [List.length_nil] at hl;subst hl;exact .nil hcap
  ·have hpos:0 < L.length:=List.length_pos_iff.2 hne;have hsp:a.spot=none:=by
    obtain ⟨cs',h5,h6,_⟩:=hL 0 hpos;have:=h6 0 h0;simp only [Nat.zero_mul] at this;have e0:(a.add 0).add 0=a:=by simp [Addr.add]
    rw [e0] at this;have h7:∃ u,cs'[0]? = some u:=⟨cs'[0]'(by omega),by simp [h5,h0]⟩;obtain ⟨u,h7⟩:=h7;rw [h7] at this;unfold World.cell? at this;split at this
    ·split at this
     ·cases this
     ·rename_i hh; simpa using hh
    ·cases this
   let g:Nat→List Value:=fun i=>(List.range sz).map fun j=>(W.cell? ⟨a.block,a.off+(i * sz+j),none⟩).getD undef
   have hg:∀ i (h:i < L.length),za (RC W) (f L[i]).cells (g i)∧∀ j,j < sz→W.cell? ⟨a.block,a.off+(i * sz+j),none⟩=(g i)[j]? := by
    intro i hi;obtain ⟨cs',h5,h6,h7⟩:=hL i hi;have e:g i=cs':=by
     apply List.ext_getElem?;intro j;by_cases hj:j < sz
     ·have:=h6 j hj;rw [Jv hsp,Jv rfl] at this;simp only [g,List.getElem?_map,List.getElem?_range hj,Option.map_some];rw [show a.off+(i * sz+j)=a.off+i * sz+j by omega,this];have:cs'[j]? = some (cs'[j]'(by omega)):=by simp [h5,hj]
      rw [this]; rfl
     ·rw [List.getElem?_eq_none (by simp [g]; omega),List.getElem?_eq_none (by omega)]
    rw [e];refine ⟨h7,fun j hj=>?_⟩;have:=h6 j hj;rw [Jv hsp,Jv rfl] at this;rw [← this,show a.off+i * sz+j=a.off+(i * sz+j) by omega]
   have hall:=zam (R:=RC W) (f:=f) (sz:=sz) (g:=g) (L:=L) (k:=0) fun i hi=>by simpa using (hg i hi).1
   have hlen:(L.map f).length=len:=by simpa using hl
   have hcell:∀ (m:Nat),m≤L.length→∀ j v,((List.range' 0 m).flatMap g)[j]? = some v→W.cell? ⟨a.block,a.off+j,none⟩=some v:=by
    intro m;induction m with
    | zero=>intro _ j v hv; simp at hv
    | succ m ih =>
     intro hm j v hv;rw [List.range'_concat,List.flatMap_append] at hv;have hln:∀ m,((List.range' 0 m).flatMap g).length=m * sz:=by
      intro m;induction m with
      | zero=>simp
      | succ m ih=>rw [List.range'_concat,List.flatMap_append,List.length_append,ih]; simp [g,Nat.add_mul]
     by_cases hj:j < m * sz
     ·rw [List.getElem?_append_left (by rw [hln]; exact hj)] at hv;exact ih (by omega) j v hv
     ·rw [List.getElem?_append_right (by rw [hln]; omega),hln] at hv;simp only [Nat.zero_add,Nat.one_mul,List.flatMap_cons,List.flatMap_nil,List.append_nil] at hv;have hj2:j - m * sz < sz:=by
       rcases Nat.lt_or_ge (j - m * sz) sz with h' | h'
       ·exact h'
       ·rw [List.getElem?_eq_none (by simp [g]; omega)] at hv; cases hv
      have:=(hg m (by omega)).2 _ hj2;rw [hv,show m * sz+(j - m * sz)=j by omega] at this;exact this
   obtain ⟨ab,ao,asp⟩:=a;simp only at hsp;subst hsp;rw [← hlen];refine .row (sz:=sz) (vs:=(List.range' 0 L.length).flatMap g) (by simpa using hne) h0 (by rw [hlen]; exact hle) hcap (fun h=>h) ?_ hall.length ?_ ?_ fun j v hv=>?_
   ·intro y hy;obtain ⟨b,_,rfl⟩:=List.mem_map.1 hy;exact hf b
   ·intro i y v hy hv;obtain ⟨u,hu,hr⟩:=hall.get i y hy;rw [hv] at hu; cases hu; exact hr.1
   ·intro v hv;obtain ⟨i,hi⟩:=List.mem_iff_getElem?.1 hv;have hlt:i < ((L.map f).flatMap CV.cells).length:=by
     rw [hall.length]; exact (List.getElem?_eq_some_iff.1 hi).1
    obtain ⟨u,hu,hr⟩:=hall.get i _ (List.getElem?_eq_getElem hlt);rw [hi] at hu; cases hu; exact hr.2
   ·exact hcell L.length (Nat.le_refl _) j v hv
def FOpn {H:Type} (enc:TypeId × Value→H) (P:Program) (W:World) (n:Nat) (off:Nat) (fs:List Field) {β:Type} (g:β→List CV):Prop :=
 ∀ (base:Nat) (sp:Nat→Bool) (held:Bool) (fuel:Nat) (cs:List Value),cs.length=n→(∀ f∈fs,∃ x,DataW.trod enc P W base sp held fuel f.type ((cs.drop f.offset).take (P.cellsOf f.type))=some x)→∃ b,za (RC W) (g b) (cs.drop off)
theorem Q8 {n off:Nat} (h:n≤off):FOpn enc P W n off [] (fun _:Unit=>[]):=by
 intro base sp held fuel cs hl _;refine ⟨(),?_⟩;rw [List.drop_eq_nil_of_le (by omega)]; trivial
theorem qU {n off:Nat} {fd:Field} {fs:List Field} {α β:Type} {f:α→CV} {g:β→List CV} (k:Nat) (ho:fd.offset=off) (hk:P.cellsOf fd.type=k) (hf:Opn enc P W fd.type f)
  (hr:FOpn enc P W n (off+k) fs g):FOpn enc P W n off (fd::fs) (fun p:α × β=>(f p.1).cells++g p.2):=by
 intro base sp held fuel cs hl h;obtain ⟨x,hx⟩:=h fd (by simp);obtain ⟨a,ha⟩:=hf _ _ _ _ _ _ hx;obtain ⟨b,hb⟩:=hr base sp held fuel cs hl fun f hf=>h f (by simp [hf])
 refine ⟨(a,b),?_⟩;have e:cs.drop off=(cs.drop off).take k++cs.drop (off+k):=by
  rw [← List.drop_drop,List.take_append_drop]
 rw [e];rw [ho,hk] at ha;exact ha.append hb
theorem YQ {t:TypeId} {fs:Array Field} {β:Type} {g:β→List CV} (n:Nat) (ht:P.underlying t=some (.struct fs)) (hn:P.cellsOf t=n) (h:FOpn enc P W n 0 fs.toList g):Opn enc P W t (fun b => .agg (g b)):=by
 intro base sp held fuel cs x hx;obtain ⟨xs,n',_,_,h1,h2,h3⟩:=DataW.trod_struct ht hx;obtain ⟨b,hb⟩:=h base sp held n' cs (by omega) fun f hf=>by
  obtain ⟨i,hi⟩:=List.mem_iff_getElem?.1 hf;have:=h3 i f (by simpa using hi);have hlt:i < xs.length:=by
   rw [h2];have:=(List.getElem?_eq_some_iff.1 hi).1
   simpa using this
  exact ⟨xs[i],by rw [this]; simp [hlt]⟩
 exact ⟨b,hb⟩
theorem YO {t:TypeId} {α β:Type} {f:α→CV} {g:β→CV} (h:Opn enc P W t f) (j:α→β) (e:∀ a,(g (j a)).cells=(f a).cells):Opn enc P W t g:=by
 intro base sp held fuel cs x hx;obtain ⟨a,ha⟩:=h _ _ _ _ _ _ hx;exact ⟨j a,by rw [e]; exact ha⟩
theorem zdQ {t:TypeId} {α:Type} {f:α→CV} {fs:Array Field} (ht:P.underlying t=some (.struct fs)) (h:Opn enc P W t f) {g:α→List CV} (hg:∀ a,f a = .agg (g a)) {base:Nat} {v:Value} {r:Reach} {b2:Nat} (hv:Value.okWide P W r b2 t v)
  {sp:Nat→Bool} {held:Bool} {d:DataW H} {ps:List MemPlace} (hd:DataW.Trod enc P W base sp held t v d ps):∃ a,RepC W (fun _=>False) (f a) v:=by
 unfold Value.okWide at hv;rw [ht] at hv;obtain ⟨cs,rfl,_,_⟩:=hv;obtain ⟨fuel,hx⟩:=hd;obtain ⟨a,ha⟩:=h _ _ _ _ _ _ hx;refine ⟨a,?_⟩;rw [hg] at ha ⊢;have e:(Value.agg cs).cells.toList=cs.toList:=rfl;rw [e] at ha;have:RepC W (fun _=>False) (.agg (g a)) (.agg cs.toList.toArray):=by
  refine .agg ha.length (fun i y u hy hu=>?_) fun u hu=>?_
  ·obtain ⟨u',hu',hr⟩:=ha.get i y hy;rw [hu] at hu'; cases hu'; exact hr.1
  ·obtain ⟨i,hi⟩:=List.mem_iff_getElem?.1 hu;have hlt:i < (g a).length:=by
    rw [show (g a).length=cs.toList.length from ha.length]; exact (List.getElem?_eq_some_iff.1 hi).1
   obtain ⟨u',hu',hr⟩:=ha.get i _ (List.getElem?_eq_getElem hlt);rw [hi] at hu'; cases hu'; exact hr.2
 simpa using this
theorem zg8 {f:FuncId} {args:List CV} {vs:Array Value} (h:Fn P W f args (.c (CB true)) []) (ha:za (RepC W fun _=>False) args vs.toList) :
  Calls P f vs W fun e W'=>e = .returned (.bool true)∧Below W.heap.size W W':=by
 have hlive:∀ b,¬ zd ⟨fun _=>none,fun _=>False⟩ [] b:=by
  rintro b (hb | ⟨id,hb,_⟩)
  ·exact hb
  ·simp [lk] at hb
 have hm:MemOk ⟨fun _=>none,fun _=>False⟩ [] W:=⟨fun id b hb=>by simp [lk] at hb,fun i j b hi=>by simp [lk] at hi,fun b hb=>hb.elim,fun id b hb=>by simp [lk] at hb⟩;refine (h ⟨fun _=>none,fun _=>False⟩ W vs (Below.refl _ _) (MW.start hm fun b hb=>(hlive b hb).elim) ?_).mono ?_
 ·have key:∀ {args:List CV} {us:List Value},za (RepC W fun _=>False) args us→za (Rep ⟨fun _=>none,fun _=>False⟩ [] W) (args.map .c) us:=by
   intro args;induction args with
   | nil=>intro us h; cases us with | nil=>trivial | cons=>exact h.elim
   | cons a l ih =>
    intro us h;cases us with
    | nil=>exact h.elim
    | cons u us =>
     refine ⟨RepC.rep (h.1.mono fun b o v _ hc=>⟨hlive b,hc⟩),ih h.2⟩
  exact key ha
 ·rintro e W' ⟨v,r,m',κ',rfl,⟨rfl,rfl⟩,h1,h2⟩;refine ⟨?_,?_⟩
  ·have:=Rep.c h2;cases this;rfl
  ·have e:=h1.ext;exact ⟨e.os,e.tape,e.output,e.size,fun k hk=>e.block k hk fun ⟨id,hid,_⟩=>by simp [lk] at hid⟩
theorem zdz (hl:laidOutB P=true) {W':World} (hb:Below W.heap.size W W') {sp:Nat→Bool}:∀ {ts:List TypeId} {vs:List Value} {ds:List (DataW H)} {ps:List MemPlace},(∀ t∈ts,P.readableRec t=true∧t < P.types.size) →
  DataW.TrodAll enc P W 0 (fun _=>true) true ts vs ds ps→(∀ p∈ps,p.block < W.heap.size)→(∀ p∈ps,sp p.block=true)→DataW.TrodAll enc P W' 0 sp true ts vs ds ps
 | [],[],[],ps,_,h,_,_=>h
 | t::ts,v::vs,d::ds,ps,hr,h,hlt,hs=>by
  obtain ⟨p,q,h1,h2,rfl⟩:=h;obtain ⟨h3,h4⟩:=hr t (by simp);exact ⟨p,q,WideElems.Trod_stays hl h3 h4 h1 (fun x hx=>hb.same (hlt x (by simp [hx]))) (fun x hx=>hs x (by simp [hx])),
   zdz hl hb (fun t ht=>hr t (by simp [ht])) h2 (fun x hx=>hlt x (by simp [hx])) (fun x hx=>hs x (by simp [hx])),rfl⟩
 | [],_::_,_,_,_,h,_,_=>h.elim
 | [],[],_::_,_,_,h,_,_=>h.elim
 | _::_,[],_,_,_,h,_,_=>h.elim
 | _::_,_::_,[],_,_,h,_,_=>h.elim
theorem zhG (hl:laidOutB P=true) {fn:Func} {s:ChangeSpec} {tb:TypeId} {apart fresh handsOn again:Bool} {W':World} {args:Array Value} {ds:List (DataW H)} {before:List MemPlace}
  (hr:(fn.params.toList.all fun t=>P.readableRec t&&decide (t < P.types.size))=true) (hres:fn.resultTypes=#[tb]) (htb:P.underlying tb=some .bool) (hv:s.vars=[])
  (hW:DataW.Whole enc P fn.params.toList s.vars apart W args.toList ds [] before) (hs:s.fn H (ds++[])={ results:=[.lit (.bool true)],args:=ds }) (hb:Below W.heap.size W W') :
  s.post enc P fn apart fresh handsOn again W args (.bool true) W':=by
 have hr:∀ t∈fn.params.toList,P.readableRec t=true∧t < P.types.size:=fun t ht=>by
  have:=List.all_eq_true.1 hr t ht
  simpa using this
 have hlt:∀ p∈before,p.block < W.heap.size:=fun p hp=>hW.lt p hp
 have hW0:=hW;obtain ⟨p,q,hA,hV,hpq,hfz,hnd⟩:=hW;rw [hv] at hV;obtain ⟨_,rfl⟩:=trodVars_none hV;rw [List.append_nil] at hpq;subst hpq;have hbool:∀ (b:Nat) (sp:Nat→Bool) (hd:Bool),DataW.TrodAll enc P W' b sp hd fn.resultTypes.toList ((Value.bool true).resultList fn.resultTypes.size) (s.fn H (ds++[])).results []:=by
  intro b sp hd;rw [hres,hs];exact trodAll_mk1 ⟨1,by simp [DataW.trod,Value.cells,htb]⟩
 have hargs:∀ sp:Nat→Bool,(∀ x∈before,sp x.block=true)→DataW.TrodAll enc P W' 0 sp true fn.params.toList args.toList ds before:=fun sp hsp=>zdz hl hb hr hA hlt hsp
 have hvars:∀ sp,DataW.TrodVars enc P W' sp s.vars [] []:=fun sp=>by rw [hv]; rfl
 refine ⟨ds,[],before,[],before,[],hW0,hbool _ _ _,?_,?_,World.keptBut_mono (fun x hx=>⟨hx,.inr (.inl hx)⟩) (hb.frame (·∈before)),fun _=>⟨fun j t r ht hr'=>?_,(s.fn H (ds++[])).results++ds,[],before,⟨before,[],?_,?_,(List.append_nil _).symm,fun b off hx=>?_,hnd⟩,fun x hx _=>hx⟩⟩
 ·rw [hs]; exact hargs _ fun x hx=>by simpa using hlt x hx
 ·rw [hs]; exact hvars _
 ·rw [hres] at ht hr'
  match j,ht,hr' with
  | 0,ht,hr' =>
   have e1:tb=t:=by simpa using ht
   have e2:Value.bool true=r:=by simpa [Value.resultList] using hr'
   subst e1 e2;simp [Value.okWide,htb,Cell.okWide,Cell.ok]
  | j+1,ht,_=>simp at ht
 ·have:=trodAll_append (hargs (fun _=>true) fun _ _=>rfl) (hbool 0 (fun _=>true) true)
  simpa using this
 ·exact hvars _
 ·rw [hb.frozen (hlt _ hx)]; exact hfz b off hx
end

theorem laidOut:laidOutB Try.prog=true:=by kernel_rfl
theorem ownK:ownKnob Try.prog.godebug=none:=by kernel_rfl
section
variable {H:Type} {enc:TypeId × Value→H} {W:World}
theorem Qg:Opn enc Try.prog W 9 CS:=zik (by kernel_rfl)
theorem zh8:Opn enc Try.prog W 4 CB:=zii (by kernel_rfl)
theorem zh9:Opn enc Try.prog W 3 CI:=zij (by kernel_rfl)
theorem zh3:Opn enc Try.prog W 72 zA:=by
 refine YO (YQ 3 Try.underlying72 (by kernel_rfl) (qU 1 rfl (by kernel_rfl) Qg (qU 1 rfl (by kernel_rfl) zh8 (qU 1 rfl (by kernel_rfl) Qg (Q8 (by decide))))))
  (fun p=>⟨p.1,p.2.1,p.2.2.1⟩) fun _=>rfl
theorem zh5:Opn enc Try.prog W 75 zr:=by
 refine YO (YQ 3 Try.underlying75 (by kernel_rfl) (qU 1 rfl (by kernel_rfl) Qg (qU 1 rfl (by kernel_rfl) zh9 (qU 1 rfl (by kernel_rfl) Qg (Q8 (by decide))))))
  (fun p=>⟨p.1,p.2.1,p.2.2.1⟩) fun _=>rfl
theorem zh4:Opn enc Try.prog W 22 zD:=YP 3 (by kernel_rfl) (by kernel_rfl) (by decide) (fun _=>rfl) zh3
theorem zcm:Opn enc Try.prog W 24 zs:=YP 3 (by kernel_rfl) (by kernel_rfl) (by decide) (fun _=>rfl) zh5
theorem zh6:Opn enc Try.prog W 23 zT:=YP 1 (by kernel_rfl) (by kernel_rfl) (by decide) (fun _=>rfl) zcm
theorem zh7:Opn enc Try.prog W 26 z8:=by
 refine YO (YQ 3 Try.underlying26 (by kernel_rfl) (qU 1 rfl (by kernel_rfl) zh4 (qU 1 rfl (by kernel_rfl) zh6 (qU 1 rfl (by kernel_rfl) zcm (Q8 (by decide))))))
  (fun p=>⟨p.1,p.2.1,p.2.2.1⟩) fun _=>rfl
end
end Go.Proofs.Ytmkmldepkponaaa
