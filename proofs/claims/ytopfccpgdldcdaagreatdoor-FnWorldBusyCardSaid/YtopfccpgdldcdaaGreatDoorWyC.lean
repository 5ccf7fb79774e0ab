/- The texts Ka3, Am1, Zj, Pa1, Pa2, Pa3, Qa1, Qa2, Qa3, Qa4, Qa5, Qa6, Pa4, Qa7, Qa8, Qa9, Pa5, Pa6, Qb1, Pa7, Bm1, Pb1, Pb2, joined; no condition. -/
import Derived.Test.YtopfccpgdldcdaaGreatDoorWyB
import Derived.JoinedOf
import Derived.JoinedCond
import Derived.Test.YtopfccpgdldcdaaGreatDoorProg

namespace Go.Proofs.YtopfccpgdldcdaaGreatDoor
set_option linter.unusedSimpArgs false
set_option linter.unusedVariables false
open Go Go.RowKit
section
variable (s:Nat→Nat)
def ren1:PV→PV
 | .ptr id off => .ptr (s id) off
 | .own id n => .own (s id) n
 | .eo id n i off => .eo (s id) n i off
 | .fn g ids => .fn g (ids.map s)
 | x=>x
def renA:PV→PV
 | .agg cs => .agg (cs.map (ren1 s))
 | x=>ren1 s x
def renP:PV→PV
 | .tup cs => .tup (cs.map (renA s))
 | x=>renA s x
def renB:Blk→Blk
 | .box cs => .box (cs.map (ren1 s))
 | .row L sz e => .row (L.map (renA s)) sz e
def jx:Mem→Mem
 | []=>[]
 | (k,b)::l=>(s k,renB s b)::jx l
def renK (κ:Kap):Kap:=⟨fun i=>κ (s i),κ.S⟩
end
section
variable {s:Nat→Nat} (hs:∀ i,s (s i)=i)
include hs
omit hs in
theorem Qm {α:Type} {f:α→α} (h:∀ a,f (f a)=a) (l:List α):l.map (f ∘ f)=l:=by
 have:f ∘ f=id:=by funext a; exact h a
 rw [this,List.map_id]
theorem zgD (x:PV):ren1 s (ren1 s x)=x:=by
 have:s ∘ s=id:=by funext a; exact hs a
 cases x<;>simp [ren1,hs,this]
theorem zcJ (x:PV):renA s (renA s x)=x:=by
 have h1:=zgD hs;cases x with
 | agg cs=>simp only [renA,List.map_map]; congr 1; exact Qm h1 cs
 | ptr a b=>exact h1 (.ptr a b)
 | own a b=>exact h1 (.own a b)
 | eo a b c d=>exact h1 (.eo a b c d)
 | fn a b=>exact h1 (.fn a b)
 | _=>rfl
theorem zcK (x:PV):renP s (renP s x)=x:=by
 have h1:=zcJ hs;cases x with
 | tup cs=>simp only [renP,List.map_map]; congr 1; exact Qm h1 cs
 | ptr a b=>exact h1 (.ptr a b)
 | own a b=>exact h1 (.own a b)
 | eo a b c d=>exact h1 (.eo a b c d)
 | fn a b=>exact h1 (.fn a b)
 | agg cs=>exact h1 (.agg cs)
 | _=>rfl
theorem zr1 (b:Blk):renB s (renB s b)=b:=by
 cases b with
 | box cs=>simp only [renB,List.map_map]; congr 1; exact Qm (zgD hs) cs
 | row L sz e=>simp only [renB,List.map_map]; congr 1; exact Qm (zcJ hs) L
theorem Yo:∀ m:Mem,jx s (jx s m)=m
 | []=>rfl
 | (k,b)::l=>by simp only [jx,hs,zr1 hs,Yo l]
theorem zr2 (κ:Kap):renK s (renK s κ)=κ:=by cases κ; simp [renK,hs]
theorem yo {m:Mem} {i:Nat}:lk (jx s m) i=(lk m (s i)).map (renB s):=by
 induction m with
 | nil=>rfl
 | cons p m ih =>
  obtain ⟨k,b⟩:=p;simp only [jx,zp];by_cases h:i=s k
  ·subst h; simp [hs]
  ·rw [if_neg h,if_neg (fun e=>h (by rw [← e,hs])),ih]
theorem Yh {m:Mem} {i:Nat}:lk (jx s m) (s i)=(lk m i).map (renB s):=by rw [yo hs,hs]
omit hs in
theorem zdK {x:PV}:(renA s x).cells=x.cells.map (ren1 s):=by
 cases x with
 | c y=>simp only [renA,ren1,PV.cells,List.map_map]; exact List.map_congr_left fun _ _=>rfl
 | _=>rfl
omit hs in
theorem zcI {sz:Nat} {C:List CV}:(jb sz C).map (renA s)=jb sz C:=by
 refine zfh ?_ fun _=>rfl
 cases sz with
 | zero=>rfl
 | succ n =>
  show PV.agg ((List.replicate (n+1) (PV.tup [])).map (ren1 s))=_;rw [List.map_replicate]; rfl
theorem zcc {L:List PV} {sz:Nat} {C:List CV} (h:L.map (renA s)=jb sz C):L=jb sz C:=by
 have:=congrArg (List.map (renA s)) h;rw [zcI,List.map_map] at this;rw [← this];exact (Qm (zcJ hs) L).symm
theorem zcE {κ:Kap} {m:Mem} {b:Nat}:Own (renK s κ) (jx s m) b↔Own κ m b:=by
 constructor
 ·rintro ⟨i,h1,h2⟩;exact ⟨s i,by rw [yo hs] at h1; simpa using h1,h2⟩
 ·rintro ⟨i,h1,h2⟩;exact ⟨s i,by rw [Yh hs]; simpa using h1,by show κ (s (s i))=_; rw [hs]; exact h2⟩
theorem yA {κ:Kap} {m:Mem}:zi (renK s κ) (jx s m)=zi κ m:=by
 funext b;exact propext (or_congr Iff.rfl (zcE hs))
variable {κ κ' κ0:Kap} {m m' m0:Mem} {w w' w0 W0:World}
theorem zd.ren {x:PV} {v:Value} (h:zd κ m w x v):zd (renK s κ) (jx s m) w (ren1 s x) v:=by
 have hk:∀ i,(renK s κ) (s i)=κ i:=fun i=>by show κ (s (s i))=_; rw [hs]
 cases x with
 | c y =>
  have e:zd (renK s κ) (jx s m) w (.c y) v=zd κ m w (.c y) v:=by cases y<;>simp only [zd,yA hs]
  show zd (renK s κ) (jx s m) w (.c y) v;rw [e]; exact h
 | nil=>exact h
 | np=>exact h
 | ptr id off =>
  obtain ⟨b,cs,h1,h2,h3⟩:=h;exact ⟨b,cs.map (ren1 s),by rw [Yh hs,h1]; rfl,by rw [hk]; exact h2,h3⟩
 | own id n =>
  obtain ⟨h1,h2,L,sz,e,h3,h4,h5,h6⟩:=h;refine ⟨h1,h2,L.map (renA s),sz,e,by rw [Yh hs,h3]; rfl,by simpa using h4,fun hl=>?_,fun k C hne hC hl=>?_⟩
  ·have:=h5 (by simpa using hl);unfold ji at this ⊢;rw [hk]; exact this
  ·rw [yA hs];exact h6 (by rw [hk] at k; exact k) C hne (zcc hs hC) hl
 | ep y off =>
  obtain ⟨b,o,vs,h1,h2,h3⟩:=h;refine ⟨b,o,vs,h1,by rw [yA hs]; exact h2,?_⟩;rw [yA hs]; exact h3
 | eo id n i off =>
  obtain ⟨h1,L,sz,e,h3,h4,h5⟩:=h;refine ⟨h1,L.map (renA s),sz,e,by rw [Yh hs,h3]; rfl,by simpa using h4,fun hl=>?_⟩;obtain ⟨b,h6,h7⟩:=h5 (by simpa using hl);exact ⟨b,by rw [hk]; exact h6,h7⟩
 | fn g ids =>
  obtain ⟨bs,h1,h2⟩:=h;refine ⟨bs,h1,zb.map_left s (h2.imp fun id b ⟨⟨cs,h3⟩,h4⟩=>⟨⟨cs.map (ren1 s),by rw [Yh hs,h3]; rfl⟩,by rw [hk]; exact h4⟩)⟩
 | agg cs=>exact h.elim
 | tup cs=>exact h.elim
theorem YF:∀ {cs:List PV} {vs:List Value},zb (zd κ m w) cs vs→zb (zd (renK s κ) (jx s m) w) (cs.map (ren1 s)) vs
 | [],[],_=>trivial
 | _::_,_::_,h=>⟨zd.ren hs h.1,YF h.2⟩
 | [],_::_,h=>h.elim
 | _::_,[],h=>h.elim
theorem zo.ren {x:PV} {v:Value} (h:zo κ m w x v):zo (renK s κ) (jx s m) w (renA s x) v:=by
 cases x with
 | agg cs=>obtain ⟨vs,h1,h2⟩:=h; exact ⟨vs,h1,YF hs h2⟩
 | c y =>
  cases y with
  | agg cs =>
   show RepC w (zi (renK s κ) (jx s m)) (.agg cs) v;rw [yA hs]; exact h
  | sc y=>exact zd.ren hs (x := .c (.sc y)) h
  | row y=>exact zd.ren hs (x := .c (.row y)) h
  | tup y=>exact (show False from h).elim
 | ptr a b=>exact zd.ren hs (κ:=κ) (m:=m) (w:=w) (v:=v) (x := .ptr a b) h
 | own a b=>exact zd.ren hs (κ:=κ) (m:=m) (w:=w) (v:=v) (x := .own a b) h
 | eo a b c d=>exact zd.ren hs (κ:=κ) (m:=m) (w:=w) (v:=v) (x := .eo a b c d) h
 | fn a b=>exact zd.ren hs (κ:=κ) (m:=m) (w:=w) (v:=v) (x := .fn a b) h
 | ep a b=>exact zd.ren hs (κ:=κ) (m:=m) (w:=w) (v:=v) (x := .ep a b) h
 | nil=>exact h
 | np=>exact h
 | tup cs=>exact zd.ren hs (κ:=κ) (m:=m) (w:=w) (v:=v) (x := .tup cs) h
theorem zdm:∀ {cs:List PV} {vs:List Value},zb (zo κ m w) cs vs→zb (zo (renK s κ) (jx s m) w) (cs.map (renA s)) vs
 | [],[],_=>trivial
 | _::_,_::_,h=>⟨zo.ren hs h.1,zdm h.2⟩
 | [],_::_,h=>h.elim
 | _::_,[],h=>h.elim
theorem Rep.ren {x:PV} {v:Value} (h:Rep κ m w x v):Rep (renK s κ) (jx s m) w (renP s x) v:=by
 cases x with
 | tup cs=>obtain ⟨vs,h1,h2⟩:=h; exact ⟨vs,h1,zdm hs h2⟩
 | c y =>
  cases y with
  | tup cs =>
   show RepC w (zi (renK s κ) (jx s m)) (.tup cs) v;rw [yA hs]; exact h
  | sc y=>exact zo.ren hs (x := .c (.sc y)) h
  | row y=>exact zo.ren hs (x := .c (.row y)) h
  | agg y=>exact zo.ren hs (x := .c (.agg y)) h
 | ptr a b=>exact zo.ren hs (κ:=κ) (m:=m) (w:=w) (v:=v) (x := .ptr a b) h
 | own a b=>exact zo.ren hs (κ:=κ) (m:=m) (w:=w) (v:=v) (x := .own a b) h
 | eo a b c d=>exact zo.ren hs (κ:=κ) (m:=m) (w:=w) (v:=v) (x := .eo a b c d) h
 | fn a b=>exact zo.ren hs (κ:=κ) (m:=m) (w:=w) (v:=v) (x := .fn a b) h
 | ep a b=>exact zo.ren hs (κ:=κ) (m:=m) (w:=w) (v:=v) (x := .ep a b) h
 | agg cs=>exact zo.ren hs (κ:=κ) (m:=m) (w:=w) (v:=v) (x := .agg cs) h
 | nil=>exact h
 | np=>exact h
theorem zdl:∀ {cs:List PV} {vs:List Value},zb (Rep κ m w) cs vs→zb (Rep (renK s κ) (jx s m) w) (cs.map (renP s)) vs
 | [],[],_=>trivial
 | _::_,_::_,h=>⟨Rep.ren hs h.1,zdl h.2⟩
 | [],_::_,h=>h.elim
 | _::_,[],h=>h.elim
omit hs in
theorem zeX:∀ {L:List PV},(L.map (renA s)).flatMap PV.cells=(L.flatMap PV.cells).map (ren1 s)
 | []=>rfl
 | x::L=>by simp only [List.map_cons,List.flatMap_cons,List.map_append,zdK,zeX (L:=L)]
theorem qi.ren {id:Nat} {b:Blk} (h:qi κ m w id b):qi (renK s κ) (jx s m) w (s id) (renB s b):=by
 have hk:(renK s κ) (s id)=κ id:=by show κ (s (s id))=_; rw [hs]
 cases b with
 | box cs =>
  obtain ⟨b,vs,e,h1,h2,h3⟩:=h;exact ⟨b,vs,e,by rw [hk]; exact h1,h2,YF hs h3⟩
 | row L sz e =>
  obtain ⟨h1,h2,h3⟩:=h;refine ⟨fun x hx=>?_,h2,?_⟩
  ·obtain ⟨y,hy,rfl⟩:=List.mem_map.1 hx;rw [zdK,List.length_map]; exact h1 y hy
  ·rcases h3 with ⟨h4,h5⟩ | ⟨b,vs,rest,h4,h5,h6⟩
   ·exact .inl ⟨by rw [hk]; exact h4,h5.imp (fun e=>by rw [e]; rfl) fun ⟨C,e⟩=>⟨C,by rw [e,zcI]⟩⟩
   ·exact .inr ⟨b,vs,rest,by rw [hk]; exact h4,h5,by rw [zeX]; exact YF hs h6⟩
theorem MemOk.ren (h:MemOk κ m w):MemOk (renK s κ) (jx s m) w:=by
 refine ⟨fun id b hb=>?_,fun i j b hi hj h1 h2=>?_,h.sb,fun i b hi hb=>h.sd (s i) b (by rw [yo hs] at hi; simpa using hi) hb⟩
 ·rw [yo hs] at hb;obtain ⟨c,h1,rfl⟩:=Option.map_eq_some_iff.1 hb;have:=qi.ren hs (h.blk _ _ h1);rw [hs] at this; exact this
 ·rw [yo hs] at hi hj;have:=h.inj (s i) (s j) b (by simpa using hi) (by simpa using hj) h1 h2;rw [← hs i,this,hs]
theorem Pres.ren (h:Pres κ m w κ' m' w'):Pres (renK s κ) (jx s m) w (renK s κ') (jx s m') w':=by
 refine ⟨fun id cs hb=>?_,fun id L sz e hr=>?_,fun b o v hl hc=>?_⟩
 ·rw [yo hs] at hb;obtain ⟨c,h1,h2⟩:=Option.map_eq_some_iff.1 hb;cases c with
  | row=>cases h2
  | box cs0 =>
   obtain ⟨⟨cs',h3⟩,h4⟩:=h.box _ _ h1;exact ⟨⟨cs'.map (ren1 s),by rw [yo hs,h3]; rfl⟩,h4⟩
 ·rw [yo hs] at hr;obtain ⟨c,h1,h2⟩:=Option.map_eq_some_iff.1 hr;cases c with
  | box=>cases h2
  | row L0 sz0 e0 =>
   simp only [renB,Blk.row.injEq] at h2;obtain ⟨rfl,rfl,rfl⟩:=h2;obtain ⟨L',h3,h4,h5,h6⟩:=h.row _ _ _ _ h1;refine ⟨L'.map (renA s),by rw [yo hs,h3]; rfl,by simpa using h4,fun hl=>h5 (by simpa using hl),fun k C hne hC=>?_⟩;rw [yA hs];exact (h6 k C hne (zcc hs hC)).imp (fun ⟨e1,e2⟩=>⟨by rw [e1],e2⟩) fun ⟨e1,e2⟩=>⟨by simpa using e1,fun hh v hv=>e2 (by simpa using hh) v (by rw [List.length_map] at hv; exact hv)⟩
 ·rw [yA hs] at hl ⊢;exact h.cell b o v hl hc
theorem MW.ren (h:MW W0 w0 κ0 m0 κ m w):MW W0 w0 (renK s κ0) (jx s m0) (renK s κ) (jx s m) w:=by
 refine ⟨MemOk.ren hs h.mem,fun b hb=>h.low b (by rw [yA hs] at hb; exact hb),Pres.ren hs h.pres,⟨h.ext.os,h.ext.tape,h.ext.output,h.ext.size,fun b hb hl=>h.ext.block b hb fun ho=>hl ((zcE hs).2 ho)⟩,fun id b h1 h2=>?_,h.hS⟩;rw [yo hs] at h1;exact (h.new (s id) b (by simpa using h1) h2).imp (zcE hs).2 fun h=>h
theorem FunC.ren {P:Program} {f:FuncId} {args:List PV} {Φ:PV→Mem→Prop} (h:FunC P W0 f args m Φ):FunC P W0 f (args.map (renP s)) (jx s m) (fun r m'=>Φ (renP s r) (jx s m')):=by
 intro κ w vs hB hm hr;have hm':=MW.ren hs hm;rw [Yo hs] at hm';have hr':=zdl hs hr;rw [Yo hs,List.map_map,Qm (zcK hs)] at hr';refine (h _ w vs hB hm' hr').mono ?_;rintro e w' ⟨v,r,m',κ',rfl,h1,h2,h3⟩;have h2':=MW.ren hs h2;rw [zr2 hs] at h2';exact ⟨v,renP s r,jx s m',renK s κ',rfl,by show Φ (renP s (renP s r)) (jx s (jx s m')); rw [zcK hs,Yo hs]; exact h1,h2',Rep.ren hs h3⟩
end
def renXB (s:Nat→Nat):XB→XB
 | .box cs => .box (cs.map (ren1 s))
 | .row L sz e => .row L sz e
 | .rowP L e => .rowP (L.map (renA s)) e
 | .gone sz e C => .gone sz e C
def renX (s:Nat→Nat):XM→XM
 | []=>[]
 | (k,b)::l=>(s k,renXB s b)::renX s l
theorem zaV {s:Nat→Nat}:∀ {m:XM},er (renX s m)=jx s (er m)
 | []=>rfl
 | (k,b)::l=>by
  simp only [renX,er,jx,zaV (m:=l)]
  congr 2
  cases b with
  | box cs=>rfl
  | row L sz e=>simp only [renXB,XB.er,renB,List.map_map]; congr 1
  | rowP L e=>rfl
  | gone sz e C =>
   simp only [renXB,XB.er,renB];rw [zcI]
def sw (a b i:Nat):Nat:=match Nat.beq i a with
 | true=>b
 | false=>match Nat.beq i b with
  | true=>a
  | false=>i
theorem za5 (a b i:Nat):sw a b (sw a b i)=i:=by
 have hb:∀ x y:Nat,Nat.beq x y=decide (x=y):=fun x y=>by
  cases h:Nat.beq x y with
  | true=>rw [Nat.eq_of_beq_eq_true h]; simp
  | false=>have:=Nat.ne_of_beq_eq_false h; simp [this]
 unfold sw;simp only [hb];by_cases h1:i=a
 ·subst h1;simp;by_cases h2:b=i
  ·simp [h2]
  ·simp [h2]
 ·by_cases h2:i=b
  ·subst h2; simp [h1]
  ·simp [h1,h2]
def zw (P:Program) (W0:World) (f:FuncId) (vs:List PV) (mp:XM) {α:Type} (ok:α→Prop) (R:α→PV) (M:α→XM):Prop:=FunX P W0 f vs mp fun r mx=>∃ a,ok a∧r=R a∧mx=M a
theorem zw.swp {P:Program} {W0:World} {f:FuncId} {vs:List PV} {mp:XM} {α:Type} {ok:α→Prop} {R:α→PV} {M:α→XM} (h:zw P W0 f vs mp ok R M) (a b:Nat) :
  zw P W0 f (vs.map (renP (sw a b))) (renX (sw a b) mp) ok (fun x=>renP (sw a b) (R x)) (fun x=>renX (sw a b) (M x)):=by
 have:=FunC.ren (s:=sw a b) (za5 a b) h;unfold zw FunX;rw [zaV];intro κ w vs hB hm hr;refine (this κ w vs hB hm hr).mono ?_;rintro e w' ⟨v,r,m',κ',rfl,⟨mx,h1,x,h2,h3,rfl⟩,h4,h5⟩;refine ⟨v,r,m',κ',rfl,⟨renX (sw a b) (M x),?_,x,h2,?_,rfl⟩,h4,h5⟩
 ·show m'=er (renX (sw a b) (M x));rw [zaV,← h1,Yo (za5 a b)]
 ·show r=renP (sw a b) (R x);rw [← h3,zcK (za5 a b)]
def subX (m:XM):XM→Prop
 | []=>True
 | (id,b)::l=>(lkX m id=some b)∧subX m l
theorem zhl {m:XM}:∀ {l:XM},subX m l→∀ id b,lk (er l) id=some b→lk (er m) id=some b
 | [],_,id,b,h=>by cases h
 | (k,x)::l,h,id,b,hl=>by
  rw [er,zp] at hl;split at hl
  ·rename_i e; subst e; cases hl; rw [zU,h.1]; rfl
  ·exact zhl h.2 id b hl
def inMX (m:XM):Bool:=m.all fun p=>inBX m p.2
theorem zaC {m:XM} (h:inMX m=true):Jx (er m)=true:=by
 have key:∀ l:XM,(∀ p∈l,inBX m p.2=true)→(er l).all (fun p=>inB (er m) p.2)=true:=by
  intro l;induction l with
  | nil=>intro _; rfl
  | cons p l ih =>
   intro hp;simp only [er,List.all_cons,Bool.and_eq_true];exact ⟨zfm (hp p (by simp)),ih fun q hq=>hp q (by simp [hq])⟩
 exact key m (List.all_eq_true.1 h)
def newX (mp m:XM):XM→Bool
 | []=>true
 | (k,_)::l=>match lkX mp k with
  | some _=>newX mp m l
  | none=>match lkX m k with
   | none=>newX mp m l
   | some _=>false
theorem zf6 {mp m:XM}:∀ {l:XM},newX mp m l=true→∀ id,(lkX l id).isSome=true→(lkX mp id).isSome=true∨lkX m id=none
 | [],_,id,h=>by cases h
 | (k,x)::l,h,id,hl=>by
  rw [lkX] at hl;rw [newX] at h;cases hb:Nat.beq id k with
  | true =>
   have e:=Nat.eq_of_beq_eq_true hb;subst e;cases h1:lkX mp id with
   | some _=>exact .inl rfl
   | none =>
    rw [h1] at h;cases h2:lkX m id with
    | none=>exact .inr rfl
    | some _=>rw [h2] at h; cases h
  | false =>
   rw [hb] at hl;refine zf6 (l:=l) ?_ id hl;split at h
   ·exact h
   ·split at h
    ·exact h
    ·cases h
theorem oW {P:Program} {W0:World} {f:FuncId} {vs vs':List PV} {m mp:XM} {K:PV→XM→Prop} {α:Type} {ok:α→Prop} {R:α→PV} {M:α→XM} (h:zw P W0 f vs' mp ok R M) (hv:vs=vs') (hsub:subX m mp) (h1:inMX mp=true)
  (h2:vs.all (inPX mp)=true) (h0:∃ a,ok a) (k:∀ a,ok a→newX mp m (M a)=true∧K (R a) (Qq m (M a))):OpnX P W0 f vs m K:=by
 subst hv;refine ⟨mp,_,zhl hsub,zaC h1,?_,h,?_,?_⟩
 ·rw [← h2]; congr 1; funext x; exact Yb.symm
 ·obtain ⟨a,ha⟩:=h0; exact ⟨_,_,a,ha,rfl,rfl⟩
 ·rintro r mx ⟨a,ha,rfl,rfl⟩;obtain ⟨h3,h4⟩:=k a ha;exact ⟨zf6 h3,h4⟩
theorem funW {P:Program} {W0:World} {f:FuncId} {c:XC} {on:List FuncId} {ars:List AR} {n:Nat} {args:List PV} {m:XM} {α:Type} {ok:α→Prop} {R:α→PV} {M:α→XM} {F:Fr} {k0:List Nat} (hm:P.follows .mixedOrders=true)
  (hc:zc P on f=some (c.ac,ars,n)) (hn:args.length≤n) (hF:argF 0 args=F) (hk:m.map (·.1)=k0)
  (h:(∀ x∈args,yO x)→xwp P W0 k0 c (finX k0 ars fun r mx=>∃ a,ok a∧r=R a∧mx=M a) (fun _ _ _=>False) (finX k0 ars fun r mx=>∃ a,ok a∧r=R a∧mx=M a) F m):zw P W0 f args m ok R M:=funX hm hc hn hF hk h
theorem Fn.funW {P:Program} {W0:World} {f:FuncId} {args:List CV} {r:CV} (h:Fn P W0 f args (.c r) []):zw P W0 f (args.map .c) [] (fun _:Unit=>True) (fun _ => .c r) (fun _=>[]):=by
 intro κ w vs hB hm hr;refine (h κ w vs hB hm hr).mono ?_;rintro e w' ⟨v,x,m',κ',rfl,⟨rfl,rfl⟩,h3,h4⟩;exact ⟨v,_,_,κ',rfl,⟨[],rfl,(),trivial,rfl,rfl⟩,h3,h4⟩
theorem zw.imp {P:Program} {W0:World} {f:FuncId} {vs:List PV} {mp:XM} {α β:Type} {ok:α→Prop} {R:α→PV} {M:α→XM} {ok':β→Prop} {R':β→PV} {M':β→XM} (h:zw P W0 f vs mp ok R M)
  (g:α→β) (hg:∀ a,ok a→ok' (g a)∧R a=R' (g a)∧M a=M' (g a)):zw P W0 f vs mp ok' R' M':=by
 intro κ w vs hB hm hr;refine (h κ w vs hB hm hr).mono ?_;rintro e w' ⟨v,x,m',κ',rfl,⟨mx,h1,a,h2,rfl,rfl⟩,h3,h4⟩;obtain ⟨g1,g2,g3⟩:=hg a h2;exact ⟨v,_,m',κ',rfl,⟨M a,h1,g a,g1,g2,g3⟩,h3,h4⟩
theorem zs4 {a b i:Nat} (h1:i≠a) (h2:i≠b):sw a b i=i:=by
 unfold sw;cases h:Nat.beq i a with
 | true=>exact absurd (Nat.eq_of_beq_eq_true h) h1
 | false =>
  cases h':Nat.beq i b with
  | true=>exact absurd (Nat.eq_of_beq_eq_true h') h2
  | false=>rfl
theorem jp.ren {W0:World} {k0:List Nat} {F:Fr} {m:Mem} {K:Fr→Mem→Prop} (a b:Nat) (ha:k0.contains a=false) (hb:k0.contains b=false)
  (hK:K (mapL (renP (sw a b)) F) (jx (sw a b) m)):jp W0 k0 F m K:=by
 intro w0 κ0 m0 N κ act w hk0 hr;have hs:=za5 a b;have hfix:∀ id,(lk m0 id).isSome=true→sw a b id=id:=fun id h=>by
  have:=hk0 id h;refine zs4 ?_ ?_
  ·rintro rfl; rw [ha] at this; cases this
  ·rintro rfl; rw [hb] at this; cases this
 have hmw:=hr.mw;refine ⟨renK (sw a b) κ,_,_,⟨⟨MemOk.ren hs hmw.mem,fun c hc=>hmw.low c (by rw [yA hs] at hc; exact hc),⟨fun id cs h=>?_,fun id L sz e h=>?_,fun c o v hl hc=>?_⟩,hmw.ext,fun id c h1 h2=>?_,hmw.hS⟩,hr.start,hr.low0,hr.s0,hr.size,hr.defers,fun t x hx=>?_⟩,hK⟩
 ·obtain ⟨⟨cs',h1⟩,h2⟩:=hmw.pres.box id cs h;have e:=hfix id (by simp [h]);exact ⟨⟨_,by rw [yo hs,e,h1]; rfl⟩,by show κ (sw a b id)=_; rw [e]; exact h2⟩
 ·obtain ⟨L',h1,h2,h3,h4⟩:=hmw.pres.row id L sz e h;have e':=hfix id (by simp [h]);refine ⟨_,by rw [yo hs,e',h1]; rfl,by simpa using h2,fun hl=>?_,fun k C hne hC=>?_⟩
  ·have:=h3 (by simpa using hl);refine ⟨?_,this.2⟩;show κ (sw a b id)=_;rw [e']; exact this.1
  ·have e1:=zcc hs hC;rw [yA hs];exact (h4 (by rw [← e']; exact k) C hne e1).imp (fun ⟨e2,e3⟩=>⟨hC.trans (e1.symm.trans e2),e3⟩) fun h=>h
 ·rw [yA hs]; exact hmw.pres.cell c o v hl hc
 ·rw [yo hs] at h1;exact hmw.new (sw a b id) c (by simpa using h1) h2
 ·rw [yB,Option.map_eq_some_iff] at hx;obtain ⟨y,hy,rfl⟩:=hx;obtain ⟨g1,g2⟩:=hr.tmps t y hy;exact ⟨g1,Rep.ren hs g2⟩
theorem zj.ren {k0:List Nat} {z:Option Nat} {A:Fr} {m:XM} {F2:Fr} {m2:XM} (a b:Nat) (ha:k0.contains a=false) (hb:k0.contains b=false)
  (h:zn k0 z (mapL (renP (sw a b)) A) (renX (sw a b) m) F2 m2):zn k0 (some 3) A m F2 m2:=fun W0 F K hA hK=>by
 refine jp.trans (jp.ren a b ha hb (K:=fun F' m'=>jp W0 k0 F' m' K) ?_) fun _ _ h=>h
 rw [← zaV];refine ZB (A:=mapL (renP (sw a b)) A) (fun t=>?_) h hK;rw [yB,yB,hA t]
def NR1 (id:Nat) (x y:PV):Prop:=y=x∨(x = .nil∧y = .own id 0)
def NRA (id:Nat) (x y:PV):Prop:=NR1 id x y∨∃ cs ds,x = .agg cs∧y = .agg ds∧zb (NR1 id) cs ds
def NRB (id:Nat) (x y:Blk):Prop:=y=x∨∃ cs ds,x = .box cs∧y = .box ds∧zb (NR1 id) cs ds
theorem jp.nil {W0:World} {k0:List Nat} {F F2:Fr} {m m2:Mem} {K:Fr→Mem→Prop} (id sz:Nat) (e:TypeId) (hid:lk m id=none) (h0:0 < sz)
  (hF:∀ t x,lk F2 t=some x→∃ y,lk F t=some y∧NRA id y x) (hm:∀ i b,lk m2 i=some b→∃ c,lk m i=some c∧NRB id c b) (hm':∀ i,(lk m i).isSome=true→(lk m2 i).isSome=true)
  (hK:K F2 ((id,.row [] sz e)::m2)):jp W0 k0 F m K:=by
 intro w0 κ0 m0 N κ act w hk0 hr;have hmw:=hr.mw;have hW:=hr.big;obtain ⟨g1,g2⟩:=hmw.noRow hW hid e h0;have hid2:lk m2 id=none:=by
  cases hh:lk m2 id with
  | none=>rfl
  | some b=>obtain ⟨c,h1,_⟩:=hm id b hh; rw [hid] at h1; cases h1
 have hlk:∀ i,i≠id→lk ((id,Blk.row [] sz e)::m2) i=lk m2 i:=fun i hi=>by rw [zp,if_neg hi]
 have hlk':∀ i,i≠id→lk ((id,Blk.row [] sz e)::m) i=lk m i:=fun i hi=>by rw [zp,if_neg hi]
 have hso:∀ i,(lk ((id,Blk.row [] sz e)::m2) i).isSome=(lk ((id,Blk.row [] sz e)::m) i).isSome:=fun i=>by
  by_cases hi:i=id
  ·subst hi; simp [zp]
  ·rw [hlk i hi,hlk' i hi];cases h1:lk m2 i with
   | some b=>obtain ⟨c,h2,_⟩:=hm i b h1; rw [h2]; rfl
   | none =>
    cases h2:lk m i with
    | none=>rfl
    | some c=>have:=hm' i (by rw [h2]; rfl); rw [h1] at this; cases this
 have hown:∀ b,Own (zh κ id none) ((id,Blk.row [] sz e)::m2) b↔Own (zh κ id none) ((id,Blk.row [] sz e)::m) b:=fun b=>by
  unfold Own; simp only [hso]
 have hlive:zi (zh κ id none) ((id,Blk.row [] sz e)::m2)=zi (zh κ id none) ((id,Blk.row [] sz e)::m):=by
  funext b; unfold zi; rw [hown b]
 have hC:∀ {y:CV} {v:Value},RepC w (zi (zh κ id none) ((id,Blk.row [] sz e)::m)) y v→RepC w (zi (zh κ id none) ((id,Blk.row [] sz e)::m2)) y v:=fun h=>by rw [hlive]; exact h
 have key1:∀ {x y:PV} {v:Value},NR1 id x y→zd (zh κ id none) ((id,Blk.row [] sz e)::m) w x v→zd (zh κ id none) ((id,Blk.row [] sz e)::m2) w y v:=by
  intro x y v hn h;rcases hn with rfl | ⟨rfl,rfl⟩
  ·cases y with
   | c x =>
    cases x with
    | agg=>exact h.elim
    | tup=>exact h.elim
    | sc u=>exact hC (y := .sc u) h
    | row L=>exact hC (y := .row L) h
   | nil=>exact h
   | np=>exact h
   | ptr i off =>
    obtain ⟨b,cs,h1,h2,h3⟩:=h;have hi:i≠id:=by rintro rfl; simp [zp] at h1
    rw [hlk' i hi] at h1;obtain ⟨c,hc⟩:=Option.isSome_iff_exists.1 (hm' i (by rw [h1]; rfl));obtain ⟨c',h4,h5⟩:=hm i c hc;rw [h1] at h4; cases h4;rcases h5 with rfl | ⟨cs',ds,h6,rfl,_⟩
    ·exact ⟨b,cs,by rw [hlk i hi]; exact hc,h2,h3⟩
    ·exact ⟨b,ds,by rw [hlk i hi]; exact hc,h2,h3⟩
   | own i n =>
    obtain ⟨h1,h2,L,s,e',h3,h4,h5⟩:=h;refine ⟨h1,h2,L,s,e',?_,h4,h5.1,fun k C hne hC' hl=>hC (h5.2 k C hne hC' hl)⟩;by_cases hi:i=id
    ·subst hi; simp only [zp,if_true] at h3 ⊢; exact h3
    ·rw [hlk' i hi] at h3;rw [hlk i hi];obtain ⟨c,hc⟩:=Option.isSome_iff_exists.1 (hm' i (by rw [h3]; rfl));obtain ⟨c',h6,h7⟩:=hm i c hc;rw [h3] at h6; cases h6;rcases h7 with rfl | ⟨_,_,h8,_,_⟩
     ·exact hc
     ·cases h8
   | ep x off =>
    obtain ⟨b,o,vs,h1,h2,h3,hp,h4⟩:=h;exact ⟨b,o,vs,h1,by rw [hlive]; exact h2,h3,hp,fun i y u hy hu=>⟨hC (h4 i y u hy hu).1,(h4 i y u hy hu).2⟩⟩
   | eo i n j off =>
    obtain ⟨h1,L,s,e',h3,h4,h5⟩:=h;refine ⟨h1,L,s,e',?_,h4,h5⟩;by_cases hi:i=id
    ·subst hi; simp only [zp,if_true] at h3 ⊢; exact h3
    ·rw [hlk' i hi] at h3;rw [hlk i hi];obtain ⟨c,hc⟩:=Option.isSome_iff_exists.1 (hm' i (by rw [h3]; rfl));obtain ⟨c',h6,h7⟩:=hm i c hc;rw [h3] at h6; cases h6;rcases h7 with rfl | ⟨_,_,h8,_,_⟩
     ·exact hc
     ·cases h8
   | fn g ids =>
    obtain ⟨bs,h1,h2⟩:=h;refine ⟨bs,h1,h2.imp fun i b ⟨⟨cs,h3⟩,h4⟩=>⟨?_,h4⟩⟩;have hi:i≠id:=by rintro rfl; simp [zp] at h3
    rw [hlk' i hi] at h3;obtain ⟨c,hc⟩:=Option.isSome_iff_exists.1 (hm' i (by rw [h3]; rfl));obtain ⟨c',h5,h6⟩:=hm i c hc;rw [h3] at h5; cases h5;rcases h6 with rfl | ⟨cs',ds,h7,rfl,_⟩
    ·exact ⟨_,by rw [hlk i hi]; exact hc⟩
    ·exact ⟨_,by rw [hlk i hi]; exact hc⟩
   | agg=>exact h.elim
   | tup=>exact h.elim
  ·obtain ⟨o,rfl⟩:=h;refine ⟨⟨_,_,rfl,Nat.zero_le _⟩,Nat.zero_le _,[],sz,e,by simp [zp],Nat.le_refl _,fun _=>?_,.no (Nat.zero_le _)⟩;simp [ji,zh]
 have keyL:∀ {cs ds:List PV} {vs:List Value},zb (NR1 id) cs ds→zb (zd (zh κ id none) ((id,Blk.row [] sz e)::m) w) cs vs→zb (zd (zh κ id none) ((id,Blk.row [] sz e)::m2) w) ds vs:=by
  intro cs;induction cs with
  | nil=>intro ds vs h1 h2; cases ds with | nil=>(cases vs with | nil=>trivial | cons=>exact h2.elim) | cons=>exact h1.elim
  | cons c cs ih =>
   intro ds vs h1 h2;cases ds with
   | nil=>exact h1.elim
   | cons d ds=>cases vs with
    | nil=>exact h2.elim
    | cons v vs=>exact ⟨key1 h1.1 h2.1,ih h1.2 h2.2⟩
 have all_refl:∀ cs:List PV,zb (NR1 id) cs cs:=fun cs=>by
  induction cs with
  | nil=>trivial
  | cons c cs ih=>exact ⟨.inl rfl,ih⟩
 have keyA:∀ {x y:PV} {v:Value},NRA id x y→zo (zh κ id none) ((id,Blk.row [] sz e)::m) w x v→zo (zh κ id none) ((id,Blk.row [] sz e)::m2) w y v:=by
  intro x y v hn h;rcases hn with hn | ⟨cs,ds,rfl,rfl,hn⟩
  ·rcases hn with rfl | ⟨rfl,rfl⟩
   ·cases y with
    | agg cs=>obtain ⟨vs,h1,h2⟩:=h; exact ⟨vs,h1,keyL (all_refl cs) h2⟩
    | c x =>
     cases x with
     | agg cs=>exact hC (y := .agg cs) h
     | sc u=>exact key1 (x := .c (.sc u)) (.inl rfl) h
     | row u=>exact key1 (x := .c (.row u)) (.inl rfl) h
     | tup u=>exact h.elim
    | nil=>exact key1 (x := .nil) (.inl rfl) h
    | np=>exact key1 (x := .np) (.inl rfl) h
    | ptr a b=>exact key1 (x := .ptr a b) (.inl rfl) h
    | own a b=>exact key1 (x := .own a b) (.inl rfl) h
    | ep a b=>exact key1 (x := .ep a b) (.inl rfl) h
    | eo a b c d=>exact key1 (x := .eo a b c d) (.inl rfl) h
    | fn a b=>exact key1 (x := .fn a b) (.inl rfl) h
    | tup a=>exact h.elim
   ·exact key1 (x := .nil) (y := .own id 0) (.inr ⟨rfl,rfl⟩) h
  ·obtain ⟨vs,h1,h2⟩:=h;exact ⟨vs,h1,keyL hn h2⟩
 have keyAL:∀ {cs:List PV} {vs:List Value},zb (zo (zh κ id none) ((id,Blk.row [] sz e)::m) w) cs vs→zb (zo (zh κ id none) ((id,Blk.row [] sz e)::m2) w) cs vs:=fun h=>h.imp fun _ _ h=>keyA (.inl (.inl rfl)) h
 refine ⟨zh κ id none,F2,_,⟨⟨⟨fun i b hb=>?_,fun i j b hi hj=>g1.mem.inj i j b (by rw [← hso]; exact hi) (by rw [← hso]; exact hj),g1.mem.sb,fun i b hi=>g1.mem.sd i b (by rw [← hso]; exact hi)⟩,fun b hb=>g1.low b (by rw [← hlive]; exact hb),
  ⟨fun i cs hb=>?_,fun i L s e' hb=>?_,fun b o v hl hc=>by rw [hlive]; exact g1.pres.cell b o v hl hc⟩,g1.ext,fun i b hi hb=>g1.new i b (by rw [← hso]; exact hi) hb,g1.hS⟩,hr.start,hr.low0,hr.s0,hr.size,hr.defers,fun t x hx=>?_⟩,hK⟩
 ·by_cases hi:i=id
  ·subst hi;simp only [zp,if_true,Option.some.injEq] at hb;subst hb;exact ⟨by simp,h0,.inl ⟨by simp [zh],.inl rfl⟩⟩
  ·rw [hlk i hi] at hb;obtain ⟨c,h1,h2⟩:=hm i b hb;have hB:=g1.mem.blk i c (by rw [hlk' i hi]; exact h1);rcases h2 with rfl | ⟨cs,ds,rfl,rfl,h2⟩
   ·cases b with
    | box cs=>obtain ⟨g,vs,e',q1,q2,q3⟩:=hB; exact ⟨g,vs,e',q1,q2,keyL (all_refl _) q3⟩
    | row L s e' =>
     obtain ⟨q1,q2,q3⟩:=hB;exact ⟨q1,q2,q3.imp (fun h=>h) fun ⟨g,vs,rest,q4,q5,q6⟩=>⟨g,vs,rest,q4,q5,keyL (all_refl _) q6⟩⟩
   ·obtain ⟨g,vs,e',q1,q2,q3⟩:=hB;exact ⟨g,vs,e',q1,q2,keyL h2 q3⟩
 ·obtain ⟨⟨cs',h1⟩,h2⟩:=g1.pres.box i cs hb;by_cases hi:i=id
  ·subst hi; simp [zp] at h1
  ·rw [hlk' i hi] at h1;obtain ⟨c,hc⟩:=Option.isSome_iff_exists.1 (hm' i (by rw [h1]; rfl));obtain ⟨c',h3,h4⟩:=hm i c hc;rw [h1] at h3; cases h3;rcases h4 with rfl | ⟨_,ds,_,rfl,_⟩
   ·exact ⟨⟨_,by rw [hlk i hi]; exact hc⟩,h2⟩
   ·exact ⟨⟨_,by rw [hlk i hi]; exact hc⟩,h2⟩
 ·obtain ⟨L',h1,h2⟩:=g1.pres.row i L s e' hb;refine ⟨L',?_,h2.1,h2.2.1,fun k C hne hC'=>(h2.2.2 k C hne hC').imp (fun h=>h) fun ⟨e1,e2⟩=>⟨e1,fun hh v hv=>hC (e2 hh v hv)⟩⟩;by_cases hi:i=id
  ·subst hi; simp only [zp,if_true] at h1 ⊢; exact h1
  ·rw [hlk' i hi] at h1;rw [hlk i hi];obtain ⟨c,hc⟩:=Option.isSome_iff_exists.1 (hm' i (by rw [h1]; rfl));obtain ⟨c',h3,h4⟩:=hm i c hc;rw [h1] at h3; cases h3;rcases h4 with rfl | ⟨_,_,h5,_,_⟩
   ·exact hc
   ·cases h5
 ·obtain ⟨y,hy,hn⟩:=hF t x hx;obtain ⟨q1,q2⟩:=hr.tmps t y hy;have q2:=Rep.pres g2 q2;refine ⟨q1,?_⟩;rcases hn with hn | ⟨cs,ds,rfl,rfl,hn⟩
  ·rcases hn with rfl | ⟨rfl,rfl⟩
   ·cases x with
    | tup cs=>obtain ⟨vs,h1,h2⟩:=q2; exact ⟨vs,h1,keyAL h2⟩
    | c x =>
     cases x with
     | tup cs=>exact hC (y := .tup cs) q2
     | agg cs=>exact keyA (x := .c (.agg cs)) (.inl (.inl rfl)) q2
     | sc cs=>exact keyA (x := .c (.sc cs)) (.inl (.inl rfl)) q2
     | row cs=>exact keyA (x := .c (.row cs)) (.inl (.inl rfl)) q2
    | nil=>exact keyA (x := .nil) (.inl (.inl rfl)) q2
    | np=>exact keyA (x := .np) (.inl (.inl rfl)) q2
    | ptr a b=>exact keyA (x := .ptr a b) (.inl (.inl rfl)) q2
    | own a b=>exact keyA (x := .own a b) (.inl (.inl rfl)) q2
    | ep a b=>exact keyA (x := .ep a b) (.inl (.inl rfl)) q2
    | eo a b c d=>exact keyA (x := .eo a b c d) (.inl (.inl rfl)) q2
    | fn a b=>exact keyA (x := .fn a b) (.inl (.inl rfl)) q2
    | agg a=>exact keyA (x := .agg a) (.inl (.inl rfl)) q2
   ·exact keyA (x := .nil) (y := .own id 0) (.inl (.inr ⟨rfl,rfl⟩)) q2
  ·exact keyA (x := .agg cs) (y := .agg ds) (.inr ⟨cs,ds,rfl,rfl,hn⟩) q2
theorem zj.trans {k0:List Nat} {z:Option Nat} {A F1 F2:Fr} {m m1 m2:XM} (h1:zj k0 A m F1 m1) (h2:zn k0 z F1 m1 F2 m2):zn k0 (some 3) A m F2 m2:=fun W0 F K hA hK =>
 jp.trans (h1 W0 F (fun F' m'=>F'=F1∧m'=er m1) hA ⟨rfl,rfl⟩) fun F' m' ⟨e1,e2⟩=>by
  subst e1 e2;exact ZB (fun _=>rfl) h2 hK
theorem zn.trans {k0:List Nat} {z z':Option Nat} {A F1 F2:Fr} {m m1 m2:XM} (h1:zn k0 z A m F1 m1) (h2:zn k0 z' F1 m1 F2 m2):zn k0 (some 3) A m F2 m2:=fun W0 F K hA hK =>
 jp.trans (ZB (K:=fun F' m'=>F'=F1∧m'=er m1) hA h1 ⟨rfl,rfl⟩) fun F' m' ⟨e1,e2⟩=>by
  subst e1 e2;exact ZB (fun _=>rfl) h2 hK
theorem zj.nilB {k0:List Nat} {A:Fr} {m:XM} (bx:Nat) (cs cs':List PV) (id:Nat) (e:TypeId) (hb:lkX m bx=some (.box cs)) (hid:lkX m id=none) (hc:zb (NR1 id) cs cs') :
  zj k0 A m A ((id,.row [] 1 e)::updX m bx (.box cs')):=fun W0 F K hA hK=>by
 have hb':lk (er m) bx=some (.box cs):=by rw [zU,hb]; rfl
 have hup:er (updX m bx (.box cs'))=upd (er m) bx (.box cs'):=yj;refine jp.nil (F2:=A) (m2:=upd (er m) bx (.box cs')) id 1 e (by rw [zU,hid]; rfl) (by omega) (fun t x hx=>⟨x,by rw [← hA t]; exact hx,.inl (.inl rfl)⟩) (fun i b hi=>?_) (fun i hi=>by rw [Jy]; exact hi) ?_
 ·by_cases h:i=bx
  ·subst h;rw [Zi hb'] at hi;cases hi;exact ⟨_,hb',.inr ⟨cs,cs',rfl,rfl,hc⟩⟩
  ·rw [Yi h] at hi;exact ⟨b,hi,.inl rfl⟩
 ·have:er ((id,XB.row [] 1 e)::updX m bx (.box cs'))=(id,.row [] 1 e)::upd (er m) bx (.box cs'):=by simp only [er,XB.er,hup]; rfl
  rw [this] at hK; exact hK
theorem nr0 {id:Nat} {x:PV}:NR1 id x x := .inl rfl
theorem nr1 {id:Nat}:NR1 id .nil (.own id 0) := .inr ⟨rfl,rfl⟩
theorem jp.give {W0:World} {k0:List Nat} {F:Fr} {m:Mem} {K:Fr→Mem→Prop} {fs ms:List Nat} {id:Nat} {L:List PV} {sz:Nat} {e:TypeId} {C:List CV} (hl:lk m id=some (.row L sz e)) (hC:js L=some C) (hlen:L.length≤maxLen)
  (h1:∀ i,k0.contains i=true→i=id∨ms.contains i=true) (hms:ms.contains id=false) (h2:Jx (mapL (frB (some (id,L.length,C))) (jD m ms))=true)
  (h3:((mapL (frP (some (id,L.length,C))) (jD F fs)).all fun p=>inP (mapL (frB (some (id,L.length,C))) (jD m ms)) p.2)=true)
  (hK:K (mapL (frP (some (id,L.length,C))) (jD F fs)) ((id,.row (jL sz) sz e)::mapL (frB (some (id,L.length,C))) (jD m ms))):jp W0 k0 F m K:=by
 intro w0 κ0 m0 N κ act w hk0 hr;have hmw:=hr.mw;generalize hz:(some (id,L.length,C):Frz)=z at *;generalize hm1:mapL (frB z) (jD m ms)=m1 at *;have hsub:∀ i b',lk m1 i=some b'→∃ b,lk m i=some b∧b'=frB z b:=by
  intro i b' hb;rw [← hm1,yB,Option.map_eq_some_iff] at hb;obtain ⟨b,hb,rfl⟩:=hb;exact ⟨b,(yS hb).1,rfl⟩
 have hid1:lk m1 id=none:=by
  cases hh:lk m1 id with
  | none=>rfl
  | some b =>
   rw [← hm1,yB,Option.map_eq_some_iff] at hh;obtain ⟨b',hb',_⟩:=hh;have:=(yS hb').2;rw [show ms.contains id=true by simpa using this] at hms;cases hms
 have hkeep:∀ i,i≠id→k0.contains i=true→lk m1 i=(lk m i).map (frB z):=by
  intro i hi hc;rw [← hm1,yB,zaG];rcases h1 i hc with h | h
  ·exact absurd h hi
  ·simpa using h
 have hnl:∀ b,κ id=some b→¬ zi κ m1 b:=fun b hb hl'=>by
  rcases hl' with hl' | ⟨j,g6,g7⟩
  ·exact hmw.mem.sd id b (by simp [hl]) hb hl'
  ·obtain ⟨x,hx⟩:=Option.isSome_iff_exists.1 g6;obtain ⟨y,hy,_⟩:=hsub j x hx;have:=hmw.mem.inj id j b (by simp [hl]) (by simp [hy]) hb g7;subst this;rw [hid1] at hx; cases hx
 have hfr:FrOk κ m m1 w z:=⟨hsub,fun i n C' hzz=>by
  rw [← hz] at hzz; cases hzz;exact ⟨⟨L,sz,e,hl,rfl,hC⟩,hnl⟩⟩
 have hmem1:MemOk κ m1 w:=hmw.mem.fr hfr h2;have hp:Pres κ m1 w (zh κ id none) ((id,.row (jL sz) sz e)::m1) w:=Qu hmem1 hid1 (fun b hb=>by cases hb) (Below.refl _ w);have hne:∀ i,i≠id→zh κ id none i=κ i:=fun i hi=>by simp [zh,hi]
 have hown:∀ b,Own (zh κ id none) ((id,.row (jL sz) sz e)::m1) b→Own κ m1 b:=fun b hb=>by
  rcases (zgq hid1).1 hb with h | h
  ·exact h
  ·cases h
 have hlive:∀ b,zi (zh κ id none) ((id,.row (jL sz) sz e)::m1) b→zi κ m1 b:=fun b hb=>hb.imp (fun h=>h) (hown b)
 have hlk:∀ i,i≠id→lk ((id,Blk.row (jL sz) sz e)::m1) i=lk m1 i:=fun i hi=>by rw [zp,if_neg hi]
 have hdl:=YX sz;have hsz0:0 < sz:=(hmw.mem.blk id _ hl).2.1;refine ⟨zh κ id none,_,_,⟨⟨⟨fun i b hb=>?_,fun i j b hi hj g1 g2=>?_,hmem1.sb,fun i b hi hb=>?_⟩,fun b hb=>hmw.low b (hfr.live (hlive b hb)),⟨fun i cs hb=>?_,fun i L' sz' e' hb=>?_,fun b o v hl' hc=>?_⟩,hmw.ext,fun i b hi hb=>?_,hmw.hS⟩,hr.start,hr.low0,hr.s0,hr.size,hr.defers,fun t x hx=>?_⟩,hK⟩
 ·by_cases hi:i=id
  ·subst hi;rw [zp,if_pos rfl] at hb; cases hb;refine ⟨fun x hx=>?_,hsz0,.inl ⟨by simp [zh],.inr ⟨[],rfl⟩⟩⟩;rw [QR hx];cases sz with
   | zero=>omega
   | succ n=>simp [yl,PV.cells]
  ·rw [hlk i hi] at hb;have:=hmem1.blk i b hb;cases b with
   | box cs=>obtain ⟨g,vs,e',q1,q2,q3⟩:=this; exact ⟨g,vs,e',by rw [hne i hi]; exact q1,q2,q3.imp fun _ _=>zd.pres hp⟩
   | row L' s e' =>
    obtain ⟨q1,q2,q3⟩:=this;exact ⟨q1,q2,q3.imp (fun h=>by rw [hne i hi]; exact h) fun ⟨g,vs,rest,q4,q5,q6⟩=>⟨g,vs,rest,by rw [hne i hi]; exact q4,q5,q6.imp fun _ _=>zd.pres hp⟩⟩
 ·have hi':i≠id:=by rintro rfl; simp [zh] at g1
  have hj':j≠id:=by rintro rfl; simp [zh] at g2
  rw [hlk i hi'] at hi;rw [hlk j hj'] at hj;rw [hne i hi'] at g1;rw [hne j hj'] at g2;exact hmem1.inj i j b hi hj g1 g2
 ·have hi':i≠id:=by rintro rfl; simp [zh] at hb
  rw [hlk i hi'] at hi;rw [hne i hi'] at hb;exact hmem1.sd i b hi hb
 ·obtain ⟨⟨cs',g1⟩,g2⟩:=hmw.pres.box i cs hb;have hi:i≠id:=by rintro rfl; rw [hl] at g1; cases g1
  exact ⟨⟨_,by rw [hlk i hi,hkeep i hi (hk0 i (by simp [hb])),g1]; rfl⟩,by rw [hne i hi]; exact g2⟩
 ·obtain ⟨L2,g1,g2,g3,g6⟩:=hmw.pres.row i L' sz' e' hb;by_cases hi:i=id
  ·subst hi;rw [hl] at g1; cases g1;exact ⟨_,by rw [zp,if_pos rfl],by omega,fun hh=>by omega,fun _ C hq hC=>absurd (zau (hC.symm.trans (zca _).symm)) hq⟩
  ·refine ⟨_,by rw [hlk i hi,hkeep i hi (hk0 i (by simp [hb])),g1]; rfl,by simpa using g2,fun hh=>by rw [hne i hi]; exact g3 (by simpa using hh),fun k C hq hC=>?_⟩;rw [hne i hi] at k;have e1:=zcb hmw.mem g1 k hC;exact (g6 k C hq e1).imp (fun ⟨e2,e3⟩=>⟨hC.trans (e1.symm.trans e2),e3⟩) fun ⟨e2,e3⟩=>⟨e2,fun hh v hv=>RepC.pres hp (hfr.c (e3 hh v hv))⟩
 ·obtain ⟨g1,g2⟩:=hmw.pres.cell b o v hl' hc;exact ⟨fun hh=>g1 (hfr.live (hlive b hh)),g2⟩
 ·have hi':i≠id:=by rintro rfl; simp [zh] at hb
  rw [hlk i hi'] at hi;rw [hne i hi'] at hb;obtain ⟨x,hx⟩:=Option.isSome_iff_exists.1 hi;obtain ⟨y,hy,_⟩:=hsub i x hx;exact hmw.new i b (by simp [hy]) hb
 ·have hx':=hx;rw [yB,Option.map_eq_some_iff] at hx;obtain ⟨y,hy,rfl⟩:=hx;obtain ⟨g1,g2⟩:=hr.tmps t y (yS hy).1;refine ⟨g1,Rep.pres hp (Rep.fr hmw.mem hfr ?_ g2)⟩;have hall:=List.all_eq_true.1 h3;have hmem:∀ (G:List (Nat × PV)) (t:Nat) (x:PV),lk G t=some x→(t,x)∈G:=by
   intro G t x;induction G with
   | nil=>simp [lk]
   | cons p G ih =>
    obtain ⟨k,u⟩:=p;rw [zp];split
    ·rename_i h; subst h; intro hh; cases hh; simp
    ·intro hh; exact List.mem_cons_of_mem _ (ih hh)
  exact hall _ (hmem _ _ _ hx')
def GiveX (k0:List Nat) (id:Nat) (A:Fr) (m:XM) (F2:Fr) (m3:XM):Prop:=onv (lkX m id) fun b=>match b with
 | .row L _ _=>Ob (L.length≤9223372036854775807) (match lkX m3 id,k0.all (fun i=>Nat.beq i id||(lkX m3 i).isSome),m3.all (fun p=>inBX m3 p.2),F2.all (fun p=>inPX m3 p.2) with
  | none,true,true,true=>zn.eqF A (some (id,L)) F2 (zn.eqM m (some (id,L)) m3 True)
  | _,_,_,_=>False)
 | _=>False
theorem zj.give {k0:List Nat} {A F2:Fr} {m m3:XM} {L:List CV} {sz:Nat} {e:TypeId} (id:Nat) (hl:lkX m id=some (.row L sz e)) (h:GiveX k0 id A m F2 m3):zj k0 A m F2 ((id,.dead sz e)::m3):=fun W0 F K hA hK=>by
 unfold GiveX at h;obtain ⟨b,hb,h⟩:=zD h;rw [hl] at hb; cases hb;obtain ⟨hlen,h⟩:=h;split at h
 ·rename_i hn hk hm3 hF2;obtain ⟨f1,h⟩:=QY h;obtain ⟨f2,_⟩:=QZ h;have eF:=Yd hA f1;have eM:=Ye f2;have hz:qK (some (id,L))=some (id,(L.map PV.c).length,L):=by simp [qK]
  rw [hz] at eF eM;refine jp.give (fs:=F2.map (·.1)) (ms:=m3.map (·.1)) (id:=id) (L:=L.map .c) (sz:=sz) (e:=e) (C:=L) (by rw [zU,hl]; rfl) (Jo L) (by simpa [maxLen] using hlen) (fun i hi=>?_) ?_ ?_ ?_ ?_
  ·have:=(List.all_eq_true.1 hk) i (by simpa using hi);simp only [Bool.or_eq_true] at this;rcases this with h | h
   ·exact .inl (Nat.eq_of_beq_eq_true h)
   ·right;rw [← Js] at h;have key:∀ (l:XM) (i:Nat),(lk (er l) i).isSome=true→(l.map (·.1)).contains i=true:=by
     intro l i;induction l with
     | nil=>intro h; cases h
     | cons p l ih =>
      obtain ⟨k,x⟩:=p;rw [er,zp];split
      ·rename_i h; subst h; intro _; simp
      ·intro h; have:=ih h; simp only [List.map_cons,List.contains_cons,this,Bool.or_true]
    exact key m3 i h
  ·cases hh:(m3.map (·.1)).contains id with
   | false=>rfl
   | true =>
    have key:∀ (l:XM) (i:Nat),(l.map (·.1)).contains i=true→lkX l i≠none:=by
     intro l i;induction l with
     | nil=>intro h; cases h
     | cons p l ih =>
      obtain ⟨k,x⟩:=p;intro h;rw [lkX];cases hb:Nat.beq i k with
      | true=>simp
      | false =>
       simp only;refine ih ?_;simp only [List.map_cons,List.contains_cons,Bool.or_eq_true,beq_iff_eq] at h;rcases h with h | h
       ·subst h; simp at hb
       ·exact h
    exact absurd hn (key m3 id hh)
  ·rw [eM]; exact zaC (by unfold inMX; exact hm3)
  ·rw [eF,eM];refine List.all_eq_true.2 fun p hp=>?_
   have:=(List.all_eq_true.1 hF2) p hp;rw [Yb] at this;exact this
  ·rw [eF,eM];exact hK
 ·exact h.elim
theorem zj.er {k0:List Nat} {A F2:Fr} {m m2 m3:XM} (h:zj k0 A m F2 m2) (e:Go.Proofs.YtopfccpgdldcdaaGreatDoor.er m2=Go.Proofs.YtopfccpgdldcdaaGreatDoor.er m3):zj k0 A m F2 m3:=fun W0 F K hA hK=>h W0 F K hA (by rw [e]; exact hK)
theorem zn.s {k0:List Nat} {z:Option Nat} {A F2:Fr} {m m2:XM} (h:zn k0 z A m F2 m2):zn k0 (some 3) A m F2 m2:=fun W0 F K hA hK=>ZB hA h hK
theorem zf9 {m:XM} {i:Nat} (h:lkX m i=none):(m.map (·.1)).contains i=false:=by
 cases hh:(m.map (·.1)).contains i with
 | false=>rfl
 | true =>
  have key:∀ (l:XM) (i:Nat),(l.map (·.1)).contains i=true→lkX l i≠none:=by
   intro l i;induction l with
   | nil=>intro h; cases h
   | cons p l ih =>
    obtain ⟨k,x⟩:=p;intro h;rw [lkX];cases hb:Nat.beq i k with
    | true=>simp
    | false =>
     simp only;refine ih ?_;simp only [List.map_cons,List.contains_cons,Bool.or_eq_true,beq_iff_eq] at h;rcases h with h | h
     ·subst h; simp at hb
     ·exact h
  exact absurd h (key m i hh)
theorem zcg:∀ {m:XM} {i:Nat},(lkX m i).isSome=true→(m.map (·.1)).contains i=true
 | [],i,h=>by cases h
 | (k,x)::l,i,h=>by
  rw [lkX] at h;cases hb:Nat.beq i k with
  | true=>have:=Nat.eq_of_beq_eq_true hb; subst this; simp
  | false=>rw [hb] at h; have:=zcg (m:=l) h; simp only [List.map_cons,List.contains_cons,this,Bool.or_true]
def YD (k0:List Nat) (rid id:Nat) (L:List CV) (A:Fr) (m:XM) (F2:Fr) (m3:XM):Prop:=match lkX m3 id,lkX m3 rid with
 | none,none=>match Nat.beq rid id,k0.contains id,k0.all (fun i=>Nat.beq i rid||(lkX m3 i).isSome),m3.all (fun p=>inBX ((rid,.box [])::m3) p.2),F2.all (fun p=>inPX ((rid,.box [])::m3) p.2) with
  | false,false,true,true,true=>zn.eqF A (some (id,L)) F2 (zn.eqM m (some (id,L)) m3 True)
  | _,_,_,_,_=>False
 | _,_=>False
theorem zfp {m m':XM} (h:∀ i,(lkX m i).isSome=(lkX m' i).isSome):(∀ v,inPX m v=inPX m' v)∧∀ b,inBX m b=inBX m' b:=by
 have h1:∀ v,in1X m v=in1X m' v:=fun v=>by cases v<;>simp [in1X,h]
 have h1':in1X m=in1X m':=funext h1;have h2:∀ v,inAX m v=inAX m' v:=fun v=>by
  cases v with
  | agg cs=>simp only [inAX,h1']
  | _=>simp only [inAX,h1']
 have h2':inAX m=inAX m':=funext h2;refine ⟨fun v=>?_,fun b=>?_⟩
 ·cases v with
  | tup cs=>simp only [inPX,h2']
  | _=>simp only [inPX,h2']
 ·cases b with
  | box cs=>simp only [inBX,h1']
  | rowP L e=>simp only [inBX,h1']
  | _=>rfl
theorem zj.push {k0:List Nat} {A F2:Fr} {m m3:XM} {C L:List CV} {n sz:Nat} {e e':TypeId} (rid id:Nat) (hr:lkX m rid=some (.rowP (C.map .c++[.own id n]) e)) (hl:lkX m id=some (.row L sz e')) (hn:L.length=n) (h:YD k0 rid id L A m F2 m3) :
  zj k0 A m F2 ((rid,.row (C++[.row L]) 1 e)::m3):=fun W0 F K hA hK=>by
 unfold YD at h;split at h
 case h_2=>exact h.elim
 rename_i hn1 hn2;split at h
 case h_2=>exact h.elim
 rename_i hne hk hk0 hm3 hF2;obtain ⟨f1,h⟩:=QY h;obtain ⟨f2,_⟩:=QZ h;have eF:=Yd hA f1;have eM:=Ye f2;have hz:qK (some (id,L))=some (id,(L.map PV.c).length,L):=by simp [qK]
 rw [hz] at eF eM;have hrid:rid≠id:=Nat.ne_of_beq_eq_false hne;have eR:mapL (frB (some (id,(L.map PV.c).length,L))) (jD (Go.Proofs.YtopfccpgdldcdaaGreatDoor.er m) (rid::m3.map (·.1)))=Go.Proofs.YtopfccpgdldcdaaGreatDoor.er ((rid,.row (C++[.row L]) 1 e)::m3):=by
  have e1:lk (Go.Proofs.YtopfccpgdldcdaaGreatDoor.er m) rid=some (.row (C.map .c++[.own id n]) 1 e):=by rw [zU,hr]; rfl
  simp only [jD,e1,mapL,List.map_cons] at eM ⊢;rw [eM];simp only [Go.Proofs.YtopfccpgdldcdaaGreatDoor.er,XB.er,frB,List.map_append,List.map_map,List.map_cons,List.map_nil];have e2:frA (some (id,(L.map PV.c).length,L)) (.own id n) = .c (.row L):=by simp [frA,fr1,hn]
  have e3:(frA (some (id,(L.map PV.c).length,L))) ∘ PV.c=PV.c:=rfl;rw [e2,e3]
 have dom:∀ i,(lkX ((rid,XB.box [])::m3) i).isSome=(lkX ((rid,XB.row (C++[.row L]) 1 e)::m3) i).isSome:=fun i=>by
  simp only [lkX]; split<;>rfl
 obtain ⟨d1,d2⟩:=zfp dom;refine jp.of (l:=[⟨some id,F2.map (·.1),rid::m3.map (·.1)⟩]) ?_;show Tr.on k0 _ F (Go.Proofs.YtopfccpgdldcdaaGreatDoor.er m) K;unfold Tr.on;simp only [];refine ⟨hk,?_,?_⟩
 ·rw [List.contains_cons,zf9 hn1];simp [Ne.symm hrid]
 ·simp only [zU,hl,Option.map_some,XB.er];refine zA (Jo L) ?_;unfold Tr.go;rw [eR,eF];refine ⟨?_,?_,?_,hK⟩
  ·rw [List.all_eq_true] at hk0 ⊢;intro i hi;have:=hk0 i hi;rw [Bool.or_eq_true] at this;rw [List.contains_cons];rcases this with h | h
   ·rw [Nat.eq_of_beq_eq_true h]; simp
   ·rw [zcg h,Bool.or_true]
  ·refine zaC ?_;unfold inMX;rw [List.all_cons];rw [Bool.and_eq_true];refine ⟨rfl,?_⟩;rw [← hm3]
   congr 1
   funext p;exact (d2 p.2).symm
  ·rw [List.all_eq_true] at hF2 ⊢;intro p hp;rw [← Yb,← d1]; exact hF2 p hp
theorem MemOk.gone {κ:Kap} {m:Mem} {w:World} (hm:MemOk κ m w) {id sz:Nat} {C:List CV} {e:TypeId} (hl:lk m id=some (.row (jb sz C) sz e)):κ id=none:=by
 obtain ⟨_,h0,h⟩:=hm.blk id _ hl;rcases h with ⟨h,_⟩ | ⟨b,vs,rest,_,_,h⟩
 ·exact h
 ·exfalso;have hd:yl sz∈jb sz C:=by
   unfold jb jL;exact List.mem_append_right _ (List.mem_replicate.2 ⟨by omega,rfl⟩)
  have hc:PV.tup []∈(jb sz C).flatMap PV.cells:=by
   refine List.mem_flatMap.2 ⟨_,hd,?_⟩;cases sz with
   | zero=>omega
   | succ n=>exact List.mem_replicate.2 ⟨by omega,rfl⟩
  obtain ⟨i,hi⟩:=List.mem_iff_getElem?.1 hc;obtain ⟨v,_,hv⟩:=h.get i _ hi;exact hv
theorem zd.ung {κ:Kap} {m:Mem} {w:World} (hm:MemOk κ m w) {id n sz:Nat} {C:List CV} {e:TypeId} {v:Value} (hl:lk m id=some (.row (jb sz C) sz e)) (hn:C.length=n) (h:zd κ m w (.own id n) v):RepC w (zi κ m) (.row C) v:=by
 obtain ⟨⟨a,c,rfl,hc⟩,_,L,s,e',h1,_,_,hg⟩:=h;rw [hl] at h1; cases h1;by_cases hne:C=[]
 ·subst hne hn; exact .nil hc
 ·exact hg (hm.gone hl) C hne rfl hn.symm
theorem zj.ung {k0:List Nat} {A:Fr} {m:XM} {Lp Lp':List PV} {C:List CV} {n sz:Nat} {e e':TypeId} (rid id:Nat) (hr:lkX m rid=some (.rowP Lp e)) (hg:lkX m id=some (.gone sz e' C)) (hn:C.length=n)
  (hL:zb (fun x y=>y=x∨(x = .own id n∧y = .c (.row C))) Lp Lp'):zj k0 A m A (updX m rid (.rowP Lp' e)):=fun W0 F K hA hK=>by
 intro w0 κ0 m0 N κ act w hk0 hrl;have hmw:=hrl.mw;have hW:=hrl.big;have hr':lk (Go.Proofs.YtopfccpgdldcdaaGreatDoor.er m) rid=some (.row Lp 1 e):=by rw [zU,hr]; rfl
 have hg':lk (Go.Proofs.YtopfccpgdldcdaaGreatDoor.er m) id=some (.row (jb sz C) sz e'):=by rw [zU,hg]; rfl
 have hcells:∀ {x y:PV},(y=x∨(x = .own id n∧y = .c (.row C)))→y.cells.length=x.cells.length:=by
  rintro x y (rfl | ⟨rfl,rfl⟩)<;>rfl
 have hlen:∀ {a b:List PV},zb (fun x y=>y=x∨(x = .own id n∧y = .c (.row C))) a b→a.length=b.length:=fun h=>h.length
 have hne:rid≠id:=by
  rintro rfl;rw [hr] at hg; cases hg
 have hall:∀ {a b:List PV} {vs:List Value},zb (fun x y=>y=x∨(x = .own id n∧y = .c (.row C))) a b→zb (zd κ (Go.Proofs.YtopfccpgdldcdaaGreatDoor.er m) w) (a.flatMap PV.cells) vs→zb (zd κ (Go.Proofs.YtopfccpgdldcdaaGreatDoor.er m) w) (b.flatMap PV.cells) vs:=by
  intro a;induction a with
  | nil=>intro b vs h1 h2; cases b with | nil=>exact h2 | cons=>exact h1.elim
  | cons x a ih =>
   intro b vs h1 h2;cases b with
   | nil=>exact h1.elim
   | cons y b =>
    simp only [List.flatMap_cons] at h2 ⊢;obtain ⟨u,v,rfl,g1,g2⟩:=QJ h2;refine zb.append ?_ (ih h1.2 g2);rcases h1.1 with rfl | ⟨rfl,rfl⟩
    ·exact g1
    ·cases u with
     | nil=>exact g1.elim
     | cons v0 u =>
      cases u with
      | cons=>exact g1.2.elim
      | nil=>exact ⟨zd.ung hmw.mem hg' hn g1.1,trivial⟩
 obtain ⟨q1,q2,q3⟩:=hmw.mem.blk rid _ hr';have hsame:κ rid=none→Lp'=Lp:=by
  intro hk;rcases q3 with ⟨_,h2⟩ | ⟨b,_,_,h1,_⟩
  ·rcases h2 with rfl | ⟨D,hD⟩
   ·cases Lp' with
    | nil=>rfl
    | cons=>exact hL.elim
   ·have:∀ {a b:List PV},(∀ x∈a,x ≠ .own id n)→zb (fun x y=>y=x∨(x = .own id n∧y = .c (.row C))) a b→b=a:=by
     intro a;induction a with
     | nil=>intro b _ h; cases b with | nil=>rfl | cons=>exact h.elim
     | cons x a ih =>
      intro b h1 h;cases b with
      | nil=>exact h.elim
      | cons y b =>
       rw [ih (fun z hz=>h1 z (by simp [hz])) h.2];rcases h.1 with rfl | ⟨rfl,_⟩
       ·rfl
       ·exact absurd rfl (h1 _ (by simp))
    refine this (fun x hx=>?_) hL;rw [hD] at hx;rcases zb9 hx with ⟨c,rfl⟩|rfl
    ·simp
    ·simp [yl]
  ·rw [hk] at h1; cases h1
 obtain ⟨g1,g2⟩:=hmw.turnG (κ':=κ) (w':=w) (x := .row Lp' 1 e) hW hr' rfl rfl rfl (Nat.le_refl _) rfl (fun _ _=>rfl) (fun _ _ _=>rfl) (.inl rfl) (fun _ h=>by cases h)
  (fun L sz e h=>by cases h; exact ⟨_,rfl,by rw [hlen hL]; exact Nat.le_refl _,fun _=>⟨rfl,fun b arr e' hb ha=>⟨arr,ha,rfl⟩⟩,fun k _ _ _ => .inl ⟨hsame k,k⟩⟩) (fun hp=>by
   refine ⟨fun y hy=>?_,q2,?_⟩
   ·obtain ⟨i,hi⟩:=List.mem_iff_getElem?.1 hy;have hil:i < Lp.length:=by
     rw [hlen hL];rcases Nat.lt_or_ge i Lp'.length with h' | h'
     ·exact h'
     ·rw [List.getElem?_eq_none h'] at hi; cases hi
    obtain ⟨y',h1,h2⟩:=hL.get i Lp[i] (by simp [hil]);rw [hi] at h1; cases h1;rw [hcells h2]; exact q1 _ (List.getElem_mem hil)
   ·rcases q3 with ⟨h1,h2⟩ | ⟨b,vs,rest,h1,h2,h3⟩
    ·rw [hsame h1]; exact .inl ⟨h1,h2⟩
    ·exact .inr ⟨b,vs,rest,h1,h2,(hall hL h3).imp fun _ _=>zd.pres hp⟩)
 refine ⟨κ,A,_,⟨g1,hrl.start,hrl.low0,hrl.s0,hrl.size,hrl.defers,fun t x hx=>?_⟩,?_⟩
 ·obtain ⟨q1,q2⟩:=hrl.tmps t x (by rw [← hA t]; exact hx);exact ⟨q1,Rep.pres g2 q2⟩
 ·rw [yj] at hK; exact hK

abbrev AO.mv (d s:Nat):AO:=⟨some d,.mv (.t s),none,false,[]⟩
abbrev AO.ex (d:Nat) (o:AOp):AO:=⟨some d,o,none,false,[]⟩
abbrev AO.nu (o:AOp):AO:=⟨none,o,none,false,[]⟩
abbrev AO.gt (d:Nat) (o:AOp) (g:Nat):AO:=⟨some d,o,some (g,true),false,[]⟩
instance (n:Nat):OfNat AX n:=⟨.t n⟩
abbrev sE:PV := .c (.sc (.string ⟨#[]⟩))
abbrev AO.l1 (d n:Nat) (a:AX):AO:=⟨some d,.ld false n a,none,false,[]⟩
abbrev AO.l2 (d n:Nat) (a:AX):AO:=⟨some d,.ld true n a,none,false,[]⟩
abbrev AO.b1 (d:Nat) (o:BinOp) (x y:AX):AO:=⟨some d,.bin o x y,none,false,[]⟩
abbrev AO.f1 (d k:Nat) (x:AX):AO:=⟨some d,.fa k x,none,false,[]⟩
abbrev AO.c1 (d f:Nat) (xs:List AX):AO:=⟨some d,.call f xs,none,false,[]⟩
abbrev AO.n1 (d:Nat) (x:AX):AO:=⟨some d,.len false x,none,false,[]⟩
abbrev AO.e1 (d:Nat) (x:AX) (i:Nat):AO:=⟨some d,.ext x i,none,false,[]⟩
abbrev AO.a1 (d:Nat) (x:AX) (z e:Nat):AO:=⟨some d,.asn x z e,none,false,[]⟩
abbrev AO.i1 (d s:Nat) (x i:AX):AO:=⟨some d,.ia s x i,none,false,[]⟩
abbrev AO.s1 (n:Nat) (a v:AX):AO:=⟨none,.st n a v,none,false,[]⟩
abbrev AO.o1 (d f:Nat) (xs:List AX):AO:=⟨some d,.opn f xs,none,false,[]⟩
abbrev AO.m1 (d:Nat) (x:AX):AO:=⟨some d,.mv x,none,false,[]⟩
abbrev AO.g1 (d k:Nat) (x:AX) (g:Nat):AO:=⟨some d,.fa k x,some (g,true),false,[]⟩
abbrev AO.g2 (d n:Nat) (x:AX) (g:Nat):AO:=⟨some d,.ld false n x,some (g,true),false,[]⟩
abbrev AO.g3 (d:Nat) (x:AX) (g:Nat):AO:=⟨some d,.mv x,some (g,true),false,[]⟩
abbrev AO.h1 (d k:Nat) (x:AX) (g:Nat):AO:=⟨some d,.fa k x,some (g,false),false,[]⟩
abbrev AO.h2 (d n:Nat) (x:AX) (g:Nat):AO:=⟨some d,.ld false n x,some (g,false),false,[]⟩
abbrev AO.h3 (d:Nat) (x:AX) (g:Nat):AO:=⟨some d,.mv x,some (g,false),false,[]⟩
abbrev AO.p1 (d:Nat) (c b:AX):AO:=⟨some d,.pick c (.k (.c (.sc (.bool true)))) b,none,false,[]⟩
abbrev AO.p2 (d:Nat) (c a:AX):AO:=⟨some d,.pick c a (.k (.c (.sc (.bool false)))),none,false,[]⟩
abbrev AO.u1 (d:Nat) (x:AX):AO:=⟨some d,.un .not x,none,false,[]⟩
abbrev AO.x1 (d:Nat) (x:AX):AO:=⟨some d,.box x,none,false,[]⟩
abbrev AO.k1 (d:Nat) (x:AX):AO:=⟨some d,.nck x,none,false,[]⟩
abbrev AO.a2 (d z e:Nat):AO:=⟨some d,.asn (.k .nil) z e,none,false,[]⟩
abbrev zW:List PV:=[.nil,.nil,.nil,I 0,I 0,.nil,.nil,.nil,.nil,B false,I 0,sE,sE,sE]
abbrev zE:List PV:=[sE,B false,sE]
abbrev zV:List PV:=[I 0,I 0,sE,I 0,sE,sE,sE,I 0]
abbrev XC.ic (a b i:Nat):XC := .reg true [⟨some a,.mv (.t i),none,false,[]⟩,⟨some b,.bin .add (.t a) (.k (.c (.sc (.int .i64 1)))),none,false,[]⟩,⟨some i,.mv (.t b),none,false,[]⟩]
abbrev XC.ce (c i:Nat):XC := .cnd (.t c) .skip (.exit i)
abbrev XC.rf (d:Nat):XC := .seq (.reg true [⟨some d,.mv (.k (.c (.sc (.bool false)))),none,false,[]⟩]) .ret
abbrev XC.rt (d:Nat):XC := .seq (.reg true [⟨some d,.mv (.k (.c (.sc (.bool true)))),none,false,[]⟩]) .ret
abbrev AO.gf (d:Nat) (o:AOp) (g:Nat):AO:=⟨some d,o,some (g,false),false,[]⟩
abbrev AO.exl (d:Nat) (o:AOp):AO:=⟨some d,o,none,true,[]⟩
abbrev AO.exo (tn:List Nat) (d:Nat) (o:AOp):AO:=⟨some d,o,none,true,tn⟩
abbrev AO.nuo (tn:List Nat) (o:AOp):AO:=⟨none,o,none,true,tn⟩
abbrev AX.i (n:Int):AX := .k (.c (.sc (.int .i64 n)))
abbrev AX.u (n:Int):AX := .k (.c (.sc (.int .u8 n)))
abbrev AX.y:AX := .k (.c (.sc (.bool true)))
abbrev AX.n:AX := .k (.c (.sc (.bool false)))
abbrev AX.s (l:Str):AX := .k (.c (.sc (.string ⟨⟨l⟩⟩)))
abbrev XC.s (a b:XC):XC := .seq a b
abbrev XC.r (l:List AO):XC := .reg true l
abbrev XC.d (l:List AO):XC := .reg false l
class BP (b:Bool) (p n:outParam Prop):Prop where
 t:b=true→p
 f:b=false→n
instance (priority:=low) (b:Bool):BP b (b=true) (b=false):=⟨id,id⟩
instance (a b:Int):BP (ltI a b) (a < b) (b≤a):=⟨zaI.1,zfR.1⟩
instance (a b:Int):BP (leI a b) (a≤b) (b < a):=⟨zaD.1,zq9.1⟩
instance (a b:Int):BP (eqI a b) (a=b) (a≠b):=⟨qG.1,ZO.1⟩
instance (a b:Str):BP (eqS a b) (a=b) (a≠b):=⟨JZ.1,zos.1⟩
instance (a b:Bool):BP (eqB a b) (a=b) (a≠b):=⟨y3.1,zbC.1⟩
instance (p:Prop) [Decidable p]:BP (decide p) p (¬ p):=⟨of_decide_eq_true,of_decide_eq_false⟩
instance (b:Bool) (p n:Prop) [h:BP b p n]:BP (!b) n p:=⟨fun e=>h.f (by simpa using e),fun e=>h.t (by simpa using e)⟩
theorem cP {b:Bool} {p n A B:Prop} [h:BP b p n] (h1:p→A) (h2:n→B):cndX b A B:=zoc (fun e=>h1 (h.t e)) fun e=>h2 (h.f e)
theorem oB {p A:Prop} (h:p) (k:A):Ob p A:=⟨h,k⟩
section
variable {α β:Type} {f:α→β} {L:List α}
theorem lM {K:Nat→Prop} (h:K L.length):LenX (L.map f) K:=⟨_,by simp,h⟩
theorem lmp:(L.map f).length=L.length:=List.length_map _
theorem lA {K:Nat→Prop} (h:K L.length):LenX L K:=⟨_,rfl,h⟩
theorem aM {k:Int} {j:Nat} {K:β→Prop} (hk:k=(j:Int)) (hj:j < L.length) (h:K (f L[j])):AtX k (L.map f) K:=⟨j,hk,f L[j],by simp [hj],h⟩
theorem aA {k:Int} {j:Nat} {K:α→Prop} (hk:k=(j:Int)) (hj:j < L.length) (h:K L[j]):AtX k L K:=⟨j,hk,L[j],by simp [hj],h⟩
theorem nC {j:Nat} {K:Nat→Prop} (h:K j):NatX (j:Int) K:=⟨j,rfl,h⟩
theorem nE {k:Int} {j:Nat} {K:Nat→Prop} (e:k=(j:Int)) (h:K j):NatX k K:=⟨j,e,h⟩
theorem sLo {k:Int} (l:Nat) {K:List α→Prop} (e:k=(l:Int)) (hl:l≤L.length) (h:K (L.drop l)):SubX L (some k) none K :=
 ⟨l,L.length,e,rfl,hl,Nat.le_refl _,by simpa using h⟩
theorem sHi {k:Int} (l:Nat) {K:List α→Prop} (e:k=(l:Int)) (hl:l≤L.length) (h:K (L.take l)):SubX L none (some k) K :=
 ⟨0,l,rfl,e,Nat.zero_le _,hl,by simpa using h⟩
theorem sBo {i k:Int} (l r:Nat) {K:List α→Prop} (e:i=(l:Int)) (e':k=(r:Int)) (hl:l≤r) (hr:r≤L.length) (h:K ((L.take r).drop l)):SubX L (some i) (some k) K :=
 ⟨l,r,e,e',hl,hr,h⟩
theorem sLoM {k:Int} (l:Nat) {K:List β→Prop} (e:k=(l:Int)) (hl:l≤L.length) (h:K ((L.drop l).map f)):SubX (L.map f) (some k) none K :=
 sLo l e (by simpa using hl) (by simpa [List.map_drop] using h)
theorem sHiM {k:Int} (l:Nat) {K:List β→Prop} (e:k=(l:Int)) (hl:l≤L.length) (h:K ((L.take l).map f)):SubX (L.map f) none (some k) K :=
 sHi l e (by simpa using hl) (by simpa [List.map_take] using h)
end
theorem zM {α:Type} {f:α→CV} {L:List α} {sz:Nat} (h:∀ a,(f a).cells.length=sz):JP sz (L.map f):=fun x hx=>by
 obtain ⟨a,_,rfl⟩:=List.mem_map.1 hx; exact h a
theorem zN {sz:Nat}:JP sz []:=fun _ h=>by cases h
theorem zC {sz:Nat} {x:CV} {L:List CV} (h:x.cells.length=sz) (hl:JP sz L):JP sz (x::L):=fun y hy=>by
 rcases List.mem_cons.1 hy with rfl | hy
 ·exact h
 ·exact hl y hy
theorem oA {p A:Prop} (k:A) (h:p:=by first|omega|rfl|exact zM fun _=>rfl|exact lmp|exact zC rfl zN|exact ⟨by omega,by omega⟩|exact congrArg I (by omega)):Ob p A:=⟨h,k⟩
theorem lF {α:Type} {x:α} {K:Nat→Prop} (h:K 1):LenX [x] K:=⟨1,rfl,h⟩
structure Hid (Q:Prop):Prop where
 out:Q
theorem dr {P Q:Prop} (q:Q) (h:Hid Q→P:=by intro q; (conv=>whnf); (repeat ((first|refine oA ?_|refine lM ?_|refine lF ?_|refine lA ?_|refine aM rfl (by omega) ?_|refine aA rfl (by omega) ?_|refine aA (j:=0) rfl (by omega) ?_|refine nC ?_); conv=>whnf)); exact q.out):P:=h ⟨q⟩
theorem dI {P Q:Prop} (h:Q):P→Q:=fun _=>h
theorem dEr {P Q:Prop} (q:Q) (h:Hid Q→P:=by intro q; (conv=>whnf); (repeat ((first|refine oA ?_|refine lM ?_|refine lF ?_|refine lA ?_|refine aM rfl (by omega) ?_|refine aA rfl (by omega) ?_|refine aA (j:=0) rfl (by omega) ?_|refine nC ?_|refine dI ?_); conv=>whnf)); exact q.out):P:=h ⟨q⟩
theorem dz {P:Prop} (h:P:=by (conv=>whnf); (repeat ((first|refine oA ?_|refine lM ?_|refine lF ?_|refine lA ?_|refine aM rfl (by omega) ?_|refine aA rfl (by omega) ?_|refine aA (j:=0) rfl (by omega) ?_|refine nC ?_|refine dI ?_); conv=>whnf))):P:=h
theorem fX {P:Program} {W0:World} {f:FuncId} {c:XC} {on:List FuncId} {ars:List AR} {n:Nat} {args:List CV} {r:CV} {F:Fr} (hm:P.follows .mixedOrders=true)
  (hc:zc P on f=some (c.ac,ars,n)) (h:(∀ x∈args,Good x)→xwp P W0 [] c (finC ars r) (fun _ _ _=>False) (finC ars r) F []) (hn:args.length≤n:=by simp) (hF:argF 0 (args.map .c)=F:=by rfl):Fn P W0 f args (.c r) []:=fnX hm hc hn hF h
theorem fW {P:Program} {W0:World} {f:FuncId} {c:XC} {on:List FuncId} {ars:List AR} {n:Nat} {args:List PV} {m:XM} {α:Type} {ok:α→Prop} {R:α→PV} {M:α→XM} {F:Fr} {k0:List Nat} (hm:P.follows .mixedOrders=true)
  (hc:zc P on f=some (c.ac,ars,n))
  (h:(∀ x∈args,yO x)→xwp P W0 k0 c (finX k0 ars fun r mx=>∃ a,ok a∧r=R a∧mx=M a) (fun _ _ _=>False) (finX k0 ars fun r mx=>∃ a,ok a∧r=R a∧mx=M a) F m)
  (hn:args.length≤n:=by simp) (hF:argF 0 args=F:=by rfl) (hk:m.map (·.1)=k0:=by rfl):zw P W0 f args m ok R M:=funW hm hc hn hF hk h
theorem c0 {P:Program} {W0:World} {f:FuncId} {cs:List CV} {r:PV} {own:Bool} {K:PV→XM→Prop} (hf:Fn P W0 f cs r []) (ho:(own||rlP r)=true) (k:K r []):CallX P W0 f cs own K :=
 ⟨r,[],hf,by cases own with | true=>exact .inl rfl | false=>exact .inr ⟨ho,rfl⟩,k⟩
theorem lp {k0:List Nat} {body:(Fr→XM→Prop)→Fr→XM→Prop} {F:Fr} {m:XM} {σ:Type} (fr:σ→Fr) (mm:σ→XM) (inv:σ→Prop) (me:σ→Nat) (x0:σ) (h0:inv x0) (hk:zn k0 none F m (fr x0) (mm x0))
  (hb:∀ x,inv x→body (fun F' m'=>∃ x',inv x'∧me x' < me x∧zn k0 none F' m' (fr x') (mm x')) (fr x) (mm x)):LoopX k0 body F m :=
 ⟨σ,fr,mm,inv,me,none,none,_,⟨x0,h0,hk⟩,fun _ _ _ h=>h,hb⟩
theorem lp2 {k0:List Nat} {body:(Fr→XM→Prop)→Fr→XM→Prop} {F:Fr} {m:XM} {α β:Type} (fr:α→β→Fr) (mm:α→β→XM) (inv:α→β→Prop) (me:α→β→Nat) (a0:α) (b0:β) (h0:inv a0 b0) (hk:zn k0 none F m (fr a0 b0) (mm a0 b0))
  (hb:∀ a b,inv a b→body (fun F' m'=>∃ a' b',inv a' b'∧me a' b' < me a b∧zn k0 none F' m' (fr a' b') (mm a' b')) (fr a b) (mm a b)):LoopX k0 body F m :=
 ⟨α × β,fun x=>fr x.1 x.2,fun x=>mm x.1 x.2,fun x=>inv x.1 x.2,fun x=>me x.1 x.2,none,none,fun x F' m'=>∃ a' b',inv a' b'∧me a' b' < me x.1 x.2∧zn k0 none F' m' (fr a' b') (mm a' b'),
  ⟨(a0,b0),h0,hk⟩,fun _ _ _ ⟨a,b,h⟩=>⟨(a,b),h⟩,fun x h=>hb x.1 x.2 h⟩
theorem lp3 {k0:List Nat} {body:(Fr→XM→Prop)→Fr→XM→Prop} {F:Fr} {m:XM} {α β γ:Type} (fr:α→β→γ→Fr) (mm:α→β→γ→XM) (inv:α→β→γ→Prop) (me:α→β→γ→Nat) (a0:α) (b0:β) (c0:γ) (h0:inv a0 b0 c0) (hk:zn k0 none F m (fr a0 b0 c0) (mm a0 b0 c0))
  (hb:∀ a b c,inv a b c→body (fun F' m'=>∃ a' b' c',inv a' b' c'∧me a' b' c' < me a b c∧zn k0 none F' m' (fr a' b' c') (mm a' b' c')) (fr a b c) (mm a b c)):LoopX k0 body F m :=
 ⟨α × β × γ,fun x=>fr x.1 x.2.1 x.2.2,fun x=>mm x.1 x.2.1 x.2.2,fun x=>inv x.1 x.2.1 x.2.2,fun x=>me x.1 x.2.1 x.2.2,none,none,fun x F' m'=>∃ a' b' c',inv a' b' c'∧me a' b' c' < me x.1 x.2.1 x.2.2∧zn k0 none F' m' (fr a' b' c') (mm a' b' c'),
  ⟨(a0,b0,c0),h0,hk⟩,fun _ _ _ ⟨a,b,c,h⟩=>⟨(a,b,c),h⟩,fun x h=>hb x.1 x.2.1 x.2.2 h⟩
theorem lz {k0:List Nat} {body:(Fr→XM→Prop)→Fr→XM→Prop} {F:Fr} {m:XM} {σ:Type} (z:Nat) (fr:σ→Fr) (mm:σ→XM) (inv:σ→Prop) (me:σ→Nat) (x0:σ) (h0:inv x0) (hk:zn k0 (some z) F m (fr x0) (mm x0))
  (hb:∀ x,inv x→body (fun F' m'=>∃ x',inv x'∧me x' < me x∧zn k0 none F' m' (fr x') (mm x')) (fr x) (mm x)):LoopX k0 body F m :=
 ⟨σ,fr,mm,inv,me,some z,none,_,⟨x0,h0,hk⟩,fun _ _ _ h=>h,hb⟩
theorem lz2 {k0:List Nat} {body:(Fr→XM→Prop)→Fr→XM→Prop} {F:Fr} {m:XM} {α β:Type} (z:Nat) (fr:α→β→Fr) (mm:α→β→XM) (inv:α→β→Prop) (me:α→β→Nat) (a0:α) (b0:β) (h0:inv a0 b0) (hk:zn k0 (some z) F m (fr a0 b0) (mm a0 b0))
  (hb:∀ a b,inv a b→body (fun F' m'=>∃ a' b',inv a' b'∧me a' b' < me a b∧zn k0 none F' m' (fr a' b') (mm a' b')) (fr a b) (mm a b)):LoopX k0 body F m :=
 ⟨α × β,fun x=>fr x.1 x.2,fun x=>mm x.1 x.2,fun x=>inv x.1 x.2,fun x=>me x.1 x.2,some z,none,fun x F' m'=>∃ a' b',inv a' b'∧me a' b' < me x.1 x.2∧zn k0 none F' m' (fr a' b') (mm a' b'),
  ⟨(a0,b0),h0,hk⟩,fun _ _ _ ⟨a,b,h⟩=>⟨(a,b),h⟩,fun x h=>hb x.1 x.2 h⟩
theorem cutz {k0:List Nat} {a:(Fr→XM→Prop)→Fr→XM→Prop} {b:Fr→XM→Prop} {F:Fr} {m:XM} {σ:Type} (z:Nat) (fr:σ→Fr) (mm:σ→XM) (inv:σ→Prop)
  (ha:a (fun F' m'=>∃ x,inv x∧zn k0 (some z) F' m' (fr x) (mm x)) F m) (hb:∀ x,inv x→b (fr x) (mm x)):CutX k0 a b F m:=⟨σ,fr,mm,inv,some z,_,ha,fun _ _ h=>h,hb⟩
theorem jc {α:Type} {f:α→CV} {L:List α} (h:Good (.row (L.map f))):L.length≤9223372036854775807:=by
 cases h with
 | row h _=>simpa [maxLen] using h
theorem zav {α:Type} {f:α→CV} {L:List α} (h:Good (.row (L.map f))):∀ a∈L,∀ y∈(f a).cells,Good y:=by
 cases h with
 | row _ h=>exact fun a ha=>h _ (List.mem_map_of_mem ha)
theorem yN {cs:List CV} (h:Good (.agg cs)):∀ x∈cs,Good x:=by
 cases h with
 | agg h=>exact h
theorem goodS {s:Str} (h:Good (CS s)):s.length≤9223372036854775807:=by
 cases h with
 | sc h=>simpa [wfv,maxLen,ByteArray.size] using h
theorem goodI {n:Int} (h:Good (CI n)) : -9223372036854775808≤n∧n≤9223372036854775807:=by
 cases h with
 | sc h=>exact h
structure Ent where
 path:Str
 dir:Bool
 data:Str
deriving DecidableEq
structure Op where
 kind:Int
 path:Str
 dest:Str
 data:Str
deriving DecidableEq
structure Mark where
 path:Str
 kind:Int
 data:Str
deriving DecidableEq
structure Over where
 base:List Ent
 layers:List (List Mark)
 upper:List Mark
deriving DecidableEq
structure Lease where
 who:Int
 path:Str
 num:Int
 til:Int
deriving DecidableEq
structure Hold where
 path:Str
 has:Bool
 ent:Ent
 num:Int
 til:Int
deriving DecidableEq
structure Msg where
 kind:Int
 who:Int
 hold:Hold
deriving DecidableEq
structure Wld where
 over:Over
 clock:Int
 count:Int
 leases:List Lease
 holds:List (List Hold)
 floors:List Int
 net:List Msg
 waits:Bool
 op:Op
deriving DecidableEq
def eEnt (e:Ent):CV := .agg [CS e.path,CB e.dir,CS e.data]
def eOp (o:Op):CV := .agg [CI o.kind,CS o.path,CS o.dest,CS o.data]
def ql (m:Mark):CV := .agg [CS m.path,CI m.kind,CS m.data]
def za (t:List Ent):CV := .row (t.map eEnt)
def ze (l:List Mark):CV := .row (l.map ql)
def zy (l:List (List Mark)):CV := .row (l.map ze)
def jR (o:Over):CV := .agg [za o.base,zy o.layers,ze o.upper]
def jt (l:Lease):CV := .agg [CI l.who,CS l.path,CI l.num,CI l.til]
def zF (h:Hold):CV := .agg [CS h.path,CB h.has,CS h.ent.path,CB h.ent.dir,CS h.ent.data,CI h.num,CI h.til]
def eMsg (m:Msg):CV := .agg [CI m.kind,CI m.who,CS m.hold.path,CB m.hold.has,CS m.hold.ent.path,CB m.hold.ent.dir,CS m.hold.ent.data,CI m.hold.num,CI m.hold.til]
def zv (l:List Lease):CV := .row (l.map jt)
def zf (l:List Hold):CV := .row (l.map zF)
def jC (l:List (List Hold)):CV := .row (l.map zf)
def jU (l:List Int):CV := .row (l.map CI)
def jM (l:List Msg):CV := .row (l.map eMsg)
def jo (l:List Str):CV := .row (l.map CS)
def qr (l:Str):CV := .row (l.map fun b=>CU b.toNat)
def zB (w:Wld):CV := .agg [za w.over.base,zy w.over.layers,ze w.over.upper,CI w.clock,CI w.count,zv w.leases,jC w.holds,jU w.floors,jM w.net,CB w.waits,
 CI w.op.kind,CS w.op.path,CS w.op.dest,CS w.op.data]
theorem dT {p:Prop} [Decidable p] (h:p):CB true=CB (decide p):=by rw [decide_eq_true h]
theorem dF {p:Prop} [Decidable p] (h:¬ p):CB false=CB (decide p):=by rw [decide_eq_false h]
theorem bT {b:Bool} (h:b=true):CB true=CB b:=by rw [h]
theorem bF {b:Bool} (h:b=false):CB false=CB b:=by rw [h]
theorem Jk (a b:Ent):(eqS a.path b.path&&(eqB a.dir b.dir&&(eqS a.data b.data&&true)))=decide (a=b):=by
 cases a; cases b; rw [Bool.eq_iff_iff]; simp [qw,QX]
theorem bqMark (a b:Mark):(eqS a.path b.path&&(eqI a.kind b.kind&&(eqS a.data b.data&&true)))=decide (a=b):=by
 cases a; cases b; rw [Bool.eq_iff_iff]; simp [qw,y4]
theorem bqOp (a b:Op):(eqI a.kind b.kind&&(eqS a.path b.path&&(eqS a.dest b.dest&&(eqS a.data b.data&&true))))=decide (a=b):=by
 cases a; cases b; rw [Bool.eq_iff_iff]; simp [qw,y4]
theorem bqLease (a b:Lease):(eqI a.who b.who&&(eqS a.path b.path&&(eqI a.num b.num&&(eqI a.til b.til&&true))))=decide (a=b):=by
 cases a; cases b; rw [Bool.eq_iff_iff]; simp [qw,y4]
theorem zbk (a b:Hold):(eqS a.path b.path&&(eqB a.has b.has&&(eqS a.ent.path b.ent.path&&(eqB a.ent.dir b.ent.dir&&(eqS a.ent.data b.ent.data&&(eqI a.num b.num&&(eqI a.til b.til&&true)))))))=decide (a=b):=by
 obtain ⟨_,_,⟨_,_,_⟩,_,_⟩:=a; obtain ⟨_,_,⟨_,_,_⟩,_,_⟩:=b; rw [Bool.eq_iff_iff]; simp [qw,y4,QX,and_assoc]
theorem bqMsg (a b:Msg):(eqI a.kind b.kind&&(eqI a.who b.who&&(eqS a.hold.path b.hold.path&&(eqB a.hold.has b.hold.has&&(eqS a.hold.ent.path b.hold.ent.path&&(eqB a.hold.ent.dir b.hold.ent.dir&&(eqS a.hold.ent.data b.hold.ent.data&&(eqI a.hold.num b.hold.num&&(eqI a.hold.til b.hold.til&&true)))))))))=decide (a=b):=by
 obtain ⟨_,_,⟨_,_,⟨_,_,_⟩,_,_⟩⟩:=a; obtain ⟨_,_,⟨_,_,⟨_,_,_⟩,_,_⟩⟩:=b; rw [Bool.eq_iff_iff]; simp [qw,y4,QX,and_assoc]
theorem ZJ {α:Type} {a b:List α} {k:Nat} (ha:k < a.length) (hb:k < b.length) (h:a.take k=b.take k) (he:a[k]=b[k]):a.take (k+1)=b.take (k+1):=by
 rw [List.take_succ_eq_append_getElem ha,List.take_succ_eq_append_getElem hb,h,he]
theorem Zw {α:Type} {a b:List α} (hl:a.length=b.length) (h:a.take a.length=b.take a.length):a=b:=by
 rw [List.take_length,hl,List.take_length] at h; exact h
theorem ZD {α:Type} {a b:List α} {k:Nat} (ha:k < a.length) (hb:k < b.length) (he:a[k]≠b[k]):a≠b:=by rintro rfl; exact he rfl
theorem ZE {α:Type} {a b:List α} (h:a.length≠b.length):a≠b:=by rintro rfl; exact h rfl
theorem tmn {α:Type} {f:α→CV} {t:List α} {k n e:Nat} (h:k < t.length):XB.row ((t.take k).map f++[f t[k]]) n e = .row ((t.take (k+1)).map f) n e:=by
 rw [List.take_succ_eq_append_getElem h,List.map_append]; rfl

theorem zfA {P:Program} {f:FuncId} {fn:Func} {s:ChangeSpec} {c:OpenClaim}
  (h1:(c.wf (OpenSpec.ofChange s))=true)
  (h2:(laidOutB P)=true)
  (h3:(mapsRowed P)=true)
  (h4:(fn.params.all (P.readableRec ·))=true)
  (h5:(namedTie P c.named s.vars)=true)
  (h6:((c.stops==[]))=true)
  (h7:((P.stops==[]))=true)
  (h8:((c.knobs==[]))=true)
  (h9:((P.stopKnobs==[]))=true)
  (h10:((c.inPlace==P.inPlace f))=true)
  (h11:((c.unfollowed==P.unfollowed f))=true)
  (h12:((c.recurses==P.recurses f))=true)
  (h13:((c.named==P.varsNamed f))=true)
  (h14:((c.maps==(fn.params.toList++s.plain.varTypes P).any (P.mapsRec ·)))=true)
  (h15:((c.ifaces==(fn.params.toList++s.plain.varTypes P).any (P.ifacesRec ·)))=true)
  (h16:((c.mapsOut==P.mapsAmong fn.resultTypes.toList))=true)
  (h17:((c.loops==(fn.params.toList++s.plain.varTypes P).any (P.loopsFrom ·)))=true)
  (h18:((c.wideKeys==(fn.params.toList++s.plain.varTypes P++fn.resultTypes.toList).any (P.wideKeysFrom ·)))=true)
  (h19:(s.vars.all (P.varReadable ·))=true)
  (h20:(fn.resultTypes.all (fun t=>P.readableRec t&&decide (t < P.types.size)))=true)
  (h21:((c.ifacesOut==fn.resultTypes.toList.any (P.ifacesRec ·)))=true)
  (h22:((c.loopsOut==fn.resultTypes.toList.any (P.loopsFrom ·)))=true)
  (h23:((c.plainKeys==P.plainKeys))=true)
  (h24:(c.shortTexts.isNone)=true)
  (h25:(P.stopsHeard)=true)
  (h26:(P.mayEnter)=true)
  (h27:((c.lifted==P.liftsFinal))=true)
  (h28:((P.make==some c.make))=true)
  (h29:(c.kinds==[])=true)
  (h30:((c.pinned==c.pinnedBy))=true)
  (h31:((c.veiled==(fn.params.toList++s.plain.varTypes P++fn.resultTypes.toList).any (P.veiledRec ·)))=true)
  (h32:(c.veiledFits P fn.params.toList (fn.params.toList++s.plain.varTypes P++fn.resultTypes.toList))=true)
  (h0:c.domain.isEmpty=true):joinedFacts P f fn s c=true:=by
 unfold joinedFacts;rw [h0,if_pos rfl];rw [h1,h2,h3,h4,h5,h6,h7,h8,h9,h10,h11,h12,h13,h14,h15,h16,h17,h18,h19,h20,h21,h22,h23,h24,h25,h26,h27,h28,h29,h30,h31,h32];rfl

def cut (c:UInt8):Str→List Str
 | []=>[[]]
 | b::t=>if b=c then []::cut c t else match cut c t with
  | []=>[[b]]
  | h::r=>(b::h)::r
theorem zbs (c:UInt8):∀ s,cut c s≠[]
 | []=>by simp [cut]
 | b::t=>by
  unfold cut;split
  ·simp
  ·split<;>simp
theorem YW {c:UInt8}:∀ {s:Str},c ∉ s→cut c s=[s]
 | [],_=>rfl
 | b::t,h=>by
  simp only [List.mem_cons,not_or] at h;unfold cut;rw [if_neg (fun e=>h.1 e.symm),YW h.2]
theorem YV {c:UInt8}:∀ {a:Str} (b:Str),c ∉ a→cut c (a++c::b)=a::cut c b
 | [],b,_=>by simp [cut]
 | x::a,b,h=>by
  simp only [List.mem_cons,not_or] at h;rw [List.cons_append,cut,if_neg (fun e=>h.1 e.symm),YV b h.2]
def jn (ns:List Str):Str:=ns.flatMap (47::·)
theorem zfw:∀ (s:Str),jn (cut 47 s)=47::s
 | []=>rfl
 | b::t=>by
  have ih:=zfw t;unfold cut;split
  ·rename_i hb; subst hb; simp only [jn,List.flatMap_cons] at ih ⊢; rw [ih]; rfl
  ·split
   ·rename_i hc; exact absurd hc (zbs _ _)
   ·rename_i x r hc;rw [hc] at ih;simp only [jn,List.flatMap_cons,List.cons_append,List.cons.injEq,true_and] at ih ⊢;rw [ih]
theorem zbr:∀ {n:Str} {ns:List Str},(∀ x∈n::ns,(47:UInt8) ∉ x)→cut 47 (n++jn ns)=n::ns
 | n,[],h=>by simp [jn]; exact YW (h n (by simp))
 | n,m::ns,h=>by
  have:jn (m::ns)=47::(m++jn ns):=rfl;rw [this,YV _ (h n (by simp)),zbr fun x hx=>h x (by simp at hx ⊢; exact .inr hx)]
def jZ (b:UInt8):Bool:=97≤b.toNat&&b.toNat≤122
def jS (n:Str):Bool:=n.all jZ&&(1≤n.length&&n.length≤3)
theorem zcu {n:Str} (h:jS n=true):(47:UInt8) ∉ n:=by
 intro hm;simp only [jS,Bool.and_eq_true,List.all_eq_true] at h;have:=h.1 _ hm;simp [jZ] at this
def names (s:Str):List Str:=if s.length < 2∨s.head? ≠ some 47 then [] else cut 47 s.tail
def pOk (s:Str):Bool:=s.length≤12&&((names s).all jS&&(1≤(names s).length&&(names s).length≤3))
theorem zgs {s:Str}:pOk s=true↔∃ ns:List Str,(1≤ns.length∧ns.length≤3)∧(∀ n∈ns,jS n=true)∧s=jn ns:=by
 constructor
 ·intro h;simp only [pOk,Bool.and_eq_true,decide_eq_true_eq,List.all_eq_true] at h;obtain ⟨_,h1,h2,h3⟩:=h;refine ⟨names s,⟨h2,h3⟩,h1,?_⟩;unfold names at h2 ⊢;split at h2
  ·simp at h2
  ·rename_i hc;rw [if_neg hc,zfw];cases s with
   | nil=>simp at hc
   | cons b t=>simp at hc; simp [hc.2]
 ·rintro ⟨ns,⟨h1,h2⟩,h3,rfl⟩;cases ns with
  | nil=>simp at h1
  | cons n ns =>
   have hno:∀ x∈n::ns,(47:UInt8) ∉ x:=fun x hx=>zcu (h3 x hx)
   have e:jn (n::ns)=47::(n++jn ns):=rfl;have hlen:∀ (ns:List Str),(∀ n∈ns,jS n=true)→(jn ns).length≤4 * ns.length:=by
    intro ns;induction ns with
    | nil=>intro _; simp [jn]
    | cons a l ih =>
     intro h;have:=ih fun n hn=>h n (by simp [hn])
     have ha:=h a (by simp);simp only [jS,Bool.and_eq_true,decide_eq_true_eq] at ha;have e:jn (a::l)=47::(a++jn l):=rfl;rw [e]; simp; omega
   have hn:=h3 n (by simp);simp only [jS,Bool.and_eq_true,decide_eq_true_eq] at hn;have hnm:names (jn (n::ns))=n::ns:=by
    unfold names;rw [e];rw [if_neg (by simp; omega)];exact zbr hno
   simp only [pOk,Bool.and_eq_true,decide_eq_true_eq,List.all_eq_true,hnm];have:=hlen _ h3;exact ⟨by omega,h3,h1,h2⟩
theorem zf5 {ns:List Str} (h1:1≤ns.length) (h3:∀ n∈ns,jS n=true):names (jn ns)=ns:=by
 cases ns with
 | nil=>simp at h1
 | cons n ns =>
  have hno:∀ x∈n::ns,(47:UInt8) ∉ x:=fun x hx=>zcu (h3 x hx)
  have e:jn (n::ns)=47::(n++jn ns):=rfl;have hn:=h3 n (by simp);simp only [jS,Bool.and_eq_true,decide_eq_true_eq] at hn;unfold names;rw [e,if_neg (by simp; omega)];exact zbr hno
theorem zfv (a b:List Str):jn (a++b)=jn a++jn b:=by simp [jn]
theorem ye {s:Str} (h:pOk s=true):(1≤(names s).length∧(names s).length≤3)∧(∀ n∈names s,jS n=true)∧s=jn (names s):=by
 obtain ⟨ns,h1,h2,rfl⟩:=zgs.1 h;rw [zf5 h1.1 h2];exact ⟨h1,h2,rfl⟩
theorem qP {s:Str} (h:pOk s=true):2≤s.length∧s.length≤12∧s.head? = some 47:=by
 have h12:s.length≤12:=by simp only [pOk,Bool.and_eq_true,decide_eq_true_eq] at h; exact h.1
 obtain ⟨⟨h1,_⟩,_,_⟩:=ye h;unfold names at h1;split at h1
 ·simp at h1
 ·rename_i hc; simp only [not_or,Nat.not_lt,ne_eq,Classical.not_not] at hc; exact ⟨hc.1,h12,hc.2⟩
def pUp (s:Str):Str:=if pOk s then (if (names s).length=1 then [47] else jn (names s).dropLast) else []
def JD (s:Str):Str:=if pOk s then (names s).getLast?.getD [] else []
def und (s d:Str):Bool:=d==[47]||(d++[47]).isPrefixOf s
def jw (s f t:Str):Option Str:=if (pOk s&&pOk f&&pOk t)=true then (if (s != f&&!und s f)=true then some s else if pOk (t++s.drop f.length)=true then some (t++s.drop f.length) else none) else none
def eOpt:Option Str→CV
 | none => .tup [CS [],CB false]
 | some s => .tup [CS s,CB true]
theorem JE {s:Str} (h:pOk s=true):∃ a l,s=a++47::l∧(47:UInt8) ∉ l∧a=jn (names s).dropLast∧(names s).getLast? = some l∧jS l=true∧(a=[]↔(names s).length=1)∧JD s=l∧pUp s=(if a=[] then [47] else a):=by
 obtain ⟨⟨h1,h2⟩,h3,h4⟩:=ye h;obtain ⟨l,hl⟩:∃ l,(names s).getLast? = some l:=by
  cases hn:names s with
  | nil=>rw [hn] at h1; simp at h1
  | cons x r=>exact ⟨_,List.getLast?_eq_some_getLast (by simp)⟩
 have hsp:names s=(names s).dropLast++[l]:=by
  obtain ⟨hne,e⟩:=List.getLast?_eq_some_iff.1 hl;rw [e]; simp
 have hlm:l∈names s:=by rw [hsp]; simp
 have ha:(jn (names s).dropLast=[]↔(names s).length=1):=by
  cases hd:(names s).dropLast with
  | nil =>
   have:(names s).length=1:=by rw [hsp,hd]; rfl
   simp [jn,this]
  | cons x r =>
   have:(names s).length=r.length+2:=by rw [hsp,hd]; simp
   simp [jn,this]
 refine ⟨jn (names s).dropLast,l,?_,zcu (h3 l hlm),rfl,hl,h3 l hlm,ha,?_,?_⟩
 ·have e:jn (names s)=jn (names s).dropLast++jn [l]:=by rw [← zfv,← hsp]
  rw [h4.symm] at e
  simpa [jn] using e
 ·simp [JD,h,hl]
 ·unfold pUp;rw [if_pos h];by_cases hc:(names s).length=1
  ·rw [if_pos hc,if_pos (ha.2 hc)]
  ·rw [if_neg hc,if_neg (fun e=>hc (ha.1 e))]
theorem yh {α:Type} {q:α→Bool} {l:List α} {k:Nat} (h:k < l.length) (h1:(l.take k).all q=true) (h2:q l[k]=true):(l.take (k+1)).all q=true:=by
 rw [List.take_succ_eq_append_getElem h,List.all_append,h1]; simp [h2]
theorem Jj {α:Type} {q:α→Bool} {l:List α} {k:Nat} (h:k < l.length) (h2:q l[k]=false):l.all q=false:=by
 rw [List.all_eq_false]; exact ⟨l[k],List.getElem_mem h,by simp [h2]⟩

theorem Yl (b:Str):ltS [] b=!b.isEmpty:=by rw [Z0]; cases b<;>rfl
theorem zcm (x:UInt8) (a:Str):ltS (x::a) []=false:=by rw [Z0]; rfl
theorem Yj (x y:UInt8) (a b:Str):ltS (x::a) (y::b)=(x < y||(x==y&&ltS a b)):=by rw [Z0,Z0]; rfl
theorem yC:∀ (a:Str),ltS a a=false
 | []=>by rw [Yl]; rfl
 | x::a=>by rw [Yj,yC a]; simp
theorem ZC:∀ {a b c:Str},ltS a b=true→ltS b c=true→ltS a c=true
 | [],b,[],h1,h2=>by cases b with
  | nil=>rw [yC] at h1; cases h1
  | cons y b=>rw [zcm] at h2; cases h2
 | [],_,z::c,_,_=>by rw [Yl]; rfl
 | x::a,[],c,h1,_=>by rw [zcm] at h1; cases h1
 | x::a,y::b,[],_,h2=>by rw [zcm] at h2; cases h2
 | x::a,y::b,z::c,h1,h2=>by
  rw [Yj] at h1 h2 ⊢;simp only [Bool.or_eq_true,Bool.and_eq_true,decide_eq_true_eq,beq_iff_eq] at h1 h2 ⊢;simp only [UInt8.lt_iff_toNat_lt] at h1 h2 ⊢;rcases h1 with h1 | ⟨rfl,h1⟩<;>rcases h2 with h2 | ⟨rfl,h2⟩
  ·left; omega
  ·left; exact h1
  ·left; exact h2
  ·right; exact ⟨rfl,ZC h1 h2⟩
theorem zaJ:∀ (a b:Str),a=b∨ltS a b=true∨ltS b a=true
 | [],[] => .inl rfl
 | [],y::b=>by rw [Yl]; simp
 | x::a,[]=>by rw [Yl (x::a)]; simp
 | x::a,y::b=>by
  rw [Yj,Yj];rcases zaJ a b with h | h | h
  ·subst h;simp only [Bool.or_eq_true,decide_eq_true_eq,Bool.and_eq_true,beq_iff_eq,UInt8.lt_iff_toNat_lt];rcases Nat.lt_trichotomy x.toNat y.toNat with h | h | h
   ·right; left; left; exact h
   ·left; rw [UInt8.toNat_inj.1 h]
   ·right; right; left; exact h
  ·simp only [Bool.or_eq_true,decide_eq_true_eq,Bool.and_eq_true,beq_iff_eq,UInt8.lt_iff_toNat_lt];rcases Nat.lt_trichotomy x.toNat y.toNat with h' | h' | h'
   ·right; left; left; exact h'
   ·right; left; right; exact ⟨UInt8.toNat_inj.1 h',h⟩
   ·right; right; left; exact h'
  ·simp only [Bool.or_eq_true,decide_eq_true_eq,Bool.and_eq_true,beq_iff_eq,UInt8.lt_iff_toNat_lt];rcases Nat.lt_trichotomy x.toNat y.toNat with h' | h' | h'
   ·right; left; left; exact h'
   ·right; right; right; exact ⟨(UInt8.toNat_inj.1 h').symm,h⟩
   ·right; right; left; exact h'
theorem ZZ {a b:Str} (h:ltS a b=true):ltS b a=false:=by
 cases h':ltS b a with
 | false=>rfl
 | true=>have:=ZC h h'; rw [yC] at this; cases this
theorem Zj {a b:Str} (h:ltS a b=true):a≠b:=by rintro rfl; rw [yC] at h; cases h
theorem Yk {a b:Str} (h:ltS a b=false):a=b∨ltS b a=true:=by
 rcases zaJ a b with h' | h' | h'
 ·exact .inl h'
 ·rw [h] at h'; cases h'
 ·exact .inr h'
theorem zfS (a:Str) (x:UInt8) (r:Str):ltS a (a++x::r)=true:=by
 induction a with
 | nil=>rw [Yl]; rfl
 | cons y a ih=>rw [List.cons_append,Yj,ih]; simp
def qj (b:UInt8):Bool:=jZ b||(48≤b.toNat&&b.toNat≤57)
def qv (s:Str):Bool:=s.all qj&&s.length≤6
def find (t:List Ent) (p:Str):Option Ent:=t.find? fun e=>e.path==p
def idx (t:List Ent) (p:Str):Int:=match t.findIdx? (fun e=>e.path==p) with
 | some i=>i
 | none => -1
def rootE:Ent:=⟨[47],true,[]⟩
def noE:Ent:=⟨[],false,[]⟩
def get (t:List Ent) (p:Str):Option Ent:=if p=[47] then some rootE else find t p
def zK (t:List Ent) (p:Str):Bool:=match get t p with
 | some e=>e.dir
 | none=>false
def YZ:Option Ent→CV
 | none => .tup [eEnt noE,CB false]
 | some e => .tup [eEnt e,CB true]
theorem zaA (t:List Ent) (p:Str):(idx t p = -1∧find t p=none∧∀ e∈t,e.path≠p)∨∃ j,∃ h:j < t.length,idx t p=(j:Int)∧find t p=some t[j]∧t[j].path=p∧∀ i (h':i < t.length),i < j→t[i].path≠p:=by
 unfold idx find;cases hf:t.findIdx? (fun e=>e.path==p) with
 | none =>
  left;have hn:=List.findIdx?_eq_none_iff.1 hf;refine ⟨rfl,List.find?_eq_none.2 fun e he=>by simpa using hn e he,fun e he=>by simpa using hn e he⟩
 | some j =>
  right;obtain ⟨h,h1,h2⟩:=List.findIdx?_eq_some_iff_getElem.1 hf;refine ⟨j,h,rfl,?_,by simpa using h1,fun i h' hi=>by simpa using h2 i hi⟩;rw [List.find?_eq_some_iff_getElem];exact ⟨h1,j,h,rfl,fun i hi=>by simpa using h2 i hi⟩
theorem zqS {t:List Ent} {p:Str} {k:Nat} (h:k < t.length) (hp:t[k].path=p) (hn:∀ i (h':i < t.length),i < k→t[i].path≠p):idx t p=(k:Int):=by
 rcases zaA t p with ⟨_,_,h3⟩ | ⟨j,hj,h1,_,h2,h3⟩
 ·exact absurd hp (h3 _ (List.getElem_mem h))
 ·rcases Nat.lt_trichotomy j k with h' | h' | h'
  ·exact absurd h2 (hn j hj h')
  ·rw [h1,h']
  ·exact absurd hp (h3 k h h')
theorem zqT {t:List Ent} {p:Str} (hn:∀ i (h':i < t.length),t[i].path≠p):idx t p = -1:=by
 rcases zaA t p with ⟨h,_⟩ | ⟨j,hj,_,_,h2,_⟩
 ·exact h
 ·exact absurd h2 (hn j hj)
theorem jX {t:List Ent} {p:Str} {e:Ent} (h:find t p=some e):e.path=p∧e∈t:=by
 unfold find at h;exact ⟨by simpa using List.find?_some h,List.mem_of_find?_eq_some h⟩
def ok1 (pre:List Ent) (e:Ent):Bool:=pOk e.path&&(qv e.data&&(!(e.dir&&e.data != [])&&((match pre.getLast? with
 | none=>true
 | some l=>ltS l.path e.path)&&zK pre (pUp e.path))))
def okA:List Ent→List Ent→Bool
 | _,[]=>true
 | pre,e::r=>ok1 pre e&&okA (pre++[e]) r
def tOk (t:List Ent):Bool:=t.length≤16&&okA [] t
theorem zgf:∀ {r pre:List Ent},okA pre r=true↔∀ j (h:j < r.length),ok1 (pre++r.take j) r[j]=true
 | [],pre=>by simp [okA]
 | e::r,pre=>by
  rw [okA,Bool.and_eq_true,zgf (r:=r)];constructor
  ·rintro ⟨h1,h2⟩ j hj;cases j with
   | zero=>rw [List.take_zero,List.append_nil]; exact h1
   | succ j=>have:=h2 j (by simpa using hj); simpa using this
  ·intro h;refine ⟨by have:=h 0 (by simp); rw [List.take_zero,List.append_nil] at this; exact this,fun j hj=>?_⟩;have:=h (j+1) (by simpa using hj)
   simpa using this
theorem okA0 {t:List Ent}:okA [] t=true↔∀ j (h:j < t.length),ok1 (t.take j) t[j]=true:=by
 rw [zgf]; simp

theorem za9 {α:Type} {q:α→Bool}:∀ {t:List α} {k:Nat},(t.take k).all q=true→(∀ h:k < t.length,q t[k]=false)→t.takeWhile q=t.take k∧t.dropWhile q=t.drop k
 | [],_,_,_=>by simp
 | x::t,0,_,h2=>by
  have:=h2 (by simp);simp only [List.getElem_cons_zero] at this;simp [this]
 | x::t,k+1,h1,h2=>by
  simp only [List.take_succ_cons,List.all_cons,Bool.and_eq_true] at h1;have:=za9 (t:=t) (k:=k) h1.2 fun h=>by have:=h2 (by simpa using h); simpa using this
  simp [h1.1,this.1,this.2]
def jd {α:Type} (key:α→Str) (t:List α) (e:α):List α :=
 t.takeWhile (fun x=>ltS (key x) (key e))++e::(match t.dropWhile (fun x=>ltS (key x) (key e)) with
  | []=>[]
  | x::r=>if key x=key e then r else x::r)
abbrev put:=jd Ent.path
abbrev jH:=jd Mark.path
theorem qQ {α:Type} {key:α→Str} {t:List α} {e:α}:(jd key t e).length≤t.length+1:=by
 have h:=congrArg List.length (List.takeWhile_append_dropWhile (p:=fun x=>ltS (key x) (key e)) (l:=t));rw [List.length_append] at h;unfold jd;rw [List.length_append,List.length_cons];split
 ·simp; omega
 ·rename_i hc;rw [hc] at h;split<;>simp at h ⊢<;>omega
theorem zgy {α:Type} {key:α→Str} {t:List α} {e:α} {k:Nat} (hk:¬ k < t.length) (h1:(t.take k).all (fun x=>ltS (key x) (key e))=true):jd key t e=t.take k++[e]:=by
 obtain ⟨e1,e2⟩:=za9 h1 fun h=>absurd h hk
 unfold jd;rw [e1,e2,List.drop_of_length_le (by omega)]
theorem zgz {α:Type} {key:α→Str} {t:List α} {e:α} {k:Nat} (hk:k < t.length) (h1:(t.take k).all (fun x=>ltS (key x) (key e))=true) (h2:ltS (key t[k]) (key e)=false) (h3:key t[k]≠key e):jd key t e=t.take k++e::t.drop k:=by
 obtain ⟨e1,e2⟩:=za9 h1 fun _=>h2
 unfold jd;rw [e1,e2,List.drop_eq_getElem_cons hk];simp only [if_neg h3]
theorem zgw {α:Type} {key:α→Str} {t:List α} {e:α} {k:Nat} (hk:k < t.length) (h1:(t.take k).all (fun x=>ltS (key x) (key e))=true) (h2:ltS (key t[k]) (key e)=false) (h3:key t[k]=key e):jd key t e=t.take k++e::t.drop (k+1):=by
 obtain ⟨e1,e2⟩:=za9 h1 fun _=>h2
 unfold jd;rw [e1,e2,List.drop_eq_getElem_cons hk];simp only [if_pos h3]
def both (a b:List Ent):List Ent:=b.foldl put a
def tudP (a b:List Ent) (e:Ent):Bool:=decide (get a e.path≠get b e.path)
def zZ (a b:List Ent):List Str:=((both a b).filter (tudP a b)).map (·.path)
def zH (l:List Mark) (p:Str):Option Mark:=l.find? fun m=>m.path==p
def midx (l:List Mark) (p:Str):Int:=match l.findIdx? (fun m=>m.path==p) with
 | some i=>i
 | none => -1
theorem zct (t:List Mark) (p:Str):(midx t p = -1∧zH t p=none∧∀ e∈t,e.path≠p)∨∃ j,∃ h:j < t.length,midx t p=(j:Int)∧zH t p=some t[j]∧t[j].path=p∧∀ i (h':i < t.length),i < j→t[i].path≠p:=by
 unfold midx zH;cases hf:t.findIdx? (fun e=>e.path==p) with
 | none =>
  left;have hn:=List.findIdx?_eq_none_iff.1 hf;refine ⟨rfl,List.find?_eq_none.2 fun e he=>by simpa using hn e he,fun e he=>by simpa using hn e he⟩
 | some j =>
  right;obtain ⟨h,h1,h2⟩:=List.findIdx?_eq_some_iff_getElem.1 hf;refine ⟨j,h,rfl,?_,by simpa using h1,fun i h' hi=>by simpa using h2 i hi⟩;rw [List.find?_eq_some_iff_getElem];exact ⟨h1,j,h,rfl,fun i hi=>by simpa using h2 i hi⟩
theorem zrr {t:List Mark} {p:Str} {k:Nat} (h:k < t.length) (hp:t[k].path=p) (hn:∀ i (h':i < t.length),i < k→t[i].path≠p):midx t p=(k:Int):=by
 rcases zct t p with ⟨_,_,h3⟩ | ⟨j,hj,h1,_,h2,h3⟩
 ·exact absurd hp (h3 _ (List.getElem_mem h))
 ·rcases Nat.lt_trichotomy j k with h' | h' | h'
  ·exact absurd h2 (hn j hj h')
  ·rw [h1,h']
  ·exact absurd hp (h3 k h h')
theorem zrs {t:List Mark} {p:Str} (hn:∀ i (h':i < t.length),t[i].path≠p):midx t p = -1:=by
 rcases zct t p with ⟨h,_⟩ | ⟨j,hj,_,_,h2,_⟩
 ·exact h
 ·exact absurd h2 (hn j hj)
theorem yb {t:List Mark} {p:Str} {e:Mark} (h:zH t p=some e):e.path=p∧e∈t:=by
 unfold zH at h;exact ⟨by simpa using List.find?_some h,List.mem_of_find?_eq_some h⟩
def kind (l:List Mark) (p:Str):Int:=match zH l p with
 | some m=>m.kind
 | none=>0
def je (l:List Mark) (p:Str):Bool:=l.any fun m=>m.kind==4&&und p m.path
def inD (l:List Mark) (p:Str):Bool:=pUp p==[47]||(kind l (pUp p)==2||kind l (pUp p)==4)
def hidP (p:Str) (m:Mark):Bool:=(m.path==p&&m.kind != 2)||(m.kind != 2&&und p m.path)
def zJ (l:List Mark) (p:Str):Bool:=l.any (hidP p)
def yT (pre:List Mark) (p:Str):Bool:=match pre.getLast? with
 | none=>true
 | some l=>ltS l.path p
def jv (pre:List Mark) (m:Mark):Bool:=(decide (1≤m.kind)&&decide (m.kind≤4))&&(pOk m.path&&(qv m.data&&(!(m.kind != 1&&m.data != [])&&(yT pre m.path&&(inD pre m.path&&!(decide (2 < m.kind)&&je pre m.path))))))
def mokA:List Mark→List Mark→Bool
 | _,[]=>true
 | pre,e::r=>jv pre e&&mokA (pre++[e]) r
def lOk (l:List Mark):Bool:=l.length≤32&&mokA [] l
theorem zf0:∀ {r pre:List Mark},mokA pre r=true↔∀ j (h:j < r.length),jv (pre++r.take j) r[j]=true
 | [],pre=>by simp [mokA]
 | e::r,pre=>by
  rw [mokA,Bool.and_eq_true,zf0 (r:=r)];constructor
  ·rintro ⟨h1,h2⟩ j hj;cases j with
   | zero=>rw [List.take_zero,List.append_nil]; exact h1
   | succ j=>have:=h2 j (by simpa using hj); simpa using this
  ·intro h;refine ⟨by have:=h 0 (by simp); rw [List.take_zero,List.append_nil] at this; exact this,fun j hj=>?_⟩;have:=h (j+1) (by simpa using hj)
   simpa using this
theorem zaM {t:List Mark}:mokA [] t=true↔∀ j (h:j < t.length),jv (t.take j) t[j]=true:=by
 rw [zf0]; simp
def onP (out:List Ent) (m:Mark):List Ent:=if m.kind=1 then put out ⟨m.path,false,m.data⟩ else if m.kind=2∨m.kind=4 then put out ⟨m.path,true,[]⟩ else out
def jG (l:List Mark) (t:List Ent):List Ent:=l.foldl onP (t.filter fun e=>!zJ l e.path)
def lOn (l:List Mark) (t:List Ent):Option (List Ent):=if (lOk l&&tOk t)=true then (if (jG l t).length≤16 then some (jG l t) else none) else none
def Jr:Option (List Ent)→CV
 | none => .tup [za [],CB false]
 | some t => .tup [za t,CB true]
theorem QV (o:Option (List Ent)):Jr o = .tup [za (o.getD []),CB o.isSome]:=by cases o<;>rfl
def jJ:Nat→Str→List Str
 | 0,_=>[]
 | n+1,p=>if pUp p=[47] then [] else pUp p::jJ n (pUp p)
def upsP (l:List Mark) (u:Str):List Mark:=if kind l u=0 then jH l ⟨u,2,[]⟩ else l
def ups (l:List Mark) (p:Str):List Mark:=(jJ 3 p).foldl upsP l
def zY (tq:List Ent) (p:Str):Option Mark:=match get tq p with
 | some e=>some ⟨p,if e.dir=true then 2 else 1,e.data⟩
 | none=>if zK tq (pUp p)=true then some ⟨p,3,[]⟩ else none
def difP (tq:List Ent) (out:List Mark) (p:Str):List Mark:=match zY tq p with
 | some m=>ups (jH out m) p
 | none=>out
def jf (a b:List Ent):List Mark:=(zZ a b).foldl (difP b) []
def jE:List (List Mark)→List Ent→Option (List Ent)
 | [],t=>some t
 | l::r,t=>match lOn l t with
  | some t'=>jE r t'
  | none=>none
def jy (o:Over):Option (List Ent):=if tOk o.base=true∧o.layers.length≤4 then jE o.layers o.base else none
def z7 (o:Over):Option (List Ent):=match jy o with
 | some t=>lOn o.upper t
 | none=>none
def oOk (o:Over):Bool:=match jy o,z7 o with
 | some t,some x=>decide (o.upper=jf t x)
 | _,_=>false
theorem qM (o:Option Ent):YZ o = .tup [eEnt (o.getD noE),CB o.isSome]:=by cases o<;>rfl
theorem zss {α:Type} {a b:Option α} {d:α}:a=b↔a.isSome=b.isSome∧a.getD d=b.getD d:=by cases a<;>cases b<;>simp
theorem qX {α β:Type} {f:β→α→β} {z:β} {l:List α} {k:Nat} (h:k < l.length):(l.take (k+1)).foldl f z=f ((l.take k).foldl f z) l[k]:=by
 rw [List.take_succ_eq_append_getElem h,List.foldl_append]; rfl
theorem qx {α:Type} {q:α→Bool} {l:List α} {k:Nat} (h:k < l.length) (hq:q l[k]=true):(l.take (k+1)).filter q=(l.take k).filter q++[l[k]]:=by
 rw [List.take_succ_eq_append_getElem h,List.filter_append]; simp [hq]
theorem qe {α:Type} {q:α→Bool} {l:List α} {k:Nat} (h:k < l.length) (hq:q l[k]=false):(l.take (k+1)).filter q=(l.take k).filter q:=by
 rw [List.take_succ_eq_append_getElem h,List.filter_append]; simp [hq]
theorem zeI {α:Type} {q:α→Bool} {l:List α} {k:Nat}:((l.take k).filter q).length≤l.length:=by
 have h1:=List.length_filter_le q (l.take k);have h2:=List.length_take_le' k l;omega
theorem Qb {α:Type} {key:α→Str}:∀ (l:List α) (t:List α),(l.foldl (jd key) t).length≤t.length+l.length
 | [],t=>by simp
 | e::l,t=>by
  have h:=Qb (key:=key) l (jd key t e);have h2:=qQ (key:=key) (t:=t) (e:=e);simp only [List.foldl_cons,List.length_cons];omega
theorem zqw {α:Type} {key:α→Str} (l:List α) (t:List α) (k:Nat):((l.take k).foldl (jd key) t).length≤t.length+l.length:=by
 have h:=Qb (key:=key) (l.take k) t;have h2:=List.length_take_le' k l;omega
theorem yp {p:Str} (h:pOk p=true) (h2:pUp p≠[47]):pOk (pUp p)=true∧names (pUp p)=(names p).dropLast∧(names (pUp p)).length+1=(names p).length:=by
 obtain ⟨⟨h1,h3⟩,h4,_⟩:=ye h;have hl:(names p).length≠1:=by
  intro e; unfold pUp at h2; rw [if_pos h,if_pos e] at h2; exact h2 rfl
 have e:pUp p=jn (names p).dropLast:=by unfold pUp; rw [if_pos h,if_neg hl]
 have hd:∀ n∈(names p).dropLast,jS n=true:=fun n hn=>h4 n (List.dropLast_subset _ hn)
 have hdl:(names p).dropLast.length+1=(names p).length:=by rw [List.length_dropLast]; omega
 have hn:names (pUp p)=(names p).dropLast:=by rw [e]; exact zf5 (by omega) hd
 exact ⟨zgs.2 ⟨_,⟨by omega,by omega⟩,hd,e⟩,hn,by rw [hn]; exact hdl⟩
theorem zfX {α:Type} {key:α→Str} {t:List α} {e x:α} (h:x∈jd key t e):x=e∨x∈t:=by
 have hs:=List.takeWhile_append_dropWhile (p:=fun x=>ltS (key x) (key e)) (l:=t);unfold jd at h;rw [List.mem_append,List.mem_cons] at h;rw [← hs,List.mem_append];rcases h with h | h | h
 ·exact .inr (.inl h)
 ·exact .inl h
 ·split at h
  ·cases h
  ·rename_i hc;rw [hc];split at h
   ·exact .inr (.inr (by simp [h]))
   ·exact .inr (.inr h)
theorem zfU {α:Type} {key:α→Str}:∀ {l:List α} {t:List α} {x:α},x∈l.foldl (jd key) t→x∈l∨x∈t
 | [],_,_,h => .inr h
 | e::l,t,x,h=>by
  rcases zfU (l:=l) h with h | h
  ·exact .inl (by simp [h])
  ·rcases zfX h with rfl | h
   ·exact .inl (by simp)
   ·exact .inr h
theorem yu {t:List Ent} (h:tOk t=true):t.length≤16∧∀ j (h:j < t.length),ok1 (t.take j) t[j]=true:=by
 simp only [tOk,Bool.and_eq_true,decide_eq_true_eq] at h;exact ⟨h.1,okA0.1 h.2⟩
theorem zhm {t:List Ent} (h:tOk t=true) {e:Ent} (he:e∈t):pOk e.path=true:=by
 obtain ⟨j,hj,rfl⟩:=List.mem_iff_getElem.1 he;have:=(yu h).2 j hj;simp only [ok1,Bool.and_eq_true] at this;exact this.1
theorem zhw {a b:List Ent} (ha:tOk a=true) (hb:tOk b=true) {p:Str} (h:p∈zZ a b):pOk p=true:=by
 obtain ⟨e,he,rfl⟩:=List.mem_map.1 h;rcases zfU (List.mem_filter.1 he).1 with h | h
 ·exact zhm hb h
 ·exact zhm ha h
theorem zc9 {a b:List Ent}:(zZ a b).length≤a.length+b.length:=by
 unfold zZ;rw [List.length_map];have h1:=List.length_filter_le (tudP a b) (both a b);have h2:=Qb (key:=Ent.path) b a;have h3:(both a b).length≤a.length+b.length:=h2;omega
theorem zdd:∀ (n:Nat) (p:Str),(jJ n p).length≤n
 | 0,_=>by simp [jJ]
 | n+1,p=>by
  unfold jJ;split
  ·simp
  ·have:=zdd n (pUp p); simp; omega
theorem zto {l:List Mark} {u:Str}:(upsP l u).length≤l.length+1:=by
 unfold upsP;split
 ·exact qQ
 ·omega
theorem ze9:∀ (us:List Str) (l:List Mark),(us.foldl upsP l).length≤l.length+us.length
 | [],l=>by simp
 | u::us,l=>by
  have h:=ze9 us (upsP l u);have h2:=zto (l:=l) (u:=u);simp only [List.foldl_cons,List.length_cons];omega
theorem ztp {l:List Mark} {p:Str}:(ups l p).length≤l.length+3:=by
 have h:=ze9 (jJ 3 p) l;have h2:=zdd 3 p;unfold ups;omega
theorem zon {b:List Ent} {out:List Mark} {p:Str}:(difP b out p).length≤out.length+4:=by
 unfold difP;split
 ·rename_i m _;have h:=ztp (l:=jH out m) (p:=p);have h2:(jH out m).length≤out.length+1:=qQ;omega
 ·omega
theorem ze6 {b:List Ent}:∀ (ps:List Str) (out:List Mark),(ps.foldl (difP b) out).length≤out.length+4 * ps.length
 | [],l=>by simp
 | u::us,l=>by
  have h:=ze6 (b:=b) us (difP b l u);have h2:=zon (b:=b) (out:=l) (p:=u);simp only [List.foldl_cons,List.length_cons];omega
theorem zrD {out:List Ent} {m:Mark}:(onP out m).length≤out.length+1:=by
 unfold onP;split
 ·exact qQ
 ·split
  ·exact qQ
  ·omega
theorem ze7:∀ (l:List Mark) (out:List Ent),(l.foldl onP out).length≤out.length+l.length
 | [],out=>by simp
 | m::l,out=>by
  have h:=ze7 l (onP out m);have h2:=zrD (out:=out) (m:=m);simp only [List.foldl_cons,List.length_cons];omega
theorem Qi {l:List Mark} {t t':List Ent} (h:lOn l t=some t'):t'.length≤16∧lOk l=true∧tOk t=true∧t'=jG l t:=by
 unfold lOn at h;split at h
 ·rename_i hc;simp only [Bool.and_eq_true] at hc;split at h
  ·cases h; exact ⟨by assumption,hc.1,hc.2,rfl⟩
  ·cases h
 ·cases h

section
variable {α:Type} {key:α→Str}
def Srt (key:α→Str) (l:List α):Prop:=l.Pairwise fun a b=>ltS (key a) (key b)=true
def fnd (key:α→Str) (l:List α) (p:Str):Option α:=l.find? fun e=>key e==p
theorem zan {p:Str}:fnd key [] p=none:=rfl
theorem qg {x:α} {l:List α} {p:Str}:fnd key (x::l) p=if key x=p then some x else fnd key l p:=by
 unfold fnd;rw [List.find?_cons];by_cases h:key x=p
 ·simp [h]
 ·have e:(key x==p)=false:=by simpa using h
  rw [e,if_neg h]
theorem yL {l:List α} {p:Str} {e:α} (h:fnd key l p=some e):key e=p∧e∈l:=by
 unfold fnd at h;exact ⟨by simpa using List.find?_some h,List.mem_of_find?_eq_some h⟩
theorem qt {l:List α} {p:Str}:fnd key l p=none↔∀ e∈l,key e≠p:=by
 unfold fnd; simp
theorem qn {l:List α} (hs:Srt key l) {e:α} (h:e∈l):fnd key l (key e)=some e:=by
 induction l with
 | nil=>cases h
 | cons x l ih =>
  rw [qg];unfold Srt at hs;rw [List.pairwise_cons] at hs;rcases List.mem_cons.1 h with rfl | h
  ·simp
  ·rw [if_neg (Zj (hs.1 e h)),ih hs.2 h]
theorem Qa {l:List α} (hs:Srt key l) {e:α}:e∈l↔fnd key l (key e)=some e:=⟨qn hs,fun h=>(yL h).2⟩
theorem zqt {a b:List α} {p:Str}:fnd key (a++b) p=(fnd key a p).or (fnd key b p):=by
 unfold fnd; rw [List.find?_append]
theorem Qy {a b:List α} (ha:Srt key a) (hb:Srt key b) (h:∀ p,fnd key a p=fnd key b p):a=b:=by
 induction a generalizing b with
 | nil =>
  cases b with
  | nil=>rfl
  | cons y b=>have:=h (key y); rw [qg,if_pos rfl,zan] at this; cases this
 | cons x a ih =>
  cases b with
  | nil=>have:=h (key x); rw [qg,if_pos rfl,zan] at this; cases this
  | cons y b =>
   unfold Srt at ha hb;rw [List.pairwise_cons] at ha hb;have hxy:key x=key y:=by
    apply Classical.byContradiction; intro hne;have h1:=h (key x);rw [qg,if_pos rfl,qg,if_neg (fun e=>hne e.symm)] at h1;have h2:=h (key y);rw [qg,if_neg hne,qg,if_pos rfl] at h2;have l1:=hb.1 x (yL h1.symm).2;have l2:=ha.1 y (yL h2).2;rw [ZZ l1] at l2; cases l2
   have e:x=y:=by
    have:=h (key x);rw [qg,if_pos rfl,qg,if_pos hxy.symm] at this;exact Option.some.inj this
   subst e;rw [ih ha.2 hb.2 fun p=>?_];have:=h p;rw [qg,qg] at this;by_cases hp:key x=p
   ·subst hp;rw [qt.2 fun e he=>(Zj (ha.1 e he)).symm,qt.2 fun e he=>(Zj (hb.1 e he)).symm]
   ·rwa [if_neg hp,if_neg hp] at this
theorem Jc {l:List α} (hs:Srt key l) (q:α→Bool):Srt key (l.filter q):=List.Pairwise.filter _ hs
theorem zbY {l:List α} (hs:Srt key l) {q:α→Bool} {p:Str}:fnd key (l.filter q) p=(fnd key l p).filter q:=by
 cases h:fnd key l p with
 | none =>
  rw [qt] at h;exact qt.2 fun e he=>h e (List.mem_filter.1 he).1
 | some e =>
  obtain ⟨h1,h2⟩:=yL h;subst h1;rw [Option.filter];split
  ·rename_i hq;exact qn (Jc hs q) (List.mem_filter.2 ⟨h2,hq⟩)
  ·rename_i hq;refine qt.2 fun x hx e'=>?_
   have hx':=List.mem_filter.1 hx;have:=qn hs hx'.1;rw [e',h] at this;cases this;exact hq hx'.2
theorem zgA {e:α}:jd key [] e=[e]:=rfl
theorem zgx {x:α} {t:List α} {e:α}:jd key (x::t) e=if ltS (key x) (key e)=true then x::jd key t e else if key x=key e then e::t else e::x::t:=by
 unfold jd;by_cases h:ltS (key x) (key e)=true
 ·simp [h]
 ·simp [h];split<;>rfl
theorem yt {t:List α} {e:α} (hs:Srt key t):Srt key (jd key t e):=by
 induction t with
 | nil=>rw [zgA]; exact List.pairwise_singleton _ _
 | cons x t ih =>
  unfold Srt at hs;rw [List.pairwise_cons] at hs;rw [zgx];by_cases h:ltS (key x) (key e)=true
  ·rw [if_pos h];refine List.pairwise_cons.2 ⟨fun y hy=>?_,ih hs.2⟩;rcases zfX hy with rfl | hy
   ·exact h
   ·exact hs.1 y hy
  ·rw [if_neg h];by_cases h2:key x=key e
   ·rw [if_pos h2];exact List.pairwise_cons.2 ⟨fun y hy=>by rw [← h2]; exact hs.1 y hy,hs.2⟩
   ·rw [if_neg h2];have h3:ltS (key e) (key x)=true:=by
     rcases Yk (by simpa using h) with h3 | h3
     ·exact absurd h3 h2
     ·exact h3
    refine List.pairwise_cons.2 ⟨fun y hy=>?_,List.pairwise_cons.2 hs⟩;rcases List.mem_cons.1 hy with rfl | hy
    ·exact h3
    ·exact ZC h3 (hs.1 y hy)
theorem yK {t:List α} {e:α} {p:Str}:fnd key (jd key t e) p=if key e=p then some e else fnd key t p:=by
 induction t with
 | nil=>rw [zgA,qg]
 | cons x t ih =>
  rw [zgx];by_cases h:ltS (key x) (key e)=true
  ·rw [if_pos h,qg,ih,qg];by_cases hx:key x=p
   ·rw [if_pos hx,if_pos hx,if_neg fun e'=>Zj h (hx.trans e'.symm)]
   ·rw [if_neg hx,if_neg hx]
  ·rw [if_neg h];by_cases h2:key x=key e
   ·rw [if_pos h2,qg,qg];by_cases hx:key e=p
    ·rw [if_pos hx,if_pos hx]
    ·rw [if_neg hx,if_neg hx,if_neg (by rw [h2]; exact hx)]
   ·rw [if_neg h2,qg]
theorem zao:∀ {l:List α} {t:List α},Srt key t→Srt key (l.foldl (jd key) t)
 | [],_,h=>h
 | _::l,_,h=>zao (l:=l) (yt h)
theorem ZH {t:List α}:Srt key t↔∀ j (h:j+1 < t.length),ltS (key t[j]) (key t[j+1])=true:=by
 constructor
 ·intro hs j h;exact List.pairwise_iff_getElem.1 hs j (j+1) (by omega) h (by omega)
 ·intro h;refine List.pairwise_iff_getElem.2 fun i j hi hj hij=>?_
  obtain ⟨d,rfl⟩:∃ d,j=i+1+d:=⟨j - i - 1,by omega⟩;induction d with
  | zero=>exact h i hj
  | succ d ih=>exact ZC (ih (by omega) (by omega)) (h (i+1+d) hj)
theorem zbZ {t:List α} (hs:Srt key t) {j:Nat} (h:j < t.length) {u:Str} (hu:ltS u (key t[j])=true):fnd key (t.take j) u=fnd key t u:=by
 have e:fnd key t u=(fnd key (t.take j) u).or (fnd key (t.drop j) u):=by rw [← zqt,List.take_append_drop]
 have e2:fnd key (t.drop j) u=none:=by
  rw [qt];intro e he hek;obtain ⟨i,hi,rfl⟩:=List.mem_iff_getElem.1 he;rw [List.getElem_drop] at hek;rw [List.length_drop] at hi;by_cases h0:i=0
  ·subst h0;simp only [Nat.add_zero] at hek;rw [hek] at hu;rw [yC] at hu; cases hu
  ·have:=List.pairwise_iff_getElem.1 hs j (j+i) h (by omega) (by omega);rw [hek] at this;rw [ZZ this] at hu; cases hu
 rw [e,e2]; simp
theorem zhQ {t:List α} (hs:Srt key t) {j:Nat} (h:j < t.length) {q:α→Bool} (hq:∀ e∈t,q e=true→ltS (key e) (key t[j])=true):(t.take j).any q=t.any q:=by
 have e:t.any q=((t.take j).any q||(t.drop j).any q):=by rw [← List.any_append,List.take_append_drop]
 have e2:(t.drop j).any q=false:=by
  rw [List.any_eq_false];intro x hx hqx;have hlt:=hq x (List.mem_of_mem_drop hx) hqx;obtain ⟨i,hi,rfl⟩:=List.mem_iff_getElem.1 hx;rw [List.getElem_drop] at hlt;rw [List.length_drop] at hi;by_cases h0:i=0
  ·subst h0;simp only [Nat.add_zero] at hlt;rw [yC] at hlt; cases hlt
  ·have:=List.pairwise_iff_getElem.1 hs j (j+i) h (by omega) (by omega);rw [ZZ this] at hlt; cases hlt
 rw [e,e2]; simp
end

theorem zbb {p:Str} (h:pOk p=true) (hu:pUp p≠[47]):ltS (pUp p) p=true:=by
 obtain ⟨a,l,e,_,_,_,_,_,_,hup⟩:=JE h;by_cases ha:a=[]
 ·rw [if_pos ha] at hup; exact absurd hup hu
 ·rw [if_neg ha] at hup;rw [hup];conv=>lhs; arg 2; rw [e]
  exact zfS a 47 l
theorem zdc {p d:Str} (h:und p d=true) (hd:d≠[47]):ltS d p=true:=by
 unfold und at h;simp only [Bool.or_eq_true,beq_iff_eq,List.isPrefixOf_iff_prefix] at h;rcases h with h | ⟨r,h⟩
 ·exact absurd h hd
 ·rw [← h,List.append_assoc]; exact zfS d 47 r
theorem ZG {p:Str} (h:pOk p=true):p≠[47]:=by rintro rfl; have:=(qP h).1; simp at this
def eok (e:Ent):Bool:=pOk e.path&&(qv e.data&&!(e.dir&&e.data != []))
theorem Yv {t:List Ent}:tOk t=true↔t.length≤16∧Srt Ent.path t∧(∀ e∈t,eok e=true)∧∀ e∈t,zK t (pUp e.path)=true:=by
 have key:∀ {j} (h:j < t.length),Srt Ent.path t→pOk t[j].path=true→zK (t.take j) (pUp t[j].path)=zK t (pUp t[j].path):=by
  intro j h hs hp;unfold zK get;by_cases hu:pUp t[j].path=[47]
  ·rw [if_pos hu,if_pos hu]
  ·rw [if_neg hu,if_neg hu];have:find (t.take j) (pUp t[j].path)=find t (pUp t[j].path):=zbZ hs h (zbb hp hu);rw [this]
 constructor
 ·intro h;obtain ⟨h1,h2⟩:=yu h;have hs:Srt Ent.path t:=ZH.2 fun j hj=>by
   have:=h2 (j+1) hj;simp only [ok1,Bool.and_eq_true] at this;have:=this.2.2.2.1;have hl:(t.take (j+1)).getLast? = some t[j]:=by
    rw [List.getLast?_take,if_neg (by omega),List.getElem?_eq_getElem (by omega)]; rfl
   rw [hl] at this;exact this
  refine ⟨h1,hs,fun e he=>?_,fun e he=>?_⟩
  ·obtain ⟨j,hj,rfl⟩:=List.mem_iff_getElem.1 he;have:=h2 j hj;simp only [ok1,Bool.and_eq_true] at this;simp only [eok,Bool.and_eq_true];exact ⟨this.1,this.2.1,this.2.2.1⟩
  ·obtain ⟨j,hj,rfl⟩:=List.mem_iff_getElem.1 he;have:=h2 j hj;simp only [ok1,Bool.and_eq_true] at this;rw [← key hj hs this.1];exact this.2.2.2.2
 ·rintro ⟨h1,hs,h3,h4⟩;simp only [tOk,Bool.and_eq_true,decide_eq_true_eq];refine ⟨h1,okA0.2 fun j hj=>?_⟩;have he:=h3 _ (List.getElem_mem hj);simp only [eok,Bool.and_eq_true] at he;simp only [ok1,Bool.and_eq_true];refine ⟨he.1,he.2.1,he.2.2,?_,by rw [key hj hs he.1]; exact h4 _ (List.getElem_mem hj)⟩;cases j with
  | zero=>rfl
  | succ j =>
   have hl:(t.take (j+1)).getLast? = some t[j]:=by
    rw [List.getLast?_take,if_neg (by omega),List.getElem?_eq_getElem (by omega)]; rfl
   rw [hl];exact ZH.1 hs j hj
def mok (m:Mark):Bool:=(decide (1≤m.kind)&&decide (m.kind≤4))&&(pOk m.path&&(qv m.data&&!(m.kind != 1&&m.data != [])))
theorem yc {m:Mark} (h:mok m=true):pOk m.path=true:=by
 simp only [mok,Bool.and_eq_true] at h; exact h.2.1
theorem ju {l:List Mark}:lOk l=true↔l.length≤32∧Srt Mark.path l∧(∀ m∈l,mok m=true)∧(∀ m∈l,inD l m.path=true)∧∀ m∈l,2 < m.kind→je l m.path=false:=by
 have k1:∀ {j} (h:j < l.length),Srt Mark.path l→pOk l[j].path=true→inD (l.take j) l[j].path=inD l l[j].path:=by
  intro j h hs hp;unfold inD kind;by_cases hu:pUp l[j].path=[47]
  ·simp [hu]
  ·have:zH (l.take j) (pUp l[j].path)=zH l (pUp l[j].path):=zbZ hs h (zbb hp hu);rw [this]
 have k2:∀ {j} (h:j < l.length),Srt Mark.path l→(∀ m∈l,mok m=true)→je (l.take j) l[j].path=je l l[j].path:=by
  intro j h hs hm;refine zhQ hs h fun m hmem hq=>?_
  simp only [Bool.and_eq_true] at hq;exact zdc hq.2 (ZG (yc (hm m hmem)))
 constructor
 ·intro h;simp only [lOk,Bool.and_eq_true,decide_eq_true_eq] at h;have h2:=zaM.1 h.2;have hs:Srt Mark.path l:=ZH.2 fun j hj=>by
   have:=h2 (j+1) hj;simp only [jv,Bool.and_eq_true] at this;have:=this.2.2.2.2.1;have hl:(l.take (j+1)).getLast? = some l[j]:=by
    rw [List.getLast?_take,if_neg (by omega),List.getElem?_eq_getElem (by omega)]; rfl
   rw [yT,hl] at this;exact this
  have hm:∀ m∈l,mok m=true:=fun m hm=>by
   obtain ⟨j,hj,rfl⟩:=List.mem_iff_getElem.1 hm;have:=h2 j hj;simp only [jv,Bool.and_eq_true] at this;simp only [mok,Bool.and_eq_true];exact ⟨this.1,this.2.1,this.2.2.1,this.2.2.2.1⟩
  refine ⟨h.1,hs,hm,fun m he=>?_,fun m he hk=>?_⟩
  ·obtain ⟨j,hj,rfl⟩:=List.mem_iff_getElem.1 he;have:=h2 j hj;simp only [jv,Bool.and_eq_true] at this;rw [← k1 hj hs this.2.1];exact this.2.2.2.2.2.1
  ·obtain ⟨j,hj,rfl⟩:=List.mem_iff_getElem.1 he;have:=h2 j hj;simp only [jv,Bool.and_eq_true] at this;have:=this.2.2.2.2.2.2;rw [k2 hj hs hm] at this
   simpa [hk] using this
 ·rintro ⟨h1,hs,h3,h4,h5⟩;simp only [lOk,Bool.and_eq_true,decide_eq_true_eq];refine ⟨h1,zaM.2 fun j hj=>?_⟩;have he:=h3 _ (List.getElem_mem hj);simp only [mok,Bool.and_eq_true] at he;simp only [jv,Bool.and_eq_true];refine ⟨he.1,he.2.1,he.2.2.1,he.2.2.2,?_,by rw [k1 hj hs he.2.1]; exact h4 _ (List.getElem_mem hj),?_⟩
  ·unfold yT;cases j with
   | zero=>rfl
   | succ j =>
    have hl:(l.take (j+1)).getLast? = some l[j]:=by
     rw [List.getLast?_take,if_neg (by omega),List.getElem?_eq_getElem (by omega)]; rfl
    rw [hl];exact ZH.1 hs j hj
  ·rw [k2 hj hs h3];by_cases hk:2 < l[j].kind
   ·rw [h5 _ (List.getElem_mem hj) hk]; simp
   ·simp [hk]
theorem JM {p u d:Str} (hd:d≠[47]) (hu:u≠[47]) (h1:und p u=true) (h2:und u d=true):und p d=true:=by
 unfold und at h1 h2 ⊢;simp only [Bool.or_eq_true,beq_iff_eq,List.isPrefixOf_iff_prefix] at h1 h2 ⊢;rcases h1 with h1 | ⟨r,h1⟩
 ·exact absurd h1 hu
 rcases h2 with h2 | ⟨s,h2⟩
 ·exact absurd h2 hd
 right;exact ⟨s++[47]++r,by rw [← h1,← h2]; simp⟩
theorem yF {p:Str} (h:pOk p=true):und p (pUp p)=true:=by
 obtain ⟨a,l,e,_,_,_,_,_,_,hup⟩:=JE h;unfold und;by_cases ha:a=[]
 ·rw [if_pos ha] at hup; simp [hup]
 ·rw [if_neg ha] at hup;simp only [Bool.or_eq_true,List.isPrefixOf_iff_prefix];right;exact ⟨l,by rw [hup]; (conv=>rhs; rw [e]); simp⟩
theorem zdb {p d:Str} (h:pOk p=true) (hd:pOk d=true) (hu:und p d=true):pUp p=d∨(pUp p≠[47]∧pOk (pUp p)=true∧und (pUp p) d=true):=by
 have hdr:=ZG hd;unfold und at hu;simp only [Bool.or_eq_true,beq_iff_eq,List.isPrefixOf_iff_prefix] at hu;rcases hu with hu | ⟨r,hu⟩
 ·exact absurd hu hdr
 obtain ⟨a,l,e,hl,_,_,_,_,_,hup⟩:=JE h;have e2:d++47::r=a++47::l:=by rw [← e,← hu]; simp
 have hda:d=a∨∃ s,a=d++47::s:=by
  rcases List.append_eq_append_iff.1 e2 with ⟨s,h1,h2⟩ | ⟨s,h1,h2⟩
  ·cases s with
   | nil=>left; rw [h1]; simp
   | cons x s =>
    rw [List.cons_append,List.cons.injEq] at h2;obtain ⟨rfl,h2⟩:=h2;exact .inr ⟨s,h1⟩
  ·cases s with
   | nil=>left; rw [h1]; simp
   | cons x s =>
    rw [List.cons_append,List.cons.injEq] at h2;obtain ⟨rfl,h2⟩:=h2;exact absurd (by rw [h2]; simp) hl
 have ha:a≠[]:=by
  rintro rfl;rcases hda with h1 | ⟨s,h1⟩
  ·subst h1; have:=(qP hd).1; simp at this
  ·simp at h1
 rw [if_neg ha] at hup;rcases hda with rfl | ⟨s,hs⟩
 ·exact .inl hup
 ·right;have hne:pUp p≠[47]:=by
   rw [hup,hs];have h1:=(qP hd).1;intro e; have:=congrArg List.length e; simp at this; omega
  refine ⟨hne,(yp h hne).1,?_⟩;unfold und;simp only [Bool.or_eq_true,List.isPrefixOf_iff_prefix];right;exact ⟨s,by rw [hup,hs]; simp⟩
theorem jj {t:List Ent} {p:Str} (h:pOk p=true):get t p=find t p:=by
 unfold get; rw [if_neg (ZG h)]
theorem zcf {t:List Ent}:zK t [47]=true:=rfl

def jF (m:Mark):Option Ent:=if m.kind=1 then some ⟨m.path,false,m.data⟩ else if m.kind=2∨m.kind=4 then some ⟨m.path,true,[]⟩ else none
theorem zgj (out:List Ent) (m:Mark):onP out m=match jF m with
 | some e=>put out e
 | none=>out:=by
 unfold onP jF;by_cases h1:m.kind=1
 ·rw [if_pos h1,if_pos h1]
 ·rw [if_neg h1,if_neg h1];by_cases h2:m.kind=2∨m.kind=4
  ·rw [if_pos h2,if_pos h2]
  ·rw [if_neg h2,if_neg h2]
theorem JC {m:Mark} {e:Ent} (h:jF m=some e):e.path=m.path:=by
 unfold jF at h;split at h
 ·cases h; rfl
 ·split at h
  ·cases h; rfl
  ·cases h
theorem zsW {out:List Ent} {m:Mark} (h:Srt Ent.path out):Srt Ent.path (onP out m):=by
 rw [zgj];split
 ·exact yt h
 ·exact h
theorem zqv {out:List Ent} {m:Mark} {p:Str}:find (onP out m) p=if m.path=p then (jF m).or (find out p) else find out p:=by
 rw [zgj];cases h:jF m with
 | none=>simp
 | some e =>
  have:find (put out e) p=if e.path=p then some e else find out p:=yK
  simp only [this,JC h,Option.some_or]
theorem zhf:∀ {l:List Mark} {out:List Ent},Srt Ent.path out→Srt Ent.path (l.foldl onP out)
 | [],_,h=>h
 | _::l,_,h=>zhf (l:=l) (zsW h)
theorem ze1:∀ {l:List Mark} {out:List Ent} {p:Str},Srt Mark.path l→find (l.foldl onP out) p=match zH l p with
  | some m=>(jF m).or (find out p)
  | none=>find out p
 | [],_,_,_=>rfl
 | m::l,out,p,hs=>by
  unfold Srt at hs;rw [List.pairwise_cons] at hs;rw [List.foldl_cons,ze1 (l:=l) hs.2,zqv];have e:zH (m::l) p=if m.path=p then some m else zH l p:=qg (key:=Mark.path)
  rw [e];by_cases h:m.path=p
  ·have h2:zH l p=none:=qt.2 fun x hx=>by rw [← h]; exact (Zj (hs.1 x hx)).symm
   rw [if_pos h,h2,if_pos h]
  ·rw [if_neg h,if_neg h]
theorem yW {l:List Mark} {t:List Ent} (ht:Srt Ent.path t):Srt Ent.path (jG l t):=zhf (Jc ht _)
theorem Z6 {l:List Mark} {t:List Ent} (hs:Srt Mark.path l) (ht:Srt Ent.path t) (p:Str):find (jG l t) p=match zH l p with
  | some m=>jF m
  | none=>if zJ l p=true then none else find t p:=by
 have hf:find (t.filter fun e=>!zJ l e.path) p=if zJ l p=true then none else find t p:=by
  have h:find (t.filter fun e=>!zJ l e.path) p=(find t p).filter fun e=>!zJ l e.path:=zbY ht
  rw [h];cases hp:find t p with
  | none=>simp
  | some e =>
   have:=(jX hp).1;rw [Option.filter,this];cases zJ l p<;>rfl
 unfold jG;rw [ze1 hs,hf];cases h:zH l p with
 | none=>rfl
 | some m =>
  simp only;obtain ⟨h1,h2⟩:=yb h;cases ho:jF m with
  | some e=>rfl
  | none =>
   have hk:m.kind≠2:=by
    intro e; unfold jF at ho; rw [if_neg (by omega),if_pos (.inl e)] at ho; cases ho
   have:zJ l p=true:=by
    unfold zJ;rw [List.any_eq_true];exact ⟨m,h2,by simp [hidP,h1,hk]⟩
   rw [if_pos this]; rfl
theorem zcB {l:List Mark} {t:List Ent} (hl:lOk l=true) (ht:Srt Ent.path t) (p:Str):find (jG l t) p=match zH l p with
  | some m=>jF m
  | none=>if zJ l p=true then none else find t p:=Z6 (ju.1 hl).2.1 ht p
theorem zcr {l:List Mark} {t:List Ent} (hl:lOk l=true) (ht:Srt Ent.path t) {e:Ent}:e∈jG l t↔(∃ m∈l,jF m=some e)∨(zH l e.path=none∧zJ l e.path=false∧e∈t):=by
 obtain ⟨_,hs,hm,_⟩:=ju.1 hl;have h:e∈jG l t↔find (jG l t) e.path=some e:=Qa (yW ht);rw [h,zcB hl ht];cases hf:zH l e.path with
 | some m =>
  obtain ⟨h1,h2⟩:=yb hf;simp only [reduceCtorEq,false_and,or_false];constructor
  ·exact fun h=>⟨m,h2,h⟩
  ·rintro ⟨m',hm',h'⟩;have:=JC h';have h3:zH l m'.path=some m':=qn hs hm';rw [← this,hf] at h3;cases h3; exact h'
 | none =>
  have hn:∀ m∈l,m.path≠e.path:=qt.1 hf;simp only [true_and];constructor
  ·intro h;right;cases hh:zJ l e.path with
   | true=>rw [hh] at h; simp at h
   | false=>rw [hh] at h; simp at h; exact ⟨rfl,(jX h).2⟩
  ·rintro (⟨m,hm',h'⟩ | ⟨h1,h2⟩)
   ·exact absurd (JC h').symm (hn m hm')
   ·rw [h1]; simp; exact qn ht h2
theorem zrB {m:Mark} {e:Ent} (h:mok m=true) (ho:jF m=some e):eok e=true:=by
 simp only [mok,Bool.and_eq_true,Bool.not_eq_true',Bool.and_eq_false_iff] at h;unfold jF at ho;split at ho
 ·cases ho; simp [eok,h.2.1,h.2.2.1]
 ·split at ho
  ·cases ho; simp [eok,h.2.1]; rfl
  ·cases ho
theorem zrJ {l:List Mark} {t:List Ent} (hl:lOk l=true) (ht:tOk t=true):Srt Ent.path (jG l t)∧(∀ e∈jG l t,eok e=true)∧∀ e∈jG l t,zK (jG l t) (pUp e.path)=true:=by
 obtain ⟨_,hs,hm,hin,hb⟩:=ju.1 hl;obtain ⟨_,ts,te,tu⟩:=Yv.1 ht;refine ⟨yW ts,fun e he=>?_,fun e he=>?_⟩
 ·rcases (zcr hl ts).1 he with ⟨m,h1,h2⟩ | ⟨_,_,h3⟩
  ·exact zrB (hm m h1) h2
  ·exact te e h3
 ·have hd:∀ m∈l,m.kind=2∨m.kind=4→zK (jG l t) m.path=true:=by
   intro m hmem hk;have hp:=yc (hm m hmem);have h3:zH l m.path=some m:=qn hs hmem;unfold zK;rw [jj hp,zcB hl ts,h3];simp only [jF];rw [if_neg (by omega),if_pos hk]
  rcases (zcr hl ts).1 he with ⟨m,h1,h2⟩ | ⟨h1,h2,h3⟩
  ·rw [JC h2];have:=hin m h1;unfold inD at this;simp only [Bool.or_eq_true,beq_iff_eq] at this;rcases this with h | h
   ·rw [h]; rfl
   ·unfold kind at h;cases hf:zH l (pUp m.path) with
    | none=>rw [hf] at h; simp at h
    | some m' =>
     rw [hf] at h;obtain ⟨g1,g2⟩:=yb hf;rw [← g1];exact hd m' g2 h
  ·have hep:=te e h3;simp only [eok,Bool.and_eq_true] at hep;have hpe:=hep.1;have htu:=tu e h3;by_cases hr:pUp e.path=[47]
   ·rw [hr]; rfl
   have hup:=(yp hpe hr).1;have hnot:∀ m∈l,hidP e.path m=false:=by
    intro m hmem;unfold zJ at h2;rw [List.any_eq_false] at h2
    simpa using h2 m hmem
   cases hf:zH l (pUp e.path) with
   | some m =>
    obtain ⟨g1,g2⟩:=yb hf;rw [← g1];refine hd m g2 ?_;have:=hnot m g2;unfold hidP at this;have hu:und e.path m.path=true:=by rw [g1]; exact yF hpe
    simp [hu] at this;exact .inl this.2
   | none =>
    have hh:zJ l (pUp e.path)=false:=by
     unfold zJ;rw [List.any_eq_false];intro m hmem hc;have h0:=hnot m hmem;have hmr:=ZG (yc (hm m hmem));unfold hidP at hc h0;simp only [Bool.or_eq_true,Bool.and_eq_true,beq_iff_eq,bne_iff_ne] at hc;rcases hc with ⟨c1,_⟩ | ⟨c1,c2⟩
     ·exact qt.1 hf m hmem c1
     ·have:=JM hmr hr (yF hpe) c2;simp [this,c1] at h0
    unfold zK at htu ⊢;rw [jj hup] at htu ⊢;rw [zcB hl ts,hf];simp only [hh,Bool.false_eq_true,if_false];exact htu
theorem Qj {l:List Mark} {t t':List Ent} (h:lOn l t=some t'):tOk t'=true:=by
 obtain ⟨h1,h2,h3,rfl⟩:=Qi h;exact Yv.2 ⟨h1,zrJ h2 h3⟩
theorem Ql:∀ {a b:List (List Mark)} {t:List Ent},jE (a++b) t=match jE a t with
  | some t'=>jE b t'
  | none=>none
 | [],_,_=>rfl
 | l::a,b,t=>by
  rw [List.cons_append,jE,jE];cases lOn l t with
  | none=>rfl
  | some t'=>exact Ql (a:=a)
theorem zfQ:∀ {a:List (List Mark)} {t t':List Ent},tOk t=true→jE a t=some t'→tOk t'=true
 | [],t,t',h,h2=>by cases h2; exact h
 | l::a,t,t',h,h2=>by
  rw [jE] at h2;cases h3:lOn l t with
  | none=>rw [h3] at h2; cases h2
  | some x=>rw [h3] at h2; exact zfQ (a:=a) (Qj h3) h2
theorem zaH {o:Over} {t:List Ent} (h:jy o=some t):tOk t=true:=by
 unfold jy at h;split at h
 ·rename_i hc; exact zfQ hc.1 h
 ·cases h
theorem YA {o:Over} {t:List Ent} (h:z7 o=some t):tOk t=true:=by
 unfold z7 at h;split at h
 ·exact Qj h
 ·cases h
def topN (all:List (List Mark)) (p:Str):Nat→Nat
 | 0=>0
 | k+1=>if kind (all.getD k []) p≠0 then k+1 else topN all p k
def allL (o:Over):List (List Mark):=o.layers++[o.upper]
def oGet (o:Over) (p:Str):Option (Ent × Int):=if oOk o=true then (match z7 o with
 | some t=>match get t p with
  | some e=>some (e,(topN (allL o) p (allL o).length:Int))
  | none=>none
 | none=>none) else none
theorem zga {o:Over} (h:oOk o=true):∃ t x,jy o=some t∧z7 o=some x∧o.upper=jf t x:=by
 unfold oOk at h;split at h
 ·rename_i t x h1 h2; exact ⟨t,x,h1,h2,by simpa using h⟩
 ·cases h

section
variable {α:Type} {key:α→Str}
theorem zcY {a b:List α} (ha:Srt key a) (hb:Srt key b) (h:∀ e,e∈a↔e∈b):a=b:=by
 refine Qy ha hb fun p=>?_
 cases ha':fnd key a p with
 | some e =>
  obtain ⟨h1,h2⟩:=yL ha';have:=qn hb ((h e).1 h2);rw [h1] at this; exact this.symm
 | none =>
  refine (qt.2 fun e he hk=>?_).symm;exact qt.1 ha' e ((h e).2 he) hk
theorem zam:∀ {l t:List α} {p:Str},Srt key l→fnd key (l.foldl (jd key) t) p=(fnd key l p).or (fnd key t p)
 | [],t,p,_=>by simp [zan]
 | e::l,t,p,hs=>by
  unfold Srt at hs;rw [List.pairwise_cons] at hs;rw [List.foldl_cons,zam (l:=l) hs.2,yK,qg];by_cases h:key e=p
  ·have h2:fnd key l p=none:=qt.2 fun x hx=>by rw [← h]; exact (Zj (hs.1 x hx)).symm
   rw [if_pos h,if_pos h,h2]; rfl
  ·rw [if_neg h,if_neg h]
theorem zsV {f:α→α} (hf:∀ x,key (f x)=key x) {l:List α} (hs:Srt key l):Srt key (l.map f):=by
 unfold Srt at hs ⊢;rw [List.pairwise_map];exact hs.imp fun h=>by rw [hf,hf]; exact h
theorem ze2 {f:α→α} (hf:∀ x,key (f x)=key x):∀ {l:List α} {p:Str},fnd key (l.map f) p=(fnd key l p).map f
 | [],_=>rfl
 | x::l,p=>by
  rw [List.map_cons,qg,qg,hf,ze2 hf (l:=l)];split<;>rfl
theorem zhe {f:α→Option α} (hf:∀ x y,f x=some y→key y=key x) {l:List α} (hs:Srt key l):Srt key (l.filterMap f):=by
 induction l with
 | nil=>exact List.Pairwise.nil
 | cons x l ih =>
  unfold Srt at hs;rw [List.pairwise_cons] at hs;rw [List.filterMap_cons];split
  ·exact ih hs.2
  ·rename_i y hy;refine List.pairwise_cons.2 ⟨fun z hz=>?_,ih hs.2⟩;obtain ⟨u,hu,hz⟩:=List.mem_filterMap.1 hz;rw [hf _ _ hy,hf _ _ hz]; exact hs.1 u hu
theorem zqu {f:α→Option α} (hf:∀ x y,f x=some y→key y=key x) {l:List α} (hs:Srt key l) {p:Str}:fnd key (l.filterMap f) p=(fnd key l p).bind f:=by
 cases h:fnd key l p with
 | none =>
  rw [qt] at h;refine qt.2 fun e he hk=>?_
  obtain ⟨u,hu,he⟩:=List.mem_filterMap.1 he;exact h u hu (by rw [← hf _ _ he,hk])
 | some e =>
  obtain ⟨h1,h2⟩:=yL h;simp only [Option.bind_some];cases hy:f e with
  | some y =>
   have:=qn (zhe hf hs) (List.mem_filterMap.2 ⟨e,h2,hy⟩);rw [hf _ _ hy,h1] at this; exact this
  | none =>
   refine qt.2 fun z hz hk=>?_
   obtain ⟨u,hu,hz⟩:=List.mem_filterMap.1 hz;have:fnd key l (key u)=some u:=qn hs hu;rw [← hf _ _ hz,hk,h] at this;cases this;rw [hy] at hz; cases hz
end
structure LG (l:List Mark):Prop where
 srt:Srt Mark.path l
 ok:∀ m∈l,mok m=true
theorem LG.of {l:List Mark} (h:lOk l=true):LG l:=by obtain ⟨_,hs,hm,_⟩:=ju.1 h; exact ⟨hs,hm⟩
theorem LG.path {l:List Mark} (h:LG l) {m:Mark} (hm:m∈l):pOk m.path=true:=yc (h.ok m hm)
theorem LG.root {l:List Mark} (h:LG l) {m:Mark} (hm:m∈l):m.path≠[47]:=ZG (h.path hm)
theorem LG.at {l:List Mark} (h:LG l) {m:Mark} (hm:m∈l):zH l m.path=some m:=qn h.srt hm
theorem Z3 {m:Mark} (h:mok m=true):1≤m.kind∧m.kind≤4:=by
 simp only [mok,Bool.and_eq_true,decide_eq_true_eq] at h; exact h.1
theorem zf1 {m:Mark} (h:mok m=true) (hk:m.kind≠1):m.data=[]:=by
 simp only [mok,Bool.and_eq_true,Bool.not_eq_true',Bool.and_eq_false_iff] at h;have:=h.2.2.2;simp [hk] at this; exact this
theorem zf2 {m:Mark} (h:mok m=true) {k:Int} (h1:2≤k) (h2:k≤4) (hk:m.kind≠1):mok { m with kind:=k }=true:=by
 have hd:=zf1 h hk;have hp:=yc h;simp only [mok,Bool.and_eq_true] at h ⊢;refine ⟨⟨by simp; omega,by simpa using h2⟩,hp,h.2.2.1,by simp [hd]⟩
theorem LG.kind0 {l:List Mark} (h:LG l) {p:Str}:kind l p=0↔zH l p=none:=by
 unfold kind;cases hf:zH l p with
 | none=>simp
 | some m =>
  have:=Z3 (h.ok m (yb hf).2);simp; omega
theorem zq5 {l:List Mark} {p:Str} {m:Mark} (h:zH l p=some m):kind l p=m.kind:=by unfold kind; rw [h]
theorem qO {l:List Mark} {p:Str} {m:Mark} (hm:m∈l) (hk:m.kind≠2) (h:m.path=p∨und p m.path=true):zJ l p=true:=by
 unfold zJ; rw [List.any_eq_true];refine ⟨m,hm,?_⟩;unfold hidP;rcases h with h | h
 ·simp [h,hk]
 ·simp [h,hk]
theorem Z5 {l:List Mark} {p:Str} (h:zJ l p=true):∃ m∈l,m.kind≠2∧(m.path=p∨und p m.path=true):=by
 unfold zJ at h; rw [List.any_eq_true] at h;obtain ⟨m,hm,h⟩:=h;unfold hidP at h;simp only [Bool.or_eq_true,Bool.and_eq_true,beq_iff_eq,bne_iff_ne] at h;rcases h with ⟨h1,h2⟩ | ⟨h1,h2⟩
 ·exact ⟨m,hm,h2,.inl h1⟩
 ·exact ⟨m,hm,h1,.inr h2⟩
theorem LG.hides_und {l:List Mark} (h:LG l) {p d:Str} (hd:d≠[47]) (hu:und p d=true) (hh:zJ l d=true):zJ l p=true:=by
 obtain ⟨m,hm,hk,h1⟩:=Z5 hh;refine qO hm hk (.inr ?_);rcases h1 with h1 | h1
 ·rw [h1]; exact hu
 ·exact JM (h.root hm) hd hu h1
theorem JB {l:List Mark} {p:Str} (h:je l p=true):∃ m∈l,m.kind=4∧und p m.path=true:=by
 unfold je at h; rw [List.any_eq_true] at h;obtain ⟨m,hm,h⟩:=h;simp only [Bool.and_eq_true,beq_iff_eq] at h;exact ⟨m,hm,h.1,h.2⟩
theorem QL {l:List Mark} {p:Str} {m:Mark} (hm:m∈l) (hk:m.kind=4) (h:und p m.path=true):je l p=true:=by
 unfold je; rw [List.any_eq_true];exact ⟨m,hm,by simp [hk,h]⟩
theorem zdt {l:List Mark} {p:Str} (h:je l p=true):zJ l p=true:=by
 obtain ⟨m,hm,hk,hu⟩:=JB h;exact qO hm (by omega) (.inr hu)
theorem LG.bare_und {l:List Mark} (h:LG l) {p d:Str} (hd:d≠[47]) (hu:und p d=true) (hh:je l d=true):je l p=true:=by
 obtain ⟨m,hm,hk,h1⟩:=JB hh;exact QL hm hk (JM (h.root hm) hd hu h1)
theorem zhy {p d:Str} (h:und p d=true) (hd:d≠[47]):d.length < p.length:=by
 unfold und at h;simp only [Bool.or_eq_true,beq_iff_eq,List.isPrefixOf_iff_prefix] at h;rcases h with h | h
 ·exact absurd h hd
 ·have:=h.length_le; simp at this; omega
theorem LG.bare_top {l:List Mark} (h:LG l):∀ (n:Nat) {p:Str},p.length≤n→je l p=true→∃ m∈l,m.kind=4∧und p m.path=true∧je l m.path=false
 | 0,p,hn,hb=>by
  obtain ⟨m,hm,hk,hu⟩:=JB hb;have:=zhy hu (h.root hm); omega
 | n+1,p,hn,hb=>by
  obtain ⟨m,hm,hk,hu⟩:=JB hb;cases hb2:je l m.path with
  | false=>exact ⟨m,hm,hk,hu,hb2⟩
  | true =>
   have:=zhy hu (h.root hm);obtain ⟨m',h1,h2,h3,h4⟩:=h.bare_top n (p:=m.path) (by omega) hb2;exact ⟨m',h1,h2,JM (h.root h1) (h.root hm) hu h3,h4⟩
def qS (l:List Mark) (m:Mark):Option Mark:=if je l m.path=true then (if m.kind=3 then none else some (if m.kind=4 then { m with kind:=2 } else m)) else some m
def ZK (l:List Mark):List Mark:=l.filterMap (qS l)
theorem za8 {l:List Mark} (x y:Mark) (h:qS l x=some y):y.path=x.path:=by
 unfold qS at h;split at h
 ·split at h
  ·cases h
  ·cases h; split<;>rfl
 ·cases h; rfl
theorem zhq {l:List Mark} {m:Mark} (h:je l m.path=false):qS l m=some m:=by unfold qS; simp [h]
theorem zhn {l:List Mark} (h:LG l) {p:Str}:zH (ZK l) p=(zH l p).bind (qS l):=zqu za8 h.srt
theorem Qp {l:List Mark} {m:Mark}:m∈ZK l↔∃ x∈l,qS l x=some m:=List.mem_filterMap
theorem zhp {l:List Mark} {m:Mark} (hm:m∈l) (h:je l m.path=false):m∈ZK l:=Qp.2 ⟨m,hm,zhq h⟩
theorem za7 {l:List Mark} {x y:Mark} (h:qS l x=some y):y=x∨(x.kind=4∧y={ x with kind:=2 }):=by
 unfold qS at h;split at h
 ·split at h
  ·cases h
  ·split at h
   ·cases h; exact .inr ⟨by assumption,rfl⟩
   ·cases h; exact .inl rfl
 ·cases h; exact .inl rfl
theorem LG.tidy {l:List Mark} (h:LG l):LG (ZK l):=by
 refine ⟨zhe za8 h.srt,fun m hm=>?_⟩;obtain ⟨x,hx,e⟩:=Qp.1 hm;rcases za7 e with rfl | ⟨hk,rfl⟩
 ·exact h.ok _ hx
 ·exact zf2 (h.ok x hx) (by omega) (by omega) (by omega)
theorem LG.tidy_bare {l:List Mark} (h:LG l) {p:Str}:je (ZK l) p=je l p:=by
 rw [Bool.eq_iff_iff];constructor
 ·intro hb;obtain ⟨m,hm,hk,hu⟩:=JB hb;obtain ⟨x,hx,e⟩:=Qp.1 hm;rcases za7 e with rfl | ⟨_,rfl⟩
  ·exact QL hx hk hu
  ·simp at hk
 ·intro hb;obtain ⟨m,hm,hk,hu,hn⟩:=h.bare_top p.length (Nat.le_refl _) hb;exact QL (zhp hm hn) hk hu
theorem LG.tidy_hides {l:List Mark} (h:LG l) {p:Str}:zJ (ZK l) p=zJ l p:=by
 rw [Bool.eq_iff_iff];constructor
 ·intro hb;obtain ⟨m,hm,hk,hu⟩:=Z5 hb;obtain ⟨x,hx,e⟩:=Qp.1 hm;rcases za7 e with rfl | ⟨_,rfl⟩
  ·exact qO hx hk hu
  ·simp at hk
 ·intro hb;obtain ⟨m,hm,hk,hu⟩:=Z5 hb;cases hb2:je l m.path with
  | false=>exact qO (zhp hm hb2) hk hu
  | true =>
   have:je l p=true:=by
    rcases hu with hu | hu
    ·rw [← hu]; exact hb2
    ·exact h.bare_und (h.root hm) hu hb2
   exact zdt (by rw [h.tidy_bare]; exact this)
theorem zrK {l:List Mark} {t:List Ent} (h:LG l) (ht:Srt Ent.path t):jG (ZK l) t=jG l t:=by
 refine Qy (yW ht) (yW ht) fun p=>?_
 show find _ p=find _ p;rw [Z6 h.tidy.srt ht,Z6 h.srt ht,zhn h,h.tidy_hides];cases hf:zH l p with
 | none=>rfl
 | some m =>
  obtain ⟨h1,h2⟩:=yb hf;simp only [Option.bind_some];unfold qS;by_cases hb:je l m.path=true
  ·rw [if_pos hb];have hh:zJ l p=true:=zdt (by rw [← h1]; exact hb);by_cases h3:m.kind=3
   ·rw [if_pos h3,hh];simp [jF,h3]
   ·rw [if_neg h3];by_cases h4:m.kind=4
    ·rw [if_pos h4]; simp [jF,h4]
    ·rw [if_neg h4]
  ·rw [if_neg hb]
def qu (a b:Int):Int:=if a=2∧b≠0∧b≠2 then 4 else a
def jY (b:List Mark) (m:Mark):Mark:={ m with kind:=qu m.kind (kind b m.path) }
def qk (a:List Mark) (m:Mark):Bool:=!zJ a m.path&&kind a m.path==0
def qp (a b:List Mark):List Mark:=(a.map (jY b)).foldl jH ((b.filter (qk a)).foldl jH [])
def qZ (a b:List Mark):List Mark:=ZK (qp a b)
theorem zdy {a b:Int} (h:a≠2):qu a b=a:=by unfold qu; rw [if_neg (by simp [h])]
theorem zdx {a b:Int}:qu a b=2∨qu a b=4↔a=2∨a=4:=by
 unfold qu;split
 ·omega
 ·exact Iff.rfl
theorem zch {a b:List Mark} (ha:LG a) (hb:LG b) {p:Str}:zH (qp a b) p=match zH a p with
  | some m=>some (jY b m)
  | none=>if zJ a p=true then none else zH b p:=by
 have h1:fnd Mark.path (qp a b) p=(fnd Mark.path (a.map (jY b)) p).or (fnd Mark.path ((b.filter (qk a)).foldl jH []) p):=zam (zsV (f:=jY b) (fun _=>rfl) ha.srt);have h2:fnd Mark.path ((b.filter (qk a)).foldl jH []) p=(fnd Mark.path (b.filter (qk a)) p).or (fnd Mark.path [] p):=zam (Jc hb.srt _);have h3:fnd Mark.path (b.filter (qk a)) p=(zH b p).filter (qk a):=zbY hb.srt;have h4:fnd Mark.path (a.map (jY b)) p=(zH a p).map (jY b):=ze2 (f:=jY b) (fun _=>rfl);show fnd Mark.path (qp a b) p=_;rw [h1,h2,h3,h4,zan];cases hf:zH a p with
 | some m=>rfl
 | none =>
  have hk:=ha.kind0.2 hf;cases hg:zH b p with
  | none=>simp
  | some m =>
   have hp:=(yb hg).1;simp [Option.filter,qk,hp,hk];cases zJ a p<;>rfl
theorem zfx {a b:List Mark}:Srt Mark.path (qp a b):=zao (zao List.Pairwise.nil)
theorem Qn {a b:List Mark} (ha:LG a) (hb:LG b) {m:Mark}:m∈qp a b↔(∃ x∈a,m=jY b x)∨(m∈b∧zH a m.path=none∧zJ a m.path=false):=by
 have h:m∈qp a b↔zH (qp a b) m.path=some m:=Qa zfx;rw [h,zch ha hb];cases hf:zH a m.path with
 | some x =>
  obtain ⟨h1,h2⟩:=yb hf;simp only [Option.some.injEq,reduceCtorEq,false_and,and_false,or_false];constructor
  ·rintro rfl; exact ⟨x,h2,rfl⟩
  ·rintro ⟨y,hy,rfl⟩;have:zH a y.path=some y:=ha.at hy;have e:(jY b y).path=y.path:=rfl;rw [e,this] at hf; cases hf; rfl
 | none =>
  simp only [true_and];have hn:¬ ∃ x∈a,m=jY b x:=by
   rintro ⟨y,hy,rfl⟩;have:zH a y.path=some y:=ha.at hy;have e:(jY b y).path=y.path:=rfl;rw [e,this] at hf; cases hf
  cases hh:zJ a m.path with
  | true=>simp [hn]
  | false =>
   simp only [Bool.false_eq_true,if_false,hn,and_true,false_or];exact (Qa hb.srt).symm
theorem Yc {a b:List Mark} (ha:LG a) (hb:LG b):LG (qp a b):=by
 refine ⟨zfx,fun m hm=>?_⟩;rcases (Qn ha hb).1 hm with ⟨x,hx,rfl⟩ | ⟨h,_⟩
 ·have ho:=ha.ok x hx;by_cases hk:x.kind=2
  ·refine zf2 ho ?_ ?_ (by omega)<;>(unfold qu; split<;>omega)
  ·have:jY b x=x:=by unfold jY; rw [zdy hk]
   rw [this]; exact ho
 ·exact hb.ok m h
theorem zrC {b:List Mark} {m:Mark}:jF (jY b m)=jF m:=by
 unfold jF jY qu;by_cases h:m.kind=2∧kind b m.path≠0∧kind b m.path≠2
 ·simp [h,h.1]
 ·simp only [if_neg h]
theorem zrI {a b:List Mark} {t:List Ent} (ha:LG a) (hb:LG b) (ht:Srt Ent.path t):jG (qp a b) t=jG a (jG b t):=by
 refine Qy (yW ht) (yW (yW ht)) fun p=>?_
 show find _ p=find _ p;have hj:=Yc ha hb;rw [Z6 hj.srt ht,Z6 ha.srt (yW ht),Z6 hb.srt ht,zch ha hb];cases hf:zH a p with
 | some m=>exact zrC
 | none =>
  have hne:∀ {m},m∈a→m.path≠p:=fun {m} hm e=>by have:=ha.at hm; rw [e,hf] at this; cases this
  cases hh:zJ a p with
  | true =>
   obtain ⟨m,hm,hk,hu⟩:=Z5 hh;have hu:und p m.path=true:=hu.resolve_left (hne hm);have:zJ (qp a b) p=true:=by
    refine qO (m:=jY b m) ((Qn ha hb).2 (.inl ⟨m,hm,rfl⟩)) ?_ (.inr hu);show qu m.kind _≠2;rw [zdy hk]; exact hk
   simp [this]
  | false =>
   simp only [Bool.false_eq_true,if_false];cases hg:zH b p with
   | some m=>rfl
   | none =>
    have hnb:∀ {m},m∈b→m.path≠p:=fun {m} hm e=>by have:=hb.at hm; rw [e,hg] at this; cases this
    have key:zJ (qp a b) p=zJ b p:=by
     rw [Bool.eq_iff_iff];constructor
     ·intro h;obtain ⟨m,hm,hk,hu⟩:=Z5 h;rcases (Qn ha hb).1 hm with ⟨x,hx,rfl⟩ | ⟨h1,_⟩
      ·have hu:und p x.path=true:=hu.resolve_left (fun e=>hne hx e);have hx2:x.kind=2:=by
        apply Classical.byContradiction; intro hn;have:=qO hx hn (.inr hu); rw [hh] at this; cases this
       have hkb:kind b x.path≠0∧kind b x.path≠2:=by
        apply Classical.byContradiction; intro hn;apply hk;show qu x.kind _=2;unfold qu; rw [if_neg (fun e=>hn e.2)]; exact hx2
       unfold kind at hkb;cases hy:zH b x.path with
       | none=>rw [hy] at hkb; exact absurd rfl hkb.1
       | some y =>
        rw [hy] at hkb;obtain ⟨g1,g2⟩:=yb hy;exact qO g2 hkb.2 (.inr (by rw [g1]; exact hu))
      ·exact qO h1 hk (.inr (hu.resolve_left (hnb h1)))
     ·intro h;obtain ⟨m,hm,hk,hu⟩:=Z5 h;have hu:und p m.path=true:=hu.resolve_left (hnb hm);cases hy:zH a m.path with
      | some x =>
       obtain ⟨g1,g2⟩:=yb hy;have hx2:x.kind=2:=by
        apply Classical.byContradiction; intro hn;have:=qO g2 hn (.inr (by rw [g1]; exact hu)); rw [hh] at this; cases this
       refine qO (m:=jY b x) ((Qn ha hb).2 (.inl ⟨x,g2,rfl⟩)) ?_ (.inr (by show und p x.path=true; rw [g1]; exact hu));show qu x.kind (kind b x.path)≠2;have e:kind b x.path=m.kind:=by rw [g1]; exact zq5 (hb.at hm)
       have:=Z3 (hb.ok m hm);unfold qu; rw [if_pos ⟨hx2,by omega,by omega⟩]; omega
      | none =>
       have hn:zJ a m.path=false:=by
        cases hz:zJ a m.path with
        | false=>rfl
        | true=>have:=ha.hides_und (hb.root hm) hu hz; rw [hh] at this; cases this
       exact qO ((Qn ha hb).2 (.inr ⟨hm,hy,hn⟩)) hk (.inr hu)
    rw [key]
theorem zrH {a b:List Mark} {t:List Ent} (ha:LG a) (hb:LG b) (ht:Srt Ent.path t):jG (qZ a b) t=jG a (jG b t):=by
 unfold qZ; rw [zrK (Yc ha hb) ht,zrI ha hb ht]
theorem zqZ {a b:List Mark} (ha:LG a) (hb:LG b):LG (qZ a b):=(Yc ha hb).tidy
theorem yy {l:List Mark} {p:Str}:inD l p=true↔pUp p=[47]∨∃ m,zH l (pUp p)=some m∧(m.kind=2∨m.kind=4):=by
 unfold inD kind;cases h:zH l (pUp p) with
 | none=>simp
 | some m=>simp
theorem zq0 {a b:List Mark} (ha:lOk a=true) (hb:lOk b=true) (hl:(qZ a b).length≤32):lOk (qZ a b)=true:=by
 have ga:=LG.of ha;have gb:=LG.of hb;have g0:=Yc ga gb;have gj:=zqZ ga gb;obtain ⟨_,_,_,ia,_⟩:=ju.1 ha;obtain ⟨_,_,_,ib,_⟩:=ju.1 hb;refine ju.2 ⟨hl,gj.srt,gj.ok,fun m hm=>?_,fun m hm hk=>?_⟩
 ·obtain ⟨x,hx,e⟩:=Qp.1 hm;have hp:=za8 _ _ e;have hxp:=g0.path hx;rw [yy,hp];by_cases hr:pUp x.path=[47]
  ·exact .inl hr
  right;have hup:=(yp hxp hr).1;have key:∃ y,zH (qp a b) (pUp x.path)=some y∧(y.kind=2∨y.kind=4):=by
   rw [zch ga gb];rcases (Qn ga gb).1 hx with ⟨z,hz,e2⟩ | ⟨h1,h2,h3⟩
   ·have hzp:x.path=z.path:=by rw [e2]; rfl
    rw [hzp] at hr hup ⊢;rcases yy.1 (ia z hz) with h | ⟨y,hy,hk⟩
    ·exact absurd h hr
    ·rw [hy]; exact ⟨_,rfl,zdx.2 hk⟩
   ·rcases yy.1 (ib x h1) with h | ⟨y,hy,hk⟩
    ·exact absurd h hr
    ·cases hz:zH a (pUp x.path) with
     | some z =>
      obtain ⟨q1,q2⟩:=yb hz;have:z.kind=2:=by
       apply Classical.byContradiction; intro hn;have:=qO (p:=x.path) q2 hn (.inr (by rw [q1]; exact yF hxp));rw [h3] at this; cases this
      exact ⟨_,rfl,zdx.2 (.inl this)⟩
     | none =>
      have:zJ a (pUp x.path)=false:=by
       cases hq:zJ a (pUp x.path) with
       | false=>rfl
       | true=>have:=ga.hides_und hr (yF hxp) hq; rw [h3] at this; cases this
      simp only [this,Bool.false_eq_true,if_false];exact ⟨y,hy,hk⟩
  obtain ⟨y,hy,hk⟩:=key;unfold qZ;rw [zhn g0,hy];simp only [Option.bind_some];unfold qS;split
  ·rw [if_neg (by omega)];refine ⟨_,rfl,?_⟩;split
   ·exact .inl rfl
   ·exact hk
  ·exact ⟨_,rfl,hk⟩
 ·unfold qZ;rw [g0.tidy_bare];obtain ⟨x,hx,e⟩:=Qp.1 hm;have hp:=za8 _ _ e;have hmk:=Z3 (gj.ok m hm);rw [hp];cases hb:je (qp a b) x.path with
  | false=>rfl
  | true =>
   unfold qS at e;rw [if_pos hb] at e;split at e
   ·cases e
   ·cases e;split at hk
    ·simp at hk
    ·split at hmk
     ·omega
     ·omega
def yn (a b:List Mark):Option (List Mark):=if (lOk a&&lOk b)=true then (if (qZ a b).length≤32 then some (qZ a b) else none) else none
def eMarksO:Option (List Mark)→CV
 | none => .tup [ze [],CB false]
 | some t => .tup [ze t,CB true]
theorem zq7 {a b j:List Mark} (h:yn a b=some j):lOk a=true∧lOk b=true∧j=qZ a b∧lOk j=true:=by
 unfold yn at h;split at h
 ·rename_i hc;simp only [Bool.and_eq_true] at hc;split at h
  ·cases h; exact ⟨hc.1,hc.2,rfl,zq0 hc.1 hc.2 (by assumption)⟩
  ·cases h
 ·cases h
def qy (out:List Mark) (m:Mark):List Mark:=if je out m.path=true then (if m.kind=3 then out else out++[if m.kind=4 then { m with kind:=2 } else m]) else out++[m]
theorem zbX {α β:Type} {f:α→Option β} {l:List α} {k:Nat} (h:k < l.length):(l.take (k+1)).filterMap f=(l.take k).filterMap f++(f l[k]).toList:=by
 rw [List.take_succ_eq_append_getElem h,List.filterMap_append];cases hf:f l[k]<;>simp [hf]
theorem zho {l:List Mark} (h:LG l):∀ {k:Nat},k≤l.length→(l.take k).foldl qy []=(l.take k).filterMap (qS l)
 | 0,_=>by simp
 | k+1,hk=>by
  have hk':k < l.length:=by omega
  rw [qX hk',zho h (by omega),zbX hk'];have hm:l[k]∈l:=List.getElem_mem hk';have e:je ((l.take k).filterMap (qS l)) l[k].path=je l l[k].path:=by
   rw [Bool.eq_iff_iff];constructor
   ·intro hb;obtain ⟨m,hm',hk4,hu⟩:=JB hb;obtain ⟨x,hx,e⟩:=List.mem_filterMap.1 hm';rcases za7 e with rfl | ⟨_,rfl⟩
    ·exact QL (List.mem_of_mem_take hx) hk4 hu
    ·simp at hk4
   ·intro hb;obtain ⟨m,hm',hk4,hu,hn⟩:=h.bare_top _ (Nat.le_refl _) hb;have hlt:=zdc hu (h.root hm');refine QL (m:=m) (List.mem_filterMap.2 ⟨m,?_,zhq hn⟩) hk4 hu;have h1:=zbZ h.srt hk' hlt;have h2:fnd Mark.path l m.path=some m:=qn h.srt hm';rw [h2] at h1;exact (yL h1).2
  rw [qy,e];unfold qS;split
  ·split
   ·simp
   ·simp
  ·simp
theorem zte {l:List Mark} (h:LG l):l.foldl qy []=ZK l:=by
 have:=zho h (Nat.le_refl l.length);rw [List.take_length] at this; exact this

theorem zaP {α:Type} [DecidableEq α]:∀ {l k:List α},l.Nodup→(∀ x∈l,x∈k)→l.length≤k.length
 | [],_,_,_=>by simp
 | x::l,k,hn,h=>by
  rw [List.nodup_cons] at hn;have hx:=h x (by simp);have ih:=zaP (l:=l) (k:=k.erase x) hn.2 fun y hy=>by
   refine (List.mem_erase_of_ne ?_).2 (h y (by simp [hy]));rintro rfl; exact hn.1 hy
  rw [List.length_erase_of_mem hx] at ih;have:=List.length_pos_of_mem hx;simp; omega
theorem Je {α:Type} {key:α→Str} {l:List α} (hs:Srt key l):(l.map key).Nodup:=by
 unfold List.Nodup;rw [List.pairwise_map];exact hs.imp fun h=>Zj h
structure TG (t:List Ent):Prop where
 len:t.length≤16
 srt:Srt Ent.path t
 ok:∀ e∈t,eok e=true
 up:∀ e∈t,zK t (pUp e.path)=true
theorem TG.of {t:List Ent} (h:tOk t=true):TG t:=by obtain ⟨a,b,c,d⟩:=Yv.1 h; exact ⟨a,b,c,d⟩
theorem TG.path {t:List Ent} (h:TG t) {e:Ent} (he:e∈t):pOk e.path=true:=by
 have:=h.ok e he; simp only [eok,Bool.and_eq_true] at this; exact this.1
theorem TG.data {t:List Ent} (h:TG t) {e:Ent} (he:e∈t) (hd:e.dir=true):e.data=[]:=by
 have:=h.ok e he; simp only [eok,Bool.and_eq_true,hd,Bool.true_and] at this
 simpa using this.2.2
theorem TG.datOk {t:List Ent} (h:TG t) {e:Ent} (he:e∈t):qv e.data=true:=by
 have:=h.ok e he; simp only [eok,Bool.and_eq_true] at this; exact this.2.1
theorem TG.at {t:List Ent} (h:TG t) {e:Ent} (he:e∈t):find t e.path=some e:=qn h.srt he
theorem TG.find_ok {t:List Ent} (h:TG t) {p:Str} {e:Ent} (hf:find t p=some e):pOk p=true:=by
 obtain ⟨h1,h2⟩:=jX hf; rw [← h1]; exact h.path h2
theorem TG.isDir_ent {t:List Ent} (h:TG t) {p:Str} (hp:pOk p=true) (hd:zK t p=true):find t p=some ⟨p,true,[]⟩:=by
 unfold zK at hd;rw [jj hp] at hd;cases hf:find t p with
 | none=>rw [hf] at hd; cases hd
 | some e =>
  rw [hf] at hd;obtain ⟨h1,h2⟩:=jX hf;have:=h.data h2 hd;obtain ⟨a,b,c⟩:=e;simp at h1 hd this;rw [h1,hd,this]
theorem TG.anc {t:List Ent} (h:TG t):∀ (n:Nat) {p d:Str},(names p).length≤n→pOk p=true→pOk d=true→und p d=true→zK t (pUp p)=true→find t d=some ⟨d,true,[]⟩
 | 0,p,d,hn,hp,_,_,_=>by have:=(ye hp).1.1; omega
 | n+1,p,d,hn,hp,hd,hu,hf=>by
  rcases zdb hp hd hu with h1 | ⟨h1,h2,h3⟩
  ·rw [h1] at hf; exact h.isDir_ent hd hf
  ·have hup:=(yp hp h1).2.2;refine h.anc n (by omega) h2 hd h3 ?_;have:=h.isDir_ent h2 hf;exact h.up _ (jX this).2
theorem TG.anc' {t:List Ent} (h:TG t) {p d:Str} {e:Ent} (hf:find t p=some e) (hd:pOk d=true) (hu:und p d=true):find t d=some ⟨d,true,[]⟩:=by
 have hp:=h.find_ok hf;refine h.anc _ (Nat.le_refl _) hp hd hu ?_;obtain ⟨h1,h2⟩:=jX hf;have:=h.up e h2;rw [h1] at this; exact this
abbrev SrtS (l:List Str):Prop:=Srt (fun s:Str=>s) l
theorem zbU {a b:List Ent} (ha:TG a) (hb:TG b) {p:Str}:find (both a b) p=(find b p).or (find a p):=zam hb.srt
theorem zdz {a b:List Ent} (ha:TG a):Srt Ent.path (both a b):=zao ha.srt
theorem zhx {a b:List Ent} (ha:TG a):SrtS (zZ a b):=by
 have:=Jc (zdz (b:=b) ha) (tudP a b);unfold Srt at this;unfold zZ;show List.Pairwise _ _;rw [List.pairwise_map]; exact this
theorem Z2 {a b:List Ent} (ha:TG a) (hb:TG b) {p:Str}:p∈zZ a b↔find a p≠find b p:=by
 have hok:∀ {q},(∃ e,find a q=some e)∨(∃ e,find b q=some e)→pOk q=true:=by
  rintro q (⟨e,h⟩ | ⟨e,h⟩)
  ·exact ha.find_ok h
  ·exact hb.find_ok h
 unfold zZ;rw [List.mem_map];constructor
 ·rintro ⟨e,he,rfl⟩;obtain ⟨h1,h2⟩:=List.mem_filter.1 he;have:find (both a b) e.path=some e:=qn (zdz ha) h1;rw [zbU ha hb] at this;have hp:pOk e.path=true:=by
   refine hok ?_;cases hb':find b e.path with
   | some x=>exact .inr ⟨x,rfl⟩
   | none=>rw [hb'] at this; exact .inl ⟨e,by simpa using this⟩
  simp only [tudP,decide_eq_true_eq,jj hp] at h2;exact h2
 ·intro h;cases hf:find (both a b) p with
  | none =>
   rw [zbU ha hb] at hf;cases hb':find b p with
   | some x=>rw [hb'] at hf; cases hf
   | none=>rw [hb'] at hf h; simp at hf; rw [hf] at h; exact absurd rfl h
  | some e =>
   obtain ⟨h1,h2⟩:=jX hf;refine ⟨e,List.mem_filter.2 ⟨h2,?_⟩,h1⟩;rw [zbU ha hb] at hf;have hp:pOk p=true:=by
    refine hok ?_;cases hb':find b p with
    | some x=>exact .inr ⟨x,rfl⟩
    | none=>rw [hb'] at hf; exact .inl ⟨e,by simpa using hf⟩
   simp only [tudP,decide_eq_true_eq,h1,jj hp];exact h
theorem zde:∀ (n:Nat) {p u:Str},pOk p=true→u∈jJ n p→pOk u=true∧und p u=true∧(pUp u=[47]∨(names p).length≤n→pUp u=[47]∨pUp u∈jJ n p)
 | 0,p,u,_,h=>by simp [jJ] at h
 | n+1,p,u,hp,h=>by
  unfold jJ at h ⊢;split at h
  ·simp at h
  ·rename_i hr;rw [if_neg hr];obtain ⟨q1,q2,q3⟩:=yp hp hr;rcases List.mem_cons.1 h with rfl | h
   ·refine ⟨q1,yF hp,fun hh=>?_⟩;by_cases hr2:pUp (pUp p)=[47]
    ·exact .inl hr2
    ·rcases hh with hh | hh
     ·exact .inl hh
     ·right;have hn1:=(ye q1).1.1;cases n with
      | zero=>omega
      | succ n=>refine List.mem_cons_of_mem _ ?_; unfold jJ; rw [if_neg hr2]; simp
   ·obtain ⟨h1,h2,h3⟩:=zde n q1 h;refine ⟨h1,JM (ZG h1) hr (yF hp) h2,fun hh=>?_⟩;rcases h3 (hh.imp id fun hh=>by omega) with h4 | h4
    ·exact .inl h4
    ·exact .inr (List.mem_cons_of_mem _ h4)
def DS (b:List Ent) (ps:List Str) (x:Mark):Prop:=(∃ p∈ps,zY b p=some x)∨∃ p∈ps,(zY b p).isSome=true∧∃ u∈jJ 3 p,x=⟨u,2,[]⟩
theorem Zv {b:List Ent} {p:Str} {x:Mark} (h:zY b p=some x):x.path=p:=by
 unfold zY at h;split at h
 ·cases h; rfl
 ·split at h
  ·cases h; rfl
  ·cases h
theorem zom {b:List Ent} (hb:TG b) {p:Str} (hp:pOk p=true) (h:(zY b p).isSome=true):zK b (pUp p)=true:=by
 unfold zY at h;rw [jj hp] at h;cases hf:find b p with
 | none =>
  rw [hf] at h; simp only at h;split at h
  ·assumption
  ·cases h
 | some e =>
  obtain ⟨h1,h2⟩:=jX hf;have:=hb.up e h2;rw [h1] at this; exact this
theorem zdV {b:List Ent} {p:Str} (hp:pOk p=true) (h:find b p=some ⟨p,true,[]⟩):zY b p=some ⟨p,2,[]⟩:=by
 unfold zY; rw [jj hp,h]; rfl
theorem zhA {b:List Ent} (hb:TG b) {p u:Str} (hp:pOk p=true) (h:(zY b p).isSome=true) (hu:u∈jJ 3 p):pOk u=true∧und p u=true∧find b u=some ⟨u,true,[]⟩:=by
 obtain ⟨h1,h2,_⟩:=zde 3 hp hu;exact ⟨h1,h2,hb.anc _ (Nat.le_refl _) hp h1 h2 (zom hb hp h)⟩
theorem DS.one {b:List Ent} (hb:TG b) {ps:List Str} (hps:∀ p∈ps,pOk p=true) {x y:Mark} (hx:DS b ps x) (hy:DS b ps y) (h:x.path=y.path):x=y:=by
 have key:∀ {z},DS b ps z→pOk z.path=true∧((∃ p∈ps,zY b p=some z∧z.path=p)∨(z=⟨z.path,2,[]⟩∧find b z.path=some ⟨z.path,true,[]⟩)):=by
  rintro z (⟨p,hp,e⟩ | ⟨p,hp,hs,u,hu,rfl⟩)
  ·have:=Zv e;exact ⟨by rw [this]; exact hps p hp,.inl ⟨p,hp,e,this⟩⟩
  ·have:=zhA hb (hps p hp) hs hu;exact ⟨this.1,.inr ⟨rfl,this.2.2⟩⟩
 obtain ⟨hxp,hx⟩:=key hx;obtain ⟨_,hy⟩:=key hy;rcases hx with ⟨p,hp,e,e1⟩ | ⟨e,e1⟩<;>rcases hy with ⟨q,hq,f,f1⟩ | ⟨f,f1⟩
 ·have:p=q:=by rw [← e1,← f1,h]
  subst this; rw [e] at f; cases f; rfl
 ·rw [← h] at f1 f;rw [← e1] at e;rw [zdV hxp f1] at e; exact (Option.some.inj e).symm.trans f.symm
 ·rw [h] at e1 e hxp;rw [← f1] at f;rw [zdV hxp e1] at f; exact e.trans (Option.some.inj f)
 ·rw [e,f,h]
theorem zfW {α:Type} {key:α→Str} {t:List α} {e x:α} (hs:Srt key t) (h:∀ y∈t,key y=key e→y=e):x∈jd key t e↔x∈t∨x=e:=by
 have h1:x∈jd key t e↔fnd key (jd key t e) (key x)=some x:=Qa (yt hs);rw [h1,yK];by_cases hk:key e=key x
 ·rw [if_pos hk];constructor
  ·intro e'; cases e'; exact .inr rfl
  ·rintro (hx|rfl)
   ·rw [h x hx hk.symm]
   ·rfl
 ·rw [if_neg hk];constructor
  ·intro e'; exact .inl (yL e').2
  ·rintro (hx|rfl)
   ·exact qn hs hx
   ·exact absurd rfl hk
theorem zrm {l:List Mark} {u:Str} {x:Mark} (hs:Srt Mark.path l) (h:∀ y∈l,y.path=u→y=⟨u,2,[]⟩):x∈upsP l u↔x∈l∨x=⟨u,2,[]⟩:=by
 unfold upsP;split
 ·exact zfW hs h
 ·rename_i hk;unfold kind at hk;cases hf:zH l u with
  | none=>rw [hf] at hk; simp at hk
  | some m =>
   obtain ⟨h1,h2⟩:=yb hf;have:=h m h2 h1;constructor
   ·exact .inl
   ·rintro (h|rfl)
    ·exact h
    ·rw [← this]; exact h2
theorem zhh {l:List Mark} {u:Str} (hs:Srt Mark.path l):Srt Mark.path (upsP l u):=by
 unfold upsP; split
 ·exact yt hs
 ·exact hs
theorem zhg:∀ {us:List Str} {l:List Mark},Srt Mark.path l→Srt Mark.path (us.foldl upsP l)
 | [],_,h=>h
 | _::us,_,h=>zhg (us:=us) (zhh h)
theorem zfV:∀ {us:List Str} {l:List Mark} {x:Mark},Srt Mark.path l→(∀ u∈us,∀ y∈l,y.path=u→y=⟨u,2,[]⟩)→(x∈us.foldl upsP l↔x∈l∨∃ u∈us,x=⟨u,2,[]⟩)
 | [],l,x,_,_=>by simp
 | u::us,l,x,hs,h=>by
  have hm:=fun x=>zrm (x:=x) hs (h u (by simp))
  rw [List.foldl_cons,zfV (us:=us) (zhh hs) fun v hv y hy e=>?_,hm]
  ·simp only [List.mem_cons,exists_eq_or_imp,or_assoc]
  ·rcases (hm y).1 hy with hy|rfl
   ·exact h v (by simp [hv]) y hy e
   ·simp at e; rw [e]
theorem zsU {b:List Ent} {out:List Mark} {p:Str} (hs:Srt Mark.path out):Srt Mark.path (difP b out p):=by
 unfold difP;split
 ·exact zhg (yt hs)
 ·exact hs
theorem zco {b:List Ent} (hb:TG b) {all:List Str} (hall:∀ p∈all,pOk p=true):∀ {ps:List Str} {out:List Mark},(∀ p∈ps,p∈all)→Srt Mark.path out→(∀ x∈out,DS b all x) →
  Srt Mark.path (ps.foldl (difP b) out)∧∀ x,x∈ps.foldl (difP b) out↔x∈out∨DS b ps x
 | [],out,_,hs,_=>⟨hs,fun x=>by simp [DS]⟩
 | p::ps,out,hps,hs,hout=>by
  have hp:=hps p (by simp);have step:Srt Mark.path (difP b out p)∧∀ x,x∈difP b out p↔x∈out∨DS b [p] x:=by
   refine ⟨zsU hs,fun x=>?_⟩;unfold difP;cases hd:zY b p with
   | none=>simp [DS,hd]
   | some m =>
    have hm:DS b all m := .inl ⟨p,hp,hd⟩;have hsome:(zY b p).isSome=true:=by rw [hd]; rfl
    have h1:=fun x=>zfW (x:=x) hs fun y hy e=>(hout y hy).one hb hall hm e
    have h2:x∈ups (jH out m) p↔x∈jH out m∨∃ u∈jJ 3 p,x=⟨u,2,[]⟩:=by
     refine zfV (yt hs) fun u hu y hy e=>?_
     have hU:DS b all ⟨u,2,[]⟩ := .inr ⟨p,hp,hsome,u,hu,rfl⟩;rcases (h1 y).1 hy with hy|rfl
     ·exact (hout y hy).one hb hall hU e
     ·exact hm.one hb hall hU e
    simp only;rw [h2,h1];simp only [DS,List.mem_singleton,exists_eq_left,hd,Option.isSome_some,Option.some.injEq,true_and,or_assoc];constructor
    ·rintro (h | h | h)
     ·exact .inl h
     ·exact .inr (.inl h.symm)
     ·exact .inr (.inr h)
    ·rintro (h | h | h)
     ·exact .inl h
     ·exact .inr (.inl h.symm)
     ·exact .inr (.inr h)
  have hout2:∀ x∈difP b out p,DS b all x:=fun x hx=>by
   rcases (step.2 x).1 hx with hx | hx
   ·exact hout x hx
   ·rcases hx with ⟨q,hq,e⟩ | ⟨q,hq,e⟩
    ·simp at hq; subst hq; exact .inl ⟨q,hp,e⟩
    ·simp at hq; subst hq; exact .inr ⟨q,hp,e⟩
  obtain ⟨r1,r2⟩:=zco hb hall (ps:=ps) (fun q hq=>hps q (by simp [hq])) step.1 hout2;refine ⟨r1,fun x=>?_⟩;rw [List.foldl_cons,r2,step.2];simp only [DS,List.mem_cons,exists_eq_or_imp,List.not_mem_nil,false_and,exists_false,or_false,exists_eq_left];constructor
  ·rintro ((h | h | h) | h | h)
   ·exact .inl h
   ·exact .inr (.inl (.inl h))
   ·exact .inr (.inr (.inl h))
   ·exact .inr (.inl (.inr h))
   ·exact .inr (.inr (.inr h))
  ·rintro (h|(h | h) | h | h)
   ·exact .inl (.inl h)
   ·exact .inl (.inr (.inl h))
   ·exact .inr (.inl h)
   ·exact .inl (.inr (.inr h))
   ·exact .inr (.inr h)
theorem JL {a b:List Ent} (ha:TG a) (hb:TG b) {p:Str} (h:p∈zZ a b):pOk p=true:=by
 have:=(Z2 ha hb).1 h;cases ha':find a p with
 | some e=>exact ha.find_ok ha'
 | none =>
  cases hb':find b p with
  | some e=>exact hb.find_ok hb'
  | none=>rw [ha',hb'] at this; exact absurd rfl this
theorem zbx {a b:List Ent} (ha:TG a) (hb:TG b):Srt Mark.path (jf a b) :=
 (zco hb (fun _ h=>JL ha hb h) (fun _ h=>h) List.Pairwise.nil (fun _ h=>by cases h)).1
theorem Z1 {a b:List Ent} (ha:TG a) (hb:TG b) {x:Mark}:x∈jf a b↔DS b (zZ a b) x:=by
 have:=(zco hb (all:=zZ a b) (fun _ h=>JL ha hb h) (fun _ h=>h) (out:=[]) List.Pairwise.nil (fun _ h=>by cases h)).2 x;unfold jf; rw [this]; simp
theorem QT {a b:List Ent} (ha:TG a) (hb:TG b) {x:Mark} (h:x∈jf a b):pOk x.path=true ∧
  ((∃ e,find b x.path=some e∧x=⟨x.path,if e.dir=true then 2 else 1,e.data⟩)∨(find b x.path=none∧zK b (pUp x.path)=true∧x=⟨x.path,3,[]⟩∧∃ e,find a x.path=some e)):=by
 rcases (Z1 ha hb).1 h with ⟨p,hp,e⟩ | ⟨p,hp,hs,u,hu,rfl⟩
 ·have hpo:=JL ha hb hp;have hx:=Zv e;rw [hx];refine ⟨hpo,?_⟩;have ht:=(Z2 ha hb).1 hp;unfold zY at e;rw [jj hpo] at e;cases hf:find b p with
  | some y=>rw [hf] at e; cases e; exact .inl ⟨y,rfl,rfl⟩
  | none =>
   rw [hf] at e;simp only at e;split at e
   ·cases e;refine .inr ⟨rfl,by assumption,rfl,?_⟩;cases ha':find a p with
    | some y=>exact ⟨y,rfl⟩
    | none=>rw [ha',hf] at ht; exact absurd rfl ht
   ·cases e
 ·have:=zhA hb (JL ha hb hp) hs hu;exact ⟨this.1,.inl ⟨_,this.2.2,rfl⟩⟩
theorem zdX {a b:List Ent} (ha:TG a) (hb:TG b):lOk (jf a b)=true:=by
 have hs:=zbx ha hb;have hm:∀ m∈jf a b,mok m=true:=fun m hm=>by
  obtain ⟨hp,h | h⟩:=QT ha hb hm
  ·obtain ⟨e,h1,h2⟩:=h;have he:=(jX h1).2;have hd:=hb.datOk he;rw [h2];simp only [mok,hp,hd];cases hdir:e.dir with
   | true=>simp [hb.data he hdir]
   | false=>simp
  ·rw [h.2.2.1];simp only [mok,hp]; rfl
 refine ju.2 ⟨?_,hs,hm,fun m hm=>?_,fun m hm hk=>?_⟩
 ·have h1:((jf a b).map Mark.path).length≤(a.map Ent.path++b.map Ent.path).length:=by
   refine zaP (Je hs) fun p hp=>?_
   obtain ⟨m,hm,rfl⟩:=List.mem_map.1 hp;obtain ⟨_,h | h⟩:=QT ha hb hm
   ·obtain ⟨e,h1,_⟩:=h;obtain ⟨h2,h3⟩:=jX h1;exact List.mem_append.2 (.inr (List.mem_map.2 ⟨e,h3,h2⟩))
   ·obtain ⟨_,_,_,e,h1⟩:=h;obtain ⟨h2,h3⟩:=jX h1;exact List.mem_append.2 (.inl (List.mem_map.2 ⟨e,h3,h2⟩))
  have:=ha.len;have:=hb.len;simp at h1; omega
 ·rw [yy];have key:pUp m.path=[47]∨(⟨pUp m.path,2,[]⟩:Mark)∈jf a b:=by
   rcases (Z1 ha hb).1 hm with ⟨p,hp,e⟩ | ⟨p,hp,hsm,u,hu,rfl⟩
   ·rw [Zv e];by_cases hr:pUp p=[47]
    ·exact .inl hr
    ·refine .inr ((Z1 ha hb).2 (.inr ⟨p,hp,by rw [e]; rfl,pUp p,?_,rfl⟩));unfold jJ; rw [if_neg hr]; simp
   ·have hpo:=JL ha hb hp;rcases (zde 3 hpo hu).2.2 (.inr (ye hpo).1.2) with h | h
    ·exact .inl h
    ·exact .inr ((Z1 ha hb).2 (.inr ⟨p,hp,hsm,_,h,rfl⟩))
  rcases key with h | h
  ·exact .inl h
  ·exact .inr ⟨_,qn hs h,.inl rfl⟩
 ·cases hb':je (jf a b) m.path with
  | false=>rfl
  | true =>
   obtain ⟨x,hx,hk4,_⟩:=JB hb';obtain ⟨_,h | h⟩:=QT ha hb hx
   ·obtain ⟨e,_,h2⟩:=h;rw [h2] at hk4;simp only at hk4;split at hk4<;>omega
   ·rw [h.2.2.1] at hk4; simp at hk4
theorem zrG {a b:List Ent} (ha:TG a) (hb:TG b):jG (jf a b) a=b:=by
 have hs:=zbx ha hb;have hD:LG (jf a b):=LG.of (zdX ha hb);refine Qy (yW ha.srt) hb.srt fun p=>?_
 show find _ p=find b p;rw [Z6 hs ha.srt];cases hf:zH (jf a b) p with
 | some m =>
  obtain ⟨h1,h2⟩:=yb hf;simp only;obtain ⟨_,h | h⟩:=QT ha hb h2
  ·obtain ⟨e,h3,h4⟩:=h;rw [h1] at h3;rw [h3,h4];obtain ⟨g1,g2⟩:=jX h3;obtain ⟨ep,ed,edat⟩:=e;simp only at g1 h4 ⊢;cases ed with
   | true=>have:=hb.data g2 rfl; simp at this; simp [jF,h1,g1,this]
   | false=>simp [jF,h1,g1]
  ·rw [h1] at h;rw [h.1,h.2.2.1]; rfl
 | none =>
  simp only;by_cases hh:zJ (jf a b) p=true
  ·rw [if_pos hh];obtain ⟨m,hm,hk,hu⟩:=Z5 hh;have hne:m.path≠p:=fun e=>by
    have h2:zH (jf a b) m.path=some m:=qn hs hm;rw [e,hf] at h2; cases h2
   have hu:=hu.resolve_left hne;cases hfb:find b p with
   | none=>rfl
   | some e =>
    obtain ⟨hpm,h⟩:=QT ha hb hm;have hd:=hb.anc' hfb hpm hu;rcases h with ⟨y,h1,h2⟩ | h
    ·rw [hd] at h1; cases h1;rw [h2] at hk; simp at hk
    ·rw [hd] at h; cases h.1
  ·rw [if_neg hh];apply Classical.byContradiction; intro hne;have up:∀ (n:Nat) {q:Str},(names q).length≤n→pOk q=true→(∃ e,find a q=some e)→find b q=none→zJ (jf a b) q=true:=by
    intro n;induction n with
    | zero=>intro q hn hq; have:=(ye hq).1.1; omega
    | succ n ih =>
     rintro q hn hq ⟨e,h1⟩ h2;have ht:q∈zZ a b:=(Z2 ha hb).2 (by rw [h1,h2]; simp);cases hd:zK b (pUp q) with
     | true =>
      have:zY b q=some ⟨q,3,[]⟩:=by unfold zY; rw [jj hq,h2]; simp only [hd,if_true]
      exact qO ((Z1 ha hb).2 (.inl ⟨q,ht,this⟩)) (by simp) (.inl rfl)
     | false =>
      have hr:pUp q≠[47]:=by intro e'; rw [e'] at hd; cases hd
      obtain ⟨u1,_,u3⟩:=yp hq hr;obtain ⟨g1,g2⟩:=jX h1;have hda:=ha.up e g2;rw [g1] at hda;have hfa:=ha.isDir_ent u1 hda;refine hD.hides_und hr (yF hq) ?_;cases hfb:find b (pUp q) with
      | none=>exact ih (by omega) u1 ⟨_,hfa⟩ hfb
      | some y =>
       have hyd:y.dir=false:=by
        unfold zK at hd; rw [jj u1,hfb] at hd; exact hd
       have ht2:pUp q∈zZ a b:=(Z2 ha hb).2 (by rw [hfa,hfb]; intro e'; cases e'; cases hyd);have:zY b (pUp q)=some ⟨pUp q,1,y.data⟩:=by unfold zY; rw [jj u1,hfb]; simp [hyd]
       exact qO ((Z1 ha hb).2 (.inl ⟨_,ht2,this⟩)) (by simp) (.inl rfl)
   have ht:p∈zZ a b:=(Z2 ha hb).2 hne;have hp:=JL ha hb ht;cases hfb:find b p with
   | some e =>
    have:zY b p=some ⟨p,if e.dir=true then 2 else 1,e.data⟩:=by unfold zY; rw [jj hp,hfb]
    have h2:zH (jf a b) p=some _:=qn (key:=Mark.path) hs ((Z1 ha hb).2 (.inl ⟨p,ht,this⟩));rw [hf] at h2; cases h2
   | none =>
    cases hfa:find a p with
    | none=>rw [hfa,hfb] at hne; exact hne rfl
    | some e=>exact hh (up _ (Nat.le_refl _) hp ⟨e,hfa⟩ hfb)
theorem zfE {a b:List Ent} (ha:tOk a=true) (hb:tOk b=true):lOn (jf a b) a=some b:=by
 have ga:=TG.of ha;have gb:=TG.of hb;unfold lOn;rw [if_pos (by simp [zdX ga gb,ha]),zrG ga gb,if_pos gb.len]

def qF {α:Type} (key:α→Str) (X S:List α):Prop:=S.Perm X∧S.Pairwise fun a b=>ltS (key b) (key a)=false
theorem qF.eq {α:Type} {key:α→Str} {X S Y:List α} (h:qF key X S) (hn:(X.map key).Nodup) (hY:Srt key Y) (hm:∀ e,e∈X↔e∈Y):S=Y:=by
 have hn2:(S.map key).Nodup:=(h.1.map key).nodup_iff.2 hn;refine zcY ?_ hY fun e=>by rw [← hm]; exact h.1.mem_iff
 unfold List.Nodup at hn2;rw [List.pairwise_map] at hn2;refine (h.2.and hn2).imp fun ⟨h1,h2⟩=>?_
 rcases Yk h1 with h3 | h3
 ·exact absurd h3.symm h2
 ·exact h3
theorem qF.len {α:Type} {key:α→Str} {X S:List α} (h:qF key X S):S.length=X.length:=h.1.length_eq
def z8:List Ent→List Ent→List Str
 | [],[]=>[]
 | x::a,[]=>x.path::z8 a []
 | [],y::b=>y.path::z8 [] b
 | x::a,y::b=>if ltS x.path y.path=true then x.path::z8 a (y::b) else if ltS y.path x.path=true then y.path::z8 (x::a) b else if x=y then z8 a b else x.path::z8 a b
termination_by a b=>a.length+b.length
theorem Jd {α:Type} {key:α→Str} {x:α} {l:List α} (hs:Srt key (x::l)) {p:Str} {e:α} (h:fnd key l p=some e):ltS (key x) p=true:=by
 unfold Srt at hs;rw [List.pairwise_cons] at hs;obtain ⟨h1,h2⟩:=yL h;rw [← h1]; exact hs.1 e h2
theorem Qz {α:Type} {key:α→Str} {x:α} {l:List α} (hs:Srt key (x::l)):Srt key l:=by
 unfold Srt at hs; rw [List.pairwise_cons] at hs; exact hs.2
theorem Zd {x:Ent} {l:List Ent} {p:Str}:find (x::l) p=if x.path=p then some x else find l p:=qg
theorem zeL {l:List Ent} {y:Ent} (hs:Srt Ent.path (y::l)) {p:Str} (h:ltS p y.path=true):find (y::l) p=none:=by
 refine qt.2 fun e he hk=>?_
 rcases List.mem_cons.1 he with rfl | he
 ·rw [hk,yC] at h; cases h
 ·unfold Srt at hs;rw [List.pairwise_cons] at hs;have:=ZC h (hs.1 e he);rw [hk,yC] at this; cases this
theorem zeM {l:List Ent} {y:Ent} (hs:Srt Ent.path (y::l)):find l y.path=none:=by
 unfold Srt at hs;rw [List.pairwise_cons] at hs;exact qt.2 fun e he=>(Zj (hs.1 e he)).symm
theorem zrp:∀ (n:Nat) {a b:List Ent},a.length+b.length≤n→Srt Ent.path a→Srt Ent.path b→SrtS (z8 a b)∧∀ p,p∈z8 a b↔find a p≠find b p:=by
 intro n;induction n with
 | zero =>
  intro a b hl _ _;cases a with
  | cons=>simp at hl
  | nil=>cases b with
   | cons=>simp at hl
   | nil=>exact ⟨by rw [z8]; exact List.Pairwise.nil,fun p=>by rw [z8]; simp⟩
 | succ n ih =>
  intro a b hl ha hb;have hcons:∀ {x:Ent} {a b:List Ent} {p0:Str},(SrtS (z8 a b)∧∀ p,p∈z8 a b↔find a p≠find b p)→(∀ p,(∃ e,find a p=some e)→ltS x.path p=true)→(∀ p,(∃ e,find b p=some e)→ltS x.path p=true) →
    SrtS (x.path::z8 a b):=by
   rintro x a b _ ⟨h1,h2⟩ h3 h4;refine List.pairwise_cons.2 ⟨fun p hp=>?_,h1⟩;have:=(h2 p).1 hp;cases hfa:find a p with
   | some e=>exact h3 p ⟨e,hfa⟩
   | none =>
    cases hfb:find b p with
    | some e=>exact h4 p ⟨e,hfb⟩
    | none=>rw [hfa,hfb] at this; exact absurd rfl this
  cases a with
  | nil =>
   cases b with
   | nil=>exact ⟨by rw [z8]; exact List.Pairwise.nil,fun p=>by rw [z8]; simp⟩
   | cons y b =>
    have h:=ih (a:=[]) (b:=b) (by simp at hl ⊢; omega) ha (Qz hb);rw [z8];refine ⟨hcons (p0:=[]) h (fun p ⟨e,he⟩=>by cases he) (fun p ⟨e,he⟩=>Jd hb he),fun p=>?_⟩;rw [List.mem_cons,h.2,Zd];by_cases hp:y.path=p
    ·rw [if_pos hp]; simp [hp,find]
    ·rw [if_neg hp]; exact or_iff_right fun e=>hp (Eq.symm e)
  | cons x a =>
   cases b with
   | nil =>
    have h:=ih (a:=a) (b:=[]) (by simp at hl ⊢; omega) (Qz ha) hb;rw [z8];refine ⟨hcons (p0:=[]) h (fun p ⟨e,he⟩=>Jd ha he) (fun p ⟨e,he⟩=>by cases he),fun p=>?_⟩;rw [List.mem_cons,h.2,Zd];by_cases hp:x.path=p
    ·rw [if_pos hp]; simp [hp,find]
    ·rw [if_neg hp]; exact or_iff_right fun e=>hp (Eq.symm e)
   | cons y b =>
    rw [z8];by_cases h1:ltS x.path y.path=true
    ·rw [if_pos h1];have h:=ih (a:=a) (b:=y::b) (by simp at hl ⊢; omega) (Qz ha) hb;refine ⟨hcons (p0:=[]) h (fun p ⟨e,he⟩=>Jd ha he) (fun p ⟨e,he⟩=>?_),fun p=>?_⟩
     ·rw [Zd] at he;split at he
      ·rename_i hy; rw [← hy]; exact h1
      ·exact ZC h1 (Jd hb he)
     ·rw [List.mem_cons,h.2,Zd (x:=x)];by_cases hp:x.path=p
      ·rw [if_pos hp,zeL hb (by rw [← hp]; exact h1)]; simp [hp]
      ·rw [if_neg hp]; exact or_iff_right fun e=>hp (Eq.symm e)
    ·rw [if_neg h1];by_cases h2:ltS y.path x.path=true
     ·rw [if_pos h2];have h:=ih (a:=x::a) (b:=b) (by simp at hl ⊢; omega) ha (Qz hb);refine ⟨hcons (p0:=[]) h (fun p ⟨e,he⟩=>?_) (fun p ⟨e,he⟩=>Jd hb he),fun p=>?_⟩
      ·rw [Zd] at he;split at he
       ·rename_i hy; rw [← hy]; exact h2
       ·exact ZC h2 (Jd ha he)
      ·rw [List.mem_cons,h.2,Zd (x:=y)];by_cases hp:y.path=p
       ·rw [if_pos hp,zeL ha (by rw [← hp]; exact h2)]; simp [hp]
       ·rw [if_neg hp]; exact or_iff_right fun e=>hp (Eq.symm e)
     ·rw [if_neg h2];have he:x.path=y.path:=by
       rcases Yk (by simpa using h1:ltS x.path y.path=false) with h3 | h3
       ·exact h3
       ·exact absurd h3 h2
      have h:=ih (a:=a) (b:=b) (by simp at hl ⊢; omega) (Qz ha) (Qz hb);have hfa:=zeM ha;have hfb:=zeM hb;by_cases hxy:x=y
      ·rw [if_pos hxy];refine ⟨h.1,fun p=>?_⟩;rw [h.2,Zd,Zd,← he,hxy];by_cases hp:y.path=p
       ·rw [if_pos hp,if_pos hp,← hp,hfb,← he,hfa]; simp
       ·rw [if_neg hp,if_neg hp]
      ·rw [if_neg hxy];refine ⟨hcons (p0:=[]) h (fun p ⟨e,h'⟩=>Jd ha h') (fun p ⟨e,h'⟩=>by rw [he]; exact Jd hb h'),fun p=>?_⟩;rw [List.mem_cons,h.2,Zd,Zd,← he];by_cases hp:x.path=p
       ·rw [if_pos hp,if_pos hp]; simp [hp,hxy]
       ·rw [if_neg hp,if_neg hp]; exact or_iff_right fun e=>hp (Eq.symm e)
theorem zrq {a b:List Ent} (ha:TG a) (hb:TG b):z8 a b=zZ a b:=by
 obtain ⟨h1,h2⟩:=zrp _ (Nat.le_refl _) ha.srt hb.srt;exact zcY h1 (zhx ha) fun p=>by rw [h2,Z2 ha hb]
def qd (l:List Mark) (u:Str):List Mark:=if (zH l u).isSome=true then l else l++[⟨u,2,[]⟩]
theorem zrj {l:List Mark} {u:Str} {x:Mark} (h:∀ y∈l,y.path=u→y=⟨u,2,[]⟩):x∈qd l u↔x∈l∨x=⟨u,2,[]⟩:=by
 unfold qd;split
 ·rename_i hs;obtain ⟨m,hm⟩:=Option.isSome_iff_exists.1 hs;obtain ⟨h1,h2⟩:=yb hm;have:=h m h2 h1;constructor
  ·exact .inl
  ·rintro (h|rfl)
   ·exact h
   ·rw [← this]; exact h2
 ·simp
theorem zrt {l:List Mark} {u:Str} (h:(l.map Mark.path).Nodup):((qd l u).map Mark.path).Nodup:=by
 unfold qd;split
 ·exact h
 ·rename_i hs;have:zH l u=none:=by cases hm:zH l u with
   | none=>rfl
   | some m=>rw [hm] at hs; exact absurd rfl hs
  rw [List.map_append,List.nodup_append];refine ⟨h,by simp,fun p hp q hq=>?_⟩;simp at hq;subst hq;obtain ⟨m,hm,rfl⟩:=List.mem_map.1 hp;exact qt.1 this m hm
theorem ze3:∀ {us:List Str} {l:List Mark},(l.map Mark.path).Nodup→(∀ u∈us,∀ y∈l,y.path=u→y=⟨u,2,[]⟩) →
  ((us.foldl qd l).map Mark.path).Nodup∧∀ x,x∈us.foldl qd l↔x∈l∨∃ u∈us,x=⟨u,2,[]⟩
 | [],l,hn,_=>⟨hn,fun x=>by simp⟩
 | u::us,l,hn,h=>by
  have hm:=fun x=>zrj (x:=x) (h u (by simp))
  obtain ⟨h1,h2⟩:=ze3 (us:=us) (zrt (u:=u) hn) fun v hv y hy e=>by
   rcases (hm y).1 hy with hy|rfl
   ·exact h v (by simp [hv]) y hy e
   ·simp at e; rw [e]
  refine ⟨h1,fun x=>?_⟩;rw [List.foldl_cons,h2,hm];simp only [List.mem_cons,exists_eq_or_imp,or_assoc]
def qT (l:List Mark) (m:Mark):List Mark:=(jJ 3 m.path).foldl qd l
def difX (a b:List Ent):List Mark:=((zZ a b).filterMap (zY b)).foldl qT ((zZ a b).filterMap (zY b))
theorem ze5 {b:List Ent} (hb:TG b) {all:List Str} (hall:∀ p∈all,pOk p=true):∀ {ms:List Mark} {l:List Mark},(∀ m∈ms,∃ p∈all,zY b p=some m)→(l.map Mark.path).Nodup→(∀ x∈l,DS b all x) →
  ((ms.foldl qT l).map Mark.path).Nodup∧∀ x,x∈ms.foldl qT l↔x∈l∨∃ m∈ms,∃ u∈jJ 3 m.path,x=⟨u,2,[]⟩
 | [],l,_,hn,_=>⟨hn,fun x=>by simp⟩
 | m::ms,l,hms,hn,hl=>by
  obtain ⟨p,hp,hd⟩:=hms m (by simp);have hpm:=Zv hd;have hU:∀ u∈jJ 3 m.path,DS b all ⟨u,2,[]⟩:=fun u hu => .inr ⟨p,hp,by rw [hd]; rfl,u,by rw [← hpm]; exact hu,rfl⟩
  obtain ⟨h1,h2⟩:=ze3 (us:=jJ 3 m.path) hn fun u hu y hy e=>(hl y hy).one hb hall (hU u hu) e
  obtain ⟨h3,h4⟩:=ze5 hb hall (ms:=ms) (l:=qT l m) (fun x hx=>hms x (by simp [hx])) h1 fun x hx=>by
   rcases (h2 x).1 hx with hx | ⟨u,hu,rfl⟩
   ·exact hl x hx
   ·exact hU u hu
  refine ⟨h3,fun x=>?_⟩;rw [List.foldl_cons,h4];have:x∈qT l m↔x∈l∨∃ u∈jJ 3 m.path,x=⟨u,2,[]⟩:=h2 x;rw [this];simp only [List.mem_cons,exists_eq_or_imp,or_assoc]
theorem zdW {a b:List Ent} (ha:TG a) (hb:TG b):((difX a b).map Mark.path).Nodup∧∀ x,x∈difX a b↔x∈jf a b:=by
 have hall:∀ p∈zZ a b,pOk p=true:=fun _ h=>JL ha hb h
 have hmem:∀ m,m∈(zZ a b).filterMap (zY b)↔∃ p∈zZ a b,zY b p=some m:=fun m=>List.mem_filterMap
 have hn:(((zZ a b).filterMap (zY b)).map Mark.path).Nodup:=by
  have hs:=zhx (b:=b) ha;unfold List.Nodup;rw [List.pairwise_map,List.pairwise_filterMap];refine List.Pairwise.imp (fun {p q} h m hm m' hm'=>?_) hs;rw [Zv hm,Zv hm']; exact Zj h
 obtain ⟨h1,h2⟩:=ze5 hb hall (ms:=(zZ a b).filterMap (zY b)) (fun m hm=>(hmem m).1 hm) hn fun x hx => .inl ((hmem x).1 hx)
 refine ⟨h1,fun x=>?_⟩;have e:x∈difX a b↔_:=h2 x;rw [e,Z1 ha hb,hmem];unfold DS;refine or_congr Iff.rfl ?_;constructor
 ·rintro ⟨m,hm,u,hu,rfl⟩;obtain ⟨p,hp,hd⟩:=(hmem m).1 hm;exact ⟨p,hp,by rw [hd]; rfl,u,by rw [← Zv hd]; exact hu,rfl⟩
 ·rintro ⟨p,hp,hs,u,hu,rfl⟩;obtain ⟨m,hm⟩:=Option.isSome_iff_exists.1 hs;exact ⟨m,(hmem m).2 ⟨p,hp,hm⟩,u,by rw [Zv hm]; exact hu,rfl⟩
theorem zoo {a b:List Ent} (ha:TG a) (hb:TG b) {S:List Mark} (h:qF Mark.path (difX a b) S):S=jf a b :=
 h.eq (zdW ha hb).1 (zbx ha hb) (zdW ha hb).2
def onX (l:List Mark) (t:List Ent):List Ent:=(t.filter fun e=>!(zH l e.path).isSome&&!zJ l e.path)++l.filterMap jF
theorem zcA {l:List Mark} {t:List Ent} (hl:lOk l=true) (ht:Srt Ent.path t) (e:Ent):e∈onX l t↔e∈jG l t:=by
 rw [zcr hl ht];unfold onX;rw [List.mem_append,List.mem_filterMap,List.mem_filter];constructor
 ·rintro (⟨h1,h2⟩ | h)
  ·simp only [Bool.and_eq_true,Bool.not_eq_true',Option.isSome_eq_false_iff,Option.isNone_iff_eq_none] at h2;exact .inr ⟨h2.1,h2.2,h1⟩
  ·exact .inl h
 ·rintro (h | ⟨h1,h2,h3⟩)
  ·exact .inr h
  ·exact .inl ⟨h3,by simp [h1,h2]⟩
theorem zgk {l:List Mark} {t:List Ent} (hl:Srt Mark.path l) (ht:Srt Ent.path t):((onX l t).map Ent.path).Nodup:=by
 unfold onX;rw [List.map_append,List.nodup_append];refine ⟨Je (Jc ht _),?_,fun p hp q hq=>?_⟩
 ·unfold List.Nodup;rw [List.pairwise_map,List.pairwise_filterMap];refine List.Pairwise.imp (fun {x y} h e he f hf=>?_) hl;rw [JC he,JC hf]; exact Zj h
 ·rintro rfl;obtain ⟨e,he,rfl⟩:=List.mem_map.1 hp;obtain ⟨f,hf,hq⟩:=List.mem_map.1 hq;obtain ⟨m,hm,hf⟩:=List.mem_filterMap.1 hf;have h2:=(List.mem_filter.1 he).2;have h3:zH l m.path=some m:=qn hl hm;rw [← hq,JC hf,h3] at h2;simp at h2
theorem zrF {l:List Mark} {t S:List Ent} (hl:lOk l=true) (ht:Srt Ent.path t) (h:qF Ent.path (onX l t) S):S=jG l t :=
 h.eq (zgk (ju.1 hl).2.1 ht) (yW ht) (zcA hl ht)
theorem zrE {l:List Mark} {t:List Ent} (hl:lOk l=true) (ht:Srt Ent.path t):(onX l t).length=(jG l t).length:=by
 have h1:∀ {α:Type} {key:α→Str} {a b:List α},(a.map key).Nodup→(∀ e,e∈a→e∈b)→[DecidableEq α]→a.length≤b.length:=by
  intro α key a b hn h _;refine zaP ?_ h;unfold List.Nodup at hn ⊢;rw [List.pairwise_map] at hn;exact hn.imp fun h e=>h (by rw [e])
 have ha:=h1 (key:=Ent.path) (zgk (ju.1 hl).2.1 ht) (fun e he=>(zcA hl ht e).1 he);have hb:=h1 (key:=Ent.path) (Je (yW (l:=l) ht)) (fun e he=>(zcA hl ht e).2 he);omega
def upC2 (t:List Ent) (p:Str):Int:=if pUp p=[47] then 0 else match find t (pUp p) with
 | none=>2
 | some e=>if e.dir=true then 0 else 3
theorem yX {t:List Ent} {p:Str}:upC2 t p=0↔zK t (pUp p)=true:=by
 unfold upC2 zK get;by_cases h:pUp p=[47]
 ·rw [if_pos h,if_pos h]; simp [rootE]
 ·rw [if_neg h,if_neg h];cases find t (pUp p) with
  | none=>simp
  | some e=>cases e.dir<;>simp

def zP (op:Op):Bool:=(decide (1≤op.kind)&&decide (op.kind≤5))&&(pOk op.path&&(if op.kind=5 then pOk op.dest&&op.data==[] else op.dest==[]&&(qv op.data&&(op.kind==2||op.data==[]))))
def kids (t:List Ent) (p:Str):List Str:=(t.filter fun e=>pUp e.path==p).map fun e=>JD e.path
def upC (t:List Ent) (p:Str):Int:=match get t (pUp p) with
 | none=>2
 | some e=>if e.dir=true then 0 else 3
def newC (t:List Ent) (p:Str):Int:=if upC t p≠0 then upC t p else if (get t p).isSome=true then 4 else if 16≤t.length then 8 else 0
def putC (t:List Ent) (p:Str):Int:=if newC t p=4 then (if ((get t p).getD noE).dir=true then 5 else 0) else newC t p
def offC (t:List Ent) (op:Op):Int:=match get t op.path with
 | none=>2
 | some e=>if op.kind=3∧e.dir=true then 5 else if op.kind=4∧e.dir=false then 3 else if 0 < (kids t op.path).length then 6 else 0
def movC (t:List Ent) (op:Op):Int:=if (get t op.path).isSome=false then 2 else if upC t op.dest≠0 then upC t op.dest else if (get t op.dest).isSome=true then 4 else if und op.dest op.path=true then 7 else
 if t.all (fun e=>(jw e.path op.path op.dest).isSome)=true then 0 else 8
def jO (t:List Ent) (op:Op):Int:=if op.kind=1 then newC t op.path else if op.kind=2 then putC t op.path else if op.kind=5 then movC t op else offC t op
def offT (t:List Ent) (p:Str):List Ent:=t.filter fun e=>e.path != p
def jl (f tq:Str) (e:Ent):Ent:={ e with path:=(jw e.path f tq).getD [] }
def movT (t:List Ent) (f tq:Str):List Ent:=t.foldl (fun out e=>put out (jl f tq e)) []
def doT (t:List Ent) (op:Op):List Ent:=if op.kind=1 then put t ⟨op.path,true,[]⟩ else if op.kind=2 then put t ⟨op.path,false,op.data⟩ else if op.kind=5 then movT t op.path op.dest else offT t op.path
def zx (t:List Ent) (op:Op):List Ent × Int:=if tOk t=true then (if zP op=true then (if jO t op=0 then (doT t op,0) else (t,jO t op)) else (t,1)) else ([],1)
def eTD (x:List Ent × Int):CV := .tup [za x.1,CI x.2]
theorem Y1 (o:Option Str):eOpt o = .tup [CS (o.getD []),CB o.isSome]:=by cases o<;>rfl
theorem zf4 {f tq:Str}:∀ {t out:List Ent},(t.foldl (fun out e=>put out (jl f tq e)) out).length≤out.length+t.length
 | [],out=>by simp
 | e::t,out=>by
  have h:=zf4 (f:=f) (tq:=tq) (t:=t) (out:=put out (jl f tq e));have h2:(put out (jl f tq e)).length≤out.length+1:=qQ;simp only [List.foldl_cons,List.length_cons];omega
theorem zop {t:List Ent} {op:Op}:(doT t op).length≤t.length+1:=by
 unfold doT;split
 ·exact qQ
 ·split
  ·exact qQ
  ·split
   ·have:=zf4 (f:=op.path) (tq:=op.dest) (t:=t) (out:=[]);unfold movT; simp at this; omega
   ·have:=List.length_filter_le (fun e:Ent=>e.path != op.path) t;unfold offT; omega
theorem Yx {t:List Ent} {op:Op}:(zx t op).1.length≤17:=by
 unfold zx;split
 ·rename_i h;have:=(yu h).1;have h2:=zop (t:=t) (op:=op);split
  ·split<;>(simp only; omega)
  ·simp only; omega
 ·simp

theorem zba {t:List Ent} {p:Str}:upC2 t p=upC t p:=by
 unfold upC2 upC get;by_cases h:pUp p=[47]
 ·rw [if_pos h,if_pos h]<;>rfl
 ·rw [if_neg h,if_neg h]<;>rfl
theorem QE {t:List Ent} {p:Str}:upC t p=0↔zK t (pUp p)=true:=by rw [← zba]; exact yX
theorem Qt {op:Op} (h:zP op=true):pOk op.path=true:=by
 simp only [zP,Bool.and_eq_true] at h; exact h.2.1
theorem zcC {op:Op} (h:zP op=true):1≤op.kind∧op.kind≤5:=by
 simp only [zP,Bool.and_eq_true,decide_eq_true_eq] at h; exact h.1
theorem op_5 {op:Op} (h:zP op=true) (k:op.kind=5):pOk op.dest=true∧op.data=[]:=by
 simp only [zP,Bool.and_eq_true,k,if_true] at h;exact ⟨h.2.2.1,by simpa using h.2.2.2⟩
theorem zgl {op:Op} (h:zP op=true) (k:op.kind≠5):op.dest=[]∧qv op.data=true∧(op.kind=2∨op.data=[]):=by
 simp only [zP,Bool.and_eq_true,if_neg k] at h;exact ⟨by simpa using h.2.2.1,h.2.2.2.1,by simpa using h.2.2.2.2⟩
theorem Qo {α:Type} {key:α→Str} {t:List α} {e x:α} (hs:Srt key t):x∈jd key t e↔x=e∨(x∈t∧key x≠key e):=by
 rw [Qa (yt hs),yK];by_cases h:key e=key x
 ·rw [if_pos h];constructor
  ·intro h2; exact .inl (Option.some.inj h2).symm
  ·rintro (rfl | h2)
   ·rfl
   ·exact absurd h.symm h2.2
 ·rw [if_neg h,← Qa hs];constructor
  ·intro h2; exact .inr ⟨h2,fun e=>h e.symm⟩
  ·rintro (rfl | h2)
   ·exact absurd rfl h
   ·exact h2.1
theorem new0 {t:List Ent} {p:Str} (hp:pOk p=true):newC t p=0↔zK t (pUp p)=true∧find t p=none∧t.length < 16:=by
 unfold newC;rw [jj hp];by_cases h:upC t p=0
 ·rw [if_neg (by simp [h])];have h':=QE.1 h;cases hf:find t p with
  | some e=>simp
  | none =>
   simp only [Option.isSome_none,Bool.false_eq_true,if_false];by_cases hl:16≤t.length
   ·rw [if_pos hl]; simp; omega
   ·rw [if_neg hl]; simp [h']; omega
 ·rw [if_pos h];constructor
  ·intro e; exact absurd e h
  ·rintro ⟨e,_⟩; exact absurd (QE.2 e) h
theorem new4 {t:List Ent} {p:Str} (hp:pOk p=true) (h:newC t p=4):zK t (pUp p)=true∧∃ e,find t p=some e:=by
 unfold newC at h;rw [jj hp] at h;split at h
 ·rename_i h1;unfold upC at h;split at h
  ·cases h
  ·split at h<;>cases h
 ·rename_i h1;refine ⟨QE.1 (by simpa using h1),?_⟩;split at h
  ·rename_i h2; exact Option.isSome_iff_exists.1 h2
  ·split at h<;>cases h
theorem put0 {t:List Ent} {p:Str} (hp:pOk p=true) (h:putC t p=0):zK t (pUp p)=true∧((find t p=none∧t.length < 16)∨∃ e,find t p=some e∧e.dir=false):=by
 unfold putC at h;rw [jj hp] at h;split at h
 ·rename_i h1;obtain ⟨h2,e,h3⟩:=new4 hp h1;refine ⟨h2,.inr ⟨e,h3,?_⟩⟩;rw [h3] at h;simp only [Option.getD_some] at h;split at h
  ·cases h
  ·rename_i h4; simpa using h4
 ·have:=(new0 hp).1 h;exact ⟨this.1,.inl this.2⟩
theorem zfB {t:List Ent} (h:TG t) {p:Str} (hp:pOk p=true) (hn:zK t p=false):kids t p=[]:=by
 unfold kids;rw [List.map_eq_nil_iff,List.filter_eq_nil_iff];intro e he hk;have:=h.up e he;rw [beq_iff_eq.1 hk,hn] at this;cases this
theorem off0 {t:List Ent} {op:Op} (ht:TG t) (hp:pOk op.path=true) (hk:op.kind=3∨op.kind=4):offC t op=0↔∃ e,find t op.path=some e∧e.dir=(op.kind==4)∧kids t op.path=[]:=by
 unfold offC;rw [jj hp];cases hf:find t op.path with
 | none=>simp
 | some e =>
  simp only [Option.some.injEq,exists_eq_left'];have key:(if 0 < (kids t op.path).length then (6:Int) else 0)=0↔kids t op.path=[]:=by
   cases kids t op.path<;>simp
  rcases hk with hk | hk
  ·by_cases hd:e.dir=true
   ·simp [hk,hd]
   ·simp only [Bool.not_eq_true] at hd;rw [if_neg (by simp [hd]),if_neg (by simp [hk]),key];simp [hk,hd]
  ·by_cases hd:e.dir=true
   ·rw [if_neg (by simp [hk]),if_neg (by simp [hd]),key];simp [hk,hd]
   ·simp only [Bool.not_eq_true] at hd;rw [if_neg (by simp [hk]),if_pos ⟨hk,hd⟩];simp [hk,hd]
theorem mov0 {t:List Ent} {op:Op} (hp:pOk op.path=true) (hq:pOk op.dest=true):movC t op=0↔(∃ e,find t op.path=some e)∧zK t (pUp op.dest)=true∧find t op.dest=none∧und op.dest op.path=false∧∀ e∈t,(jw e.path op.path op.dest).isSome=true:=by
 unfold movC;rw [jj hp,jj hq];cases hf:find t op.path with
 | none=>simp
 | some e =>
  simp only [Option.isSome_some,Bool.true_eq_false,if_false,Option.some.injEq,exists_eq',true_and];by_cases h1:upC t op.dest=0
  ·rw [if_neg (by simp [h1])];have h1':=QE.1 h1;cases hf2:find t op.dest with
   | some e=>simp
   | none =>
    simp only [Option.isSome_none,Bool.false_eq_true,if_false];by_cases h2:und op.dest op.path=true
    ·rw [if_pos h2]; simp [h2]
    ·rw [if_neg h2];simp only [Bool.not_eq_true] at h2;by_cases h3:t.all (fun e=>(jw e.path op.path op.dest).isSome)=true
     ·rw [if_pos h3]; simp only [h1',h2,true_and,true_iff]; exact List.all_eq_true.1 h3
     ·rw [if_neg h3];constructor
      ·intro h; cases h
      ·rintro ⟨_,_,_,h⟩; exact absurd (List.all_eq_true.2 h) h3
  ·rw [if_pos h1];constructor
   ·intro h; exact absurd h h1
   ·rintro ⟨h,_⟩; exact absurd (QE.2 h) h1
theorem last47 {a a' l l':Str} (h:a++47::l=a'++47::l') (h1:(47:UInt8) ∉ l) (h2:(47:UInt8) ∉ l'):a=a'∧l=l':=by
 rcases List.append_eq_append_iff.1 h with ⟨c,h3,h4⟩ | ⟨c,h3,h4⟩
 ·cases c with
  | nil=>simp at h3 h4; exact ⟨h3.symm,h4⟩
  | cons x c =>
   simp only [List.cons_append,List.cons.injEq] at h4;exact absurd (by rw [h4.2]; simp) h1
 ·cases c with
  | nil=>simp at h3 h4; exact ⟨h3,h4.symm⟩
  | cons x c =>
   simp only [List.cons_append,List.cons.injEq] at h4;exact absurd (by rw [h4.2]; simp) h2
theorem zrQ {s a l:Str} (h:pOk s=true) (e:s=a++47::l) (hl:(47:UInt8) ∉ l) (ha:a≠[]):pUp s=a:=by
 obtain ⟨a',l',h1,h2,_,_,_,_,_,h6⟩:=JE h;obtain ⟨rfl,rfl⟩:=last47 (e.symm.trans h1) hl h2;rw [h6,if_neg ha]
theorem zhz {s d:Str} (hd:d≠[47]) (h:und s d=true):∃ r,s=d++47::r:=by
 unfold und at h;simp only [Bool.or_eq_true,beq_iff_eq,hd,false_or,List.isPrefixOf_iff_prefix] at h;obtain ⟨r,h⟩:=h;exact ⟨r,by rw [← h]; simp⟩
theorem zsT {d r:Str}:und (d++47::r) d=true:=by
 unfold und;simp only [Bool.or_eq_true,List.isPrefixOf_iff_prefix];exact .inr ⟨r,by simp⟩
def blw (s f:Str):Bool:=s==f||und s f
theorem QM {s f:Str} (hf:f≠[47]) (h:blw s f=true):∃ r,s=f++r∧(r=[]∨∃ q,r=47::q):=by
 unfold blw at h;simp only [Bool.or_eq_true,beq_iff_eq] at h;rcases h with rfl | h
 ·exact ⟨[],by simp,.inl rfl⟩
 ·obtain ⟨r,h⟩:=zhz hf h;exact ⟨47::r,h,.inr ⟨r,rfl⟩⟩
theorem zsS {f r:Str} (h:r=[]∨∃ q,r=47::q):blw (f++r) f=true:=by
 unfold blw;rcases h with rfl | ⟨q,rfl⟩
 ·simp
 ·rw [zsT]; simp
theorem zrP {s f tq:Str} (h:blw s f=true) (hm:(jw s f tq).isSome=true):jw s f tq=some (tq++s.drop f.length)∧pOk (tq++s.drop f.length)=true:=by
 unfold jw at hm ⊢;by_cases h1:(pOk s&&pOk f&&pOk tq)=true
 ·rw [if_pos h1] at hm ⊢;have h2:¬ (s != f&&!und s f)=true:=by
   unfold blw at h;by_cases hs:s=f
   ·simp [hs]
   ·simp [hs] at h; simp [h]
  rw [if_neg h2] at hm ⊢;by_cases h3:pOk (tq++s.drop f.length)=true
  ·rw [if_pos h3]; exact ⟨rfl,h3⟩
  ·rw [if_neg h3] at hm; cases hm
 ·rw [if_neg h1] at hm; cases hm
theorem zgr {s f tq:Str} (hs:pOk s=true) (hf:pOk f=true) (ht:pOk tq=true) (h:blw s f=false):jw s f tq=some s:=by
 unfold jw;rw [if_pos (by simp [hs,hf,ht]),if_pos];unfold blw at h
 simpa using h
structure MV (t:List Ent) (f tq:Str):Prop where
 tg:TG t
 pf:pOk f=true
 pt:pOk tq=true
 frm:∃ e,find t f=some e
 up:zK t (pUp tq)=true
 free:find t tq=none
 nun:und tq f=false
 all:∀ e∈t,(jw e.path f tq).isSome=true
theorem MV.of {t:List Ent} {op:Op} (ht:TG t) (ho:zP op=true) (hk:op.kind=5) (h:movC t op=0):MV t op.path op.dest:=by
 have hp:=Qt ho;have hq:=(op_5 ho hk).1;obtain ⟨a,b,c,d,e⟩:=(mov0 hp hq).1 h;exact ⟨ht,hp,hq,a,b,c,d,e⟩
section
variable {t:List Ent} {f tq:Str}
theorem MV.fr (h:MV t f tq):f≠[47]:=ZG h.pf
theorem MV.at (h:MV t f tq) {e:Ent} (he:e∈t) (hb:blw e.path f=true):(jl f tq e).path=tq++e.path.drop f.length∧pOk (tq++e.path.drop f.length)=true:=by
 obtain ⟨h1,h2⟩:=zrP hb (h.all e he);exact ⟨by unfold jl; rw [h1]; rfl,h2⟩
theorem MV.stay (h:MV t f tq) {e:Ent} (he:e∈t) (hb:blw e.path f=false):jl f tq e=e:=by
 unfold jl; rw [zgr (h.tg.path he) h.pf h.pt hb]; rfl
theorem MV.clear (h:MV t f tq) {e:Ent} (he:e∈t):blw e.path tq=false:=by
 cases hb:blw e.path tq with
 | false=>rfl
 | true =>
  unfold blw at hb;simp only [Bool.or_eq_true,beq_iff_eq] at hb;have hf:=h.free;rcases hb with hb | hb
  ·rw [← hb,h.tg.at he] at hf; cases hf
  ·rw [h.tg.anc' (h.tg.at he) h.pt hb] at hf; cases hf
theorem MV.blw_to (h:MV t f tq) {e:Ent} (he:e∈t):blw (jl f tq e).path tq=blw e.path f:=by
 cases hb:blw e.path f with
 | true =>
  rw [(h.at he hb).1];obtain ⟨r,h1,h2⟩:=QM h.fr hb;rw [h1,List.drop_left];exact zsS h2
 | false=>rw [h.stay he hb]; exact h.clear he
theorem MV.inv (h:MV t f tq) {e:Ent} (he:e∈t):jl tq f (jl f tq e)=e:=by
 cases hb:blw e.path f with
 | true =>
  obtain ⟨h1,h2⟩:=h.at he hb;have hb2:=h.blw_to he;rw [hb,h1] at hb2;obtain ⟨r,h3,h4⟩:=QM h.fr hb;have hd:f++(tq++e.path.drop f.length).drop tq.length=e.path:=by rw [List.drop_left,h3,List.drop_left]
  have hm:jw (tq++e.path.drop f.length) tq f=some e.path:=by
   unfold jw;rw [if_pos (by simp [h2,h.pf,h.pt]),if_neg,hd,if_pos (h.tg.path he)];unfold blw at hb2;simp only [Bool.or_eq_true,beq_iff_eq] at hb2;rcases hb2 with hb2 | hb2
   ·simp [hb2]
   ·simp [hb2]
  unfold jl at h1 ⊢;simp only at h1;simp only [h1,hm];rfl
 | false =>
  rw [h.stay he hb];unfold jl;rw [zgr (h.tg.path he) h.pt h.pf (h.clear he)];rfl
theorem MV.inj (h:MV t f tq) {x y:Ent} (hx:x∈t) (hy:y∈t) (e:(jl f tq x).path=(jl f tq y).path):x.path=y.path:=by
 have hb:blw x.path f=blw y.path f:=by rw [← h.blw_to hx,← h.blw_to hy,e]
 cases hb2:blw x.path f with
 | true =>
  rw [(h.at hx hb2).1,(h.at hy (hb▸hb2)).1] at e;have e':=List.append_cancel_left e;obtain ⟨r,h1,_⟩:=QM h.fr hb2;obtain ⟨q,h3,_⟩:=QM h.fr (hb▸hb2);rw [h1,h3,List.drop_left,List.drop_left] at e';rw [h1,h3,e']
 | false=>rw [h.stay hx hb2,h.stay hy (hb▸hb2)] at e; exact e
theorem MV.nodup (h:MV t f tq):((t.map (jl f tq)).map Ent.path).Nodup:=by
 have hn:=Je h.tg.srt;rw [List.map_map];unfold List.Nodup at hn ⊢;rw [List.pairwise_map] at hn ⊢;exact hn.imp_of_mem fun hx hy hne e=>hne (h.inj hx hy e)
end
theorem ze8 {α:Type} {key:α→Str}:∀ {l t:List α},Srt key t→((t++l).map key).Nodup→Srt key (l.foldl (jd key) t)∧∀ x,x∈l.foldl (jd key) t↔x∈t∨x∈l
 | [],t,hs,_=>⟨hs,by simp⟩
 | e::l,t,hs,hn=>by
  have hk:∀ y∈t,key y≠key e:=fun y hy he=>by
   rw [List.map_append] at hn;have:=(List.nodup_append.1 hn).2.2 (key y) (List.mem_map_of_mem hy) (key e) (by simp);exact this he
  have hm:∀ x,x∈jd key t e↔x=e∨x∈t:=fun x=>by
   rw [Qo hs];constructor
   ·rintro (h | h)
    ·exact .inl h
    ·exact .inr h.1
   ·rintro (h | h)
    ·exact .inl h
    ·exact .inr ⟨h,hk x h⟩
  have hn2:((jd key t e++l).map key).Nodup:=by
   have hp:((jd key t e).map key).Nodup:=Je (yt hs);rw [List.map_append] at hn ⊢;rw [List.nodup_append] at hn ⊢;obtain ⟨h1,h2,h3⟩:=hn;rw [List.map_cons,List.nodup_cons] at h2;refine ⟨hp,h2.2,?_⟩;intro a ha b hb;obtain ⟨x,hx,rfl⟩:=List.mem_map.1 ha;rcases (hm x).1 hx with rfl | hx
   ·rintro rfl; exact h2.1 hb
   ·exact h3 _ (List.mem_map_of_mem hx) b (by simp; exact .inr (by simpa using hb))
  obtain ⟨h1,h2⟩:=ze8 (yt hs) hn2;refine ⟨h1,fun x=>?_⟩;rw [List.foldl_cons,h2,hm];simp only [List.mem_cons];constructor
  ·rintro ((h | h) | h)
   ·exact .inr (.inl h)
   ·exact .inl h
   ·exact .inr (.inr h)
  ·rintro (h | h | h)
   ·exact .inl (.inr h)
   ·exact .inl (.inl h)
   ·exact .inr h
theorem zf3 (t:List Ent) (f tq:Str):movT t f tq=(t.map (jl f tq)).foldl put []:=by
 unfold movT; rw [List.foldl_map]
theorem MV.spec {t:List Ent} {f tq:Str} (h:MV t f tq):Srt Ent.path (movT t f tq)∧∀ x,x∈movT t f tq↔∃ e∈t,jl f tq e=x:=by
 obtain ⟨h1,h2⟩:=ze8 (key:=Ent.path) (l:=t.map (jl f tq)) (t:=[]) List.Pairwise.nil (by simpa using h.nodup);rw [zf3];exact ⟨h1,fun x=>by rw [h2]; simp⟩
theorem zft {t:List Ent} (hs:Srt Ent.path t) {p:Str} {e:Ent} (hp:pOk p=true) (he:e∈t) (h1:e.path=p) (h2:e.dir=true):zK t p=true:=by
 unfold zK;have:find t p=some e:=by rw [← h1]; exact qn hs he
 rw [jj hp,this]; exact h2
theorem MV.ok {t:List Ent} {f tq:Str} (h:MV t f tq):TG (movT t f tq):=by
 obtain ⟨h1,h2⟩:=h.spec;have up:∀ {u:Str} {d:Ent},pOk u=true→d∈t→(jl f tq d).path=u→d.dir=true→zK (movT t f tq) u=true:=fun hu hd hp hdir=>zft h1 hu ((h2 _).2 ⟨_,hd,rfl⟩) hp hdir
 refine ⟨?_,h1,?_,?_⟩
 ·have:(movT t f tq).length≤(t.map (jl f tq)).length:=by
   rw [zf3]; exact Nat.le_trans (Qb _ _) (by simp)
  have hl:=h.tg.len;rw [List.length_map] at this;omega
 ·intro x hx;obtain ⟨e,he,rfl⟩:=(h2 x).1 hx;have hk:=h.tg.ok e he;simp only [eok,Bool.and_eq_true] at hk ⊢;refine ⟨?_,hk.2⟩;cases hb:blw e.path f with
  | true=>obtain ⟨q1,q2⟩:=h.at he hb; rw [q1]; exact q2
  | false=>rw [h.stay he hb]; exact hk.1
 ·intro x hx;obtain ⟨e,he,rfl⟩:=(h2 x).1 hx;have hpe:=h.tg.path he;cases hb:blw e.path f with
  | false =>
   rw [h.stay he hb];by_cases hr:pUp e.path=[47]
   ·rw [hr]; exact zcf
   obtain ⟨q1,_⟩:=yp hpe hr;have hd:=h.tg.isDir_ent q1 (h.tg.up e he);obtain ⟨d1,d2⟩:=jX hd;have hb2:blw (pUp e.path) f=false:=by
    cases hb3:blw (pUp e.path) f with
    | false=>rfl
    | true =>
     exfalso;have:und e.path f=true:=by
      unfold blw at hb3;simp only [Bool.or_eq_true,beq_iff_eq] at hb3;rcases hb3 with hb3 | hb3
      ·rw [← hb3]; exact yF hpe
      ·exact JM h.fr hr (yF hpe) hb3
     unfold blw at hb;simp [this] at hb
   refine up q1 d2 ?_ rfl;rw [h.stay d2 hb2]
  | true =>
   obtain ⟨q1,q2⟩:=h.at he hb;rw [q1];unfold blw at hb;simp only [Bool.or_eq_true,beq_iff_eq] at hb;rcases hb with hb | hb
   ·rw [hb];simp only [List.drop_length,List.append_nil];by_cases hr:pUp tq=[47]
    ·rw [hr]; exact zcf
    obtain ⟨g1,_⟩:=yp h.pt hr;have hd:=h.tg.isDir_ent g1 h.up;obtain ⟨d1,d2⟩:=jX hd;have hb2:blw (pUp tq) f=false:=by
     cases hb3:blw (pUp tq) f with
     | false=>rfl
     | true =>
      exfalso;have:und tq f=true:=by
       unfold blw at hb3;simp only [Bool.or_eq_true,beq_iff_eq] at hb3;rcases hb3 with hb3 | hb3
       ·rw [← hb3]; exact yF h.pt
       ·exact JM h.fr hr (yF h.pt) hb3
      rw [h.nun] at this; cases this
    refine up g1 d2 ?_ rfl;rw [h.stay d2 hb2]
   ·have hu:pUp e.path=f∨(pUp e.path≠[47]∧pOk (pUp e.path)=true∧und (pUp e.path) f=true):=zdb hpe h.pf hb;have hr:pUp e.path≠[47]:=by
     rcases hu with hu | hu
     ·rw [hu]; exact h.fr
     ·exact hu.1
    obtain ⟨g1,_⟩:=yp hpe hr;have hd:=h.tg.isDir_ent g1 (h.tg.up e he);obtain ⟨d1,d2⟩:=jX hd;have hb2:blw (pUp e.path) f=true:=by
     unfold blw;rcases hu with hu | hu
     ·simp [hu]
     ·simp [hu.2.2]
    obtain ⟨r,r1,r2⟩:=QM h.fr hb2;obtain ⟨a,l,a1,a2,_,_,_,_,_,a6⟩:=JE hpe;have ha:a≠[]:=by rintro rfl; rw [if_pos rfl] at a6; exact hr a6
    rw [if_neg ha] at a6;obtain ⟨z1,z2⟩:=h.at (e:=⟨pUp e.path,true,[]⟩) d2 hb2;have hh:e.path.drop f.length=r++47::l:=by
     rw [a1,← a6,r1,List.append_assoc,List.drop_left]
    have hz:(pUp e.path).drop f.length=r:=by rw [r1,List.drop_left]
    simp only at z1 z2;rw [hz] at z1 z2;have:pUp (tq++e.path.drop f.length)=tq++r:=by
     refine zrQ q2 (l:=l) (by rw [hh,List.append_assoc]) a2 ?_;intro e0;rw [e0] at z2;exact absurd z2 (by decide)
    rw [this];exact up z2 d2 z1 rfl
theorem zgB {t:List Ent} {n:Ent} (ht:TG t) (hn:eok n=true) (hup:zK t (pUp n.path)=true) (hd:find t n.path=none∧t.length < 16∨∃ e,find t n.path=some e∧e.dir=false):TG (put t n):=by
 have hp:pOk n.path=true:=by simp only [eok,Bool.and_eq_true] at hn; exact hn.1
 have hs:=yt (e:=n) ht.srt;refine ⟨?_,hs,?_,?_⟩
 ·rcases hd with ⟨_,h⟩ | ⟨e,h1,_⟩
  ·have:=qQ (key:=Ent.path) (t:=t) (e:=n); show (jd Ent.path t n).length≤16; omega
  ·have:(put t n).length≤t.length:=by
    have hn:=Je hs;have:=zaP (l:=(put t n).map Ent.path) (k:=t.map Ent.path) hn fun x hx=>by
     obtain ⟨y,hy,rfl⟩:=List.mem_map.1 hx;rcases (Qo ht.srt).1 hy with rfl | hy
     ·obtain ⟨q1,q2⟩:=jX h1;rw [← q1]; exact List.mem_map_of_mem q2
     ·exact List.mem_map_of_mem hy.1
    simpa using this
   exact Nat.le_trans this ht.len
 ·intro x hx;rcases (Qo ht.srt).1 hx with rfl | hx
  ·exact hn
  ·exact ht.ok x hx.1
 ·have key:∀ {u:Str},zK t u=true→zK (put t n) u=true:=fun {u} hu=>by
   unfold zK get at hu ⊢;by_cases hr:u=[47]
   ·rw [if_pos hr]; rfl
   rw [if_neg hr] at hu ⊢;have e:find (put t n) u=if n.path=u then some n else find t u:=yK
   rw [e];by_cases hnu:n.path=u
   ·subst hnu;exfalso;rcases hd with ⟨h1,_⟩ | ⟨e,h1,h2⟩
    ·rw [h1] at hu; cases hu
    ·rw [h1] at hu; simp [h2] at hu
   ·rw [if_neg hnu]; exact hu
  intro x hx;rcases (Qo ht.srt).1 hx with rfl | hx
  ·exact key hup
  ·exact key (ht.up x hx.1)
theorem J9 {t:List Ent} (hs:Srt Ent.path t) {p q:Str}:find (offT t p) q=if q=p then none else find t q:=by
 unfold offT;have:=zbY (key:=Ent.path) hs (q:=fun e=>e.path != p) (p:=q);show fnd Ent.path _ q=_;rw [this];by_cases h:q=p
 ·subst h;rw [if_pos rfl];cases hf:fnd Ent.path t q with
  | none=>rfl
  | some e=>simp [Option.filter,(yL hf).1]
 ·rw [if_neg h];show _=fnd Ent.path t q;cases hf:fnd Ent.path t q with
  | none=>rfl
  | some e=>simp [Option.filter,(yL hf).1,h]
theorem zrz {t:List Ent} (ht:TG t) {p:Str} (hp:pOk p=true) (hk:kids t p=[]):TG (offT t p):=by
 have hs:Srt Ent.path (offT t p):=Jc ht.srt _;refine ⟨Nat.le_trans (List.length_filter_le _ _) ht.len,hs,fun e he=>ht.ok e (List.mem_filter.1 he).1,fun e he=>?_⟩;have he':=(List.mem_filter.1 he).1;have hu:=ht.up e he';unfold zK get at hu ⊢;by_cases hr:pUp e.path=[47]
 ·rw [if_pos hr]; rfl
 rw [if_neg hr] at hu ⊢;rw [J9 ht.srt,if_neg ?_]
 ·exact hu
 ·intro h;have:e.path∈(t.filter fun e=>pUp e.path==p).map Ent.path:=List.mem_map_of_mem (List.mem_filter.2 ⟨he',by simp [h]⟩);unfold kids at hk;rw [List.map_eq_nil_iff] at hk;rw [hk] at this; cases this
theorem zby {t:List Ent} {op:Op} (ht:TG t) (ho:zP op=true) (hc:jO t op=0):TG (doT t op):=by
 have hp:=Qt ho;unfold jO at hc;unfold doT;by_cases h1:op.kind=1
 ·rw [if_pos h1] at hc ⊢;obtain ⟨a,b,c⟩:=(new0 hp).1 hc;exact zgB ht (by simp [eok,hp]; decide) a (.inl ⟨b,c⟩)
 rw [if_neg h1] at hc ⊢;by_cases h2:op.kind=2
 ·rw [if_pos h2] at hc ⊢;obtain ⟨a,b⟩:=put0 hp hc;exact zgB ht (by simp [eok,hp,(zgl ho (by omega)).2.1]) a b
 rw [if_neg h2] at hc ⊢;by_cases h5:op.kind=5
 ·rw [if_pos h5] at hc ⊢;exact (MV.of ht ho h5 hc).ok
 rw [if_neg h5] at hc ⊢;have hk:=zcC ho;obtain ⟨e,_,_,h⟩:=(off0 ht hp (by omega)).1 hc;exact zrz ht hp h
theorem TG.tOk {t:List Ent} (h:TG t):tOk t=true:=Yv.2 ⟨h.len,h.srt,h.ok,h.up⟩
theorem QC {t:List Ent} {op:Op} (ht:tOk t=true) (hc:(zx t op).2=0):zP op=true∧jO t op=0∧(zx t op).1=doT t op∧Go.Proofs.YtopfccpgdldcdaaGreatDoor.tOk (doT t op)=true:=by
 unfold zx at hc ⊢;rw [if_pos ht] at hc ⊢;by_cases ho:zP op=true
 ·rw [if_pos ho] at hc ⊢;by_cases h0:jO t op=0
  ·rw [if_pos h0];exact ⟨ho,h0,rfl,(zby (TG.of ht) ho h0).tOk⟩
  ·rw [if_neg h0] at hc; exact absurd hc h0
 ·rw [if_neg ho] at hc; cases hc
def zaN (t:List Ent) (op:Op):Int:=if (find t op.path).isSome=false then 2 else if upC t op.dest≠0 then upC t op.dest else if (find t op.dest).isSome=true then 4 else if und op.dest op.path=true then 7 else
 if t.all (fun e=>(jw e.path op.path op.dest).isSome)=true then 0 else 8
theorem zq4 {t:List Ent} (ht:TG t) {p:Str} (hp:pOk p=true):kids t p≠[]↔∃ e∈t,und e.path p=true:=by
 have h1:kids t p≠[]↔∃ e∈t,pUp e.path=p:=by
  unfold kids;rw [ne_eq,List.map_eq_nil_iff,List.filter_eq_nil_iff];simp
 rw [h1];constructor
 ·rintro ⟨e,he,h⟩;refine ⟨e,he,?_⟩;rw [← h]; exact yF (ht.path he)
 ·rintro ⟨e,he,h⟩;have key:∀ (n:Nat) {e:Ent},(names e.path).length≤n→e∈t→und e.path p=true→∃ e∈t,pUp e.path=p:=by
   intro n;induction n with
   | zero=>intro e hn he _; have:=(ye (ht.path he)).1.1; omega
   | succ n ih =>
    intro e hn he hu;rcases zdb (ht.path he) hp hu with h | ⟨h2,h3,h4⟩
    ·exact ⟨e,he,h⟩
    ·have hd:=ht.isDir_ent h3 (ht.up e he);have:=(yp (ht.path he) h2).2.2;exact ih (e:=⟨pUp e.path,true,[]⟩) (by simp only; omega) (jX hd).2 h4
  exact key _ (Nat.le_refl _) he h
def doX (t:List Ent) (op:Op):List Ent:=if op.kind=5 then t.map (jl op.path op.dest) else if op.kind=1∨op.kind=2 then (t.filter fun e=>e.path != op.path)++[⟨op.path,op.kind==1,op.data⟩] else t.filter fun e=>e.path != op.path
theorem zoq {t S:List Ent} {op:Op} (ht:TG t) (ho:zP op=true) (hc:jO t op=0) (h:qF Ent.path (doX t op) S):S=doT t op:=by
 have hg:=zby ht ho hc;have hp:=Qt ho;have put_case:∀ n:Ent,n.path=op.path→doX t op=(t.filter fun e=>e.path != op.path)++[n]→doT t op=put t n→S=doT t op:=fun n hn e1 e2=>by
  rw [e1] at h;rw [e2] at hg ⊢;refine h.eq ?_ hg.srt fun e=>?_
  ·rw [List.map_append,List.nodup_append];refine ⟨?_,by simp,?_⟩
   ·exact Je (Jc ht.srt _)
   ·intro a ha b hb;obtain ⟨x,hx,rfl⟩:=List.mem_map.1 ha;have:=(List.mem_filter.1 hx).2;simp only [List.map_cons,List.map_nil,List.mem_singleton] at hb;rw [hb,hn]
    simpa using this
  ·rw [Qo ht.srt,List.mem_append,List.mem_filter,List.mem_singleton,hn];simp only [bne_iff_ne,ne_eq];constructor
   ·rintro (h | h)
    ·exact .inr h
    ·exact .inl h
   ·rintro (h | h)
    ·exact .inr h
    ·exact .inl h
 by_cases h1:op.kind=1
 ·have hd:=(zgl ho (by omega)).2.2;refine put_case ⟨op.path,true,[]⟩ rfl ?_ (by unfold doT; rw [if_pos h1]);unfold doX;rw [if_neg (by omega),if_pos (.inl h1)];rcases hd with hd | hd
  ·omega
  ·rw [hd,h1]; rfl
 by_cases h2:op.kind=2
 ·refine put_case ⟨op.path,false,op.data⟩ rfl ?_ (by unfold doT; rw [if_neg h1,if_pos h2]);unfold doX;rw [if_neg (by omega),if_pos (.inr h2),h2]; rfl
 by_cases h5:op.kind=5
 ·have hv:=MV.of ht ho h5 (by unfold jO at hc; rw [if_neg h1,if_neg h2,if_pos h5] at hc; exact hc);have e1:doX t op=t.map (jl op.path op.dest):=by unfold doX; rw [if_pos h5]
  have e2:doT t op=movT t op.path op.dest:=by unfold doT; rw [if_neg h1,if_neg h2,if_pos h5]
  rw [e1] at h;rw [e2];obtain ⟨q1,q2⟩:=hv.spec;refine h.eq hv.nodup q1 fun e=>?_
  rw [q2]; simp
 ·have e1:doX t op=offT t op.path:=by unfold doX; rw [if_neg h5,if_neg (by omega)]; rfl
  have e2:doT t op=offT t op.path:=by unfold doT; rw [if_neg h1,if_neg h2,if_neg h5]
  rw [e1] at h;rw [e2] at hg ⊢;exact h.eq (Je hg.srt) hg.srt fun e=>Iff.rfl

def qL (op:Op) (e:Option Ent):Op :=
 if op.kind=5 then ⟨5,op.dest,op.path,[]⟩
 else if op.kind=4 then ⟨1,op.path,[],[]⟩
 else if op.kind=3∨(op.kind=2∧e.isSome=true) then ⟨2,op.path,[],(e.getD noE).data⟩
 else if op.kind=2 then ⟨3,op.path,[],[]⟩
 else ⟨4,op.path,[],[]⟩
theorem QB {t t':List Ent} {op:Op} (ht:tOk t=true) (ho:zP op=true) (hc:jO t op=0) (hd:doT t op=t'):zx t op=(t',0):=by
 unfold zx; rw [if_pos ht,if_pos ho,if_pos hc,hd]
theorem zcz {k:Int} {p:Str} (hp:pOk p=true) (hk:k=1∨k=3∨k=4):zP ⟨k,p,[],[]⟩=true:=by
 rcases hk with rfl|rfl|rfl<;>simp [zP,hp]<;>decide
theorem zgi {p d:Str} (hp:pOk p=true) (hd:qv d=true):zP ⟨2,p,[],d⟩=true:=by
 simp [zP,hp,hd]
theorem zgh {f tq:Str} (hf:pOk f=true) (ht:pOk tq=true):zP ⟨5,f,tq,[]⟩=true:=by
 simp [zP,hf,ht]
theorem zbc {p:Str} (h:pOk p=true):pUp p≠p:=by
 by_cases hr:pUp p=[47]
 ·rw [hr]; exact fun e=>ZG h e.symm
 ·intro e; have:=zbb h hr; rw [e,yC] at this; cases this
theorem zqY {t:List Ent} {n:Ent} {u:Str} (hu:zK t u=true) (h:n.path≠u):zK (put t n) u=true:=by
 unfold zK get at hu ⊢;by_cases hr:u=[47]
 ·rw [if_pos hr]; rfl
 rw [if_neg hr] at hu ⊢;have e:find (put t n) u=if n.path=u then some n else find t u:=yK
 rw [e,if_neg h]; exact hu
theorem zqX {t:List Ent} (hs:Srt Ent.path t) {p u:Str} (hu:zK t u=true) (h:u≠p):zK (offT t p) u=true:=by
 unfold zK get at hu ⊢;by_cases hr:u=[47]
 ·rw [if_pos hr]; rfl
 rw [if_neg hr] at hu ⊢;rw [J9 hs,if_neg h]; exact hu
theorem zge {t:List Ent} (hs:Srt Ent.path t) {n:Ent} (h:find t n.path=none):offT (put t n) n.path=t:=by
 refine Qy (Jc (yt hs) _) hs fun p=>?_
 show find (offT (put t n) n.path) p=find t p;rw [J9 (yt hs)];by_cases hp:p=n.path
 ·rw [if_pos hp,hp,h]
 ·rw [if_neg hp];have e:find (put t n) p=if n.path=p then some n else find t p:=yK
  rw [e,if_neg (fun e=>hp e.symm)]
theorem zcH {t t':List Ent} (hs:Srt Ent.path t) (hs':Srt Ent.path t') {n:Ent} (h:find t n.path=some n) (hf:∀ p,p≠n.path→find t' p=find t p):put t' n=t:=by
 refine Qy (yt hs') hs fun p=>?_
 have e:find (put t' n) p=if n.path=p then some n else find t' p:=yK
 show find (put t' n) p=find t p;rw [e];by_cases hp:n.path=p
 ·rw [if_pos hp,← hp,h]
 ·rw [if_neg hp,hf p fun e=>hp e.symm]
theorem zry {t:List Ent} {p:Str} {e:Ent} (h:find t p=some e):(offT t p).length < t.length:=by
 obtain ⟨h1,h2⟩:=jX h;exact List.length_filter_lt_length_iff_exists.2 ⟨e,h2,by simp [h1]⟩
theorem zhT {t:List Ent} {op:Op} (ht:TG t) (ho:zP op=true) (hc:jO t op=0):zx (doT t op) (qL op (find t op.path))=(t,0):=by
 have hp:=Qt ho;have hg:=zby ht ho hc;have hk:=zcC ho;have hgk:=hg.tOk;unfold jO at hc;unfold doT at hg hgk ⊢;by_cases h1:op.kind=1
 ·rw [if_pos h1] at hc hg hgk ⊢;obtain ⟨a,b,c⟩:=(new0 hp).1 hc;have eb:qL op (find t op.path)=⟨4,op.path,[],[]⟩:=by
   unfold qL; rw [if_neg (by omega),if_neg (by omega),if_neg (by omega),if_neg (by omega)]
  rw [eb];refine QB hgk (zcz hp (by omega)) ?_ ?_
  ·unfold jO;rw [if_neg (by simp),if_neg (by simp),if_neg (by simp)];refine (off0 (op:=⟨4,op.path,[],[]⟩) hg hp (.inr rfl)).2 ⟨⟨op.path,true,[]⟩,?_,rfl,?_⟩
   ·exact (yK (key:=Ent.path)).trans (if_pos rfl)
   ·cases hkd:kids (put t ⟨op.path,true,[]⟩) op.path with
    | nil=>rfl
    | cons x l =>
     exfalso;have hne:kids (put t ⟨op.path,true,[]⟩) op.path≠[]:=by rw [hkd]; simp
     unfold kids at hne;rw [ne_eq,List.map_eq_nil_iff,List.filter_eq_nil_iff] at hne;refine hne fun e he hh=>?_
     rcases (Qo ht.srt).1 he with rfl | he
     ·exact zbc hp (beq_iff_eq.1 hh)
     ·have:=ht.up e he.1;rw [beq_iff_eq.1 hh] at this;rw [ht.isDir_ent hp this] at b; cases b
  ·unfold doT;rw [if_neg (by simp),if_neg (by simp),if_neg (by simp)];exact zge ht.srt (n:=⟨op.path,true,[]⟩) b
 rw [if_neg h1] at hc hg hgk ⊢;by_cases h2:op.kind=2
 ·rw [if_pos h2] at hc hg hgk ⊢;obtain ⟨a,b⟩:=put0 hp hc;have hup:zK (put t ⟨op.path,false,op.data⟩) (pUp op.path)=true:=zqY a fun e=>zbc hp e.symm
  have hf:find (put t ⟨op.path,false,op.data⟩) op.path=some ⟨op.path,false,op.data⟩:=(yK (key:=Ent.path)).trans (if_pos rfl);rcases b with ⟨b,c⟩ | ⟨e,b,c⟩
  ·have eb:qL op (find t op.path)=⟨3,op.path,[],[]⟩:=by
    unfold qL; rw [if_neg (by omega),if_neg (by omega),if_neg (by rw [b]; simp; omega),if_pos h2]
   rw [eb];refine QB hgk (zcz hp (by omega)) ?_ ?_
   ·unfold jO;rw [if_neg (by simp),if_neg (by simp),if_neg (by simp)];refine (off0 (op:=⟨3,op.path,[],[]⟩) hg hp (.inl rfl)).2 ⟨_,hf,rfl,zfB hg hp ?_⟩;unfold zK; rw [jj hp,hf]
   ·unfold doT;rw [if_neg (by simp),if_neg (by simp),if_neg (by simp)];exact zge ht.srt (n:=⟨op.path,false,op.data⟩) b
  ·have eb:qL op (find t op.path)=⟨2,op.path,[],e.data⟩:=by
    unfold qL; rw [if_neg (by omega),if_neg (by omega),if_pos (by rw [b]; exact .inr ⟨h2,rfl⟩),b]; rfl
   rw [eb];obtain ⟨e1,e2⟩:=jX b;have hn:find t op.path=some ⟨op.path,false,e.data⟩:=by rw [b,← e1,← c]
   refine QB hgk (zgi hp (ht.datOk e2)) ?_ ?_
   ·unfold jO;rw [if_neg (by simp),if_pos rfl];show putC (put t ⟨op.path,false,op.data⟩) op.path=0;have h4:newC (put t ⟨op.path,false,op.data⟩) op.path=4:=by
     unfold newC;rw [if_neg (by simp [QE.2 hup]),jj hp,hf]; rfl
    unfold putC;rw [if_pos h4,jj hp,hf]; rfl
   ·unfold doT;rw [if_neg (by simp),if_pos rfl];refine zcH ht.srt hg.srt (n:=⟨op.path,false,e.data⟩) hn fun p hpn=>?_
    exact (yK (key:=Ent.path)).trans (if_neg fun e=>hpn e.symm)
 rw [if_neg h2] at hc hg hgk ⊢;by_cases h5:op.kind=5
 ·rw [if_pos h5] at hc hg hgk ⊢;have hv:=MV.of ht ho h5 hc;have eb:qL op (find t op.path)=⟨5,op.dest,op.path,[]⟩:=by unfold qL; rw [if_pos h5]
  rw [eb];obtain ⟨q1,q2⟩:=hv.spec;have hsame:∀ {e:Ent},e∈movT t op.path op.dest→∃ x∈t,jl op.path op.dest x=e∧jl op.dest op.path e=x:=fun he=>by
   obtain ⟨x,hx,rfl⟩:=(q2 _).1 he;exact ⟨x,hx,rfl,hv.inv hx⟩
  obtain ⟨ef,hef⟩:=hv.frm;obtain ⟨f1,f2⟩:=jX hef;have hto:(jl op.path op.dest ef).path=op.dest:=by
   have:=(hv.at f2 (by unfold blw; simp [f1])).1;rw [this,f1]; simp
  have hm0:movC (movT t op.path op.dest) ⟨5,op.dest,op.path,[]⟩=0:=by
   refine (mov0 (op:=⟨5,op.dest,op.path,[]⟩) hv.pt hp).2 ⟨⟨jl op.path op.dest ef,?_⟩,?_,?_,?_,?_⟩
   ·have:=qn q1 ((q2 _).2 ⟨ef,f2,rfl⟩);rw [hto] at this; exact this
   ·by_cases hr:pUp op.path=[47]
    ·show zK _ (pUp op.path)=true;rw [hr]; exact zcf
    obtain ⟨u1,_⟩:=yp hp hr;have hup:=ht.up ef f2;rw [f1] at hup;obtain ⟨d1,d2⟩:=jX (ht.isDir_ent u1 hup);have hb:blw (pUp op.path) op.path=false:=by
     cases hb:blw (pUp op.path) op.path with
     | false=>rfl
     | true =>
      unfold blw at hb;simp only [Bool.or_eq_true,beq_iff_eq] at hb;rcases hb with hb | hb
      ·exact absurd hb (zbc hp)
      ·have h1:=zdc hb hv.fr;have h2:=zbb hp hr;rw [ZZ h1] at h2; cases h2
    refine zft q1 u1 ((q2 _).2 ⟨_,d2,rfl⟩) ?_ rfl;rw [hv.stay d2 hb]
   ·show find (movT t op.path op.dest) op.path=none;cases hfn:find (movT t op.path op.dest) op.path with
    | none=>rfl
    | some y =>
     exfalso;obtain ⟨y1,y2⟩:=jX hfn;obtain ⟨x,hx,h3,_⟩:=hsame y2;rw [← h3] at y1;cases hb:blw x.path op.path with
     | true =>
      have:=hv.blw_to hx;rw [hb,y1] at this;have hc2:=hv.clear f2;rw [f1,this] at hc2; cases hc2
     | false =>
      rw [hv.stay hx hb] at y1;unfold blw at hb;simp [y1] at hb
   ·show und op.path op.dest=false;have:=hv.clear f2;unfold blw at this;rw [f1] at this;simp only [Bool.or_eq_false_iff] at this;exact this.2
   ·intro e he;obtain ⟨x,hx,h3,h4⟩:=hsame he;show (jw e.path op.dest op.path).isSome=true;cases hm:jw e.path op.dest op.path with
    | some _=>rfl
    | none =>
     exfalso;unfold jl at h4;rw [hm] at h4;have:=ht.path hx;rw [← h4] at this;exact absurd this (by simp [pOk,names])
  refine QB hgk (zgh hv.pt hp) ?_ ?_
  ·unfold jO;rw [if_neg (by simp),if_neg (by simp),if_pos rfl];exact hm0
  ·unfold doT;rw [if_neg (by simp),if_neg (by simp),if_pos rfl];have hv2:=MV.of (op:=⟨5,op.dest,op.path,[]⟩) hv.ok (zgh hv.pt hp) rfl hm0;obtain ⟨z1,z2⟩:=hv2.spec;refine zcY z1 ht.srt fun e=>?_
   show e∈movT (movT t op.path op.dest) op.dest op.path↔_;rw [z2];constructor
   ·rintro ⟨y,hy,rfl⟩;obtain ⟨x,hx,_,h4⟩:=hsame hy;show jl op.dest op.path y∈t;rw [h4]; exact hx
   ·intro he;exact ⟨jl op.path op.dest e,(q2 _).2 ⟨e,he,rfl⟩,hv.inv he⟩
 rw [if_neg h5] at hc hg hgk ⊢;obtain ⟨e,b,c,d⟩:=(off0 ht hp (by omega)).1 hc;obtain ⟨e1,e2⟩:=jX b;have hup:zK (offT t op.path) (pUp op.path)=true:=by
  have:=ht.up e e2;rw [e1] at this;exact zqX ht.srt this (zbc hp)
 have hnone:find (offT t op.path) op.path=none:=by rw [J9 ht.srt,if_pos rfl]
 have hl:=zry b;have hlt:=ht.len;have hnew:newC (offT t op.path) op.path=0:=(new0 hp).2 ⟨hup,hnone,by omega⟩;by_cases h4:op.kind=4
 ·have eb:qL op (find t op.path)=⟨1,op.path,[],[]⟩:=by unfold qL; rw [if_neg (by omega),if_pos h4]
  rw [eb];refine QB hgk (zcz hp (by omega)) ?_ ?_
  ·unfold jO; rw [if_pos rfl]; exact hnew
  ·unfold doT;rw [if_pos rfl];have hd:zK t op.path=true:=by
    unfold zK;rw [jj hp,b];show e.dir=true;rw [c,h4]; rfl
   refine zcH ht.srt hg.srt (n:=⟨op.path,true,[]⟩) (ht.isDir_ent hp hd) fun p hpn=>?_
   rw [J9 ht.srt,if_neg hpn]
 ·have h3:op.kind=3:=by omega
  have eb:qL op (find t op.path)=⟨2,op.path,[],e.data⟩:=by unfold qL; rw [if_neg (by omega),if_neg h4,if_pos (.inl h3),b]; rfl
  rw [eb];have hn:find t op.path=some ⟨op.path,false,e.data⟩:=by
   rw [b,← e1];have:e.dir=false:=by rw [c,h3]; rfl
   rw [← this]
  refine QB hgk (zgi hp (ht.datOk e2)) ?_ ?_
  ·unfold jO;rw [if_neg (by simp),if_pos rfl];show putC (offT t op.path) op.path=0;unfold putC;rw [if_neg (by rw [hnew]; decide),hnew]
  ·unfold doT;rw [if_neg (by simp),if_pos rfl];refine zcH ht.srt hg.srt (n:=⟨op.path,false,e.data⟩) hn fun p hpn=>?_
   rw [J9 ht.srt,if_neg hpn]

theorem zfP:∀ {a:List (List Mark)} {t t':List Ent},jE a t=some t'→∀ l∈a,lOk l=true
 | [],_,_,_,l,hl=>by cases hl
 | x::a,t,t',h,l,hl=>by
  rw [jE] at h;cases h1:lOn x t with
  | none=>rw [h1] at h; cases h
  | some y =>
   rw [h1] at h;rcases List.mem_cons.1 hl with rfl | hl
   ·exact (Qi h1).2.1
   ·exact zfP h l hl
theorem zfO {o:Over} {t:List Ent} (h:jy o=some t):tOk o.base=true∧o.layers.length≤4∧jE o.layers o.base=some t:=by
 unfold jy at h;split at h
 ·rename_i hc; exact ⟨hc.1,hc.2,h⟩
 ·cases h
theorem zru {o:Over} (h:oOk o=true):(∀ l∈o.layers,lOk l=true)∧lOk o.upper=true:=by
 obtain ⟨t,x,h1,h2,_⟩:=zga h;refine ⟨zfP (zfO h1).2.2,?_⟩;unfold z7 at h2;rw [h1] at h2;exact (Qi h2).2.1
theorem zq1 {a b j:List Mark} {t x:List Ent} (hj:yn a b=some j) (hx:lOn b t=some x):lOn j t=lOn a x:=by
 obtain ⟨h1,h2,rfl,h4⟩:=zq7 hj;obtain ⟨h5,_,h6,rfl⟩:=Qi hx;have h7:=Qj hx;unfold lOn;rw [if_pos (show (lOk (qZ a b)&&tOk t)=true by simp [h4,h6]),if_pos (show (lOk a&&tOk (jG b t))=true by simp [h1,h7]),zrH (LG.of h1) (LG.of h2) (TG.of h6).srt]

def noO:Over:=⟨[],[],[]⟩
def lowG (o:Over):List Ent:=(jy o).getD []
def vwG (o:Over):List Ent:=(z7 o).getD []
def oDo (o:Over) (op:Op):Over × Int :=
 if oOk o=true then (if (zx (vwG o) op).2=0 then (⟨o.base,o.layers,jf (lowG o) (zx (vwG o) op).1⟩,0) else (o,(zx (vwG o) op).2)) else (noO,1)
def Zk (o:Over):Over × Bool:=if oOk o=true then (if 4≤o.layers.length then (o,false) else (⟨o.base,o.layers++[o.upper],[]⟩,true)) else (noO,false)
def oDrop (o:Over):Over:=if oOk o=true then ⟨o.base,o.layers,[]⟩ else noO
def yw:List Mark→List (List Mark)→Option (List Mark)
 | one,[]=>some one
 | one,l::r=>match yn l one with
  | some j=>yw j r
  | none=>none
def ZU (o:Over):Option (List Mark):=match o.layers with
 | a::b::r=>yw a (b::r)
 | _=>none
def ZF (o:Over):Over × Bool:=if oOk o=true then (match ZU o with
 | some j=>(⟨o.base,[j],o.upper⟩,true)
 | none=>(o,false)) else (noO,false)
def eOC (x:Over × Int):CV := .tup [jR x.1,CI x.2]
def eOB (x:Over × Bool):CV := .tup [jR x.1,CB x.2]
structure OG (o:Over) (t x:List Ent):Prop where
 ok:oOk o=true
 low:jy o=some t
 vw:z7 o=some x
 up:o.upper=jf t x
 gt:tOk t=true
 gx:tOk x=true
theorem OG.of {o:Over} (h:oOk o=true):∃ t x,OG o t x:=by
 obtain ⟨t,x,h1,h2,h3⟩:=zga h;exact ⟨t,x,h,h1,h2,h3,zaH h1,YA h2⟩
theorem OG.lowG {o:Over} {t x:List Ent} (h:OG o t x):lowG o=t:=by unfold Go.Proofs.YtopfccpgdldcdaaGreatDoor.lowG; rw [h.low]; rfl
theorem OG.vwG {o:Over} {t x:List Ent} (h:OG o t x):vwG o=x:=by unfold Go.Proofs.YtopfccpgdldcdaaGreatDoor.vwG; rw [h.vw]; rfl
theorem OG.mk' {o:Over} {t x:List Ent} (h1:jy o=some t) (h2:z7 o=some x) (h3:o.upper=jf t x):OG o t x :=
 ⟨by unfold oOk; rw [h1,h2]; simp [h3],h1,h2,h3,zaH h1,YA h2⟩
theorem OG.turn {o:Over} {t y:List Ent} (h:jy o=some t) (hy:tOk y=true):OG ⟨o.base,o.layers,jf t y⟩ t y:=by
 have h1:jy ⟨o.base,o.layers,jf t y⟩=some t:=h;refine OG.mk' h1 ?_ rfl;unfold z7;rw [h1];exact zfE (zaH h) hy
theorem zbw {t:List Ent} (h:tOk t=true):jf t t=[]:=by
 have:zZ t t=[]:=by
  cases hx:zZ t t with
  | nil=>rfl
  | cons p l =>
   have:=(Z2 (TG.of h) (TG.of h) (p:=p)).1 (by rw [hx]; simp);exact absurd rfl this
 unfold jf; rw [this]; rfl
theorem zq8 {t:List Ent} (h:tOk t=true):lOn [] t=some t:=by
 have:=zfE h h
 rwa [zbw h] at this
theorem OG.lay {o:Over} {t x:List Ent} (h:OG o t x):o.layers.length≤4∧jE o.layers o.base=some t∧tOk o.base=true:=by
 obtain ⟨a,b,c⟩:=zfO h.low; exact ⟨b,c,a⟩
theorem OG.on {o:Over} {t x:List Ent} (h:OG o t x):lOn o.upper t=some x:=by
 have:=h.vw; unfold z7 at this; rw [h.low] at this; exact this
theorem zth {x:List Ent} {op:Op} (hx:tOk x=true) (h:(zx x op).2≠0):(zx x op).1=x:=by
 unfold zx at h ⊢;rw [if_pos hx] at h ⊢;split
 ·rename_i h1;rw [if_pos h1] at h;split
  ·rename_i h2; rw [if_pos h2] at h; exact absurd rfl h
  ·rfl
 ·rfl
theorem OG.doEq {o:Over} {t x:List Ent} (h:OG o t x) (op:Op):oDo o op=if (zx x op).2=0 then (⟨o.base,o.layers,jf t (zx x op).1⟩,0) else (o,(zx x op).2):=by
 unfold oDo; rw [if_pos h.ok,h.vwG,h.lowG]
theorem OG.do {o:Over} {t x:List Ent} (h:OG o t x) (op:Op):OG (oDo o op).1 t (zx x op).1∧(oDo o op).2=(zx x op).2∧(oDo o op).1.base=o.base∧(oDo o op).1.layers=o.layers∧((zx x op).2≠0→(oDo o op).1=o):=by
 unfold oDo;rw [if_pos h.ok,h.vwG,h.lowG];by_cases hc:(zx x op).2=0
 ·rw [if_pos hc];obtain ⟨_,_,h3,h4⟩:=QC h.gx hc;refine ⟨?_,hc.symm,rfl,rfl,fun e=>absurd hc e⟩;rw [h3];exact OG.turn h.low h4
 ·rw [if_neg hc];refine ⟨?_,rfl,rfl,rfl,fun _=>rfl⟩;rw [zth h.gx hc]; exact h
theorem OG.push {o:Over} {t x:List Ent} (h:OG o t x) (hl:¬ 4≤o.layers.length):Zk o=(⟨o.base,o.layers++[o.upper],[]⟩,true)∧OG ⟨o.base,o.layers++[o.upper],[]⟩ x x:=by
 refine ⟨by unfold Zk; rw [if_pos h.ok,if_neg hl],?_⟩;have h1:jy ⟨o.base,o.layers++[o.upper],[]⟩=some x:=by
  unfold jy;simp only;rw [if_pos ⟨h.lay.2.2,by simp; omega⟩,Ql,h.lay.2.1];show jE [o.upper] t=some x;rw [jE,h.on]; rfl
 refine OG.mk' h1 ?_ (zbw h.gx).symm;unfold z7;rw [h1];exact zq8 h.gx
theorem OG.push_no {o:Over} {t x:List Ent} (h:OG o t x) (hl:4≤o.layers.length):Zk o=(o,false)∧o.layers.length=4 :=
 ⟨by unfold Zk; rw [if_pos h.ok,if_pos hl],by have:=h.lay.1; omega⟩
theorem OG.drop {o:Over} {t x:List Ent} (h:OG o t x):oDrop o=⟨o.base,o.layers,[]⟩∧OG ⟨o.base,o.layers,[]⟩ t t:=by
 refine ⟨by unfold oDrop; rw [if_pos h.ok],?_⟩;have:=OG.turn h.low h.gt
 rwa [zbw h.gt] at this
theorem zeQ {base:List Ent}:∀ {ls:List (List Mark)} {one j:List Mark} {y t:List Ent},yw one ls=some j→lOn one base=some y→jE ls y=some t→lOn j base=some t
 | [],one,j,y,t,h1,h2,h3=>by
  rw [yw] at h1; rw [jE] at h3; cases h1; cases h3; exact h2
 | l::r,one,j,y,t,h1,h2,h3=>by
  rw [yw] at h1;rw [jE] at h3;cases hj:yn l one with
  | none=>rw [hj] at h1; cases h1
  | some j' =>
   rw [hj] at h1;have:=zq1 hj h2;cases hz:lOn l y with
   | none=>rw [hz] at h3; cases h3
   | some z =>
    rw [hz] at h3 this;exact zeQ h1 this h3
theorem OG.flat {o:Over} {t x:List Ent} (h:OG o t x) {j:List Mark} (hj:ZU o=some j):ZF o=(⟨o.base,[j],o.upper⟩,true)∧OG ⟨o.base,[j],o.upper⟩ t x∧lOk j=true:=by
 refine ⟨by unfold ZF; rw [if_pos h.ok,hj],?_⟩;unfold ZU at hj;split at hj
 ·rename_i a b r hl;have hlow:=h.lay.2.1;rw [hl,jE] at hlow;cases hy:lOn a o.base with
  | none=>rw [hy] at hlow; cases hlow
  | some y =>
   rw [hy] at hlow;have ho:=zeQ hj hy hlow;have h1:jy ⟨o.base,[j],o.upper⟩=some t:=by
    unfold jy;rw [if_pos ⟨h.lay.2.2,by simp⟩,jE,ho]; rfl
   refine ⟨OG.mk' h1 ?_ h.up,(Qi ho).2.1⟩;unfold z7;rw [h1];exact h.on
 ·cases hj
theorem lay0 {l:List Mark} {t t':List Ent} {p:Str} {e:Ent} (h:lOn l t=some t') (hk:kind l p=0) (hf:find t' p=some e):find t p=some e:=by
 obtain ⟨_,h1,h2,rfl⟩:=Qi h;rw [Z6 (LG.of h1).srt (TG.of h2).srt,(LG.of h1).kind0.1 hk] at hf;simp only at hf;split at hf
 ·cases hf
 ·exact hf
theorem lays0 {p:Str} {e:Ent}:∀ {ls:List (List Mark)} {b t:List Ent},jE ls b=some t→(∀ l∈ls,kind l p=0)→find t p=some e→find b p=some e
 | [],b,t,h,_,hf=>by rw [jE] at h; cases h; exact hf
 | l::r,b,t,h,hk,hf=>by
  rw [jE] at h;cases hz:lOn l b with
  | none=>rw [hz] at h; cases h
  | some z=>rw [hz] at h; exact lay0 hz (hk l (by simp)) (lays0 h (fun l hl=>hk l (by simp [hl])) hf)
theorem zhr {all:List (List Mark)} {p:Str}:∀ {k:Nat},topN all p k=0→∀ j,j < k→kind (all.getD j []) p=0
 | 0,_,j,hj=>by omega
 | k+1,h,j,hj=>by
  rw [topN] at h;split at h
  ·omega
  ·rename_i h1;by_cases hjk:j=k
   ·subst hjk; simpa using h1
   ·exact zhr h j (by omega)
theorem ztf {all:List (List Mark)} {p:Str} {k:Nat} (h:topN all p (k+1)≠k+1):kind (all.getD k []) p=0:=by
 rw [topN] at h;split at h
 ·exact absurd rfl h
 ·rename_i h1; simpa using h1
theorem OG.from {o:Over} {t x:List Ent} (h:OG o t x) {p:Str} {e:Ent} (hg:get x p=some e):(topN (allL o) p (allL o).length=0→get o.base p=some e)∧(topN (allL o) p (allL o).length≠o.layers.length+1→get t p=some e):=by
 have hal:(allL o).length=o.layers.length+1:=by simp [allL]
 unfold get at hg ⊢;by_cases hp:p=[47]
 ·rw [if_pos hp] at hg; rw [if_pos hp,if_pos hp]; exact ⟨fun _=>hg,fun _=>hg⟩
 rw [if_neg hp] at hg;rw [if_neg hp,if_neg hp];have hup:kind o.upper p=0→find t p=some e:=fun hk=>lay0 h.on hk hg
 have hgu:(allL o).getD o.layers.length []=o.upper:=by unfold allL; simp [List.getD]
 refine ⟨fun h0=>?_,fun hn=>?_⟩
 ·have hall:=zhr h0;refine lays0 h.lay.2.1 (fun l hl=>?_) (hup ?_)
  ·obtain ⟨j,hj,rfl⟩:=List.mem_iff_getElem.1 hl;have:=hall j (by omega);have e1:(allL o).getD j []=o.layers[j]:=by unfold allL; simp [List.getD,List.getElem?_append_left hj,hj]
   rwa [e1] at this
  ·have:=hall o.layers.length (by omega)
   rwa [hgu] at this
 ·rw [hal] at hn;have:=ztf hn;rw [hgu] at this;exact hup this
theorem OG.get {o:Over} {t x:List Ent} (h:OG o t x) (p:Str):oGet o p=(Go.Proofs.YtopfccpgdldcdaaGreatDoor.get x p).map fun e=>(e,(topN (allL o) p (allL o).length:Int)):=by
 unfold oGet;rw [if_pos h.ok,h.vw];simp only;cases Go.Proofs.YtopfccpgdldcdaaGreatDoor.get x p<;>rfl
theorem OG.back {o:Over} {t x:List Ent} (h:OG o t x) {op:Op} (hc:(oDo o op).2=0):oDo (oDo o op).1 (qL op ((oGet o op.path).map (·.1)))=(o,0):=by
 obtain ⟨h1,h2,h3,h4,_⟩:=h.do op
 have hc':=hc;rw [h2] at hc';obtain ⟨g1,g2,g3,g4⟩:=QC h.gx hc';rw [g3] at h1;have hb:=zhT (TG.of h.gx) g1 g2;have e:(oGet o op.path).map (·.1)=find x op.path:=by
  rw [h.get,jj (Qt g1)];cases find x op.path<;>rfl
 rw [e];generalize qL op (find x op.path)=b at *;rw [h1.doEq,hb,if_pos rfl,h3,h4,← h.up]
structure OS (o:Over):Prop where
 b:o.base.length≤17
 n:o.layers.length≤4
 l:∀ l∈o.layers,l.length≤32
 u:o.upper.length≤32
theorem OS.no:OS noO:=⟨by simp [noO],by simp [noO],by simp [noO],by simp [noO]⟩
theorem OG.os {o:Over} {t x:List Ent} (h:OG o t x):OS o:=by
 obtain ⟨h1,h2⟩:=zru h.ok;have hb:=(TG.of h.lay.2.2).len;exact ⟨by omega,h.lay.1,fun l hl=>(ju.1 (h1 l hl)).1,(ju.1 h2).1⟩
theorem OS.ok {o:Over} (h:oOk o=true):OS o:=by obtain ⟨t,x,h⟩:=OG.of h; exact h.os
theorem OS.do {o:Over} (op:Op):OS (oDo o op).1:=by
 by_cases h:oOk o=true
 ·obtain ⟨t,x,h⟩:=OG.of h; exact (h.do op).1.os
 ·unfold oDo; rw [if_neg h]; exact OS.no
theorem OS.push {o:Over}:OS (Zk o).1:=by
 by_cases h:oOk o=true
 ·obtain ⟨t,x,h⟩:=OG.of h;by_cases hl:4≤o.layers.length
  ·rw [(h.push_no hl).1]; exact h.os
  ·rw [(h.push hl).1]; exact (h.push hl).2.os
 ·unfold Zk; rw [if_neg h]; exact OS.no
theorem OS.flat {o:Over}:OS (ZF o).1:=by
 by_cases h:oOk o=true
 ·obtain ⟨t,x,h⟩:=OG.of h;cases hj:ZU o with
  | some j=>rw [(h.flat hj).1]; exact (h.flat hj).2.1.os
  | none=>unfold ZF; rw [if_pos h.ok,hj]; exact h.os
 ·unfold ZF; rw [if_neg h]; exact OS.no

structure Ev where
 kind:Int
 who:Int
 path:Str
 op:Op
 pos:Int
deriving DecidableEq
def eEv (e:Ev):CV := .agg [CI e.kind,CI e.who,CS e.path,CI e.op.kind,CS e.op.path,CS e.op.dest,CS e.op.data,CI e.pos]
noncomputable def tb (p:Prop):Bool:=@decide p (Classical.propDecidable p)
theorem tb_t {p:Prop} (h:p):tb p=true:=@decide_eq_true p (Classical.propDecidable p) h
theorem tb_f {p:Prop} (h:¬ p):tb p=false:=@decide_eq_false p (Classical.propDecidable p) h
theorem tb_i {p:Prop}:tb p=true↔p:=⟨fun h=>@of_decide_eq_true p (Classical.propDecidable p) h,tb_t⟩
theorem tb_n {p:Prop}:tb p=false↔¬ p:=⟨fun h hp=>(by rw [tb_t hp] at h; cases h),tb_f⟩
theorem tb_c {p q:Prop} (h:p↔q):tb p=tb q:=by rw [propext h]
theorem pT {p:Prop} (h:p):CB true=CB (tb p):=by rw [tb_t h]
theorem pF {p:Prop} (h:¬ p):CB false=CB (tb p):=by rw [tb_f h]
instance (p:Prop):BP (tb p) p (¬ p):=⟨tb_i.1,tb_n.1⟩
def ja:Op:=⟨0,[],[],[]⟩
def noW:Wld:=⟨noO,0,0,[],[],[],[],false,ja⟩
def noH:Hold:=⟨[],false,noE,0,0⟩
def noMs:Msg:=⟨0,0,noH⟩
def isW (n:Int):Prop:=0≤n∧n < 3
def hdW (w:Wld) (who:Int):List Hold:=w.holds.getD who.toNat []
def flW (w:Wld) (who:Int):Int:=w.floors.getD who.toNat 0
def jk (l:List Lease) (who:Int) (p:Str):Option Lease:=l.find? fun x=>x.who==who&&x.path==p
def So (w:Wld) (t:List Ent) (who:Int) (h:Hold):Prop :=
 w.clock < h.til→∃ l,jk w.leases who h.path=some l∧(get t h.path).isSome=h.has∧(get t h.path).getD noE=h.ent∧w.clock < l.til∧h.num≤l.num∧h.til≤l.til
def LsG (w:Wld) (l:Lease):Prop:=isW l.who∧pOk l.path=true∧1≤l.num∧l.num≤w.count∧l.til≤w.clock+5
def LsD (a b:Lease):Prop:=¬ (a.who=b.who∧a.path=b.path)
structure LsOk (w:Wld):Prop where
 g:∀ l∈w.leases,LsG w l
 d:w.leases.Pairwise LsD
def WtOk (w:Wld) (t:List Ent):Prop:=(w.waits=false→w.op=ja)∧(w.waits=true→(zx t w.op).2=0)
def HdG (w:Wld) (t:List Ent) (who:Int) (h:Hold):Prop:=pOk h.path=true∧0≤h.num∧h.num≤w.count∧So w t who h
structure HdOk (w:Wld) (t:List Ent) (who:Int):Prop where
 g:∀ h∈hdW w who,HdG w t who h
 d:(hdW w who).Pairwise fun a b=>a.path≠b.path
def JF (h:Hold):Hold:=⟨h.path,false,noE,h.num,0⟩
def Jg (w:Wld) (m:Msg):Prop:=m.hold.num≤flW w m.who∧∀ h∈hdW w m.who,h.path=m.hold.path→m.hold.num < h.num
structure MsOk (w:Wld) (t:List Ent) (m:Msg):Prop where
 who:isW m.who
 path:pOk m.hold.path=true
 num:0≤m.hold.num∧m.hold.num≤w.count
 kind:1≤m.kind∧m.kind≤4
 grant:m.kind=2→m.hold.num≤flW w m.who∨So w t m.who m.hold
 plain:m.kind≠2→m.hold=JF m.hold
 back:m.kind=4→Jg w m
structure PlW (w:Wld):Prop where
 ck:0≤w.clock∧w.clock≤10000
 ct:0≤w.count∧w.count≤10000
 hl:w.holds.length=3
 fl:w.floors.length=3
 nl:w.net.length≤12
 fr:∀ f∈w.floors,0≤f∧f≤w.count
structure WG (w:Wld):Prop where
 ov:oOk w.over=true
 pl:PlW w
 ls:LsOk w
 wt:WtOk w (vwG w.over)
 hd:∀ i:Nat,i < 3→HdOk w (vwG w.over) i
 ms:∀ m∈w.net,MsOk w (vwG w.over) m
def zT (w:Wld) (m:Msg):Wld:=if w.net.length < 12 then { w with net:=w.net++[m] } else w
def rclM (n:Int) (l:Lease):Msg:=⟨3,l.who,⟨l.path,false,noE,n,0⟩⟩
def jT (w:Wld) (b:List Lease):Wld:=b.foldl (fun w l=>zT w (rclM w.count l)) w
def jQ (w:Wld) (op:Op):List Str:=if (zx (vwG w.over) op).2=0 then zZ (vwG w.over) (zx (vwG w.over) op).1 else []
def zI (w:Wld) (op:Op):List Lease:=w.leases.filter fun l=>decide (w.clock < l.til)&&(jQ w op).contains l.path
def jq (w:Wld) (op:Op):Wld × Int :=
 if w.waits=true then (w,21) else if (zx (vwG w.over) op).2≠0 then (w,(zx (vwG w.over) op).2)
 else if zI w op≠[] then (jT { w with waits:=true,op:=op } (zI w op),20)
 else ({ w with over:=(oDo w.over op).1 },0)
def jI (w:Wld):Wld × Int :=
 if w.waits=false then (w,22) else if zI w w.op≠[] then (jT w (zI w w.op),20)
 else ({ w with over:=(oDo w.over w.op).1,waits:=false,op:=ja },0)
def qc (w:Wld):Int:=if w.clock < 10000 then w.clock+1 else w.clock
def yE (w:Wld):Wld:={ w with clock:=qc w,leases:=w.leases.filter fun l=>decide (qc w < l.til) }
def jm (l:List Lease) (who:Int) (p:Str) (num:Int):List Lease:=l.filter fun x=>!(x.who==who&&(x.path==p&&decide (x.num≤num)))
def ZW (w:Wld) (who:Int) (p:Str):Wld :=
 if (w.waits=true∧p∈jQ w w.op)∨10000≤w.count then w else
 zT { w with count:=w.count+1,leases:=jm w.leases who p (w.count+1)++[⟨who,p,w.count+1,w.clock+5⟩] }
  ⟨2,who,⟨p,(get (vwG w.over) p).isSome,(get (vwG w.over) p).getD noE,w.count+1,w.clock+5⟩⟩
def jh (l:List Hold) (h:Hold):List Hold:=if l.any (fun x=>x.path==h.path&&decide (h.num≤x.num))=true then l else (l.filter fun x=>x.path != h.path)++[h]
def jg (l:List Hold) (p:Str) (num:Int):List Hold:=l.filter fun x=>!(x.path==p&&decide (x.num≤num))
def zR (a b:Int):Int:=if b < a then a else b
def zL (w:Wld) (m:Msg):Wld :=
 if m.kind=1 then ZW w m.who m.hold.path
 else if m.kind=2 then (if w.clock < m.hold.til∧flW w m.who < m.hold.num then { w with holds:=w.holds.set m.who.toNat (jh (hdW w m.who) m.hold) } else w)
 else if m.kind=3 then zT { w with holds:=w.holds.set m.who.toNat (jg (hdW w m.who) m.hold.path m.hold.num),floors:=w.floors.set m.who.toNat (zR (flW w m.who) m.hold.num) } ⟨4,m.who,m.hold⟩
 else if m.kind=4 then { w with leases:=jm w.leases m.who m.hold.path m.hold.num }
 else w
def netW (w:Wld) (ev:Ev):Wld × Int :=
 if ev.pos < 0∨(w.net.length:Int)≤ev.pos then (w,22)
 else if ev.kind=7 then (zT w (w.net.getD ev.pos.toNat noMs),0)
 else if ev.kind=5 then (zL { w with net:=w.net.eraseIdx ev.pos.toNat } (w.net.getD ev.pos.toNat noMs),0)
 else ({ w with net:=w.net.eraseIdx ev.pos.toNat },0)
open Classical in
noncomputable def evW (w:Wld) (ev:Ev):Wld × Int :=
 if ev.kind=1 then (if isW ev.who∧pOk ev.path=true then (zT w ⟨1,ev.who,⟨ev.path,false,noE,0,0⟩⟩,0) else (w,1))
 else if ev.kind=2 then jq w ev.op
 else if ev.kind=3 then jI w
 else if ev.kind=4 then (yE w,0)
 else if 5≤ev.kind∧ev.kind≤7 then netW w ev
 else (w,1)
open Classical in
noncomputable def wDo (w:Wld) (ev:Ev):Wld × Int:=if WG w then evW w ev else (noW,1)
def newW (o:Over):Wld:=⟨o,0,0,[],[[],[],[]],[0,0,0],[],false,ja⟩
open Classical in
noncomputable def wBars (w:Wld) (op:Op):List Lease:=if WG w then zI w op else []
open Classical in
noncomputable def wRead (w:Wld) (who:Int) (p:Str):Option (Ent × Bool) :=
 if WG w∧isW who then ((hdW w who).find? fun h=>h.path==p&&decide (w.clock < h.til)).map fun h=>(h.ent,h.has) else none

theorem zaF {l:List Lease} {who:Int} {p:Str} {x:Lease} (h:jk l who p=some x):x.who=who∧x.path=p∧x∈l:=by
 unfold jk at h;have h1:=List.find?_some h;simp only [Bool.and_eq_true,beq_iff_eq] at h1;exact ⟨h1.1,h1.2,List.mem_of_find?_eq_some h⟩
theorem zfJ {l:List Lease} {who:Int} {p:Str} (h:∀ x∈l,¬ (x.who=who∧x.path=p)):jk l who p=none:=by
 unfold jk;rw [List.find?_eq_none];intro x hx
 simpa using h x hx
theorem zcl {who:Int} {p:Str} {x:Lease} {q:Lease→Bool}:∀ {l:List Lease},jk l who p=some x→q x=true→jk (l.filter q) who p=some x
 | [],h,_=>by cases h
 | y::l,h,hq=>by
  unfold jk at h ⊢;rw [List.find?_cons] at h;cases hy:(y.who==who&&y.path==p) with
  | true =>
   rw [hy] at h;cases h;rw [List.filter_cons,if_pos hq,List.find?_cons,hy]
  | false =>
   rw [hy] at h;have ih:=zcl (l:=l) (q:=q) h hq;rw [List.filter_cons];split
   ·rw [List.find?_cons,hy]; exact ih
   ·exact ih
theorem zaE {a b:List Lease} {who:Int} {p:Str}:jk (a++b) who p=(jk a who p).or (jk b who p):=by
 unfold jk; rw [List.find?_append]
theorem So.tq {w w':Wld} {t t':List Ent} {who:Int} {h:Hold} (hs:So w t who h) (hc:w.clock≤w'.clock) (ht:get t' h.path=get t h.path)
  (hl:∀ l,jk w.leases who h.path=some l→w'.clock < h.til→w.clock < l.til→h.num≤l.num→h.til≤l.til→∃ l',jk w'.leases who h.path=some l'∧w'.clock < l'.til∧h.num≤l'.num∧h.til≤l'.til):So w' t' who h:=by
 intro ha;obtain ⟨l,h1,h2,h3,h4,h5,h6⟩:=hs (by omega);obtain ⟨l',g1,g2,g3,g4⟩:=hl l h1 ha h4 h5 h6;exact ⟨l',g1,by rw [ht]; exact h2,by rw [ht]; exact h3,g2,g3,g4⟩
section
variable {w:Wld}
theorem WG.og (h:WG w):∃ t,OG w.over t (vwG w.over):=by
 obtain ⟨t,x,hx⟩:=OG.of h.ov;exact ⟨t,by rw [hx.vwG]; exact hx⟩
theorem WG.gx (h:WG w):tOk (vwG w.over)=true:=by obtain ⟨t,ht⟩:=h.og; exact ht.gx
theorem WG.net (h:WG w) {n:List Msg} (hl:n.length≤12) (hn:∀ m∈n,MsOk w (vwG w.over) m):WG { w with net:=n } :=
  ⟨h.ov,⟨h.pl.ck,h.pl.ct,h.pl.hl,h.pl.fl,hl,h.pl.fr⟩,⟨h.ls.g,h.ls.d⟩,h.wt,fun i hi=>⟨(h.hd i hi).g,(h.hd i hi).d⟩,
   fun m hm=>⟨(hn m hm).who,(hn m hm).path,(hn m hm).num,(hn m hm).kind,(hn m hm).grant,(hn m hm).plain,(hn m hm).back⟩⟩
theorem WG.send (h:WG w) {m:Msg} (hm:MsOk w (vwG w.over) m):WG (zT w m):=by
 unfold zT;split
 ·rename_i hl;refine h.net (by simp; omega) fun x hx=>?_
  rcases List.mem_append.1 hx with hx | hx
  ·exact h.ms x hx
  ·rw [List.mem_singleton.1 hx]; exact hm
 ·exact h
theorem Zm {m:Msg}:(zT w m).over=w.over∧(zT w m).clock=w.clock∧(zT w m).count=w.count∧(zT w m).leases=w.leases∧(zT w m).holds=w.holds∧(zT w m).floors=w.floors∧(zT w m).waits=w.waits∧(zT w m).op=w.op:=by
 unfold zT; split<;>exact ⟨rfl,rfl,rfl,rfl,rfl,rfl,rfl,rfl⟩
theorem zrX (h:WG w) {l:Lease} (h1:isW l.who) (h2:pOk l.path=true):MsOk w (vwG w.over) (rclM w.count l) :=
 ⟨h1,h2,⟨h.pl.ct.1,Int.le_refl _⟩,by simp [rclM],fun e=>absurd e (by simp [rclM]),fun _=>rfl,fun e=>absurd e (by simp [rclM])⟩
theorem WG.recall:∀ {b:List Lease} {w:Wld},WG w→(∀ l∈b,isW l.who∧pOk l.path=true)→WG (jT w b)
 | [],_,h,_=>h
 | l::b,w,h,hb=>by
  have h1:=zrX h (hb l (by simp)).1 (hb l (by simp)).2;exact WG.recall (b:=b) (h.send h1) fun l hl=>hb l (by simp [hl])
theorem Zl:∀ {b:List Lease} {w:Wld},(jT w b).over=w.over∧(jT w b).clock=w.clock∧(jT w b).count=w.count∧(jT w b).leases=w.leases∧(jT w b).holds=w.holds∧(jT w b).floors=w.floors∧(jT w b).waits=w.waits∧(jT w b).op=w.op
 | [],_=>⟨rfl,rfl,rfl,rfl,rfl,rfl,rfl,rfl⟩
 | l::b,w=>by
  have ih:=Zl (b:=b) (w:=zT w (rclM w.count l));have h:=@Zm w (rclM w.count l);obtain ⟨a1,a2,a3,a4,a5,a6,a7,a8⟩:=h;rw [a1,a2,a3,a4,a5,a6,a7,a8] at ih;exact ih
theorem JS {op:Op} {l:Lease}:l∈zI w op↔l∈w.leases∧w.clock < l.til∧l.path∈jQ w op:=by
 unfold zI; simp
theorem WG.bars (h:WG w) {op:Op}:∀ l∈zI w op,isW l.who∧pOk l.path=true:=fun l hl =>
 have:=h.ls.g l (JS.1 hl).1
 ⟨this.1,this.2.1⟩
theorem ztj {op:Op} (hc:(zx (vwG w.over) op).2=0):jQ w op=zZ (vwG w.over) (zx (vwG w.over) op).1:=by unfold jQ; rw [if_pos hc]
theorem WG.over (h:WG w) {op:Op} (hc:(zx (vwG w.over) op).2=0) (hb:zI w op=[]):WG { w with over:=(oDo w.over op).1,waits:=false,op:=ja }:=by
 obtain ⟨t,ht⟩:=h.og;obtain ⟨h1,_⟩:=ht.do op
 have hv:vwG (oDo w.over op).1=(zx (vwG w.over) op).1:=h1.vwG;have hs:∀ {who:Int} {x:Hold},pOk x.path=true→So w (vwG w.over) who x→So { w with over:=(oDo w.over op).1,waits:=false,op:=ja } (zx (vwG w.over) op).1 who x:=fun {who x} hp hs=>by
  intro ha;obtain ⟨l,g1,g2,g3,g4,g5,g6⟩:=hs ha;obtain ⟨e1,e2,e3⟩:=zaF g1;have hn:x.path ∉ zZ (vwG w.over) (zx (vwG w.over) op).1:=fun hin=>by
   have:l∈zI w op:=JS.2 ⟨e3,g4,by rw [ztj hc,e2]; exact hin⟩;rw [hb] at this; cases this
  have hf:find (vwG w.over) x.path=find (zx (vwG w.over) op).1 x.path:=by
   refine Classical.byContradiction fun hne=>hn ?_
   exact (Z2 (TG.of ht.gx) (TG.of h1.gx)).2 hne
  rw [jj hp,hf,← jj hp] at g2 g3;exact ⟨l,g1,g2,g3,g4,g5,g6⟩
 refine ⟨h1.ok,⟨h.pl.ck,h.pl.ct,h.pl.hl,h.pl.fl,h.pl.nl,h.pl.fr⟩,⟨h.ls.g,h.ls.d⟩,⟨fun _=>rfl,fun e=>by cases e⟩,fun i hi=>⟨fun x hx=>?_,(h.hd i hi).d⟩,fun m hm=>?_⟩
 ·obtain ⟨a,b,c,d⟩:=(h.hd i hi).g x hx;rw [hv];exact ⟨a,b,c,hs a d⟩
 ·have hm':=h.ms m hm;rw [hv];exact ⟨hm'.who,hm'.path,hm'.num,hm'.kind,fun e=>(hm'.grant e).imp id (hs hm'.path),hm'.plain,hm'.back⟩
theorem zfj {w:Wld} {k:Int} {L:List Hold} {f:List Int} {n:List Msg} {i:Nat} (hk:isW k) (hl:w.holds.length=3):hdW { w with holds:=w.holds.set k.toNat L,floors:=f,net:=n } i=if (i:Int)=k then L else hdW w i:=by
 unfold hdW;have:=hk.1; have:=hk.2;have e:((i:Int)).toNat=i:=by simp
 simp only [e,List.getD,List.getElem?_set];by_cases h:(i:Int)=k
 ·rw [if_pos h,if_pos (by omega),if_pos (by omega)]; rfl
 ·rw [if_neg h,if_neg (by omega)]
theorem ZX {k:Int} (h:isW k):∃ i:Nat,i < 3∧k=(i:Int):=⟨k.toNat,by have:=h.1; have:=h.2; omega,by have:=h.1; omega⟩
theorem zqo {w:Wld} {k:Int} {v:Int} {L:List (List Hold)} {n:List Msg} {i:Nat} (hk:isW k) (hl:w.floors.length=3):flW { w with holds:=L,floors:=w.floors.set k.toNat v,net:=n } i=if (i:Int)=k then v else flW w i:=by
 unfold flW;have:=hk.1; have:=hk.2;have e:((i:Int)).toNat=i:=by simp
 simp only [e,List.getD,List.getElem?_set];by_cases h:(i:Int)=k
 ·rw [if_pos h,if_pos (by omega),if_pos (by omega)]; rfl
 ·rw [if_neg h,if_neg (by omega)]
theorem zeO {w:Wld} {k:Int} (hk:isW k) (hl:w.floors.length=3):flW w k∈w.floors:=by
 unfold flW;have:=hk.1; have:=hk.2;have h:k.toNat < w.floors.length:=by omega
 simp only [List.getD,List.getElem?_eq_getElem h,Option.getD_some];exact List.getElem_mem h
theorem ztc:w.clock≤qc w∧qc w≤w.clock+1:=by unfold qc; split<;>omega
theorem WG.tick (h:WG w):WG (yE w):=by
 have hc:=@ztc w;have hm:qc w≤10000:=by have:=h.pl.ck; unfold qc; split<;>omega
 have hs:∀ {who:Int} {x:Hold},So w (vwG w.over) who x→So (yE w) (vwG w.over) who x:=fun {who x} hs =>
  hs.tq hc.1 rfl fun l h1 h2 h3 h4 h5=>⟨l,zcl h1 (decide_eq_true (show qc w < l.til by have:qc w < x.til:=h2; omega)),by have:qc w < x.til:=h2; show qc w < l.til; omega,h4,h5⟩
 refine ⟨h.ov,⟨⟨by have:=h.pl.ck; show 0≤qc w; omega,hm⟩,h.pl.ct,h.pl.hl,h.pl.fl,h.pl.nl,h.pl.fr⟩,⟨fun l hl=>?_,h.ls.d.filter _⟩,h.wt,fun i hi=>⟨fun x hx=>?_,(h.hd i hi).d⟩,fun m hm=>?_⟩
 ·obtain ⟨a,b,c,d,e⟩:=h.ls.g l (List.mem_filter.1 hl).1;exact ⟨a,b,c,d,by show l.til≤qc w+5; omega⟩
 ·obtain ⟨a,b,c,d⟩:=(h.hd i hi).g x hx;exact ⟨a,b,c,hs d⟩
 ·have hm':=h.ms m hm;exact ⟨hm'.who,hm'.path,hm'.num,hm'.kind,fun e=>(hm'.grant e).imp id hs,hm'.plain,hm'.back⟩
theorem Qs {l:List Lease} {who num:Int} {p:Str} {x:Lease}:x∈jm l who p num↔x∈l∧¬ (x.who=who∧x.path=p∧x.num≤num):=by
 unfold jm; simp only [List.mem_filter,Bool.not_eq_true',Bool.and_eq_false_imp,Bool.and_eq_true,beq_iff_eq,decide_eq_false_iff_not];constructor
 ·rintro ⟨h1,h2⟩;refine ⟨h1,fun ⟨a,b,c⟩=>?_⟩;have:=h2 a;simp [b] at this; omega
 ·rintro ⟨h1,h2⟩;refine ⟨h1,fun a=>?_⟩;by_cases b:x.path=p
  ·simp [b]; have:¬ x.num≤num:=fun c=>h2 ⟨a,b,c⟩; omega
  ·simp [b]
theorem zgd {l:List Lease} {who num:Int} {p:Str} {who':Int} {q:Str} {x:Lease} (h:jk l who' q=some x) (hx:¬ (who'=who∧q=p∧x.num≤num)):jk (jm l who p num) who' q=some x:=by
 refine zcl h ?_;obtain ⟨h1,h2,h3⟩:=zaF h;have:=Qs (l:=l) (who:=who) (num:=num) (p:=p) (x:=x);have h4:x∈jm l who p num:=this.2 ⟨h3,by rw [h1,h2]; exact hx⟩;exact (List.mem_filter.1 h4).2
def j0 (w:Wld) (who:Int) (p:Str):Msg:=⟨2,who,⟨p,(get (vwG w.over) p).isSome,(get (vwG w.over) p).getD noE,w.count+1,w.clock+5⟩⟩
def grantL (w:Wld) (who:Int) (p:Str):Wld:={ w with count:=w.count+1,leases:=jm w.leases who p (w.count+1)++[⟨who,p,w.count+1,w.clock+5⟩] }
theorem zqO (h:WG w) {who:Int} {p:Str}:jk (grantL w who p).leases who p=some ⟨who,p,w.count+1,w.clock+5⟩:=by
 unfold grantL;rw [zaE,zfJ fun x hx=>?_]
 ·unfold jk; simp
 ·rintro ⟨h1,h2⟩;obtain ⟨h3,h4⟩:=Qs.1 hx;have:=(h.ls.g x h3).2.2.2.1;exact h4 ⟨h1,h2,by omega⟩
theorem WG.grantL (h:WG w) {who:Int} {p:Str} (hw:isW who) (hp:pOk p=true) (hc:w.count < 10000):WG (grantL w who p)∧MsOk (Go.Proofs.YtopfccpgdldcdaaGreatDoor.grantL w who p) (vwG w.over) (j0 w who p):=by
 have hf:=zqO h (who:=who) (p:=p);have hct:=h.pl.ct;have hs:∀ {who':Int} {x:Hold},So w (vwG w.over) who' x→So (Go.Proofs.YtopfccpgdldcdaaGreatDoor.grantL w who p) (vwG w.over) who' x:=fun {who' x} hs =>
  hs.tq (Int.le_refl _) rfl fun l h1 h2 h3 h4 h5=>by
   obtain ⟨e1,e2,e3⟩:=zaF h1;have hl:=h.ls.g l e3;by_cases hk:who'=who∧x.path=p
   ·rw [hk.1,hk.2,hf];have hl1:=hl.2.2.2.1;have hl2:=hl.2.2.2.2;exact ⟨_,rfl,by show w.clock < w.clock+5; omega,by show x.num≤w.count+1; omega,by show x.til≤w.clock+5; omega⟩
   ·refine ⟨l,?_,h3,h4,h5⟩;show jk (jm w.leases who p (w.count+1)++_) who' x.path=some l;rw [zaE,zgd h1 fun hh=>hk ⟨hh.1,hh.2.1⟩]; rfl
 refine ⟨⟨h.ov,⟨h.pl.ck,⟨by show 0≤w.count+1; omega,by show w.count+1≤10000; omega⟩,h.pl.hl,h.pl.fl,h.pl.nl,fun f hf=>?_⟩,⟨fun l hl=>?_,?_⟩,h.wt,fun i hi=>⟨fun x hx=>?_,(h.hd i hi).d⟩,fun m hm=>?_⟩,?_⟩
 ·obtain ⟨a,b⟩:=h.pl.fr f hf;exact ⟨a,by show f≤w.count+1; omega⟩
 ·rcases List.mem_append.1 hl with hl | hl
  ·obtain ⟨a,b,c,d,e⟩:=h.ls.g l (Qs.1 hl).1;exact ⟨a,b,c,by show l.num≤w.count+1; omega,e⟩
  ·rw [List.mem_singleton.1 hl];exact ⟨hw,hp,by show 1≤w.count+1; omega,Int.le_refl _,Int.le_refl _⟩
 ·refine List.pairwise_append.2 ⟨h.ls.d.filter _,by simp,fun a ha b hb=>?_⟩;rw [List.mem_singleton.1 hb];rintro ⟨e1,e2⟩;obtain ⟨h3,h4⟩:=Qs.1 ha;have:=(h.ls.g a h3).2.2.2.1;exact h4 ⟨e1,e2,by omega⟩
 ·obtain ⟨a,b,c,d⟩:=(h.hd i hi).g x hx;exact ⟨a,b,by show x.num≤w.count+1; omega,hs d⟩
 ·have hm':=h.ms m hm;have:=hm'.num;exact ⟨hm'.who,hm'.path,⟨this.1,by show m.hold.num≤w.count+1; omega⟩,hm'.kind,fun e=>(hm'.grant e).imp id hs,hm'.plain,hm'.back⟩
 ·refine ⟨hw,hp,⟨by show 0≤w.count+1; omega,Int.le_refl _⟩,by simp [j0],fun _ => .inr fun _=>?_,fun e=>absurd rfl e,fun e=>absurd e (by simp [j0])⟩;exact ⟨_,hf,rfl,rfl,by show w.clock < w.clock+5; omega,Int.le_refl _,Int.le_refl _⟩
theorem zcd {who:Int} {p:Str}:ZW w who p=if (w.waits=true∧p∈jQ w w.op)∨10000≤w.count then w else zT (grantL w who p) (j0 w who p):=rfl
theorem zfY {l:List Hold} {h x:Hold} (hx:x∈jh l h):x∈l∨x=h:=by
 unfold jh at hx;split at hx
 ·exact .inl hx
 ·rcases List.mem_append.1 hx with hx | hx
  ·exact .inl (List.mem_filter.1 hx).1
  ·exact .inr (List.mem_singleton.1 hx)
theorem zta {l:List Hold} {h:Hold} (hp:l.Pairwise fun a b=>a.path≠b.path):(jh l h).Pairwise fun a b=>a.path≠b.path:=by
 unfold jh;split
 ·exact hp
 ·refine List.pairwise_append.2 ⟨hp.filter _,by simp,fun a ha b hb=>?_⟩;rw [List.mem_singleton.1 hb]
  simpa using (List.mem_filter.1 ha).2
theorem WG.take (h:WG w) {m:Msg} (hm:MsOk w (vwG w.over) m) (hk:m.kind=2) (hf:flW w m.who < m.hold.num):WG { w with holds:=w.holds.set m.who.toNat (jh (hdW w m.who) m.hold) }:=by
 have e:=@zfj w m.who (jh (hdW w m.who) m.hold) w.floors w.net;obtain ⟨j,hj,hjw⟩:=ZX hm.who;have hso:So w (vwG w.over) m.who m.hold:=by
  rcases hm.grant hk with h1 | h1
  ·omega
  ·exact h1
 refine ⟨h.ov,⟨h.pl.ck,h.pl.ct,by simp [h.pl.hl],h.pl.fl,h.pl.nl,h.pl.fr⟩,⟨h.ls.g,h.ls.d⟩,h.wt,fun i hi=>?_,fun x hx=>?_⟩
 ·have e':=@e i hm.who h.pl.hl;by_cases hik:(i:Int)=m.who
  ·rw [if_pos hik] at e';refine ⟨fun x hx=>?_,?_⟩
   ·rw [e'] at hx;rcases zfY hx with hx|rfl
    ·rw [hjw] at hx;have:=(h.hd j hj).g x hx;rw [hik,hjw];exact this
    ·rw [hik];exact ⟨hm.path,hm.num.1,hm.num.2,hso⟩
   ·rw [e',hjw];exact zta (h.hd j hj).d
  ·rw [if_neg hik] at e';exact ⟨fun x hx=>by rw [e'] at hx; exact (h.hd i hi).g x hx,by rw [e']; exact (h.hd i hi).d⟩
 ·have hx':=h.ms x hx;refine ⟨hx'.who,hx'.path,hx'.num,hx'.kind,hx'.grant,hx'.plain,fun e4=>?_⟩;obtain ⟨b1,b2⟩:=hx'.back e4;obtain ⟨i,hi,hiw⟩:=ZX hx'.who;refine ⟨b1,fun y hy hyp=>?_⟩;have e':=@e i hm.who h.pl.hl;rw [hiw] at hy;rw [e'] at hy;by_cases hik:(i:Int)=m.who
  ·rw [if_pos hik] at hy;rcases zfY hy with hy|rfl
   ·exact b2 y (by rw [hiw,hik]; exact hy) hyp
   ·rw [hiw,hik] at b1; omega
  ·rw [if_neg hik] at hy;exact b2 y (by rw [hiw]; exact hy) hyp
theorem zcq {l:List Hold} {p:Str} {n:Int} {x:Hold}:x∈jg l p n↔x∈l∧(x.path=p→n < x.num):=by
 unfold jg;simp only [List.mem_filter,Bool.not_eq_true',Bool.and_eq_false_imp,beq_iff_eq,decide_eq_false_iff_not,Int.not_le]
theorem WG.leave (h:WG w) {m:Msg} (hm:MsOk w (vwG w.over) m) (hk:m.kind=3):WG (zL w m):=by
 unfold zL;rw [if_neg (by omega),if_neg (by omega),if_pos hk];have e:=@zfj w m.who (jg (hdW w m.who) m.hold.path m.hold.num) (w.floors.set m.who.toNat (zR (flW w m.who) m.hold.num)) w.net;have ef:=@zqo w m.who (zR (flW w m.who) m.hold.num) (w.holds.set m.who.toNat (jg (hdW w m.who) m.hold.path m.hold.num)) w.net;obtain ⟨j,hj,hjw⟩:=ZX hm.who;have hmx:∀ a b:Int,a≤zR a b∧b≤zR a b∧(zR a b=a∨zR a b=b):=fun a b=>by unfold zR; split<;>omega
 have hfm:=h.pl.fr _ (zeO hm.who h.pl.fl);have hge:∀ i:Nat,flW w i≤flW { w with holds:=w.holds.set m.who.toNat (jg (hdW w m.who) m.hold.path m.hold.num),floors:=w.floors.set m.who.toNat (zR (flW w m.who) m.hold.num) } i:=fun i=>by
  rw [@ef i hm.who h.pl.fl];split
  ·rename_i hi; rw [hi]; exact (hmx _ _).1
  ·exact Int.le_refl _
 have hsub:∀ i:Nat,∀ x∈hdW { w with holds:=w.holds.set m.who.toNat (jg (hdW w m.who) m.hold.path m.hold.num),floors:=w.floors.set m.who.toNat (zR (flW w m.who) m.hold.num) } i,x∈hdW w i:=fun i x hx=>by
  rw [@e i hm.who h.pl.hl] at hx;split at hx
  ·rename_i hi; rw [hi]; exact (zcq.1 hx).1
  ·exact hx
 have hnew:WG { w with holds:=w.holds.set m.who.toNat (jg (hdW w m.who) m.hold.path m.hold.num),floors:=w.floors.set m.who.toNat (zR (flW w m.who) m.hold.num) }:=by
  refine ⟨h.ov,⟨h.pl.ck,h.pl.ct,by simp [h.pl.hl],by simp [h.pl.fl],h.pl.nl,fun f hf=>?_⟩,⟨h.ls.g,h.ls.d⟩,h.wt,fun i hi=>⟨fun x hx=>(h.hd i hi).g x (hsub i x hx),?_⟩,fun x hx=>?_⟩
  ·rcases List.mem_or_eq_of_mem_set hf with hf|rfl
   ·exact h.pl.fr f hf
   ·have:=hm.num;rcases (hmx (flW w m.who) m.hold.num).2.2 with e1 | e1
    ·rw [e1]; exact hfm
    ·rw [e1]; exact this
  ·rw [@e i hm.who h.pl.hl];split
   ·rename_i hik; rw [← hik]; exact (h.hd i hi).d.filter _
   ·exact (h.hd i hi).d
  ·have hx':=h.ms x hx;obtain ⟨i,hi,hiw⟩:=ZX hx'.who;refine ⟨hx'.who,hx'.path,hx'.num,hx'.kind,fun e2=>(hx'.grant e2).imp (fun hh=>?_) id,hx'.plain,fun e4=>?_⟩
   ·have:=hge i; rw [hiw] at hh ⊢; omega
   ·obtain ⟨b1,b2⟩:=hx'.back e4;refine ⟨?_,fun y hy hyp=>?_⟩
    ·have:=hge i; rw [hiw] at b1 ⊢; omega
    ·rw [hiw] at hy; exact b2 y (by rw [hiw]; exact hsub i y hy) hyp
 refine hnew.send ⟨hm.who,hm.path,hm.num,by simp,fun e=>absurd e (by simp),fun _=>hm.plain (by omega),fun _=>⟨?_,fun y hy hyp=>?_⟩⟩
 ·show m.hold.num≤flW _ m.who;have e2:=@ef j hm.who h.pl.fl;rw [if_pos hjw.symm,← hjw] at e2;rw [e2];exact (hmx _ _).2.1
 ·show m.hold.num < y.num;have hy':y∈hdW { w with holds:=w.holds.set m.who.toNat (jg (hdW w m.who) m.hold.path m.hold.num),floors:=w.floors.set m.who.toNat (zR (flW w m.who) m.hold.num) } m.who:=hy;have e2:=@e j hm.who h.pl.hl;rw [if_pos hjw.symm,← hjw] at e2;rw [e2] at hy';exact (zcq.1 hy').2 hyp
theorem WG.give (h:WG w) {m:Msg} (hm:MsOk w (vwG w.over) m) (hk:m.kind=4):WG { w with leases:=jm w.leases m.who m.hold.path m.hold.num }:=by
 obtain ⟨b1,b2⟩:=hm.back hk;have hs:∀ {who:Int} {x:Hold},(who=m.who→x.path=m.hold.path→m.hold.num < x.num)→So w (vwG w.over) who x→So { w with leases:=jm w.leases m.who m.hold.path m.hold.num } (vwG w.over) who x:=fun {who x} hn hs =>
  hs.tq (Int.le_refl _) rfl fun l h1 h2 h3 h4 h5=>⟨l,zgd h1 fun ⟨e1,e2,e3⟩=>by have:=hn e1 e2; omega,h3,h4,h5⟩
 refine ⟨h.ov,⟨h.pl.ck,h.pl.ct,h.pl.hl,h.pl.fl,h.pl.nl,h.pl.fr⟩,⟨fun l hl=>h.ls.g l (Qs.1 hl).1,h.ls.d.filter _⟩,h.wt,fun i hi=>⟨fun x hx=>?_,(h.hd i hi).d⟩,fun x hx=>?_⟩
 ·obtain ⟨a,b,c,d⟩:=(h.hd i hi).g x hx;exact ⟨a,b,c,hs (fun e1 e2=>b2 x (by rw [← e1]; exact hx) e2) d⟩
 ·have hx':=h.ms x hx;refine ⟨hx'.who,hx'.path,hx'.num,hx'.kind,fun e2=>?_,hx'.plain,hx'.back⟩;by_cases hf:x.hold.num≤flW w x.who
  ·exact .inl hf
  ·refine .inr (hs (fun e1 _=>?_) ((hx'.grant e2).resolve_left hf));rw [e1] at hf; omega
theorem WG.come (h:WG w) {m:Msg} (hm:MsOk w (vwG w.over) m):WG (zL w m):=by
 by_cases h3:m.kind=3
 ·exact h.leave hm h3
 unfold zL;by_cases h1:m.kind=1
 ·rw [if_pos h1,zcd];split
  ·exact h
  ·rename_i hc;obtain ⟨g1,g2⟩:=h.grantL hm.who hm.path (by omega);exact g1.send g2
 rw [if_neg h1];by_cases h2:m.kind=2
 ·rw [if_pos h2];split
  ·rename_i hc; exact h.take hm h2 hc.2
  ·exact h
 rw [if_neg h2,if_neg h3];by_cases h4:m.kind=4
 ·rw [if_pos h4]; exact h.give hm h4
 ·rw [if_neg h4]; exact h
theorem WG.lose (h:WG w) (k:Nat):WG { w with net:=w.net.eraseIdx k } :=
 h.net (Nat.le_trans (by rw [List.length_eraseIdx]; split<;>omega) h.pl.nl) fun m hm=>h.ms m (List.mem_of_mem_eraseIdx hm)
theorem zfd {k:Nat} (h:k < w.net.length):w.net.getD k noMs∈w.net:=by
 simp only [List.getD,List.getElem?_eq_getElem h,Option.getD_some]; exact List.getElem_mem h
theorem WG.netW (h:WG w) (ev:Ev):WG (netW w ev).1:=by
 unfold Go.Proofs.YtopfccpgdldcdaaGreatDoor.netW;split
 ·exact h
 ·rename_i hp;have hm:=h.ms _ (zfd (w:=w) (k:=ev.pos.toNat) (by omega));split
  ·exact h.send hm
  ·split
   ·exact (h.lose _).come ⟨hm.who,hm.path,hm.num,hm.kind,hm.grant,hm.plain,hm.back⟩
   ·exact h.lose _
theorem WG.wait (h:WG w) {op:Op} (hc:(zx (vwG w.over) op).2=0):WG { w with waits:=true,op:=op } :=
  ⟨h.ov,⟨h.pl.ck,h.pl.ct,h.pl.hl,h.pl.fl,h.pl.nl,h.pl.fr⟩,⟨h.ls.g,h.ls.d⟩,⟨fun e=>(by cases e),fun _=>hc⟩,fun i hi=>⟨(h.hd i hi).g,(h.hd i hi).d⟩,
   fun m hm=>⟨(h.ms m hm).who,(h.ms m hm).path,(h.ms m hm).num,(h.ms m hm).kind,(h.ms m hm).grant,(h.ms m hm).plain,(h.ms m hm).back⟩⟩
theorem WG.idle (h:WG w) (hw:w.waits=false) {o:Over}:({ w with over:=o }:Wld)={ w with over:=o,waits:=false,op:=ja }:=by
 have:=h.wt.1 hw;cases w; simp at *; exact ⟨hw,this⟩
theorem WG.write (h:WG w) (op:Op):WG (jq w op).1:=by
 unfold jq;by_cases hw:w.waits=true
 ·rw [if_pos hw]; exact h
 rw [if_neg hw];by_cases hc:(zx (vwG w.over) op).2=0
 ·rw [if_neg (by simp [hc])];by_cases hb:zI w op=[]
  ·rw [if_neg (by simp [hb])];simp only;rw [h.idle (by simpa using hw)];exact h.over hc hb
  ·rw [if_pos hb];exact (h.wait hc).recall h.bars
 ·rw [if_pos hc]; exact h
theorem WG.try (h:WG w):WG (jI w).1:=by
 unfold jI;by_cases hw:w.waits=false
 ·rw [if_pos hw]; exact h
 rw [if_neg hw];by_cases hb:zI w w.op=[]
 ·rw [if_neg (by simp [hb])];exact h.over (h.wt.2 (by simpa using hw)) hb
 ·rw [if_pos hb];exact h.recall h.bars
theorem WG.ev (h:WG w) (ev:Ev):WG (evW w ev).1:=by
 unfold evW;split
 ·split
  ·rename_i hh;exact h.send ⟨hh.1,hh.2,⟨by show (0:Int)≤0; omega,h.pl.ct.1⟩,by simp,fun e=>absurd e (by simp),fun _=>rfl,fun e=>absurd e (by simp)⟩
  ·exact h
 ·split
  ·exact h.write _
  ·split
   ·exact h.try
   ·split
    ·exact h.tick
    ·split
     ·exact h.netW _
     ·exact h
end
theorem WG.new {o:Over} (h:oOk o=true):WG (newW o):=by
 refine ⟨h,⟨by simp [newW],by simp [newW],rfl,rfl,by simp [newW],fun f hf=>?_⟩,⟨fun l hl=>(by cases hl),List.Pairwise.nil⟩,⟨fun _=>rfl,fun e=>(by cases e)⟩,fun i hi=>?_,fun m hm=>by cases hm⟩
 ·have:f=0:=by simpa [newW] using hf
  rw [this]; simp [newW]
 ·have e:hdW (newW o) i=[]:=by
   have:i=0∨i=1∨i=2:=by omega
   rcases this with rfl|rfl|rfl<;>rfl
  exact ⟨fun x hx=>(by rw [e] at hx; cases hx),by rw [e]; exact List.Pairwise.nil⟩
theorem JN {w:Wld} (h:WG w) (ev:Ev):wDo w ev=evW w ev:=by unfold wDo; rw [if_pos h]
theorem WG.do {w:Wld} (h:WG w) (ev:Ev):WG (wDo w ev).1:=by rw [JN h]; exact h.ev ev

def gIdx {α:Type} (q:α→Bool) (l:List α):Int:=match l.findIdx? q with
 | some i=>i
 | none => -1
theorem Jw {α:Type} (q:α→Bool) (l:List α):(gIdx q l = -1∧l.find? q=none∧∀ e∈l,q e=false)∨∃ j,∃ h:j < l.length,gIdx q l=(j:Int)∧l.find? q=some l[j]∧q l[j]=true∧∀ i (h':i < l.length),i < j→q l[i]=false:=by
 unfold gIdx;cases hf:l.findIdx? q with
 | none =>
  left;have hn:=List.findIdx?_eq_none_iff.1 hf;exact ⟨rfl,List.find?_eq_none.2 fun e he=>by simp [hn e he],hn⟩
 | some j =>
  right;obtain ⟨h,h1,h2⟩:=List.findIdx?_eq_some_iff_getElem.1 hf;refine ⟨j,h,rfl,?_,h1,fun i h' hi=>by simpa using h2 i hi⟩;rw [List.find?_eq_some_iff_getElem];exact ⟨h1,j,h,rfl,fun i hi=>by simpa using h2 i hi⟩
theorem zb3 {α:Type} {q:α→Bool} {l:List α} {k:Nat} (h:k < l.length) (hp:q l[k]=true) (hn:∀ i (h':i < l.length),i < k→q l[i]=false):gIdx q l=(k:Int):=by
 rcases Jw q l with ⟨_,_,h3⟩ | ⟨j,hj,h1,_,h2,h3⟩
 ·rw [h3 _ (List.getElem_mem h)] at hp; cases hp
 ·rcases Nat.lt_trichotomy j k with h' | h' | h'
  ·rw [hn j hj h'] at h2; cases h2
  ·rw [h1,h']
  ·rw [h3 k h h'] at hp; cases hp
theorem zb5 {α:Type} {q:α→Bool} {l:List α} (hn:∀ e∈l,q e=false):gIdx q l = -1:=by
 rcases Jw q l with ⟨h,_⟩ | ⟨j,hj,_,_,h2,_⟩
 ·exact h
 ·rw [hn _ (List.getElem_mem hj)] at h2; cases h2
theorem firsts {α:Type} {R:α→α→Bool} (hr:∀ a,R a a=true) {l:List α}:(∀ i (h:i < l.length),gIdx (R l[i]) l=(i:Int))↔l.Pairwise fun a b=>R b a=false:=by
 rw [List.pairwise_iff_getElem];constructor
 ·intro h i j hi hj hij;rcases Jw (R l[j]) l with ⟨h1,_⟩ | ⟨k,hk,h1,_,_,h3⟩
  ·rw [h j hj] at h1; omega
  ·rw [h j hj] at h1;exact h3 i hi (by omega)
 ·intro h i hi;exact zb3 hi (hr _) fun k hk hki=>h k i hk hi hki
def hKey (a b:Hold):Bool:=b.path==a.path
def lKey (a b:Lease):Bool:=b.who==a.who&&b.path==a.path
def hAt (l:List Hold) (p:Str):Int:=gIdx (fun h=>h.path==p) l
def lAt (l:List Lease) (who:Int) (p:Str):Int:=gIdx (fun x=>x.who==who&&x.path==p) l
structure NtOk (w:Wld) (m:Msg):Prop where
 kind:1≤m.kind∧m.kind≤4
 who:isW m.who
 path:pOk m.hold.path=true
 num:0≤m.hold.num∧m.hold.num≤w.count
 plain:m.kind≠2→m.hold=JF m.hold
structure HsOk (w:Wld) (l:List Hold):Prop where
 g:∀ h∈l,pOk h.path=true∧0≤h.num∧h.num≤w.count
 d:l.Pairwise fun a b=>a.path≠b.path
def YC (w:Wld) (m:Msg):Prop:=m.kind=2∧w.clock < m.hold.til∧flW w m.who < m.hold.num
def HeldOk (w:Wld) (t:List Ent):Prop:=(∀ i:Nat,i < 3→∀ h∈hdW w i,So w t i h)∧∀ m∈w.net,YC w m→So w t m.who m.hold
def BackOk (w:Wld):Prop:=∀ m∈w.net,m.kind=4→Jg w m
structure PG (w:Wld):Prop where
 ov:oOk w.over=true
 ck:0≤w.clock∧w.clock≤10000
 ct:0≤w.count∧w.count≤10000
 hl:w.holds.length=3
 fl:w.floors.length=3
 fr:∀ f∈w.floors,0≤f∧f≤w.count
 nl:w.net.length≤12
 nt:∀ m∈w.net,NtOk w m
 ls:LsOk w
 hs:∀ l∈w.holds,HsOk w l
 wt:WtOk w (vwG w.over)
 he:HeldOk w (vwG w.over)
 bk:BackOk w
theorem zcp {w:Wld} (hl:w.holds.length=3) {l:List Hold}:l∈w.holds↔∃ i:Nat,i < 3∧hdW w i=l:=by
 have e:∀ i:Nat,hdW w i=w.holds.getD i []:=fun i=>by unfold hdW; simp
 constructor
 ·intro h;obtain ⟨i,hi,rfl⟩:=List.mem_iff_getElem.1 h;exact ⟨i,by omega,by rw [e]; simp [List.getD,hi]⟩
 ·rintro ⟨i,hi,rfl⟩;have hi':i < w.holds.length:=by omega
  rw [e];simp only [List.getD,List.getElem?_eq_getElem hi',Option.getD_some];exact List.getElem_mem hi'
theorem zrR {w:Wld}:WG w↔PG w:=by
 constructor
 ·intro h;refine ⟨h.ov,h.pl.ck,h.pl.ct,h.pl.hl,h.pl.fl,h.pl.fr,h.pl.nl,fun m hm=>?_,h.ls,fun l hl=>?_,h.wt,⟨fun i hi x hx=>((h.hd i hi).g x hx).2.2.2,fun m hm hc=>?_⟩,fun m hm=>(h.ms m hm).back⟩
  ·have:=h.ms m hm; exact ⟨this.kind,this.who,this.path,this.num,this.plain⟩
  ·obtain ⟨i,hi,rfl⟩:=(zcp h.pl.hl).1 hl;exact ⟨fun x hx=>by have:=(h.hd i hi).g x hx; exact ⟨this.1,this.2.1,this.2.2.1⟩,(h.hd i hi).d⟩
  ·rcases (h.ms m hm).grant hc.1 with h1 | h1
   ·have:=hc.2.2; omega
   ·exact h1
 ·intro h;refine ⟨h.ov,⟨h.ck,h.ct,h.hl,h.fl,h.nl,h.fr⟩,h.ls,h.wt,fun i hi=>?_,fun m hm=>?_⟩
  ·have:=h.hs _ ((zcp h.hl).2 ⟨i,hi,rfl⟩);exact ⟨fun x hx=>⟨(this.g x hx).1,(this.g x hx).2.1,(this.g x hx).2.2,h.he.1 i hi x hx⟩,this.d⟩
  ·have:=h.nt m hm;refine ⟨this.who,this.path,this.num,this.kind,fun hk=>?_,this.plain,h.bk m hm⟩;by_cases hn:m.hold.num≤flW w m.who
   ·exact .inl hn
   ·by_cases hc:w.clock < m.hold.til
    ·exact .inr (h.he.2 m hm ⟨hk,hc,by omega⟩)
    ·exact .inr fun hh=>absurd hh hc
theorem zfe {l:List Hold} (hd:l.Pairwise fun a b=>a.path≠b.path) {p:Str} {n:Int}:(∀ h∈l,h.path=p→n < h.num)↔∀ j (hj:j < l.length),hAt l p=(j:Int)→n < l[j].num:=by
 unfold hAt;constructor
 ·intro h j hj hi;rcases Jw (fun h:Hold=>h.path==p) l with ⟨h1,_⟩ | ⟨k,hk,h1,_,h2,_⟩
  ·omega
  ·have:j=k:=by omega
   subst this;exact h _ (List.getElem_mem hj) (by simpa using h2)
 ·intro h x hx hp;obtain ⟨k,hk,rfl⟩:=List.mem_iff_getElem.1 hx;refine h k hk (zb3 hk (by simpa using hp) fun i hi hik=>?_);have:=(List.pairwise_iff_getElem.1 hd) i k hi hk hik;rw [hp] at this
  simpa using this
theorem Yg {l:List Lease} {who:Int} {p:Str}:(lAt l who p = -1∧jk l who p=none)∨∃ j,∃ h:j < l.length,lAt l who p=(j:Int)∧jk l who p=some l[j]:=by
 unfold lAt jk;rcases Jw (fun x:Lease=>x.who==who&&x.path==p) l with ⟨h1,h2,_⟩ | ⟨j,hj,h1,h2,_⟩
 ·exact .inl ⟨h1,h2⟩
 ·exact .inr ⟨j,hj,h1,h2⟩
theorem Y6 {α:Type} {q:α→Bool}:∀ {l:List α} {k:Nat} (h:k < l.length),q l[k]=true→(∀ i (h':i < l.length),i≠k→q l[i]=false)→l.eraseIdx k=l.filter fun a=>!q a
 | [],_,h,_,_=>by simp at h
 | a::l,0,_,h1,h2=>by
  rw [List.eraseIdx_cons_zero,List.filter_cons,if_neg (by simpa using h1)];refine (List.filter_eq_self.2 fun x hx=>?_).symm;obtain ⟨i,hi,rfl⟩:=List.mem_iff_getElem.1 hx;have:=h2 (i+1) (by simpa using hi) (by omega)
  simpa using this
 | a::l,k+1,h,h1,h2=>by
  have h0:q a=false:=h2 0 (by simp) (by omega);rw [List.eraseIdx_cons_succ,List.filter_cons,if_pos (by simp [h0])]
  congr 1
  exact Y6 (by simpa using h) (by simpa using h1) fun i h' hi=>by
   have:=h2 (i+1) (by simpa using h') (by omega)
   simpa using this
theorem zgc {l:List Lease} (hd:l.Pairwise LsD) {who n:Int} {p:Str}:jm l who p n=match jk l who p with
  | some x=>if x.num≤n then l.eraseIdx (lAt l who p).toNat else l
  | none=>l:=by
 rcases @Yg l who p with ⟨h1,h2⟩ | ⟨j,hj,h1,h2⟩
 ·rw [h2];simp only;unfold jm;refine List.filter_eq_self.2 fun x hx=>?_
  have:=List.find?_eq_none.1 h2 x hx;simp only [Bool.and_eq_true,beq_iff_eq,not_and] at this;by_cases hw:x.who=who
  ·simp [hw,this hw]
  ·simp [hw]
 ·rw [h2,h1];simp only;obtain ⟨k1,k2,_⟩:=zaF h2;have hu:∀ i (h':i < l.length),i≠j→¬ (l[i].who=who∧l[i].path=p):=fun i h' hi hh=>by
   rcases Nat.lt_or_ge i j with h3 | h3
   ·exact (List.pairwise_iff_getElem.1 hd) i j h' hj h3 ⟨by rw [hh.1,k1],by rw [hh.2,k2]⟩
   ·exact (List.pairwise_iff_getElem.1 hd) j i hj h' (by omega) ⟨by rw [hh.1,k1],by rw [hh.2,k2]⟩
  unfold jm;by_cases hn:l[j].num≤n
  ·rw [if_pos hn];refine (Y6 (q:=fun x:Lease=>x.who==who&&(x.path==p&&decide (x.num≤n))) hj (by simp [k1,k2,hn]) fun i h' hi=>?_).symm;have:=hu i h' hi;by_cases hw:l[i].who=who
   ·have hp:l[i].path≠p:=fun hp=>this ⟨hw,hp⟩
    simp [hw,hp]
   ·simp [hw]
  ·rw [if_neg hn];refine List.filter_eq_self.2 fun x hx=>?_
   obtain ⟨i,hi,rfl⟩:=List.mem_iff_getElem.1 hx;by_cases hij:i=j
   ·subst hij; simp [hn]
   ·have:=hu i hi hij;by_cases hw:l[i].who=who
    ·have hp:l[i].path≠p:=fun hp=>this ⟨hw,hp⟩
     simp [hw,hp]
    ·simp [hw]
theorem yP (l:List Hold) (p:Str):(hAt l p = -1∧∀ e∈l,e.path≠p)∨∃ j,∃ h:j < l.length,hAt l p=(j:Int)∧l[j].path=p∧∀ i (h':i < l.length),i < j→l[i].path≠p:=by
 unfold hAt;rcases Jw (fun h:Hold=>h.path==p) l with ⟨h1,_,h2⟩ | ⟨j,hj,h1,_,h2,h3⟩
 ·exact .inl ⟨h1,fun e he=>by simpa using h2 e he⟩
 ·exact .inr ⟨j,hj,h1,by simpa using h2,fun i h' hi=>by simpa using h3 i h' hi⟩
theorem zaz {l:List Hold} (hd:l.Pairwise fun a b=>a.path≠b.path) {j:Nat} (hj:j < l.length):∀ i (h':i < l.length),i≠j→l[i].path≠l[j].path:=fun i h' hi=>by
 rcases Nat.lt_or_ge i j with h3 | h3
 ·exact (List.pairwise_iff_getElem.1 hd) i j h' hj h3
 ·exact fun e=>(List.pairwise_iff_getElem.1 hd) j i hj h' (by omega) e.symm
theorem zck {l:List Hold} (hd:l.Pairwise fun a b=>a.path≠b.path) {p:Str} {n:Int}:(∀ j (hj:j < l.length),hAt l p=(j:Int)→l[j].num≤n→jg l p n=l.eraseIdx j)∧((∀ j (hj:j < l.length),hAt l p=(j:Int)→n < l[j].num)→jg l p n=l):=by
 constructor
 ·intro j hj hi hn;rcases yP l p with ⟨h1,_⟩ | ⟨k,hk,h1,h2,_⟩
  ·omega
  ·have:j=k:=by omega
   subst this;unfold jg;refine (Y6 (q:=fun x:Hold=>x.path==p&&decide (x.num≤n)) hj (by simp [h2,hn]) fun i h' hi=>?_).symm;have:=zaz hd hj i h' hi;rw [h2] at this;simp [this]
 ·intro h;unfold jg;refine List.filter_eq_self.2 fun x hx=>?_
  obtain ⟨i,hi,rfl⟩:=List.mem_iff_getElem.1 hx;by_cases hp:l[i].path=p
  ·have:=(zfe hd (p:=p) (n:=n)).2 h _ (List.getElem_mem hi) hp;simp [hp]; omega
  ·simp [hp]
theorem zc7 {l:List Hold} (hd:l.Pairwise fun a b=>a.path≠b.path) {h:Hold}:(∀ j (hj:j < l.length),hAt l h.path=(j:Int)→h.num≤l[j].num→jh l h=l)∧(∀ j (hj:j < l.length),hAt l h.path=(j:Int)→l[j].num < h.num→jh l h=l.eraseIdx j++[h])∧(hAt l h.path = -1→jh l h=l++[h]):=by
 have key:∀ j (hj:j < l.length),hAt l h.path=(j:Int)→l[j].path=h.path:=fun j hj hi=>by
  rcases yP l h.path with ⟨h1,_⟩ | ⟨k,hk,h1,h2,_⟩
  ·omega
  ·have:j=k:=by omega
   subst this; exact h2
 refine ⟨fun j hj hi hn=>?_,fun j hj hi hn=>?_,fun hi=>?_⟩
 ·unfold jh;rw [if_pos];simp only [List.any_eq_true,Bool.and_eq_true,beq_iff_eq,decide_eq_true_eq];exact ⟨_,List.getElem_mem hj,key j hj hi,hn⟩
 ·have hp:=key j hj hi;unfold jh;rw [if_neg]
  ·congr 1
   refine (Y6 (q:=fun x:Hold=>x.path==h.path) hj (by simp [hp]) fun i h' hi'=>?_).symm;have:=zaz hd hj i h' hi';rw [hp] at this
   simpa using this
  ·simp only [List.any_eq_true,Bool.and_eq_true,beq_iff_eq,decide_eq_true_eq,not_exists,not_and];intro x hx hxp;obtain ⟨i,hi2,rfl⟩:=List.mem_iff_getElem.1 hx;by_cases hij:i=j
   ·subst hij; omega
   ·have:=zaz hd hj i hi2 hij;rw [hp] at this;exact absurd hxp this
 ·rcases yP l h.path with ⟨_,h2⟩ | ⟨k,hk,h1,_⟩
  ·unfold jh;rw [if_neg]
   ·congr 1
    exact List.filter_eq_self.2 fun x hx=>by simpa using h2 x hx
   ·simp only [List.any_eq_true,Bool.and_eq_true,beq_iff_eq,decide_eq_true_eq,not_exists,not_and];intro x hx hxp;exact absurd hxp (h2 x hx)
  ·omega

theorem mixed:Tryz.prog.follows .mixedOrders=true:=by kernel_rfl

def zlj:XC:=(.s (.r [.a2 4 1 9]) (.s (.r [.ex 8 .bsl0,.a1 5 8 1 9]) (.s (.r [.m1 6 (.i 0)]) (.s (.s (.r [.m1 7 (.i 0)]) (.blk 0 (.loop (.s (.s (.r [.mv 9 7,.mv 10 0,.ex 11 (.len true 10),.b1 12 .leq 9 11]) (.ce 12 0)) (.s (.blk 1 (.s (.r [.mv 15 7,.mv 16 0,.ex 17 (.len true 16),.b1 18 .eql 15 17,.mv 19 18,.h3 20 0 19,.h3 21 7 19,.gf 22 (.idx 20 21) 19,.h3 23 1 19,.gf 24 (.bin .eql 22 23) 19,.p1 25 19 24]) (.cnd 25 (.s (.r [.mv 26 5,.mv 27 0,.mv 28 6,.mv 29 7,.ex 30 (.sls 27 (.some 28) (.some 29)),.ex 31 (.bsl 1 9 [30]),.ex 32 (.app false 1 16 9 26 31),.a1 5 32 1 9]) (.r [.mv 33 7,.b1 34 .add 33 (.i 1),.mv 6 34])) .skip))) (.ic 13 14 7)))))) (.s (.r [.mv 35 5,.a1 4 35 1 9]) .ret)))))
theorem zlk:zc Tryz.prog [] 186=some (zlj.ac,[(.t 4)],36):=by kernel_rfl
theorem zo9 (W0:World) (s:Str) (c:UInt8) (hs:s.length≤1000000):Fn Tryz.prog W0 186 [CS s,CU c.toNat] (.c (jo (cut c s))) []:=by
 refine fX mixed zlk fun hg=>?_
 refine dr ?_;refine lp3 (fun (out:List Str) (fr k:Nat)=>[(0,.c (CS s)),(1,.c (CU c.toNat)),(5,.own 80 out.length),(6,I fr),(7,I k)]) (fun out _ _=>[(80,.row (out.map CS) 1 9)])
  (fun out fr k=>fr≤k∧k≤s.length+1∧(k≤s.length→c ∉ (s.take k).drop fr∧out++cut c (s.drop fr)=cut c s)∧(k=s.length+1→out=cut c s)∧out.length≤k) (fun _ _ k=>s.length+1 - k) [] 0 0 ⟨by simp,by simp,by simp,by simp,by simp⟩ ?_ ?_
 ·refine dr ?_;trivial
 rintro out fr k ⟨h1,h2,h3,h4,h5⟩;refine dr ?_;apply cP<;>intro h6
 ·obtain ⟨h7,h8⟩:=h3 (by omega);refine dr ?_;apply cP<;>intro h9
  ·have hk:k=s.length:=by omega
   refine dr ?_;repeat (refine sBo fr k rfl rfl (by omega) (by omega) ?_; first|refine dr ?_|exact dz)
   refine ⟨out++[(s.take k).drop fr],k+1,k+1,⟨by omega,by omega,by omega,fun _=>?_,by simp; omega⟩,by omega,?_⟩
   ·rw [← h8,YW (s:=s.drop fr)]
    ·rw [hk,List.take_length]
    ·rw [hk,List.take_length] at h7; exact h7
   ·refine dr ?_;repeat (refine oB (by simp) ?_; first|refine dr ?_|exact dz)
    trivial
  ·have hk:k < s.length:=by omega
   refine dr ?_;apply cP<;>intro h10
   ·have e:s[k]=c:=by
     have:s[k].toNat=c.toNat:=by omega
     exact UInt8.toNat_inj.1 this
    refine dr ?_;repeat (refine sBo fr k rfl rfl (by omega) (by omega) ?_; first|refine dr ?_|exact dz)
    refine ⟨out++[(s.take k).drop fr],k+1,k+1,⟨by omega,by omega,fun h=>⟨?_,?_⟩,fun h=>by omega,by simp; omega⟩,by omega,?_⟩
    ·rw [List.drop_of_length_le (by simp; omega)]; simp
    ·have e2:s.drop fr=(s.take k).drop fr++c::s.drop (k+1):=by
      rw [← e,← List.drop_eq_getElem_cons hk];have:s.drop fr=(s.take k++s.drop k).drop fr:=by rw [List.take_append_drop]
      rw [this,List.drop_append_of_le_length (by simp; omega)]
     rw [e2,YV _ h7] at h8;rw [← h8]; simp
    ·refine dr ?_;repeat (refine oB (by simp) ?_; first|refine dr ?_|exact dz)
     trivial
   ·have e:s[k]≠c:=by
     intro e; rw [e] at h10; exact h10 rfl
    refine dr ?_;refine ⟨out,fr,k+1,⟨by omega,by omega,fun h=>⟨?_,h8⟩,fun h=>?_,by omega⟩,by omega,?_⟩
    ·rw [List.take_succ_eq_append_getElem hk,List.drop_append_of_le_length (by simp; omega)];simp only [List.mem_append,not_or,List.mem_singleton];exact ⟨h7,fun h=>e h.symm⟩
    ·omega
    ·refine dr ?_;trivial
 ·have hk:k=s.length+1:=by omega
  refine dr ?_;repeat (refine oB (by simp) ?_; first|refine dr ?_|exact dz)
  rw [h4 hk]; rfl
def zlr:XC:=(.s (.r [.a2 2 1 9]) (.s (.s (.r [.mv 3 0,.ex 4 (.len true 3),.b1 5 .lss 4 (.i 2),.mv 6 5,.h3 7 0 6,.gf 8 (.idx 7 (.i 0)) 6,.gf 9 (.bin .neq 8 (.u 47)) 6,.p1 10 6 9]) (.cnd 10 (.s (.r [.ex 11 .bsl0,.a1 2 11 1 9]) .ret) .skip)) (.s (.r [.mv 12 0,.ex 13 (.sls 12 (.some (.i 1)) .none),.c1 14 186 [13,(.u 47)],.a1 2 14 1 9]) .ret)))
theorem zls:zc Tryz.prog [] 151=some (zlr.ac,[(.t 2)],15):=by kernel_rfl
theorem zpd (W0:World) (s:Str) (hs:s.length≤1000000):Fn Tryz.prog W0 151 [CS s] (.c (jo (names s))) []:=by
 refine fX mixed zls fun hg=>?_
 refine dr ?_;apply cP<;>intro h1
 ·refine dr ?_;repeat (refine oB (by simp) ?_; first|refine dr ?_|exact dz)
  rw [names,if_pos (.inl (by omega))]; rfl
 ·have hl:2≤s.length:=by omega
  refine dr ?_;apply cP<;>intro h2
  ·refine dr ?_;repeat (refine oB (by simp) ?_; first|refine dr ?_|exact dz)
   have hc:s.head? ≠ some 47:=by
    cases s with
    | nil=>simp at hl
    | cons b t =>
     show some b≠some 47;intro e; cases e; exact h2 rfl
   have e:names s=[]:=by rw [names,if_pos (.inr hc)]
   exact congrArg jo e.symm
  ·have e:s.head? = some 47:=by
    cases s with
    | nil=>simp at hl
    | cons b t =>
     have:b.toNat=47:=by simp at h2; omega
     simp; exact UInt8.toNat_inj.1 (by simpa using this)
   refine dr ?_;repeat ((first|refine sLo 1 rfl (by omega) ?_|refine c0 (zo9 W0 _ 47 (by simp; omega)) rfl ?_); first|refine dr ?_|exact dz)
   intro hg1;refine dr ?_;repeat (refine oB (by simp) ?_; first|refine dr ?_|exact dz)
   rw [names,if_neg (by simp [e]; omega),← List.drop_one]
def zlp:XC:=(.s (.r [.m1 2 .n]) (.s (.s (.r [.m1 3 (.i 0)]) (.blk 0 (.loop (.s (.s (.r [.mv 4 3,.mv 5 0,.ex 6 (.len true 5),.b1 7 .lss 4 6]) (.ce 7 0)) (.s (.blk 1 (.s (.r [.mv 10 0,.mv 11 3,.ex 12 (.idx 10 11),.b1 13 .lss 12 (.u 97),.mv 14 13,.h3 15 0 14,.h3 16 3 14,.gf 17 (.idx 15 16) 14,.gf 18 (.bin .gtr 17 (.u 122)) 14,.p1 19 14 18]) (.cnd 19 (.rf 2) .skip))) (.ic 8 9 3)))))) (.s (.r [.mv 20 0,.ex 21 (.len true 20),.b1 22 .geq 21 (.i 1),.mv 23 22,.g3 24 0 23,.gt 25 (.len true 24) 23,.gt 26 (.bin .leq 25 (.i 3)) 23,.p2 27 23 26,.mv 2 27]) .ret)))
theorem zlq:zc Tryz.prog [] 152=some (zlp.ac,[(.t 2)],28):=by kernel_rfl
theorem zpc (W0:World) (s:Str):Fn Tryz.prog W0 152 [CS s] (.c (CB (jS s))) []:=by
 refine fX mixed zlq fun hg=>?_
 have g1:=goodS (hg _ (by simp:CS s∈_));refine dr ?_;refine lp (σ:=Nat) (fun k=>[(0,.c (CS s)),(3,I k)]) (fun _=>[]) (fun k=>k≤s.length∧(s.take k).all jZ=true) (fun k=>s.length - k) 0 ⟨by simp,by simp⟩ ?_ ?_
 ·refine dr ?_;trivial
 rintro k ⟨hk,ha⟩;refine dr ?_;apply cP<;>intro h1
 ·have hk':k < s.length:=by omega
  have no:jZ s[k]=false→CB false=CB (jS s):=fun h=>bF (by rw [jS,Jj hk' h]; rfl)
  refine dr ?_;apply cP<;>intro h2
  ·refine dr ?_;exact no (by simp [jZ]; omega)
  ·refine dr ?_;apply cP<;>intro h3
   ·refine dr ?_;exact no (by simp [jZ]; omega)
   ·refine dr ?_;refine ⟨k+1,⟨by omega,yh hk' ha (by simp [jZ]; omega)⟩,by omega,?_⟩;refine dr ?_;trivial
 ·have:k=s.length:=by omega
  subst this;rw [List.take_length] at ha;refine dr ?_;apply cP<;>intro h2
  ·refine dr ?_;refine congrArg CB ?_;rw [jS,ha,Yf,Bool.eq_iff_iff]; simp; omega
  ·refine dr ?_;exact bF (by rw [jS,ha]; simp; omega)
def zk3:XC:=(.s (.r [.m1 2 .n]) (.s (.s (.r [.mv 5 0,.ex 6 (.len true 5),.b1 7 .gtr 6 (.i 12)]) (.cnd 7 (.rf 2) .skip)) (.s (.r [.mv 8 0,.c1 9 151 [8],.a1 3 9 1 9]) (.s (.s (.r [.m1 4 (.i 0)]) (.blk 0 (.loop (.s (.s (.r [.mv 10 4,.mv 11 3,.n1 12 11,.b1 13 .lss 10 12]) (.ce 13 0)) (.s (.blk 1 (.s (.r [.mv 16 3,.mv 17 4,.i1 18 1 16 17,.l1 19 1 18,.c1 20 152 [19],.u1 21 20]) (.cnd 21 (.rf 2) .skip))) (.ic 14 15 4)))))) (.s (.r [.mv 22 3,.n1 23 22,.b1 24 .geq 23 (.i 1),.mv 25 24,.g3 26 3 25,.gt 27 (.len false 26) 25,.gt 28 (.bin .leq 27 (.i 3)) 25,.p2 29 25 28,.mv 2 29]) .ret)))))
theorem zk4:zc Tryz.prog [] 98=some (zk3.ac,[(.t 2)],30):=by kernel_rfl
theorem qH (W0:World) (s:Str):Fn Tryz.prog W0 98 [CS s] (.c (CB (pOk s))) []:=by
 refine fX mixed zk4 fun hg=>?_
 refine dr ?_;apply cP<;>intro h1
 ·refine dr ?_;exact bF (by simp [pOk]; omega)
 refine dr ?_;repeat (refine c0 (zpd W0 s (by omega)) rfl ?_; first|refine dr ?_|exact dz)
 intro hg1;have g1:=jc hg1;refine dr ?_;refine lp (σ:=Nat) (fun k=>[(3,.c (jo (names s))),(4,I k)]) (fun _=>[]) (fun k=>k≤(names s).length∧((names s).take k).all jS=true) (fun k=>(names s).length - k) 0 ⟨by simp,by simp⟩ ?_ ?_
 ·refine dr ?_;trivial
 rintro k ⟨hk,ha⟩;refine dr ?_;apply cP<;>intro h2
 ·refine dr ?_;repeat (refine c0 (zpc W0 _) rfl ?_; first|refine dr ?_|exact dz)
  apply cP<;>intro h3
  ·refine dr ?_;exact bF (by rw [pOk,Jj (by omega) h3]; simp)
  ·refine dr ?_;refine ⟨k+1,⟨by omega,yh (by omega) ha h3⟩,by omega,?_⟩;refine dr ?_;trivial
 ·have:k=(names s).length:=by omega
  subst this;rw [List.take_length] at ha;refine dr ?_;apply cP<;>intro h3
  ·refine dr ?_;refine congrArg CB ?_;rw [pOk,ha,Yf,Bool.eq_iff_iff]; simp; omega
  ·refine dr ?_;exact bF (by rw [pOk,ha]; simp; omega)
def zlv:XC:=(.s (.r [.m1 2 (.i 0)]) (.s (.r [.mv 4 0,.ex 5 (.len true 4),.b1 6 .sub 5 (.i 1),.mv 3 6]) (.s (.blk 0 (.loop (.s (.s (.r [.mv 7 3,.b1 8 .gtr 7 (.i 0),.mv 9 8,.g3 10 0 9,.g3 11 3 9,.gt 12 (.idx 10 11) 9,.gt 13 (.bin .neq 12 (.u 47)) 9,.p2 14 9 13]) (.ce 14 0)) (.blk 1 (.r [.mv 15 3,.b1 16 .sub 15 (.i 1),.mv 3 16]))))) (.s (.r [.mv 17 3,.mv 2 17]) .ret))))
theorem zlw:zc Tryz.prog [] 220=some (zlv.ac,[(.t 2)],18):=by kernel_rfl
theorem zej (W0:World) (a l:Str) (hl:(47:UInt8) ∉ l) (h12:(a++47::l).length≤12):Fn Tryz.prog W0 220 [CS (a++47::l)] (.c (CI a.length)) []:=by
 have hlen:(a++47::l).length=a.length+l.length+1:=by simp; omega
 have h47:∀ (h:a.length < (a++47::l).length),(a++47::l)[a.length]=47:=fun h=>by simp
 have hno:∀ k (h:k < (a++47::l).length),a.length < k→(a++47::l)[k]≠47:=fun k h hk e=>by
  have hm:(a++47::l)[k]? = some 47:=by rw [List.getElem?_eq_getElem h,e]
  rw [List.getElem?_append_right (by omega),show k - a.length=(k - a.length - 1)+1 by omega,List.getElem?_cons_succ] at hm;exact hl (List.mem_of_getElem? hm)
 generalize a++47::l=s at *;refine fX mixed zlw fun hg=>?_
 refine dr ?_;refine lp (σ:=Nat) (fun k=>[(0,.c (CS s)),(3,I k)]) (fun _=>[]) (fun k=>a.length≤k∧k < s.length) (fun k=>k) (s.length - 1) ⟨by omega,by omega⟩ ?_ ?_
 ·refine dr ?_;trivial
 rintro k ⟨h1,h2⟩;refine dr ?_;apply cP<;>intro h3
 ·refine dr ?_;apply cP<;>intro h4
  ·have hk:a.length < k:=by
    rcases Nat.lt_or_ge a.length k with h | h
    ·exact h
    ·have e:k=a.length:=by omega
     subst e;rw [h47 h2] at h4;simp at h4
   refine dr ?_;refine ⟨k - 1,⟨by omega,by omega⟩,by omega,?_⟩;refine dr ?_;trivial
  ·have hk:k=a.length:=by
    have h4':s[k]=47:=by
     have:s[k].toNat=47:=by omega
     exact UInt8.toNat_inj.1 (by simpa using this)
    rcases Nat.lt_or_ge a.length k with h | h
    ·exact absurd h4' (hno k h2 h)
    ·omega
   refine dr ?_;rw [hk]
 ·refine dr ?_;have:k=a.length:=by omega
  rw [this]
def zk5:XC:=(.s (.r [.ex 2 (.mv (.s []))]) (.s (.s (.r [.mv 4 0,.c1 5 98 [4],.u1 6 5]) (.cnd 6 (.s (.r [.ex 2 (.mv (.s []))]) .ret) .skip)) (.s (.r [.mv 7 0,.c1 8 220 [7],.mv 3 8]) (.s (.s (.r [.mv 9 3,.b1 10 .eql 9 (.i 0)]) (.cnd 10 (.s (.r [.ex 2 (.mv (.s [47]))]) .ret) .skip)) (.s (.r [.mv 11 0,.mv 12 3,.ex 13 (.sls 11 .none (.some 12)),.mv 2 13]) .ret)))))
theorem zk6:zc Tryz.prog [] 180=some (zk5.ac,[(.t 2)],14):=by kernel_rfl
theorem Zb (W0:World) (s:Str):Fn Tryz.prog W0 180 [CS s] (.c (CS (pUp s))) []:=by
 refine fX mixed zk6 fun hg=>?_
 refine dr ?_;repeat (refine c0 (qH W0 s) rfl ?_; first|refine dr ?_|exact dz)
 apply cP<;>intro h1
 ·refine dr ?_;rw [show pUp s=[] by rw [pUp,h1]; rfl]
 obtain ⟨a,l,e,hl,_,_,_,_,_,hu⟩:=JE h1;have h12:=(qP h1).2.1;rw [hu];clear hu;subst e;refine dr ?_;repeat (refine c0 (zej W0 a l hl h12) rfl ?_; first|refine dr ?_|exact dz)
 intro hg1;refine dr ?_;apply cP<;>intro h2
 ·refine dr ?_;have:a=[]:=List.length_eq_zero_iff.1 (by omega);rw [if_pos this]
 ·refine dr ?_;repeat (refine sHi a.length rfl (by simp) ?_; first|refine dr ?_|exact dz)
  rw [if_neg (fun e=>h2 (by simp [e])),List.take_left]
def zk1:XC:=(.s (.r [.ex 2 (.mv (.s []))]) (.s (.s (.r [.mv 3 0,.c1 4 98 [3],.u1 5 4]) (.cnd 5 (.s (.r [.ex 2 (.mv (.s []))]) .ret) .skip)) (.s (.r [.mv 6 0,.mv 7 0,.c1 8 220 [7],.b1 9 .add 8 (.i 1),.ex 10 (.sls 6 (.some 9) .none),.mv 2 10]) .ret)))
theorem zk2:zc Tryz.prog [] 240=some (zk1.ac,[(.t 2)],11):=by kernel_rfl
theorem zqf (W0:World) (s:Str):Fn Tryz.prog W0 240 [CS s] (.c (CS (JD s))) []:=by
 refine fX mixed zk2 fun hg=>?_
 refine dr ?_;repeat (refine c0 (qH W0 s) rfl ?_; first|refine dr ?_|exact dz)
 apply cP<;>intro h1
 ·refine dr ?_;rw [show JD s=[] by rw [JD,h1]; rfl]
 obtain ⟨a,l,e,hl,_,_,_,_,hn,_⟩:=JE h1;have h12:=(qP h1).2.1;rw [hn];clear hn;subst e;have hlen:(a++47::l).length=a.length+l.length+1:=by rw [List.length_append,List.length_cons]; omega
 refine dr ?_;repeat ((first|refine c0 (zej W0 a l hl h12) rfl ?_|refine sLo (a.length+1) rfl (by omega) ?_); first|refine dr ?_|exact dz)
 intro hg1;refine dr ?_;have e2:a++47::l=(a++[47])++l:=by simp
 rw [e2,List.drop_left' (by simp)]
def zlx:XC:=(.s (.r [.m1 4 .n]) (.s (.s (.r [.mv 5 1,.ex 6 (.bin .eql 5 (.s [47]))]) (.cnd 6 (.rt 4) .skip)) (.s (.r [.mv 7 0,.ex 8 (.len true 7),.mv 9 1,.ex 10 (.len true 9),.b1 11 .gtr 8 10,.mv 12 11,.g3 13 0 12,.g3 14 1 12,.gt 15 (.len true 14) 12,.gt 16 (.sls 13 .none (.some 15)) 12,.g3 17 1 12,.gt 18 (.bin .eql 16 17) 12,.p2 19 12 18,.mv 20 19,.g3 21 0 20,.g3 22 1 20,.gt 23 (.len true 22) 20,.gt 24 (.idx 21 23) 20,.gt 25 (.bin .eql 24 (.u 47)) 20,.p2 26 20 25,.mv 4 26]) .ret)))
theorem zly:zc Tryz.prog [] 221=some (zlx.ac,[(.t 4)],27):=by kernel_rfl
theorem zab (W0:World) (s d:Str):Fn Tryz.prog W0 221 [CS s,CS d] (.c (CB (und s d))) []:=by
 refine fX mixed zly fun hg=>?_
 refine dr ?_;apply cP<;>intro h1
 ·refine dr ?_;exact bT (by simp [und,h1])
 have hnd:und s d=(d++[47]).isPrefixOf s:=by simp [und,h1]
 rw [hnd];refine dr ?_;apply cP<;>intro h2;rotate_left
 ·refine dr ?_;refine bF ?_;rw [Bool.eq_false_iff];intro h;have:=(List.isPrefixOf_iff_prefix.1 h).length_le;simp at this; omega
 refine dr ?_;repeat (refine sHi d.length rfl (by omega) ?_; first|refine dr ?_|exact dz)
 apply cP<;>intro h3;rotate_left
 ·refine dr ?_;refine bF ?_;rw [Bool.eq_false_iff];intro h;obtain ⟨r,hr⟩:=List.isPrefixOf_iff_prefix.1 h;apply h3;rw [← hr,List.append_assoc,List.take_left]
 refine dr ?_;have hs:s=d++s[d.length]::s.drop (d.length+1):=by
  rw [← List.drop_eq_getElem_cons (by omega)];conv=>lhs; rw [← List.take_append_drop d.length s,h3]
 refine congrArg CB ?_;rw [y4,Bool.eq_iff_iff,List.isPrefixOf_iff_prefix];simp only [beq_iff_eq];constructor
 ·intro h;have e:s[d.length]=47:=by
   have:s[d.length].toNat=47:=by omega
   exact UInt8.toNat_inj.1 (by simpa using this)
  rw [e] at hs;exact ⟨s.drop (d.length+1),by rw [hs]; simp⟩
 ·rintro ⟨r,hr⟩;have:s[d.length]? = some 47:=by rw [← hr]; simp
  have e:s[d.length]=47:=by
   rw [List.getElem?_eq_getElem (by omega)] at this; exact Option.some.inj this
  rw [e]; rfl
def zkZ:XC:=(.s (.r [.ex 6 (.mv (.s [])),.m1 7 .n]) (.s (.s (.r [.mv 9 0,.c1 10 98 [9],.u1 11 10,.mv 12 11,.h3 13 1 12,.gf 14 (.call 98 [13]) 12,.gf 15 (.un .not 14) 12,.p1 16 12 15,.mv 17 16,.h3 18 2 17,.gf 19 (.call 98 [18]) 17,.gf 20 (.un .not 19) 17,.p1 21 17 20]) (.cnd 21 (.s (.r [.ex 6 (.mv (.s [])),.m1 7 .n]) .ret) .skip)) (.s (.s (.r [.mv 22 0,.mv 23 1,.b1 24 .neq 22 23,.mv 25 24,.g3 26 0 25,.g3 27 1 25,.gt 28 (.call 221 [26,27]) 25,.gt 29 (.un .not 28) 25,.p2 30 25 29]) (.cnd 30 (.s (.r [.mv 31 0,.mv 6 31,.m1 7 .y]) .ret) .skip)) (.s (.r [.mv 32 2,.mv 33 0,.mv 34 1,.ex 35 (.len true 34),.ex 36 (.sls 33 (.some 35) .none),.b1 37 .add 32 36,.mv 8 37]) (.s (.s (.r [.mv 38 8,.c1 39 98 [38],.u1 40 39]) (.cnd 40 (.s (.r [.ex 6 (.mv (.s [])),.m1 7 .n]) .ret) .skip)) (.s (.r [.mv 41 8,.mv 6 41,.m1 7 .y]) .ret))))))
theorem zk0:zc Tryz.prog [] 223=some (zkZ.ac,[(.t 6),(.t 7)],42):=by kernel_rfl
theorem zeA (W0:World) (s f t:Str):Fn Tryz.prog W0 223 [CS s,CS f,CS t] (.c (eOpt (jw s f t))) []:=by
 refine fX mixed zk0 fun hg=>?_
 refine dr ?_;repeat (refine c0 (qH W0 s) rfl ?_; first|refine dr ?_|exact dz)
 apply cP<;>intro h1
 ·refine dr ?_;simp [jw,h1,eOpt]
 refine dr ?_;repeat (refine c0 (qH W0 f) rfl ?_; first|refine dr ?_|exact dz)
 apply cP<;>intro h2
 ·refine dr ?_;simp [jw,h2,eOpt]
 refine dr ?_;repeat (refine c0 (qH W0 t) rfl ?_; first|refine dr ?_|exact dz)
 apply cP<;>intro h3
 ·refine dr ?_;simp [jw,h3,eOpt]
 have l1:=(qP h1).2.1;have l3:=(qP h3).2.1;have hm:jw s f t=if (s != f&&!und s f)=true then some s else if pOk (t++s.drop f.length)=true then some (t++s.drop f.length) else none:=by rw [jw,if_pos (by simp [h1,h2,h3])]
 have fin:f.length≤s.length→((s != f&&!und s f)=false)→True:=fun _ _=>trivial
 refine dr ?_;apply cP<;>intro h4
 ·refine dr ?_;repeat (refine c0 (zab W0 s f) rfl ?_; first|refine dr ?_|exact dz)
  apply cP<;>intro h5
  ·refine dr ?_;rw [hm,if_pos (by simp [h4,h5])]; rfl
  ·have hle:f.length≤s.length:=by
    simp only [und,Bool.or_eq_true,beq_iff_eq] at h5;rcases h5 with h5 | h5
    ·have:=qP h2; rw [h5] at this; simp at this
    ·have:=(List.isPrefixOf_iff_prefix.1 h5).length_le;simp at this; omega
   rw [hm,if_neg (by simp [h5])];refine dr ?_;repeat ((first|refine sLo f.length rfl hle ?_|refine oB (by simp; omega) ?_|refine c0 (qH W0 _) rfl ?_); first|refine dr ?_|exact dz)
   apply cP<;>intro h6
   ·refine dr ?_;rw [if_neg (by rw [h6]; simp)]; rfl
   ·refine dr ?_;rw [if_pos h6]; rfl
 ·subst h4;rw [hm,if_neg (by simp)];refine dr ?_;repeat ((first|refine sLo s.length rfl (Nat.le_refl _) ?_|refine oB (by simp; omega) ?_|refine c0 (qH W0 _) rfl ?_); first|refine dr ?_|exact dz)
  apply cP<;>intro h6
  ·refine dr ?_;rw [if_neg (by rw [h6]; simp)]; rfl
  ·refine dr ?_;rw [if_pos h6]; rfl

def zlB:XC:=(.s (.r [.m1 2 .n]) (.s (.s (.r [.m1 3 (.i 0)]) (.blk 0 (.loop (.s (.s (.r [.mv 4 3,.mv 5 0,.ex 6 (.len true 5),.b1 7 .lss 4 6]) (.ce 7 0)) (.s (.blk 1 (.s (.r [.mv 10 0,.mv 11 3,.ex 12 (.idx 10 11),.b1 13 .lss 12 (.u 97),.mv 14 13,.h3 15 0 14,.h3 16 3 14,.gf 17 (.idx 15 16) 14,.gf 18 (.bin .gtr 17 (.u 122)) 14,.p1 19 14 18,.mv 20 19,.g3 21 0 20,.g3 22 3 20,.gt 23 (.idx 21 22) 20,.gt 24 (.bin .lss 23 (.u 48)) 20,.g3 25 24 20,.h3 26 0 25,.h3 27 3 25,.gf 28 (.idx 26 27) 25,.gf 29 (.bin .gtr 28 (.u 57)) 25,.gt 30 (.pick 25 .y 29) 20,.p2 31 20 30]) (.cnd 31 (.rf 2) .skip))) (.ic 8 9 3)))))) (.s (.r [.mv 32 0,.ex 33 (.len true 32),.b1 34 .leq 33 (.i 6),.mv 2 34]) .ret)))
theorem zlC:zc Tryz.prog [] 181=some (zlB.ac,[(.t 2)],35):=by kernel_rfl
theorem zbM (W0:World) (s:Str):Fn Tryz.prog W0 181 [CS s] (.c (CB (qv s))) []:=by
 refine fX mixed zlC fun hg=>?_
 have g1:=goodS (hg _ (by simp:CS s∈_));refine dr ?_;refine lp (σ:=Nat) (fun k=>[(0,.c (CS s)),(3,I k)]) (fun _=>[]) (fun k=>k≤s.length∧(s.take k).all qj=true) (fun k=>s.length - k) 0 ⟨by simp,by simp⟩ ?_ ?_
 ·refine dr ?_;trivial
 rintro k ⟨hk,ha⟩;refine dr ?_;apply cP<;>intro h1
 ·have hk':k < s.length:=by omega
  have no:qj s[k]=false→CB false=CB (qv s):=fun h=>bF (by rw [qv,Jj hk' h]; rfl)
  have yes:qj s[k]=true→∃ x',(x'≤s.length∧(s.take x').all qj=true)∧x'=k+1:=fun h=>⟨k+1,⟨by omega,yh hk' ha h⟩,rfl⟩
  refine dr ?_;apply cP<;>intro h2
  ·refine dr ?_;apply cP<;>intro h3
   ·refine dr ?_;exact no (by simp [qj,jZ]; omega)
   ·refine dr ?_;apply cP<;>intro h4
    ·refine dr ?_;exact no (by simp [qj,jZ]; omega)
    ·refine dr ?_;refine ⟨k+1,⟨by omega,yh hk' ha (by simp [qj,jZ]; omega)⟩,by omega,?_⟩;refine dr ?_;trivial
  ·refine dr ?_;apply cP<;>intro h3
   ·refine dr ?_;apply cP<;>intro h4
    ·refine dr ?_;exact no (by simp [qj,jZ]; omega)
    ·refine dr ?_;apply cP<;>intro h5
     ·refine dr ?_;exact no (by simp [qj,jZ]; omega)
     ·refine dr ?_;refine ⟨k+1,⟨by omega,yh hk' ha (by simp [qj,jZ]; omega)⟩,by omega,?_⟩;refine dr ?_;trivial
   ·refine dr ?_;refine ⟨k+1,⟨by omega,yh hk' ha (by simp [qj,jZ]; omega)⟩,by omega,?_⟩;refine dr ?_;trivial
 ·have:k=s.length:=by omega
  subst this;rw [List.take_length] at ha;refine dr ?_;refine congrArg CB ?_;rw [qv,ha,Yf,Bool.eq_iff_iff]; simp; omega
def zlH:XC:=(.s (.r [.m1 4 (.i 0)]) (.s (.s (.r [.m1 5 (.i 0)]) (.blk 0 (.loop (.s (.s (.r [.mv 6 5,.mv 7 0,.n1 8 7,.b1 9 .lss 6 8]) (.ce 9 0)) (.s (.blk 1 (.s (.r [.mv 12 0,.mv 13 5,.i1 14 3 12 13,.f1 15 0 14,.l1 16 1 15,.mv 17 1,.b1 18 .eql 16 17]) (.cnd 18 (.s (.r [.mv 19 5,.mv 4 19]) .ret) .skip))) (.ic 10 11 5)))))) (.s (.r [.ex 4 (.mv (.k (.c (.sc (.int .i64 (.negSucc 0))))))]) .ret)))
theorem zlI:zc Tryz.prog [] 193=some (zlH.ac,[(.t 4)],20):=by kernel_rfl
theorem zek (W0:World) (t:List Ent) (p:Str):Fn Tryz.prog W0 193 [za t,CS p] (.c (CI (idx t p))) []:=by
 refine fX mixed zlI fun hg=>?_
 have g1:=jc (hg _ (by simp:za t∈_));refine dr ?_;refine lp (σ:=Nat) (fun k=>[(0,.c (za t)),(1,.c (CS p)),(5,I k)]) (fun _=>[]) (fun k=>k≤t.length∧∀ i (h':i < t.length),i < k→t[i].path≠p) (fun k=>t.length - k) 0 ⟨by simp,by simp⟩ ?_ ?_
 ·refine dr ?_;trivial
 rintro k ⟨hk,ha⟩;refine dr ?_;apply cP<;>intro h1
 ·refine dr ?_;apply cP<;>intro h2
  ·refine dr ?_;rw [zqS (by omega) h2 ha]
  ·refine dr ?_;refine ⟨k+1,⟨by omega,fun i h' hi=>?_⟩,by omega,?_⟩
   ·by_cases e:i=k
    ·subst e; exact h2
    ·exact ha i h' (by omega)
   ·refine dr ?_;trivial
 ·refine dr ?_;rw [zqT fun i h'=>ha i h' (by omega)]; rfl
def zlD:XC:=(.s (.r [.m1 4 .n]) (.s (.s (.r [.mv 6 1,.ex 7 (.bin .eql 6 (.s [47]))]) (.cnd 7 (.rt 4) .skip)) (.s (.r [.mv 8 0,.mv 9 1,.c1 10 193 [8,9],.mv 5 10]) (.s (.r [.mv 11 5,.b1 12 .geq 11 (.i 0),.mv 13 12,.g3 14 0 13,.g3 15 5 13,.gt 16 (.ia 3 14 15) 13,.g1 17 1 16 13,.g2 18 1 17 13,.p2 19 13 18,.mv 4 19]) .ret))))
theorem zlE:zc Tryz.prog [] 179=some (zlD.ac,[(.t 4)],20):=by kernel_rfl
theorem Q4 (W0:World) (t:List Ent) (p:Str):Fn Tryz.prog W0 179 [za t,CS p] (.c (CB (zK t p))) []:=by
 refine fX mixed zlE fun hg=>?_
 refine dr ?_;apply cP<;>intro h1
 ·refine dr ?_;exact bT (by simp [zK,get,h1,rootE])
 refine dr ?_;repeat (refine c0 (zek W0 t p) rfl ?_; first|refine dr ?_|exact dz)
 intro hg1;have hd:zK t p=match find t p with | some e=>e.dir | none=>false:=by unfold zK get; rw [if_neg h1]; try (cases find t p<;>rfl)
 rw [hd];rcases zaA t p with ⟨e1,e2,_⟩ | ⟨j,hj,e1,e2,_⟩
 ·rw [e1,e2];refine dr ?_;apply cP<;>intro h2
  ·omega
  ·exact dz
 ·rw [e1,e2];refine dr ?_;apply cP<;>intro h2
  ·exact dz
  ·omega
def zlJ:XC:=(.s (.r [.ex 4 (.alloc zE),.m1 5 .n]) (.s (.s (.r [.mv 7 1,.ex 8 (.bin .eql 7 (.s [47]))]) (.cnd 8 (.s (.r [.ex 9 (.build zE [(0,(1,(.s [47]))),(1,(1,.y))]),.s1 3 4 9,.m1 5 .y]) .ret) .skip)) (.s (.r [.mv 10 0,.mv 11 1,.c1 12 193 [10,11],.mv 6 12]) (.s (.s (.r [.mv 13 6,.b1 14 .lss 13 (.i 0)]) (.cnd 14 (.s (.r [.ex 15 (.build zE []),.s1 3 4 15,.m1 5 .n]) .ret) .skip)) (.s (.r [.mv 16 0,.mv 17 6,.i1 18 3 16 17,.l2 19 3 18,.s1 3 4 19,.m1 5 .y]) .ret)))))
theorem zlK:zc Tryz.prog [] 156=some (zlJ.ac,[(.cell 4 true 3),(.t 5)],20):=by kernel_rfl
theorem yJ (W0:World) (t:List Ent) (p:Str):Fn Tryz.prog W0 156 [za t,CS p] (.c (YZ (get t p))) []:=by
 refine fX mixed zlK fun hg=>?_
 refine dr ?_;apply cP<;>intro h1
 ·refine dr ?_;rw [get,if_pos h1]; rfl
 rw [get,if_neg h1];refine dr ?_;repeat (refine c0 (zek W0 t p) rfl ?_; first|refine dr ?_|exact dz)
 intro hg1;rcases zaA t p with ⟨e1,e2,_⟩ | ⟨j,hj,e1,e2,_⟩
 ·rw [e1,e2];refine dr ?_;apply cP<;>intro h2
  ·refine dr ?_;rfl
  ·omega
 ·rw [e1,e2];refine dr ?_;apply cP<;>intro h2
  ·omega
  ·refine dr ?_;rfl
def zk9:XC:=(.s (.r [.m1 2 .n]) (.s (.s (.r [.mv 5 0,.n1 6 5,.b1 7 .gtr 6 (.i 16)]) (.cnd 7 (.rf 2) .skip)) (.s (.s (.r [.m1 3 (.i 0)]) (.blk 0 (.loop (.s (.s (.r [.mv 8 3,.mv 9 0,.n1 10 9,.b1 11 .lss 8 10]) (.ce 11 0)) (.s (.blk 1 (.s (.r [.mv 14 0,.mv 15 3,.i1 16 3 14 15,.l2 17 3 16,.ex 4 (.alloc zE),.s1 3 4 17]) (.s (.d [.f1 18 0 4,.l1 19 1 18,.c1 20 98 [19],.u1 21 20,.mv 22 21,.h1 23 2 4 22,.h2 24 1 23 22,.gf 25 (.call 181 [24]) 22,.gf 26 (.un .not 25) 22,.p1 27 22 26,.mv 28 27,.h1 29 1 4 28,.h2 30 1 29 28,.h3 31 30 28,.g1 32 2 4 31,.g2 33 1 32 31,.gt 34 (.bin .neq 33 (.s [])) 31,.gf 35 (.pick 31 34 .n) 28,.p1 36 28 35,.mv 37 36,.h3 38 3 37,.gf 39 (.bin .gtr 38 (.i 0)) 37,.h3 40 39 37,.g3 41 0 40,.g3 42 3 40,.gt 43 (.bin .sub 42 (.i 1)) 40,.gt 44 (.ia 3 41 43) 40,.g1 45 0 44 40,.g2 46 1 45 40,.g1 47 0 4 40,.g2 48 1 47 40,.gt 49 (.bin .geq 46 48) 40,.gf 50 (.pick 40 49 .n) 37,.p1 51 37 50,.mv 52 51,.h3 53 0 52,.h3 54 3 52,.gf 55 (.slr 3 53 .none (.some 54)) 52,.h1 56 0 4 52,.h2 57 1 56 52,.gf 58 (.call 180 [57]) 52,.gf 59 (.call 179 [55,58]) 52,.gf 60 (.un .not 59) 52,.p1 61 52 60]) (.cnd 61 (.rf 2) .skip)))) (.ic 12 13 3)))))) (.rt 2))))
theorem zla:zc Tryz.prog [] 147=some (zk9.ac,[(.t 2)],62):=by kernel_rfl
theorem zbT (W0:World) (t:List Ent):Fn Tryz.prog W0 147 [za t] (.c (CB (tOk t))) []:=by
 refine fX mixed zla fun hg=>?_
 have g1:=jc (hg _ (by simp:za t∈_));refine dr ?_;apply cP<;>intro h1
 ·refine dr ?_;exact bF (by rw [tOk,Bool.and_eq_false_iff]; left; simp; omega)
 have hT:tOk t=okA [] t:=by rw [tOk]; simp; omega
 rw [hT];refine dr ?_;refine lp (σ:=Nat) (fun k=>[(0,.c (za t)),(3,I k)]) (fun _=>[]) (fun k=>k≤t.length∧∀ j (h:j < t.length),j < k→ok1 (t.take j) t[j]=true) (fun k=>t.length - k) 0 ⟨by simp,by simp⟩ ?_ ?_
 ·refine dr ?_;trivial
 rintro k ⟨hk,ha⟩;refine dr ?_;apply cP<;>intro h2;rotate_left
 ·refine dr ?_;exact bT (okA0.2 fun j h=>ha j h (by omega))
 have hk':k < t.length:=by omega
 have no:ok1 (t.take k) t[k]=false→CB false=CB (okA [] t):=fun h=>bF (by
  rw [Bool.eq_false_iff]; intro e;have:=okA0.1 e k hk';rw [h] at this; cases this)
 refine dr ?_;repeat (refine c0 (qH W0 _) rfl ?_; first|refine dr ?_|exact dz)
 apply cP<;>intro h3
 ·refine dr ?_;exact no (by simp [ok1,h3])
 refine dr ?_;repeat (refine c0 (zbM W0 _) rfl ?_; first|refine dr ?_|exact dz)
 apply cP<;>intro h4
 ·refine dr ?_;exact no (by simp [ok1,h4])
 refine dr ?_;apply cP<;>intro h5
 ·refine dr ?_;apply cP<;>intro h6
  ·refine dr ?_;exact no (by simp [ok1,h5,h6])
  ·have h56:(!(t[k].dir&&t[k].data != []))=true:=by simp [h6]
   clear h5 h6;refine dr ?_;apply cP<;>intro h7
   ·have hl:(t.take k).getLast? = some t[k - 1]:=by
     rw [List.getLast?_take,if_neg (by omega),List.getElem?_eq_getElem (by omega)];rfl
    refine dr ?_;repeat (refine aM (j:=k - 1) (by omega) (by omega) ?_; first|refine dr ?_|exact dz)
    cases h8:ltS t[k - 1].path t[k].path
    ·refine dr ?_;exact no (by simp [ok1,hl,h8])
    ·refine dEr ?_;repeat ((first|refine sHiM k rfl (by omega) ?_|refine c0 (Zb W0 _) rfl ?_|refine c0 (Q4 W0 (t.take k) _) rfl ?_); first|refine dEr ?_|exact dz)
     apply cP<;>intro h9
     ·refine dr ?_;exact no (by simp [ok1,h9])
     ·refine dr ?_;refine ⟨k+1,⟨by omega,fun j h hj=>?_⟩,by omega,?_⟩
      ·by_cases e:j=k
       ·subst e; rw [ok1,h3,h4,h56,h9,hl]; simp [h8]
       ·exact ha j h (by omega)
      ·refine dr ?_;trivial
   ·have hk0:k=0:=by omega
    subst hk0;refine dEr ?_;repeat ((first|refine sHiM 0 rfl (by omega) ?_|refine c0 (Zb W0 _) rfl ?_|refine c0 (Q4 W0 (t.take 0) _) rfl ?_); first|refine dEr ?_|exact dz)
    apply cP<;>intro h9
    ·refine dr ?_;exact no (by simp only [ok1,h9,Bool.and_false])
    ·refine dr ?_;refine ⟨1,⟨by omega,fun j h hj=>?_⟩,by omega,?_⟩
     ·have e:j=0:=by omega
      subst e;rw [ok1,h3,h4,h56,h9]; rfl
     ·refine dr ?_;trivial
 ·have h56:(!(t[k].dir&&t[k].data != []))=true:=by simp [h5]
  clear h5;refine dr ?_;apply cP<;>intro h7
  ·have hl:(t.take k).getLast? = some t[k - 1]:=by
    rw [List.getLast?_take,if_neg (by omega),List.getElem?_eq_getElem (by omega)];rfl
   refine dr ?_;repeat (refine aM (j:=k - 1) (by omega) (by omega) ?_; first|refine dr ?_|exact dz)
   cases h8:ltS t[k - 1].path t[k].path
   ·refine dr ?_;exact no (by simp [ok1,hl,h8])
   ·refine dEr ?_;repeat ((first|refine sHiM k rfl (by omega) ?_|refine c0 (Zb W0 _) rfl ?_|refine c0 (Q4 W0 (t.take k) _) rfl ?_); first|refine dEr ?_|exact dz)
    apply cP<;>intro h9
    ·refine dr ?_;exact no (by simp [ok1,h9])
    ·refine dr ?_;refine ⟨k+1,⟨by omega,fun j h hj=>?_⟩,by omega,?_⟩
     ·by_cases e:j=k
      ·subst e; rw [ok1,h3,h4,h56,h9,hl]; simp [h8]
      ·exact ha j h (by omega)
     ·refine dr ?_;trivial
  ·have hk0:k=0:=by omega
   subst hk0;refine dEr ?_;repeat ((first|refine sHiM 0 rfl (by omega) ?_|refine c0 (Zb W0 _) rfl ?_|refine c0 (Q4 W0 (t.take 0) _) rfl ?_); first|refine dEr ?_|exact dz)
   apply cP<;>intro h9
   ·refine dr ?_;exact no (by simp only [ok1,h9,Bool.and_false])
   ·refine dr ?_;refine ⟨1,⟨by omega,fun j h hj=>?_⟩,by omega,?_⟩
    ·have e:j=0:=by omega
     subst e;rw [ok1,h3,h4,h56,h9]; rfl
    ·refine dr ?_;trivial
end Go.Proofs.YtopfccpgdldcdaaGreatDoor
