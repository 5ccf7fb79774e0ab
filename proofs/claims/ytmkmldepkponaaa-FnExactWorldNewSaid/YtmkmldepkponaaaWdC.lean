/- The texts Ka4, Am1, Pa1, Pa2, Pa3, Qa1, Qa2, Qa3, Qa4, Qa5, Qa6, Pa4, Bm1, Pb1, Pb2, Pb3, Pb8, Pb9, Pb4, Bm2, Pb5, Pb6, Pb7, Qa7, Qa8, Qa9, Pa5, Qz1, Db1, Pc1, Ie0, Be1, Pz1, Be2, Be3, Be4, Be5, Lw0, Be6, Pa6, Bm3, joined; no condition. -/
import Derived.Test.YtmkmldepkponaaaWdB
import Derived.Test.YtmkmldepkponaaaProg

namespace Go.Proofs.Ytmkmldepkponaaa
set_option linter.unusedSimpArgs false
set_option linter.unusedVariables false
open Go Go.RowKit
theorem zO.sub {W0:World} {k0:List Nat} {F F2:Fr} {m m2:Mem} {K:Fr→Mem→Prop} (hF:∀ t x,lk F2 t=some x→lk F t=some x)
  (hm:∀ id b,lk m2 id=some b→lk m id=some b) (hk:∀ id,k0.contains id=true→(lk m2 id).isSome=true)
  (h1:yO m2=true) (h2:∀ t x,lk F2 t=some x→inP m2 x=true) (hK:K F2 m2):zO W0 k0 F m K:=by
 intro w0 κ0 m0 N κ act w hk0 hr;have hmw:=hr.mw;have live:∀ b,zd κ m2 b→zd κ m b:=fun b hb=>hb.imp id (Jb hm rfl)
 have some_m:∀ id,(lk m2 id).isSome=true→(lk m id).isSome=true:=fun id h=>by
  obtain ⟨x,hx⟩:=Option.isSome_iff_exists.1 h;rw [hm id x hx]; rfl
 have same:∀ id,(lk m0 id).isSome=true→lk m2 id=lk m id:=fun id h=>by
  obtain ⟨x,hx⟩:=Option.isSome_iff_exists.1 (hk id (hk0 id h));rw [hx,hm id x hx]
 refine ⟨κ,F2,m2,⟨⟨hmw.mem.down hm rfl live hmw.mem.sb (fun id b hi hb=>hmw.mem.sd id b (some_m id hi) hb) h1,fun b hb=>hmw.low b (live b hb),⟨fun id cs hb=>?_,fun id L sz e hb=>?_,fun b o v hl hc=>?_⟩,hmw.ext,fun id b hi hb=>hmw.new id b (some_m id hi) hb,hmw.hS⟩,hr.start,hr.low0,hr.s0,hr.size,hr.defers,fun t x hx=>?_⟩,hK⟩
 ·rw [same id (by rw [hb]; rfl)]; exact hmw.pres.box id cs hb
 ·rw [same id (by rw [hb]; rfl)];obtain ⟨L',g1,g2,g3,g4⟩:=hmw.pres.row id L sz e hb;exact ⟨L',g1,g2,g3,fun k C hne hC=>(g4 k C hne hC).imp (fun h=>h) fun ⟨e1,e2⟩=>⟨e1,fun hh v hv=>(e2 hh v hv).mono fun b _ _ hb hc=>⟨fun hq=>hb (live b hq),hc⟩⟩⟩
 ·obtain ⟨g1,g2⟩:=hmw.pres.cell b o v hl hc;exact ⟨fun hh=>g1 (live b hh),g2⟩
 ·obtain ⟨q1,q2⟩:=hr.tmps t x (hF t x hx);exact ⟨q1,Rep.down hm rfl live (h2 t x hx) q2⟩
theorem Q3 {m:XM} {id:Nat} {b:Blk} (h:lk (er m) id=some b):∃ x,lkX m id=some x∧b=x.er:=by
 rw [zF,Option.map_eq_some_iff] at h;obtain ⟨x,h1,h2⟩:=h;exact ⟨x,h1,h2.symm⟩
theorem za1 {m m2:XM} (h:∀ id b,lkX m2 id=some b→lkX m id=some b):∀ id b,lk (er m2) id=some b→lk (er m) id=some b:=fun id b hb=>by
 obtain ⟨x,h1,rfl⟩:=Q3 hb;rw [zF,h id x h1]; rfl
theorem zB.sub {k0:List Nat} {A F2:Fr} {m m2:XM} (hF:∀ t x,lkX F2 t=some x→lkX A t=some x) (hm:∀ id b,lkX m2 id=some b→lkX m id=some b)
  (hk:∀ id,k0.contains id=true→(lkX m2 id).isSome=true) (h1:inMX m2=true) (h2:∀ p∈F2,inPX m2 p.2=true):zB k0 A m F2 m2:=fun W0 F K hA hK=>by
 refine zO.sub (fun t x hx=>by rw [← hA t,← jN]; exact hF t x (by rw [jN]; exact hx)) (za1 hm) (fun id h=>?_) (Z1 h1) (fun t x hx=>?_) hK
 ·obtain ⟨x,hx⟩:=Option.isSome_iff_exists.1 (hk id h);rw [zF,hx]; rfl
 ·rw [← Zk];have key:∀ (G:Fr) (t:Nat) (x:PV),lk G t=some x→(t,x)∈G:=by
   intro G t x;induction G with
   | nil=>simp [lk]
   | cons p G ih =>
    obtain ⟨k,u⟩:=p;rw [zo];split
    ·rename_i h; subst h; intro hh; cases hh; simp
    ·intro hh; exact List.mem_cons_of_mem _ (ih hh)
  exact h2 _ (key F2 t x hx)
def rle1:CV→Bool
 | .sc _=>true
 | .row []=>true
 | _=>false
def rleA:CV→Bool
 | .agg cs=>cs.all rle1
 | x=>rle1 x
def rleP:CV→Bool
 | .tup cs=>cs.all rleA
 | x=>rleA x
theorem Qp {w:World} {S S':Nat→Prop} {x:CV} {v:Value} (hx:rle1 x=true) (h:RepC w S x v):RepC w S' x v:=by
 cases h with
 | sc hv=>exact .sc hv
 | nil hc=>exact .nil hc
 | @row L b off cap sz vs hne =>
  cases L with
  | nil=>exact absurd rfl hne
  | cons=>simp [rle1] at hx
 | _=>simp [rle1] at hx
theorem Ji {w:World} {S S':Nat→Prop} {x:CV} {v:Value} (hx:rleA x=true) (h:RepC w S x v):RepC w S' x v:=by
 cases x with
 | agg cs =>
  cases h with
  | agg hl h1 h2=>exact .agg hl (fun i x v hx' hv=>Qp (List.all_eq_true.1 hx x (List.mem_of_getElem? hx')) (h1 i x v hx' hv)) h2
 | sc v=>exact Qp (x := .sc v) hx h
 | row L=>exact Qp (x := .row L) hx h
 | tup cs=>simp [rleA,rle1] at hx
theorem ziA {w:World} {S S':Nat→Prop} {x:CV} {v:Value} (hx:rleP x=true) (h:RepC w S x v):RepC w S' x v:=by
 cases x with
 | tup cs =>
  cases h with
  | tup hl h1=>exact .tup hl fun i x v hx' hv=>Ji (List.all_eq_true.1 hx x (List.mem_of_getElem? hx')) (h1 i x v hx' hv)
 | sc v=>exact Ji (x := .sc v) hx h
 | row L=>exact Ji (x := .row L) hx h
 | agg cs=>exact Ji (x := .agg cs) hx h
def rl1O:PV→Bool
 | .c x=>rle1 x
 | .nil | .np | .ptr .. | .own ..=>true
 | _=>false
def rlAO:PV→Bool
 | .agg cs=>cs.all rl1O
 | .c x=>rleA x
 | x=>rl1O x
def rlPO:PV→Bool
 | .tup cs=>cs.all rlAO
 | .c x=>rleP x
 | x=>rlAO x
def rlBO:Blk→Bool
 | .box cs=>cs.all rl1O
 | .row L _ _=>(L.flatMap PV.cells).all rl1O
section
variable {κ' κ'':Kap} {m' m'':Mem} {w:World}
theorem zb.fresh (hlk:∀ id b,lk m' id=some b→lk m'' id=some b∧κ'' id=κ' id) (hg:∀ id L sz e,lk m' id=some (.row L sz e)→∀ C,L≠zy sz C) {x:PV} {v:Value}
  (hx:rl1O x=true) (h:zb κ' m' w x v):zb κ'' m'' w x v:=by
 cases x with
 | c x =>
  cases x with
  | agg=>exact h.elim
  | tup=>exact h.elim
  | sc u=>cases h with | sc hv=>exact RepC.sc hv
  | row L=>exact Qp (x := .row L) hx h
 | nil=>exact h
 | np=>exact h
 | ptr id off =>
  obtain ⟨b,cs,h1,h2,h3⟩:=h;obtain ⟨g1,g2⟩:=hlk _ _ h1;exact ⟨b,cs,g1,g2.trans h2,h3⟩
 | own id n =>
  obtain ⟨hs,hn,L,sz,e,h1,h2,h3,_⟩:=h;obtain ⟨g1,g2⟩:=hlk _ _ h1;exact ⟨hs,hn,L,sz,e,g1,h2,fun hl=>by have:=h3 hl; unfold zQ at *; rw [g2]; exact this,fun _ C _ hC _=>absurd hC (hg _ _ _ _ h1 C)⟩
 | ep x off=>simp [rl1O] at hx
 | eo id n i off=>simp [rl1O] at hx
 | sl id n i off=>simp [rl1O] at hx
 | fn g ids=>simp [rl1O] at hx
 | agg=>exact h.elim
 | tup=>exact h.elim
theorem ZG {f:PV→Bool} {R R':PV→Value→Prop}:∀ {cs:List PV} {vs:List Value},(∀ x v,f x=true→R x v→R' x v)→cs.all f=true→za R cs vs→za R' cs vs
 | [],[],_,_,_=>trivial
 | x::cs,v::vs,hi,hf,h=>by
  simp only [List.all_cons,Bool.and_eq_true] at hf;exact ⟨hi _ _ hf.1 h.1,ZG hi hf.2 h.2⟩
 | [],_::_,_,_,h=>h.elim
 | _::_,[],_,_,h=>h.elim
theorem ze.fresh (hlk:∀ id b,lk m' id=some b→lk m'' id=some b∧κ'' id=κ' id) (hg:∀ id L sz e,lk m' id=some (.row L sz e)→∀ C,L≠zy sz C) {x:PV} {v:Value}
  (hx:rlAO x=true) (h:ze κ' m' w x v):ze κ'' m'' w x v:=by
 cases x with
 | agg cs =>
  obtain ⟨vs,h1,h2⟩:=h;exact ⟨vs,h1,ZG (fun _ _ hx=>zb.fresh hlk hg hx) hx h2⟩
 | c x =>
  cases x with
  | agg cs=>exact Ji (x := .agg cs) hx h
  | sc u=>exact zb.fresh (x := .c (.sc u)) hlk hg hx h
  | row u=>exact zb.fresh (x := .c (.row u)) hlk hg hx h
  | tup u=>exact h.elim
 | nil=>exact h
 | np=>exact h
 | ptr a b=>exact zb.fresh (w:=w) (x := .ptr a b) hlk hg hx h
 | own a b=>exact zb.fresh (w:=w) (x := .own a b) hlk hg hx h
 | ep a b=>simp [rlAO,rl1O] at hx
 | eo a b c d=>simp [rlAO,rl1O] at hx
 | sl a b c d=>simp [rlAO,rl1O] at hx
 | fn a b=>simp [rlAO,rl1O] at hx
 | tup a=>exact h.elim
theorem Rep.fresh (hlk:∀ id b,lk m' id=some b→lk m'' id=some b∧κ'' id=κ' id) (hg:∀ id L sz e,lk m' id=some (.row L sz e)→∀ C,L≠zy sz C) {x:PV} {v:Value}
  (hx:rlPO x=true) (h:Rep κ' m' w x v):Rep κ'' m'' w x v:=by
 cases x with
 | tup cs =>
  obtain ⟨vs,h1,h2⟩:=h;exact ⟨vs,h1,ZG (fun _ _ hx=>ze.fresh hlk hg hx) hx h2⟩
 | c x =>
  cases x with
  | tup cs=>exact ziA (x := .tup cs) hx h
  | sc u=>exact ze.fresh (x := .c (.sc u)) hlk hg hx h
  | row u=>exact ze.fresh (x := .c (.row u)) hlk hg hx h
  | agg u=>exact ze.fresh (x := .c (.agg u)) hlk hg hx h
 | nil=>exact h
 | np=>exact h
 | ptr a b=>exact ze.fresh (w:=w) (x := .ptr a b) hlk hg hx h
 | own a b=>exact ze.fresh (w:=w) (x := .own a b) hlk hg hx h
 | ep a b=>simp [rlPO,rlAO,rl1O] at hx
 | eo a b c d=>simp [rlPO,rlAO,rl1O] at hx
 | sl a b c d=>simp [rlPO,rlAO,rl1O] at hx
 | fn a b=>simp [rlPO,rlAO,rl1O] at hx
 | agg a=>exact ze.fresh (x := .agg a) hlk hg hx h
theorem ji.fresh (hlk:∀ id b,lk m' id=some b→lk m'' id=some b∧κ'' id=κ' id) (hg:∀ id L sz e,lk m' id=some (.row L sz e)→∀ C,L≠zy sz C) {id:Nat} {b:Blk}
  (hid:lk m' id=some b) (hx:rlBO b=true) (h:ji κ' m' w id b):ji κ'' m'' w id b:=by
 have hk:=(hlk id b hid).2;cases b with
 | box cs =>
  obtain ⟨g,vs,e,h1,h2,h3⟩:=h;exact ⟨g,vs,e,hk.trans h1,h2,ZG (fun _ _ hx=>zb.fresh hlk hg hx) hx h3⟩
 | row L sz e =>
  obtain ⟨h0,h00,h⟩:=h;refine ⟨h0,h00,?_⟩;rcases h with ⟨h1,h2⟩ | ⟨g,vs,rest,h1,h2,h3⟩
  ·exact .inl ⟨hk.trans h1,h2⟩
  ·exact .inr ⟨g,vs,rest,hk.trans h1,h2,ZG (fun _ _ hx=>zb.fresh hlk hg hx) hx h3⟩
end
theorem zh0 {κ:Kap} {m:Mem} {w:World} (hm:MemOk κ m w) {id:Nat} {L:List PV} {sz:Nat} {e:TypeId} (hb:lk m id=some (.row L sz e)) (hr:rlBO (.row L sz e)=true) (C:List CV):L≠zy sz C:=by
 rintro rfl;have h0:0 < sz:=(hm.blk id _ hb).2.1;have hd:qE sz∈zy sz C:=by
  unfold zy yL;exact List.mem_append_right _ (List.mem_replicate.2 ⟨by omega,rfl⟩)
 have hc:PV.tup []∈(zy sz C).flatMap PV.cells:=by
  refine List.mem_flatMap.2 ⟨_,hd,?_⟩;cases sz with
  | zero=>omega
  | succ n=>exact List.mem_replicate.2 ⟨by omega,rfl⟩
 have:=List.all_eq_true.1 hr _ hc;simp [rl1O] at this
theorem zc8 {κ:Kap} {m:Mem} {w:World} {S:Nat→Prop} (hm:MemOk κ m w) (hS:∀ b,S b→zd κ m b) (hSo:∀ id b,(lk m id).isSome=true→κ id=some b→¬ S b):∀ {cs:List PV} {l:List CV} {vs:List Value},
  jh m cs=some l→za (Rep κ m w) cs vs→za (RepC w S) l vs
 | [],l,vs,h,hv=>by
  simp only [jh] at h; cases h;cases vs with
  | nil=>trivial
  | cons=>exact hv.elim
 | x::L,C,vs,h,hv=>by
  simp only [jh] at h;split at h
  ·rename_i y k hy hk;cases h;cases vs with
   | nil=>exact hv.elim
   | cons v vs=>exact ⟨Qu hm hS hSo (fun _ _ h=>h) hy hv.1,zc8 hm hS hSo hk hv.2⟩
  ·cases h
theorem FunC.fresh {P:Program} {W0:World} {f:FuncId} {cs:List CV} {args:List PV} {m m2:Mem} {Φ:PV→Mem→Prop} (h:FunC P W0 f (cs.map .c) [] Φ)
  (hs:jh m args=some cs) (hm2:∀ id,lk m2 id=lk m id)
  (hΦ:∀ r m',Φ r m'→rlPO r=true∧(∀ id b,lk m' id=some b→rlBO b=true)∧∀ id,(lk m' id).isSome=true→lk m id=none) :
  FunC P W0 f args m (fun r m''=>∃ m',Φ r m'∧m''=m'++m2):=by
 intro κ w vs hB hm hr;have hmm:=hm.mem;have hno:∀ b,¬ zd (⟨fun _=>none,fun _=>False⟩:Kap) [] b:=by
  rintro b (h | ⟨id,h,_⟩)
  ·exact h
  ·simp [lk] at h
 have hargs:=zc8 (S:=fun _=>False) hmm (fun _ h=>h.elim) (fun _ _ _ _ h=>h) hs hr;have hst:MW W0 w ⟨fun _=>none,fun _=>False⟩ [] ⟨fun _=>none,fun _=>False⟩ [] w :=
  MW.start ⟨fun id b hb=>by simp [lk] at hb,fun i j b hi=>by simp [lk] at hi,fun b hb=>hb.elim,fun id b hi=>by simp [lk] at hi⟩ fun b hb=>(hno b hb).elim
 refine (h _ w vs hB hst ?_).mono ?_
 ·refine za.map_left (f:=PV.c) (hargs.imp fun c v hc=>RepC.rep (hc.mono fun b _ _ hb hcell=>⟨hno b,hcell⟩))
 rintro e w' ⟨v,r,m',κ',rfl,hph,hmw,hrep⟩;obtain ⟨r1,r2,r3⟩:=hΦ r m' hph;have hsz:=hmw.ext.size;have hblk:∀ b,b < w.heap.size→w'.heap[b]? = w.heap[b]? := fun b hb=>hmw.ext.block b hb fun ⟨id,h,_⟩=>by simp [lk] at h
 have hnew:∀ id b,(lk m' id).isSome=true→κ' id=some b→w.heap.size≤b:=fun id b h1 h2=>(hmw.new id b h1 h2).resolve_left fun ⟨i,h,_⟩=>by simp [lk] at h
 have hg:∀ id L sz e,lk m' id=some (.row L sz e)→∀ C,L≠zy sz C:=fun id L sz e hb C=>zh0 hmw.mem hb (r2 id _ hb) C
 obtain ⟨κ2,hκ⟩:∃ κ2:Kap,κ2=⟨fun id=>if (lk m' id).isSome then κ' id else κ id,κ.S⟩:=⟨_,rfl⟩;have hS2:κ2.S=κ.S:=by rw [hκ]
 have L1:∀ id b,lk m' id=some b→lk (m'++m2) id=some b∧κ2 id=κ' id:=fun id b hb=>⟨by rw [jB,hb],by rw [hκ]; simp [hb]⟩
 have L0:∀ id,lk m' id=none→lk (m'++m2) id=lk m id∧κ2 id=κ id:=fun id hb=>⟨by rw [jB,hb]; exact hm2 id,by rw [hκ]; simp [hb]⟩
 have Ln:∀ id b,lk m id=some b→lk m' id=none:=fun id b hb=>by
  cases hl:lk m' id with
  | none=>rfl
  | some x=>rw [r3 id (by rw [hl]; rfl)] at hb; cases hb
 have Lm:∀ id b,lk m id=some b→lk (m'++m2) id=some b∧κ2 id=κ id:=fun id b hb=>by
  obtain ⟨g1,g2⟩:=L0 id (Ln id b hb);exact ⟨g1.trans hb,g2⟩
 have hown:∀ b,Own κ2 (m'++m2) b→Own κ m b∨w.heap.size≤b:=by
  rintro b ⟨id,h1,h2⟩;cases hl:lk m' id with
  | some x=>rw [(L1 id x hl).2] at h2; exact .inr (hnew id b (by rw [hl]; rfl) h2)
  | none =>
   obtain ⟨g1,g2⟩:=L0 id hl;rw [g1] at h1; rw [g2] at h2;exact .inl ⟨id,h1,h2⟩
 have hpres:Pres κ m w κ2 (m'++m2) w':=by
  refine ⟨fun id cs hb=>⟨⟨cs,(Lm id _ hb).1⟩,(Lm id _ hb).2⟩,fun id L sz e hb=>?_,fun b o v hl hc=>?_⟩
  ·obtain ⟨g1,g2⟩:=Lm id _ hb;exact ⟨L,g1,Nat.le_refl _,fun _=>⟨g2,fun b arr e' hk ha=>⟨arr,by rw [hblk b (Array.getElem?_eq_some_iff.1 ha).1]; exact ha,rfl⟩⟩,fun k _ _ _ => .inl ⟨rfl,g2.symm.trans k⟩⟩
  ·have hb:=yG hc;refine ⟨fun hh=>?_,by rw [yF (hblk b hb)]; exact hc⟩;rcases hh with hh | hh
   ·exact hl (.inl (by rw [← hS2]; exact hh))
   ·rcases hown b hh with h | h
    ·exact hl (.inr h)
    ·omega
 refine ⟨v,r,m'++m2,κ2,rfl,⟨m',hph,rfl⟩,⟨⟨fun id b hb=>?_,fun i j b hi hj h1 h2=>?_,fun b hb=>Nat.lt_of_lt_of_le (hmm.sb b (by rw [← hS2]; exact hb)) hsz,fun i b hi hb=>?_⟩,fun b hb=>?_,hpres,⟨hmw.ext.os,hmw.ext.tape,hmw.ext.output,hsz,fun b hb _=>hblk b hb⟩,fun i b hi hb=>?_,hS2⟩,Rep.fresh L1 hg r1 hrep⟩
 ·cases hl:lk m' id with
  | some x =>
   rw [(L1 id x hl).1] at hb;rw [← Option.some.inj hb];exact (hmw.mem.blk id x hl).fresh L1 hg hl (r2 id x hl)
  | none =>
   obtain ⟨g1,g2⟩:=L0 id hl;rw [g1] at hb;exact (hmm.blk id b hb).pres hpres g2 fun g hk=>hblk g (hmm.live_lt (.inr ⟨id,by rw [hb]; rfl,hk⟩))
 ·have old:∀ i b,(lk m i).isSome=true→κ i=some b→b < w.heap.size:=fun i b h1 h2=>hmm.live_lt (.inr ⟨i,h1,h2⟩)
  cases hl:lk m' i with
  | some x =>
   rw [(L1 i x hl).2] at h1;cases hl':lk m' j with
   | some y=>rw [(L1 j y hl').2] at h2; exact hmw.mem.inj i j b (by rw [hl]; rfl) (by rw [hl']; rfl) h1 h2
   | none =>
    obtain ⟨g1,g2⟩:=L0 j hl';rw [g1] at hj; rw [g2] at h2;have:=old j b hj h2;have:=hnew i b (by rw [hl]; rfl) h1;omega
  | none =>
   obtain ⟨g1,g2⟩:=L0 i hl;rw [g1] at hi; rw [g2] at h1;cases hl':lk m' j with
   | some y =>
    rw [(L1 j y hl').2] at h2;have:=old i b hi h1;have:=hnew j b (by rw [hl']; rfl) h2;omega
   | none =>
    obtain ⟨g3,g4⟩:=L0 j hl';rw [g3] at hj; rw [g4] at h2;exact hmm.inj i j b hi hj h1 h2
 ·rw [hS2];cases hl:lk m' i with
  | some x =>
   rw [(L1 i x hl).2] at hb;intro hs;have:=hmm.sb b hs;have:=hnew i b (by rw [hl]; rfl) hb;omega
  | none =>
   obtain ⟨g1,g2⟩:=L0 i hl;rw [g1] at hi; rw [g2] at hb;exact hmm.sd i b hi hb
 ·rcases hb with hb | hb
  ·exact hm.low b (.inl (by rw [← hS2]; exact hb))
  ·rcases hown b hb with h | h
   ·exact hm.low b (.inr h)
   ·exact Nat.le_trans hB.size h
 ·cases hl:lk m' i with
  | some x=>rw [(L1 i x hl).2] at hb; exact .inr (hnew i b (by rw [hl]; rfl) hb)
  | none =>
   obtain ⟨g1,g2⟩:=L0 i hl;rw [g1] at hi; rw [g2] at hb;exact .inl ⟨i,hi,hb⟩
def ddX:XM→XM
 | []=>[]
 | (k,x)::l=>(k,x)::(ddX l).filter fun p=>!Nat.beq p.1 k
theorem Yl {k id:Nat}:∀ {l:XM},lkX (l.filter fun p=>!Nat.beq p.1 k) id=if id=k then none else lkX l id
 | []=>by simp [lkX]
 | (j,x)::l=>by
  rw [List.filter_cons];cases h:Nat.beq j k with
  | true =>
   have e:=Nat.eq_of_beq_eq_true h;subst e;simp only [h,Bool.not_true];rw [if_neg (by simp),Yl,lkX];by_cases hi:id=j
   ·rw [if_pos hi,if_pos hi]
   ·rw [if_neg hi,if_neg hi];cases hb:Nat.beq id j with
    | true=>exact absurd (Nat.eq_of_beq_eq_true hb) hi
    | false=>rfl
  | false =>
   have e:=Nat.ne_of_beq_eq_false h;simp only [h,Bool.not_false];rw [if_pos trivial,lkX,lkX];cases hb:Nat.beq id j with
   | true =>
    have:=Nat.eq_of_beq_eq_true hb;subst this;rw [if_neg e]
   | false=>exact Yl
theorem Yk:∀ {m:XM} {id:Nat},lkX (ddX m) id=lkX m id
 | [],_=>rfl
 | (k,x)::l,id=>by
  rw [ddX,lkX,lkX];cases hb:Nat.beq id k with
  | true=>rfl
  | false =>
   simp only;rw [Yl,if_neg (Nat.ne_of_beq_eq_false hb)];exact Yk
theorem zb5:∀ {m:XM} {p:Nat × XB},p∈ddX m→lkX m p.1=some p.2
 | [],p,h=>by cases h
 | (k,x)::l,p,h=>by
  rw [ddX,List.mem_cons] at h;rcases h with rfl | h
  ·simp [lkX]
  ·obtain ⟨h1,h2⟩:=List.mem_filter.1 h;have h2:Nat.beq p.1 k=false:=by
    cases hb:Nat.beq p.1 k with
    | false=>rfl
    | true=>rw [hb] at h2; cases h2
   rw [lkX,h2];exact zb5 h1
theorem zdF:∀ {m:XM} {id:Nat} {b:XB},lkX m id=some b→updX m id b=m
 | [],_,_,h=>by cases h
 | (k,x)::l,id,b,h=>by
  rw [lkX] at h;rw [updX];cases hb:Nat.beq id k with
  | true =>
   have e:=Nat.eq_of_beq_eq_true hb;subst e;rw [hb] at h;cases h;simp
  | false =>
   rw [hb] at h;have:Nat.beq k id=false:=by
    cases hk:Nat.beq k id with
    | false=>rfl
    | true=>exact absurd (Nat.eq_of_beq_eq_true hk).symm (Nat.ne_of_beq_eq_false hb)
   rw [this];simp only;rw [zdF h]
theorem zb9 {m:XM}:∀ {l:XM},(∀ p∈l,lkX m p.1=some p.2)→z5 m l=m
 | [],_=>rfl
 | (id,b)::l,h=>by
  have h0:=h (id,b) (by simp);rw [z5,h0];simp only;rw [zb9 fun p hp=>h p (by simp [hp])];exact zdF h0
theorem zb8 {m l:XM} (hl:z5 m l=m):∀ {n:XM},(∀ p∈n,lkX m p.1=none)→z5 m (apX n l)=apX n m
 | [],_=>hl
 | (id,b)::n,h=>by
  rw [apX,z5,h (id,b) (by simp)];simp only [apX];rw [zb8 hl fun p hp=>h p (by simp [hp])]
theorem Z3 {n m:XM} {id:Nat}:lkX (apX n m) id=match lkX n id with | some x=>some x | none=>lkX m id:=by
 induction n with
 | nil=>rfl
 | cons p n ih =>
  obtain ⟨k,x⟩:=p;rw [apX,lkX,lkX];cases Nat.beq id k with
  | true=>rfl
  | false=>exact ih
theorem qj:∀ {m:XM} {id:Nat} {b:XB},lkX m id=some b→(id,b)∈m
 | [],_,_,h=>by cases h
 | (k,x)::l,id,b,h=>by
  rw [lkX] at h;cases hb:Nat.beq id k with
  | true =>
   rw [hb] at h;cases h;rw [Nat.eq_of_beq_eq_true hb];simp
  | false=>rw [hb] at h; exact List.mem_cons_of_mem _ (qj h)
def rlXO:XB→Bool
 | .box cs=>cs.all rl1O
 | .row L _ _=>L.all fun x=>x.cells.all rle1
 | .rowP L _=>L.all fun x=>x.cells.all rl1O
 | .gone ..=>false
theorem ziF {b:XB} (h:rlXO b=true):rlBO b.er=true:=by
 cases b with
 | box cs=>exact h
 | row L sz e =>
  simp only [rlXO,List.all_eq_true] at h;simp only [XB.er,rlBO,List.all_eq_true];intro x hx;obtain ⟨y,hy,hx⟩:=List.mem_flatMap.1 hx;obtain ⟨z,hz,rfl⟩:=List.mem_map.1 hy;obtain ⟨u,hu,rfl⟩:=List.mem_map.1 hx;exact h z hz u hu
 | rowP L e =>
  simp only [rlXO,List.all_eq_true] at h;simp only [XB.er,rlBO,List.all_eq_true];intro x hx;obtain ⟨y,hy,hx⟩:=List.mem_flatMap.1 hx;exact h y hy x hx
 | gone=>cases h
def newR (m:XM):XM→Prop
 | []=>True
 | (id,b)::l=>(rlXO b=true∧lkX m id=none)∧newR m l
theorem YF {m:XM}:∀ {l:XM},newR m l→∀ p∈l,rlXO p.2=true∧lkX m p.1=none
 | [],_,p,hp=>by cases hp
 | (id,b)::l,h,p,hp=>by
  rcases List.mem_cons.1 hp with rfl | hp
  ·exact h.1
  ·exact YF h.2 p hp
theorem oF {P:Program} {W0:World} {f:FuncId} {vs:List PV} {m:XM} {K:PV→XM→Prop} {α:Type} {ok:α→Prop} {R:α→PV} {M:α→XM} {cs:List CV} (h:zu P W0 f (cs.map .c) [] ok R M) (hs:qz m vs fun l=>l=cs)
  (h1:inMX m=true) (h2:vs.all (inPX m)=true) (h0:∃ a,ok a)
  (k:∀ a,ok a→rlPO (R a)=true∧newR m (M a)∧K (R a) (apX (M a) m)):OpnX P W0 f vs m K:=by
 have hs:jh (er m) vs=some cs:=by
  obtain ⟨l,h1,rfl⟩:=Jo hs;exact h1
 have key:=FunC.fresh (m:=er m) (m2:=er (ddX m)) h hs (fun id=>by rw [zF,zF,Yk]) (fun r m' hr=>by
  obtain ⟨mx,rfl,a,ha,rfl,rfl⟩:=hr;obtain ⟨r1,r2,_⟩:=k a ha;have r2:=YF r2;refine ⟨r1,fun id b hb=>?_,fun id hi=>?_⟩
  ·obtain ⟨x,hx,rfl⟩:=Q3 hb;exact ziF (r2 _ (qj hx)).1
  ·obtain ⟨b,hb⟩:=Option.isSome_iff_exists.1 hi;obtain ⟨x,hx,rfl⟩:=Q3 hb;rw [zF,(r2 _ (qj hx)).2]; rfl)
 refine ⟨m,fun r mx=>∃ a,ok a∧r=R a∧mx=apX (M a) (ddX m),fun _ _ h=>h,Z1 h1,?_,?_,?_,?_⟩
 ·rw [← h2]; congr 1; funext x; exact Zk.symm
 ·intro κ w us hB hm hr;refine (key κ w us hB hm hr).mono ?_;rintro e w' ⟨v,r,m',κ',rfl,⟨m1,⟨mx,rfl,a,ha,rfl,rfl⟩,rfl⟩,h4,h5⟩;exact ⟨v,_,_,κ',rfl,⟨apX (M a) (ddX m),yD.symm,a,ha,rfl,rfl⟩,h4,h5⟩
 ·obtain ⟨a,ha⟩:=h0; exact ⟨_,_,a,ha,rfl,rfl⟩
 ·rintro r mx ⟨a,ha,rfl,rfl⟩;obtain ⟨r1,r2,r3⟩:=k a ha;have r2:=YF r2;refine ⟨fun id hi=>?_,?_⟩
  ·rw [Z3] at hi;cases hl:lkX (M a) id with
   | some x=>exact .inr (r2 _ (qj hl)).2
   | none=>rw [hl] at hi; simp only at hi; rw [Yk] at hi; exact .inl hi
  ·rw [zb8 (zb9 fun p hp=>zb5 hp) fun p hp=>(r2 p hp).2];exact r3
theorem rlRow {α:Type} {f:α→CV} {L:List α} {sz:Nat} {e:TypeId} (h:∀ a,(f a).cells.all rle1=true):rlXO (.row (L.map f) sz e)=true:=by
 simp only [rlXO,List.all_eq_true];intro x hx;obtain ⟨a,_,rfl⟩:=List.mem_map.1 hx;exact List.all_eq_true.1 (h a)
theorem zu.fn {P:Program} {W0:World} {f:FuncId} {cs:List CV} {α:Type} {ok:α→Prop} {R:α→PV} {M:α→XM} {r:CV} (h:zu P W0 f (cs.map .c) [] ok R M) (hr:∀ a,ok a→ZA (er (M a)) (R a)=some r):Fn P W0 f cs (.c r) []:=by
 intro κ w vs hB hm hv;refine (h κ w vs hB hm hv).mono ?_;rintro e w' ⟨v,x,m',κ',rfl,⟨mx,rfl,a,ha,rfl,rfl⟩,hmw,hrep⟩;have hlive:∀ b,zd κ' [] b→κ'.S b:=by
  rintro b (hb | ⟨id,hb,_⟩)
  ·exact hb
  ·simp [lk] at hb
 refine ⟨v,.c r,[],κ',rfl,⟨rfl,rfl⟩,⟨⟨fun id b hb=>by simp [lk] at hb,fun i j b hi=>by simp [lk] at hi,hmw.mem.sb,fun id b hb=>by simp [lk] at hb⟩,fun b hb=>hmw.low b (.inl (hlive b hb)),
  ⟨fun id cs hb=>(by simp [er,lk] at hb),fun id L sz e hb=>(by simp [er,lk] at hb),fun b o u hl hc=>⟨fun hh=>(hmw.pres.cell b o u hl hc).1 (.inl (hlive b hh)),(hmw.pres.cell b o u hl hc).2⟩⟩,hmw.ext,fun id b hb=>by simp [lk] at hb,hmw.hS⟩,RepC.rep ?_⟩
 exact zc7 hmw.mem (fun b hb => .inl (hlive b hb)) (fun id b hi hb hs=>hmw.mem.sd id b hi hb (hlive b hs)) (hr a ha) hrep
theorem zc5 {m:XM}:∀ {cs:List PV} {l:List CV} {K:List CV→Prop},za (fun x y=>∀ K:CV→Prop,K y→Jn m x K) cs l→K l→Zz m cs K
 | [],[],_,_,h=>h
 | _::_,_::_,_,h,k=>h.1 _ (zc5 h.2 k)
 | [],_::_,_,h,_=>h.elim
 | _::_,[],_,h,_=>h.elim
def zI (c sz:Nat) (e:TypeId):Nat→List (List CV)→XM
 | _,[]=>[]
 | k,C::L=>(16 * k+c,.row C sz e)::zI c sz e (k+1) L
def zt (c:Nat):Nat→List (List CV)→List PV
 | _,[]=>[]
 | k,C::L => .own (16 * k+c) C.length::zt c (k+1) L
theorem qq {c:Nat}:∀ {k:Nat} {L:List (List CV)},(zt c k L).length=L.length
 | _,[]=>rfl
 | k,C::L=>by simp [zt,qq (k:=k+1) (L:=L)]
theorem Q4 {c sz:Nat} {e:TypeId}:∀ {k:Nat} {L:List (List CV)} {id:Nat},(id < 16 * k+c∨id % 16≠c % 16)→lkX (zI c sz e k L) id=none
 | _,[],_,_=>rfl
 | k,C::L,id,h=>by
  have:Nat.beq id (16 * k+c)=false:=by
   cases hb:Nat.beq id (16 * k+c) with
   | false=>rfl
   | true=>have:=Nat.eq_of_beq_eq_true hb; omega
  rw [zI,lkX,this];exact Q4 (by omega)
theorem qG {c sz:Nat} {e:TypeId}:∀ {k:Nat} {L:List (List CV)} {i:Nat} (h:i < L.length),lkX (zI c sz e k L) (16 * (k+i)+c)=some (.row L[i] sz e)
 | k,[],i,h=>by simp at h
 | k,C::L,0,h=>by rw [zI,lkX,Nat.add_zero,Nat.beq_refl]; rfl
 | k,C::L,i+1,h=>by
  have:Nat.beq (16 * (k+(i+1))+c) (16 * k+c)=false:=by
   cases hb:Nat.beq (16 * (k+(i+1))+c) (16 * k+c) with
   | false=>rfl
   | true=>have:=Nat.eq_of_beq_eq_true hb; omega
  rw [zI,lkX,this];have:=qG (c:=c) (sz:=sz) (e:=e) (k:=k+1) (L:=L) (i:=i) (by simpa using h);rw [show k+(i+1)=k+1+i by omega];exact this
theorem zcy {c:Nat}:∀ {k:Nat} {L:List (List CV)} {i:Nat} (h:i < L.length),(zt c k L)[i]? = some (.own (16 * (k+i)+c) L[i].length)
 | k,[],i,h=>by simp at h
 | k,C::L,0,h=>by simp [zt]
 | k,C::L,i+1,h=>by
  have:=zcy (c:=c) (k:=k+1) (L:=L) (i:=i) (by simpa using h);rw [zt,List.getElem?_cons_succ,this,show k+(i+1)=k+1+i by omega];rfl
theorem YV {c:Nat}:∀ {k:Nat} {L:List (List CV)} {C:List CV},zt c k (L++[C])=zt c k L++[.own (16 * (k+L.length)+c) C.length]
 | k,[],C=>by simp [zt]
 | k,D::L,C=>by
  rw [List.cons_append,zt,YV (k:=k+1) (L:=L),zt,List.cons_append,List.length_cons,show k+1+L.length=k+(L.length+1) by omega]
theorem yZ {c sz:Nat} {e:TypeId} {m:XM} {K:List CV→Prop}:∀ {k:Nat} {L:List (List CV)},(∀ i (h:i < L.length),lkX m (16 * (k+i)+c)=some (.row L[i] sz e))→K (L.map .row)→Zz m (zt c k L) K:=by
 have key:∀ {L:List (List CV)} {k:Nat},(∀ i (h:i < L.length),lkX m (16 * (k+i)+c)=some (.row L[i] sz e))→za (fun x y=>∀ K:CV→Prop,K y→Jn m x K) (zt c k L) (L.map .row):=by
  intro L;induction L with
  | nil=>intro k _; trivial
  | cons C L ih =>
   intro k h;refine ⟨fun K hK=>?_,ih fun i hi=>?_⟩
   ·have:=h 0 (by simp);simp only [Nat.add_zero,List.getElem_cons_zero] at this;unfold Jn;simp only [this];exact ⟨rfl,hK⟩
   ·have:=h (i+1) (by simpa using hi);rw [show k+(i+1)=k+1+i by omega] at this
    simpa using this
 intro k L h hk;exact zc5 (key h) hk
theorem fT {b:Bool} {A:Prop} (h:b=true) (k:A):(match (generalizing:=false) b with | false=>False | true=>A):=by subst h; exact k
theorem frX1 {m:XM} {id:Nat} {b:XB} (h:lkX m id=none):Zh m [(id,b)]=true:=by simp [Zh,h]
theorem zl {α:Type} {f:α→Bool} {p:α} {l:List α} (h1:f p=true) (h2:l.all f=true):(p::l).all f=true:=by simp [h1,h2]
theorem zf {α:Type} {k id:Nat} {x:α} {l:List (Nat × α)} (h:id≠k):lkX ((k,x)::l) id=lkX l id:=by
 rw [lkX];cases hb:Nat.beq id k with
 | true=>exact absurd (Nat.eq_of_beq_eq_true hb) h
 | false=>rfl
theorem q8 {m:XM} {c:Nat}:∀ {k:Nat} {L:List (List CV)},(∀ i < L.length,(lkX m (16 * (k+i)+c)).isSome=true)→((zt c k L).all fun x=>x.cells.all (in1X m))=true
 | _,[],_=>rfl
 | k,C::L,h=>by
  refine zl ?_ (q8 fun i hi=>?_)
  ·have:=h 0 (by simp);simp only [Nat.add_zero] at this;simp [PV.cells,in1X,this]
  ·have:=h (i+1) (by simpa using hi);rw [show k+(i+1)=k+1+i by omega] at this;exact this
theorem qT {m:XM} {c sz:Nat} {e:TypeId}:∀ {k:Nat} {L:List (List CV)},((zI c sz e k L).all fun p=>inBX m p.2)=true
 | _,[]=>rfl
 | k,C::L=>zl rfl (qT (L:=L))
theorem Qj {s:Nat→Nat} {c:Nat}:∀ {k:Nat} {L:List (List CV)},(∀ i < L.length,s (16 * (k+i)+c)=16 * (k+i)+c)→(zt c k L).map (renA s)=zt c k L
 | _,[],_=>rfl
 | k,C::L,h=>by
  have h0:=h 0 (by simp);simp only [Nat.add_zero] at h0;rw [zt,List.map_cons,Qj (fun i hi=>by
   have:=h (i+1) (by simpa using hi);rw [show k+(i+1)=k+1+i by omega] at this;exact this)]
  simp only [renA,ren1,h0]
theorem rnP {s:Nat→Nat} {i o:Nat} (h:s i=i):renP s (.ptr i o) = .ptr i o:=by simp [renP,renA,ren1,h]
theorem rnO {s:Nat→Nat} {i n:Nat} (h:s i=i):renP s (.own i n) = .own i n:=by simp [renP,renA,ren1,h]
def frR (s:Nat→Nat) (A:Fr):Fr→Prop
 | []=>True
 | (t,v)::l=>(∃ u,lkX A t=some u∧renP s u=v)∧frR s A l
def mmR (s:Nat→Nat) (m:XM):XM→Prop
 | []=>True
 | (id,x)::l=>(∃ y,lkX m (s id)=some y∧qK s y=x)∧mmR s m l
theorem J6 {s:Nat→Nat} {m:XM} {i:Nat} {y:XB} (h:s i=i) (h2:lkX m i=some y):lkX m (s i)=some y:=by rw [h]; exact h2
theorem zby {s:Nat→Nat} {A:Fr}:∀ {l:Fr},frR s A l→∀ p∈l,∃ u,lkX A p.1=some u∧renP s u=p.2
 | [],_,p,hp=>by cases hp
 | (t,v)::l,h,p,hp=>by
  rcases List.mem_cons.1 hp with rfl | hp
  ·exact h.1
  ·exact zby h.2 p hp
theorem zcf {s:Nat→Nat} {m:XM}:∀ {l:XM},mmR s m l→∀ p∈l,∃ y,lkX m (s p.1)=some y∧qK s y=p.2
 | [],_,p,hp=>by cases hp
 | (t,v)::l,h,p,hp=>by
  rcases List.mem_cons.1 hp with rfl | hp
  ·exact h.1
  ·exact zcf h.2 p hp
theorem Zs {s:Nat→Nat} {m:XM} {c sz:Nat} {e:TypeId}:∀ {k:Nat} {L:List (List CV)},(∀ i (h:i < L.length),lkX m (s (16 * (k+i)+c))=some (.row L[i] sz e))→mmR s m (zI c sz e k L)
 | _,[],_=>trivial
 | k,C::L,h=>⟨⟨_,by have:=h 0 (by simp); simpa using this,rfl⟩,Zs fun i hi=>by
   have:=h (i+1) (by simpa using hi);rw [show k+(i+1)=k+1+i by omega] at this
   simpa using this⟩
theorem Ym:∀ {m:Fr} {id:Nat} {b:PV},lkX m id=some b→(id,b)∈m
 | [],_,_,h=>by cases h
 | (k,x)::l,id,b,h=>by
  rw [lkX] at h;cases hb:Nat.beq id k with
  | true =>
   rw [hb] at h;cases h;rw [Nat.eq_of_beq_eq_true hb];simp
  | false=>rw [hb] at h; exact List.mem_cons_of_mem _ (Ym h)
theorem zbW {s:Nat→Nat} (hs:∀ i,s (s i)=i):∀ {m:XM} {id:Nat},lkX (renX s m) id=(lkX m (s id)).map (qK s)
 | [],_=>rfl
 | (k,x)::l,id=>by
  rw [renX,lkX,lkX];have:Nat.beq id (s k)=Nat.beq (s id) k:=by
   cases h1:Nat.beq id (s k) with
   | true =>
    have:=Nat.eq_of_beq_eq_true h1;subst this;rw [hs,Nat.beq_refl]
   | false =>
    cases h2:Nat.beq (s id) k with
    | false=>rfl
    | true =>
     have:=Nat.eq_of_beq_eq_true h2;subst this;rw [hs,Nat.beq_refl] at h1;cases h1
  rw [this];cases Nat.beq (s id) k with
  | true=>rfl
  | false=>exact zbW hs
theorem zhJ {f:PV→PV} {A:Fr} {t:Nat}:lkX (mapL f A) t=(lkX A t).map f:=by rw [jN,jN,qY]
theorem zB.rn {k0:List Nat} {A F2:Fr} {m m2:XM} (a b:Nat) (ha:k0.contains a=false) (hb:k0.contains b=false) (hF:frR (sw a b) A F2) (hm:mmR (sw a b) m m2)
  (hk:∀ id,k0.contains id=true→(lkX m2 id).isSome=true) (h1:inMX m2=true) (h2:(F2.all fun p=>inPX m2 p.2)=true):zB k0 A m F2 m2 :=
 zB.ren (z:=some 3) a b ha hb (zB.sub (fun t x hx=>by
  obtain ⟨u,g1,g2⟩:=zby hF _ (Ym hx);rw [zhJ,g1];simp only at g2;simp [g2]) (fun id x hx=>by
  obtain ⟨y,g1,g2⟩:=zcf hm _ (qj hx);rw [zbW (y0 a b),g1];simp [g2]) hk h1 (List.all_eq_true.1 h2))
theorem Yw:∀ {m:XM} {p:Nat × XB},p∈m→(lkX m p.1).isSome=true
 | [],_,h=>by cases h
 | (k,x)::l,p,h=>by
  rw [lkX];cases hb:Nat.beq p.1 k with
  | true=>rfl
  | false =>
   rcases List.mem_cons.1 h with rfl | h
   ·simp at hb
   ·exact Yw h
theorem QV {tn:List Nat} {m:XM}:∀ {l:XM},(∀ p∈l,hiN tn p.1=false∨(lkX m p.1).isSome=true)→domB tn m l=true
 | [],_=>rfl
 | (k,x)::l,h=>by
  have h0:=h (k,x) (by simp);have hl:=QV (tn:=tn) (m:=m) (l:=l) fun p hp=>h p (by simp [hp])
  unfold domB;rcases h0 with h0 | h0
  ·simp only at h0;rw [h0];exact hl
  ·obtain ⟨y,hy⟩:=Option.isSome_iff_exists.1 h0;cases hiN tn k with
   | true =>
    simp only at hy ⊢;rw [hy];exact hl
   | false=>exact hl
theorem zaT {tn:List Nat} {m:XM} {id:Nat} {b:XB} (h:hiN tn id=false):domB tn m ((id,b)::m)=true:=QV fun p hp=>by
 rcases List.mem_cons.1 hp with rfl | hp
 ·exact .inl h
 ·exact .inr (Yw hp)
theorem Yo {tn:List Nat} {m m':XM} {A:Prop} (h1:domB tn m m'=true) (h2:eqK tn m' m A):loWX true tn m m' A:=by
 unfold loWX;simp only [h1];exact h2
def frS (A:Fr):Fr→Prop
 | []=>True
 | (t,v)::l=>lkX A t=some v∧frS A l
def mmS (m:XM):XM→Prop
 | []=>True
 | (id,x)::l=>lkX m id=some x∧mmS m l
theorem zbz {A:Fr}:∀ {l:Fr},frS A l→∀ p∈l,lkX A p.1=some p.2
 | [],_,p,hp=>by cases hp
 | (t,v)::l,h,p,hp=>by
  rcases List.mem_cons.1 hp with rfl | hp
  ·exact h.1
  ·exact zbz h.2 p hp
theorem Zt {m:XM}:∀ {l:XM},mmS m l→∀ p∈l,lkX m p.1=some p.2
 | [],_,p,hp=>by cases hp
 | (t,v)::l,h,p,hp=>by
  rcases List.mem_cons.1 hp with rfl | hp
  ·exact h.1
  ·exact Zt h.2 p hp
theorem yo {m:XM} {c sz:Nat} {e:TypeId}:∀ {k:Nat} {L:List (List CV)},(∀ i (h:i < L.length),lkX m (16 * (k+i)+c)=some (.row L[i] sz e))→mmS m (zI c sz e k L)
 | _,[],_=>trivial
 | k,C::L,h=>⟨by have:=h 0 (by simp); simpa using this,yo fun i hi=>by
   have:=h (i+1) (by simpa using hi);rw [show k+(i+1)=k+1+i by omega] at this
   simpa using this⟩
theorem JP {tn:List Nat} {m':XM} {A:Prop}:∀ {l:XM},mmS m' l→A→eqK tn m' l A
 | [],_,k=>k
 | (id,x)::l,h,k=>by
  have hl:=JP (tn:=tn) (l:=l) h.2 k;unfold eqK;cases hiN tn id with
  | true =>
   simp only;rw [h.1];exact ⟨rfl,hl⟩
  | false=>exact hl
theorem zB.ls {k0:List Nat} {A F2:Fr} {m m2:XM} (hF:frS A F2) (hm:mmS m m2)
  (hk:∀ id,k0.contains id=true→(lkX m2 id).isSome=true) (h1:inMX m2=true) (h2:(F2.all fun p=>inPX m2 p.2)=true):zB k0 A m F2 m2 :=
 zB.sub (fun t x hx=>zbz hF _ (Ym hx)) (fun id x hx=>Zt hm _ (qj hx)) hk h1 (List.all_eq_true.1 h2)
def offB (id:Nat):XM→Bool
 | []=>true
 | (k,_)::l=>match Nat.beq id k with
  | true=>false
  | false=>offB id l
theorem jw {T:XM} {id:Nat}:∀ {P:XM},offB id P=true→lkX (apX P T) id=lkX T id
 | [],_=>rfl
 | (k,x)::l,h=>by
  unfold offB at h;rw [apX,lkX];cases hb:Nat.beq id k with
  | true=>rw [hb] at h; cases h
  | false=>rw [hb] at h; exact jw h
structure FamP (c sz:Nat) (e:TypeId) (k:Nat) (L:List (List CV)) (T:XM) (O:List PV):Prop where
 t:zI c sz e k L=T
 o:zt c k L=O
section
variable {c sz:Nat} {e:TypeId} {k:Nat} {L:List (List CV)} {T:XM} {O:List PV} (h:FamP c sz e k L T O)
include h
theorem FamP.no {id:Nat} (hid:id < 16 * k+c∨id % 16≠c % 16):lkX T id=none:=by rw [← h.t]; exact Q4 hid
theorem FamP.row {i:Nat} (hi:i < L.length):lkX T (16 * (k+i)+c)=some (.row L[i] sz e):=by rw [← h.t]; exact qG hi
theorem FamP.inT {m:XM}:(T.all fun p=>inBX m p.2)=true:=by rw [← h.t]; exact qT
theorem FamP.inO {m:XM} (hm:∀ i < L.length,(lkX m (16 * (k+i)+c)).isSome=true):(O.all fun x=>x.cells.all (in1X m))=true:=by rw [← h.o]; exact q8 hm
theorem FamP.mmS {m:XM} (hm:∀ i (h:i < L.length),lkX m (16 * (k+i)+c)=some (.row L[i] sz e)):mmS m T:=by rw [← h.t]; exact yo hm
theorem FamP.mmR {s:Nat→Nat} {m:XM} (hm:∀ i (h:i < L.length),lkX m (s (16 * (k+i)+c))=some (.row L[i] sz e)):mmR s m T:=by rw [← h.t]; exact Zs hm
theorem FamP.len:O.length=L.length:=by rw [← h.o]; exact qq
theorem FamP.ren {s:Nat→Nat} (hs:∀ i < L.length,s (16 * (k+i)+c)=16 * (k+i)+c):O.map (renA s)=O:=by rw [← h.o]; exact Qj hs
theorem FamP.snap {m:XM} {K:List CV→Prop} (hm:∀ i (h:i < L.length),lkX m (16 * (k+i)+c)=some (.row L[i] sz e)) (hK:K (L.map .row)):Zz m O K:=by rw [← h.o]; exact yZ hm hK
theorem FamP.get {i:Nat} (hi:i < L.length):O[i]? = some (.own (16 * (k+i)+c) L[i].length):=by rw [← h.o]; exact zcy hi
end
theorem famP (c sz:Nat) (e:TypeId) (k:Nat) (L:List (List CV)):∃ T O,FamP c sz e k L T O:=⟨_,_,rfl,rfl⟩
theorem FamP.skip {c sz:Nat} {e:TypeId} {k:Nat} {L:List (List CV)} {T:XM} {O:List PV} (h:FamP c sz e k L T O) {m:XM} {id:Nat} (hid:id < 16 * k+c∨id % 16≠c % 16):lkX (apX T m) id=lkX m id:=by rw [Z3,h.no hid]
theorem FamP.fst {c sz:Nat} {e:TypeId} {k:Nat} {L:List (List CV)} {T:XM} {O:List PV} (h:FamP c sz e k L T O) {m:XM} {i:Nat} (hi:i < L.length):lkX (apX T m) (16 * (k+i)+c)=some (.row L[i] sz e):=by rw [Z3,h.row hi]
theorem YE {m:XM} {c sz:Nat} {e:TypeId}:∀ {k:Nat} {L:List (List CV)},(∀ C∈L,∀ x∈C,x.cells.all rle1=true)→(∀ i < L.length,lkX m (16 * (k+i)+c)=none)→newR m (zI c sz e k L)
 | _,[],_,_=>trivial
 | k,C::L,h1,h2=>⟨⟨List.all_eq_true.2 (h1 C (by simp)),by have:=h2 0 (by simp); simpa using this⟩,YE (fun D hD=>h1 D (by simp [hD])) fun i hi=>by
   have:=h2 (i+1) (by simpa using hi);rw [show k+(i+1)=k+1+i by omega] at this;exact this⟩
theorem Y1 {c:Nat}:∀ {k:Nat} {L:List (List CV)},((zt c k L).all fun x=>x.cells.all rl1O)=true
 | _,[]=>rfl
 | k,C::L=>zl rfl (Y1 (L:=L))
theorem YH:∀ {m:XM} {K:XM→Prop},nfX m K=K m
 | [],_=>rfl
 | _::l,_=>YH (m:=l)
section
variable (P:Program) (W0:World)
def goN (q lo:Bool) (tn:List Nat) (dst:Option Nat) (op:AOp) (F:Fr) (m n:XM) (K:Fr→XM→XM→Prop):Prop:=match op.wr with
 | true=>QA P W0 F (dst.getD 0) (apX n m) op fun r m'=>loWX lo tn m m' (match dst with
  | some d=>K ((d,r)::F) m' []
  | none=>K F m' [])
 | false=>loNX lo tn F op (QE P W0 F (dst.getD 0) m op fun r news=>endX q dst F m n r news K)
def runN (q:Bool):List AO→Fr→XM→XM→(Fr→XM→XM→Prop)→Prop
 | [],F,m,n,K=>K F m n
 | o::l,F,m,n,K=>match o.guard with
  | none=>goN P W0 q o.lo o.tn o.dst o.op F m n fun F m n=>runN q l F m n K
  | some (g,want)=>onv (lkX F g) fun v=>match v with
   | .c (.sc (.bool b))=>cndX b
    (match want with
     | true=>goN P W0 q o.lo o.tn o.dst o.op ((g,B true)::F) m n fun F m n=>runN q l F m n K
     | false=>runX.skX o.dst ((g,B true)::F) fun F=>runN q l F m n K)
    (match want with
     | true=>runX.skX o.dst ((g,B false)::F) fun F=>runN q l F m n K
     | false=>goN P W0 q o.lo o.tn o.dst o.op ((g,B false)::F) m n fun F m n=>runN q l F m n K)
   | .c (.tup [])=>runX.skX o.dst F fun F=>runN q l F m n K
   | _=>False
def xwpN (k0:List Nat):XC→(Fr→XM→Prop)→(Nat→Fr→XM→Prop)→(Fr→XM→Prop)→Fr→XM→Prop
 | .skip,N,_,_,F,m=>N F m
 | .reg q ops,N,_,_,F,m=>runN P W0 q ops F m [] fun F m n=>goodK F (yE ops) (N F (apX n m))
 | .seq a b,N,E,R,F,m=>xwpN k0 a (fun F m=>xwpN k0 b N E R F m) E R F m
 | .cut a b,N,E,R,F,m=>CutX k0 (fun N F m=>xwpN k0 a N E R F m) (fun F m=>xwpN k0 b N E R F m) F m
 | .cnd c a b,N,E,R,F,m=>onv (evX F c) fun v=>match v with
  | .c (.sc (.bool t))=>cndX t (xwpN k0 a N E R F m) (xwpN k0 b N E R F m)
  | _=>False
 | .blk id a,N,E,R,F,m=>xwpN k0 a N (fun i F m=>match Nat.beq i id with
  | true=>N F m
  | false=>E i F m) R F m
 | .loop a,_,E,R,F,m=>LoopX k0 (fun N F m=>xwpN k0 a N E R F m) F m
 | .exit id,_,E,_,F,m=>E id F m
 | .ret,_,_,R,F,m=>R F m
end
section
variable {P:Program} {W0:World}
theorem zho {q lo:Bool} {tn:List Nat} {dst:Option Nat} {op:AOp} {F:Fr} {m n:XM} {K:Fr→XM→XM→Prop}:goX P W0 q lo tn dst op F m n K=goN P W0 q lo tn dst op F m n K:=by
 unfold goX goN;simp only [YH];rfl
theorem zcO {q:Bool}:∀ {ops:List AO} {F:Fr} {m n:XM} {K:Fr→XM→XM→Prop},runX P W0 q ops F m n K=runN P W0 q ops F m n K
 | [],_,_,_,_=>rfl
 | o::l,F,m,n,K=>by
  have ih:∀ F m n,runX P W0 q l F m n K=runN P W0 q l F m n K:=fun F m n=>zcO
  unfold runX runN;simp only [zho,ih];rfl
theorem qP {k0:List Nat}:∀ (c:XC) (N:Fr→XM→Prop) (E:Nat→Fr→XM→Prop) (R:Fr→XM→Prop) (F:Fr) (m:XM),xwp P W0 k0 c N E R F m=xwpN P W0 k0 c N E R F m
 | .skip,_,_,_,_,_=>rfl
 | .reg q ops,N,E,R,F,m=>by
  unfold xwp xwpN;simp only [zcO,YH]
 | .seq a b,N,E,R,F,m=>by
  have h1:=qP (k0:=k0) a;have h2:=qP (k0:=k0) b;unfold xwp xwpN;simp only [h1,h2]
 | .cut a b,N,E,R,F,m=>by
  have h1:=qP (k0:=k0) a;have h2:=qP (k0:=k0) b;unfold xwp xwpN;simp only [h1,h2]
 | .cnd c a b,N,E,R,F,m=>by
  have h1:=qP (k0:=k0) a;have h2:=qP (k0:=k0) b;unfold xwp xwpN;simp only [h1,h2];rfl
 | .blk id a,N,E,R,F,m=>by
  have h1:=qP (k0:=k0) a;unfold xwp xwpN;simp only [h1];rfl
 | .loop a,N,E,R,F,m=>by
  have h1:=qP (k0:=k0) a;unfold xwp xwpN;simp only [h1]
 | .exit id,_,_,_,_,_=>rfl
 | .ret,_,_,_,_,_=>rfl
end
theorem fX' {P:Program} {W0:World} {f:FuncId} {c:XC} {on:List FuncId} {ars:List AR} {n:Nat} {args:List CV} {r:CV} {F:Fr} (hm:P.follows .mixedOrders=true)
  (hc:zn P on f=some (c.ac,ars,n)) (h:(∀ x∈args,Good x)→xwpN P W0 [] c (finC ars r) (fun _ _ _=>False) (finC ars r) F []) (hn:args.length≤n:=by simp) (hF:argF 0 (args.map .c)=F:=by rfl):Fn P W0 f args (.c r) [] :=
 fnX hm hc hn hF fun hg=>by rw [qP]; exact h hg
theorem fW' {P:Program} {W0:World} {f:FuncId} {c:XC} {on:List FuncId} {ars:List AR} {n:Nat} {args:List PV} {m:XM} {α:Type} {ok:α→Prop} {R:α→PV} {M:α→XM} {F:Fr} (k0:List Nat) (hm:P.follows .mixedOrders=true)
  (hc:zn P on f=some (c.ac,ars,n))
  (h:(∀ x∈args,j0 x)→xwpN P W0 k0 c (finX k0 ars fun r mx=>∃ a,ok a∧r=R a∧mx=M a) (fun _ _ _=>False) (finX k0 ars fun r mx=>∃ a,ok a∧r=R a∧mx=M a) F m)
  (hk:m.map (·.1)=k0) (hn:args.length≤n:=by simp) (hF:argF 0 args=F:=by rfl):zu P W0 f args m ok R M :=
 funW hm hc hn hF hk fun hg=>by rw [qP]; exact h hg
theorem J5 {m:XM} {id i:Nat} {b:XB}:lkX (updX m id b) i=if i=id∧(lkX m id).isSome=true then some b else lkX m i:=by
 induction m with
 | nil=>simp [updX,lkX]
 | cons p m ih =>
  obtain ⟨k,x⟩:=p;rw [updX];cases h:Nat.beq k id with
  | true =>
   have e:=Nat.eq_of_beq_eq_true h;subst e;simp only;rw [lkX,lkX,lkX,Nat.beq_refl];cases h2:Nat.beq i k with
   | true=>simp [Nat.eq_of_beq_eq_true h2]
   | false=>simp [Nat.ne_of_beq_eq_false h2]
  | false =>
   have e:=Nat.ne_of_beq_eq_false h;simp only;rw [lkX];have h3:lkX ((k,x)::m) id=lkX m id:=zf fun hh=>e hh.symm
   rw [h3,lkX];cases h2:Nat.beq i k with
   | true =>
    have:=Nat.eq_of_beq_eq_true h2;subst this;rw [if_neg fun hh=>e hh.1]
   | false=>exact ih
theorem zbL {m:XM} {id:Nat}:∀ {l:XM},(lkX m id).isSome=true→(lkX (z5 m l) id).isSome=true
 | [],h=>h
 | (k,b)::l,h=>by
  have ih:=zbL (l:=l) h;rw [z5];cases hk:lkX m k with
  | some y =>
   simp only;rw [J5];split
   ·rfl
   ·exact ih
  | none =>
   simp only;rw [lkX];cases Nat.beq id k with
   | true=>rfl
   | false=>exact ih
theorem jr {m:XM} {id:Nat}:∀ {l:XM},lkX (z5 m l) id=match lkX l id with | some b=>some b | none=>lkX m id
 | []=>rfl
 | (k,b)::l=>by
  have ih:=jr (m:=m) (id:=id) (l:=l);rw [z5];cases hk:lkX m k with
  | some y =>
   simp only;have hs:=zbL (m:=m) (id:=k) (l:=l) (by rw [hk]; rfl);rw [J5];by_cases e:id=k
   ·subst e;rw [if_pos ⟨rfl,hs⟩,lkX,Nat.beq_refl]
   ·rw [if_neg fun hh=>e hh.1,ih,zf e]
  | none =>
   simp only;by_cases e:id=k
   ·subst e;rw [lkX,lkX,Nat.beq_refl]
   ·rw [zf e,ih,zf e]
theorem oW' {P:Program} {W0:World} {f:FuncId} {vs:List PV} {m mp:XM} {K:PV→XM→Prop} {α:Type} {ok:α→Prop} {R:α→PV} {M:α→XM} (h:zu P W0 f vs mp ok R M) (hsub:∀ id b,lkX mp id=some b→lkX m id=some b) (h1:inMX mp=true)
  (h2:vs.all (inPX mp)=true) (h0:∃ a,ok a) (k:∀ a,ok a→(∀ id,(lkX (M a) id).isSome=true→(lkX mp id).isSome=true∨lkX m id=none)∧K (R a) (z5 m (M a))):OpnX P W0 f vs m K:=by
 refine ⟨mp,_,za1 hsub,Z1 h1,?_,h,?_,?_⟩
 ·rw [← h2]; congr 1; funext x; exact Zk.symm
 ·obtain ⟨a,ha⟩:=h0; exact ⟨_,_,a,ha,rfl,rfl⟩
 ·rintro r mx ⟨a,ha,rfl,rfl⟩;exact k a ha
theorem oN {P:Program} {W0:World} {f:FuncId} {vs:List PV} {m:XM} {K:PV→XM→Prop} {cs:List CV} {r:CV} (h:Fn P W0 f cs (.c r) []) (hv:vs=cs.map .c) (k:K (.c r) m):OpnX P W0 f vs m K:=by
 subst hv;refine oW' (mp:=[]) h.funW (fun id b h=>by cases h) rfl ?_ ⟨(),trivial⟩ fun _ _=>⟨(fun id h=>by cases h),k⟩
 rw [List.all_eq_true];intro x hx;obtain ⟨c,_,rfl⟩:=List.mem_map.1 hx;rfl
theorem onI {α:Type} {o:Option α} {v:α} {f:α→Prop} (h:o=some v) (k:f v):onv o f:=by rw [h]; exact k
theorem y2 {m:XM} {id i:Nat} {b:XB} (h:i≠id):lkX (updX m id b) i=lkX m i:=by rw [J5,if_neg fun hh=>h hh.1]
theorem zdE {m:XM} {id:Nat} {b y:XB} (h:lkX m id=some y):lkX (updX m id b) id=some b:=by rw [J5,if_pos ⟨rfl,by rw [h]; rfl⟩]
theorem zu.ren {P:Program} {W0:World} {f:FuncId} {vs:List PV} {mp:XM} {α:Type} {ok:α→Prop} {R:α→PV} {M:α→XM} (h:zu P W0 f vs mp ok R M) {s:Nat→Nat} (hs:∀ i,s (s i)=i) :
  zu P W0 f (vs.map (renP s)) (renX s mp) ok (fun x=>renP s (R x)) (fun x=>renX s (M x)):=by
 have:=FunC.ren (s:=s) hs h;unfold zu FunX;rw [Zv];intro κ w vs hB hm hr;refine (this κ w vs hB hm hr).mono ?_;rintro e w' ⟨v,r,m',κ',rfl,⟨mx,h1,x,h2,h3,rfl⟩,h4,h5⟩;refine ⟨v,r,m',κ',rfl,⟨renX s (M x),?_,x,h2,?_,rfl⟩,h4,h5⟩
 ·show m'=er (renX s (M x));rw [Zv,← h1,Zu hs]
 ·show r=renP s (R x);rw [← h3,Qo hs]
theorem Qf:∀ {m:XM} {id:Nat},(m.map (·.1)).contains id=true→(lkX m id).isSome=true
 | [],_,h=>by cases h
 | (k,x)::l,id,h=>by
  rw [lkX];cases hb:Nat.beq id k with
  | true=>rfl
  | false =>
   simp only [List.map_cons,List.contains_cons,Bool.or_eq_true,beq_iff_eq] at h;rcases h with h | h
   ·subst h; simp at hb
   ·exact Qf h
theorem YW {c:Nat}:∀ {k:Nat} {L L':List (List CV)},L.map List.length=L'.map List.length→zt c k L=zt c k L'
 | _,[],[],_=>rfl
 | k,C::L,D::L',h=>by
  simp only [List.map_cons,List.cons.injEq] at h;rw [zt,zt,h.1,YW h.2]
 | _,[],_::_,h=>by cases h
 | _,_::_,[],h=>by cases h
theorem JS {c sz:Nat} {e:TypeId} {id:Nat}:∀ {k:Nat} {L L':List (List CV)},L.length=L'.length→(lkX (zI c sz e k L) id).isSome=(lkX (zI c sz e k L') id).isSome
 | _,[],[],_=>rfl
 | k,C::L,D::L',h=>by
  rw [zI,zI,lkX,lkX];cases Nat.beq id (16 * k+c) with
  | true=>rfl
  | false=>exact JS (by simpa using h)
 | _,[],_::_,h=>by cases h
 | _,_::_,[],h=>by cases h

abbrev AO.mv (d s:Nat):AO:=⟨some d,.mv (.t s),none,false,[]⟩
abbrev AO.ex (d:Nat) (o:AOp):AO:=⟨some d,o,none,false,[]⟩
abbrev AO.gt (d:Nat) (o:AOp) (g:Nat):AO:=⟨some d,o,some (g,true),false,[]⟩
instance (n:Nat):OfNat AX n:=⟨.t n⟩
abbrev sE:PV := .c (.sc (.string ⟨#[]⟩))
abbrev AO.l1 (d n:Nat) (a:AX):AO:=⟨some d,.ld false n a,none,false,[]⟩
abbrev AO.l2 (d n:Nat) (a:AX):AO:=⟨some d,.ld true n a,none,false,[]⟩
abbrev AO.b1 (d:Nat) (o:BinOp) (x y:AX):AO:=⟨some d,.bin o x y,none,false,[]⟩
abbrev AO.f1 (d k:Nat) (x:AX):AO:=⟨some d,.fa k x,none,false,[]⟩
abbrev AO.c1 (d f:Nat) (xs:List AX):AO:=⟨some d,.call f xs,none,false,[]⟩
abbrev AO.n1 (d:Nat) (x:AX):AO:=⟨some d,.len false x,none,false,[]⟩
abbrev AO.e1 (d:Nat) (x:AX) (i:Nat):AO:=⟨some d,.ext x i,none,false,[]⟩
abbrev AO.a1 (d:Nat) (x:AX) (z e:Nat):AO:=⟨some d,.asn x z e,none,false,[]⟩
abbrev AO.i1 (d s:Nat) (x i:AX):AO:=⟨some d,.ia s x i,none,false,[]⟩
abbrev AO.s1 (n:Nat) (a v:AX):AO:=⟨none,.st n a v,none,false,[]⟩
abbrev AO.o1 (d f:Nat) (xs:List AX):AO:=⟨some d,.opn f xs,none,false,[]⟩
abbrev AO.m1 (d:Nat) (x:AX):AO:=⟨some d,.mv x,none,false,[]⟩
abbrev AO.g1 (d k:Nat) (x:AX) (g:Nat):AO:=⟨some d,.fa k x,some (g,true),false,[]⟩
abbrev AO.g2 (d n:Nat) (x:AX) (g:Nat):AO:=⟨some d,.ld false n x,some (g,true),false,[]⟩
abbrev AO.g3 (d:Nat) (x:AX) (g:Nat):AO:=⟨some d,.mv x,some (g,true),false,[]⟩
abbrev AO.h1 (d k:Nat) (x:AX) (g:Nat):AO:=⟨some d,.fa k x,some (g,false),false,[]⟩
abbrev AO.h2 (d n:Nat) (x:AX) (g:Nat):AO:=⟨some d,.ld false n x,some (g,false),false,[]⟩
abbrev AO.h3 (d:Nat) (x:AX) (g:Nat):AO:=⟨some d,.mv x,some (g,false),false,[]⟩
abbrev AO.p1 (d:Nat) (c b:AX):AO:=⟨some d,.pick c (.k (.c (.sc (.bool true)))) b,none,false,[]⟩
abbrev AO.p2 (d:Nat) (c a:AX):AO:=⟨some d,.pick c a (.k (.c (.sc (.bool false)))),none,false,[]⟩
abbrev AO.u1 (d:Nat) (x:AX):AO:=⟨some d,.un .not x,none,false,[]⟩
abbrev AO.x1 (d:Nat) (x:AX):AO:=⟨some d,.box x,none,false,[]⟩
abbrev AO.k1 (d:Nat) (x:AX):AO:=⟨some d,.nck x,none,false,[]⟩
abbrev AO.a2 (d z e:Nat):AO:=⟨some d,.asn (.k .nil) z e,none,false,[]⟩
abbrev zW:List PV:=[.nil,.nil,.nil,I 0,I 0,.nil,.nil,.nil,.nil,B false,I 0,sE,sE,sE]
abbrev zE:List PV:=[sE,B false,sE]
abbrev XC.ic (a b i:Nat):XC := .reg true [⟨some a,.mv (.t i),none,false,[]⟩,⟨some b,.bin .add (.t a) (.k (.c (.sc (.int .i64 1)))),none,false,[]⟩,⟨some i,.mv (.t b),none,false,[]⟩]
abbrev XC.ce (c i:Nat):XC := .cnd (.t c) .skip (.exit i)
abbrev XC.rf (d:Nat):XC := .seq (.reg true [⟨some d,.mv (.k (.c (.sc (.bool false)))),none,false,[]⟩]) .ret
abbrev XC.rt (d:Nat):XC := .seq (.reg true [⟨some d,.mv (.k (.c (.sc (.bool true)))),none,false,[]⟩]) .ret
abbrev AO.gf (d:Nat) (o:AOp) (g:Nat):AO:=⟨some d,o,some (g,false),false,[]⟩
abbrev AO.exl (d:Nat) (o:AOp):AO:=⟨some d,o,none,true,[]⟩
abbrev AO.exo (tn:List Nat) (d:Nat) (o:AOp):AO:=⟨some d,o,none,true,tn⟩
abbrev AX.i (n:Int):AX := .k (.c (.sc (.int .i64 n)))
abbrev AX.u (n:Int):AX := .k (.c (.sc (.int .u8 n)))
abbrev AX.y:AX := .k (.c (.sc (.bool true)))
abbrev AX.n:AX := .k (.c (.sc (.bool false)))
abbrev AX.s (l:Str):AX := .k (.c (.sc (.string ⟨⟨l⟩⟩)))
abbrev XC.s (a b:XC):XC := .seq a b
abbrev XC.r (l:List AO):XC := .reg true l
abbrev XC.d (l:List AO):XC := .reg false l
class BP (b:Bool) (p n:outParam Prop):Prop where
 t:b=true→p
 f:b=false→n
instance (priority:=low) (b:Bool):BP b (b=true) (b=false):=⟨id,id⟩
instance (a b:Int):BP (ltI a b) (a < b) (b≤a):=⟨Yr.1,Yq.1⟩
instance (a b:Int):BP (leI a b) (a≤b) (b < a):=⟨zbS.1,zhI.1⟩
instance (a b:Int):BP (eqI a b) (a=b) (a≠b):=⟨JO.1,zge.1⟩
instance (a b:Str):BP (eqS a b) (a=b) (a≠b):=⟨Q2.1,zgf.1⟩
instance (a b:Bool):BP (eqB a b) (a=b) (a≠b):=⟨JN.1,zgd.1⟩
instance (p:Prop) [Decidable p]:BP (decide p) p (¬ p):=⟨of_decide_eq_true,of_decide_eq_false⟩
instance (b:Bool) (p n:Prop) [h:BP b p n]:BP (!b) n p:=⟨fun e=>h.f (by simpa using e),fun e=>h.t (by simpa using e)⟩
theorem cP {b:Bool} {p n A B:Prop} [h:BP b p n] (h1:p→A) (h2:n→B):cndX b A B:=zaI (fun e=>h1 (h.t e)) fun e=>h2 (h.f e)
theorem oB {p A:Prop} (h:p) (k:A):Ob p A:=⟨h,k⟩
section
variable {α β:Type} {f:α→β} {L:List α}
theorem lM {K:Nat→Prop} (h:K L.length):LenX (L.map f) K:=⟨_,by simp,h⟩
theorem lmp:(L.map f).length=L.length:=List.length_map _
theorem lA {K:Nat→Prop} (h:K L.length):LenX L K:=⟨_,rfl,h⟩
theorem aM {k:Int} {j:Nat} {K:β→Prop} (hk:k=(j:Int)) (hj:j < L.length) (h:K (f L[j])):AtX k (L.map f) K:=⟨j,hk,f L[j],by simp [hj],h⟩
theorem aA {k:Int} {j:Nat} {K:α→Prop} (hk:k=(j:Int)) (hj:j < L.length) (h:K L[j]):AtX k L K:=⟨j,hk,L[j],by simp [hj],h⟩
theorem aE {k:Int} {j:Nat} {y:α} {K:α→Prop} (hk:k=(j:Int)) (hy:L[j]? = some y) (h:K y):AtX k L K:=⟨j,hk,y,hy,h⟩
theorem nC {j:Nat} {K:Nat→Prop} (h:K j):NatX (j:Int) K:=⟨j,rfl,h⟩
theorem nE {k:Int} {j:Nat} {K:Nat→Prop} (e:k=(j:Int)) (h:K j):NatX k K:=⟨j,e,h⟩
end
theorem zM {α:Type} {f:α→CV} {L:List α} {sz:Nat} (h:∀ a,(f a).cells.length=sz):y4 sz (L.map f):=fun x hx=>by
 obtain ⟨a,_,rfl⟩:=List.mem_map.1 hx; exact h a
theorem zN {sz:Nat}:y4 sz []:=fun _ h=>by cases h
theorem zC {sz:Nat} {x:CV} {L:List CV} (h:x.cells.length=sz) (hl:y4 sz L):y4 sz (x::L):=fun y hy=>by
 rcases List.mem_cons.1 hy with rfl | hy
 ·exact h
 ·exact hl y hy
theorem oA {p A:Prop} (k:A) (h:p:=by first|omega|rfl|exact zM fun _=>rfl|exact lmp|exact zC rfl zN|exact ⟨by omega,by omega⟩|exact congrArg I (by omega)):Ob p A:=⟨h,k⟩
theorem lF {α:Type} {x:α} {K:Nat→Prop} (h:K 1):LenX [x] K:=⟨1,rfl,h⟩
structure Hid (Q:Prop):Prop where
 out:Q
theorem dr {P Q:Prop} (q:Q) (h:Hid Q→P:=by intro q; (conv=>whnf); (repeat ((first|refine oA ?_|refine lM ?_|refine lF ?_|refine lA ?_|refine aM rfl (by omega) ?_|refine aA rfl (by omega) ?_|refine aA (j:=0) rfl (by omega) ?_|refine nC ?_); conv=>whnf)); exact q.out):P:=h ⟨q⟩
theorem dI {P Q:Prop} (h:Q):P→Q:=fun _=>h
theorem dEr {P Q:Prop} (q:Q) (h:Hid Q→P:=by intro q; (conv=>whnf); (repeat ((first|refine oA ?_|refine lM ?_|refine lF ?_|refine lA ?_|refine aM rfl (by omega) ?_|refine aA rfl (by omega) ?_|refine aA (j:=0) rfl (by omega) ?_|refine nC ?_|refine dI ?_); conv=>whnf)); exact q.out):P:=h ⟨q⟩
theorem dz {P:Prop} (h:P:=by (conv=>whnf); (repeat ((first|refine oA ?_|refine lM ?_|refine lF ?_|refine lA ?_|refine aM rfl (by omega) ?_|refine aA rfl (by omega) ?_|refine aA (j:=0) rfl (by omega) ?_|refine nC ?_|refine dI ?_); conv=>whnf))):P:=h
theorem fX {P:Program} {W0:World} {f:FuncId} {c:XC} {on:List FuncId} {ars:List AR} {n:Nat} {args:List CV} {r:CV} {F:Fr} (hm:P.follows .mixedOrders=true)
  (hc:zn P on f=some (c.ac,ars,n)) (h:(∀ x∈args,Good x)→xwp P W0 [] c (finC ars r) (fun _ _ _=>False) (finC ars r) F []) (hn:args.length≤n:=by simp) (hF:argF 0 (args.map .c)=F:=by rfl):Fn P W0 f args (.c r) []:=fnX hm hc hn hF h
theorem fW {P:Program} {W0:World} {f:FuncId} {c:XC} {on:List FuncId} {ars:List AR} {n:Nat} {args:List PV} {m:XM} {α:Type} {ok:α→Prop} {R:α→PV} {M:α→XM} {F:Fr} {k0:List Nat} (hm:P.follows .mixedOrders=true)
  (hc:zn P on f=some (c.ac,ars,n))
  (h:(∀ x∈args,j0 x)→xwp P W0 k0 c (finX k0 ars fun r mx=>∃ a,ok a∧r=R a∧mx=M a) (fun _ _ _=>False) (finX k0 ars fun r mx=>∃ a,ok a∧r=R a∧mx=M a) F m)
  (hn:args.length≤n:=by simp) (hF:argF 0 args=F:=by rfl) (hk:m.map (·.1)=k0:=by rfl):zu P W0 f args m ok R M:=funW hm hc hn hF hk h
theorem c0 {P:Program} {W0:World} {f:FuncId} {cs:List CV} {r:PV} {own:Bool} {K:PV→XM→Prop} (hf:Fn P W0 f cs r []) (ho:(own||rlP r)=true) (k:K r []):CallX P W0 f cs own K :=
 ⟨r,[],hf,by cases own with | true=>exact .inl rfl | false=>exact .inr ⟨ho,rfl⟩,k⟩
theorem lp {k0:List Nat} {body:(Fr→XM→Prop)→Fr→XM→Prop} {F:Fr} {m:XM} {σ:Type} (fr:σ→Fr) (mm:σ→XM) (inv:σ→Prop) (me:σ→Nat) (x0:σ) (h0:inv x0) (hk:zH k0 none F m (fr x0) (mm x0))
  (hb:∀ x,inv x→body (fun F' m'=>∃ x',inv x'∧me x' < me x∧zH k0 none F' m' (fr x') (mm x')) (fr x) (mm x)):LoopX k0 body F m :=
 ⟨σ,fr,mm,inv,me,none,none,_,⟨x0,h0,hk⟩,fun _ _ _ h=>h,hb⟩
theorem lp2 {k0:List Nat} {body:(Fr→XM→Prop)→Fr→XM→Prop} {F:Fr} {m:XM} {α β:Type} (fr:α→β→Fr) (mm:α→β→XM) (inv:α→β→Prop) (me:α→β→Nat) (a0:α) (b0:β) (h0:inv a0 b0) (hk:zH k0 none F m (fr a0 b0) (mm a0 b0))
  (hb:∀ a b,inv a b→body (fun F' m'=>∃ a' b',inv a' b'∧me a' b' < me a b∧zH k0 none F' m' (fr a' b') (mm a' b')) (fr a b) (mm a b)):LoopX k0 body F m :=
 ⟨α × β,fun x=>fr x.1 x.2,fun x=>mm x.1 x.2,fun x=>inv x.1 x.2,fun x=>me x.1 x.2,none,none,fun x F' m'=>∃ a' b',inv a' b'∧me a' b' < me x.1 x.2∧zH k0 none F' m' (fr a' b') (mm a' b'),
  ⟨(a0,b0),h0,hk⟩,fun _ _ _ ⟨a,b,h⟩=>⟨(a,b),h⟩,fun x h=>hb x.1 x.2 h⟩
theorem cutz {k0:List Nat} {a:(Fr→XM→Prop)→Fr→XM→Prop} {b:Fr→XM→Prop} {F:Fr} {m:XM} {σ:Type} (z:Nat) (fr:σ→Fr) (mm:σ→XM) (inv:σ→Prop)
  (ha:a (fun F' m'=>∃ x,inv x∧zH k0 (some z) F' m' (fr x) (mm x)) F m) (hb:∀ x,inv x→b (fr x) (mm x)):CutX k0 a b F m:=⟨σ,fr,mm,inv,some z,_,ha,fun _ _ h=>h,hb⟩
theorem qf {α:Type} {f:α→CV} {L:List α} (h:Good (.row (L.map f))):L.length≤9223372036854775807:=by
 cases h with
 | row h _=>simpa [maxLen] using h
theorem J0 {cs:List CV} (h:Good (.agg cs)):∀ x∈cs,Good x:=by
 cases h with
 | agg h=>exact h
theorem J1 {s:Str} (h:Good (CS s)):s.length≤9223372036854775807:=by
 cases h with
 | sc h=>simpa [wfv,maxLen,ByteArray.size] using h
structure Ent where
 path:Str
 dir:Bool
 data:Str
deriving DecidableEq
structure Op where
 kind:Int
 path:Str
 dest:Str
 data:Str
deriving DecidableEq
structure Mark where
 path:Str
 kind:Int
 data:Str
deriving DecidableEq
structure Over where
 base:List Ent
 layers:List (List Mark)
 upper:List Mark
deriving DecidableEq
structure Lease where
 who:Int
 path:Str
 num:Int
 til:Int
deriving DecidableEq
structure Hold where
 path:Str
 has:Bool
 ent:Ent
 num:Int
 til:Int
deriving DecidableEq
structure Msg where
 kind:Int
 who:Int
 hold:Hold
deriving DecidableEq
structure Wld where
 over:Over
 clock:Int
 count:Int
 leases:List Lease
 holds:List (List Hold)
 floors:List Int
 net:List Msg
 waits:Bool
 op:Op
deriving DecidableEq
def zA (e:Ent):CV := .agg [CS e.path,CB e.dir,CS e.data]
def eOp (o:Op):CV := .agg [CI o.kind,CS o.path,CS o.dest,CS o.data]
def zr (m:Mark):CV := .agg [CS m.path,CI m.kind,CS m.data]
def zD (t:List Ent):CV := .row (t.map zA)
def zs (l:List Mark):CV := .row (l.map zr)
def zT (l:List (List Mark)):CV := .row (l.map zs)
def z8 (o:Over):CV := .agg [zD o.base,zT o.layers,zs o.upper]
def QW (l:Lease):CV := .agg [CI l.who,CS l.path,CI l.num,CI l.til]
def eHold (h:Hold):CV := .agg [CS h.path,CB h.has,CS h.ent.path,CB h.ent.dir,CS h.ent.data,CI h.num,CI h.til]
def eMsg (m:Msg):CV := .agg [CI m.kind,CI m.who,CS m.hold.path,CB m.hold.has,CS m.hold.ent.path,CB m.hold.ent.dir,CS m.hold.ent.data,CI m.hold.num,CI m.hold.til]
def j9 (l:List Lease):CV := .row (l.map QW)
def j7 (l:List Hold):CV := .row (l.map eHold)
def j8 (l:List (List Hold)):CV := .row (l.map j7)
def qS (l:List Int):CV := .row (l.map CI)
def qa (l:List Msg):CV := .row (l.map eMsg)
def eWld (w:Wld):CV := .agg [zD w.over.base,zT w.over.layers,zs w.over.upper,CI w.clock,CI w.count,j9 w.leases,j8 w.holds,qS w.floors,qa w.net,CB w.waits,
 CI w.op.kind,CS w.op.path,CS w.op.dest,CS w.op.data]
theorem dT {p:Prop} [Decidable p] (h:p):CB true=CB (decide p):=by rw [decide_eq_true h]
theorem dF {p:Prop} [Decidable p] (h:¬ p):CB false=CB (decide p):=by rw [decide_eq_false h]
theorem yB {α:Type} {a b:List α} {k:Nat} (ha:k < a.length) (hb:k < b.length) (h:a.take k=b.take k) (he:a[k]=b[k]):a.take (k+1)=b.take (k+1):=by
 rw [List.take_succ_eq_append_getElem ha,List.take_succ_eq_append_getElem hb,h,he]
theorem yg {α:Type} {a b:List α} (hl:a.length=b.length) (h:a.take a.length=b.take a.length):a=b:=by
 rw [List.take_length,hl,List.take_length] at h; exact h
theorem yp {α:Type} {a b:List α} {k:Nat} (ha:k < a.length) (hb:k < b.length) (he:a[k]≠b[k]):a≠b:=by rintro rfl; exact he rfl
theorem yq {α:Type} {a b:List α} (h:a.length≠b.length):a≠b:=by rintro rfl; exact h rfl
theorem Jm {α β:Type} {f:α→β} {t:List α} {k:Nat} {z:β} (h:k < t.length):((t.take k).map f++List.replicate (t.length - k) z).set k (f t[k])=(t.take (k+1)).map f++List.replicate (t.length - (k+1)) z:=by
 have e:t.length - k=(t.length - (k+1))+1:=by omega
 have e2:k - ((t.take k).map f).length=0:=by simp; omega
 rw [e,List.replicate_succ,List.set_append_right _ _ (by simp; omega),List.take_succ_eq_append_getElem h,e2,List.map_append,List.append_assoc];rfl
theorem ZY {α β:Type} {f:α→β} {t:List α} {k:Nat} {z:β} (h:k < t.length):((t.take k).map f++List.replicate (t.length - k) z)[k]? = some z:=by
 rw [List.getElem?_append_right (by simp; omega),List.getElem?_replicate,if_pos (by simp; omega)]
theorem yk {α β:Type} {f:α→β} {t:List α} {k:Nat} {z:β} (h:k≤t.length):((t.take k).map f++List.replicate (t.length - k) z).length=t.length:=by simp; omega

def cut (c:UInt8):Str→List Str
 | []=>[[]]
 | b::t=>if b=c then []::cut c t else match cut c t with
  | []=>[[b]]
  | h::r=>(b::h)::r
theorem zf4 (c:UInt8):∀ s,cut c s≠[]
 | []=>by simp [cut]
 | b::t=>by
  unfold cut;split
  ·simp
  ·split<;>simp
theorem zaL {c:UInt8}:∀ {s:Str},c ∉ s→cut c s=[s]
 | [],_=>rfl
 | b::t,h=>by
  simp only [List.mem_cons,not_or] at h;unfold cut;rw [if_neg (fun e=>h.1 e.symm),zaL h.2]
theorem zaK {c:UInt8}:∀ {a:Str} (b:Str),c ∉ a→cut c (a++c::b)=a::cut c b
 | [],b,_=>by simp [cut]
 | x::a,b,h=>by
  simp only [List.mem_cons,not_or] at h;rw [List.cons_append,cut,if_neg (fun e=>h.1 e.symm),zaK b h.2]
def jn (ns:List Str):Str:=ns.flatMap (47::·)
theorem zbN:∀ (s:Str),jn (cut 47 s)=47::s
 | []=>rfl
 | b::t=>by
  have ih:=zbN t;unfold cut;split
  ·rename_i hb; subst hb; simp only [jn,List.flatMap_cons] at ih ⊢; rw [ih]; rfl
  ·split
   ·rename_i hc; exact absurd hc (zf4 _ _)
   ·rename_i x r hc;rw [hc] at ih;simp only [jn,List.flatMap_cons,List.cons_append,List.cons.injEq,true_and] at ih ⊢;rw [ih]
theorem QR:∀ {n:Str} {ns:List Str},(∀ x∈n::ns,(47:UInt8) ∉ x)→cut 47 (n++jn ns)=n::ns
 | n,[],h=>by simp [jn]; exact zaL (h n (by simp))
 | n,m::ns,h=>by
  have:jn (m::ns)=47::(m++jn ns):=rfl;rw [this,zaK _ (h n (by simp)),QR fun x hx=>h x (by simp at hx ⊢; exact .inr hx)]
def lower (b:UInt8):Bool:=97≤b.toNat&&b.toNat≤122
def j3 (n:Str):Bool:=n.all lower&&(1≤n.length&&n.length≤3)
theorem YD {n:Str} (h:j3 n=true):(47:UInt8) ∉ n:=by
 intro hm;simp only [j3,Bool.and_eq_true,List.all_eq_true] at h;have:=h.1 _ hm;simp [lower] at this
def names (s:Str):List Str:=if s.length < 2∨s.head? ≠ some 47 then [] else cut 47 s.tail
def pOk (s:Str):Bool:=s.length≤12&&((names s).all j3&&(1≤(names s).length&&(names s).length≤3))
theorem zcC {s:Str}:pOk s=true↔∃ ns:List Str,(1≤ns.length∧ns.length≤3)∧(∀ n∈ns,j3 n=true)∧s=jn ns:=by
 constructor
 ·intro h;simp only [pOk,Bool.and_eq_true,decide_eq_true_eq,List.all_eq_true] at h;obtain ⟨_,h1,h2,h3⟩:=h;refine ⟨names s,⟨h2,h3⟩,h1,?_⟩;unfold names at h2 ⊢;split at h2
  ·simp at h2
  ·rename_i hc;rw [if_neg hc,zbN];cases s with
   | nil=>simp at hc
   | cons b t=>simp at hc; simp [hc.2]
 ·rintro ⟨ns,⟨h1,h2⟩,h3,rfl⟩;cases ns with
  | nil=>simp at h1
  | cons n ns =>
   have hno:∀ x∈n::ns,(47:UInt8) ∉ x:=fun x hx=>YD (h3 x hx)
   have e:jn (n::ns)=47::(n++jn ns):=rfl;have hlen:∀ (ns:List Str),(∀ n∈ns,j3 n=true)→(jn ns).length≤4 * ns.length:=by
    intro ns;induction ns with
    | nil=>intro _; simp [jn]
    | cons a l ih =>
     intro h;have:=ih fun n hn=>h n (by simp [hn])
     have ha:=h a (by simp);simp only [j3,Bool.and_eq_true,decide_eq_true_eq] at ha;have e:jn (a::l)=47::(a++jn l):=rfl;rw [e]; simp; omega
   have hn:=h3 n (by simp);simp only [j3,Bool.and_eq_true,decide_eq_true_eq] at hn;have hnm:names (jn (n::ns))=n::ns:=by
    unfold names;rw [e];rw [if_neg (by simp; omega)];exact QR hno
   simp only [pOk,Bool.and_eq_true,decide_eq_true_eq,List.all_eq_true,hnm];have:=hlen _ h3;exact ⟨by omega,h3,h1,h2⟩
theorem zci {ns:List Str} (h1:1≤ns.length) (h3:∀ n∈ns,j3 n=true):names (jn ns)=ns:=by
 cases ns with
 | nil=>simp at h1
 | cons n ns =>
  have hno:∀ x∈n::ns,(47:UInt8) ∉ x:=fun x hx=>YD (h3 x hx)
  have e:jn (n::ns)=47::(n++jn ns):=rfl;have hn:=h3 n (by simp);simp only [j3,Bool.and_eq_true,decide_eq_true_eq] at hn;unfold names;rw [e,if_neg (by simp; omega)];exact QR hno
theorem zhA (a b:List Str):jn (a++b)=jn a++jn b:=by simp [jn]
theorem yV {s:Str} (h:pOk s=true):(1≤(names s).length∧(names s).length≤3)∧(∀ n∈names s,j3 n=true)∧s=jn (names s):=by
 obtain ⟨ns,h1,h2,rfl⟩:=zcC.1 h;rw [zci h1.1 h2];exact ⟨h1,h2,rfl⟩
theorem Jc {s:Str} (h:pOk s=true):2≤s.length∧s.length≤12∧s.head? = some 47:=by
 have h12:s.length≤12:=by simp only [pOk,Bool.and_eq_true,decide_eq_true_eq] at h; exact h.1
 obtain ⟨⟨h1,_⟩,_,_⟩:=yV h;unfold names at h1;split at h1
 ·simp at h1
 ·rename_i hc; simp only [not_or,Nat.not_lt,ne_eq,Classical.not_not] at hc; exact ⟨hc.1,h12,hc.2⟩
def pUp (s:Str):Str:=if pOk s then (if (names s).length=1 then [47] else jn (names s).dropLast) else []
def pName (s:Str):Str:=if pOk s then (names s).getLast?.getD [] else []
def und (s d:Str):Bool:=d==[47]||(d++[47]).isPrefixOf s
def jD (s f t:Str):Option Str:=if (pOk s&&pOk f&&pOk t)=true then (if (s != f&&!und s f)=true then some s else if pOk (t++s.drop f.length)=true then some (t++s.drop f.length) else none) else none
theorem Jd {s:Str} (h:pOk s=true):∃ a l,s=a++47::l∧(47:UInt8) ∉ l∧a=jn (names s).dropLast∧(names s).getLast? = some l∧j3 l=true∧(a=[]↔(names s).length=1)∧pName s=l∧pUp s=(if a=[] then [47] else a):=by
 obtain ⟨⟨h1,h2⟩,h3,h4⟩:=yV h;obtain ⟨l,hl⟩:∃ l,(names s).getLast? = some l:=by
  cases hn:names s with
  | nil=>rw [hn] at h1; simp at h1
  | cons x r=>exact ⟨_,List.getLast?_eq_some_getLast (by simp)⟩
 have hsp:names s=(names s).dropLast++[l]:=by
  obtain ⟨hne,e⟩:=List.getLast?_eq_some_iff.1 hl;rw [e]; simp
 have hlm:l∈names s:=by rw [hsp]; simp
 have ha:(jn (names s).dropLast=[]↔(names s).length=1):=by
  cases hd:(names s).dropLast with
  | nil =>
   have:(names s).length=1:=by rw [hsp,hd]; rfl
   simp [jn,this]
  | cons x r =>
   have:(names s).length=r.length+2:=by rw [hsp,hd]; simp
   simp [jn,this]
 refine ⟨jn (names s).dropLast,l,?_,YD (h3 l hlm),rfl,hl,h3 l hlm,ha,?_,?_⟩
 ·have e:jn (names s)=jn (names s).dropLast++jn [l]:=by rw [← zhA,← hsp]
  rw [h4.symm] at e
  simpa [jn] using e
 ·simp [pName,h,hl]
 ·unfold pUp;rw [if_pos h];by_cases hc:(names s).length=1
  ·rw [if_pos hc,if_pos (ha.2 hc)]
  ·rw [if_neg hc,if_neg (fun e=>hc (ha.1 e))]

theorem Z6 (b:Str):ltS [] b=!b.isEmpty:=by rw [Z5]; cases b<;>rfl
theorem Yt (x:UInt8) (a:Str):ltS (x::a) []=false:=by rw [Z5]; rfl
theorem Z4 (x y:UInt8) (a b:Str):ltS (x::a) (y::b)=(x < y||(x==y&&ltS a b)):=by rw [Z5,Z5]; rfl
theorem Zo:∀ (a:Str),ltS a a=false
 | []=>by rw [Z6]; rfl
 | x::a=>by rw [Z4,Zo a]; simp
theorem J8:∀ {a b c:Str},ltS a b=true→ltS b c=true→ltS a c=true
 | [],b,[],h1,h2=>by cases b with
  | nil=>rw [Zo] at h1; cases h1
  | cons y b=>rw [Yt] at h2; cases h2
 | [],_,z::c,_,_=>by rw [Z6]; rfl
 | x::a,[],c,h1,_=>by rw [Yt] at h1; cases h1
 | x::a,y::b,[],_,h2=>by rw [Yt] at h2; cases h2
 | x::a,y::b,z::c,h1,h2=>by
  rw [Z4] at h1 h2 ⊢;simp only [Bool.or_eq_true,Bool.and_eq_true,decide_eq_true_eq,beq_iff_eq] at h1 h2 ⊢;simp only [UInt8.lt_iff_toNat_lt] at h1 h2 ⊢;rcases h1 with h1 | ⟨rfl,h1⟩<;>rcases h2 with h2 | ⟨rfl,h2⟩
  ·left; omega
  ·left; exact h1
  ·left; exact h2
  ·right; exact ⟨rfl,J8 h1 h2⟩
theorem zb4:∀ (a b:Str),a=b∨ltS a b=true∨ltS b a=true
 | [],[] => .inl rfl
 | [],y::b=>by rw [Z6]; simp
 | x::a,[]=>by rw [Z6 (x::a)]; simp
 | x::a,y::b=>by
  rw [Z4,Z4];rcases zb4 a b with h | h | h
  ·subst h;simp only [Bool.or_eq_true,decide_eq_true_eq,Bool.and_eq_true,beq_iff_eq,UInt8.lt_iff_toNat_lt];rcases Nat.lt_trichotomy x.toNat y.toNat with h | h | h
   ·right; left; left; exact h
   ·left; rw [UInt8.toNat_inj.1 h]
   ·right; right; left; exact h
  ·simp only [Bool.or_eq_true,decide_eq_true_eq,Bool.and_eq_true,beq_iff_eq,UInt8.lt_iff_toNat_lt];rcases Nat.lt_trichotomy x.toNat y.toNat with h' | h' | h'
   ·right; left; left; exact h'
   ·right; left; right; exact ⟨UInt8.toNat_inj.1 h',h⟩
   ·right; right; left; exact h'
  ·simp only [Bool.or_eq_true,decide_eq_true_eq,Bool.and_eq_true,beq_iff_eq,UInt8.lt_iff_toNat_lt];rcases Nat.lt_trichotomy x.toNat y.toNat with h' | h' | h'
   ·right; left; left; exact h'
   ·right; right; right; exact ⟨(UInt8.toNat_inj.1 h').symm,h⟩
   ·right; right; left; exact h'
theorem Ys {a b:Str} (h:ltS a b=true):ltS b a=false:=by
 cases h':ltS b a with
 | false=>rfl
 | true=>have:=J8 h h'; rw [Zo] at this; cases this
theorem yS {a b:Str} (h:ltS a b=true):a≠b:=by rintro rfl; rw [Zo] at h; cases h
theorem zhQ {a b:Str} (h:ltS a b=false):a=b∨ltS b a=true:=by
 rcases zb4 a b with h' | h' | h'
 ·exact .inl h'
 ·rw [h] at h'; cases h'
 ·exact .inr h'
theorem zb3 (a:Str) (x:UInt8) (r:Str):ltS a (a++x::r)=true:=by
 induction a with
 | nil=>rw [Z6]; rfl
 | cons y a ih=>rw [List.cons_append,Z4,ih]; simp
def alnum (b:UInt8):Bool:=lower b||(48≤b.toNat&&b.toNat≤57)
def yK (s:Str):Bool:=s.all alnum&&s.length≤6
def find (t:List Ent) (p:Str):Option Ent:=t.find? fun e=>e.path==p
def idx (t:List Ent) (p:Str):Int:=match t.findIdx? (fun e=>e.path==p) with
 | some i=>i
 | none => -1
def rootE:Ent:=⟨[47],true,[]⟩
def noE:Ent:=⟨[],false,[]⟩
def get (t:List Ent) (p:Str):Option Ent:=if p=[47] then some rootE else find t p
def zJ (t:List Ent) (p:Str):Bool:=match get t p with
 | some e=>e.dir
 | none=>false
theorem ju {t:List Ent} {p:Str} {e:Ent} (h:find t p=some e):e.path=p∧e∈t:=by
 unfold find at h;exact ⟨by simpa using List.find?_some h,List.mem_of_find?_eq_some h⟩
def ok1 (pre:List Ent) (e:Ent):Bool:=pOk e.path&&(yK e.data&&(!(e.dir&&e.data != [])&&((match pre.getLast? with
 | none=>true
 | some l=>ltS l.path e.path)&&zJ pre (pUp e.path))))
def okA:List Ent→List Ent→Bool
 | _,[]=>true
 | pre,e::r=>ok1 pre e&&okA (pre++[e]) r
def tOk (t:List Ent):Bool:=t.length≤16&&okA [] t
theorem zco:∀ {r pre:List Ent},okA pre r=true↔∀ j (h:j < r.length),ok1 (pre++r.take j) r[j]=true
 | [],pre=>by simp [okA]
 | e::r,pre=>by
  rw [okA,Bool.and_eq_true,zco (r:=r)];constructor
  ·rintro ⟨h1,h2⟩ j hj;cases j with
   | zero=>rw [List.take_zero,List.append_nil]; exact h1
   | succ j=>have:=h2 j (by simpa using hj); simpa using this
  ·intro h;refine ⟨by have:=h 0 (by simp); rw [List.take_zero,List.append_nil] at this; exact this,fun j hj=>?_⟩;have:=h (j+1) (by simpa using hj)
   simpa using this
theorem okA0 {t:List Ent}:okA [] t=true↔∀ j (h:j < t.length),ok1 (t.take j) t[j]=true:=by
 rw [zco]; simp

def putG {α:Type} (key:α→Str) (t:List α) (e:α):List α :=
 t.takeWhile (fun x=>ltS (key x) (key e))++e::(match t.dropWhile (fun x=>ltS (key x) (key e)) with
  | []=>[]
  | x::r=>if key x=key e then r else x::r)
abbrev put:=putG Ent.path
abbrev lput:=putG Mark.path
theorem zcG {α:Type} {key:α→Str} {t:List α} {e:α}:(putG key t e).length≤t.length+1:=by
 have h:=congrArg List.length (List.takeWhile_append_dropWhile (p:=fun x=>ltS (key x) (key e)) (l:=t));rw [List.length_append] at h;unfold putG;rw [List.length_append,List.length_cons];split
 ·simp; omega
 ·rename_i hc;rw [hc] at h;split<;>simp at h ⊢<;>omega
def both (a b:List Ent):List Ent:=b.foldl put a
def tudP (a b:List Ent) (e:Ent):Bool:=decide (get a e.path≠get b e.path)
def jH (a b:List Ent):List Str:=((both a b).filter (tudP a b)).map (·.path)
def zG (l:List Mark) (p:Str):Option Mark:=l.find? fun m=>m.path==p
theorem q7 {t:List Mark} {p:Str} {e:Mark} (h:zG t p=some e):e.path=p∧e∈t:=by
 unfold zG at h;exact ⟨by simpa using List.find?_some h,List.mem_of_find?_eq_some h⟩
def kind (l:List Mark) (p:Str):Int:=match zG l p with
 | some m=>m.kind
 | none=>0
def bare (l:List Mark) (p:Str):Bool:=l.any fun m=>m.kind==4&&und p m.path
def inD (l:List Mark) (p:Str):Bool:=pUp p==[47]||(kind l (pUp p)==2||kind l (pUp p)==4)
def hidP (p:Str) (m:Mark):Bool:=(m.path==p&&m.kind != 2)||(m.kind != 2&&und p m.path)
def zZ (l:List Mark) (p:Str):Bool:=l.any (hidP p)
def mlast (pre:List Mark) (p:Str):Bool:=match pre.getLast? with
 | none=>true
 | some l=>ltS l.path p
def mok1 (pre:List Mark) (m:Mark):Bool:=(decide (1≤m.kind)&&decide (m.kind≤4))&&(pOk m.path&&(yK m.data&&(!(m.kind != 1&&m.data != [])&&(mlast pre m.path&&(inD pre m.path&&!(decide (2 < m.kind)&&bare pre m.path))))))
def mokA:List Mark→List Mark→Bool
 | _,[]=>true
 | pre,e::r=>mok1 pre e&&mokA (pre++[e]) r
def lOk (l:List Mark):Bool:=l.length≤32&&mokA [] l
theorem zcg:∀ {r pre:List Mark},mokA pre r=true↔∀ j (h:j < r.length),mok1 (pre++r.take j) r[j]=true
 | [],pre=>by simp [mokA]
 | e::r,pre=>by
  rw [mokA,Bool.and_eq_true,zcg (r:=r)];constructor
  ·rintro ⟨h1,h2⟩ j hj;cases j with
   | zero=>rw [List.take_zero,List.append_nil]; exact h1
   | succ j=>have:=h2 j (by simpa using hj); simpa using this
  ·intro h;refine ⟨by have:=h 0 (by simp); rw [List.take_zero,List.append_nil] at this; exact this,fun j hj=>?_⟩;have:=h (j+1) (by simpa using hj)
   simpa using this
theorem mokA0 {t:List Mark}:mokA [] t=true↔∀ j (h:j < t.length),mok1 (t.take j) t[j]=true:=by
 rw [zcg]; simp
def onP (out:List Ent) (m:Mark):List Ent:=if m.kind=1 then put out ⟨m.path,false,m.data⟩ else if m.kind=2∨m.kind=4 then put out ⟨m.path,true,[]⟩ else out
def jC (l:List Mark) (t:List Ent):List Ent:=l.foldl onP (t.filter fun e=>!zZ l e.path)
def lOn (l:List Mark) (t:List Ent):Option (List Ent):=if (lOk l&&tOk t)=true then (if (jC l t).length≤16 then some (jC l t) else none) else none
def upsN:Nat→Str→List Str
 | 0,_=>[]
 | n+1,p=>if pUp p=[47] then [] else pUp p::upsN n (pUp p)
def upsP (l:List Mark) (u:Str):List Mark:=if kind l u=0 then lput l ⟨u,2,[]⟩ else l
def ups (l:List Mark) (p:Str):List Mark:=(upsN 3 p).foldl upsP l
def difM (tq:List Ent) (p:Str):Option Mark:=match get tq p with
 | some e=>some ⟨p,if e.dir=true then 2 else 1,e.data⟩
 | none=>if zJ tq (pUp p)=true then some ⟨p,3,[]⟩ else none
def difP (tq:List Ent) (out:List Mark) (p:Str):List Mark:=match difM tq p with
 | some m=>ups (lput out m) p
 | none=>out
def diff (a b:List Ent):List Mark:=(jH a b).foldl (difP b) []
def lowerA:List (List Mark)→List Ent→Option (List Ent)
 | [],t=>some t
 | l::r,t=>match lOn l t with
  | some t'=>lowerA r t'
  | none=>none
def jO (o:Over):Option (List Ent):=if tOk o.base=true∧o.layers.length≤4 then lowerA o.layers o.base else none
def j5 (o:Over):Option (List Ent):=match jO o with
 | some t=>lOn o.upper t
 | none=>none
def oOk (o:Over):Bool:=match jO o,j5 o with
 | some t,some x=>decide (o.upper=diff t x)
 | _,_=>false
theorem zbu {α:Type} {key:α→Str}:∀ (l:List α) (t:List α),(l.foldl (putG key) t).length≤t.length+l.length
 | [],t=>by simp
 | e::l,t=>by
  have h:=zbu (key:=key) l (putG key t e);have h2:=zcG (key:=key) (t:=t) (e:=e);simp only [List.foldl_cons,List.length_cons];omega
theorem yw {p:Str} (h:pOk p=true) (h2:pUp p≠[47]):pOk (pUp p)=true∧names (pUp p)=(names p).dropLast∧(names (pUp p)).length+1=(names p).length:=by
 obtain ⟨⟨h1,h3⟩,h4,_⟩:=yV h;have hl:(names p).length≠1:=by
  intro e; unfold pUp at h2; rw [if_pos h,if_pos e] at h2; exact h2 rfl
 have e:pUp p=jn (names p).dropLast:=by unfold pUp; rw [if_pos h,if_neg hl]
 have hd:∀ n∈(names p).dropLast,j3 n=true:=fun n hn=>h4 n (List.dropLast_subset _ hn)
 have hdl:(names p).dropLast.length+1=(names p).length:=by rw [List.length_dropLast]; omega
 have hn:names (pUp p)=(names p).dropLast:=by rw [e]; exact zci (by omega) hd
 exact ⟨zcC.2 ⟨_,⟨by omega,by omega⟩,hd,e⟩,hn,by rw [hn]; exact hdl⟩
theorem Yy {α:Type} {key:α→Str} {t:List α} {e x:α} (h:x∈putG key t e):x=e∨x∈t:=by
 have hs:=List.takeWhile_append_dropWhile (p:=fun x=>ltS (key x) (key e)) (l:=t);unfold putG at h;rw [List.mem_append,List.mem_cons] at h;rw [← hs,List.mem_append];rcases h with h | h | h
 ·exact .inr (.inl h)
 ·exact .inl h
 ·split at h
  ·cases h
  ·rename_i hc;rw [hc];split at h
   ·exact .inr (.inr (by simp [h]))
   ·exact .inr (.inr h)
theorem zjD {t:List Ent} (h:tOk t=true):t.length≤16∧∀ j (h:j < t.length),ok1 (t.take j) t[j]=true:=by
 simp only [tOk,Bool.and_eq_true,decide_eq_true_eq] at h;exact ⟨h.1,okA0.1 h.2⟩
theorem J4 {l:List Mark} {t t':List Ent} (h:lOn l t=some t'):t'.length≤16∧lOk l=true∧tOk t=true∧t'=jC l t:=by
 unfold lOn at h;split at h
 ·rename_i hc;simp only [Bool.and_eq_true] at hc;split at h
  ·cases h; exact ⟨by assumption,hc.1,hc.2,rfl⟩
  ·cases h
 ·cases h

section
variable {α:Type} {key:α→Str}
def Srt (key:α→Str) (l:List α):Prop:=l.Pairwise fun a b=>ltS (key a) (key b)=true
def fnd (key:α→Str) (l:List α) (p:Str):Option α:=l.find? fun e=>key e==p
theorem JU {p:Str}:fnd key [] p=none:=rfl
theorem jj {x:α} {l:List α} {p:Str}:fnd key (x::l) p=if key x=p then some x else fnd key l p:=by
 unfold fnd;rw [List.find?_cons];by_cases h:key x=p
 ·simp [h]
 ·have e:(key x==p)=false:=by simpa using h
  rw [e,if_neg h]
theorem yN {l:List α} {p:Str} {e:α} (h:fnd key l p=some e):key e=p∧e∈l:=by
 unfold fnd at h;exact ⟨by simpa using List.find?_some h,List.mem_of_find?_eq_some h⟩
theorem qJ {l:List α} {p:Str}:fnd key l p=none↔∀ e∈l,key e≠p:=by
 unfold fnd; simp
theorem jL {l:List α} (hs:Srt key l) {e:α} (h:e∈l):fnd key l (key e)=some e:=by
 induction l with
 | nil=>cases h
 | cons x l ih =>
  rw [jj];unfold Srt at hs;rw [List.pairwise_cons] at hs;rcases List.mem_cons.1 h with rfl | h
  ·simp
  ·rw [if_neg (yS (hs.1 e h)),ih hs.2 h]
theorem Zf {l:List α} (hs:Srt key l) {e:α}:e∈l↔fnd key l (key e)=some e:=⟨jL hs,fun h=>(yN h).2⟩
theorem zg9 {a b:List α} {p:Str}:fnd key (a++b) p=(fnd key a p).or (fnd key b p):=by
 unfold fnd; rw [List.find?_append]
theorem zjn {a b:List α} (ha:Srt key a) (hb:Srt key b) (h:∀ p,fnd key a p=fnd key b p):a=b:=by
 induction a generalizing b with
 | nil =>
  cases b with
  | nil=>rfl
  | cons y b=>have:=h (key y); rw [jj,if_pos rfl,JU] at this; cases this
 | cons x a ih =>
  cases b with
  | nil=>have:=h (key x); rw [jj,if_pos rfl,JU] at this; cases this
  | cons y b =>
   unfold Srt at ha hb;rw [List.pairwise_cons] at ha hb;have hxy:key x=key y:=by
    apply Classical.byContradiction; intro hne;have h1:=h (key x);rw [jj,if_pos rfl,jj,if_neg (fun e=>hne e.symm)] at h1;have h2:=h (key y);rw [jj,if_neg hne,jj,if_pos rfl] at h2;have l1:=hb.1 x (yN h1.symm).2;have l2:=ha.1 y (yN h2).2;rw [Ys l1] at l2; cases l2
   have e:x=y:=by
    have:=h (key x);rw [jj,if_pos rfl,jj,if_pos hxy.symm] at this;exact Option.some.inj this
   subst e;rw [ih ha.2 hb.2 fun p=>?_];have:=h p;rw [jj,jj] at this;by_cases hp:key x=p
   ·subst hp;rw [qJ.2 fun e he=>(yS (ha.1 e he)).symm,qJ.2 fun e he=>(yS (hb.1 e he)).symm]
   ·rwa [if_neg hp,if_neg hp] at this
theorem Qw {l:List α} (hs:Srt key l) (q:α→Bool):Srt key (l.filter q):=List.Pairwise.filter _ hs
theorem Q7 {l:List α} (hs:Srt key l) {q:α→Bool} {p:Str}:fnd key (l.filter q) p=(fnd key l p).filter q:=by
 cases h:fnd key l p with
 | none =>
  rw [qJ] at h;exact qJ.2 fun e he=>h e (List.mem_filter.1 he).1
 | some e =>
  obtain ⟨h1,h2⟩:=yN h;subst h1;rw [Option.filter];split
  ·rename_i hq;exact jL (Qw hs q) (List.mem_filter.2 ⟨h2,hq⟩)
  ·rename_i hq;refine qJ.2 fun x hx e'=>?_
   have hx':=List.mem_filter.1 hx;have:=jL hs hx'.1;rw [e',h] at this;cases this;exact hq hx'.2
theorem zcI {e:α}:putG key [] e=[e]:=rfl
theorem zcH {x:α} {t:List α} {e:α}:putG key (x::t) e=if ltS (key x) (key e)=true then x::putG key t e else if key x=key e then e::t else e::x::t:=by
 unfold putG;by_cases h:ltS (key x) (key e)=true
 ·simp [h]
 ·simp [h];split<;>rfl
theorem qM {t:List α} {e:α} (hs:Srt key t):Srt key (putG key t e):=by
 induction t with
 | nil=>rw [zcI]; exact List.pairwise_singleton _ _
 | cons x t ih =>
  unfold Srt at hs;rw [List.pairwise_cons] at hs;rw [zcH];by_cases h:ltS (key x) (key e)=true
  ·rw [if_pos h];refine List.pairwise_cons.2 ⟨fun y hy=>?_,ih hs.2⟩;rcases Yy hy with rfl | hy
   ·exact h
   ·exact hs.1 y hy
  ·rw [if_neg h];by_cases h2:key x=key e
   ·rw [if_pos h2];exact List.pairwise_cons.2 ⟨fun y hy=>by rw [← h2]; exact hs.1 y hy,hs.2⟩
   ·rw [if_neg h2];have h3:ltS (key e) (key x)=true:=by
     rcases zhQ (by simpa using h) with h3 | h3
     ·exact absurd h3 h2
     ·exact h3
    refine List.pairwise_cons.2 ⟨fun y hy=>?_,List.pairwise_cons.2 hs⟩;rcases List.mem_cons.1 hy with rfl | hy
    ·exact h3
    ·exact J8 h3 (hs.1 y hy)
theorem ZX {t:List α} {e:α} {p:Str}:fnd key (putG key t e) p=if key e=p then some e else fnd key t p:=by
 induction t with
 | nil=>rw [zcI,jj]
 | cons x t ih =>
  rw [zcH];by_cases h:ltS (key x) (key e)=true
  ·rw [if_pos h,jj,ih,jj];by_cases hx:key x=p
   ·rw [if_pos hx,if_pos hx,if_neg fun e'=>yS h (hx.trans e'.symm)]
   ·rw [if_neg hx,if_neg hx]
  ·rw [if_neg h];by_cases h2:key x=key e
   ·rw [if_pos h2,jj,jj];by_cases hx:key e=p
    ·rw [if_pos hx,if_pos hx]
    ·rw [if_neg hx,if_neg hx,if_neg (by rw [h2]; exact hx)]
   ·rw [if_neg h2,jj]
theorem JV:∀ {l:List α} {t:List α},Srt key t→Srt key (l.foldl (putG key) t)
 | [],_,h=>h
 | _::l,_,h=>JV (l:=l) (qM h)
theorem Qx {t:List α}:Srt key t↔∀ j (h:j+1 < t.length),ltS (key t[j]) (key t[j+1])=true:=by
 constructor
 ·intro hs j h;exact List.pairwise_iff_getElem.1 hs j (j+1) (by omega) h (by omega)
 ·intro h;refine List.pairwise_iff_getElem.2 fun i j hi hj hij=>?_
  obtain ⟨d,rfl⟩:∃ d,j=i+1+d:=⟨j - i - 1,by omega⟩;induction d with
  | zero=>exact h i hj
  | succ d ih=>exact J8 (ih (by omega) (by omega)) (h (i+1+d) hj)
theorem zbt {t:List α} (hs:Srt key t) {j:Nat} (h:j < t.length) {u:Str} (hu:ltS u (key t[j])=true):fnd key (t.take j) u=fnd key t u:=by
 have e:fnd key t u=(fnd key (t.take j) u).or (fnd key (t.drop j) u):=by rw [← zg9,List.take_append_drop]
 have e2:fnd key (t.drop j) u=none:=by
  rw [qJ];intro e he hek;obtain ⟨i,hi,rfl⟩:=List.mem_iff_getElem.1 he;rw [List.getElem_drop] at hek;rw [List.length_drop] at hi;by_cases h0:i=0
  ·subst h0;simp only [Nat.add_zero] at hek;rw [hek] at hu;rw [Zo] at hu; cases hu
  ·have:=List.pairwise_iff_getElem.1 hs j (j+i) h (by omega) (by omega);rw [hek] at this;rw [Ys this] at hu; cases hu
 rw [e,e2]; simp
theorem zdN {t:List α} (hs:Srt key t) {j:Nat} (h:j < t.length) {q:α→Bool} (hq:∀ e∈t,q e=true→ltS (key e) (key t[j])=true):(t.take j).any q=t.any q:=by
 have e:t.any q=((t.take j).any q||(t.drop j).any q):=by rw [← List.any_append,List.take_append_drop]
 have e2:(t.drop j).any q=false:=by
  rw [List.any_eq_false];intro x hx hqx;have hlt:=hq x (List.mem_of_mem_drop hx) hqx;obtain ⟨i,hi,rfl⟩:=List.mem_iff_getElem.1 hx;rw [List.getElem_drop] at hlt;rw [List.length_drop] at hi;by_cases h0:i=0
  ·subst h0;simp only [Nat.add_zero] at hlt;rw [Zo] at hlt; cases hlt
  ·have:=List.pairwise_iff_getElem.1 hs j (j+i) h (by omega) (by omega);rw [Ys this] at hlt; cases hlt
 rw [e,e2]; simp
end

theorem zdD {p:Str} (h:pOk p=true) (hu:pUp p≠[47]):ltS (pUp p) p=true:=by
 obtain ⟨a,l,e,_,_,_,_,_,_,hup⟩:=Jd h;by_cases ha:a=[]
 ·rw [if_pos ha] at hup; exact absurd hup hu
 ·rw [if_neg ha] at hup;rw [hup];conv=>lhs; arg 2; rw [e]
  exact zb3 a 47 l
theorem zjI {p d:Str} (h:und p d=true) (hd:d≠[47]):ltS d p=true:=by
 unfold und at h;simp only [Bool.or_eq_true,beq_iff_eq,List.isPrefixOf_iff_prefix] at h;rcases h with h | ⟨r,h⟩
 ·exact absurd h hd
 ·rw [← h,List.append_assoc]; exact zb3 d 47 r
theorem yU {p:Str} (h:pOk p=true):p≠[47]:=by rintro rfl; have:=(Jc h).1; simp at this
def eok (e:Ent):Bool:=pOk e.path&&(yK e.data&&!(e.dir&&e.data != []))
theorem QH {t:List Ent}:tOk t=true↔t.length≤16∧Srt Ent.path t∧(∀ e∈t,eok e=true)∧∀ e∈t,zJ t (pUp e.path)=true:=by
 have key:∀ {j} (h:j < t.length),Srt Ent.path t→pOk t[j].path=true→zJ (t.take j) (pUp t[j].path)=zJ t (pUp t[j].path):=by
  intro j h hs hp;unfold zJ get;by_cases hu:pUp t[j].path=[47]
  ·rw [if_pos hu,if_pos hu]
  ·rw [if_neg hu,if_neg hu];have:find (t.take j) (pUp t[j].path)=find t (pUp t[j].path):=zbt hs h (zdD hp hu);rw [this]
 constructor
 ·intro h;obtain ⟨h1,h2⟩:=zjD h;have hs:Srt Ent.path t:=Qx.2 fun j hj=>by
   have:=h2 (j+1) hj;simp only [ok1,Bool.and_eq_true] at this;have:=this.2.2.2.1;have hl:(t.take (j+1)).getLast? = some t[j]:=by
    rw [List.getLast?_take,if_neg (by omega),List.getElem?_eq_getElem (by omega)]; rfl
   rw [hl] at this;exact this
  refine ⟨h1,hs,fun e he=>?_,fun e he=>?_⟩
  ·obtain ⟨j,hj,rfl⟩:=List.mem_iff_getElem.1 he;have:=h2 j hj;simp only [ok1,Bool.and_eq_true] at this;simp only [eok,Bool.and_eq_true];exact ⟨this.1,this.2.1,this.2.2.1⟩
  ·obtain ⟨j,hj,rfl⟩:=List.mem_iff_getElem.1 he;have:=h2 j hj;simp only [ok1,Bool.and_eq_true] at this;rw [← key hj hs this.1];exact this.2.2.2.2
 ·rintro ⟨h1,hs,h3,h4⟩;simp only [tOk,Bool.and_eq_true,decide_eq_true_eq];refine ⟨h1,okA0.2 fun j hj=>?_⟩;have he:=h3 _ (List.getElem_mem hj);simp only [eok,Bool.and_eq_true] at he;simp only [ok1,Bool.and_eq_true];refine ⟨he.1,he.2.1,he.2.2,?_,by rw [key hj hs he.1]; exact h4 _ (List.getElem_mem hj)⟩;cases j with
  | zero=>rfl
  | succ j =>
   have hl:(t.take (j+1)).getLast? = some t[j]:=by
    rw [List.getLast?_take,if_neg (by omega),List.getElem?_eq_getElem (by omega)]; rfl
   rw [hl];exact Qx.1 hs j hj
def mok (m:Mark):Bool:=(decide (1≤m.kind)&&decide (m.kind≤4))&&(pOk m.path&&(yK m.data&&!(m.kind != 1&&m.data != [])))
theorem Qe {m:Mark} (h:mok m=true):pOk m.path=true:=by
 simp only [mok,Bool.and_eq_true] at h; exact h.2.1
theorem yQ {l:List Mark}:lOk l=true↔l.length≤32∧Srt Mark.path l∧(∀ m∈l,mok m=true)∧(∀ m∈l,inD l m.path=true)∧∀ m∈l,2 < m.kind→bare l m.path=false:=by
 have k1:∀ {j} (h:j < l.length),Srt Mark.path l→pOk l[j].path=true→inD (l.take j) l[j].path=inD l l[j].path:=by
  intro j h hs hp;unfold inD kind;by_cases hu:pUp l[j].path=[47]
  ·simp [hu]
  ·have:zG (l.take j) (pUp l[j].path)=zG l (pUp l[j].path):=zbt hs h (zdD hp hu);rw [this]
 have k2:∀ {j} (h:j < l.length),Srt Mark.path l→(∀ m∈l,mok m=true)→bare (l.take j) l[j].path=bare l l[j].path:=by
  intro j h hs hm;refine zdN hs h fun m hmem hq=>?_
  simp only [Bool.and_eq_true] at hq;exact zjI hq.2 (yU (Qe (hm m hmem)))
 constructor
 ·intro h;simp only [lOk,Bool.and_eq_true,decide_eq_true_eq] at h;have h2:=mokA0.1 h.2;have hs:Srt Mark.path l:=Qx.2 fun j hj=>by
   have:=h2 (j+1) hj;simp only [mok1,Bool.and_eq_true] at this;have:=this.2.2.2.2.1;have hl:(l.take (j+1)).getLast? = some l[j]:=by
    rw [List.getLast?_take,if_neg (by omega),List.getElem?_eq_getElem (by omega)]; rfl
   rw [mlast,hl] at this;exact this
  have hm:∀ m∈l,mok m=true:=fun m hm=>by
   obtain ⟨j,hj,rfl⟩:=List.mem_iff_getElem.1 hm;have:=h2 j hj;simp only [mok1,Bool.and_eq_true] at this;simp only [mok,Bool.and_eq_true];exact ⟨this.1,this.2.1,this.2.2.1,this.2.2.2.1⟩
  refine ⟨h.1,hs,hm,fun m he=>?_,fun m he hk=>?_⟩
  ·obtain ⟨j,hj,rfl⟩:=List.mem_iff_getElem.1 he;have:=h2 j hj;simp only [mok1,Bool.and_eq_true] at this;rw [← k1 hj hs this.2.1];exact this.2.2.2.2.2.1
  ·obtain ⟨j,hj,rfl⟩:=List.mem_iff_getElem.1 he;have:=h2 j hj;simp only [mok1,Bool.and_eq_true] at this;have:=this.2.2.2.2.2.2;rw [k2 hj hs hm] at this
   simpa [hk] using this
 ·rintro ⟨h1,hs,h3,h4,h5⟩;simp only [lOk,Bool.and_eq_true,decide_eq_true_eq];refine ⟨h1,mokA0.2 fun j hj=>?_⟩;have he:=h3 _ (List.getElem_mem hj);simp only [mok,Bool.and_eq_true] at he;simp only [mok1,Bool.and_eq_true];refine ⟨he.1,he.2.1,he.2.2.1,he.2.2.2,?_,by rw [k1 hj hs he.2.1]; exact h4 _ (List.getElem_mem hj),?_⟩
  ·unfold mlast;cases j with
   | zero=>rfl
   | succ j =>
    have hl:(l.take (j+1)).getLast? = some l[j]:=by
     rw [List.getLast?_take,if_neg (by omega),List.getElem?_eq_getElem (by omega)]; rfl
    rw [hl];exact Qx.1 hs j hj
  ·rw [k2 hj hs h3];by_cases hk:2 < l[j].kind
   ·rw [h5 _ (List.getElem_mem hj) hk]; simp
   ·simp [hk]
theorem Jt {p u d:Str} (hd:d≠[47]) (hu:u≠[47]) (h1:und p u=true) (h2:und u d=true):und p d=true:=by
 unfold und at h1 h2 ⊢;simp only [Bool.or_eq_true,beq_iff_eq,List.isPrefixOf_iff_prefix] at h1 h2 ⊢;rcases h1 with h1 | ⟨r,h1⟩
 ·exact absurd h1 hu
 rcases h2 with h2 | ⟨s,h2⟩
 ·exact absurd h2 hd
 right;exact ⟨s++[47]++r,by rw [← h1,← h2]; simp⟩
theorem yb {p:Str} (h:pOk p=true):und p (pUp p)=true:=by
 obtain ⟨a,l,e,_,_,_,_,_,_,hup⟩:=Jd h;unfold und;by_cases ha:a=[]
 ·rw [if_pos ha] at hup; simp [hup]
 ·rw [if_neg ha] at hup;simp only [Bool.or_eq_true,List.isPrefixOf_iff_prefix];right;exact ⟨l,by rw [hup]; (conv=>rhs; rw [e]); simp⟩
theorem zdB {p d:Str} (h:pOk p=true) (hd:pOk d=true) (hu:und p d=true):pUp p=d∨(pUp p≠[47]∧pOk (pUp p)=true∧und (pUp p) d=true):=by
 have hdr:=yU hd;unfold und at hu;simp only [Bool.or_eq_true,beq_iff_eq,List.isPrefixOf_iff_prefix] at hu;rcases hu with hu | ⟨r,hu⟩
 ·exact absurd hu hdr
 obtain ⟨a,l,e,hl,_,_,_,_,_,hup⟩:=Jd h;have e2:d++47::r=a++47::l:=by rw [← e,← hu]; simp
 have hda:d=a∨∃ s,a=d++47::s:=by
  rcases List.append_eq_append_iff.1 e2 with ⟨s,h1,h2⟩ | ⟨s,h1,h2⟩
  ·cases s with
   | nil=>left; rw [h1]; simp
   | cons x s =>
    rw [List.cons_append,List.cons.injEq] at h2;obtain ⟨rfl,h2⟩:=h2;exact .inr ⟨s,h1⟩
  ·cases s with
   | nil=>left; rw [h1]; simp
   | cons x s =>
    rw [List.cons_append,List.cons.injEq] at h2;obtain ⟨rfl,h2⟩:=h2;exact absurd (by rw [h2]; simp) hl
 have ha:a≠[]:=by
  rintro rfl;rcases hda with h1 | ⟨s,h1⟩
  ·subst h1; have:=(Jc hd).1; simp at this
  ·simp at h1
 rw [if_neg ha] at hup;rcases hda with rfl | ⟨s,hs⟩
 ·exact .inl hup
 ·right;have hne:pUp p≠[47]:=by
   rw [hup,hs];have h1:=(Jc hd).1;intro e; have:=congrArg List.length e; simp at this; omega
  refine ⟨hne,(yw h hne).1,?_⟩;unfold und;simp only [Bool.or_eq_true,List.isPrefixOf_iff_prefix];right;exact ⟨s,by rw [hup,hs]; simp⟩
theorem jq {t:List Ent} {p:Str} (h:pOk p=true):get t p=find t p:=by
 unfold get; rw [if_neg (yU h)]
theorem zbK {t:List Ent}:zJ t [47]=true:=rfl

def jx (m:Mark):Option Ent:=if m.kind=1 then some ⟨m.path,false,m.data⟩ else if m.kind=2∨m.kind=4 then some ⟨m.path,true,[]⟩ else none
theorem zcq (out:List Ent) (m:Mark):onP out m=match jx m with
 | some e=>put out e
 | none=>out:=by
 unfold onP jx;by_cases h1:m.kind=1
 ·rw [if_pos h1,if_pos h1]
 ·rw [if_neg h1,if_neg h1];by_cases h2:m.kind=2∨m.kind=4
  ·rw [if_pos h2,if_pos h2]
  ·rw [if_neg h2,if_neg h2]
theorem Z9 {m:Mark} {e:Ent} (h:jx m=some e):e.path=m.path:=by
 unfold jx at h;split at h
 ·cases h; rfl
 ·split at h
  ·cases h; rfl
  ·cases h
theorem zjp {out:List Ent} {m:Mark} (h:Srt Ent.path out):Srt Ent.path (onP out m):=by
 rw [zcq];split
 ·exact qM h
 ·exact h
theorem zha {out:List Ent} {m:Mark} {p:Str}:find (onP out m) p=if m.path=p then (jx m).or (find out p) else find out p:=by
 rw [zcq];cases h:jx m with
 | none=>simp
 | some e =>
  have:find (put out e) p=if e.path=p then some e else find out p:=ZX
  simp only [this,Z9 h,Option.some_or]
theorem zdk:∀ {l:List Mark} {out:List Ent},Srt Ent.path out→Srt Ent.path (l.foldl onP out)
 | [],_,h=>h
 | _::l,_,h=>zdk (l:=l) (zjp h)
theorem zbr:∀ {l:List Mark} {out:List Ent} {p:Str},Srt Mark.path l→find (l.foldl onP out) p=match zG l p with
  | some m=>(jx m).or (find out p)
  | none=>find out p
 | [],_,_,_=>rfl
 | m::l,out,p,hs=>by
  unfold Srt at hs;rw [List.pairwise_cons] at hs;rw [List.foldl_cons,zbr (l:=l) hs.2,zha];have e:zG (m::l) p=if m.path=p then some m else zG l p:=jj (key:=Mark.path)
  rw [e];by_cases h:m.path=p
  ·have h2:zG l p=none:=qJ.2 fun x hx=>by rw [← h]; exact (yS (hs.1 x hx)).symm
   rw [if_pos h,h2,if_pos h]
  ·rw [if_neg h,if_neg h]
theorem zab {l:List Mark} {t:List Ent} (ht:Srt Ent.path t):Srt Ent.path (jC l t):=zdk (Qw ht _)
theorem YN {l:List Mark} {t:List Ent} (hs:Srt Mark.path l) (ht:Srt Ent.path t) (p:Str):find (jC l t) p=match zG l p with
  | some m=>jx m
  | none=>if zZ l p=true then none else find t p:=by
 have hf:find (t.filter fun e=>!zZ l e.path) p=if zZ l p=true then none else find t p:=by
  have h:find (t.filter fun e=>!zZ l e.path) p=(find t p).filter fun e=>!zZ l e.path:=Q7 ht
  rw [h];cases hp:find t p with
  | none=>simp
  | some e =>
   have:=(ju hp).1;rw [Option.filter,this];cases zZ l p<;>rfl
 unfold jC;rw [zbr hs,hf];cases h:zG l p with
 | none=>rfl
 | some m =>
  simp only;obtain ⟨h1,h2⟩:=q7 h;cases ho:jx m with
  | some e=>rfl
  | none =>
   have hk:m.kind≠2:=by
    intro e; unfold jx at ho; rw [if_neg (by omega),if_pos (.inl e)] at ho; cases ho
   have:zZ l p=true:=by
    unfold zZ;rw [List.any_eq_true];exact ⟨m,h2,by simp [hidP,h1,hk]⟩
   rw [if_pos this]; rfl
theorem YM {l:List Mark} {t:List Ent} (hl:lOk l=true) (ht:Srt Ent.path t) (p:Str):find (jC l t) p=match zG l p with
  | some m=>jx m
  | none=>if zZ l p=true then none else find t p:=YN (yQ.1 hl).2.1 ht p
theorem Yx {l:List Mark} {t:List Ent} (hl:lOk l=true) (ht:Srt Ent.path t) {e:Ent}:e∈jC l t↔(∃ m∈l,jx m=some e)∨(zG l e.path=none∧zZ l e.path=false∧e∈t):=by
 obtain ⟨_,hs,hm,_⟩:=yQ.1 hl;have h:e∈jC l t↔find (jC l t) e.path=some e:=Zf (zab ht);rw [h,YM hl ht];cases hf:zG l e.path with
 | some m =>
  obtain ⟨h1,h2⟩:=q7 hf;simp only [reduceCtorEq,false_and,or_false];constructor
  ·exact fun h=>⟨m,h2,h⟩
  ·rintro ⟨m',hm',h'⟩;have:=Z9 h';have h3:zG l m'.path=some m':=jL hs hm';rw [← this,hf] at h3;cases h3; exact h'
 | none =>
  have hn:∀ m∈l,m.path≠e.path:=qJ.1 hf;simp only [true_and];constructor
  ·intro h;right;cases hh:zZ l e.path with
   | true=>rw [hh] at h; simp at h
   | false=>rw [hh] at h; simp at h; exact ⟨rfl,(ju h).2⟩
  ·rintro (⟨m,hm',h'⟩ | ⟨h1,h2⟩)
   ·exact absurd (Z9 h').symm (hn m hm')
   ·rw [h1]; simp; exact jL ht h2
theorem zid {m:Mark} {e:Ent} (h:mok m=true) (ho:jx m=some e):eok e=true:=by
 simp only [mok,Bool.and_eq_true,Bool.not_eq_true',Bool.and_eq_false_iff] at h;unfold jx at ho;split at ho
 ·cases ho; simp [eok,h.2.1,h.2.2.1]
 ·split at ho
  ·cases ho; simp [eok,h.2.1]; rfl
  ·cases ho
theorem zif {l:List Mark} {t:List Ent} (hl:lOk l=true) (ht:tOk t=true):Srt Ent.path (jC l t)∧(∀ e∈jC l t,eok e=true)∧∀ e∈jC l t,zJ (jC l t) (pUp e.path)=true:=by
 obtain ⟨_,hs,hm,hin,hb⟩:=yQ.1 hl;obtain ⟨_,ts,te,tu⟩:=QH.1 ht;refine ⟨zab ts,fun e he=>?_,fun e he=>?_⟩
 ·rcases (Yx hl ts).1 he with ⟨m,h1,h2⟩ | ⟨_,_,h3⟩
  ·exact zid (hm m h1) h2
  ·exact te e h3
 ·have hd:∀ m∈l,m.kind=2∨m.kind=4→zJ (jC l t) m.path=true:=by
   intro m hmem hk;have hp:=Qe (hm m hmem);have h3:zG l m.path=some m:=jL hs hmem;unfold zJ;rw [jq hp,YM hl ts,h3];simp only [jx];rw [if_neg (by omega),if_pos hk]
  rcases (Yx hl ts).1 he with ⟨m,h1,h2⟩ | ⟨h1,h2,h3⟩
  ·rw [Z9 h2];have:=hin m h1;unfold inD at this;simp only [Bool.or_eq_true,beq_iff_eq] at this;rcases this with h | h
   ·rw [h]; rfl
   ·unfold kind at h;cases hf:zG l (pUp m.path) with
    | none=>rw [hf] at h; simp at h
    | some m' =>
     rw [hf] at h;obtain ⟨g1,g2⟩:=q7 hf;rw [← g1];exact hd m' g2 h
  ·have hep:=te e h3;simp only [eok,Bool.and_eq_true] at hep;have hpe:=hep.1;have htu:=tu e h3;by_cases hr:pUp e.path=[47]
   ·rw [hr]; rfl
   have hup:=(yw hpe hr).1;have hnot:∀ m∈l,hidP e.path m=false:=by
    intro m hmem;unfold zZ at h2;rw [List.any_eq_false] at h2
    simpa using h2 m hmem
   cases hf:zG l (pUp e.path) with
   | some m =>
    obtain ⟨g1,g2⟩:=q7 hf;rw [← g1];refine hd m g2 ?_;have:=hnot m g2;unfold hidP at this;have hu:und e.path m.path=true:=by rw [g1]; exact yb hpe
    simp [hu] at this;exact .inl this.2
   | none =>
    have hh:zZ l (pUp e.path)=false:=by
     unfold zZ;rw [List.any_eq_false];intro m hmem hc;have h0:=hnot m hmem;have hmr:=yU (Qe (hm m hmem));unfold hidP at hc h0;simp only [Bool.or_eq_true,Bool.and_eq_true,beq_iff_eq,bne_iff_ne] at hc;rcases hc with ⟨c1,_⟩ | ⟨c1,c2⟩
     ·exact qJ.1 hf m hmem c1
     ·have:=Jt hmr hr (yb hpe) c2;simp [this,c1] at h0
    unfold zJ at htu ⊢;rw [jq hup] at htu ⊢;rw [YM hl ts,hf];simp only [hh,Bool.false_eq_true,if_false];exact htu
theorem zbR {l:List Mark} {t t':List Ent} (h:lOn l t=some t'):tOk t'=true:=by
 obtain ⟨h1,h2,h3,rfl⟩:=J4 h;exact QH.2 ⟨h1,zif h2 h3⟩
theorem zb0:∀ {a b:List (List Mark)} {t:List Ent},lowerA (a++b) t=match lowerA a t with
  | some t'=>lowerA b t'
  | none=>none
 | [],_,_=>rfl
 | l::a,b,t=>by
  rw [List.cons_append,lowerA,lowerA];cases lOn l t with
  | none=>rfl
  | some t'=>exact zb0 (a:=a)
theorem zb2:∀ {a:List (List Mark)} {t t':List Ent},tOk t=true→lowerA a t=some t'→tOk t'=true
 | [],t,t',h,h2=>by cases h2; exact h
 | l::a,t,t',h,h2=>by
  rw [lowerA] at h2;cases h3:lOn l t with
  | none=>rw [h3] at h2; cases h2
  | some x=>rw [h3] at h2; exact zb2 (a:=a) (zbR h3) h2
theorem Yp {o:Over} {t:List Ent} (h:jO o=some t):tOk t=true:=by
 unfold jO at h;split at h
 ·rename_i hc; exact zb2 hc.1 h
 ·cases h
theorem zdH {o:Over} {t:List Ent} (h:j5 o=some t):tOk t=true:=by
 unfold j5 at h;split at h
 ·exact zbR h
 ·cases h
def topN (all:List (List Mark)) (p:Str):Nat→Nat
 | 0=>0
 | k+1=>if kind (all.getD k []) p≠0 then k+1 else topN all p k
def allL (o:Over):List (List Mark):=o.layers++[o.upper]
def oGet (o:Over) (p:Str):Option (Ent × Int):=if oOk o=true then (match j5 o with
 | some t=>match get t p with
  | some e=>some (e,(topN (allL o) p (allL o).length:Int))
  | none=>none
 | none=>none) else none
theorem zcl {o:Over} (h:oOk o=true):∃ t x,jO o=some t∧j5 o=some x∧o.upper=diff t x:=by
 unfold oOk at h;split at h
 ·rename_i t x h1 h2; exact ⟨t,x,h1,h2,by simpa using h⟩
 ·cases h

section
variable {α:Type} {key:α→Str}
theorem JT:∀ {l t:List α} {p:Str},Srt key l→fnd key (l.foldl (putG key) t) p=(fnd key l p).or (fnd key t p)
 | [],t,p,_=>by simp [JU]
 | e::l,t,p,hs=>by
  unfold Srt at hs;rw [List.pairwise_cons] at hs;rw [List.foldl_cons,JT (l:=l) hs.2,ZX,jj];by_cases h:key e=p
  ·have h2:fnd key l p=none:=qJ.2 fun x hx=>by rw [← h]; exact (yS (hs.1 x hx)).symm
   rw [if_pos h,if_pos h,h2]; rfl
  ·rw [if_neg h,if_neg h]
theorem zjo {f:α→α} (hf:∀ x,key (f x)=key x) {l:List α} (hs:Srt key l):Srt key (l.map f):=by
 unfold Srt at hs ⊢;rw [List.pairwise_map];exact hs.imp fun h=>by rw [hf,hf]; exact h
theorem zbs {f:α→α} (hf:∀ x,key (f x)=key x):∀ {l:List α} {p:Str},fnd key (l.map f) p=(fnd key l p).map f
 | [],_=>rfl
 | x::l,p=>by
  rw [List.map_cons,jj,jj,hf,zbs hf (l:=l)];split<;>rfl
end
structure LG (l:List Mark):Prop where
 srt:Srt Mark.path l
 ok:∀ m∈l,mok m=true
theorem LG.of {l:List Mark} (h:lOk l=true):LG l:=by obtain ⟨_,hs,hm,_⟩:=yQ.1 h; exact ⟨hs,hm⟩
theorem LG.path {l:List Mark} (h:LG l) {m:Mark} (hm:m∈l):pOk m.path=true:=Qe (h.ok m hm)
theorem LG.root {l:List Mark} (h:LG l) {m:Mark} (hm:m∈l):m.path≠[47]:=yU (h.path hm)
theorem LG.at {l:List Mark} (h:LG l) {m:Mark} (hm:m∈l):zG l m.path=some m:=jL h.srt hm
theorem zhY {m:Mark} (h:mok m=true):1≤m.kind∧m.kind≤4:=by
 simp only [mok,Bool.and_eq_true,decide_eq_true_eq] at h; exact h.1
theorem LG.kind0 {l:List Mark} (h:LG l) {p:Str}:kind l p=0↔zG l p=none:=by
 unfold kind;cases hf:zG l p with
 | none=>simp
 | some m =>
  have:=zhY (h.ok m (q7 hf).2);simp; omega
theorem Yf {l:List Mark} {p:Str} {m:Mark} (hm:m∈l) (hk:m.kind≠2) (h:m.path=p∨und p m.path=true):zZ l p=true:=by
 unfold zZ; rw [List.any_eq_true];refine ⟨m,hm,?_⟩;unfold hidP;rcases h with h | h
 ·simp [h,hk]
 ·simp [h,hk]
theorem zcn {l:List Mark} {p:Str} (h:zZ l p=true):∃ m∈l,m.kind≠2∧(m.path=p∨und p m.path=true):=by
 unfold zZ at h; rw [List.any_eq_true] at h;obtain ⟨m,hm,h⟩:=h;unfold hidP at h;simp only [Bool.or_eq_true,Bool.and_eq_true,beq_iff_eq,bne_iff_ne] at h;rcases h with ⟨h1,h2⟩ | ⟨h1,h2⟩
 ·exact ⟨m,hm,h2,.inl h1⟩
 ·exact ⟨m,hm,h1,.inr h2⟩
theorem LG.hides_und {l:List Mark} (h:LG l) {p d:Str} (hd:d≠[47]) (hu:und p d=true) (hh:zZ l d=true):zZ l p=true:=by
 obtain ⟨m,hm,hk,h1⟩:=zcn hh;refine Yf hm hk (.inr ?_);rcases h1 with h1 | h1
 ·rw [h1]; exact hu
 ·exact Jt (h.root hm) hd hu h1
theorem zia {l:List Mark} {p:Str} (h:bare l p=true):∃ m∈l,m.kind=4∧und p m.path=true:=by
 unfold bare at h; rw [List.any_eq_true] at h;obtain ⟨m,hm,h⟩:=h;simp only [Bool.and_eq_true,beq_iff_eq] at h;exact ⟨m,hm,h.1,h.2⟩
def tidyP (l:List Mark) (m:Mark):Option Mark:=if bare l m.path=true then (if m.kind=3 then none else some (if m.kind=4 then { m with kind:=2 } else m)) else some m
def tidyL (l:List Mark):List Mark:=l.filterMap (tidyP l)
theorem zhU {l:List Mark} {m:Mark}:m∈tidyL l↔∃ x∈l,tidyP l x=some m:=List.mem_filterMap
def bothK (a b:Int):Int:=if a=2∧b≠0∧b≠2 then 4 else a
def qg (b:List Mark) (m:Mark):Mark:={ m with kind:=bothK m.kind (kind b m.path) }
def yP (a:List Mark) (m:Mark):Bool:=!zZ a m.path&&kind a m.path==0
def yj (a b:List Mark):List Mark:=(a.map (qg b)).foldl lput ((b.filter (yP a)).foldl lput [])
def joinL (a b:List Mark):List Mark:=tidyL (yj a b)
theorem zhB {a b:List Mark} (ha:LG a) (hb:LG b) {p:Str}:zG (yj a b) p=match zG a p with
  | some m=>some (qg b m)
  | none=>if zZ a p=true then none else zG b p:=by
 have h1:fnd Mark.path (yj a b) p=(fnd Mark.path (a.map (qg b)) p).or (fnd Mark.path ((b.filter (yP a)).foldl lput []) p):=JT (zjo (f:=qg b) (fun _=>rfl) ha.srt);have h2:fnd Mark.path ((b.filter (yP a)).foldl lput []) p=(fnd Mark.path (b.filter (yP a)) p).or (fnd Mark.path [] p):=JT (Qw hb.srt _);have h3:fnd Mark.path (b.filter (yP a)) p=(zG b p).filter (yP a):=Q7 hb.srt;have h4:fnd Mark.path (a.map (qg b)) p=(zG a p).map (qg b):=zbs (f:=qg b) (fun _=>rfl);show fnd Mark.path (yj a b) p=_;rw [h1,h2,h3,h4,JU];cases hf:zG a p with
 | some m=>rfl
 | none =>
  have hk:=ha.kind0.2 hf;cases hg:zG b p with
  | none=>simp
  | some m =>
   have hp:=(q7 hg).1;simp [Option.filter,yP,hp,hk];cases zZ a p<;>rfl
theorem zhC {a b:List Mark}:Srt Mark.path (yj a b):=JV (JV List.Pairwise.nil)
theorem zhT {a b:List Mark} (ha:LG a) (hb:LG b) {m:Mark}:m∈yj a b↔(∃ x∈a,m=qg b x)∨(m∈b∧zG a m.path=none∧zZ a m.path=false):=by
 have h:m∈yj a b↔zG (yj a b) m.path=some m:=Zf zhC;rw [h,zhB ha hb];cases hf:zG a m.path with
 | some x =>
  obtain ⟨h1,h2⟩:=q7 hf;simp only [Option.some.injEq,reduceCtorEq,false_and,and_false,or_false];constructor
  ·rintro rfl; exact ⟨x,h2,rfl⟩
  ·rintro ⟨y,hy,rfl⟩;have:zG a y.path=some y:=ha.at hy;have e:(qg b y).path=y.path:=rfl;rw [e,this] at hf; cases hf; rfl
 | none =>
  simp only [true_and];have hn:¬ ∃ x∈a,m=qg b x:=by
   rintro ⟨y,hy,rfl⟩;have:zG a y.path=some y:=ha.at hy;have e:(qg b y).path=y.path:=rfl;rw [e,this] at hf; cases hf
  cases hh:zZ a m.path with
  | true=>simp [hn]
  | false =>
   simp only [Bool.false_eq_true,if_false,hn,and_true,false_or];exact (Zf hb.srt).symm
theorem zhv {l:List Mark} {p:Str}:inD l p=true↔pUp p=[47]∨∃ m,zG l (pUp p)=some m∧(m.kind=2∨m.kind=4):=by
 unfold inD kind;cases h:zG l (pUp p) with
 | none=>simp
 | some m=>simp
def lJoin (a b:List Mark):Option (List Mark):=if (lOk a&&lOk b)=true then (if (joinL a b).length≤32 then some (joinL a b) else none) else none

theorem YJ {α:Type} [DecidableEq α]:∀ {l k:List α},l.Nodup→(∀ x∈l,x∈k)→l.length≤k.length
 | [],_,_,_=>by simp
 | x::l,k,hn,h=>by
  rw [List.nodup_cons] at hn;have hx:=h x (by simp);have ih:=YJ (l:=l) (k:=k.erase x) hn.2 fun y hy=>by
   refine (List.mem_erase_of_ne ?_).2 (h y (by simp [hy]));rintro rfl; exact hn.1 hy
  rw [List.length_erase_of_mem hx] at ih;have:=List.length_pos_of_mem hx;simp; omega
theorem Qy {α:Type} {key:α→Str} {l:List α} (hs:Srt key l):(l.map key).Nodup:=by
 unfold List.Nodup;rw [List.pairwise_map];exact hs.imp fun h=>yS h
structure TG (t:List Ent):Prop where
 len:t.length≤16
 srt:Srt Ent.path t
 ok:∀ e∈t,eok e=true
 up:∀ e∈t,zJ t (pUp e.path)=true
theorem TG.of {t:List Ent} (h:tOk t=true):TG t:=by obtain ⟨a,b,c,d⟩:=QH.1 h; exact ⟨a,b,c,d⟩
theorem TG.path {t:List Ent} (h:TG t) {e:Ent} (he:e∈t):pOk e.path=true:=by
 have:=h.ok e he; simp only [eok,Bool.and_eq_true] at this; exact this.1
theorem TG.data {t:List Ent} (h:TG t) {e:Ent} (he:e∈t) (hd:e.dir=true):e.data=[]:=by
 have:=h.ok e he; simp only [eok,Bool.and_eq_true,hd,Bool.true_and] at this
 simpa using this.2.2
theorem TG.datOk {t:List Ent} (h:TG t) {e:Ent} (he:e∈t):yK e.data=true:=by
 have:=h.ok e he; simp only [eok,Bool.and_eq_true] at this; exact this.2.1
theorem TG.at {t:List Ent} (h:TG t) {e:Ent} (he:e∈t):find t e.path=some e:=jL h.srt he
theorem TG.find_ok {t:List Ent} (h:TG t) {p:Str} {e:Ent} (hf:find t p=some e):pOk p=true:=by
 obtain ⟨h1,h2⟩:=ju hf; rw [← h1]; exact h.path h2
theorem TG.isDir_ent {t:List Ent} (h:TG t) {p:Str} (hp:pOk p=true) (hd:zJ t p=true):find t p=some ⟨p,true,[]⟩:=by
 unfold zJ at hd;rw [jq hp] at hd;cases hf:find t p with
 | none=>rw [hf] at hd; cases hd
 | some e =>
  rw [hf] at hd;obtain ⟨h1,h2⟩:=ju hf;have:=h.data h2 hd;obtain ⟨a,b,c⟩:=e;simp at h1 hd this;rw [h1,hd,this]
theorem TG.anc {t:List Ent} (h:TG t):∀ (n:Nat) {p d:Str},(names p).length≤n→pOk p=true→pOk d=true→und p d=true→zJ t (pUp p)=true→find t d=some ⟨d,true,[]⟩
 | 0,p,d,hn,hp,_,_,_=>by have:=(yV hp).1.1; omega
 | n+1,p,d,hn,hp,hd,hu,hf=>by
  rcases zdB hp hd hu with h1 | ⟨h1,h2,h3⟩
  ·rw [h1] at hf; exact h.isDir_ent hd hf
  ·have hup:=(yw hp h1).2.2;refine h.anc n (by omega) h2 hd h3 ?_;have:=h.isDir_ent h2 hf;exact h.up _ (ju this).2
theorem TG.anc' {t:List Ent} (h:TG t) {p d:Str} {e:Ent} (hf:find t p=some e) (hd:pOk d=true) (hu:und p d=true):find t d=some ⟨d,true,[]⟩:=by
 have hp:=h.find_ok hf;refine h.anc _ (Nat.le_refl _) hp hd hu ?_;obtain ⟨h1,h2⟩:=ju hf;have:=h.up e h2;rw [h1] at this; exact this
theorem Q5 {a b:List Ent} (ha:TG a) (hb:TG b) {p:Str}:find (both a b) p=(find b p).or (find a p):=JT hb.srt
theorem zdU {a b:List Ent} (ha:TG a):Srt Ent.path (both a b):=JV ha.srt
theorem Zq {a b:List Ent} (ha:TG a) (hb:TG b) {p:Str}:p∈jH a b↔find a p≠find b p:=by
 have hok:∀ {q},(∃ e,find a q=some e)∨(∃ e,find b q=some e)→pOk q=true:=by
  rintro q (⟨e,h⟩ | ⟨e,h⟩)
  ·exact ha.find_ok h
  ·exact hb.find_ok h
 unfold jH;rw [List.mem_map];constructor
 ·rintro ⟨e,he,rfl⟩;obtain ⟨h1,h2⟩:=List.mem_filter.1 he;have:find (both a b) e.path=some e:=jL (zdU ha) h1;rw [Q5 ha hb] at this;have hp:pOk e.path=true:=by
   refine hok ?_;cases hb':find b e.path with
   | some x=>exact .inr ⟨x,rfl⟩
   | none=>rw [hb'] at this; exact .inl ⟨e,by simpa using this⟩
  simp only [tudP,decide_eq_true_eq,jq hp] at h2;exact h2
 ·intro h;cases hf:find (both a b) p with
  | none =>
   rw [Q5 ha hb] at hf;cases hb':find b p with
   | some x=>rw [hb'] at hf; cases hf
   | none=>rw [hb'] at hf h; simp at hf; rw [hf] at h; exact absurd rfl h
  | some e =>
   obtain ⟨h1,h2⟩:=ju hf;refine ⟨e,List.mem_filter.2 ⟨h2,?_⟩,h1⟩;rw [Q5 ha hb] at hf;have hp:pOk p=true:=by
    refine hok ?_;cases hb':find b p with
    | some x=>exact .inr ⟨x,rfl⟩
    | none=>rw [hb'] at hf; exact .inl ⟨e,by simpa using hf⟩
   simp only [tudP,decide_eq_true_eq,h1,jq hp];exact h
theorem zak:∀ (n:Nat) {p u:Str},pOk p=true→u∈upsN n p→pOk u=true∧und p u=true∧(pUp u=[47]∨(names p).length≤n→pUp u=[47]∨pUp u∈upsN n p)
 | 0,p,u,_,h=>by simp [upsN] at h
 | n+1,p,u,hp,h=>by
  unfold upsN at h ⊢;split at h
  ·simp at h
  ·rename_i hr;rw [if_neg hr];obtain ⟨q1,q2,q3⟩:=yw hp hr;rcases List.mem_cons.1 h with rfl | h
   ·refine ⟨q1,yb hp,fun hh=>?_⟩;by_cases hr2:pUp (pUp p)=[47]
    ·exact .inl hr2
    ·rcases hh with hh | hh
     ·exact .inl hh
     ·right;have hn1:=(yV q1).1.1;cases n with
      | zero=>omega
      | succ n=>refine List.mem_cons_of_mem _ ?_; unfold upsN; rw [if_neg hr2]; simp
   ·obtain ⟨h1,h2,h3⟩:=zak n q1 h;refine ⟨h1,Jt (yU h1) hr (yb hp) h2,fun hh=>?_⟩;rcases h3 (hh.imp id fun hh=>by omega) with h4 | h4
    ·exact .inl h4
    ·exact .inr (List.mem_cons_of_mem _ h4)
def DS (b:List Ent) (ps:List Str) (x:Mark):Prop:=(∃ p∈ps,difM b p=some x)∨∃ p∈ps,(difM b p).isSome=true∧∃ u∈upsN 3 p,x=⟨u,2,[]⟩
theorem QT {b:List Ent} {p:Str} {x:Mark} (h:difM b p=some x):x.path=p:=by
 unfold difM at h;split at h
 ·cases h; rfl
 ·split at h
  ·cases h; rfl
  ·cases h
theorem zf9 {b:List Ent} (hb:TG b) {p:Str} (hp:pOk p=true) (h:(difM b p).isSome=true):zJ b (pUp p)=true:=by
 unfold difM at h;rw [jq hp] at h;cases hf:find b p with
 | none =>
  rw [hf] at h; simp only at h;split at h
  ·assumption
  ·cases h
 | some e =>
  obtain ⟨h1,h2⟩:=ju hf;have:=hb.up e h2;rw [h1] at this; exact this
theorem zaO {b:List Ent} {p:Str} (hp:pOk p=true) (h:find b p=some ⟨p,true,[]⟩):difM b p=some ⟨p,2,[]⟩:=by
 unfold difM; rw [jq hp,h]; rfl
theorem zdG {b:List Ent} (hb:TG b) {p u:Str} (hp:pOk p=true) (h:(difM b p).isSome=true) (hu:u∈upsN 3 p):pOk u=true∧und p u=true∧find b u=some ⟨u,true,[]⟩:=by
 obtain ⟨h1,h2,_⟩:=zak 3 hp hu;exact ⟨h1,h2,hb.anc _ (Nat.le_refl _) hp h1 h2 (zf9 hb hp h)⟩
theorem DS.one {b:List Ent} (hb:TG b) {ps:List Str} (hps:∀ p∈ps,pOk p=true) {x y:Mark} (hx:DS b ps x) (hy:DS b ps y) (h:x.path=y.path):x=y:=by
 have key:∀ {z},DS b ps z→pOk z.path=true∧((∃ p∈ps,difM b p=some z∧z.path=p)∨(z=⟨z.path,2,[]⟩∧find b z.path=some ⟨z.path,true,[]⟩)):=by
  rintro z (⟨p,hp,e⟩ | ⟨p,hp,hs,u,hu,rfl⟩)
  ·have:=QT e;exact ⟨by rw [this]; exact hps p hp,.inl ⟨p,hp,e,this⟩⟩
  ·have:=zdG hb (hps p hp) hs hu;exact ⟨this.1,.inr ⟨rfl,this.2.2⟩⟩
 obtain ⟨hxp,hx⟩:=key hx;obtain ⟨_,hy⟩:=key hy;rcases hx with ⟨p,hp,e,e1⟩ | ⟨e,e1⟩<;>rcases hy with ⟨q,hq,f,f1⟩ | ⟨f,f1⟩
 ·have:p=q:=by rw [← e1,← f1,h]
  subst this; rw [e] at f; cases f; rfl
 ·rw [← h] at f1 f;rw [← e1] at e;rw [zaO hxp f1] at e; exact (Option.some.inj e).symm.trans f.symm
 ·rw [h] at e1 e hxp;rw [← f1] at f;rw [zaO hxp e1] at f; exact e.trans (Option.some.inj f)
 ·rw [e,f,h]
theorem zb7 {α:Type} {key:α→Str} {t:List α} {e x:α} (hs:Srt key t) (h:∀ y∈t,key y=key e→y=e):x∈putG key t e↔x∈t∨x=e:=by
 have h1:x∈putG key t e↔fnd key (putG key t e) (key x)=some x:=Zf (qM hs);rw [h1,ZX];by_cases hk:key e=key x
 ·rw [if_pos hk];constructor
  ·intro e'; cases e'; exact .inr rfl
  ·rintro (hx|rfl)
   ·rw [h x hx hk.symm]
   ·rfl
 ·rw [if_neg hk];constructor
  ·intro e'; exact .inl (yN e').2
  ·rintro (hx|rfl)
   ·exact jL hs hx
   ·exact absurd rfl hk
theorem zhV {l:List Mark} {u:Str} {x:Mark} (hs:Srt Mark.path l) (h:∀ y∈l,y.path=u→y=⟨u,2,[]⟩):x∈upsP l u↔x∈l∨x=⟨u,2,[]⟩:=by
 unfold upsP;split
 ·exact zb7 hs h
 ·rename_i hk;unfold kind at hk;cases hf:zG l u with
  | none=>rw [hf] at hk; simp at hk
  | some m =>
   obtain ⟨h1,h2⟩:=q7 hf;have:=h m h2 h1;constructor
   ·exact .inl
   ·rintro (h|rfl)
    ·exact h
    ·rw [← this]; exact h2
theorem zdm {l:List Mark} {u:Str} (hs:Srt Mark.path l):Srt Mark.path (upsP l u):=by
 unfold upsP; split
 ·exact qM hs
 ·exact hs
theorem zdl:∀ {us:List Str} {l:List Mark},Srt Mark.path l→Srt Mark.path (us.foldl upsP l)
 | [],_,h=>h
 | _::us,_,h=>zdl (us:=us) (zdm h)
theorem zb6:∀ {us:List Str} {l:List Mark} {x:Mark},Srt Mark.path l→(∀ u∈us,∀ y∈l,y.path=u→y=⟨u,2,[]⟩)→(x∈us.foldl upsP l↔x∈l∨∃ u∈us,x=⟨u,2,[]⟩)
 | [],l,x,_,_=>by simp
 | u::us,l,x,hs,h=>by
  have hm:=fun x=>zhV (x:=x) hs (h u (by simp))
  rw [List.foldl_cons,zb6 (us:=us) (zdm hs) fun v hv y hy e=>?_,hm]
  ·simp only [List.mem_cons,exists_eq_or_imp,or_assoc]
  ·rcases (hm y).1 hy with hy|rfl
   ·exact h v (by simp [hv]) y hy e
   ·simp at e; rw [e]
theorem zjm {b:List Ent} {out:List Mark} {p:Str} (hs:Srt Mark.path out):Srt Mark.path (difP b out p):=by
 unfold difP;split
 ·exact zdl (qM hs)
 ·exact hs
theorem Yv {b:List Ent} (hb:TG b) {all:List Str} (hall:∀ p∈all,pOk p=true):∀ {ps:List Str} {out:List Mark},(∀ p∈ps,p∈all)→Srt Mark.path out→(∀ x∈out,DS b all x) →
  Srt Mark.path (ps.foldl (difP b) out)∧∀ x,x∈ps.foldl (difP b) out↔x∈out∨DS b ps x
 | [],out,_,hs,_=>⟨hs,fun x=>by simp [DS]⟩
 | p::ps,out,hps,hs,hout=>by
  have hp:=hps p (by simp);have step:Srt Mark.path (difP b out p)∧∀ x,x∈difP b out p↔x∈out∨DS b [p] x:=by
   refine ⟨zjm hs,fun x=>?_⟩;unfold difP;cases hd:difM b p with
   | none=>simp [DS,hd]
   | some m =>
    have hm:DS b all m := .inl ⟨p,hp,hd⟩;have hsome:(difM b p).isSome=true:=by rw [hd]; rfl
    have h1:=fun x=>zb7 (x:=x) hs fun y hy e=>(hout y hy).one hb hall hm e
    have h2:x∈ups (lput out m) p↔x∈lput out m∨∃ u∈upsN 3 p,x=⟨u,2,[]⟩:=by
     refine zb6 (qM hs) fun u hu y hy e=>?_
     have hU:DS b all ⟨u,2,[]⟩ := .inr ⟨p,hp,hsome,u,hu,rfl⟩;rcases (h1 y).1 hy with hy|rfl
     ·exact (hout y hy).one hb hall hU e
     ·exact hm.one hb hall hU e
    simp only;rw [h2,h1];simp only [DS,List.mem_singleton,exists_eq_left,hd,Option.isSome_some,Option.some.injEq,true_and,or_assoc];constructor
    ·rintro (h | h | h)
     ·exact .inl h
     ·exact .inr (.inl h.symm)
     ·exact .inr (.inr h)
    ·rintro (h | h | h)
     ·exact .inl h
     ·exact .inr (.inl h.symm)
     ·exact .inr (.inr h)
  have hout2:∀ x∈difP b out p,DS b all x:=fun x hx=>by
   rcases (step.2 x).1 hx with hx | hx
   ·exact hout x hx
   ·rcases hx with ⟨q,hq,e⟩ | ⟨q,hq,e⟩
    ·simp at hq; subst hq; exact .inl ⟨q,hp,e⟩
    ·simp at hq; subst hq; exact .inr ⟨q,hp,e⟩
  obtain ⟨r1,r2⟩:=Yv hb hall (ps:=ps) (fun q hq=>hps q (by simp [hq])) step.1 hout2;refine ⟨r1,fun x=>?_⟩;rw [List.foldl_cons,r2,step.2];simp only [DS,List.mem_cons,exists_eq_or_imp,List.not_mem_nil,false_and,exists_false,or_false,exists_eq_left];constructor
  ·rintro ((h | h | h) | h | h)
   ·exact .inl h
   ·exact .inr (.inl (.inl h))
   ·exact .inr (.inr (.inl h))
   ·exact .inr (.inl (.inr h))
   ·exact .inr (.inr (.inr h))
  ·rintro (h|(h | h) | h | h)
   ·exact .inl (.inl h)
   ·exact .inl (.inr (.inl h))
   ·exact .inr (.inl h)
   ·exact .inl (.inr (.inr h))
   ·exact .inr (.inr h)
theorem ZE {a b:List Ent} (ha:TG a) (hb:TG b) {p:Str} (h:p∈jH a b):pOk p=true:=by
 have:=(Zq ha hb).1 h;cases ha':find a p with
 | some e=>exact ha.find_ok ha'
 | none =>
  cases hb':find b p with
  | some e=>exact hb.find_ok hb'
  | none=>rw [ha',hb'] at this; exact absurd rfl this
theorem zaQ {a b:List Ent} (ha:TG a) (hb:TG b):Srt Mark.path (diff a b) :=
 (Yv hb (fun _ h=>ZE ha hb h) (fun _ h=>h) List.Pairwise.nil (fun _ h=>by cases h)).1
theorem yT {a b:List Ent} (ha:TG a) (hb:TG b) {x:Mark}:x∈diff a b↔DS b (jH a b) x:=by
 have:=(Yv hb (all:=jH a b) (fun _ h=>ZE ha hb h) (fun _ h=>h) (out:=[]) List.Pairwise.nil (fun _ h=>by cases h)).2 x;unfold diff; rw [this]; simp
theorem y8 {a b:List Ent} (ha:TG a) (hb:TG b) {x:Mark} (h:x∈diff a b):pOk x.path=true ∧
  ((∃ e,find b x.path=some e∧x=⟨x.path,if e.dir=true then 2 else 1,e.data⟩)∨(find b x.path=none∧zJ b (pUp x.path)=true∧x=⟨x.path,3,[]⟩∧∃ e,find a x.path=some e)):=by
 rcases (yT ha hb).1 h with ⟨p,hp,e⟩ | ⟨p,hp,hs,u,hu,rfl⟩
 ·have hpo:=ZE ha hb hp;have hx:=QT e;rw [hx];refine ⟨hpo,?_⟩;have ht:=(Zq ha hb).1 hp;unfold difM at e;rw [jq hpo] at e;cases hf:find b p with
  | some y=>rw [hf] at e; cases e; exact .inl ⟨y,rfl,rfl⟩
  | none =>
   rw [hf] at e;simp only at e;split at e
   ·cases e;refine .inr ⟨rfl,by assumption,rfl,?_⟩;cases ha':find a p with
    | some y=>exact ⟨y,rfl⟩
    | none=>rw [ha',hf] at ht; exact absurd rfl ht
   ·cases e
 ·have:=zdG hb (ZE ha hb hp) hs hu;exact ⟨this.1,.inl ⟨_,this.2.2,rfl⟩⟩
theorem zaP {a b:List Ent} (ha:TG a) (hb:TG b):lOk (diff a b)=true:=by
 have hs:=zaQ ha hb;have hm:∀ m∈diff a b,mok m=true:=fun m hm=>by
  obtain ⟨hp,h | h⟩:=y8 ha hb hm
  ·obtain ⟨e,h1,h2⟩:=h;have he:=(ju h1).2;have hd:=hb.datOk he;rw [h2];simp only [mok,hp,hd];cases hdir:e.dir with
   | true=>simp [hb.data he hdir]
   | false=>simp
  ·rw [h.2.2.1];simp only [mok,hp]; rfl
 refine yQ.2 ⟨?_,hs,hm,fun m hm=>?_,fun m hm hk=>?_⟩
 ·have h1:((diff a b).map Mark.path).length≤(a.map Ent.path++b.map Ent.path).length:=by
   refine YJ (Qy hs) fun p hp=>?_
   obtain ⟨m,hm,rfl⟩:=List.mem_map.1 hp;obtain ⟨_,h | h⟩:=y8 ha hb hm
   ·obtain ⟨e,h1,_⟩:=h;obtain ⟨h2,h3⟩:=ju h1;exact List.mem_append.2 (.inr (List.mem_map.2 ⟨e,h3,h2⟩))
   ·obtain ⟨_,_,_,e,h1⟩:=h;obtain ⟨h2,h3⟩:=ju h1;exact List.mem_append.2 (.inl (List.mem_map.2 ⟨e,h3,h2⟩))
  have:=ha.len;have:=hb.len;simp at h1; omega
 ·rw [zhv];have key:pUp m.path=[47]∨(⟨pUp m.path,2,[]⟩:Mark)∈diff a b:=by
   rcases (yT ha hb).1 hm with ⟨p,hp,e⟩ | ⟨p,hp,hsm,u,hu,rfl⟩
   ·rw [QT e];by_cases hr:pUp p=[47]
    ·exact .inl hr
    ·refine .inr ((yT ha hb).2 (.inr ⟨p,hp,by rw [e]; rfl,pUp p,?_,rfl⟩));unfold upsN; rw [if_neg hr]; simp
   ·have hpo:=ZE ha hb hp;rcases (zak 3 hpo hu).2.2 (.inr (yV hpo).1.2) with h | h
    ·exact .inl h
    ·exact .inr ((yT ha hb).2 (.inr ⟨p,hp,hsm,_,h,rfl⟩))
  rcases key with h | h
  ·exact .inl h
  ·exact .inr ⟨_,jL hs h,.inl rfl⟩
 ·cases hb':bare (diff a b) m.path with
  | false=>rfl
  | true =>
   obtain ⟨x,hx,hk4,_⟩:=zia hb';obtain ⟨_,h | h⟩:=y8 ha hb hx
   ·obtain ⟨e,_,h2⟩:=h;rw [h2] at hk4;simp only at hk4;split at hk4<;>omega
   ·rw [h.2.2.1] at hk4; simp at hk4
theorem zie {a b:List Ent} (ha:TG a) (hb:TG b):jC (diff a b) a=b:=by
 have hs:=zaQ ha hb;have hD:LG (diff a b):=LG.of (zaP ha hb);refine zjn (zab ha.srt) hb.srt fun p=>?_
 show find _ p=find b p;rw [YN hs ha.srt];cases hf:zG (diff a b) p with
 | some m =>
  obtain ⟨h1,h2⟩:=q7 hf;simp only;obtain ⟨_,h | h⟩:=y8 ha hb h2
  ·obtain ⟨e,h3,h4⟩:=h;rw [h1] at h3;rw [h3,h4];obtain ⟨g1,g2⟩:=ju h3;obtain ⟨ep,ed,edat⟩:=e;simp only at g1 h4 ⊢;cases ed with
   | true=>have:=hb.data g2 rfl; simp at this; simp [jx,h1,g1,this]
   | false=>simp [jx,h1,g1]
  ·rw [h1] at h;rw [h.1,h.2.2.1]; rfl
 | none =>
  simp only;by_cases hh:zZ (diff a b) p=true
  ·rw [if_pos hh];obtain ⟨m,hm,hk,hu⟩:=zcn hh;have hne:m.path≠p:=fun e=>by
    have h2:zG (diff a b) m.path=some m:=jL hs hm;rw [e,hf] at h2; cases h2
   have hu:=hu.resolve_left hne;cases hfb:find b p with
   | none=>rfl
   | some e =>
    obtain ⟨hpm,h⟩:=y8 ha hb hm;have hd:=hb.anc' hfb hpm hu;rcases h with ⟨y,h1,h2⟩ | h
    ·rw [hd] at h1; cases h1;rw [h2] at hk; simp at hk
    ·rw [hd] at h; cases h.1
  ·rw [if_neg hh];apply Classical.byContradiction; intro hne;have up:∀ (n:Nat) {q:Str},(names q).length≤n→pOk q=true→(∃ e,find a q=some e)→find b q=none→zZ (diff a b) q=true:=by
    intro n;induction n with
    | zero=>intro q hn hq; have:=(yV hq).1.1; omega
    | succ n ih =>
     rintro q hn hq ⟨e,h1⟩ h2;have ht:q∈jH a b:=(Zq ha hb).2 (by rw [h1,h2]; simp);cases hd:zJ b (pUp q) with
     | true =>
      have:difM b q=some ⟨q,3,[]⟩:=by unfold difM; rw [jq hq,h2]; simp only [hd,if_true]
      exact Yf ((yT ha hb).2 (.inl ⟨q,ht,this⟩)) (by simp) (.inl rfl)
     | false =>
      have hr:pUp q≠[47]:=by intro e'; rw [e'] at hd; cases hd
      obtain ⟨u1,_,u3⟩:=yw hq hr;obtain ⟨g1,g2⟩:=ju h1;have hda:=ha.up e g2;rw [g1] at hda;have hfa:=ha.isDir_ent u1 hda;refine hD.hides_und hr (yb hq) ?_;cases hfb:find b (pUp q) with
      | none=>exact ih (by omega) u1 ⟨_,hfa⟩ hfb
      | some y =>
       have hyd:y.dir=false:=by
        unfold zJ at hd; rw [jq u1,hfb] at hd; exact hd
       have ht2:pUp q∈jH a b:=(Zq ha hb).2 (by rw [hfa,hfb]; intro e'; cases e'; cases hyd);have:difM b (pUp q)=some ⟨pUp q,1,y.data⟩:=by unfold difM; rw [jq u1,hfb]; simp [hyd]
       exact Yf ((yT ha hb).2 (.inl ⟨_,ht2,this⟩)) (by simp) (.inl rfl)
   have ht:p∈jH a b:=(Zq ha hb).2 hne;have hp:=ZE ha hb ht;cases hfb:find b p with
   | some e =>
    have:difM b p=some ⟨p,if e.dir=true then 2 else 1,e.data⟩:=by unfold difM; rw [jq hp,hfb]
    have h2:zG (diff a b) p=some _:=jL (key:=Mark.path) hs ((yT ha hb).2 (.inl ⟨p,ht,this⟩));rw [hf] at h2; cases h2
   | none =>
    cases hfa:find a p with
    | none=>rw [hfa,hfb] at hne; exact hne rfl
    | some e=>exact hh (up _ (Nat.le_refl _) hp ⟨e,hfa⟩ hfb)
theorem zbQ {a b:List Ent} (ha:tOk a=true) (hb:tOk b=true):lOn (diff a b) a=some b:=by
 have ga:=TG.of ha;have gb:=TG.of hb;unfold lOn;rw [if_pos (by simp [zaP ga gb,ha]),zie ga gb,if_pos gb.len]

def Sorts {α:Type} (key:α→Str) (X S:List α):Prop:=S.Perm X∧S.Pairwise fun a b=>ltS (key b) (key a)=false
theorem Sorts.len {α:Type} {key:α→Str} {X S:List α} (h:Sorts key X S):S.length=X.length:=h.1.length_eq
def upC2 (t:List Ent) (p:Str):Int:=if pUp p=[47] then 0 else match find t (pUp p) with
 | none=>2
 | some e=>if e.dir=true then 0 else 3
theorem zjJ {t:List Ent} {p:Str}:upC2 t p=0↔zJ t (pUp p)=true:=by
 unfold upC2 zJ get;by_cases h:pUp p=[47]
 ·rw [if_pos h,if_pos h]; simp [rootE]
 ·rw [if_neg h,if_neg h];cases find t (pUp p) with
  | none=>simp
  | some e=>cases e.dir<;>simp

def jS (op:Op):Bool:=(decide (1≤op.kind)&&decide (op.kind≤5))&&(pOk op.path&&(if op.kind=5 then pOk op.dest&&op.data==[] else op.dest==[]&&(yK op.data&&(op.kind==2||op.data==[]))))
def kids (t:List Ent) (p:Str):List Str:=(t.filter fun e=>pUp e.path==p).map fun e=>pName e.path
def upC (t:List Ent) (p:Str):Int:=match get t (pUp p) with
 | none=>2
 | some e=>if e.dir=true then 0 else 3
def newC (t:List Ent) (p:Str):Int:=if upC t p≠0 then upC t p else if (get t p).isSome=true then 4 else if 16≤t.length then 8 else 0
def putC (t:List Ent) (p:Str):Int:=if newC t p=4 then (if ((get t p).getD noE).dir=true then 5 else 0) else newC t p
def offC (t:List Ent) (op:Op):Int:=match get t op.path with
 | none=>2
 | some e=>if op.kind=3∧e.dir=true then 5 else if op.kind=4∧e.dir=false then 3 else if 0 < (kids t op.path).length then 6 else 0
def movC (t:List Ent) (op:Op):Int:=if (get t op.path).isSome=false then 2 else if upC t op.dest≠0 then upC t op.dest else if (get t op.dest).isSome=true then 4 else if und op.dest op.path=true then 7 else
 if t.all (fun e=>(jD e.path op.path op.dest).isSome)=true then 0 else 8
def y7 (t:List Ent) (op:Op):Int:=if op.kind=1 then newC t op.path else if op.kind=2 then putC t op.path else if op.kind=5 then movC t op else offC t op
def offT (t:List Ent) (p:Str):List Ent:=t.filter fun e=>e.path != p
def movE (f tq:Str) (e:Ent):Ent:={ e with path:=(jD e.path f tq).getD [] }
def movT (t:List Ent) (f tq:Str):List Ent:=t.foldl (fun out e=>put out (movE f tq e)) []
def doT (t:List Ent) (op:Op):List Ent:=if op.kind=1 then put t ⟨op.path,true,[]⟩ else if op.kind=2 then put t ⟨op.path,false,op.data⟩ else if op.kind=5 then movT t op.path op.dest else offT t op.path
def jt (t:List Ent) (op:Op):List Ent × Int:=if tOk t=true then (if jS op=true then (if y7 t op=0 then (doT t op,0) else (t,y7 t op)) else (t,1)) else ([],1)

theorem mixed:Try.prog.follows .mixedOrders=true:=by kernel_rfl
def szL {α:Type} (f:α→Int→Int):List α→Int→Int
 | [],l=>l
 | a::t,l=>if f a l < 0 then -1 else szL f t (f a l)
def szR {α:Type} (f:α→Int→Int) (t:List α) (l:Int):Int:=if l - t.length < 0 then -1 else szL f t (l - t.length)
def q9 (s:Str) (l:Int):Int:=if l - s.length < 0 then -1 else l - s.length
def jk (e:Ent) (l:Int):Int:=if l - e.path.length < 0 then -1 else q9 e.data (l - e.path.length)
def z7 (e:Mark) (l:Int):Int:=if l - e.path.length < 0 then -1 else q9 e.data (l - e.path.length)
theorem zdv {s:Str} {l:Int} (h : -1≤l) : -1≤q9 s l∧q9 s l≤l:=by unfold q9; split<;>omega
theorem Jq {e:Ent} {l:Int} (h : -1≤l) : -1≤jk e l∧jk e l≤l:=by
 unfold jk; split
 ·omega
 ·have:=@zdv e.data (l - e.path.length) (by omega); omega
theorem qO {e:Mark} {l:Int} (h : -1≤l) : -1≤z7 e l∧z7 e l≤l:=by
 unfold z7; split
 ·omega
 ·have:=@zdv e.data (l - e.path.length) (by omega); omega
theorem zai {α:Type} {f:α→Int→Int} (hf:∀ a l,-1≤l → -1≤f a l∧f a l≤l):∀ {t:List α} {l:Int},-1≤l → -1≤szL f t l∧szL f t l≤l
 | [],l,h=>⟨h,Int.le_refl _⟩
 | a::t,l,h=>by
  unfold szL;have:=hf a l h;split
  ·omega
  ·have:=zai hf (t:=t) (l:=f a l) (by omega); omega
theorem jX {α:Type} {f:α→Int→Int} (hf:∀ a l,-1≤l → -1≤f a l∧f a l≤l) {t:List α} {l:Int} (h : -1≤l) : -1≤szR f t l∧szR f t l≤l:=by
 unfold szR;split
 ·omega
 ·have:=zai hf (t:=t) (l:=l - t.length) (by omega); omega
theorem zah {α:Type} {f:α→Int→Int} {t:List α} {k:Nat} (h:k < t.length) {l:Int}:szL f (t.drop k) l=if f t[k] l < 0 then -1 else szL f (t.drop (k+1)) (f t[k] l):=by
 rw [List.drop_eq_getElem_cons h]; rfl
def zfh:XC:=(.s (.r [.x1 2 0,.m1 4 (.i 0)]) (.s (.r [.mv 5 1,.f1 6 0 2,.l1 7 1 6,.ex 8 (.len true 7),.b1 9 .sub 5 8,.mv 1 9]) (.s (.s (.r [.mv 10 1,.b1 11 .lss 10 (.i 0)]) (.cnd 11 (.s (.r [.ex 4 (.mv (.k (.c (.sc (.int .i64 (.negSucc 0))))))]) .ret) .skip)) (.s (.r [.mv 12 1,.f1 13 2 2,.l1 14 1 13,.ex 15 (.len true 14),.b1 16 .sub 12 15,.mv 1 16]) (.s (.s (.r [.mv 17 1,.b1 18 .lss 17 (.i 0)]) (.cnd 18 (.s (.r [.ex 4 (.mv (.k (.c (.sc (.int .i64 (.negSucc 0))))))]) .ret) .skip)) (.s (.r [.mv 19 1,.mv 4 19]) .ret))))))
theorem zfk:zn Try.prog [] 41=some (zfh.ac,[(.t 4)],20):=by kernel_rfl
theorem zgV (W0:World) (e:Ent) (l:Int) (h : -1≤l∧l≤1048576):Fn Try.prog W0 41 [zA e,CI l] (.c (CI (jk e l))) []:=by
 refine fX mixed zfk fun hg=>?_
 have hg0:=hg _ (by simp:zA e∈_);have g1:=J1 (J0 hg0 _ (by simp:CS e.path∈_));have g2:=J1 (J0 hg0 _ (by simp:CS e.data∈_));refine dr ?_;refine jA (fun h1=>?_) fun h1=>?_
 ·conv=>whnf
  simp only [jk,h1,if_true]<;>rfl
 ·refine dr ?_;refine jA (fun h2=>?_) fun h2=>?_
  ·conv=>whnf
   simp only [jk,q9,Int.not_lt.2 h1,h2,if_true,if_false]<;>rfl
  ·conv=>whnf
   simp only [jk,q9,Int.not_lt.2 h1,Int.not_lt.2 h2,if_false]
def zfl:XC:=(.s (.r [.x1 2 0,.m1 4 (.i 0)]) (.s (.r [.mv 5 1,.f1 6 0 2,.l1 7 1 6,.ex 8 (.len true 7),.b1 9 .sub 5 8,.mv 1 9]) (.s (.s (.r [.mv 10 1,.b1 11 .lss 10 (.i 0)]) (.cnd 11 (.s (.r [.ex 4 (.mv (.k (.c (.sc (.int .i64 (.negSucc 0))))))]) .ret) .skip)) (.s (.r [.mv 12 1,.f1 13 2 2,.l1 14 1 13,.ex 15 (.len true 14),.b1 16 .sub 12 15,.mv 1 16]) (.s (.s (.r [.mv 17 1,.b1 18 .lss 17 (.i 0)]) (.cnd 18 (.s (.r [.ex 4 (.mv (.k (.c (.sc (.int .i64 (.negSucc 0))))))]) .ret) .skip)) (.s (.r [.mv 19 1,.mv 4 19]) .ret))))))
theorem zfq:zn Try.prog [] 42=some (zfl.ac,[(.t 4)],20):=by kernel_rfl
theorem zgX (W0:World) (e:Mark) (l:Int) (h : -1≤l∧l≤1048576):Fn Try.prog W0 42 [zr e,CI l] (.c (CI (z7 e l))) []:=by
 refine fX mixed zfq fun hg=>?_
 have hg0:=hg _ (by simp:zr e∈_);have g1:=J1 (J0 hg0 _ (by simp:CS e.path∈_));have g2:=J1 (J0 hg0 _ (by simp:CS e.data∈_));refine dr ?_;refine jA (fun h1=>?_) fun h1=>?_
 ·conv=>whnf
  simp only [z7,h1,if_true]<;>rfl
 ·refine dr ?_;refine jA (fun h2=>?_) fun h2=>?_
  ·conv=>whnf
   simp only [z7,q9,Int.not_lt.2 h1,h2,if_true,if_false]<;>rfl
  ·conv=>whnf
   simp only [z7,q9,Int.not_lt.2 h1,Int.not_lt.2 h2,if_false]
def zfi:XC:=(.s (.r [.m1 4 (.i 0)]) (.s (.r [.mv 6 1,.mv 7 0,.n1 8 7,.b1 9 .sub 6 8,.mv 1 9]) (.s (.s (.r [.mv 10 1,.b1 11 .lss 10 (.i 0)]) (.cnd 11 (.s (.r [.ex 4 (.mv (.k (.c (.sc (.int .i64 (.negSucc 0))))))]) .ret) .skip)) (.s (.s (.r [.m1 5 (.i 0)]) (.blk 0 (.loop (.s (.s (.r [.mv 12 5,.mv 13 0,.n1 14 13,.b1 15 .lss 12 14]) (.ce 15 0)) (.s (.blk 1 (.s (.r [.mv 18 0,.mv 19 5,.i1 20 3 18 19,.l2 21 3 20,.mv 22 1,.c1 23 41 [21,22],.mv 1 23]) (.s (.r [.mv 24 1,.b1 25 .lss 24 (.i 0)]) (.cnd 25 (.s (.r [.ex 4 (.mv (.k (.c (.sc (.int .i64 (.negSucc 0))))))]) .ret) .skip)))) (.ic 16 17 5)))))) (.s (.r [.mv 26 1,.mv 4 26]) .ret)))))
theorem zfj:zn Try.prog [] 13=some (zfi.ac,[(.t 4)],27):=by kernel_rfl
theorem zgW (W0:World) (t:List Ent) (l:Int) (h : -1≤l∧l≤1048576):Fn Try.prog W0 13 [zD t,CI l] (.c (CI (szR jk t l))) []:=by
 refine fX mixed zfj fun hg=>?_
 have g1:=qf (hg _ (by simp:zD t∈_));refine dr ?_;refine jA (fun h1=>?_) fun h1=>?_
 ·conv=>whnf
  simp only [szR,h1,if_true]<;>rfl
 conv=>whnf
 refine lp (σ:=Nat × Int) (fun x=>[(0,.c (zD t)),(1,I x.2),(5,I x.1)]) (fun _=>[]) (fun x=>x.1≤t.length ∧ -1≤x.2∧x.2≤1048576∧szL jk (t.drop x.1) x.2=szR jk t l)
  (fun x=>t.length - x.1) (0,l - t.length) ⟨by simp,by simp; omega,by simp; omega,by simp [szR,Int.not_lt.2 h1]⟩ ?_ ?_
 ·refine dr ?_;trivial
 rintro ⟨k,r⟩ ⟨hk,hr1,hr2,hr⟩;dsimp only at hk hr1 hr2 hr;refine dr ?_;refine jA (fun h2=>?_) fun h2=>?_
 ·have hk':k < t.length:=by omega
  have hs:=@Jq t[k] r hr1;rw [zah hk'] at hr;refine dr ?_;repeat (refine c0 (zgV W0 t[k] r (by omega)) rfl ?_; first|refine dr ?_|exact dz)
  intro hg2;conv=>whnf
  refine jA (fun h3=>?_) fun h3=>?_
  ·conv=>whnf
   rw [if_pos h3] at hr;rw [← hr]; rfl
  ·rw [if_neg (Int.not_lt.2 h3)] at hr;refine dr ?_;refine ⟨(k+1,jk t[k] r),⟨by dsimp only; omega,by dsimp only; omega,by dsimp only; omega,hr⟩,by dsimp only; omega,?_⟩;refine dr ?_;trivial
 ·have:k=t.length:=by omega
  subst this;rw [List.drop_length] at hr;refine dr ?_;exact congrArg CI hr
def zfm:XC:=(.s (.r [.m1 4 (.i 0)]) (.s (.r [.mv 6 1,.mv 7 0,.n1 8 7,.b1 9 .sub 6 8,.mv 1 9]) (.s (.s (.r [.mv 10 1,.b1 11 .lss 10 (.i 0)]) (.cnd 11 (.s (.r [.ex 4 (.mv (.k (.c (.sc (.int .i64 (.negSucc 0))))))]) .ret) .skip)) (.s (.s (.r [.m1 5 (.i 0)]) (.blk 0 (.loop (.s (.s (.r [.mv 12 5,.mv 13 0,.n1 14 13,.b1 15 .lss 12 14]) (.ce 15 0)) (.s (.blk 1 (.s (.r [.mv 18 0,.mv 19 5,.i1 20 3 18 19,.l2 21 3 20,.mv 22 1,.c1 23 42 [21,22],.mv 1 23]) (.s (.r [.mv 24 1,.b1 25 .lss 24 (.i 0)]) (.cnd 25 (.s (.r [.ex 4 (.mv (.k (.c (.sc (.int .i64 (.negSucc 0))))))]) .ret) .skip)))) (.ic 16 17 5)))))) (.s (.r [.mv 26 1,.mv 4 26]) .ret)))))
theorem zfp:zn Try.prog [] 15=some (zfm.ac,[(.t 4)],27):=by kernel_rfl
theorem za9 (W0:World) (t:List Mark) (l:Int) (h : -1≤l∧l≤1048576):Fn Try.prog W0 15 [zs t,CI l] (.c (CI (szR z7 t l))) []:=by
 refine fX mixed zfp fun hg=>?_
 have g1:=qf (hg _ (by simp:zs t∈_));refine dr ?_;refine jA (fun h1=>?_) fun h1=>?_
 ·conv=>whnf
  simp only [szR,h1,if_true]<;>rfl
 conv=>whnf
 refine lp (σ:=Nat × Int) (fun x=>[(0,.c (zs t)),(1,I x.2),(5,I x.1)]) (fun _=>[]) (fun x=>x.1≤t.length ∧ -1≤x.2∧x.2≤1048576∧szL z7 (t.drop x.1) x.2=szR z7 t l)
  (fun x=>t.length - x.1) (0,l - t.length) ⟨by simp,by simp; omega,by simp; omega,by simp [szR,Int.not_lt.2 h1]⟩ ?_ ?_
 ·refine dr ?_;trivial
 rintro ⟨k,r⟩ ⟨hk,hr1,hr2,hr⟩;dsimp only at hk hr1 hr2 hr;refine dr ?_;refine jA (fun h2=>?_) fun h2=>?_
 ·have hk':k < t.length:=by omega
  have hs:=@qO t[k] r hr1;rw [zah hk'] at hr;refine dr ?_;repeat (refine c0 (zgX W0 t[k] r (by omega)) rfl ?_; first|refine dr ?_|exact dz)
  intro hg2;conv=>whnf
  refine jA (fun h3=>?_) fun h3=>?_
  ·conv=>whnf
   rw [if_pos h3] at hr;rw [← hr]; rfl
  ·rw [if_neg (Int.not_lt.2 h3)] at hr;refine dr ?_;refine ⟨(k+1,z7 t[k] r),⟨by dsimp only; omega,by dsimp only; omega,by dsimp only; omega,hr⟩,by dsimp only; omega,?_⟩;refine dr ?_;trivial
 ·have:k=t.length:=by omega
  subst this;rw [List.drop_length] at hr;refine dr ?_;exact congrArg CI hr
def zfn:XC:=(.s (.r [.m1 4 (.i 0)]) (.s (.r [.mv 6 1,.mv 7 0,.n1 8 7,.b1 9 .sub 6 8,.mv 1 9]) (.s (.s (.r [.mv 10 1,.b1 11 .lss 10 (.i 0)]) (.cnd 11 (.s (.r [.ex 4 (.mv (.k (.c (.sc (.int .i64 (.negSucc 0))))))]) .ret) .skip)) (.s (.s (.r [.m1 5 (.i 0)]) (.blk 0 (.loop (.s (.s (.r [.mv 12 5,.mv 13 0,.n1 14 13,.b1 15 .lss 12 14]) (.ce 15 0)) (.s (.blk 1 (.s (.r [.mv 18 0,.mv 19 5,.i1 20 1 18 19,.l1 21 1 20,.mv 22 1,.c1 23 15 [21,22],.mv 1 23]) (.s (.r [.mv 24 1,.b1 25 .lss 24 (.i 0)]) (.cnd 25 (.s (.r [.ex 4 (.mv (.k (.c (.sc (.int .i64 (.negSucc 0))))))]) .ret) .skip)))) (.ic 16 17 5)))))) (.s (.r [.mv 26 1,.mv 4 26]) .ret)))))
theorem zfo:zn Try.prog [] 14=some (zfn.ac,[(.t 4)],27):=by kernel_rfl
theorem zgY (W0:World) (t:List (List Mark)) (l:Int) (h : -1≤l∧l≤1048576):Fn Try.prog W0 14 [zT t,CI l] (.c (CI (szR (szR z7) t l))) []:=by
 refine fX mixed zfo fun hg=>?_
 have g1:=qf (hg _ (by simp:zT t∈_));refine dr ?_;refine jA (fun h1=>?_) fun h1=>?_
 ·conv=>whnf
  simp only [szR,h1,if_true]<;>rfl
 conv=>whnf
 refine lp (σ:=Nat × Int) (fun x=>[(0,.c (zT t)),(1,I x.2),(5,I x.1)]) (fun _=>[]) (fun x=>x.1≤t.length ∧ -1≤x.2∧x.2≤1048576∧szL (szR z7) (t.drop x.1) x.2=szR (szR z7) t l)
  (fun x=>t.length - x.1) (0,l - t.length) ⟨by simp,by simp; omega,by simp; omega,by rw [szR.eq_def _ t,if_neg (by omega)]; rfl⟩ ?_ ?_
 ·refine dr ?_;trivial
 rintro ⟨k,r⟩ ⟨hk,hr1,hr2,hr⟩;dsimp only at hk hr1 hr2 hr;refine dr ?_;refine jA (fun h2=>?_) fun h2=>?_
 ·have hk':k < t.length:=by omega
  have hs:=@jX _ _ (fun a l=>@qO a l) t[k] r hr1;rw [zah hk'] at hr;refine dr ?_;repeat (refine c0 (za9 W0 t[k] r (by omega)) rfl ?_; first|refine dr ?_|exact dz)
  intro hg2;conv=>whnf
  refine jA (fun h3=>?_) fun h3=>?_
  ·conv=>whnf
   rw [if_pos h3] at hr;rw [← hr]; rfl
  ·rw [if_neg (Int.not_lt.2 h3)] at hr;refine dr ?_;refine ⟨(k+1,szR z7 t[k] r),⟨by dsimp only; omega,by dsimp only; omega,by dsimp only; omega,hr⟩,by dsimp only; omega,?_⟩;refine dr ?_;trivial
 ·have:k=t.length:=by omega
  subst this;rw [List.drop_length] at hr;refine dr ?_;exact congrArg CI hr
def jW (o:Over) (l:Int):Int:=if szR jk o.base l < 0 then -1 else if szR (szR z7) o.layers (szR jk o.base l) < 0 then -1 else
 if szR z7 o.upper (szR (szR z7) o.layers (szR jk o.base l)) < 0 then -1 else szR z7 o.upper (szR (szR z7) o.layers (szR jk o.base l))
def zfr:XC:=(.s (.r [.x1 2 0,.m1 4 (.i 0)]) (.s (.r [.f1 5 0 2,.l1 6 1 5,.mv 7 1,.c1 8 13 [6,7],.mv 1 8]) (.s (.s (.r [.mv 9 1,.b1 10 .lss 9 (.i 0)]) (.cnd 10 (.s (.r [.ex 4 (.mv (.k (.c (.sc (.int .i64 (.negSucc 0))))))]) .ret) .skip)) (.s (.r [.f1 11 1 2,.l1 12 1 11,.mv 13 1,.c1 14 14 [12,13],.mv 1 14]) (.s (.s (.r [.mv 15 1,.b1 16 .lss 15 (.i 0)]) (.cnd 16 (.s (.r [.ex 4 (.mv (.k (.c (.sc (.int .i64 (.negSucc 0))))))]) .ret) .skip)) (.s (.r [.f1 17 2 2,.l1 18 1 17,.mv 19 1,.c1 20 15 [18,19],.mv 1 20]) (.s (.s (.r [.mv 21 1,.b1 22 .lss 21 (.i 0)]) (.cnd 22 (.s (.r [.ex 4 (.mv (.k (.c (.sc (.int .i64 (.negSucc 0))))))]) .ret) .skip)) (.s (.r [.mv 23 1,.mv 4 23]) .ret))))))))
theorem zfs:zn Try.prog [] 4=some (zfr.ac,[(.t 4)],24):=by kernel_rfl
theorem zgZ (W0:World) (o:Over) (l:Int) (h : -1≤l∧l≤1048576):Fn Try.prog W0 4 [z8 o,CI l] (.c (CI (jW o l))) []:=by
 refine fX mixed zfs fun hg=>?_
 have s1:=@jX _ _ (fun a l=>@Jq a l) o.base l h.1;refine dr ?_;repeat (refine c0 (zgW W0 o.base l h) rfl ?_; first|refine dr ?_|exact dz)
 intro hg1;conv=>whnf
 refine jA (fun h1=>?_) fun h1=>?_
 ·conv=>whnf
  simp only [jW,h1,if_true]<;>rfl
 have s2:=@jX _ _ (fun a l=>@jX _ _ (fun a l=>@qO a l) a l) o.layers _ s1.1;refine dr ?_;repeat (refine c0 (zgY W0 o.layers _ (by omega)) rfl ?_; first|refine dr ?_|exact dz)
 intro hg2;conv=>whnf
 refine jA (fun h2=>?_) fun h2=>?_
 ·conv=>whnf
  simp only [jW,Int.not_lt.2 h1,if_false,h2,if_true]<;>rfl
 have s3:=@jX _ _ (fun a l=>@qO a l) o.upper _ s2.1;refine dr ?_;repeat (refine c0 (za9 W0 o.upper _ (by omega)) rfl ?_; first|refine dr ?_|exact dz)
 intro hg3;conv=>whnf
 refine jA (fun h3=>?_) fun h3=>?_
 ·conv=>whnf
  simp only [jW,Int.not_lt.2 h1,Int.not_lt.2 h2,if_false,h3,if_true]<;>rfl
 ·refine dr ?_;simp only [jW,Int.not_lt.2 h1,Int.not_lt.2 h2,Int.not_lt.2 h3,if_false]
def zel:XC:=(.s (.r [.x1 2 0,.x1 3 1,.m1 4 .n]) (.s (.s (.r [.f1 5 0 2,.l1 6 1 5,.f1 7 0 3,.l1 8 1 7,.b1 9 .neq 6 8]) (.cnd 9 (.rf 4) .skip)) (.s (.s (.r [.f1 10 1 2,.l1 11 1 10,.f1 12 1 3,.l1 13 1 12,.ex 14 (.bb true 11 13)]) (.cnd 14 (.rf 4) .skip)) (.s (.s (.r [.f1 15 2 2,.l1 16 1 15,.f1 17 2 3,.l1 18 1 17,.b1 19 .neq 16 18]) (.cnd 19 (.rf 4) .skip)) (.rt 4)))))
theorem zeo:zn Try.prog [] 50=some (zel.ac,[(.t 4)],20):=by kernel_rfl
theorem Zd (W0:World) (a b:Ent):Fn Try.prog W0 50 [zA a,zA b] (.c (CB (decide (a=b)))) []:=by
 refine fX mixed zeo fun hg=>?_
 refine dr ?_;apply cP<;>intro h1
 ·conv=>whnf
  exact dF fun e=>h1 (by rw [e])
 refine dr ?_;apply cP<;>intro h2
 ·conv=>whnf
  exact dF fun e=>h2 (by rw [e])
 refine dr ?_;apply cP<;>intro h3
 ·conv=>whnf
  exact dF fun e=>h3 (by rw [e])
 refine dr ?_;exact dT (by cases a; cases b; simp_all)
def zeB:XC:=(.s (.r [.x1 2 0,.x1 3 1,.m1 4 .n]) (.s (.s (.r [.f1 5 0 2,.l1 6 1 5,.f1 7 0 3,.l1 8 1 7,.b1 9 .neq 6 8]) (.cnd 9 (.rf 4) .skip)) (.s (.s (.r [.f1 10 1 2,.l1 11 1 10,.f1 12 1 3,.l1 13 1 12,.b1 14 .neq 11 13]) (.cnd 14 (.rf 4) .skip)) (.s (.s (.r [.f1 15 2 2,.l1 16 1 15,.f1 17 2 3,.l1 18 1 17,.b1 19 .neq 16 18]) (.cnd 19 (.rf 4) .skip)) (.rt 4)))))
theorem zeG:zn Try.prog [] 51=some (zeB.ac,[(.t 4)],20):=by kernel_rfl
theorem zgp (W0:World) (a b:Mark):Fn Try.prog W0 51 [zr a,zr b] (.c (CB (decide (a=b)))) []:=by
 refine fX mixed zeG fun hg=>?_
 refine dr ?_;apply cP<;>intro h1
 ·conv=>whnf
  exact dF fun e=>h1 (by rw [e])
 refine dr ?_;apply cP<;>intro h2
 ·conv=>whnf
  exact dF fun e=>h2 (by rw [e])
 refine dr ?_;apply cP<;>intro h3
 ·conv=>whnf
  exact dF fun e=>h3 (by rw [e])
 refine dr ?_;exact dT (by cases a; cases b; simp_all)
def zem:XC:=(.s (.r [.m1 4 .n]) (.s (.s (.r [.mv 6 0,.n1 7 6,.mv 8 1,.n1 9 8,.b1 10 .neq 7 9]) (.cnd 10 (.rf 4) .skip)) (.s (.s (.r [.m1 5 (.i 0)]) (.blk 0 (.loop (.s (.s (.r [.mv 11 5,.mv 12 0,.n1 13 12,.b1 14 .lss 11 13]) (.ce 14 0)) (.s (.blk 1 (.s (.d [.mv 17 0,.mv 18 5,.i1 19 3 17 18,.l2 20 3 19,.mv 21 1,.mv 22 5,.i1 23 3 21 22,.l2 24 3 23,.c1 25 50 [20,24],.u1 26 25]) (.cnd 26 (.rf 4) .skip))) (.ic 15 16 5)))))) (.rt 4))))
theorem zen:zn Try.prog [] 26=some (zem.ac,[(.t 4)],27):=by kernel_rfl
theorem zgE (W0:World) (a b:List Ent):Fn Try.prog W0 26 [zD a,zD b] (.c (CB (decide (a=b)))) []:=by
 refine fX mixed zen fun hg=>?_
 have g1:=qf (hg _ (by simp:zD a∈_));refine dr ?_;apply cP<;>intro h1
 ·conv=>whnf
  exact dF (yq (by omega))
 conv=>whnf
 refine lp (σ:=Nat) (fun k=>[(0,.c (zD a)),(1,.c (zD b)),(5,I k)]) (fun _=>[]) (fun k=>k≤a.length∧a.take k=b.take k) (fun k=>a.length - k) 0 ⟨by simp,by simp⟩ ?_ ?_
 ·refine dr ?_;trivial
 rintro k ⟨hk,he⟩;refine dr ?_;apply cP<;>intro h2
 ·refine dr ?_;repeat (refine c0 (Zd W0 _ _) rfl ?_; first|refine dr ?_|exact dz)
  apply cP<;>intro h3;rotate_left
  ·refine dr ?_;refine ⟨k+1,⟨by omega,yB (by omega) (by omega) he (by simpa using h3)⟩,by omega,?_⟩;refine dr ?_;trivial
  ·conv=>whnf
   exact dF (yp (k:=k) (by omega) (by omega) (by simpa using h3))
 ·refine dr ?_;have:k=a.length:=by omega
  subst this;exact dT (yg (by omega) he)
def zeC:XC:=(.s (.r [.m1 4 .n]) (.s (.s (.r [.mv 6 0,.n1 7 6,.mv 8 1,.n1 9 8,.b1 10 .neq 7 9]) (.cnd 10 (.rf 4) .skip)) (.s (.s (.r [.m1 5 (.i 0)]) (.blk 0 (.loop (.s (.s (.r [.mv 11 5,.mv 12 0,.n1 13 12,.b1 14 .lss 11 13]) (.ce 14 0)) (.s (.blk 1 (.s (.d [.mv 17 0,.mv 18 5,.i1 19 3 17 18,.l2 20 3 19,.mv 21 1,.mv 22 5,.i1 23 3 21 22,.l2 24 3 23,.c1 25 51 [20,24],.u1 26 25]) (.cnd 26 (.rf 4) .skip))) (.ic 15 16 5)))))) (.rt 4))))
theorem zeF:zn Try.prog [] 28=some (zeC.ac,[(.t 4)],27):=by kernel_rfl
theorem za6 (W0:World) (a b:List Mark):Fn Try.prog W0 28 [zs a,zs b] (.c (CB (decide (a=b)))) []:=by
 refine fX mixed zeF fun hg=>?_
 have g1:=qf (hg _ (by simp:zs a∈_));refine dr ?_;apply cP<;>intro h1
 ·conv=>whnf
  exact dF (yq (by omega))
 conv=>whnf
 refine lp (σ:=Nat) (fun k=>[(0,.c (zs a)),(1,.c (zs b)),(5,I k)]) (fun _=>[]) (fun k=>k≤a.length∧a.take k=b.take k) (fun k=>a.length - k) 0 ⟨by simp,by simp⟩ ?_ ?_
 ·refine dr ?_;trivial
 rintro k ⟨hk,he⟩;refine dr ?_;apply cP<;>intro h2
 ·refine dr ?_;repeat (refine c0 (zgp W0 _ _) rfl ?_; first|refine dr ?_|exact dz)
  apply cP<;>intro h3;rotate_left
  ·refine dr ?_;refine ⟨k+1,⟨by omega,yB (by omega) (by omega) he (by simpa using h3)⟩,by omega,?_⟩;refine dr ?_;trivial
  ·conv=>whnf
   exact dF (yp (k:=k) (by omega) (by omega) (by simpa using h3))
 ·refine dr ?_;have:k=a.length:=by omega
  subst this;exact dT (yg (by omega) he)
def zeD:XC:=(.s (.r [.m1 4 .n]) (.s (.s (.r [.mv 6 0,.n1 7 6,.mv 8 1,.n1 9 8,.b1 10 .neq 7 9]) (.cnd 10 (.rf 4) .skip)) (.s (.s (.r [.m1 5 (.i 0)]) (.blk 0 (.loop (.s (.s (.r [.mv 11 5,.mv 12 0,.n1 13 12,.b1 14 .lss 11 13]) (.ce 14 0)) (.s (.blk 1 (.s (.d [.mv 17 0,.mv 18 5,.i1 19 1 17 18,.l1 20 1 19,.mv 21 1,.mv 22 5,.i1 23 1 21 22,.l1 24 1 23,.c1 25 28 [20,24],.u1 26 25]) (.cnd 26 (.rf 4) .skip))) (.ic 15 16 5)))))) (.rt 4))))
theorem zeE:zn Try.prog [] 27=some (zeD.ac,[(.t 4)],27):=by kernel_rfl
theorem zgJ (W0:World) (a b:List (List Mark)):Fn Try.prog W0 27 [zT a,zT b] (.c (CB (decide (a=b)))) []:=by
 refine fX mixed zeE fun hg=>?_
 have g1:=qf (hg _ (by simp:zT a∈_));refine dr ?_;apply cP<;>intro h1
 ·conv=>whnf
  exact dF (yq (by omega))
 conv=>whnf
 refine lp (σ:=Nat) (fun k=>[(0,.c (zT a)),(1,.c (zT b)),(5,I k)]) (fun _=>[]) (fun k=>k≤a.length∧a.take k=b.take k) (fun k=>a.length - k) 0 ⟨by simp,by simp⟩ ?_ ?_
 ·refine dr ?_;trivial
 rintro k ⟨hk,he⟩;refine dr ?_;apply cP<;>intro h2
 ·refine dr ?_;repeat (refine c0 (za6 W0 _ _) rfl ?_; first|refine dr ?_|exact dz)
  apply cP<;>intro h3;rotate_left
  ·refine dr ?_;refine ⟨k+1,⟨by omega,yB (by omega) (by omega) he (by simpa using h3)⟩,by omega,?_⟩;refine dr ?_;trivial
  ·conv=>whnf
   exact dF (yp (k:=k) (by omega) (by omega) (by simpa using h3))
 ·refine dr ?_;have:k=a.length:=by omega
  subst this;exact dT (yg (by omega) he)







def zeN:XC:=(.s (.r [.x1 2 0,.x1 3 1,.m1 4 .n]) (.s (.s (.r [.f1 5 0 2,.l1 6 1 5,.f1 7 0 3,.l1 8 1 7,.c1 9 26 [6,8],.u1 10 9]) (.cnd 10 (.rf 4) .skip)) (.s (.s (.r [.f1 11 1 2,.l1 12 1 11,.f1 13 1 3,.l1 14 1 13,.c1 15 27 [12,14],.u1 16 15]) (.cnd 16 (.rf 4) .skip)) (.s (.s (.r [.f1 17 2 2,.l1 18 1 17,.f1 19 2 3,.l1 20 1 19,.c1 21 28 [18,20],.u1 22 21]) (.cnd 22 (.rf 4) .skip)) (.rt 4)))))
theorem zeO:zn Try.prog [] 9=some (zeN.ac,[(.t 4)],23):=by kernel_rfl
theorem za4 (W0:World) (a b:Over):Fn Try.prog W0 9 [z8 a,z8 b] (.c (CB (decide (a=b)))) []:=by
 refine fX mixed zeO fun hg=>?_
 refine dr ?_;repeat (refine c0 (zgE W0 a.base b.base) rfl ?_; first|refine dr ?_|exact dz)
 apply cP<;>intro h1
 ·conv=>whnf
  exact dF fun e=>by simp [e] at h1
 refine dr ?_;repeat (refine c0 (zgJ W0 a.layers b.layers) rfl ?_; first|refine dr ?_|exact dz)
 apply cP<;>intro h2
 ·conv=>whnf
  exact dF fun e=>by simp [e] at h2
 refine dr ?_;repeat (refine c0 (za6 W0 a.upper b.upper) rfl ?_; first|refine dr ?_|exact dz)
 apply cP<;>intro h3
 ·conv=>whnf
  exact dF fun e=>by simp [e] at h3
 refine dr ?_;exact dT (by cases a; cases b; simp_all)
def zft:XC:=(.s (.r [.x1 1 0,.ex 2 (.alloc zE)]) (.s (.r [.ex 3 (.alloc zE)]) (.s (.r [.f1 4 0 1,.l1 5 1 4,.f1 6 0 3,.s1 1 6 5]) (.s (.r [.f1 7 1 1,.l1 8 1 7,.f1 9 1 3,.s1 1 9 8]) (.s (.r [.f1 10 2 1,.l1 11 1 10,.f1 12 2 3,.s1 1 12 11]) (.s (.r [.l2 13 3 3,.s1 3 2 13]) .ret))))))
theorem zfw:zn Try.prog [] 43=some (zft.ac,[(.cell 2 true 3)],14):=by kernel_rfl
theorem zba (W0:World) (e:Ent):Fn Try.prog W0 43 [zA e] (.c (zA e)) []:=by
 refine fX mixed zfw fun hg=>?_
 refine dr ?_;rfl
def zfx:XC:=(.s (.r [.x1 1 0,.ex 2 (.alloc [sE,(I 0),sE])]) (.s (.r [.ex 3 (.alloc [sE,(I 0),sE])]) (.s (.r [.f1 4 0 1,.l1 5 1 4,.f1 6 0 3,.s1 1 6 5]) (.s (.r [.f1 7 1 1,.l1 8 1 7,.f1 9 1 3,.s1 1 9 8]) (.s (.r [.f1 10 2 1,.l1 11 1 10,.f1 12 2 3,.s1 1 12 11]) (.s (.r [.l2 13 3 3,.s1 3 2 13]) .ret))))))
theorem zfC:zn Try.prog [] 44=some (zfx.ac,[(.cell 2 true 3)],14):=by kernel_rfl
theorem zbb (W0:World) (e:Mark):Fn Try.prog W0 44 [zr e] (.c (zr e)) []:=by
 refine fX mixed zfC fun hg=>?_
 refine dr ?_;rfl
def zfu:XC:=(.s (.r [.a2 2 3 76]) (.s (.r [.mv 5 0,.n1 6 5,.ex 7 (.mks 3 40 76 (.c (.agg [(.sc (.string ⟨#[]⟩)),(.sc (.bool false)),(.sc (.string ⟨#[]⟩))])) 6),.a1 3 7 3 76]) (.s (.s (.r [.m1 4 (.i 0)]) (.blk 0 (.loop (.s (.s (.r [.mv 8 4,.mv 9 0,.n1 10 9,.b1 11 .lss 8 10]) (.ce 11 0)) (.s (.blk 1 (.r [.mv 14 3,.mv 15 4,.mv 16 0,.mv 17 4,.i1 18 3 16 17,.l2 19 3 18,.c1 20 43 [19],.i1 21 3 14 15,.s1 3 21 20])) (.ic 12 13 4)))))) (.s (.r [.mv 22 3,.a1 2 22 3 76]) .ret))))
theorem zfv:zn Try.prog [] 17=some (zfu.ac,[(.t 2)],23):=by kernel_rfl
theorem zg0 (W0:World) (t:List Ent) (ht:t.length≤1048576):Fn Try.prog W0 17 [zD t] (.c (zD t)) []:=by
 refine fX mixed zfv fun hg=>?_
 refine dr ?_;refine lp (σ:=Nat) (fun k=>[(0,.c (zD t)),(3,.own 112 t.length),(4,I k)]) (fun k=>[(112,.row ((t.take k).map zA++List.replicate (t.length - k) (zA ⟨[],false,[]⟩)) 3 76)]) (fun k=>k≤t.length) (fun k=>t.length - k) 0 (by simp) ?_ ?_
 ·refine dr ?_;trivial
 rintro k hk;refine dr ?_;apply cP<;>intro h2
 ·refine dr ?_;repeat ((first|refine c0 (zba W0 _) rfl ?_|refine oB (yk hk) ?_|refine aE (j:=k) rfl (ZY (by omega)) ?_); first|refine dr ?_|exact dz)
  intro hg2;refine dr ?_;refine ⟨k+1,by omega,by omega,?_⟩;refine dr ?_;repeat (refine oB (by rw [← Jm (f:=zA) (by omega:k < t.length)]<;>rfl) ?_; first|refine dr ?_|exact dz)
  trivial
 ·have:k=t.length:=by omega
  subst this;refine dr ?_;repeat (refine oB (yk (Nat.le_refl _)) ?_; first|refine dr ?_|exact dz)
  simp [zD]
def zfy:XC:=(.s (.r [.a2 2 3 78]) (.s (.r [.mv 5 0,.n1 6 5,.ex 7 (.mks 3 40 78 (.c (.agg [(.sc (.string ⟨#[]⟩)),(.sc (.int .i64 0)),(.sc (.string ⟨#[]⟩))])) 6),.a1 3 7 3 78]) (.s (.s (.r [.m1 4 (.i 0)]) (.blk 0 (.loop (.s (.s (.r [.mv 8 4,.mv 9 0,.n1 10 9,.b1 11 .lss 8 10]) (.ce 11 0)) (.s (.blk 1 (.r [.mv 14 3,.mv 15 4,.mv 16 0,.mv 17 4,.i1 18 3 16 17,.l2 19 3 18,.c1 20 44 [19],.i1 21 3 14 15,.s1 3 21 20])) (.ic 12 13 4)))))) (.s (.r [.mv 22 3,.a1 2 22 3 78]) .ret))))
theorem zfB:zn Try.prog [] 19=some (zfy.ac,[(.t 2)],23):=by kernel_rfl
theorem zbc (W0:World) (t:List Mark) (ht:t.length≤1048576):Fn Try.prog W0 19 [zs t] (.c (zs t)) []:=by
 refine fX mixed zfB fun hg=>?_
 refine dr ?_;refine lp (σ:=Nat) (fun k=>[(0,.c (zs t)),(3,.own 112 t.length),(4,I k)]) (fun k=>[(112,.row ((t.take k).map zr++List.replicate (t.length - k) (zr ⟨[],0,[]⟩)) 3 78)]) (fun k=>k≤t.length) (fun k=>t.length - k) 0 (by simp) ?_ ?_
 ·refine dr ?_;trivial
 rintro k hk;refine dr ?_;apply cP<;>intro h2
 ·refine dr ?_;repeat ((first|refine c0 (zbb W0 _) rfl ?_|refine oB (yk hk) ?_|refine aE (j:=k) rfl (ZY (by omega)) ?_); first|refine dr ?_|exact dz)
  intro hg2;refine dr ?_;refine ⟨k+1,by omega,by omega,?_⟩;refine dr ?_;repeat (refine oB (by rw [← Jm (f:=zr) (by omega:k < t.length)]<;>rfl) ?_; first|refine dr ?_|exact dz)
  trivial
 ·have:k=t.length:=by omega
  subst this;refine dr ?_;repeat (refine oB (yk (Nat.le_refl _)) ?_; first|refine dr ?_|exact dz)
  simp [zs]
def zfz:XC:=(.s (.r [.a2 2 1 30]) (.s (.r [.mv 5 0,.n1 6 5,.ex 7 (.mks 1 24 30 (.c (.row [])) 6),.a1 3 7 1 30]) (.s (.s (.r [.m1 4 (.i 0)]) (.blk 0 (.loop (.s (.s (.r [.mv 8 4,.mv 9 0,.n1 10 9,.b1 11 .lss 8 10]) (.ce 11 0)) (.s (.blk 1 (.r [.mv 14 3,.mv 15 4,.mv 16 0,.mv 17 4,.i1 18 1 16 17,.l1 19 1 18,.c1 20 19 [19],.i1 21 1 14 15,.s1 1 21 20])) (.ic 12 13 4)))))) (.s (.r [.mv 22 3,.a1 2 22 1 30]) .ret))))
theorem zfA:zn Try.prog [] 18=some (zfz.ac,[(.t 2)],23):=by kernel_rfl
theorem zg2 (W0:World) (t:List (List Mark)) (ht:t.length≤1048576) (ht2:∀ l∈t,l.length≤1048576):Fn Try.prog W0 18 [zT t] (.c (zT t)) []:=by
 refine fX mixed zfA fun hg=>?_
 refine dr ?_;refine lp (σ:=Nat) (fun k=>[(0,.c (zT t)),(3,.own 112 t.length),(4,I k)]) (fun k=>[(112,.row ((t.take k).map zs++List.replicate (t.length - k) (zs [])) 1 30)]) (fun k=>k≤t.length) (fun k=>t.length - k) 0 (by simp) ?_ ?_
 ·refine dr ?_;trivial
 rintro k hk;refine dr ?_;apply cP<;>intro h2
 ·refine dr ?_;repeat ((first|refine c0 (zbc W0 _ (ht2 _ (by simp))) rfl ?_|refine oB (yk hk) ?_|refine aE (j:=k) rfl (ZY (by omega)) ?_); first|refine dr ?_|exact dz)
  intro hg2;refine dr ?_;refine ⟨k+1,by omega,by omega,?_⟩;refine dr ?_;repeat (refine oB (by rw [← Jm (f:=zs) (by omega:k < t.length)]<;>rfl) ?_; first|refine dr ?_|exact dz)
  trivial
 ·have:k=t.length:=by omega
  subst this;refine dr ?_;repeat (refine oB (yk (Nat.le_refl _)) ?_; first|refine dr ?_|exact dz)
  simp [zT]
def zfD:XC:=(.s (.r [.x1 1 0,.ex 2 (.alloc [.nil,.nil,.nil])]) (.s (.r [.ex 3 (.alloc [.nil,.nil,.nil])]) (.s (.r [.f1 4 0 1,.l1 5 1 4,.c1 6 17 [5],.f1 7 0 3,.s1 1 7 6]) (.s (.r [.f1 8 1 1,.l1 9 1 8,.c1 10 18 [9],.f1 11 1 3,.s1 1 11 10]) (.s (.r [.f1 12 2 1,.l1 13 1 12,.c1 14 19 [13],.f1 15 2 3,.s1 1 15 14]) (.s (.r [.l2 16 3 3,.s1 3 2 16]) .ret))))))
theorem zfE:zn Try.prog [] 6=some (zfD.ac,[(.cell 2 true 3)],17):=by kernel_rfl
theorem zg4 (W0:World) (o:Over) (h1:o.base.length≤1048576) (h2:o.layers.length≤1048576) (h3:∀ l∈o.layers,l.length≤1048576) (h4:o.upper.length≤1048576) :
  Fn Try.prog W0 6 [z8 o] (.c (z8 o)) []:=by
 refine fX mixed zfE fun hg=>?_
 refine dr ?_;repeat (refine c0 (zg0 W0 o.base h1) rfl ?_; first|refine dr ?_|exact dz)
 intro hg1;refine dr ?_;repeat (refine c0 (zg2 W0 o.layers h2 h3) rfl ?_; first|refine dr ?_|exact dz)
 intro hg2;refine dr ?_;repeat (refine c0 (zbc W0 o.upper h4) rfl ?_; first|refine dr ?_|exact dz)
 intro hg3;refine dr ?_;rfl
theorem zdt {α:Type} {f:α→Int→Int} (hf:∀ a l,-1≤l → -1≤f a l∧f a l≤l) {p:α→Int→Prop} (hp:∀ a l,0≤l→0≤f a l→p a l) (hm:∀ a l l',p a l→l≤l'→p a l'):∀ {t:List α} {l:Int},0≤l→0≤szL f t l→∀ a∈t,p a l
 | [],l,_,_,a,ha=>by simp at ha
 | b::t,l,h0,h,a,ha=>by
  unfold szL at h;split at h
  ·omega
  ·have h1:=hf b l (by omega);rcases List.mem_cons.1 ha with rfl | ha
   ·exact hp _ l h0 (by omega)
   ·exact hm _ _ _ (zdt hf hp hm (t:=t) (l:=f b l) (by omega) h a ha) h1.2
theorem Jr {α:Type} {f:α→Int→Int} {t:List α} {l:Int} (h0:0≤l) (h:0≤szR f t l):t.length≤l∧0≤szL f t (l - t.length):=by
 unfold szR at h;split at h<;>omega
structure OvFit (o:Over):Prop where
 h1:o.base.length≤1048576
 h2:o.layers.length≤1048576
 h3:∀ l∈o.layers,l.length≤1048576
 h4:o.upper.length≤1048576
theorem zjB {o:Over} {l:Int} (h : -1≤l) : -1≤jW o l∧jW o l≤l:=by
 have s1:=@jX _ _ (fun a l=>@Jq a l) o.base l h;have s2:=@jX _ _ (fun a l=>@jX _ _ (fun a l=>@qO a l) a l) o.layers _ s1.1;have s3:=@jX _ _ (fun a l=>@qO a l) o.upper _ s2.1;unfold jW;split
 ·omega
 split
 ·omega
 split<;>omega
theorem zjA {o:Over} {l:Int} (h0:0≤l) (hl:l≤1048576) (h:0≤jW o l):OvFit o:=by
 have s1:=@jX _ _ (fun a l=>@Jq a l) o.base l (by omega);have s2:=@jX _ _ (fun a l=>@jX _ _ (fun a l=>@qO a l) a l) o.layers _ s1.1;unfold jW at h;split at h
 ·omega
 rename_i g1;split at h
 ·omega
 rename_i g2;split at h
 ·omega
 have k1:=Jr h0 (by omega:0≤szR jk o.base l);have k2:=Jr (by omega) (by omega:0≤szR (szR z7) o.layers (szR jk o.base l));have k3:=Jr (by omega) h;refine ⟨by omega,by omega,fun x hx=>?_,by omega⟩;have:=zdt (f:=szR z7) (p:=fun a l=>(a.length:Int)≤l) (fun a l=>@jX _ _ (fun a l=>@qO a l) a l) (fun a l h0 h=>(Jr h0 h).1) (fun a l l' h h'=>Int.le_trans h h') (by omega) k2.2 x hx;omega




theorem zjK {t:List Ent} {p:Str}:upC2 t p=upC t p:=by
 unfold upC2 upC get;by_cases h:pUp p=[47]
 ·rw [if_pos h,if_pos h]<;>rfl
 ·rw [if_neg h,if_neg h]<;>rfl
theorem Ju {t:List Ent} {p:Str}:upC t p=0↔zJ t (pUp p)=true:=by rw [← zjK]; exact zjJ
theorem zcr {op:Op} (h:jS op=true):pOk op.path=true:=by
 simp only [jS,Bool.and_eq_true] at h; exact h.2.1
theorem zig {op:Op} (h:jS op=true):1≤op.kind∧op.kind≤5:=by
 simp only [jS,Bool.and_eq_true,decide_eq_true_eq] at h; exact h.1
theorem op_5 {op:Op} (h:jS op=true) (k:op.kind=5):pOk op.dest=true∧op.data=[]:=by
 simp only [jS,Bool.and_eq_true,k,if_true] at h;exact ⟨h.2.2.1,by simpa using h.2.2.2⟩
theorem zih {op:Op} (h:jS op=true) (k:op.kind≠5):op.dest=[]∧yK op.data=true∧(op.kind=2∨op.data=[]):=by
 simp only [jS,Bool.and_eq_true,if_neg k] at h;exact ⟨by simpa using h.2.2.1,h.2.2.2.1,by simpa using h.2.2.2.2⟩
theorem Qa {α:Type} {key:α→Str} {t:List α} {e x:α} (hs:Srt key t):x∈putG key t e↔x=e∨(x∈t∧key x≠key e):=by
 rw [Zf (qM hs),ZX];by_cases h:key e=key x
 ·rw [if_pos h];constructor
  ·intro h2; exact .inl (Option.some.inj h2).symm
  ·rintro (rfl | h2)
   ·rfl
   ·exact absurd h.symm h2.2
 ·rw [if_neg h,← Zf hs];constructor
  ·intro h2; exact .inr ⟨h2,fun e=>h e.symm⟩
  ·rintro (rfl | h2)
   ·exact absurd rfl h
   ·exact h2.1
theorem new0 {t:List Ent} {p:Str} (hp:pOk p=true):newC t p=0↔zJ t (pUp p)=true∧find t p=none∧t.length < 16:=by
 unfold newC;rw [jq hp];by_cases h:upC t p=0
 ·rw [if_neg (by simp [h])];have h':=Ju.1 h;cases hf:find t p with
  | some e=>simp
  | none =>
   simp only [Option.isSome_none,Bool.false_eq_true,if_false];by_cases hl:16≤t.length
   ·rw [if_pos hl]; simp; omega
   ·rw [if_neg hl]; simp [h']; omega
 ·rw [if_pos h];constructor
  ·intro e; exact absurd e h
  ·rintro ⟨e,_⟩; exact absurd (Ju.2 e) h
theorem new4 {t:List Ent} {p:Str} (hp:pOk p=true) (h:newC t p=4):zJ t (pUp p)=true∧∃ e,find t p=some e:=by
 unfold newC at h;rw [jq hp] at h;split at h
 ·rename_i h1;unfold upC at h;split at h
  ·cases h
  ·split at h<;>cases h
 ·rename_i h1;refine ⟨Ju.1 (by simpa using h1),?_⟩;split at h
  ·rename_i h2; exact Option.isSome_iff_exists.1 h2
  ·split at h<;>cases h
theorem put0 {t:List Ent} {p:Str} (hp:pOk p=true) (h:putC t p=0):zJ t (pUp p)=true∧((find t p=none∧t.length < 16)∨∃ e,find t p=some e∧e.dir=false):=by
 unfold putC at h;rw [jq hp] at h;split at h
 ·rename_i h1;obtain ⟨h2,e,h3⟩:=new4 hp h1;refine ⟨h2,.inr ⟨e,h3,?_⟩⟩;rw [h3] at h;simp only [Option.getD_some] at h;split at h
  ·cases h
  ·rename_i h4; simpa using h4
 ·have:=(new0 hp).1 h;exact ⟨this.1,.inl this.2⟩
theorem off0 {t:List Ent} {op:Op} (ht:TG t) (hp:pOk op.path=true) (hk:op.kind=3∨op.kind=4):offC t op=0↔∃ e,find t op.path=some e∧e.dir=(op.kind==4)∧kids t op.path=[]:=by
 unfold offC;rw [jq hp];cases hf:find t op.path with
 | none=>simp
 | some e =>
  simp only [Option.some.injEq,exists_eq_left'];have key:(if 0 < (kids t op.path).length then (6:Int) else 0)=0↔kids t op.path=[]:=by
   cases kids t op.path<;>simp
  rcases hk with hk | hk
  ·by_cases hd:e.dir=true
   ·simp [hk,hd]
   ·simp only [Bool.not_eq_true] at hd;rw [if_neg (by simp [hd]),if_neg (by simp [hk]),key];simp [hk,hd]
  ·by_cases hd:e.dir=true
   ·rw [if_neg (by simp [hk]),if_neg (by simp [hd]),key];simp [hk,hd]
   ·simp only [Bool.not_eq_true] at hd;rw [if_neg (by simp [hk]),if_pos ⟨hk,hd⟩];simp [hk,hd]
theorem mov0 {t:List Ent} {op:Op} (hp:pOk op.path=true) (hq:pOk op.dest=true):movC t op=0↔(∃ e,find t op.path=some e)∧zJ t (pUp op.dest)=true∧find t op.dest=none∧und op.dest op.path=false∧∀ e∈t,(jD e.path op.path op.dest).isSome=true:=by
 unfold movC;rw [jq hp,jq hq];cases hf:find t op.path with
 | none=>simp
 | some e =>
  simp only [Option.isSome_some,Bool.true_eq_false,if_false,Option.some.injEq,exists_eq',true_and];by_cases h1:upC t op.dest=0
  ·rw [if_neg (by simp [h1])];have h1':=Ju.1 h1;cases hf2:find t op.dest with
   | some e=>simp
   | none =>
    simp only [Option.isSome_none,Bool.false_eq_true,if_false];by_cases h2:und op.dest op.path=true
    ·rw [if_pos h2]; simp [h2]
    ·rw [if_neg h2];simp only [Bool.not_eq_true] at h2;by_cases h3:t.all (fun e=>(jD e.path op.path op.dest).isSome)=true
     ·rw [if_pos h3]; simp only [h1',h2,true_and,true_iff]; exact List.all_eq_true.1 h3
     ·rw [if_neg h3];constructor
      ·intro h; cases h
      ·rintro ⟨_,_,_,h⟩; exact absurd (List.all_eq_true.2 h) h3
  ·rw [if_pos h1];constructor
   ·intro h; exact absurd h h1
   ·rintro ⟨h,_⟩; exact absurd (Ju.2 h) h1
theorem last47 {a a' l l':Str} (h:a++47::l=a'++47::l') (h1:(47:UInt8) ∉ l) (h2:(47:UInt8) ∉ l'):a=a'∧l=l':=by
 rcases List.append_eq_append_iff.1 h with ⟨c,h3,h4⟩ | ⟨c,h3,h4⟩
 ·cases c with
  | nil=>simp at h3 h4; exact ⟨h3.symm,h4⟩
  | cons x c =>
   simp only [List.cons_append,List.cons.injEq] at h4;exact absurd (by rw [h4.2]; simp) h1
 ·cases c with
  | nil=>simp at h3 h4; exact ⟨h3,h4.symm⟩
  | cons x c =>
   simp only [List.cons_append,List.cons.injEq] at h4;exact absurd (by rw [h4.2]; simp) h2
theorem zis {s a l:Str} (h:pOk s=true) (e:s=a++47::l) (hl:(47:UInt8) ∉ l) (ha:a≠[]):pUp s=a:=by
 obtain ⟨a',l',h1,h2,_,_,_,_,_,h6⟩:=Jd h;obtain ⟨rfl,rfl⟩:=last47 (e.symm.trans h1) hl h2;rw [h6,if_neg ha]
theorem zdC {s d:Str} (hd:d≠[47]) (h:und s d=true):∃ r,s=d++47::r:=by
 unfold und at h;simp only [Bool.or_eq_true,beq_iff_eq,hd,false_or,List.isPrefixOf_iff_prefix] at h;obtain ⟨r,h⟩:=h;exact ⟨r,by rw [← h]; simp⟩
theorem zjl {d r:Str}:und (d++47::r) d=true:=by
 unfold und;simp only [Bool.or_eq_true,List.isPrefixOf_iff_prefix];exact .inr ⟨r,by simp⟩
def blw (s f:Str):Bool:=s==f||und s f
theorem ZL {s f:Str} (hf:f≠[47]) (h:blw s f=true):∃ r,s=f++r∧(r=[]∨∃ q,r=47::q):=by
 unfold blw at h;simp only [Bool.or_eq_true,beq_iff_eq] at h;rcases h with rfl | h
 ·exact ⟨[],by simp,.inl rfl⟩
 ·obtain ⟨r,h⟩:=zdC hf h;exact ⟨47::r,h,.inr ⟨r,rfl⟩⟩
theorem zjk {f r:Str} (h:r=[]∨∃ q,r=47::q):blw (f++r) f=true:=by
 unfold blw;rcases h with rfl | ⟨q,rfl⟩
 ·simp
 ·rw [zjl]; simp
theorem zir {s f tq:Str} (h:blw s f=true) (hm:(jD s f tq).isSome=true):jD s f tq=some (tq++s.drop f.length)∧pOk (tq++s.drop f.length)=true:=by
 unfold jD at hm ⊢;by_cases h1:(pOk s&&pOk f&&pOk tq)=true
 ·rw [if_pos h1] at hm ⊢;have h2:¬ (s != f&&!und s f)=true:=by
   unfold blw at h;by_cases hs:s=f
   ·simp [hs]
   ·simp [hs] at h; simp [h]
  rw [if_neg h2] at hm ⊢;by_cases h3:pOk (tq++s.drop f.length)=true
  ·rw [if_pos h3]; exact ⟨rfl,h3⟩
  ·rw [if_neg h3] at hm; cases hm
 ·rw [if_neg h1] at hm; cases hm
theorem zcB {s f tq:Str} (hs:pOk s=true) (hf:pOk f=true) (ht:pOk tq=true) (h:blw s f=false):jD s f tq=some s:=by
 unfold jD;rw [if_pos (by simp [hs,hf,ht]),if_pos];unfold blw at h
 simpa using h
structure MV (t:List Ent) (f tq:Str):Prop where
 tg:TG t
 pf:pOk f=true
 pt:pOk tq=true
 frm:∃ e,find t f=some e
 up:zJ t (pUp tq)=true
 free:find t tq=none
 nun:und tq f=false
 all:∀ e∈t,(jD e.path f tq).isSome=true
theorem MV.of {t:List Ent} {op:Op} (ht:TG t) (ho:jS op=true) (hk:op.kind=5) (h:movC t op=0):MV t op.path op.dest:=by
 have hp:=zcr ho;have hq:=(op_5 ho hk).1;obtain ⟨a,b,c,d,e⟩:=(mov0 hp hq).1 h;exact ⟨ht,hp,hq,a,b,c,d,e⟩
section
variable {t:List Ent} {f tq:Str}
theorem MV.fr (h:MV t f tq):f≠[47]:=yU h.pf
theorem MV.at (h:MV t f tq) {e:Ent} (he:e∈t) (hb:blw e.path f=true):(movE f tq e).path=tq++e.path.drop f.length∧pOk (tq++e.path.drop f.length)=true:=by
 obtain ⟨h1,h2⟩:=zir hb (h.all e he);exact ⟨by unfold movE; rw [h1]; rfl,h2⟩
theorem MV.stay (h:MV t f tq) {e:Ent} (he:e∈t) (hb:blw e.path f=false):movE f tq e=e:=by
 unfold movE; rw [zcB (h.tg.path he) h.pf h.pt hb]; rfl
theorem MV.clear (h:MV t f tq) {e:Ent} (he:e∈t):blw e.path tq=false:=by
 cases hb:blw e.path tq with
 | false=>rfl
 | true =>
  unfold blw at hb;simp only [Bool.or_eq_true,beq_iff_eq] at hb;have hf:=h.free;rcases hb with hb | hb
  ·rw [← hb,h.tg.at he] at hf; cases hf
  ·rw [h.tg.anc' (h.tg.at he) h.pt hb] at hf; cases hf
theorem MV.blw_to (h:MV t f tq) {e:Ent} (he:e∈t):blw (movE f tq e).path tq=blw e.path f:=by
 cases hb:blw e.path f with
 | true =>
  rw [(h.at he hb).1];obtain ⟨r,h1,h2⟩:=ZL h.fr hb;rw [h1,List.drop_left];exact zjk h2
 | false=>rw [h.stay he hb]; exact h.clear he
theorem MV.inv (h:MV t f tq) {e:Ent} (he:e∈t):movE tq f (movE f tq e)=e:=by
 cases hb:blw e.path f with
 | true =>
  obtain ⟨h1,h2⟩:=h.at he hb;have hb2:=h.blw_to he;rw [hb,h1] at hb2;obtain ⟨r,h3,h4⟩:=ZL h.fr hb;have hd:f++(tq++e.path.drop f.length).drop tq.length=e.path:=by rw [List.drop_left,h3,List.drop_left]
  have hm:jD (tq++e.path.drop f.length) tq f=some e.path:=by
   unfold jD;rw [if_pos (by simp [h2,h.pf,h.pt]),if_neg,hd,if_pos (h.tg.path he)];unfold blw at hb2;simp only [Bool.or_eq_true,beq_iff_eq] at hb2;rcases hb2 with hb2 | hb2
   ·simp [hb2]
   ·simp [hb2]
  unfold movE at h1 ⊢;simp only at h1;simp only [h1,hm];rfl
 | false =>
  rw [h.stay he hb];unfold movE;rw [zcB (h.tg.path he) h.pt h.pf (h.clear he)];rfl
theorem MV.inj (h:MV t f tq) {x y:Ent} (hx:x∈t) (hy:y∈t) (e:(movE f tq x).path=(movE f tq y).path):x.path=y.path:=by
 have hb:blw x.path f=blw y.path f:=by rw [← h.blw_to hx,← h.blw_to hy,e]
 cases hb2:blw x.path f with
 | true =>
  rw [(h.at hx hb2).1,(h.at hy (hb▸hb2)).1] at e;have e':=List.append_cancel_left e;obtain ⟨r,h1,_⟩:=ZL h.fr hb2;obtain ⟨q,h3,_⟩:=ZL h.fr (hb▸hb2);rw [h1,h3,List.drop_left,List.drop_left] at e';rw [h1,h3,e']
 | false=>rw [h.stay hx hb2,h.stay hy (hb▸hb2)] at e; exact e
theorem MV.nodup (h:MV t f tq):((t.map (movE f tq)).map Ent.path).Nodup:=by
 have hn:=Qy h.tg.srt;rw [List.map_map];unfold List.Nodup at hn ⊢;rw [List.pairwise_map] at hn ⊢;exact hn.imp_of_mem fun hx hy hne e=>hne (h.inj hx hy e)
end
theorem zbv {α:Type} {key:α→Str}:∀ {l t:List α},Srt key t→((t++l).map key).Nodup→Srt key (l.foldl (putG key) t)∧∀ x,x∈l.foldl (putG key) t↔x∈t∨x∈l
 | [],t,hs,_=>⟨hs,by simp⟩
 | e::l,t,hs,hn=>by
  have hk:∀ y∈t,key y≠key e:=fun y hy he=>by
   rw [List.map_append] at hn;have:=(List.nodup_append.1 hn).2.2 (key y) (List.mem_map_of_mem hy) (key e) (by simp);exact this he
  have hm:∀ x,x∈putG key t e↔x=e∨x∈t:=fun x=>by
   rw [Qa hs];constructor
   ·rintro (h | h)
    ·exact .inl h
    ·exact .inr h.1
   ·rintro (h | h)
    ·exact .inl h
    ·exact .inr ⟨h,hk x h⟩
  have hn2:((putG key t e++l).map key).Nodup:=by
   have hp:((putG key t e).map key).Nodup:=Qy (qM hs);rw [List.map_append] at hn ⊢;rw [List.nodup_append] at hn ⊢;obtain ⟨h1,h2,h3⟩:=hn;rw [List.map_cons,List.nodup_cons] at h2;refine ⟨hp,h2.2,?_⟩;intro a ha b hb;obtain ⟨x,hx,rfl⟩:=List.mem_map.1 ha;rcases (hm x).1 hx with rfl | hx
   ·rintro rfl; exact h2.1 hb
   ·exact h3 _ (List.mem_map_of_mem hx) b (by simp; exact .inr (by simpa using hb))
  obtain ⟨h1,h2⟩:=zbv (qM hs) hn2;refine ⟨h1,fun x=>?_⟩;rw [List.foldl_cons,h2,hm];simp only [List.mem_cons];constructor
  ·rintro ((h | h) | h)
   ·exact .inr (.inl h)
   ·exact .inl h
   ·exact .inr (.inr h)
  ·rintro (h | h | h)
   ·exact .inl (.inr h)
   ·exact .inl (.inl h)
   ·exact .inr h
theorem zch (t:List Ent) (f tq:Str):movT t f tq=(t.map (movE f tq)).foldl put []:=by
 unfold movT; rw [List.foldl_map]
theorem MV.spec {t:List Ent} {f tq:Str} (h:MV t f tq):Srt Ent.path (movT t f tq)∧∀ x,x∈movT t f tq↔∃ e∈t,movE f tq e=x:=by
 obtain ⟨h1,h2⟩:=zbv (key:=Ent.path) (l:=t.map (movE f tq)) (t:=[]) List.Pairwise.nil (by simpa using h.nodup);rw [zch];exact ⟨h1,fun x=>by rw [h2]; simp⟩
theorem zhz {t:List Ent} (hs:Srt Ent.path t) {p:Str} {e:Ent} (hp:pOk p=true) (he:e∈t) (h1:e.path=p) (h2:e.dir=true):zJ t p=true:=by
 unfold zJ;have:find t p=some e:=by rw [← h1]; exact jL hs he
 rw [jq hp,this]; exact h2
theorem MV.ok {t:List Ent} {f tq:Str} (h:MV t f tq):TG (movT t f tq):=by
 obtain ⟨h1,h2⟩:=h.spec;have up:∀ {u:Str} {d:Ent},pOk u=true→d∈t→(movE f tq d).path=u→d.dir=true→zJ (movT t f tq) u=true:=fun hu hd hp hdir=>zhz h1 hu ((h2 _).2 ⟨_,hd,rfl⟩) hp hdir
 refine ⟨?_,h1,?_,?_⟩
 ·have:(movT t f tq).length≤(t.map (movE f tq)).length:=by
   rw [zch]; exact Nat.le_trans (zbu _ _) (by simp)
  have hl:=h.tg.len;rw [List.length_map] at this;omega
 ·intro x hx;obtain ⟨e,he,rfl⟩:=(h2 x).1 hx;have hk:=h.tg.ok e he;simp only [eok,Bool.and_eq_true] at hk ⊢;refine ⟨?_,hk.2⟩;cases hb:blw e.path f with
  | true=>obtain ⟨q1,q2⟩:=h.at he hb; rw [q1]; exact q2
  | false=>rw [h.stay he hb]; exact hk.1
 ·intro x hx;obtain ⟨e,he,rfl⟩:=(h2 x).1 hx;have hpe:=h.tg.path he;cases hb:blw e.path f with
  | false =>
   rw [h.stay he hb];by_cases hr:pUp e.path=[47]
   ·rw [hr]; exact zbK
   obtain ⟨q1,_⟩:=yw hpe hr;have hd:=h.tg.isDir_ent q1 (h.tg.up e he);obtain ⟨d1,d2⟩:=ju hd;have hb2:blw (pUp e.path) f=false:=by
    cases hb3:blw (pUp e.path) f with
    | false=>rfl
    | true =>
     exfalso;have:und e.path f=true:=by
      unfold blw at hb3;simp only [Bool.or_eq_true,beq_iff_eq] at hb3;rcases hb3 with hb3 | hb3
      ·rw [← hb3]; exact yb hpe
      ·exact Jt h.fr hr (yb hpe) hb3
     unfold blw at hb;simp [this] at hb
   refine up q1 d2 ?_ rfl;rw [h.stay d2 hb2]
  | true =>
   obtain ⟨q1,q2⟩:=h.at he hb;rw [q1];unfold blw at hb;simp only [Bool.or_eq_true,beq_iff_eq] at hb;rcases hb with hb | hb
   ·rw [hb];simp only [List.drop_length,List.append_nil];by_cases hr:pUp tq=[47]
    ·rw [hr]; exact zbK
    obtain ⟨g1,_⟩:=yw h.pt hr;have hd:=h.tg.isDir_ent g1 h.up;obtain ⟨d1,d2⟩:=ju hd;have hb2:blw (pUp tq) f=false:=by
     cases hb3:blw (pUp tq) f with
     | false=>rfl
     | true =>
      exfalso;have:und tq f=true:=by
       unfold blw at hb3;simp only [Bool.or_eq_true,beq_iff_eq] at hb3;rcases hb3 with hb3 | hb3
       ·rw [← hb3]; exact yb h.pt
       ·exact Jt h.fr hr (yb h.pt) hb3
      rw [h.nun] at this; cases this
    refine up g1 d2 ?_ rfl;rw [h.stay d2 hb2]
   ·have hu:pUp e.path=f∨(pUp e.path≠[47]∧pOk (pUp e.path)=true∧und (pUp e.path) f=true):=zdB hpe h.pf hb;have hr:pUp e.path≠[47]:=by
     rcases hu with hu | hu
     ·rw [hu]; exact h.fr
     ·exact hu.1
    obtain ⟨g1,_⟩:=yw hpe hr;have hd:=h.tg.isDir_ent g1 (h.tg.up e he);obtain ⟨d1,d2⟩:=ju hd;have hb2:blw (pUp e.path) f=true:=by
     unfold blw;rcases hu with hu | hu
     ·simp [hu]
     ·simp [hu.2.2]
    obtain ⟨r,r1,r2⟩:=ZL h.fr hb2;obtain ⟨a,l,a1,a2,_,_,_,_,_,a6⟩:=Jd hpe;have ha:a≠[]:=by rintro rfl; rw [if_pos rfl] at a6; exact hr a6
    rw [if_neg ha] at a6;obtain ⟨z1,z2⟩:=h.at (e:=⟨pUp e.path,true,[]⟩) d2 hb2;have hh:e.path.drop f.length=r++47::l:=by
     rw [a1,← a6,r1,List.append_assoc,List.drop_left]
    have hz:(pUp e.path).drop f.length=r:=by rw [r1,List.drop_left]
    simp only at z1 z2;rw [hz] at z1 z2;have:pUp (tq++e.path.drop f.length)=tq++r:=by
     refine zis q2 (l:=l) (by rw [hh,List.append_assoc]) a2 ?_;intro e0;rw [e0] at z2;exact absurd z2 (by decide)
    rw [this];exact up z2 d2 z1 rfl
theorem zcJ {t:List Ent} {n:Ent} (ht:TG t) (hn:eok n=true) (hup:zJ t (pUp n.path)=true) (hd:find t n.path=none∧t.length < 16∨∃ e,find t n.path=some e∧e.dir=false):TG (put t n):=by
 have hp:pOk n.path=true:=by simp only [eok,Bool.and_eq_true] at hn; exact hn.1
 have hs:=qM (e:=n) ht.srt;refine ⟨?_,hs,?_,?_⟩
 ·rcases hd with ⟨_,h⟩ | ⟨e,h1,_⟩
  ·have:=zcG (key:=Ent.path) (t:=t) (e:=n); show (putG Ent.path t n).length≤16; omega
  ·have:(put t n).length≤t.length:=by
    have hn:=Qy hs;have:=YJ (l:=(put t n).map Ent.path) (k:=t.map Ent.path) hn fun x hx=>by
     obtain ⟨y,hy,rfl⟩:=List.mem_map.1 hx;rcases (Qa ht.srt).1 hy with rfl | hy
     ·obtain ⟨q1,q2⟩:=ju h1;rw [← q1]; exact List.mem_map_of_mem q2
     ·exact List.mem_map_of_mem hy.1
    simpa using this
   exact Nat.le_trans this ht.len
 ·intro x hx;rcases (Qa ht.srt).1 hx with rfl | hx
  ·exact hn
  ·exact ht.ok x hx.1
 ·have key:∀ {u:Str},zJ t u=true→zJ (put t n) u=true:=fun {u} hu=>by
   unfold zJ get at hu ⊢;by_cases hr:u=[47]
   ·rw [if_pos hr]; rfl
   rw [if_neg hr] at hu ⊢;have e:find (put t n) u=if n.path=u then some n else find t u:=ZX
   rw [e];by_cases hnu:n.path=u
   ·subst hnu;exfalso;rcases hd with ⟨h1,_⟩ | ⟨e,h1,h2⟩
    ·rw [h1] at hu; cases hu
    ·rw [h1] at hu; simp [h2] at hu
   ·rw [if_neg hnu]; exact hu
  intro x hx;rcases (Qa ht.srt).1 hx with rfl | hx
  ·exact key hup
  ·exact key (ht.up x hx.1)
theorem zg6 {t:List Ent} (hs:Srt Ent.path t) {p q:Str}:find (offT t p) q=if q=p then none else find t q:=by
 unfold offT;have:=Q7 (key:=Ent.path) hs (q:=fun e=>e.path != p) (p:=q);show fnd Ent.path _ q=_;rw [this];by_cases h:q=p
 ·subst h;rw [if_pos rfl];cases hf:fnd Ent.path t q with
  | none=>rfl
  | some e=>simp [Option.filter,(yN hf).1]
 ·rw [if_neg h];show _=fnd Ent.path t q;cases hf:fnd Ent.path t q with
  | none=>rfl
  | some e=>simp [Option.filter,(yN hf).1,h]
theorem zib {t:List Ent} (ht:TG t) {p:Str} (hp:pOk p=true) (hk:kids t p=[]):TG (offT t p):=by
 have hs:Srt Ent.path (offT t p):=Qw ht.srt _;refine ⟨Nat.le_trans (List.length_filter_le _ _) ht.len,hs,fun e he=>ht.ok e (List.mem_filter.1 he).1,fun e he=>?_⟩;have he':=(List.mem_filter.1 he).1;have hu:=ht.up e he';unfold zJ get at hu ⊢;by_cases hr:pUp e.path=[47]
 ·rw [if_pos hr]; rfl
 rw [if_neg hr] at hu ⊢;rw [zg6 ht.srt,if_neg ?_]
 ·exact hu
 ·intro h;have:e.path∈(t.filter fun e=>pUp e.path==p).map Ent.path:=List.mem_map_of_mem (List.mem_filter.2 ⟨he',by simp [h]⟩);unfold kids at hk;rw [List.map_eq_nil_iff] at hk;rw [hk] at this; cases this
theorem zgc {t:List Ent} {op:Op} (ht:TG t) (ho:jS op=true) (hc:y7 t op=0):TG (doT t op):=by
 have hp:=zcr ho;unfold y7 at hc;unfold doT;by_cases h1:op.kind=1
 ·rw [if_pos h1] at hc ⊢;obtain ⟨a,b,c⟩:=(new0 hp).1 hc;exact zcJ ht (by simp [eok,hp]; decide) a (.inl ⟨b,c⟩)
 rw [if_neg h1] at hc ⊢;by_cases h2:op.kind=2
 ·rw [if_pos h2] at hc ⊢;obtain ⟨a,b⟩:=put0 hp hc;exact zcJ ht (by simp [eok,hp,(zih ho (by omega)).2.1]) a b
 rw [if_neg h2] at hc ⊢;by_cases h5:op.kind=5
 ·rw [if_pos h5] at hc ⊢;exact (MV.of ht ho h5 hc).ok
 rw [if_neg h5] at hc ⊢;have hk:=zig ho;obtain ⟨e,_,_,h⟩:=(off0 ht hp (by omega)).1 hc;exact zib ht hp h
theorem TG.tOk {t:List Ent} (h:TG t):tOk t=true:=QH.2 ⟨h.len,h.srt,h.ok,h.up⟩
theorem zdy {t:List Ent} {op:Op} (ht:tOk t=true) (hc:(jt t op).2=0):jS op=true∧y7 t op=0∧(jt t op).1=doT t op∧Go.Proofs.Ytmkmldepkponaaa.tOk (doT t op)=true:=by
 unfold jt at hc ⊢;rw [if_pos ht] at hc ⊢;by_cases ho:jS op=true
 ·rw [if_pos ho] at hc ⊢;by_cases h0:y7 t op=0
  ·rw [if_pos h0];exact ⟨ho,h0,rfl,(zgc (TG.of ht) ho h0).tOk⟩
  ·rw [if_neg h0] at hc; exact absurd hc h0
 ·rw [if_neg ho] at hc; cases hc


theorem zb1:∀ {a:List (List Mark)} {t t':List Ent},lowerA a t=some t'→∀ l∈a,lOk l=true
 | [],_,_,_,l,hl=>by cases hl
 | x::a,t,t',h,l,hl=>by
  rw [lowerA] at h;cases h1:lOn x t with
  | none=>rw [h1] at h; cases h
  | some y =>
   rw [h1] at h;rcases List.mem_cons.1 hl with rfl | hl
   ·exact (J4 h1).2.1
   ·exact zb1 h l hl
theorem zbZ {o:Over} {t:List Ent} (h:jO o=some t):tOk o.base=true∧o.layers.length≤4∧lowerA o.layers o.base=some t:=by
 unfold jO at h;split at h
 ·rename_i hc; exact ⟨hc.1,hc.2,h⟩
 ·cases h
theorem zh2 {o:Over} (h:oOk o=true):(∀ l∈o.layers,lOk l=true)∧lOk o.upper=true:=by
 obtain ⟨t,x,h1,h2,_⟩:=zcl h;refine ⟨zb1 (zbZ h1).2.2,?_⟩;unfold j5 at h2;rw [h1] at h2;exact (J4 h2).2.1

def noO:Over:=⟨[],[],[]⟩
def lowG (o:Over):List Ent:=(jO o).getD []
def vwG (o:Over):List Ent:=(j5 o).getD []
def oDo (o:Over) (op:Op):Over × Int :=
 if oOk o=true then (if (jt (vwG o) op).2=0 then (⟨o.base,o.layers,diff (lowG o) (jt (vwG o) op).1⟩,0) else (o,(jt (vwG o) op).2)) else (noO,1)
def yt (o:Over):Over × Bool:=if oOk o=true then (if 4≤o.layers.length then (o,false) else (⟨o.base,o.layers++[o.upper],[]⟩,true)) else (noO,false)
def oDrop (o:Over):Over:=if oOk o=true then ⟨o.base,o.layers,[]⟩ else noO
structure OG (o:Over) (t x:List Ent):Prop where
 ok:oOk o=true
 low:jO o=some t
 vw:j5 o=some x
 up:o.upper=diff t x
 gt:tOk t=true
 gx:tOk x=true
theorem OG.of {o:Over} (h:oOk o=true):∃ t x,OG o t x:=by
 obtain ⟨t,x,h1,h2,h3⟩:=zcl h;exact ⟨t,x,h,h1,h2,h3,Yp h1,zdH h2⟩
theorem OG.lowG {o:Over} {t x:List Ent} (h:OG o t x):lowG o=t:=by unfold Go.Proofs.Ytmkmldepkponaaa.lowG; rw [h.low]; rfl
theorem OG.vwG {o:Over} {t x:List Ent} (h:OG o t x):vwG o=x:=by unfold Go.Proofs.Ytmkmldepkponaaa.vwG; rw [h.vw]; rfl
theorem OG.mk' {o:Over} {t x:List Ent} (h1:jO o=some t) (h2:j5 o=some x) (h3:o.upper=diff t x):OG o t x :=
 ⟨by unfold oOk; rw [h1,h2]; simp [h3],h1,h2,h3,Yp h1,zdH h2⟩
theorem OG.turn {o:Over} {t y:List Ent} (h:jO o=some t) (hy:tOk y=true):OG ⟨o.base,o.layers,diff t y⟩ t y:=by
 have h1:jO ⟨o.base,o.layers,diff t y⟩=some t:=h;refine OG.mk' h1 ?_ rfl;unfold j5;rw [h1];exact zbQ (Yp h) hy
theorem QU {t:List Ent} (h:tOk t=true):diff t t=[]:=by
 have:jH t t=[]:=by
  cases hx:jH t t with
  | nil=>rfl
  | cons p l =>
   have:=(Zq (TG.of h) (TG.of h) (p:=p)).1 (by rw [hx]; simp);exact absurd rfl this
 unfold diff; rw [this]; rfl
theorem zhF {t:List Ent} (h:tOk t=true):lOn [] t=some t:=by
 have:=zbQ h h
 rwa [QU h] at this
theorem OG.lay {o:Over} {t x:List Ent} (h:OG o t x):o.layers.length≤4∧lowerA o.layers o.base=some t∧tOk o.base=true:=by
 obtain ⟨a,b,c⟩:=zbZ h.low; exact ⟨b,c,a⟩
theorem OG.on {o:Over} {t x:List Ent} (h:OG o t x):lOn o.upper t=some x:=by
 have:=h.vw; unfold j5 at this; rw [h.low] at this; exact this
theorem zjG {x:List Ent} {op:Op} (hx:tOk x=true) (h:(jt x op).2≠0):(jt x op).1=x:=by
 unfold jt at h ⊢;rw [if_pos hx] at h ⊢;split
 ·rename_i h1;rw [if_pos h1] at h;split
  ·rename_i h2; rw [if_pos h2] at h; exact absurd rfl h
  ·rfl
 ·rfl
theorem OG.doEq {o:Over} {t x:List Ent} (h:OG o t x) (op:Op):oDo o op=if (jt x op).2=0 then (⟨o.base,o.layers,diff t (jt x op).1⟩,0) else (o,(jt x op).2):=by
 unfold oDo; rw [if_pos h.ok,h.vwG,h.lowG]
theorem OG.do {o:Over} {t x:List Ent} (h:OG o t x) (op:Op):OG (oDo o op).1 t (jt x op).1∧(oDo o op).2=(jt x op).2∧(oDo o op).1.base=o.base∧(oDo o op).1.layers=o.layers∧((jt x op).2≠0→(oDo o op).1=o):=by
 unfold oDo;rw [if_pos h.ok,h.vwG,h.lowG];by_cases hc:(jt x op).2=0
 ·rw [if_pos hc];obtain ⟨_,_,h3,h4⟩:=zdy h.gx hc;refine ⟨?_,hc.symm,rfl,rfl,fun e=>absurd hc e⟩;rw [h3];exact OG.turn h.low h4
 ·rw [if_neg hc];refine ⟨?_,rfl,rfl,rfl,fun _=>rfl⟩;rw [zjG h.gx hc]; exact h
theorem OG.push {o:Over} {t x:List Ent} (h:OG o t x) (hl:¬ 4≤o.layers.length):yt o=(⟨o.base,o.layers++[o.upper],[]⟩,true)∧OG ⟨o.base,o.layers++[o.upper],[]⟩ x x:=by
 refine ⟨by unfold yt; rw [if_pos h.ok,if_neg hl],?_⟩;have h1:jO ⟨o.base,o.layers++[o.upper],[]⟩=some x:=by
  unfold jO;simp only;rw [if_pos ⟨h.lay.2.2,by simp; omega⟩,zb0,h.lay.2.1];show lowerA [o.upper] t=some x;rw [lowerA,h.on]; rfl
 refine OG.mk' h1 ?_ (QU h.gx).symm;unfold j5;rw [h1];exact zhF h.gx
theorem OG.push_no {o:Over} {t x:List Ent} (h:OG o t x) (hl:4≤o.layers.length):yt o=(o,false)∧o.layers.length=4 :=
 ⟨by unfold yt; rw [if_pos h.ok,if_pos hl],by have:=h.lay.1; omega⟩
theorem OG.drop {o:Over} {t x:List Ent} (h:OG o t x):oDrop o=⟨o.base,o.layers,[]⟩∧OG ⟨o.base,o.layers,[]⟩ t t:=by
 refine ⟨by unfold oDrop; rw [if_pos h.ok],?_⟩;have:=OG.turn h.low h.gt
 rwa [QU h.gt] at this
theorem lay0 {l:List Mark} {t t':List Ent} {p:Str} {e:Ent} (h:lOn l t=some t') (hk:kind l p=0) (hf:find t' p=some e):find t p=some e:=by
 obtain ⟨_,h1,h2,rfl⟩:=J4 h;rw [YN (LG.of h1).srt (TG.of h2).srt,(LG.of h1).kind0.1 hk] at hf;simp only at hf;split at hf
 ·cases hf
 ·exact hf
theorem lays0 {p:Str} {e:Ent}:∀ {ls:List (List Mark)} {b t:List Ent},lowerA ls b=some t→(∀ l∈ls,kind l p=0)→find t p=some e→find b p=some e
 | [],b,t,h,_,hf=>by rw [lowerA] at h; cases h; exact hf
 | l::r,b,t,h,hk,hf=>by
  rw [lowerA] at h;cases hz:lOn l b with
  | none=>rw [hz] at h; cases h
  | some z=>rw [hz] at h; exact lay0 hz (hk l (by simp)) (lays0 h (fun l hl=>hk l (by simp [hl])) hf)
theorem zdw {all:List (List Mark)} {p:Str}:∀ {k:Nat},topN all p k=0→∀ j,j < k→kind (all.getD j []) p=0
 | 0,_,j,hj=>by omega
 | k+1,h,j,hj=>by
  rw [topN] at h;split at h
  ·omega
  ·rename_i h1;by_cases hjk:j=k
   ·subst hjk; simpa using h1
   ·exact zdw h j (by omega)
theorem zjE {all:List (List Mark)} {p:Str} {k:Nat} (h:topN all p (k+1)≠k+1):kind (all.getD k []) p=0:=by
 rw [topN] at h;split at h
 ·exact absurd rfl h
 ·rename_i h1; simpa using h1
theorem OG.from {o:Over} {t x:List Ent} (h:OG o t x) {p:Str} {e:Ent} (hg:get x p=some e):(topN (allL o) p (allL o).length=0→get o.base p=some e)∧(topN (allL o) p (allL o).length≠o.layers.length+1→get t p=some e):=by
 have hal:(allL o).length=o.layers.length+1:=by simp [allL]
 unfold get at hg ⊢;by_cases hp:p=[47]
 ·rw [if_pos hp] at hg; rw [if_pos hp,if_pos hp]; exact ⟨fun _=>hg,fun _=>hg⟩
 rw [if_neg hp] at hg;rw [if_neg hp,if_neg hp];have hup:kind o.upper p=0→find t p=some e:=fun hk=>lay0 h.on hk hg
 have hgu:(allL o).getD o.layers.length []=o.upper:=by unfold allL; simp [List.getD]
 refine ⟨fun h0=>?_,fun hn=>?_⟩
 ·have hall:=zdw h0;refine lays0 h.lay.2.1 (fun l hl=>?_) (hup ?_)
  ·obtain ⟨j,hj,rfl⟩:=List.mem_iff_getElem.1 hl;have:=hall j (by omega);have e1:(allL o).getD j []=o.layers[j]:=by unfold allL; simp [List.getD,List.getElem?_append_left hj,hj]
   rwa [e1] at this
  ·have:=hall o.layers.length (by omega)
   rwa [hgu] at this
 ·rw [hal] at hn;have:=zjE hn;rw [hgu] at this;exact hup this
theorem OG.get {o:Over} {t x:List Ent} (h:OG o t x) (p:Str):oGet o p=(Go.Proofs.Ytmkmldepkponaaa.get x p).map fun e=>(e,(topN (allL o) p (allL o).length:Int)):=by
 unfold oGet;rw [if_pos h.ok,h.vw];simp only;cases Go.Proofs.Ytmkmldepkponaaa.get x p<;>rfl
structure OS (o:Over):Prop where
 b:o.base.length≤17
 n:o.layers.length≤4
 l:∀ l∈o.layers,l.length≤32
 u:o.upper.length≤32
theorem OS.no:OS noO:=⟨by simp [noO],by simp [noO],by simp [noO],by simp [noO]⟩
theorem OG.os {o:Over} {t x:List Ent} (h:OG o t x):OS o:=by
 obtain ⟨h1,h2⟩:=zh2 h.ok;have hb:=(TG.of h.lay.2.2).len;exact ⟨by omega,h.lay.1,fun l hl=>(yQ.1 (h1 l hl)).1,(yQ.1 h2).1⟩
theorem OS.ok {o:Over} (h:oOk o=true):OS o:=by obtain ⟨t,x,h⟩:=OG.of h; exact h.os
theorem OS.do {o:Over} (op:Op):OS (oDo o op).1:=by
 by_cases h:oOk o=true
 ·obtain ⟨t,x,h⟩:=OG.of h; exact (h.do op).1.os
 ·unfold oDo; rw [if_neg h]; exact OS.no
theorem OS.push {o:Over}:OS (yt o).1:=by
 by_cases h:oOk o=true
 ·obtain ⟨t,x,h⟩:=OG.of h;by_cases hl:4≤o.layers.length
  ·rw [(h.push_no hl).1]; exact h.os
  ·rw [(h.push hl).1]; exact (h.push hl).2.os
 ·unfold yt; rw [if_neg h]; exact OS.no

def zP (c:UInt8):Str:=[47,122,c]
def XZ (c:UInt8) (t:List Ent):Prop:=∀ e∈t,e.path≠zP c
def XA (c:UInt8) (l:List Mark):Prop:=∀ m∈l,m.path≠zP c
structure XO (c:UInt8) (o:Over):Prop where
 b:XZ c o.base
 l:∀ l∈o.layers,XA c l
 u:XA c o.upper
section
variable {c:UInt8} {t:List Ent} {l:List Mark} {o:Over}
theorem XZ.nil:XZ c []:=fun e he=>by cases he
theorem XA.nil:XA c []:=fun e he=>by cases he
theorem XO.no:XO c noO:=⟨.nil,(fun l hl=>by cases hl),.nil⟩
theorem XZ.find (h:XZ c t):find t (zP c)=none:=by
 unfold Go.Proofs.Ytmkmldepkponaaa.find;rw [List.find?_eq_none];intro e he
 simpa using h e he
theorem XZ.put (h:XZ c t) {e:Ent} (he:e.path≠zP c):XZ c (put t e):=fun x hx=>by
 rcases Yy hx with rfl | hx
 ·exact he
 ·exact h x hx
theorem XA.put (h:XA c l) {m:Mark} (hm:m.path≠zP c):XA c (lput l m):=fun x hx=>by
 rcases Yy hx with rfl | hx
 ·exact hm
 ·exact h x hx
theorem zhZ (hc:c≠47) {s f d q:Str} (hs:s≠zP c) (hd:d≠zP c) (h:jD s f d=some q):q≠zP c:=by
 unfold jD at h;split at h
 ·rename_i h1;simp only [Bool.and_eq_true] at h1;obtain ⟨⟨p1,p2⟩,p3⟩:=h1;split at h
  ·cases h; exact hs
  ·rename_i h2;split at h
   ·cases h;have hf:=Jc p2;have ht:=Jc p3;have hdrop:s.drop f.length=[]∨∃ r,s.drop f.length=47::r:=by
     by_cases e:s=f
     ·left; rw [e]; simp
     ·right;have hu:und s f=true:=by
       simp only [Bool.and_eq_true,bne_iff_ne,ne_eq,Bool.not_eq_true',not_and,Bool.not_eq_false] at h2;exact h2 e
      obtain ⟨r,rfl⟩:=zdC (fun e=>by rw [e] at hf; simp at hf) hu;exact ⟨r,by simp⟩
    rcases hdrop with e | ⟨r,e⟩
    ·rw [e,List.append_nil]; exact hd
    ·rw [e];intro h3;have hl:=congrArg List.length h3;simp only [List.length_append,List.length_cons,zP,List.length_nil] at hl;obtain ⟨a,b,rfl⟩:∃ a b,d=[a,b]:=by
      match d,ht.1 with
      | [a,b],_=>exact ⟨a,b,rfl⟩
      | a::b::x::y,_=>simp at hl; omega
     simp only [zP,List.cons_append,List.nil_append,List.cons.injEq] at h3;exact hc h3.2.2.1.symm
   ·cases h
 ·cases h
theorem XZ.mov (hc:c≠47) {f d:Str} (hd:d≠zP c):∀ {t out:List Ent},XZ c t→XZ c out→XZ c (t.foldl (fun out e=>Go.Proofs.Ytmkmldepkponaaa.put out (movE f d e)) out)
 | [],out,_,h=>h
 | e::t,out,h1,h2=>by
  show XZ c (t.foldl (fun out e=>Go.Proofs.Ytmkmldepkponaaa.put out (movE f d e)) (Go.Proofs.Ytmkmldepkponaaa.put out (movE f d e)));refine XZ.mov hc hd (fun x hx=>h1 x (List.mem_cons_of_mem _ hx)) (h2.put ?_);show (jD e.path f d).getD []≠_;cases hm:jD e.path f d with
  | none=>simp [zP]
  | some q=>exact zhZ hc (h1 e (List.mem_cons_self)) hd hm
theorem XZ.do (hc:c≠47) (h:XZ c t) {op:Op} (h1:op.path≠zP c) (h2:op.dest≠zP c):XZ c (jt t op).1:=by
 unfold jt;split
 ·split
  ·split
   ·show XZ c (doT t op);unfold doT;split
    ·exact h.put h1
    ·split
     ·exact h.put h1
     ·split
      ·exact XZ.mov hc h2 h .nil
      ·exact fun e he=>h e (List.mem_filter.1 he).1
   ·exact h
  ·exact h
 ·exact .nil
theorem XZ.on (hl:XA c l) (ht:XZ c t) {x:List Ent} (h:lOn l t=some x):XZ c x:=by
 unfold lOn at h;split at h
 ·rename_i hc;simp only [Bool.and_eq_true] at hc;split at h
  ·cases h;intro e he;rcases (Yx hc.1 (TG.of hc.2).srt).1 he with ⟨m,hm,h1⟩ | ⟨_,_,h1⟩
   ·rw [Z9 h1]; exact hl m hm
   ·exact ht e h1
  ·cases h
 ·cases h
theorem XZ.lowerA:∀ {ls:List (List Mark)} {t x:List Ent},(∀ l∈ls,XA c l)→XZ c t→Go.Proofs.Ytmkmldepkponaaa.lowerA ls t=some x→XZ c x
 | [],t,x,_,h,e=>by cases e; exact h
 | l::r,t,x,hl,h,e=>by
  unfold Go.Proofs.Ytmkmldepkponaaa.lowerA at e;split at e
  ·rename_i t' h1;exact XZ.lowerA (fun y hy=>hl y (List.mem_cons_of_mem _ hy)) (XZ.on (hl l (List.mem_cons_self)) h h1) e
  ·cases e
theorem XO.low (h:XO c o) (ho:oOk o=true):XZ c (lowG o):=by
 obtain ⟨t,x,g⟩:=OG.of ho;rw [g.lowG];exact XZ.lowerA h.l h.b g.lay.2.1
theorem XO.vw (h:XO c o) (ho:oOk o=true):XZ c (vwG o):=by
 have hl:=h.low ho;obtain ⟨t,x,g⟩:=OG.of ho;rw [g.vwG];rw [g.lowG] at hl;exact XZ.on h.u hl g.on
theorem XA.diff {a b:List Ent} (ga:tOk a=true) (gb:tOk b=true) (ha:XZ c a) (hb:XZ c b):XA c (diff a b):=fun x hx e=>by
 obtain ⟨_,h⟩:=y8 (TG.of ga) (TG.of gb) hx;rcases h with ⟨y,h,_⟩ | ⟨_,_,_,y,h⟩
 ·rw [e,hb.find] at h; cases h
 ·rw [e,ha.find] at h; cases h
theorem XO.do (hc:c≠47) (h:XO c o) {op:Op} (h1:op.path≠zP c) (h2:op.dest≠zP c):XO c (oDo o op).1:=by
 by_cases ho:oOk o=true
 ·have hl:=h.low ho;have hv:=h.vw ho;obtain ⟨t,x,g⟩:=OG.of ho;rw [g.doEq op];rw [g.lowG] at hl;rw [g.vwG] at hv;split
  ·rename_i h0;obtain ⟨_,_,h3,h4⟩:=zdy g.gx h0;refine ⟨h.b,h.l,XA.diff g.gt (by rw [h3]; exact h4) hl (hv.do hc h1 h2)⟩
  ·exact h
 ·unfold oDo; rw [if_neg ho]; exact .no
theorem XO.push (h:XO c o):XO c (yt o).1:=by
 unfold yt;split
 ·split
  ·exact h
  ·exact ⟨h.b,fun l hl=>by
    rcases List.mem_append.1 hl with hl | hl
    ·exact h.l l hl
    ·rw [List.mem_singleton.1 hl]; exact h.u,.nil⟩
 ·exact .no
theorem XA.join {a b j:List Mark} (ha:XA c a) (hb:XA c b) (h:lJoin a b=some j):XA c j:=by
 unfold lJoin at h;split at h
 ·rename_i hc;simp only [Bool.and_eq_true] at hc;split at h
  ·cases h;intro m hm;obtain ⟨x,hx,h1⟩:=zhU.1 hm;have hp:m.path=x.path:=by
    unfold tidyP at h1;split at h1
    ·split at h1
     ·cases h1
     ·cases h1; split<;>rfl
    ·cases h1; rfl
   rw [hp];rcases (zhT (LG.of hc.1) (LG.of hc.2)).1 hx with ⟨y,hy,rfl⟩ | ⟨hy,_⟩
   ·exact ha y hy
   ·exact hb x hy
  ·cases h
 ·cases h
theorem XZ.set (h:XZ c t) {k:Nat} {e:Ent} (he:e.path≠zP c):XZ c (t.set k e):=fun x hx=>by
 rcases List.mem_or_eq_of_mem_set hx with hx|rfl
 ·exact h x hx
 ·exact he
theorem XA.set (h:XA c l) {k:Nat} {e:Mark} (he:e.path≠zP c):XA c (l.set k e):=fun x hx=>by
 rcases List.mem_or_eq_of_mem_set hx with hx|rfl
 ·exact h x hx
 ·exact he
theorem XZ.add (h:XZ c t) {e:Ent} (he:e.path≠zP c):XZ c (t++[e]):=fun x hx=>by
 rcases List.mem_append.1 hx with hx | hx
 ·exact h x hx
 ·rw [List.mem_singleton.1 hx]; exact he
theorem XA.add (h:XA c l) {e:Mark} (he:e.path≠zP c):XA c (l++[e]):=fun x hx=>by
 rcases List.mem_append.1 hx with hx | hx
 ·exact h x hx
 ·rw [List.mem_singleton.1 hx]; exact he
theorem XZ.drop (h:XZ c t) (k:Nat):XZ c (t.drop k):=fun x hx=>h x (List.mem_of_mem_drop hx)
theorem XA.drop (h:XA c l) (k:Nat):XA c (l.drop k):=fun x hx=>h x (List.mem_of_mem_drop hx)
end


theorem lq {k0:List Nat} {body:(Fr→XM→Prop)→Fr→XM→Prop} {F:Fr} {m:XM} {σ:Type} (fr:σ→Fr) (mm:σ→XM) (inv:σ→Prop) (me:σ→Nat) (x0:σ) (h0:inv x0) (hk:zH k0 (some 3) F m (fr x0) (mm x0))
  (hb:∀ x,inv x→body (fun F' m'=>∃ x',inv x'∧me x' < me x∧zH k0 (some 3) F' m' (fr x') (mm x')) (fr x) (mm x)):LoopX k0 body F m :=
 ⟨σ,fr,mm,inv,me,some 3,some 3,_,⟨x0,h0,hk⟩,fun _ _ _ h=>h,hb⟩
structure OZ (k:Nat) (o:Over):Prop where
 b:o.base.length≤k
 n:o.layers.length≤k
 l:∀ l∈o.layers,l.length≤k
 u:o.upper.length≤k
theorem OS.oz {o:Over} (h:OS o):OZ 32 o:=⟨by have:=h.b; omega,by have:=h.n; omega,h.l,h.u⟩
theorem OZ.mono {o:Over} {n m:Nat} (h:OZ n o) (hm:n≤m):OZ m o:=⟨by have:=h.b; omega,by have:=h.n; omega,fun l hl=>by have:=h.l l hl; omega,by have:=h.u; omega⟩
def zfP:XC:=(.s (.r [.x1 1 0,.ex 2 (.alloc [.nil,.nil,.nil])]) (.s (.d [.ex 5 .bsl0,.f1 6 0 1,.l1 7 1 6,.ex 8 (.app true 3 40 76 5 7),.ex 9 .bsl0,.f1 10 2 1,.l1 11 1 10,.ex 12 (.app true 3 40 78 9 11),.ex 13 (.build [.nil,.nil,.nil] [(0,(1,8)),(2,(1,12))]),.ex 3 (.alloc [.nil,.nil,.nil]),.s1 3 3 13]) (.s (.s (.r [.m1 4 (.i 0)]) (.blk 0 (.loop (.s (.s (.r [.mv 14 4,.f1 15 1 1,.l1 16 1 15,.n1 17 16,.b1 18 .lss 14 17]) (.ce 18 0)) (.s (.blk 1 (.d [.f1 21 1 3,.l1 22 1 21,.ex 23 .bsl0,.f1 24 1 1,.l1 25 1 24,.mv 26 4,.i1 27 1 25 26,.l1 28 1 27,.ex 29 (.app true 3 40 78 23 28),.ex 30 (.bsl 1 30 [29]),.ex 31 (.app false 1 24 30 22 30),.f1 32 1 3,.s1 1 32 31])) (.ic 19 20 4)))))) (.s (.r [.l2 33 3 3,.s1 3 2 33]) .ret))))
theorem zfQ:zn Try.prog [] 16=some (zfP.ac,[(.cell 2 true 3)],34):=by kernel_rfl
theorem zgD (W0:World) (o:Over) (h:OZ 1100000 o):Fn Try.prog W0 16 [z8 o] (.c (z8 o)) []:=by
 refine fX mixed zfQ fun hg=>?_
 obtain ⟨z1,z2,z3,z4⟩:=h;refine dr ?_;refine lq (σ:=Nat) (fun k=>[(1,.ptr 16 0),(2,.ptr 32 0),(3,.ptr 48 0),(4,I k)]) (fun k=>[(4,.row ((o.layers.take k).map zs) 1 30),(16,.box [.c (zD o.base),.c (zT o.layers),.c (zs o.upper)]),(32,.box [.nil,.nil,.nil]),(48,.box [.c (zD o.base),.own 4 k,.c (zs o.upper)])]) (fun k=>k≤o.layers.length) (fun k=>o.layers.length - k) 0 (by simp) ?_ ?_
 ·refine zH.trans (z:=some 128) (z':=some 3) (F1:=[(1,.ptr 16 0),(2,.ptr 32 0),(3,.ptr 48 0),(4,I 0)]) (m1:=[(16,.box [.c (zD o.base),.c (zT o.layers),.c (zs o.upper)]),(32,.box [.nil,.nil,.nil]),(48,.box [.c (zD o.base),.nil,.own 192 o.upper.length]),(192,.row (o.upper.map zr) 3 78)]) ?_ ?_
  ·refine dr ?_;repeat (refine oB (by simp<;>rfl) ?_; first|refine dr ?_|exact dz)
   trivial
  refine zH.trans (z:=some 192) (z':=some 3) (F1:=[(1,.ptr 16 0),(2,.ptr 32 0),(3,.ptr 48 0),(4,I 0)]) (m1:=[(16,.box [.c (zD o.base),.c (zT o.layers),.c (zs o.upper)]),(32,.box [.nil,.nil,.nil]),(48,.box [.c (zD o.base),.nil,.c (zs o.upper)])]) ?_ ?_
  ·refine dr ?_;repeat (refine oB (by simp<;>rfl) ?_; first|refine dr ?_|exact dz)
   trivial
  ·show zB _ _ _ _ _;exact zB.nilB 48 [.c (zD o.base),.nil,.c (zs o.upper)] [.c (zD o.base),.own 4 0,.c (zs o.upper)] 4 30 rfl rfl ⟨nr0,nr1,nr0,trivial⟩
 intro k hk;refine dr ?_;apply cP<;>intro h1
 ·have hk':k < o.layers.length:=by omega
  have hz:=z3 _ (List.getElem_mem hk');refine dr ?_;repeat ((first|refine oB (by simp; omega) ?_|refine oB (by simp) ?_); first|refine dr ?_|exact dz)
  refine ⟨k+1,by omega,by omega,?_⟩;rw [List.take_succ_eq_append_getElem hk',List.map_append];refine zB.push (C:=(o.layers.take k).map zs) (L:=o.layers[k].map zr) 4 464 rfl rfl (by simp) ?_;refine dr ?_;trivial
 have hkl:k=o.layers.length:=by omega
 subst hkl;rw [List.take_length];refine dr ?_;rfl

theorem rlEnts {L:List Ent} {e:TypeId}:rlXO (.row (L.map zA) 3 e)=true:=rlRow fun _=>rfl
theorem Jk {L:List Mark} {e:TypeId}:rlXO (.row (L.map zr) 3 e)=true:=rlRow fun _=>rfl
def zdX:XC:=(.s (.r [.a2 2 3 76]) (.s (.r [.mv 3 0,.ex 4 (.app true 3 40 76 (.k .nil) 3),.a1 2 4 3 76]) .ret))
theorem zdY:zn Try.prog [] 46=some (zdX.ac,[(.t 2)],5):=by kernel_rfl
theorem zgk (W0:World) (t:List Ent) (ht:t.length≤1100000):zu Try.prog W0 46 [.c (zD t)] [] (fun _:Unit=>True) (fun _ => .own 4 t.length) (fun _=>[(4,.row (t.map zA) 3 76)]):=by
 refine zu.swp (R:=fun _ => .own 64 t.length) (M:=fun _=>[(64,.row (t.map zA) 3 76)]) (vs:=[.c (zD t)]) (mp:=[]) ?_ 4 64;refine fW mixed zdY fun hg=>?_
 refine dr ?_;repeat ((first|refine oB (by simp; omega) ?_|refine oB (by simp) ?_); first|refine dr ?_|exact dz)
 refine ⟨none,_,_,?_,(),trivial,rfl,rfl⟩;refine dr ?_;trivial
def zdZ:XC:=(.s (.r [.a2 2 3 78]) (.s (.r [.mv 3 0,.ex 4 (.app true 3 40 78 (.k .nil) 3),.a1 2 4 3 78]) .ret))
theorem zd0:zn Try.prog [] 45=some (zdZ.ac,[(.t 2)],5):=by kernel_rfl
theorem za2 (W0:World) (t:List Mark) (ht:t.length≤1100000):zu Try.prog W0 45 [.c (zs t)] [] (fun _:Unit=>True) (fun _ => .own 4 t.length) (fun _=>[(4,.row (t.map zr) 3 78)]):=by
 refine zu.swp (R:=fun _ => .own 64 t.length) (M:=fun _=>[(64,.row (t.map zr) 3 78)]) (vs:=[.c (zs t)]) (mp:=[]) ?_ 4 64;refine fW mixed zd0 fun hg=>?_
 refine dr ?_;repeat ((first|refine oB (by simp; omega) ?_|refine oB (by simp) ?_); first|refine dr ?_|exact dz)
 refine ⟨none,_,_,?_,(),trivial,rfl,rfl⟩;refine dr ?_;trivial
def lmL (o:Over):List (List CV):=o.layers.map fun l=>l.map zr
theorem zcM {o:Over}:∀ C∈lmL o,∀ x∈C,x.cells.all rle1=true:=fun C hC x hx=>by
 obtain ⟨l,_,rfl⟩:=List.mem_map.1 hC;obtain ⟨m,_,rfl⟩:=List.mem_map.1 hx;rfl
def ovM (c:Nat) (o:Over):XM:=(c,.row (o.base.map zA) 3 76)::(16+c,.row (o.upper.map zr) 3 78)::(32+c,.rowP (zt c 3 (lmL o)) 30)::zI c 3 78 3 (lmL o)
def ovP (c:Nat) (o:Over):PV := .agg [.own c o.base.length,.own (32+c) o.layers.length,.own (16+c) o.upper.length]
def zd1:XC:=(.s (.r [.x1 1 0,.ex 2 (.alloc [.nil,.nil,.nil])]) (.s (.r [.a2 3 1 30]) (.s (.s (.r [.f1 6 1 1,.l1 7 1 6,.n1 8 7,.m1 9 (.i 0)]) (.blk 0 (.loop (.s (.r [.b1 10 .lss 9 8]) (.s (.ce 10 0) (.s (.blk 1 (.s (.r [.i1 11 1 7 9,.l1 12 1 11,.a1 5 12 3 78]) (.r [.mv 13 3,.mv 14 5,.o1 15 45 [14],.ex 16 (.bsl 1 30 [15]),.ex 17 (.app false 1 24 30 13 16),.a1 3 17 1 30]))) (.r [.b1 18 .add 9 (.i 1),.mv 9 18]))))))) (.s (.d [.f1 19 0 1,.exo [9,25] 20 (.ld false 1 19),.exo [9,25] 21 (.opn 46 [20]),.mv 22 3,.f1 23 2 1,.exo [9,25] 24 (.ld false 1 23),.exo [9,25] 25 (.opn 45 [24]),.ex 26 (.build [.nil,.nil,.nil] [(0,(1,21)),(1,(1,22)),(2,(1,25))]),.s1 3 2 26]) .ret))))
theorem zd2:zn Try.prog [46,45,1000009,1000025] 20=some (zd1.ac,[(.cell 2 true 3)],27):=by kernel_rfl
theorem zgl (W0:World) (o:Over) (h:OZ 1100000 o):zu Try.prog W0 20 [.c (z8 o)] [] (fun _:Unit=>True) (fun _=>ovP 9 o) (fun _=>ovM 9 o):=by
 refine fW' [] mixed zd2 (fun hg=>?_) rfl;obtain ⟨z1,z2,z3,z4⟩:=h;refine dr ?_;refine lq (σ:=Nat) (fun k=>[(1,.ptr 16 0),(2,.ptr 32 0),(3,.own 48 k),(7,.c (zT o.layers)),(8,I o.layers.length),(9,I k)])
  (fun k=>(16,.box [.c (zD o.base),.c (zT o.layers),.c (zs o.upper)])::(32,.box [.nil,.nil,.nil])::(48,.rowP (zt 9 3 ((lmL o).take k)) 30)::zI 9 3 78 3 ((lmL o).take k)) (fun k=>k≤o.layers.length) (fun k=>o.layers.length - k) 0 (by simp) ?_ ?_
 ·refine zB.er (zH.s (z:=none) (m2:=[(16,.box [.c (zD o.base),.c (zT o.layers),.c (zs o.upper)]),(32,.box [.nil,.nil,.nil]),(48,.row [] 1 30)]) ?_) rfl;refine dr ?_;trivial
 have hlm:(lmL o).length=o.layers.length:=by simp [lmL]
 have hlmk:∀ {k:Nat} (h:k < o.layers.length) (h':k < (lmL o).length),(lmL o)[k]=o.layers[k].map zr:=fun _ _=>by simp [lmL]
 intro k hk;have tl:((lmL o).take k).length=k:=by simp; omega
 obtain ⟨T,O,fa⟩:=famP 9 3 78 3 ((lmL o).take k);rw [fa.t,fa.o];refine dr ?_;apply cP<;>intro h1
 ·have hk':k < o.layers.length:=by omega
  have hz:=z3 _ (List.getElem_mem hk');refine dr ?_;refine oF (cs:=[zs o.layers[k]]) ((za2 W0 _ hz).swp 4 6) rfl ?_ rfl ⟨(),trivial⟩ fun _ _=>⟨rfl,⟨⟨Jk,(jw (P:=[_,_,_]) rfl).trans (fa.no (.inl (by decide)))⟩,trivial⟩,?_⟩
  ·exact zl rfl (zl rfl (zl (fa.inO fun i hi=>by simp only [apX]; rw [zf (by omega),zf (by omega),zf (by omega),fa.row hi]; rfl) fa.inT))
  refine dEr ?_;repeat ((first|refine fT (frX1 ((jw (P:=[_,_,_,_]) rfl).trans (fa.no (id:=256) (.inr (by decide))))) ?_|refine oB (fa.len.trans tl) ?_|refine oB (by simp; omega) ?_); first|refine dEr ?_|exact dz)
  refine ⟨k+1,by omega,by omega,?_⟩;have hN:∀ i < ((lmL o).take k).length,sw 6 (16 * (3+k)+9) (16 * (3+i)+9)=16 * (3+i)+9:=fun i hi=>jQ (by omega) (by omega)
  have hNN:sw 6 (16 * (3+k)+9) (16 * (3+k)+9)=6:=by
   unfold sw;have:Nat.beq (16 * (3+k)+9) 6=false:=by
    cases hb:Nat.beq (16 * (3+k)+9) 6 with
    | false=>rfl
    | true=>have:=Nat.eq_of_beq_eq_true hb; omega
   rw [this,Nat.beq_refl]
  have hN6:sw 6 (16 * (3+k)+9) 6=16 * (3+k)+9:=rfl;have hkl:k < (lmL o).length:=by omega
  have tk:(lmL o).take (k+1)=(lmL o).take k++[o.layers[k].map zr]:=by rw [List.take_succ_eq_append_getElem hkl,hlmk hk' hkl]
  have tl1:((lmL o).take (k+1)).length=k+1:=by simp; omega
  refine zB.rn 6 (16 * (3+k)+9) rfl rfl ⟨⟨_,rfl,rnP (jQ (by decide) (by omega))⟩,⟨_,rfl,rnP (jQ (by decide) (by omega))⟩,⟨_,rfl,rnO (jQ (by decide) (by omega))⟩,⟨_,rfl,rfl⟩,⟨_,rfl,rfl⟩,⟨_,rfl,rfl⟩,trivial⟩
   ⟨⟨_,J6 (jQ (by decide) (by omega)) rfl,rfl⟩,⟨_,J6 (jQ (by decide) (by omega)) rfl,rfl⟩,⟨_,J6 (jQ (by decide) (by omega)) rfl,?_⟩,Zs fun i hi=>?_⟩ (fun id h=>by cases h) ?_ rfl
  ·rw [tk,YV,tl,fa.o];simp only [qK,List.map_append,fa.ren hN]
   congr 2
   simp only [List.map_cons,List.map_nil]
   congr 1
   show PV.own (sw 6 (16 * (3+k)+9) 6) _=_;rw [hN6];simp
  ·by_cases hik:i < k
   ·rw [hN i (by omega)];show lkX (_::_::_::_::_::T) _=_;rw [zf (by simp<;>omega),zf (by simp [sw]<;>omega),zf (by omega),zf (by omega),zf (by omega),fa.row (by omega)];simp
   ·have:i=k:=by omega
    subst this;rw [hNN];have e:((lmL o).take (i+1))[i]=o.layers[i].map zr:=by simp [lmL]
    rw [e];rfl
  ·exact zl rfl (zl rfl (zl (q8 fun i hi=>by rw [zf (by omega),zf (by omega),zf (by omega),qG hi]; rfl) qT))
 have hkl:k=o.layers.length:=by omega
 subst hkl;have tlk:(lmL o).take o.layers.length=lmL o:=by rw [← hlm,List.take_length]
 rw [tlk] at fa;have qb:zu Try.prog W0 46 [.c (zD o.base)] [] (fun _:Unit=>True) (fun _ => .own 9 o.base.length) (fun _=>[(9,.row (o.base.map zA) 3 76)]):=(zgk W0 _ z1).swp 4 9;have qu:zu Try.prog W0 45 [.c (zs o.upper)] [] (fun _:Unit=>True) (fun _ => .own 25 o.upper.length) (fun _=>[(25,.row (o.upper.map zr) 3 78)]):=(za2 W0 _ z4).swp 4 25;refine dr ?_;refine oF (cs:=[zD o.base]) qb rfl ?_ rfl ⟨(),trivial⟩ fun _ _=>⟨rfl,⟨⟨rlEnts,(jw (P:=[_,_,_]) rfl).trans (fa.no (.inl (by decide)))⟩,trivial⟩,?_⟩
 ·exact zl rfl (zl rfl (zl (fa.inO fun i hi=>by simp only [apX]; rw [zf (by omega),zf (by omega),zf (by omega),fa.row hi]; rfl) fa.inT))
 dsimp only [apX];refine Yo (zaT rfl) (JP ⟨rfl,rfl,rfl,fa.mmS fun i hi=>?_⟩ ?_)
 ·rw [zf (by omega),zf (by omega),zf (by omega),zf (by omega),fa.row (by omega)]
 refine dr ?_;refine oF (cs:=[zs o.upper]) qu rfl ?_ rfl ⟨(),trivial⟩ fun _ _=>⟨rfl,⟨⟨Jk,(jw (P:=[_,_,_,_]) rfl).trans (fa.no (.inl (by decide)))⟩,trivial⟩,?_⟩
 ·exact zl rfl (zl rfl (zl rfl (zl (fa.inO fun i hi=>by simp only [apX]; rw [zf (by omega),zf (by omega),zf (by omega),zf (by omega),fa.row hi]; rfl) fa.inT)))
 dsimp only [apX];refine Yo (zaT rfl) (JP ⟨rfl,rfl,rfl,rfl,fa.mmS fun i hi=>?_⟩ ?_)
 ·rw [zf (by omega),zf (by omega),zf (by omega),zf (by omega),zf (by omega),fa.row (by omega)]
 refine dEr ?_;have hN:∀ i < (lmL o).length,sw 48 41 (16 * (3+i)+9)=16 * (3+i)+9:=fun i hi=>jQ (by omega) (by omega)
 refine ⟨some 3,_,_,?_,(),trivial,rfl,rfl⟩;refine zB.rn 48 41 rfl rfl ⟨⟨_,rfl,rfl⟩,trivial⟩ ⟨⟨_,rfl,rfl⟩,⟨_,rfl,rfl⟩,⟨_,rfl,congrArg (fun L=>XB.rowP L 30) ((fa.ren hN).trans fa.o.symm)⟩,Zs fun i hi=>?_⟩ (fun id h=>by cases h) ?_ ?_
 ·rw [hN i hi];show lkX (_::_::_::_::_::T) _=_;rw [zf (by omega),zf (by omega),zf (by omega),zf (by omega),zf (by omega),fa.row hi]
 ·exact zl rfl (zl rfl (zl (q8 fun i hi=>by unfold ovM; rw [zf (by omega),zf (by omega),zf (by omega),qG hi]; rfl) qT))
 ·rfl
theorem YR {o:Over} {m:XM} {c:Nat} (h1:lkX m c=none) (h2:lkX m (16+c)=none) (h3:lkX m (32+c)=none) (h4:∀ i,lkX m (16 * (3+i)+c)=none):newR m (ovM c o) :=
 ⟨⟨rlEnts,h1⟩,⟨Jk,h2⟩,⟨Y1,h3⟩,YE zcM fun i _=>h4 i⟩

def zfR:XC:=(.s (.r [.a2 2 3 76]) (.s (.r [.mv 5 0,.n1 6 5,.ex 7 (.mks 3 40 76 (.c (.agg [(.sc (.string ⟨#[]⟩)),(.sc (.bool false)),(.sc (.string ⟨#[]⟩))])) 6),.a1 3 7 3 76]) (.s (.s (.r [.m1 4 (.i 0)]) (.blk 0 (.loop (.s (.s (.r [.mv 8 4,.mv 9 0,.n1 10 9,.b1 11 .lss 8 10]) (.ce 11 0)) (.s (.blk 1 (.r [.mv 14 3,.mv 15 4,.mv 16 0,.mv 17 4,.i1 18 3 16 17,.l2 19 3 18,.c1 20 43 [19],.i1 21 3 14 15,.s1 3 21 20])) (.ic 12 13 4)))))) (.s (.r [.mv 22 3,.a1 2 22 3 76]) .ret))))
theorem zfS:zn Try.prog [] 17=some (zfR.ac,[(.t 2)],23):=by kernel_rfl
theorem zg1 (W0:World) (t:List Ent) (ht:t.length≤1048576):zu Try.prog W0 17 [.c (zD t)] [] (fun _:Unit=>True) (fun _ => .own 4 t.length) (fun _=>[(4,.row (t.map zA) 3 76)]):=by
 refine zu.swp (R:=fun _ => .own 112 t.length) (M:=fun _=>[(112,.row (t.map zA) 3 76)]) (vs:=[.c (zD t)]) (mp:=[]) ?_ 4 112;refine fW mixed zfS fun hg=>?_
 refine dr ?_;refine lp (σ:=Nat) (fun k=>[(0,.c (zD t)),(3,.own 112 t.length),(4,I k)]) (fun k=>[(112,.row ((t.take k).map zA++List.replicate (t.length - k) (zA ⟨[],false,[]⟩)) 3 76)]) (fun k=>k≤t.length) (fun k=>t.length - k) 0 (by simp) ?_ ?_
 ·refine dr ?_;trivial
 rintro k hk;refine dr ?_;apply cP<;>intro h2
 ·refine dr ?_;repeat ((first|refine c0 (zba W0 _) rfl ?_|refine oB (yk hk) ?_|refine aE (j:=k) rfl (ZY (by omega)) ?_); first|refine dr ?_|exact dz)
  intro hg2;refine dr ?_;refine ⟨k+1,by omega,by omega,?_⟩;refine dr ?_;repeat (refine oB (by rw [← Jm (f:=zA) (by omega:k < t.length)]<;>rfl) ?_; first|refine dr ?_|exact dz)
  trivial
 ·have:k=t.length:=by omega
  subst this;refine dr ?_;refine ⟨none,_,_,?_,(),trivial,rfl,rfl⟩;refine dr ?_;repeat (refine oB (by simp) ?_; first|refine dr ?_|exact dz)
  trivial
def zfT:XC:=(.s (.r [.a2 2 3 78]) (.s (.r [.mv 5 0,.n1 6 5,.ex 7 (.mks 3 40 78 (.c (.agg [(.sc (.string ⟨#[]⟩)),(.sc (.int .i64 0)),(.sc (.string ⟨#[]⟩))])) 6),.a1 3 7 3 78]) (.s (.s (.r [.m1 4 (.i 0)]) (.blk 0 (.loop (.s (.s (.r [.mv 8 4,.mv 9 0,.n1 10 9,.b1 11 .lss 8 10]) (.ce 11 0)) (.s (.blk 1 (.r [.mv 14 3,.mv 15 4,.mv 16 0,.mv 17 4,.i1 18 3 16 17,.l2 19 3 18,.c1 20 44 [19],.i1 21 3 14 15,.s1 3 21 20])) (.ic 12 13 4)))))) (.s (.r [.mv 22 3,.a1 2 22 3 78]) .ret))))
theorem zfU:zn Try.prog [] 19=some (zfT.ac,[(.t 2)],23):=by kernel_rfl
theorem zbd (W0:World) (t:List Mark) (ht:t.length≤1048576):zu Try.prog W0 19 [.c (zs t)] [] (fun _:Unit=>True) (fun _ => .own 4 t.length) (fun _=>[(4,.row (t.map zr) 3 78)]):=by
 refine zu.swp (R:=fun _ => .own 112 t.length) (M:=fun _=>[(112,.row (t.map zr) 3 78)]) (vs:=[.c (zs t)]) (mp:=[]) ?_ 4 112;refine fW mixed zfU fun hg=>?_
 refine dr ?_;refine lp (σ:=Nat) (fun k=>[(0,.c (zs t)),(3,.own 112 t.length),(4,I k)]) (fun k=>[(112,.row ((t.take k).map zr++List.replicate (t.length - k) (zr ⟨[],0,[]⟩)) 3 78)]) (fun k=>k≤t.length) (fun k=>t.length - k) 0 (by simp) ?_ ?_
 ·refine dr ?_;trivial
 rintro k hk;refine dr ?_;apply cP<;>intro h2
 ·refine dr ?_;repeat ((first|refine c0 (zbb W0 _) rfl ?_|refine oB (yk hk) ?_|refine aE (j:=k) rfl (ZY (by omega)) ?_); first|refine dr ?_|exact dz)
  intro hg2;refine dr ?_;refine ⟨k+1,by omega,by omega,?_⟩;refine dr ?_;repeat (refine oB (by rw [← Jm (f:=zr) (by omega:k < t.length)]<;>rfl) ?_; first|refine dr ?_|exact dz)
  trivial
 ·have:k=t.length:=by omega
  subst this;refine dr ?_;refine ⟨none,_,_,?_,(),trivial,rfl,rfl⟩;refine dr ?_;repeat (refine oB (by simp) ?_; first|refine dr ?_|exact dz)
  trivial
theorem YK {α:Type}:∀ {n:Nat} {l:List α} {a:α} {K:α→Prop},l[n]? = some a→K a→nthK n l K
 | _,[],_,_,h,_=>by simp at h
 | 0,x::l,a,K,h,k=>by simp at h; subst h; exact k
 | n+1,x::l,a,K,h,k=>YK (n:=n) (l:=l) (by simpa using h) k
def lmT (t:List (List Mark)):List (List CV):=t.map fun l=>l.map zr
def jT (c:Nat) (t:List (List Mark)) (k:Nat):List PV:=zt c 3 ((lmT t).take k)++List.replicate (t.length - k) (.c (.row []))
theorem zip {c:Nat} {t:List (List Mark)} {k:Nat} (hk:k≤t.length):(jT c t k).length=t.length:=by
 unfold jT;rw [List.length_append,qq,List.length_take,List.length_replicate];simp [lmT]; omega
theorem zio {c:Nat} {t:List (List Mark)} {k:Nat} (hk:k < t.length):(jT c t k)[k]? = some (.c (.row [])):=by
 unfold jT;have hl:(zt c 3 ((lmT t).take k)).length=k:=by rw [qq,List.length_take]; simp [lmT]; omega
 rw [List.getElem?_append_right (by omega),hl,Nat.sub_self,List.getElem?_replicate,if_pos (by omega)]
theorem ziq {c:Nat} {t:List (List Mark)} {k:Nat} (hk:k < t.length) (y:PV):(jT c t k).set k y=zt c 3 ((lmT t).take k)++y::List.replicate (t.length - (k+1)) (.c (.row [])):=by
 unfold jT;have hl:(zt c 3 ((lmT t).take k)).length=k:=by rw [qq,List.length_take]; simp [lmT]; omega
 rw [List.set_append_right _ _ (by omega),hl,Nat.sub_self,show t.length - k=(t.length - (k+1))+1 by omega,List.replicate_succ,List.set_cons_zero]
theorem zin {c:Nat} {t:List (List Mark)}:jT c t t.length=zt c 3 (lmT t):=by
 unfold jT;rw [Nat.sub_self,List.replicate_zero,List.append_nil,show t.length=(lmT t).length by simp [lmT],List.take_length]
theorem zcz {c:Nat} {t:List (List Mark)} {k:Nat} {m:XM} (h:∀ i < ((lmT t).take k).length,(lkX m (16 * (3+i)+c)).isSome=true):((jT c t k).all fun x=>x.cells.all (in1X m))=true:=by
 unfold jT;rw [List.all_append,q8 h,Bool.true_and,List.all_eq_true];intro x hx;rw [(List.mem_replicate.1 hx).2]; rfl
def zfV:XC:=(.s (.r [.a2 2 1 30]) (.s (.r [.mv 5 0,.n1 6 5,.ex 7 (.mks 1 24 30 (.c (.row [])) 6),.a1 3 7 1 30]) (.s (.s (.r [.m1 4 (.i 0)]) (.blk 0 (.loop (.s (.s (.r [.mv 8 4,.mv 9 0,.n1 10 9,.b1 11 .lss 8 10]) (.ce 11 0)) (.s (.blk 1 (.r [.mv 14 3,.mv 15 4,.mv 16 0,.mv 17 4,.i1 18 1 16 17,.l1 19 1 18,.o1 20 19 [19],.i1 21 1 14 15,.s1 1 21 20])) (.ic 12 13 4)))))) (.s (.r [.mv 22 3,.a1 2 22 1 30]) .ret))))
theorem zfW:zn Try.prog [19] 18=some (zfV.ac,[(.t 2)],23):=by kernel_rfl
theorem zg3 (W0:World) (t:List (List Mark)) (ht:t.length≤1048576) (ht2:∀ l∈t,l.length≤1048576):zu Try.prog W0 18 [.c (zT t)] [] (fun _:Unit=>True) (fun _ => .own 39 t.length) (fun _=>(39,.rowP (zt 7 3 (lmT t)) 30)::zI 7 3 78 3 (lmT t)):=by
 refine fW' [] mixed zfW (fun hg=>?_) rfl;have hlm:(lmT t).length=t.length:=by simp [lmT]
 refine dr ?_;refine lq (σ:=Nat) (fun k=>[(0,.c (zT t)),(3,.own 112 t.length),(4,I k)]) (fun k=>(112,.rowP (jT 7 t k) 30)::zI 7 3 78 3 ((lmT t).take k)) (fun k=>k≤t.length) (fun k=>t.length - k) 0 (by simp) ?_ ?_
 ·refine zB.er (zH.s (z:=none) (m2:=[(112,.row (List.replicate t.length (.row [])) 1 30)]) ?_) (by simp [er,XB.er,jT,zt,zI]);refine dr ?_;trivial
 intro k hk;have tl:((lmT t).take k).length=k:=by simp; omega
 obtain ⟨T,O,fa⟩:=famP 7 3 78 3 ((lmT t).take k);rw [fa.t];refine dr ?_;apply cP<;>intro h1
 ·have hk':k < t.length:=by omega
  have q:zu Try.prog W0 19 [.c (zs t[k])] [] (fun _:Unit=>True) (fun _ => .own 6 t[k].length) (fun _=>[(6,.row (t[k].map zr) 3 78)]):=(zbd W0 _ (ht2 _ (List.getElem_mem hk'))).swp 4 6;refine dr ?_;refine oF (cs:=[zs t[k]]) q rfl ?_ rfl ⟨(),trivial⟩ fun _ _=>⟨rfl,⟨⟨Jk,(jw (P:=[_]) rfl).trans (fa.no (.inl (by decide)))⟩,trivial⟩,?_⟩
  ·exact zl (zcz fun i hi=>by
    show (lkX (_::T) _).isSome=true;rw [zf (by omega),fa.row hi]; rfl) fa.inT
  refine dEr ?_;repeat ((first|refine oB (zip hk) ?_|refine YK (zio hk') ?_); first|refine dEr ?_|exact dz)
  refine ⟨k+1,by omega,by omega,?_⟩;have hN:∀ i < ((lmT t).take k).length,sw 6 (16 * (3+k)+7) (16 * (3+i)+7)=16 * (3+i)+7:=fun i hi=>jQ (by omega) (by omega)
  have hNN:sw 6 (16 * (3+k)+7) (16 * (3+k)+7)=6:=by
   unfold sw;have:Nat.beq (16 * (3+k)+7) 6=false:=by
    cases hb:Nat.beq (16 * (3+k)+7) 6 with
    | false=>rfl
    | true=>have:=Nat.eq_of_beq_eq_true hb; omega
   rw [this,Nat.beq_refl]
  have hN6:sw 6 (16 * (3+k)+7) 6=16 * (3+k)+7:=rfl;have hkl:k < (lmT t).length:=by omega
  have tk:(lmT t).take (k+1)=(lmT t).take k++[t[k].map zr]:=by rw [List.take_succ_eq_append_getElem hkl]; simp [lmT]
  refine zB.rn 6 (16 * (3+k)+7) rfl rfl ⟨⟨_,rfl,rfl⟩,⟨_,rfl,rnO (jQ (by decide) (by omega))⟩,⟨_,rfl,rfl⟩,trivial⟩
   ⟨⟨_,J6 (jQ (by decide) (by omega)) rfl,?_⟩,Zs fun i hi=>?_⟩ (fun id h=>by cases h) ?_ rfl
  ·rw [ziq hk'];simp only [qK,List.map_append,List.map_cons];rw [Qj fun i hi=>hN i hi];unfold jT;rw [tk,YV,tl,List.append_assoc]
   congr 2
   simp only [List.singleton_append]
   congr 1
   ·show PV.own (sw 6 (16 * (3+k)+7) 6) _=_;rw [hN6];simp
   ·rw [List.map_replicate]; rfl
  ·by_cases hik:i < k
   ·rw [hN i (by omega)];show lkX (_::_::T) _=_;rw [zf (by simp<;>omega),zf (by simp<;>omega),fa.row (by omega)];simp
   ·have hi2:i < k+1:=by simpa [tk,tl] using hi
    have:i=k:=by omega
    subst this;rw [hNN];have e:((lmT t).take (i+1))[i]=t[i].map zr:=by simp [lmT]
    rw [e];rfl
  ·refine zl (zcz fun i hi=>?_) qT;rw [zf (by omega),qG hi]; rfl
 have hkl:k=t.length:=by omega
 subst hkl;rw [zin];have tlk:(lmT t).take t.length=lmT t:=by rw [← hlm,List.take_length]
 rw [tlk] at fa;refine dr ?_;have hN:∀ i < (lmT t).length,sw 112 39 (16 * (3+i)+7)=16 * (3+i)+7:=fun i hi=>jQ (by omega) (by omega)
 refine ⟨some 3,_,_,?_,(),trivial,rfl,rfl⟩;refine zB.rn 112 39 rfl rfl ⟨⟨_,rfl,rfl⟩,trivial⟩ ⟨⟨_,rfl,congrArg (fun L=>XB.rowP L 30) (Qj hN)⟩,Zs fun i hi=>?_⟩ (fun id h=>by cases h) ?_ rfl
 ·rw [hN i hi];show lkX (_::T) _=_;rw [zf (by omega),fa.row hi]
 ·exact zl (q8 fun i hi=>by rw [zf (by omega),qG hi]; rfl) qT
theorem zhK {o:Over}:lmT o.layers=lmL o:=rfl
theorem zcw {o:Over}:inMX (ovM 7 o)=true:=zl rfl (zl rfl (zl (q8 fun i hi=>by unfold ovM; rw [zf (by omega),zf (by omega),zf (by omega),qG hi]; rfl) qT))
def zfX:XC:=(.s (.r [.x1 1 0,.ex 2 (.alloc [.nil,.nil,.nil])]) (.s (.r [.ex 3 (.alloc [.nil,.nil,.nil])]) (.s (.r [.f1 4 0 1,.l1 5 1 4,.o1 6 17 [5],.f1 7 0 3,.s1 1 7 6]) (.cut (.r [.f1 8 1 1,.l1 9 1 8,.o1 10 18 [9],.f1 11 1 3,.s1 1 11 10]) (.s (.r [.f1 12 2 1,.l1 13 1 12,.o1 14 19 [13],.f1 15 2 3,.s1 1 15 14]) (.s (.r [.l2 16 3 3,.s1 3 2 16]) .ret))))))
theorem zfY:zn Try.prog [17,18,19] 6=some (zfX.ac,[(.cell 2 true 3)],17):=by kernel_rfl
theorem zg5 (W0:World) (o:Over) (h1:o.base.length≤1048576) (h2:o.layers.length≤1048576) (h3:∀ l∈o.layers,l.length≤1048576) (h4:o.upper.length≤1048576) :
  zu Try.prog W0 6 [.c (z8 o)] [] (fun _:Unit=>True) (fun _=>ovP 7 o) (fun _=>ovM 7 o):=by
 refine fW' [] mixed zfY (fun hg=>?_) rfl;obtain ⟨T,O,fa⟩:=famP 7 3 78 3 (lmL o);have qb:zu Try.prog W0 17 [.c (zD o.base)] [] (fun _:Unit=>True) (fun _ => .own 7 o.base.length) (fun _=>[(7,.row (o.base.map zA) 3 76)]):=(zg1 W0 _ h1).swp 4 7;have qu:zu Try.prog W0 19 [.c (zs o.upper)] [] (fun _:Unit=>True) (fun _ => .own 23 o.upper.length) (fun _=>[(23,.row (o.upper.map zr) 3 78)]):=(zbd W0 _ h4).swp 4 23;have ql:=zg3 W0 o.layers h2 h3;rw [zhK,fa.t,fa.o] at ql;have hsk:∀ {m:XM} {id:Nat},id % 16≠7→lkX (apX T m) id=lkX m id:=fun h=>fa.skip (.inr h)
 refine dEr ?_;refine oW qb rfl trivial rfl rfl ⟨(),trivial⟩ fun _ _=>⟨rfl,?_⟩
 refine dEr ?_;refine cutz (σ:=Unit) 3 (fun _=>[(1,.ptr 16 0),(2,.ptr 32 0),(3,.ptr 48 0)])
  (fun _=>(16,.box [.c (zD o.base),.c (zT o.layers),.c (zs o.upper)])::(32,.box [.nil,.nil,.nil])::(48,.box [.own 7 o.base.length,.own 39 o.layers.length,.nil])::(7,.row (o.base.map zA) 3 76)::(39,.rowP O 30)::T) (fun _=>True) ?_ ?_
 ·refine dr ?_;refine oF (cs:=[zT o.layers]) ql rfl rfl rfl ⟨(),trivial⟩ fun _ _=>⟨rfl,?_,?_⟩
  ·rw [← fa.t,← fa.o];refine ⟨⟨Y1,rfl⟩,YE zcM fun i hi=>?_⟩;show lkX [_,_,_,_] _=none;rw [zf (by simp<;>omega),zf (by simp<;>omega),zf (by simp<;>omega),zf (by simp<;>omega)]; rfl
  have h48:∀ {m:XM},lkX m 48=some (.box [.own 7 o.base.length,.nil,.nil])→lkX (apX ((39,.rowP O 30)::T) m) 48=some (.box [.own 7 o.base.length,.nil,.nil]):=fun h=>(jw (P:=[_]) rfl).trans ((hsk (by decide)).trans h)
  refine dEr ?_;refine onI (h48 rfl) ?_;refine dEr ?_;refine ⟨(),trivial,?_⟩;have hup:∀ {m:XM} {b:XB} {id:Nat} {y:XB},id % 16≠7→id≠39→id≠48→lkX m id=some y→lkX (updX (apX ((39,.rowP O 30)::T) m) 48 b) id=some y:=fun h1 h2 h3 h4=>(y2 h3).trans ((zf h2).trans ((hsk h1).trans h4))
  exact zB.ls ⟨rfl,rfl,rfl,trivial⟩ ⟨hup (by decide) (by decide) (by decide) rfl,hup (by decide) (by decide) (by decide) rfl,zdE (h48 rfl),(y2 (by decide)).trans ((zf (by decide)).trans ((fa.skip (.inl (by decide))).trans rfl)),(y2 (by decide)).trans rfl,fa.mmS fun i hi=>(y2 (by omega)).trans ((zf (by omega)).trans (fa.fst hi))⟩ (fun id h=>by cases h)
   (zl rfl (zl rfl (zl rfl (zl rfl (zl (fa.inO fun i hi=>by
    rw [zf (by omega),zf (by omega),zf (by omega),zf (by omega),zf (by omega),fa.row hi]; rfl) fa.inT))))) rfl
 intro _ _;refine dr ?_;refine oF (cs:=[zs o.upper]) qu rfl ?_ rfl ⟨(),trivial⟩ fun _ _=>⟨rfl,⟨⟨Jk,(jw (P:=[_,_,_,_,_]) rfl).trans (fa.no (id:=23) (.inl (by decide)))⟩,trivial⟩,?_⟩
 ·exact zl rfl (zl rfl (zl rfl (zl rfl (zl (fa.inO fun i hi=>by
   show (lkX (_::_::_::_::_::T) _).isSome=true;rw [zf (by omega),zf (by omega),zf (by omega),zf (by omega),zf (by omega),fa.row hi]; rfl) fa.inT))))
 refine dEr ?_;refine ⟨some 3,_,_,?_,(),trivial,rfl,rfl⟩;refine zB.ls ⟨rfl,trivial⟩ ⟨rfl,rfl,congrArg (fun L=>some (XB.rowP L 30)) fa.o.symm,yo fun i hi=>?_⟩ (fun id h=>by cases h) zcw rfl;show lkX (_::_::_::_::_::_::T) _=_;rw [zf (by simp<;>omega),zf (by simp<;>omega),zf (by simp<;>omega),zf (by simp<;>omega),zf (by simp<;>omega),zf (by simp<;>omega)];exact fa.row hi

def digF:Nat→Nat→Str→Str
 | 0,_,out=>out
 | f+1,n,out=>if n=0 then out else digF f (n / 10) (UInt8.ofNat (48+n % 10)::out)
theorem zaR:∀ (f g n:Nat) (out:Str),n < f→n < g→digF f n out=digF g n out
 | 0,_,_,_,h,_=>by omega
 | _+1,0,_,_,_,h=>by omega
 | f+1,g+1,n,out,h1,h2=>by
  unfold digF;by_cases h:n=0
  ·rw [if_pos h,if_pos h]
  ·rw [if_neg h,if_neg h];exact zaR f g _ _ (by omega) (by omega)
theorem zga {n:Nat} {out:Str} (h:n≠0):digF (n+1) n out=digF (n / 10+1) (n / 10) (UInt8.ofNat (48+n % 10)::out):=by
 conv=>lhs; unfold digF
 rw [if_neg h];exact zaR _ _ _ _ (by omega) (by omega)
theorem zgb {out:Str}:digF 1 0 out=out:=rfl
def mT (k:Int):Str:=if k≤0 then [109,48] else 109::digF (k.toNat+1) k.toNat []
def entM (k:Int):Ent:=⟨mT k,(k+1) % 3==0,mT (k+2)⟩
def qk (k:Int):Mark:=⟨mT k,k+1,mT (k+2)⟩
def mkE (k:Int) (n:Nat):List Ent:=(List.range n).map fun i:Nat=>entM (k+3 * i)
def mkM (k:Int) (n:Nat):List Mark:=(List.range n).map fun i:Nat=>qk (k+3 * i)
theorem Qc {k:Int} {n:Nat}:(mkE k n).length=n:=by simp [mkE]
theorem Z8 {k:Int} {n:Nat}:(mkM k n).length=n:=by simp [mkM]
theorem zcb {k:Int} {n i:Nat} (h:i < (mkE k n).length):(mkE k n)[i]=entM (k+3 * i):=by simp [mkE]
theorem zce {k:Int} {n i:Nat} (h:i < (mkM k n).length):(mkM k n)[i]=qk (k+3 * i):=by simp [mkM]
def mkI (k:Int) (n:Nat):List Int:=(List.range n).map fun i:Nat=>k+(i:Int)
theorem zcd {k:Int} {n:Nat}:(mkI k n).length=n:=by simp [mkI]
theorem zcc {k:Int} {n i:Nat} (h:i < (mkI k n).length):(mkI k n)[i]=k+(i:Int):=by simp [mkI]
def part {α:Type} (a t:List α) (i:Nat):List α:=a.take i++t.drop i
theorem Jf {α:Type} {a t:List α} {i:Nat} (h:a.length=t.length) (hi:i≤t.length):(part a t i).length=t.length:=by
 unfold part; simp; omega
theorem Qk {α:Type} {a t:List α}:part a t 0=t:=by simp [part]
theorem Je {α:Type} {a t:List α} (h:a.length=t.length):part a t t.length=a:=by
 unfold part; rw [List.drop_length,List.append_nil,← h,List.take_length]
theorem Ql {α:Type} {a t:List α} {i:Nat} (h:a.length=t.length) (hi:i < t.length):(part a t i)[i]? = some t[i]:=by
 unfold part;rw [List.getElem?_append_right (by simp; omega),List.length_take,Nat.min_eq_left (by omega),Nat.sub_self,List.getElem?_drop,Nat.add_zero];exact List.getElem?_eq_getElem hi
theorem Qm {α:Type} {a t:List α} {i:Nat} (h:a.length=t.length) (hi:i < t.length) (y:α) (hy:y=a[i]):(part a t i).set i y=part a t (i+1):=by
 subst hy;unfold part;rw [List.set_append_right _ _ (by simp; omega),List.length_take,Nat.min_eq_left (by omega),Nat.sub_self,List.drop_eq_getElem_cons hi,List.set_cons_zero,List.take_succ_eq_append_getElem (by omega),List.append_assoc];rfl
def ssK:Int→List (List Mark)→Int
 | k,[]=>k
 | k,l::L=>ssK (k+3 * l.length) L
def zU:Int→List (List Mark)→List (List Mark)
 | _,[]=>[]
 | k,l::L=>mkM k l.length::zU (k+3 * l.length) L
theorem Qd:∀ {L:List (List Mark)} {k:Int},(zU k L).length=L.length
 | [],_=>rfl
 | l::L,k=>by simp [zU,Qd (L:=L)]
theorem zac:∀ {L:List (List Mark)} {k:Int} {i:Nat} (h:i < L.length),ssK k (L.take (i+1))=ssK k (L.take i)+3 * (L[i].length:Int)
 | [],_,_,h=>by simp at h
 | l::L,k,0,_=>by simp [ssK]
 | l::L,k,i+1,h=>by
  simp only [List.take_succ_cons,ssK];rw [zac (by simpa using h)];simp
theorem YA:∀ {L:List (List Mark)} {k:Int} {i:Nat} (h:i < L.length),(zU k L)[i]? = some (mkM (ssK k (L.take i)) L[i].length)
 | [],_,_,h=>by simp at h
 | l::L,k,0,_=>by simp [zU,ssK]
 | l::L,k,i+1,h=>by
  simp only [zU,List.getElem?_cons_succ,List.take_succ_cons,ssK];rw [YA (by simpa using h)];simp
theorem zdn:∀ {L:List (List Mark)} {k:Int},k≤ssK k L
 | [],k=>Int.le_refl _
 | l::L,k=>Int.le_trans (by omega) (zdn (L:=L) (k:=k+3 * l.length))
def sumL (L:List (List Mark)):Nat:=(L.map List.length).sum
theorem ZB:∀ {L:List (List Mark)} {k:Int},ssK k L=k+3 * (sumL L:Int)
 | [],k=>by simp [ssK,sumL]
 | l::L,k=>by
  rw [ssK,ZB];simp only [sumL,List.map_cons,List.sum_cons];omega
theorem zds (L:List (List Mark)) (i:Nat):sumL (L.take i)≤sumL L:=by
 have h:sumL (L.take i++L.drop i)=sumL (L.take i)+sumL (L.drop i):=by
  unfold sumL; rw [List.map_append,List.sum_append]
 rw [List.take_append_drop] at h;omega
def mkO (k:Int) (o:Over):Over:=⟨mkE k o.base.length,zU (k+3 * o.base.length) o.layers,mkM (ssK (k+3 * o.base.length) o.layers) o.upper.length⟩
def mkK (k:Int) (o:Over):Int:=ssK (k+3 * o.base.length) o.layers+3 * o.upper.length
theorem Yz {k:Int} {o:Over}:k≤mkK k o:=by
 have:=@zdn o.layers (k+3 * o.base.length);unfold mkK; omega

def zfd:XC:=(.s (.r [.ex 2 (.mv (.s []))]) (.s (.s (.r [.mv 4 0,.b1 5 .leq 4 (.i 0)]) (.cnd 5 (.s (.r [.ex 2 (.mv (.s [109,48]))]) .ret) .skip)) (.s (.r [.ex 3 (.mv (.s []))]) (.s (.blk 0 (.loop (.s (.s (.r [.mv 6 0,.b1 7 .gtr 6 (.i 0)]) (.ce 7 0)) (.blk 1 (.s (.r [.mv 8 0,.b1 9 .rem 8 (.i 10),.b1 10 .add (.i 48) 9,.ex 11 (.conv .u8 10),.ex 12 (.bsl 1 5 [11]),.ex 13 (.b2s 12),.mv 14 3,.b1 15 .add 13 14,.mv 3 15]) (.r [.mv 16 0,.b1 17 .quo 16 (.i 10),.mv 0 17])))))) (.s (.r [.mv 18 3,.ex 19 (.bin .add (.s [109]) 18),.mv 2 19]) .ret)))))
theorem zfe:zn Try.prog [] 52=some (zfd.ac,[(.t 2)],20):=by kernel_rfl
theorem JR (W0:World) (k:Int) (hk:k≤1000000000):Fn Try.prog W0 52 [CI k] (.c (CS (mT k))) []:=by
 refine fX mixed zfe fun hg=>?_
 refine dr ?_;apply cP<;>intro h1
 ·refine dr ?_;rw [mT,if_pos h1]
 refine dr ?_;refine lp2 (fun (n:Nat) (out:Str)=>[(0,.c (CI n)),(3,.c (CS out))]) (fun _ _=>[]) (fun n out=>n+out.length≤1000000000∧digF (n+1) n out=digF (k.toNat+1) k.toNat []) (fun n _=>n) k.toNat [] ⟨by simp; omega,rfl⟩ ?_ ?_
 ·refine dr ?_;repeat (refine oB (by rw [Int.toNat_of_nonneg (by omega)]) ?_; first|refine dr ?_|exact dz)
  trivial
 rintro n out ⟨hn,hd⟩;refine dr ?_;apply cP<;>intro h2
 ·have hch:(48+(n:Int) % 10).toNat=48+n % 10:=by omega
  refine dr ?_;repeat ((first|refine oB ⟨by omega,by decide,by omega⟩ ?_|refine oB (show (1:Nat)≤9223372036854775807 by decide) ?_|refine oB (show 1+out.length≤9223372036854775807 by omega) ?_); first|refine dr ?_|exact dz)
  refine ⟨n / 10,UInt8.ofNat (48+n % 10)::out,⟨by simp; omega,by rw [← zga (by omega)]; exact hd⟩,by omega,?_⟩;refine dr ?_;repeat (refine oB (congrArg (fun c=>PV.c (CS (UInt8.ofNat c::out))) hch) ?_; first|refine dr ?_|exact dz)
  trivial
 ·have:n=0:=by omega
  subst this;rw [zgb] at hd;refine dr ?_;repeat (refine oB (by simp; omega) ?_; first|refine dr ?_|exact dz)
  rw [mT,if_neg (by omega),← hd];rfl
def ze3:XC:=(.s (.r [.m1 4 (.i 0)]) (.s (.s (.r [.m1 5 (.i 0)]) (.blk 0 (.loop (.s (.s (.r [.mv 6 5,.mv 7 0,.n1 8 7,.b1 9 .lss 6 8]) (.ce 9 0)) (.s (.blk 1 (.s (.r [.mv 12 0,.mv 13 5,.mv 14 1,.c1 15 52 [14],.i1 16 3 12 13,.f1 17 0 16,.s1 1 17 15]) (.s (.ic 18 19 1) (.s (.r [.mv 20 0,.mv 21 5,.mv 22 1,.b1 23 .rem 22 (.i 3),.b1 24 .eql 23 (.i 0),.i1 25 3 20 21,.f1 26 1 25,.s1 1 26 24]) (.s (.ic 27 28 1) (.s (.r [.mv 29 0,.mv 30 5,.mv 31 1,.c1 32 52 [31],.i1 33 3 29 30,.f1 34 2 33,.s1 1 34 32]) (.ic 35 36 1))))))) (.ic 10 11 5)))))) (.s (.r [.mv 37 1,.mv 4 37]) .ret)))
theorem ze4:zn Try.prog [] 29=some (ze3.ac,[(.t 4)],38):=by kernel_rfl
theorem zgL (W0:World) (t:List Ent) (k:Int) (hk:0≤k∧k≤100000000) (ht:t.length≤1048576):zu Try.prog W0 29 [.own 4 t.length,.c (CI k)] [(4,.row (t.map zA) 3 76)] (fun _:Unit=>True) (fun _ => .c (CI (k+3 * t.length))) (fun _=>[(4,.row ((mkE k t.length).map zA) 3 76)]):=by
 refine fW mixed ze4 fun hg=>?_
 have hml:(mkE k t.length).length=t.length:=Qc;refine dr ?_;refine lp (σ:=Nat) (fun i=>[(0,.own 4 t.length),(1,I (k+3 * i)),(5,I i)]) (fun i=>[(4,.row ((part (mkE k t.length) t i).map zA) 3 76)]) (fun i=>i≤t.length) (fun i=>t.length - i) 0 (by simp) ?_ ?_
 ·refine dr ?_;repeat ((first|refine oB (by simp) ?_|refine oB (by rw [Qk]) ?_); first|refine dr ?_|exact dz)
  trivial
 intro i hi;have hpl:=Jf hml hi;refine dr ?_;apply cP<;>intro h1
 ·have hi':i < t.length:=by omega
  have hat:=Ql hml hi';have h0:((part (mkE k t.length) t i).map zA)[i]? = some (zA t[i]):=by rw [List.getElem?_map,hat]; rfl
  have hl0:((part (mkE k t.length) t i).map zA).length=t.length:=by simpa using hpl
  have hs:∀ y,(((part (mkE k t.length) t i).map zA).set i y)[i]? = some y:=fun y=>List.getElem?_set_self (by omega)
  have hs2:∀ y z,((((part (mkE k t.length) t i).map zA).set i y).set i z)[i]? = some z:=fun y z=>List.getElem?_set_self (by rw [List.length_set]; omega)
  refine dEr ?_;repeat ((first|refine c0 (JR W0 _ (by omega)) rfl ?_|refine oB (by first|exact hl0|(simp only [List.length_set]; exact hl0)) ?_|refine aE (j:=i) rfl h0 ?_|refine aE (j:=i) rfl (hs _) ?_|refine aE (j:=i) rfl (hs2 _ _) ?_|refine oB ⟨by omega,by decide,by omega⟩ ?_); first|refine dEr ?_|exact dz)
  have hm:zA (mkE k t.length)[i]=zA (entM (k+3 * i)):=by rw [zcb]
  refine ⟨i+1,by omega,by omega,?_⟩;have hfin:∀ y z x,x=zA (entM (k+3 * i))→(((((part (mkE k t.length) t i).map zA).set i y).set i z).set i x)=(part (mkE k t.length) t (i+1)).map zA:=fun y z x hx=>by
   rw [List.set_set,List.set_set,hx,← hm,← List.map_set,Qm hml hi' _ rfl]
  refine dr ?_;repeat ((first|refine oB (congrArg I (by omega)) ?_|refine oB (congrArg (fun r=>XB.row r 3 76) (hfin _ _ _ (by simp [zA,zr,entM,qk,Za,Int.add_assoc]))) ?_); first|refine dr ?_|exact dz)
  trivial
 ·have:i=t.length:=by omega
  subst this;rw [Je hml];refine dr ?_;refine ⟨none,_,_,?_,(),trivial,rfl,rfl⟩;refine dr ?_;trivial
def ze7:XC:=(.s (.r [.m1 4 (.i 0)]) (.s (.s (.r [.m1 5 (.i 0)]) (.blk 0 (.loop (.s (.s (.r [.mv 6 5,.mv 7 0,.n1 8 7,.b1 9 .lss 6 8]) (.ce 9 0)) (.s (.blk 1 (.s (.r [.mv 12 0,.mv 13 5,.mv 14 1,.c1 15 52 [14],.i1 16 3 12 13,.f1 17 0 16,.s1 1 17 15]) (.s (.ic 18 19 1) (.s (.r [.mv 20 0,.mv 21 5,.mv 22 1,.i1 23 3 20 21,.f1 24 1 23,.s1 1 24 22]) (.s (.ic 25 26 1) (.s (.r [.mv 27 0,.mv 28 5,.mv 29 1,.c1 30 52 [29],.i1 31 3 27 28,.f1 32 2 31,.s1 1 32 30]) (.ic 33 34 1))))))) (.ic 10 11 5)))))) (.s (.r [.mv 35 1,.mv 4 35]) .ret)))
theorem zfa:zn Try.prog [] 31=some (ze7.ac,[(.t 4)],36):=by kernel_rfl
theorem za7 (W0:World) (t:List Mark) (k:Int) (hk:0≤k∧k≤100000000) (ht:t.length≤1048576):zu Try.prog W0 31 [.own 4 t.length,.c (CI k)] [(4,.row (t.map zr) 3 78)] (fun _:Unit=>True) (fun _ => .c (CI (k+3 * t.length))) (fun _=>[(4,.row ((mkM k t.length).map zr) 3 78)]):=by
 refine fW mixed zfa fun hg=>?_
 have hml:(mkM k t.length).length=t.length:=Z8;refine dr ?_;refine lp (σ:=Nat) (fun i=>[(0,.own 4 t.length),(1,I (k+3 * i)),(5,I i)]) (fun i=>[(4,.row ((part (mkM k t.length) t i).map zr) 3 78)]) (fun i=>i≤t.length) (fun i=>t.length - i) 0 (by simp) ?_ ?_
 ·refine dr ?_;repeat ((first|refine oB (by simp) ?_|refine oB (by rw [Qk]) ?_); first|refine dr ?_|exact dz)
  trivial
 intro i hi;have hpl:=Jf hml hi;refine dr ?_;apply cP<;>intro h1
 ·have hi':i < t.length:=by omega
  have hat:=Ql hml hi';have h0:((part (mkM k t.length) t i).map zr)[i]? = some (zr t[i]):=by rw [List.getElem?_map,hat]; rfl
  have hl0:((part (mkM k t.length) t i).map zr).length=t.length:=by simpa using hpl
  have hs:∀ y,(((part (mkM k t.length) t i).map zr).set i y)[i]? = some y:=fun y=>List.getElem?_set_self (by omega)
  have hs2:∀ y z,((((part (mkM k t.length) t i).map zr).set i y).set i z)[i]? = some z:=fun y z=>List.getElem?_set_self (by rw [List.length_set]; omega)
  refine dEr ?_;repeat ((first|refine c0 (JR W0 _ (by omega)) rfl ?_|refine oB (by first|exact hl0|(simp only [List.length_set]; exact hl0)) ?_|refine aE (j:=i) rfl h0 ?_|refine aE (j:=i) rfl (hs _) ?_|refine aE (j:=i) rfl (hs2 _ _) ?_|refine oB ⟨by omega,by decide,by omega⟩ ?_); first|refine dEr ?_|exact dz)
  have hm:zr (mkM k t.length)[i]=zr (qk (k+3 * i)):=by rw [zce]
  refine ⟨i+1,by omega,by omega,?_⟩;have hfin:∀ y z x,x=zr (qk (k+3 * i))→(((((part (mkM k t.length) t i).map zr).set i y).set i z).set i x)=(part (mkM k t.length) t (i+1)).map zr:=fun y z x hx=>by
   rw [List.set_set,List.set_set,hx,← hm,← List.map_set,Qm hml hi' _ rfl]
  refine dr ?_;repeat ((first|refine oB (congrArg I (by omega)) ?_|refine oB (congrArg (fun r=>XB.row r 3 78) (hfin _ _ _ (by simp [zA,zr,entM,qk,Za,Int.add_assoc]))) ?_); first|refine dr ?_|exact dz)
  trivial
 ·have:i=t.length:=by omega
  subst this;rw [Je hml];refine dr ?_;refine ⟨none,_,_,?_,(),trivial,rfl,rfl⟩;refine dr ?_;trivial

theorem ksn {a b:Str} {A B:Prop} (h:a=b) (k:B):cndX (!eqS a b) A B:=by rw [Q2.2 h]; exact k
theorem kbn {a b:Bool} {A B:Prop} (h:a=b) (k:B):cndX (!eqB a b) A B:=by rw [JN.2 h]; exact k
theorem kin {a b:Int} {A B:Prop} (h:a=b) (k:B):cndX (!eqI a b) A B:=by rw [JO.2 h]; exact k
theorem klf {a b:Int} {A B:Prop} (h:b≤a) (k:B):cndX (ltI a b) A B:=by rw [Yq.2 h]; exact k
def zeR:XC:=(.s (.r [.m1 4 (.i 0)]) (.s (.s (.r [.m1 5 (.i 0)]) (.blk 0 (.loop (.s (.s (.r [.mv 6 5,.mv 7 0,.n1 8 7,.b1 9 .lss 6 8]) (.ce 9 0)) (.s (.blk 1 (.s (.s (.d [.mv 12 0,.mv 13 5,.i1 14 3 12 13,.f1 15 0 14,.l1 16 1 15,.mv 17 1,.c1 18 52 [17],.b1 19 .neq 16 18]) (.cnd 19 (.s (.r [.ex 4 (.mv (.k (.c (.sc (.int .i64 (.negSucc 0))))))]) .ret) .skip)) (.s (.ic 20 21 1) (.s (.s (.r [.mv 22 0,.mv 23 5,.i1 24 3 22 23,.f1 25 1 24,.l1 26 1 25,.mv 27 1,.b1 28 .rem 27 (.i 3),.b1 29 .eql 28 (.i 0),.ex 30 (.bb true 26 29)]) (.cnd 30 (.s (.r [.ex 4 (.mv (.k (.c (.sc (.int .i64 (.negSucc 0))))))]) .ret) .skip)) (.s (.ic 31 32 1) (.s (.s (.d [.mv 33 0,.mv 34 5,.i1 35 3 33 34,.f1 36 2 35,.l1 37 1 36,.mv 38 1,.c1 39 52 [38],.b1 40 .neq 37 39]) (.cnd 40 (.s (.r [.ex 4 (.mv (.k (.c (.sc (.int .i64 (.negSucc 0))))))]) .ret) .skip)) (.ic 41 42 1))))))) (.ic 10 11 5)))))) (.s (.r [.mv 43 1,.mv 4 43]) .ret)))
theorem zeS:zn Try.prog [] 54=some (zeR.ac,[(.t 4)],44):=by kernel_rfl
theorem zgx (W0:World) (k:Int) (n:Nat) (hk:0≤k∧k≤100000000) (hn:n≤1048576):Fn Try.prog W0 54 [zD (mkE k n),CI k] (.c (CI (k+3 * n))) []:=by
 refine fX mixed zeS fun hg=>?_
 have hml:(mkE k n).length=n:=Qc;refine dr ?_;refine lp (σ:=Nat) (fun i=>[(0,.c (zD (mkE k n))),(1,I (k+3 * i)),(5,I i)]) (fun _=>[]) (fun i=>i≤n) (fun i=>n - i) 0 (by simp) ?_ ?_
 ·refine dr ?_;repeat (refine oB (congrArg I (by simp)) ?_; first|refine dr ?_|exact dz)
  trivial
 intro i hi;refine dr ?_;apply cP<;>intro h1
 ·have hi':i < (mkE k n).length:=by omega
  have e1:(mkE k n)[i]=entM (k+3 * i):=zcb hi';refine dEr ?_;repeat ((first|refine c0 (JR W0 _ (by omega)) rfl ?_|refine aM (j:=i) rfl hi' ?_|refine ksn (by rw [e1]; simp [entM,qk,Int.add_assoc]) ?_|refine kbn (by rw [e1]; simp [entM,Za]) ?_|refine kin (by rw [e1]; simp [qk]) ?_|refine oB ⟨by omega,by decide,by omega⟩ ?_); first|refine dEr ?_|exact dz)
  refine ⟨i+1,by omega,by omega,?_⟩;refine dr ?_;repeat (refine oB (congrArg I (by omega)) ?_; first|refine dr ?_|exact dz)
  trivial
 ·have h1:((mkE k n).length:Int)≤i:=h1;have:i=n:=by omega
  subst this;exact dz
def zeV:XC:=(.s (.r [.m1 4 (.i 0)]) (.s (.s (.r [.m1 5 (.i 0)]) (.blk 0 (.loop (.s (.s (.r [.mv 6 5,.mv 7 0,.n1 8 7,.b1 9 .lss 6 8]) (.ce 9 0)) (.s (.blk 1 (.s (.s (.d [.mv 12 0,.mv 13 5,.i1 14 3 12 13,.f1 15 0 14,.l1 16 1 15,.mv 17 1,.c1 18 52 [17],.b1 19 .neq 16 18]) (.cnd 19 (.s (.r [.ex 4 (.mv (.k (.c (.sc (.int .i64 (.negSucc 0))))))]) .ret) .skip)) (.s (.ic 20 21 1) (.s (.s (.r [.mv 22 0,.mv 23 5,.i1 24 3 22 23,.f1 25 1 24,.l1 26 1 25,.mv 27 1,.b1 28 .neq 26 27]) (.cnd 28 (.s (.r [.ex 4 (.mv (.k (.c (.sc (.int .i64 (.negSucc 0))))))]) .ret) .skip)) (.s (.ic 29 30 1) (.s (.s (.d [.mv 31 0,.mv 32 5,.i1 33 3 31 32,.f1 34 2 33,.l1 35 1 34,.mv 36 1,.c1 37 52 [36],.b1 38 .neq 35 37]) (.cnd 38 (.s (.r [.ex 4 (.mv (.k (.c (.sc (.int .i64 (.negSucc 0))))))]) .ret) .skip)) (.ic 39 40 1))))))) (.ic 10 11 5)))))) (.s (.r [.mv 41 1,.mv 4 41]) .ret)))
theorem zeY:zn Try.prog [] 56=some (zeV.ac,[(.t 4)],42):=by kernel_rfl
theorem za5 (W0:World) (k:Int) (n:Nat) (hk:0≤k∧k≤100000000) (hn:n≤1048576):Fn Try.prog W0 56 [zs (mkM k n),CI k] (.c (CI (k+3 * n))) []:=by
 refine fX mixed zeY fun hg=>?_
 have hml:(mkM k n).length=n:=Z8;refine dr ?_;refine lp (σ:=Nat) (fun i=>[(0,.c (zs (mkM k n))),(1,I (k+3 * i)),(5,I i)]) (fun _=>[]) (fun i=>i≤n) (fun i=>n - i) 0 (by simp) ?_ ?_
 ·refine dr ?_;repeat (refine oB (congrArg I (by simp)) ?_; first|refine dr ?_|exact dz)
  trivial
 intro i hi;refine dr ?_;apply cP<;>intro h1
 ·have hi':i < (mkM k n).length:=by omega
  have e1:(mkM k n)[i]=qk (k+3 * i):=zce hi';refine dEr ?_;repeat ((first|refine c0 (JR W0 _ (by omega)) rfl ?_|refine aM (j:=i) rfl hi' ?_|refine ksn (by rw [e1]; simp [entM,qk,Int.add_assoc]) ?_|refine kbn (by rw [e1]; simp [entM,Za]) ?_|refine kin (by rw [e1]; simp [qk]) ?_|refine oB ⟨by omega,by decide,by omega⟩ ?_); first|refine dEr ?_|exact dz)
  refine ⟨i+1,by omega,by omega,?_⟩;refine dr ?_;repeat (refine oB (congrArg I (by omega)) ?_; first|refine dr ?_|exact dz)
  trivial
 ·have h1:((mkM k n).length:Int)≤i:=h1;have:i=n:=by omega
  subst this;exact dz
theorem YB:∀ {t:List (List Mark)} {k:Int},(zU k t).map List.length=t.map List.length
 | [],_=>rfl
 | l::t,k=>by simp [zU,Z8,YB (t:=t)]
theorem zbY {t t':List (List Mark)} (h:t'.map List.length=t.map List.length):(lmT t').map List.length=(lmT t).map List.length:=by
 simpa [lmT,List.map_map,Function.comp_def] using h
theorem zcD {t:List (List Mark)} {k:Int} {i:Nat}:(part (zU k t) t i).map List.length=t.map List.length:=by
 unfold part;rw [List.map_append,List.map_take,List.map_drop,YB,List.take_append_drop]
def ze8:XC:=(.s (.r [.m1 4 (.i 0)]) (.s (.s (.r [.m1 5 (.i 0)]) (.blk 0 (.loop (.s (.s (.r [.mv 6 5,.mv 7 0,.n1 8 7,.b1 9 .lss 6 8]) (.ce 9 0)) (.s (.blk 1 (.r [.mv 12 0,.mv 13 5,.i1 14 1 12 13,.l1 15 1 14,.mv 16 1,.o1 17 31 [15,16],.mv 1 17])) (.ic 10 11 5)))))) (.s (.r [.mv 18 1,.mv 4 18]) .ret)))
theorem ze9:zn Try.prog [31] 30=some (ze8.ac,[(.t 4)],19):=by kernel_rfl
theorem zgN (W0:World) (t:List (List Mark)) (k:Int) (hk:0≤k∧k+3 * sumL t≤100000000) (ht:∀ l∈t,l.length≤1048576) (htl:t.length≤1048576) :
  zu Try.prog W0 30 [.own 39 t.length,.c (CI k)] ((39,.rowP (zt 7 3 (lmT t)) 30)::zI 7 3 78 3 (lmT t)) (fun _:Unit=>True) (fun _ => .c (CI (ssK k t))) (fun _=>(39,.rowP (zt 7 3 (lmT t)) 30)::zI 7 3 78 3 (lmT (zU k t))):=by
 refine fW' _ mixed ze9 (fun hg=>?_) rfl;have hml:(zU k t).length=t.length:=Qd;have hlm:∀ u:List (List Mark),(lmT u).length=u.length:=fun u=>by simp [lmT]
 have hO:∀ i,zt 7 3 (lmT (part (zU k t) t i))=zt 7 3 (lmT t):=fun i=>YW (zbY zcD)
 have hk0:∀ i id,(((39,XB.rowP (zt 7 3 (lmT t)) 30)::zI 7 3 78 3 (lmT t)).map (·.1)).contains id=true→(lkX ((39,XB.rowP (zt 7 3 (lmT t)) 30)::zI 7 3 78 3 (lmT (part (zU k t) t i))) id).isSome=true:=fun i id h=>by
  have:=Qf h;rw [lkX] at this ⊢;cases hb:Nat.beq id 39 with
  | true=>rfl
  | false =>
   rw [hb] at this;rw [JS (L':=lmT t) (by
    have:=congrArg List.length (zcD (t:=t) (k:=k) (i:=i))
    simpa [lmT] using this)]
   exact this
 generalize hkk:(((39,XB.rowP (zt 7 3 (lmT t)) 30)::zI 7 3 78 3 (lmT t)).map (·.1))=kk at *;have hin:∀ i,inMX ((39,XB.rowP (zt 7 3 (lmT t)) 30)::zI 7 3 78 3 (lmT (part (zU k t) t i)))=true:=fun i=>zl (by
  rw [← hO i];exact q8 fun j hj=>by rw [zf (by omega),qG hj]; rfl) qT
 refine dr ?_;refine lq (σ:=Nat) (fun i=>[(0,.own 39 t.length),(1,I (ssK k (t.take i))),(5,I i)]) (fun i=>(39,.rowP (zt 7 3 (lmT t)) 30)::zI 7 3 78 3 (lmT (part (zU k t) t i))) (fun i=>i≤t.length) (fun i=>t.length - i) 0 (by simp) ?_ ?_
 ·refine zB.ls ⟨rfl,rfl,rfl,trivial⟩ ⟨rfl,?_⟩ (hk0 0) (hin 0) rfl;rw [Qk];exact yo fun i hi=>by
   show lkX (_::zI 7 3 _ 3 _) _=_;rw [zf (by omega),qG hi]
 intro i hi;obtain ⟨T,O,fa⟩:=famP 7 3 78 3 (lmT (part (zU k t) t i));have hOi:=fa.o;rw [hO i] at hOi;rw [fa.t,hOi];refine dr ?_;apply cP<;>intro h1
 ·have hi':i < t.length:=by omega
  have hpl:(part (zU k t) t i).length=t.length:=Jf hml hi;have hlt:=ht _ (List.getElem_mem hi');have hss:=ZB (L:=t.take i) (k:=k);have hsu:=zds t i;have hat:(lmT (part (zU k t) t i))[i]'(by rw [hlm]; omega)=t[i].map zr:=by
   have:=Ql hml hi';have h2:(lmT (part (zU k t) t i))[i]? = some (t[i].map zr):=by simp [lmT,this]
   rw [List.getElem?_eq_getElem (by rw [hlm]; omega)] at h2;exact Option.some.inj h2
  have hget:O[i]? = some (.own (16 * (3+i)+7) t[i].length):=by
   rw [fa.get (by rw [hlm]; omega),hat]; simp
  have q:zu Try.prog W0 31 [.own (16 * (3+i)+7) t[i].length,.c (CI (ssK k (t.take i)))] [(16 * (3+i)+7,.row (t[i].map zr) 3 78)] (fun _:Unit=>True) (fun _ => .c (CI (ssK k (t.take i)+3 * t[i].length))) (fun _=>[(16 * (3+i)+7,.row ((mkM (ssK k (t.take i)) t[i].length).map zr) 3 78)]) :=
   (za7 W0 t[i] (ssK k (t.take i)) ⟨by omega,by omega⟩ hlt).swp 4 (16 * (3+i)+7)
  refine dr ?_;repeat ((first|refine oB (fa.len.trans (by rw [hlm]; exact hpl)) ?_|refine YK hget ?_); first|refine dr ?_|exact dz)
  refine oW' q (fun id b hb=>?_) rfl (by simp [inPX,inAX,in1X,lkX]) ⟨(),trivial⟩ fun _ _=>⟨fun id h => .inl ?_,?_⟩
  ·have hm:=qj hb;simp only [List.mem_singleton,Prod.mk.injEq] at hm;obtain ⟨rfl,rfl⟩:=hm;show lkX (_::T) _=_;rw [zf (by omega),fa.row (by rw [hlm]; omega),hat]
  ·rw [lkX] at h ⊢;cases hb:Nat.beq id (16 * (3+i)+7) with
   | true=>rfl
   | false=>rw [hb] at h; exact h
  have hne:∀ {m:XM} {b:XB} {id:Nat},id≠16 * (3+i)+7→lkX (z5 m [(16 * (3+i)+7,b)]) id=lkX m id:=fun h=>by rw [jr,zf h]; rfl
  have heq:∀ {m:XM} {b:XB},lkX (z5 m [(16 * (3+i)+7,b)]) (16 * (3+i)+7)=some b:=fun {m b}=>by rw [jr,lkX,Nat.beq_refl]
  have hsi:=zac (k:=k) hi';have hpl2:(part (zU k t) t (i+1)).length=t.length:=Jf hml (by omega);refine dEr ?_;refine ⟨i+1,by omega,by omega,?_⟩;rw [← hOi];refine zB.ls ⟨rfl,congrArg (fun n=>some (I n)) hsi.symm,rfl,trivial⟩ ⟨(hne (by omega)).trans rfl,yo fun j hj=>?_⟩ (hk0 (i+1)) (hin (i+1)) rfl;have hj':j < t.length:=by rw [hlm,hpl2] at hj; exact hj
  have hmi:(zU k t)[i]? = some (mkM (ssK k (t.take i)) t[i].length):=YA hi';have hset:=Qm hml hi' _ (rfl:(zU k t)[i]'(by omega)=_);by_cases e:j=i
  ·subst e;refine heq.trans ?_;have h2:(lmT (part (zU k t) t (j+1)))[j]? = some ((mkM (ssK k (t.take j)) t[j].length).map zr):=by
    rw [← hset];simp only [lmT,List.getElem?_map,List.getElem?_set_self (show j < (part (zU k t) t j).length by omega)];rw [List.getElem?_eq_getElem (by omega)] at hmi;rw [Option.some.inj hmi]; rfl
   rw [List.getElem?_eq_getElem hj] at h2;rw [Option.some.inj h2]
  ·refine (hne (by omega)).trans ?_;show lkX (_::T) _=_;rw [zf (by omega),fa.row (by rw [hlm]; omega)];have h2:(lmT (part (zU k t) t (i+1)))[j]? = (lmT (part (zU k t) t i))[j]? := by
    rw [← hset];simp only [lmT,List.getElem?_map,List.getElem?_set_ne (Ne.symm e)]
   rw [List.getElem?_eq_getElem hj,List.getElem?_eq_getElem (by rw [hlm]; omega)] at h2;rw [Option.some.inj h2]
 ·have:i=t.length:=by omega
  subst this;rw [Je hml] at fa;rw [List.take_length];refine dr ?_;refine ⟨some 3,_,_,?_,(),trivial,rfl,rfl⟩;have hk1:=hk0 t.length;have hin1:=hin t.length;rw [Je hml] at hk1 hin1;rw [← hOi];exact zB.ls ⟨rfl,trivial⟩ ⟨rfl,yo fun j hj=>by
   show lkX (_::T) _=_;rw [zf (by omega),fa.row hj]⟩ hk1 hin1 rfl

theorem YS {c:Nat} {o:Over} {id:Nat} (h:id % 16≠c % 16):lkX (ovM c o) id=none:=by
 unfold ovM;rw [zf (by rintro rfl; exact h rfl),zf (by rintro rfl; omega),zf (by rintro rfl; omega)];exact Q4 (.inr h)
theorem Ja {c:Nat} {o o':Over} {id:Nat} (hl:o.layers.length=o'.layers.length):(lkX (ovM c o) id).isSome=(lkX (ovM c o') id).isSome:=by
 unfold ovM;simp only [lkX];cases Nat.beq id c<;>simp only
 ·cases Nat.beq id (16+c)<;>simp only
  ·cases Nat.beq id (32+c)<;>simp only
   ·exact JS (by simp [lmL,hl])
   ·rfl
  ·rfl
 ·rfl
theorem zhX {o:Over} {k:Int}:(mkO k o).layers.map List.length=o.layers.map List.length:=YB
theorem yn {o:Over} {k:Int}:(mkO k o).layers.length=o.layers.length:=Qd
def zeW:XC:=(.s (.r [.m1 4 (.i 0)]) (.s (.s (.r [.m1 5 (.i 0)]) (.blk 0 (.loop (.s (.s (.r [.mv 6 5,.mv 7 0,.n1 8 7,.b1 9 .lss 6 8]) (.ce 9 0)) (.s (.blk 1 (.s (.r [.mv 12 0,.mv 13 5,.i1 14 1 12 13,.l1 15 1 14,.mv 16 1,.c1 17 56 [15,16],.mv 1 17]) (.s (.r [.mv 18 1,.b1 19 .lss 18 (.i 0)]) (.cnd 19 (.s (.r [.ex 4 (.mv (.k (.c (.sc (.int .i64 (.negSucc 0))))))]) .ret) .skip)))) (.ic 10 11 5)))))) (.s (.r [.mv 20 1,.mv 4 20]) .ret)))
theorem zeX:zn Try.prog [] 55=some (zeW.ac,[(.t 4)],21):=by kernel_rfl
theorem zgz (W0:World) (k:Int) (t:List (List Mark)) (hk:0≤k∧k+3 * sumL t≤100000000) (ht:∀ l∈t,l.length≤1048576) (htl:t.length≤1048576):Fn Try.prog W0 55 [zT (zU k t),CI k] (.c (CI (ssK k t))) []:=by
 refine fX mixed zeX fun hg=>?_
 have hml:(zU k t).length=t.length:=Qd;refine dr ?_;refine lp (σ:=Nat) (fun i=>[(0,.c (zT (zU k t))),(1,I (ssK k (t.take i))),(5,I i)]) (fun _=>[]) (fun i=>i≤t.length) (fun i=>t.length - i) 0 (by simp) ?_ ?_
 ·refine dr ?_;trivial
 intro i hi;refine dr ?_;apply cP<;>intro h1
 ·have hi':i < t.length:=by omega
  have hlt:=ht _ (List.getElem_mem hi');have hss:=ZB (L:=t.take i) (k:=k);have hsu:=zds t i;have hmi:(zU k t)[i]'(by omega)=mkM (ssK k (t.take i)) t[i].length:=by
   have:=YA (k:=k) hi';rw [List.getElem?_eq_getElem (by omega)] at this;exact Option.some.inj this
  have hsi:=zac (k:=k) hi';have q:=za5 W0 (ssK k (t.take i)) t[i].length ⟨by omega,by omega⟩ hlt;rw [← hmi] at q;refine dEr ?_;repeat ((first|refine aM (j:=i) rfl (show i < (zU k t).length by omega) ?_|refine c0 q rfl ?_); first|refine dEr ?_|exact dz)
  refine klf (by omega) ?_;refine dr ?_;refine ⟨i+1,by omega,by omega,?_⟩;refine dr ?_;repeat (refine oB (congrArg I hsi.symm) ?_; first|refine dr ?_|exact dz)
  trivial
 ·have h1:((zU k t).length:Int)≤i:=h1;have:i=t.length:=by omega
  subst this;rw [List.take_length];exact dz
def zeZ:XC:=(.s (.r [.x1 2 0,.m1 4 (.i 0)]) (.s (.r [.f1 5 0 2,.l1 6 1 5,.mv 7 1,.c1 8 54 [6,7],.mv 1 8]) (.s (.s (.r [.mv 9 1,.b1 10 .lss 9 (.i 0)]) (.cnd 10 (.s (.r [.ex 4 (.mv (.k (.c (.sc (.int .i64 (.negSucc 0))))))]) .ret) .skip)) (.s (.r [.f1 11 1 2,.l1 12 1 11,.mv 13 1,.c1 14 55 [12,13],.mv 1 14]) (.s (.s (.r [.mv 15 1,.b1 16 .lss 15 (.i 0)]) (.cnd 16 (.s (.r [.ex 4 (.mv (.k (.c (.sc (.int .i64 (.negSucc 0))))))]) .ret) .skip)) (.s (.r [.f1 17 2 2,.l1 18 1 17,.mv 19 1,.c1 20 56 [18,19],.mv 1 20]) (.s (.s (.r [.mv 21 1,.b1 22 .lss 21 (.i 0)]) (.cnd 22 (.s (.r [.ex 4 (.mv (.k (.c (.sc (.int .i64 (.negSucc 0))))))]) .ret) .skip)) (.s (.r [.mv 23 1,.mv 4 23]) .ret))))))))
theorem ze0:zn Try.prog [] 36=some (zeZ.ac,[(.t 4)],24):=by kernel_rfl
theorem zgA (W0:World) (k:Int) (o:Over) (hk:0≤k∧mkK k o≤100000000) (h1:o.base.length≤1048576) (h2:o.layers.length≤1048576) (h3:∀ l∈o.layers,l.length≤1048576) (h4:o.upper.length≤1048576):Fn Try.prog W0 36 [z8 (mkO k o),CI k] (.c (CI (mkK k o))) []:=by
 refine fX mixed ze0 fun hg=>?_
 have e1:=@ZB o.layers (k+3 * o.base.length);have hK:mkK k o=ssK (k+3 * o.base.length) o.layers+3 * o.upper.length:=rfl;have q1:Fn Try.prog W0 54 [zD (mkO k o).base,CI k] (.c (CI (k+3 * o.base.length))) []:=zgx W0 k o.base.length ⟨by omega,by omega⟩ h1;have q2:Fn Try.prog W0 55 [zT (mkO k o).layers,CI (k+3 * o.base.length)] (.c (CI (ssK (k+3 * o.base.length) o.layers))) []:=zgz W0 (k+3 * o.base.length) o.layers ⟨by omega,by omega⟩ h3 h2;have q3:Fn Try.prog W0 56 [zs (mkO k o).upper,CI (ssK (k+3 * o.base.length) o.layers)] (.c (CI (ssK (k+3 * o.base.length) o.layers+3 * o.upper.length))) []:=za5 W0 _ o.upper.length ⟨by omega,by omega⟩ h4;refine dEr ?_;repeat ((first|refine c0 q1 rfl ?_|refine klf (by omega) ?_|refine c0 q2 rfl ?_|refine c0 q3 rfl ?_); first|refine dEr ?_|exact dz)
 try rfl
def zfb:XC:=(.s (.r [.x1 2 0,.m1 4 (.i 0)]) (.s (.r [.f1 5 0 2,.l1 6 1 5,.mv 7 1,.o1 8 29 [6,7],.mv 1 8]) (.cut (.r [.f1 9 1 2,.l1 10 1 9,.mv 11 1,.o1 12 30 [10,11],.mv 1 12]) (.s (.r [.f1 13 2 2,.l1 14 1 13,.mv 15 1,.o1 16 31 [14,15],.mv 1 16]) (.s (.r [.mv 17 1,.mv 4 17]) .ret)))))
theorem zfc:zn Try.prog [29,30,31] 10=some (zfb.ac,[(.t 4)],18):=by kernel_rfl
theorem za8 (W0:World) (k:Int) (o:Over) (hk:0≤k∧mkK k o≤100000000) (h1:o.base.length≤1048576) (h2:o.layers.length≤1048576) (h3:∀ l∈o.layers,l.length≤1048576) (h4:o.upper.length≤1048576) :
  zu Try.prog W0 10 [ovP 7 o,.c (CI k)] (ovM 7 o) (fun _:Unit=>True) (fun _ => .c (CI (mkK k o))) (fun _=>ovM 7 (mkO k o)):=by
 refine fW' _ mixed zfc (fun hg=>?_) rfl;have e1:=@ZB o.layers (k+3 * o.base.length);have hK:mkK k o=ssK (k+3 * o.base.length) o.layers+3 * o.upper.length:=rfl;have hOO:zt 7 3 (lmL (mkO k o))=zt 7 3 (lmL o):=YW (zbY zhX);have hk0:∀ id,((ovM 7 o).map (·.1)).contains id=true→(lkX (ovM 7 (mkO k o)) id).isSome=true:=fun id h=>by
  rw [Ja (o':=o) yn]; exact Qf h
 generalize hkk:(ovM 7 o).map (·.1)=kk at *;have q1:zu Try.prog W0 29 [.own 7 o.base.length,.c (CI k)] [(7,.row (o.base.map zA) 3 76)] (fun _:Unit=>True) (fun _ => .c (CI (k+3 * o.base.length))) (fun _=>[(7,.row ((mkE k o.base.length).map zA) 3 76)]):=(zgL W0 o.base k ⟨by omega,by omega⟩ h1).swp 4 7;have q2:=zgN W0 o.layers (k+3 * o.base.length) ⟨by omega,by omega⟩ h3 h2;have q3:zu Try.prog W0 31 [.own 23 o.upper.length,.c (CI (ssK (k+3 * o.base.length) o.layers))] [(23,.row (o.upper.map zr) 3 78)] (fun _:Unit=>True) (fun _ => .c (CI (ssK (k+3 * o.base.length) o.layers+3 * o.upper.length))) (fun _=>[(23,.row ((mkM (ssK (k+3 * o.base.length) o.layers) o.upper.length).map zr) 3 78)]):=(za7 W0 o.upper _ ⟨by omega,by omega⟩ h4).swp 4 23;obtain ⟨T,O,fa⟩:=famP 7 3 78 3 (lmL o);obtain ⟨T',O',fa'⟩:=famP 7 3 78 3 (lmL (mkO k o));have hO':O'=O:=by rw [← fa.o,← fa'.o]; exact hOO
 subst hO';have ovT:ovM 7 o=(7,.row (o.base.map zA) 3 76)::(23,.row (o.upper.map zr) 3 78)::(39,.rowP O' 30)::T:=by unfold ovM; rw [fa.t,fa.o]
 have q2:zu Try.prog W0 30 [.own 39 o.layers.length,.c (CI (k+3 * o.base.length))] ((39,.rowP O' 30)::T) (fun _:Unit=>True) (fun _ => .c (CI (ssK (k+3 * o.base.length) o.layers))) (fun _=>(39,.rowP O' 30)::T'):=by
  rw [← fa.t,← fa'.t,← fa.o]; exact q2
 rw [ovT];refine dEr ?_;repeat (refine fT (frX1 ((jw (P:=[_,_,_]) rfl).trans (fa.no (id:=32) (.inr (by decide))))) ?_; first|refine dEr ?_|exact dz)
 refine oW q1 rfl ⟨rfl,trivial⟩ rfl rfl ⟨(),trivial⟩ fun _ _=>⟨rfl,?_⟩
 refine dEr ?_;refine cutz (σ:=Unit) 3 (fun _=>[(1,I (ssK (k+3 * o.base.length) o.layers)),(2,.ptr 32 0)])
  (fun _=>(32,.box [.own 7 o.base.length,.own 39 o.layers.length,.own 23 o.upper.length])::(7,.row ((mkE k o.base.length).map zA) 3 76)::(23,.row (o.upper.map zr) 3 78)::(39,.rowP O' 30)::T') (fun _=>True) ?_ ?_
 ·refine dr ?_;refine oW' q2 (fun id b hb=>Zt (l:=(39,.rowP O' 30)::T) ⟨rfl,fa.mmS fun i hi=>?_⟩ _ (qj hb)) ?_ rfl ⟨(),trivial⟩ fun _ _=>⟨fun id h => .inl ?_,?_⟩
  ·show lkX (_::_::_::_::T) _=_;rw [zf (by simp<;>omega),zf (by omega),zf (by omega),zf (by omega),fa.row hi]
  ·exact zl (fa.inO fun i hi=>by rw [zf (by omega),fa.row hi]; rfl) fa.inT
  ·rw [lkX,← fa'.t] at h;rw [lkX,← fa.t];cases hb:Nat.beq id 39 with
   | true=>rfl
   | false =>
    rw [hb] at h;simp only at h ⊢;rw [JS (L':=lmL (mkO k o)) (by simp [lmL,yn])];exact h
  have hmg:∀ {m:XM} {id:Nat},id < 39→lkX (z5 m ((39,.rowP O' 30)::T')) id=lkX m id:=fun h=>by rw [jr,zf (by omega),fa'.no (.inl (by omega))]
  have hm39:∀ {m:XM},lkX (z5 m ((39,.rowP O' 30)::T')) 39=some (.rowP O' 30):=fun {m}=>by rw [jr]; rfl
  have hmT:∀ {m:XM} i (hi:i < (lmL (mkO k o)).length),lkX (z5 m ((39,.rowP O' 30)::T')) (16 * (3+i)+7)=some (.row (lmL (mkO k o))[i] 3 78):=fun i hi=>by rw [jr,zf (by omega),fa'.row hi]
  refine dEr ?_;refine ⟨(),trivial,?_⟩;exact zB.ls ⟨rfl,rfl,trivial⟩ ⟨(hmg (by decide)).trans rfl,(hmg (by decide)).trans rfl,(hmg (by decide)).trans rfl,hm39,fa'.mmS hmT⟩ (fun id h=>by
    have:=hk0 id h;rw [show ovM 7 (mkO k o)=(7,.row ((mkO k o).base.map zA) 3 76)::(23,.row ((mkO k o).upper.map zr) 3 78)::(39,.rowP O' 30)::T' by unfold ovM; rw [fa'.t,fa'.o]] at this;simp only [lkX] at this ⊢;cases h0:Nat.beq id 32<;>cases h7:Nat.beq id 7<;>cases h23:Nat.beq id 23<;>cases h39:Nat.beq id 39<;>simp_all) (zl rfl (zl rfl (zl rfl (zl (fa'.inO fun i hi=>by
    rw [zf (by omega),zf (by omega),zf (by omega),zf (by omega),fa'.row hi]; rfl) fa'.inT)))) rfl
 intro _ _;refine dr ?_;refine oW q3 rfl ⟨rfl,trivial⟩ rfl rfl ⟨(),trivial⟩ fun _ _=>⟨rfl,?_⟩
 refine dEr ?_;refine ⟨some 3,_,_,?_,(),trivial,rfl,rfl⟩;refine zB.ls ⟨rfl,trivial⟩ ⟨rfl,rfl,congrArg (fun L=>some (XB.rowP L 30)) fa'.o.symm,yo fun i hi=>?_⟩ hk0 zcw rfl;show lkX (_::_::_::_::T') _=_;rw [zf (by simp<;>omega),zf (by simp<;>omega),zf (by simp<;>omega),zf (by simp<;>omega)];exact fa'.row hi

def s79 (i:Nat):Nat:=if i % 16=7 then i+2 else if i % 16=9 then i - 2 else i
theorem ziK (i:Nat):s79 (s79 i)=i:=by
 unfold s79;split
 ·rw [if_neg (by omega),if_pos (by omega)]; omega
 split
 ·rw [if_pos (by omega)]; omega
 rfl
theorem zcT (k:Nat):s79 (16 * k+7)=16 * k+9:=by unfold s79; rw [if_pos (by omega)]
theorem owns79:∀ {k:Nat} {L:List (List CV)},(zt 7 k L).map (renA s79)=zt 9 k L
 | _,[]=>rfl
 | k,C::L=>by
  rw [zt,zt,List.map_cons,owns79 (k:=k+1)];show PV.own (s79 (16 * k+7)) _::_=_;rw [zcT]
theorem fam79 {sz:Nat} {e:TypeId}:∀ {k:Nat} {L:List (List CV)},renX s79 (zI 7 sz e k L)=zI 9 sz e k L
 | _,[]=>rfl
 | k,C::L=>by
  rw [zI,zI,renX,fam79 (k:=k+1),zcT];rfl
theorem ovM79 {o:Over}:renX s79 (ovM 7 o)=ovM 9 o:=by
 unfold ovM;rw [renX,renX,renX,fam79];simp only [qK,owns79];rfl
theorem zgO (W0:World) (k:Int) (o:Over) (hk:0≤k∧mkK k o≤100000000) (h1:o.base.length≤1048576) (h2:o.layers.length≤1048576) (h3:∀ l∈o.layers,l.length≤1048576) (h4:o.upper.length≤1048576) :
  zu Try.prog W0 10 [ovP 9 o,.c (CI k)] (ovM 9 o) (fun _:Unit=>True) (fun _ => .c (CI (mkK k o))) (fun _=>ovM 9 (mkO k o)):=by
 have:=(za8 W0 k o hk h1 h2 h3 h4).ren ziK;simp only [ovM79] at this;exact this

theorem ziR {c:Nat} {o:Over} {m:XM} {l:List PV} {K:List CV→Prop} {e1 e2 e3 e4:TypeId} (h1:lkX m c=some (.row (o.base.map zA) 3 e1)) (h2:lkX m (16+c)=some (.row (o.upper.map zr) 3 e2)) (h3:lkX m (32+c)=some (.rowP (zt c 3 (lmL o)) e3))
  (h4:∀ i (h:i < (lmL o).length),lkX m (16 * (3+i)+c)=some (.row (lmL o)[i] 3 e4)) (hK:qz m l fun r=>K (z8 o::r)):qz m (ovP c o::l) K:=by
 unfold ovP;simp only [qz,Qt,Qs];refine onI h1 (oB (by simp) (onI h3 (oB (by simp [qq,lmL]) (yZ h4 ?_))));refine onI h2 (oB (by simp) ?_);have e:(lmL o).map CV.row=o.layers.map zs:=by unfold lmL; rw [List.map_map]; rfl
 rw [e];exact hK
theorem kNN {a:Int} {A B:Prop} (k:B):cndX (!eqI a a) A B:=by rw [JO.2 rfl]; exact k
theorem kBB {b:Bool} {A B:Prop} (k:B):cndX (!eqB b b) A B:=by rw [JN.2 rfl]; exact k
theorem zaj {α:Type} {f:α→Int→Int} (hf:∀ a l,-1≤l → -1≤f a l∧f a l≤l) {t:List α} {l:Int} (h:0≤szR f t l):szR f t l≤l - t.length:=by
 unfold szR at h ⊢;split at h
 ·omega
 rename_i g;rw [if_neg g];exact (zai hf (t:=t) (l:=l - t.length) (by omega)).2
theorem zdu:∀ {L:List (List Mark)} {l:Int},0≤l→0≤szL (szR z7) L l→szL (szR z7) L l≤l - (sumL L:Int)
 | [],l,_,_=>by simp [szL,sumL]
 | a::L,l,h0,h=>by
  unfold szL at h ⊢;split at h
  ·omega
  rename_i g;rw [if_neg g];have h1:=zaj (fun a l=>@qO a l) (by omega:0≤szR z7 a l);have h2:=zdu (L:=L) (by omega) h;have h3:sumL (a::L)=a.length+sumL L:=by simp [sumL]
  omega
theorem zjC {o:Over} {l:Int} (h0:0≤l) (h:0≤jW o l):(o.base.length:Int)+sumL o.layers+o.upper.length≤l:=by
 unfold jW at h;split at h
 ·omega
 rename_i g1;split at h
 ·omega
 rename_i g2;split at h
 ·omega
 have k1:=zaj (fun a l=>@Jq a l) (by omega:0≤szR jk o.base l);have k3:=zaj (fun a l=>@qO a l) h;have k2:=Jr (by omega) (by omega:0≤szR (szR z7) o.layers (szR jk o.base l));have k4:szR (szR z7) o.layers (szR jk o.base l)=szL (szR z7) o.layers (szR jk o.base l - o.layers.length):=by
  rw [szR,if_neg (by omega)]
 have k5:=zdu (by omega) k2.2;omega
theorem zhW {o:Over} {l k:Int} (h0:0≤l) (h:0≤jW o l):mkK k o≤k+3 * l:=by
 have:=zjC h0 h;rw [mkK,ZB];omega
theorem YC {m:XM}:∀ {l1 l2:XM},mmS m l1→mmS m l2→mmS m (apX l1 l2)
 | [],_,_,h=>h
 | (id,x)::l,_,h,k=>⟨h.1,YC (l1:=l) h.2 k⟩
theorem zaq {f:Nat × XB→Bool}:∀ {l1 l2:XM},l1.all f=true→l2.all f=true→(apX l1 l2).all f=true
 | [],_,_,h=>h
 | p::l,_,h,k=>by
  rw [List.all_cons,Bool.and_eq_true] at h;exact zl h.1 (zaq h.2 k)
structure LkO (c:Nat) (o:Over) (m:XM):Prop where
 h1:lkX m c=some (.row (o.base.map zA) 3 76)
 h2:lkX m (16+c)=some (.row (o.upper.map zr) 3 78)
 h3:lkX m (32+c)=some (.rowP (zt c 3 (lmL o)) 30)
 h4:∀ i (h:i < (lmL o).length),lkX m (16 * (3+i)+c)=some (.row (lmL o)[i] 3 78)
theorem LkO.of {c:Nat} {o:Over} {m:XM} {m':XM} (h:LkO c o m) (e:∀ id,id % 16=c % 16→lkX m' id=lkX m id):LkO c o m' :=
 ⟨(e _ rfl).trans h.h1,(e _ (by omega)).trans h.h2,(e _ (by omega)).trans h.h3,fun i hi=>(e _ (by omega)).trans (h.h4 i hi)⟩
theorem LkO.self {c:Nat} {o:Over} (hc:c < 16):LkO c o (ovM c o):=by
 unfold ovM;refine ⟨?_,?_,?_,fun i hi=>?_⟩
 ·simp only [lkX,Nat.beq_refl]
 ·rw [zf (by omega)]; simp only [lkX,Nat.beq_refl]
 ·rw [zf (by omega),zf (by omega)]; simp only [lkX,Nat.beq_refl]
 ·rw [zf (by omega),zf (by omega),zf (by omega),qG hi]
theorem LkO.cons {c:Nat} {o:Over} {m:XM} {id:Nat} {b:XB} (h:LkO c o m) (hid:id % 16≠c % 16):LkO c o ((id,b)::m) :=
 h.of fun i hi=>zf (by rintro rfl; exact hid hi)
theorem LkO.snap {c:Nat} {o:Over} {m:XM} (h:LkO c o m) {l:List PV} {K:List CV→Prop} (hK:qz m l fun r=>K (z8 o::r)):qz m (ovP c o::l) K:=ziR h.h1 h.h2 h.h3 h.h4 hK
theorem LkO.mmS {c:Nat} {o:Over} {m:XM} (h:LkO c o m):mmS m (ovM c o):=⟨h.h1,h.h2,h.h3,yo h.h4⟩
theorem LkO.inB {c:Nat} {o:Over} {m:XM} (h:LkO c o m):((ovM c o).all fun p=>inBX m p.2)=true :=
 zl rfl (zl rfl (zl (q8 fun i hi=>by rw [h.h4 i hi]; rfl) qT))
theorem zbV {c:Nat} {o:Over} {m:XM} {id:Nat} (h:id % 16≠c % 16):lkX (apX (ovM c o) m) id=lkX m id:=by rw [Z3,YS h]
theorem LkO.ap {c:Nat} {o:Over} {m:XM} (hc:c < 16):LkO c o (apX (ovM c o) m):=by
 have h:=LkO.self (o:=o) hc;refine ⟨?_,?_,?_,fun i hi=>?_⟩<;>rw [Z3]
 ·rw [h.h1]
 ·rw [h.h2]
 ·rw [h.h3]
 ·rw [h.h4 i hi]
theorem LkO.ap2 {c c':Nat} {o o':Over} {m:XM} (h:LkO c o m) (hc:c % 16≠c' % 16):LkO c o (apX (ovM c' o') m) :=
 h.of fun i hi=>zbV (by omega)
structure OvV (c:Nat) (o:Over) (M:XM):Prop where
 e:M=ovM c o
 c16:c < 16
theorem ovV (c:Nat) (o:Over) (hc:c < 16):∃ M,OvV c o M:=⟨_,rfl,hc⟩
theorem OvV.ap {c:Nat} {o:Over} {M m:XM} (h:OvV c o M):LkO c o (apX M m):=by obtain ⟨rfl,hc⟩:=h; exact .ap hc
theorem OvV.self {c:Nat} {o:Over} {M:XM} (h:OvV c o M):LkO c o M:=by obtain ⟨rfl,hc⟩:=h; exact .self hc
theorem OvV.ap2 {c c':Nat} {o o':Over} {M m:XM} (h:OvV c' o' M) (hl:LkO c o m) (hc:c % 16≠c' % 16):LkO c o (apX M m):=by obtain ⟨rfl,_⟩:=h; exact hl.ap2 hc
theorem OvV.skip {c:Nat} {o:Over} {M m:XM} (h:OvV c o M) {id:Nat} (hid:id % 16≠c % 16):lkX (apX M m) id=lkX m id:=by obtain ⟨rfl,_⟩:=h; exact zbV hid
theorem OvV.no {c:Nat} {o:Over} {M:XM} (h:OvV c o M) {id:Nat} (hid:id % 16≠c % 16):lkX M id=none:=by obtain ⟨rfl,_⟩:=h; exact YS hid
theorem OvV.mmS {c:Nat} {o:Over} {M m:XM} (h:OvV c o M) (hl:LkO c o m):mmS m M:=by obtain ⟨rfl,_⟩:=h; exact hl.mmS
theorem OvV.inB {c:Nat} {o:Over} {M m:XM} (h:OvV c o M) (hl:LkO c o m):(M.all fun p=>inBX m p.2)=true:=by obtain ⟨rfl,_⟩:=h; exact hl.inB
abbrev boxO (c:Nat) (o:Over):XB := .box [.own c o.base.length,.own (32+c) o.layers.length,.own (16+c) o.upper.length]
abbrev boxC (o:Over):XB := .box [.c (zD o.base),.c (zT o.layers),.c (zs o.upper)]
theorem LkO.inBox {c:Nat} {o:Over} {m:XM} (h:LkO c o m):inBX m (boxO c o)=true:=zl (by show (lkX m c).isSome=true; rw [h.h1]; rfl) (zl (by show (lkX m (32+c)).isSome=true; rw [h.h3]; rfl) (zl (by show (lkX m (16+c)).isSome=true; rw [h.h2]; rfl) rfl))
theorem OvV.mrg {c:Nat} {o:Over} {M m:XM} (h:OvV c o M):LkO c o (z5 m M) :=
 ⟨by rw [jr,h.self.h1],by rw [jr,h.self.h2],by rw [jr,h.self.h3],fun i hi=>by rw [jr,h.self.h4 i hi]⟩

def zfJ:XC:=(.s (.r [.m1 4 (.i 0)]) (.s (.s (.r [.m1 5 (.i 0)]) (.blk 0 (.loop (.s (.s (.r [.mv 6 5,.mv 7 0,.n1 8 7,.b1 9 .lss 6 8]) (.ce 9 0)) (.s (.blk 1 (.s (.r [.mv 12 0,.mv 13 5,.mv 14 1,.i1 15 4 12 13,.f1 16 0 15,.s1 1 16 14]) (.s (.ic 17 18 1) (.s (.r [.mv 19 0,.mv 20 5,.mv 21 1,.c1 22 52 [21],.i1 23 4 19 20,.f1 24 1 23,.s1 1 24 22]) (.s (.ic 25 26 1) (.s (.r [.mv 27 0,.mv 28 5,.mv 29 1,.i1 30 4 27 28,.f1 31 2 30,.s1 1 31 29]) (.s (.ic 32 33 1) (.s (.r [.mv 34 0,.mv 35 5,.mv 36 1,.i1 37 4 34 35,.f1 38 3 37,.s1 1 38 36]) (.ic 39 40 1))))))))) (.ic 10 11 5)))))) (.s (.r [.mv 41 1,.mv 4 41]) .ret)))
theorem zfK:zn Try.prog [] 32=some (zfJ.ac,[(.t 4)],42):=by kernel_rfl
theorem zgS (W0:World) (k:Int):Fn Try.prog W0 32 [j9 [],CI k] (.c (CI k)) []:=by
 refine fX mixed zfK fun hg=>?_
 refine dr ?_;refine lp (σ:=Unit) (fun _=>[(0,.c (j9 [])),(1,I k),(5,I 0)]) (fun _=>[]) (fun _=>True) (fun _=>0) () trivial ?_ ?_
 ·refine dr ?_;trivial
 intro _ _;refine dr ?_;apply cP<;>intro h1
 ·exact absurd h1 (by simp)
 exact dz
def zfF:XC:=(.s (.r [.m1 4 (.i 0)]) (.s (.s (.r [.m1 5 (.i 0)]) (.blk 0 (.loop (.s (.s (.r [.mv 6 5,.mv 7 0,.n1 8 7,.b1 9 .lss 6 8]) (.ce 9 0)) (.s (.blk 1 (.s (.r [.mv 12 0,.mv 13 5,.mv 14 1,.c1 15 52 [14],.i1 16 7 12 13,.f1 17 0 16,.s1 1 17 15]) (.s (.ic 18 19 1) (.s (.r [.mv 20 0,.mv 21 5,.mv 22 1,.b1 23 .rem 22 (.i 3),.b1 24 .eql 23 (.i 0),.i1 25 7 20 21,.f1 26 1 25,.s1 1 26 24]) (.s (.ic 27 28 1) (.s (.r [.mv 29 0,.mv 30 5,.mv 31 1,.c1 32 52 [31],.i1 33 7 29 30,.f1 34 2 33,.f1 35 0 34,.s1 1 35 32]) (.s (.ic 36 37 1) (.s (.r [.mv 38 0,.mv 39 5,.mv 40 1,.b1 41 .rem 40 (.i 3),.b1 42 .eql 41 (.i 0),.i1 43 7 38 39,.f1 44 2 43,.f1 45 1 44,.s1 1 45 42]) (.s (.ic 46 47 1) (.s (.r [.mv 48 0,.mv 49 5,.mv 50 1,.c1 51 52 [50],.i1 52 7 48 49,.f1 53 2 52,.f1 54 2 53,.s1 1 54 51]) (.s (.ic 55 56 1) (.s (.r [.mv 57 0,.mv 58 5,.mv 59 1,.i1 60 7 57 58,.f1 61 5 60,.s1 1 61 59]) (.s (.ic 62 63 1) (.s (.r [.mv 64 0,.mv 65 5,.mv 66 1,.i1 67 7 64 65,.f1 68 6 67,.s1 1 68 66]) (.ic 69 70 1))))))))))))))) (.ic 10 11 5)))))) (.s (.r [.mv 71 1,.mv 4 71]) .ret)))
theorem zfI:zn Try.prog [] 53=some (zfF.ac,[(.t 4)],72):=by kernel_rfl
theorem zgQ (W0:World) (k:Int):Fn Try.prog W0 53 [j7 [],CI k] (.c (CI k)) []:=by
 refine fX mixed zfI fun hg=>?_
 refine dr ?_;refine lp (σ:=Unit) (fun _=>[(0,.c (j7 [])),(1,I k),(5,I 0)]) (fun _=>[]) (fun _=>True) (fun _=>0) () trivial ?_ ?_
 ·refine dr ?_;trivial
 intro _ _;refine dr ?_;apply cP<;>intro h1
 ·exact absurd h1 (by simp)
 exact dz
def zfL:XC:=(.s (.r [.m1 4 (.i 0)]) (.s (.s (.r [.m1 5 (.i 0)]) (.blk 0 (.loop (.s (.s (.r [.mv 6 5,.mv 7 0,.n1 8 7,.b1 9 .lss 6 8]) (.ce 9 0)) (.s (.blk 1 (.s (.r [.mv 12 0,.mv 13 5,.mv 14 1,.i1 15 9 12 13,.f1 16 0 15,.s1 1 16 14]) (.s (.ic 17 18 1) (.s (.r [.mv 19 0,.mv 20 5,.mv 21 1,.i1 22 9 19 20,.f1 23 1 22,.s1 1 23 21]) (.s (.ic 24 25 1) (.s (.r [.mv 26 0,.mv 27 5,.mv 28 1,.c1 29 52 [28],.i1 30 9 26 27,.f1 31 2 30,.f1 32 0 31,.s1 1 32 29]) (.s (.ic 33 34 1) (.s (.r [.mv 35 0,.mv 36 5,.mv 37 1,.b1 38 .rem 37 (.i 3),.b1 39 .eql 38 (.i 0),.i1 40 9 35 36,.f1 41 2 40,.f1 42 1 41,.s1 1 42 39]) (.s (.ic 43 44 1) (.s (.r [.mv 45 0,.mv 46 5,.mv 47 1,.c1 48 52 [47],.i1 49 9 45 46,.f1 50 2 49,.f1 51 2 50,.f1 52 0 51,.s1 1 52 48]) (.s (.ic 53 54 1) (.s (.r [.mv 55 0,.mv 56 5,.mv 57 1,.b1 58 .rem 57 (.i 3),.b1 59 .eql 58 (.i 0),.i1 60 9 55 56,.f1 61 2 60,.f1 62 2 61,.f1 63 1 62,.s1 1 63 59]) (.s (.ic 64 65 1) (.s (.r [.mv 66 0,.mv 67 5,.mv 68 1,.c1 69 52 [68],.i1 70 9 66 67,.f1 71 2 70,.f1 72 2 71,.f1 73 2 72,.s1 1 73 69]) (.s (.ic 74 75 1) (.s (.r [.mv 76 0,.mv 77 5,.mv 78 1,.i1 79 9 76 77,.f1 80 2 79,.f1 81 5 80,.s1 1 81 78]) (.s (.ic 82 83 1) (.s (.r [.mv 84 0,.mv 85 5,.mv 86 1,.i1 87 9 84 85,.f1 88 2 87,.f1 89 6 88,.s1 1 89 86]) (.ic 90 91 1))))))))))))))))))) (.ic 10 11 5)))))) (.s (.r [.mv 92 1,.mv 4 92]) .ret)))
theorem zfM:zn Try.prog [] 35=some (zfL.ac,[(.t 4)],93):=by kernel_rfl
theorem zgT (W0:World) (k:Int):Fn Try.prog W0 35 [qa [],CI k] (.c (CI k)) []:=by
 refine fX mixed zfM fun hg=>?_
 refine dr ?_;refine lp (σ:=Unit) (fun _=>[(0,.c (qa [])),(1,I k),(5,I 0)]) (fun _=>[]) (fun _=>True) (fun _=>0) () trivial ?_ ?_
 ·refine dr ?_;trivial
 intro _ _;refine dr ?_;apply cP<;>intro h1
 ·exact absurd h1 (by simp)
 exact dz
def zed:XC:=(.s (.r [.m1 4 (.i 0)]) (.s (.s (.r [.m1 5 (.i 0)]) (.blk 0 (.loop (.s (.s (.r [.mv 6 5,.mv 7 0,.n1 8 7,.b1 9 .lss 6 8]) (.ce 9 0)) (.s (.blk 1 (.s (.s (.r [.mv 12 0,.mv 13 5,.i1 14 4 12 13,.f1 15 0 14,.l1 16 1 15,.mv 17 1,.b1 18 .neq 16 17]) (.cnd 18 (.s (.r [.ex 4 (.mv (.k (.c (.sc (.int .i64 (.negSucc 0))))))]) .ret) .skip)) (.s (.ic 19 20 1) (.s (.s (.d [.mv 21 0,.mv 22 5,.i1 23 4 21 22,.f1 24 1 23,.l1 25 1 24,.mv 26 1,.c1 27 52 [26],.b1 28 .neq 25 27]) (.cnd 28 (.s (.r [.ex 4 (.mv (.k (.c (.sc (.int .i64 (.negSucc 0))))))]) .ret) .skip)) (.s (.ic 29 30 1) (.s (.s (.r [.mv 31 0,.mv 32 5,.i1 33 4 31 32,.f1 34 2 33,.l1 35 1 34,.mv 36 1,.b1 37 .neq 35 36]) (.cnd 37 (.s (.r [.ex 4 (.mv (.k (.c (.sc (.int .i64 (.negSucc 0))))))]) .ret) .skip)) (.s (.ic 38 39 1) (.s (.s (.r [.mv 40 0,.mv 41 5,.i1 42 4 40 41,.f1 43 3 42,.l1 44 1 43,.mv 45 1,.b1 46 .neq 44 45]) (.cnd 46 (.s (.r [.ex 4 (.mv (.k (.c (.sc (.int .i64 (.negSucc 0))))))]) .ret) .skip)) (.ic 47 48 1))))))))) (.ic 10 11 5)))))) (.s (.r [.mv 49 1,.mv 4 49]) .ret)))
theorem zee:zn Try.prog [] 37=some (zed.ac,[(.t 4)],50):=by kernel_rfl
theorem zgv (W0:World) (k:Int):Fn Try.prog W0 37 [j9 [],CI k] (.c (CI k)) []:=by
 refine fX mixed zee fun hg=>?_
 refine dr ?_;refine lp (σ:=Unit) (fun _=>[(0,.c (j9 [])),(1,I k),(5,I 0)]) (fun _=>[]) (fun _=>True) (fun _=>0) () trivial ?_ ?_
 ·refine dr ?_;trivial
 intro _ _;refine dr ?_;apply cP<;>intro h1
 ·exact absurd h1 (by simp)
 exact dz
def zd9:XC:=(.s (.r [.m1 4 (.i 0)]) (.s (.s (.r [.m1 5 (.i 0)]) (.blk 0 (.loop (.s (.s (.r [.mv 6 5,.mv 7 0,.n1 8 7,.b1 9 .lss 6 8]) (.ce 9 0)) (.s (.blk 1 (.s (.s (.d [.mv 12 0,.mv 13 5,.i1 14 7 12 13,.f1 15 0 14,.l1 16 1 15,.mv 17 1,.c1 18 52 [17],.b1 19 .neq 16 18]) (.cnd 19 (.s (.r [.ex 4 (.mv (.k (.c (.sc (.int .i64 (.negSucc 0))))))]) .ret) .skip)) (.s (.ic 20 21 1) (.s (.s (.r [.mv 22 0,.mv 23 5,.i1 24 7 22 23,.f1 25 1 24,.l1 26 1 25,.mv 27 1,.b1 28 .rem 27 (.i 3),.b1 29 .eql 28 (.i 0),.ex 30 (.bb true 26 29)]) (.cnd 30 (.s (.r [.ex 4 (.mv (.k (.c (.sc (.int .i64 (.negSucc 0))))))]) .ret) .skip)) (.s (.ic 31 32 1) (.s (.s (.d [.mv 33 0,.mv 34 5,.i1 35 7 33 34,.f1 36 2 35,.f1 37 0 36,.l1 38 1 37,.mv 39 1,.c1 40 52 [39],.b1 41 .neq 38 40]) (.cnd 41 (.s (.r [.ex 4 (.mv (.k (.c (.sc (.int .i64 (.negSucc 0))))))]) .ret) .skip)) (.s (.ic 42 43 1) (.s (.s (.r [.mv 44 0,.mv 45 5,.i1 46 7 44 45,.f1 47 2 46,.f1 48 1 47,.l1 49 1 48,.mv 50 1,.b1 51 .rem 50 (.i 3),.b1 52 .eql 51 (.i 0),.ex 53 (.bb true 49 52)]) (.cnd 53 (.s (.r [.ex 4 (.mv (.k (.c (.sc (.int .i64 (.negSucc 0))))))]) .ret) .skip)) (.s (.ic 54 55 1) (.s (.s (.d [.mv 56 0,.mv 57 5,.i1 58 7 56 57,.f1 59 2 58,.f1 60 2 59,.l1 61 1 60,.mv 62 1,.c1 63 52 [62],.b1 64 .neq 61 63]) (.cnd 64 (.s (.r [.ex 4 (.mv (.k (.c (.sc (.int .i64 (.negSucc 0))))))]) .ret) .skip)) (.s (.ic 65 66 1) (.s (.s (.r [.mv 67 0,.mv 68 5,.i1 69 7 67 68,.f1 70 5 69,.l1 71 1 70,.mv 72 1,.b1 73 .neq 71 72]) (.cnd 73 (.s (.r [.ex 4 (.mv (.k (.c (.sc (.int .i64 (.negSucc 0))))))]) .ret) .skip)) (.s (.ic 74 75 1) (.s (.s (.r [.mv 76 0,.mv 77 5,.i1 78 7 76 77,.f1 79 6 78,.l1 80 1 79,.mv 81 1,.b1 82 .neq 80 81]) (.cnd 82 (.s (.r [.ex 4 (.mv (.k (.c (.sc (.int .i64 (.negSucc 0))))))]) .ret) .skip)) (.ic 83 84 1))))))))))))))) (.ic 10 11 5)))))) (.s (.r [.mv 85 1,.mv 4 85]) .ret)))
theorem zec:zn Try.prog [] 57=some (zd9.ac,[(.t 4)],86):=by kernel_rfl
theorem zgt (W0:World) (k:Int):Fn Try.prog W0 57 [j7 [],CI k] (.c (CI k)) []:=by
 refine fX mixed zec fun hg=>?_
 refine dr ?_;refine lp (σ:=Unit) (fun _=>[(0,.c (j7 [])),(1,I k),(5,I 0)]) (fun _=>[]) (fun _=>True) (fun _=>0) () trivial ?_ ?_
 ·refine dr ?_;trivial
 intro _ _;refine dr ?_;apply cP<;>intro h1
 ·exact absurd h1 (by simp)
 exact dz
def zef:XC:=(.s (.r [.m1 4 (.i 0)]) (.s (.s (.r [.m1 5 (.i 0)]) (.blk 0 (.loop (.s (.s (.r [.mv 6 5,.mv 7 0,.n1 8 7,.b1 9 .lss 6 8]) (.ce 9 0)) (.s (.blk 1 (.s (.s (.r [.mv 12 0,.mv 13 5,.i1 14 9 12 13,.f1 15 0 14,.l1 16 1 15,.mv 17 1,.b1 18 .neq 16 17]) (.cnd 18 (.s (.r [.ex 4 (.mv (.k (.c (.sc (.int .i64 (.negSucc 0))))))]) .ret) .skip)) (.s (.ic 19 20 1) (.s (.s (.r [.mv 21 0,.mv 22 5,.i1 23 9 21 22,.f1 24 1 23,.l1 25 1 24,.mv 26 1,.b1 27 .neq 25 26]) (.cnd 27 (.s (.r [.ex 4 (.mv (.k (.c (.sc (.int .i64 (.negSucc 0))))))]) .ret) .skip)) (.s (.ic 28 29 1) (.s (.s (.d [.mv 30 0,.mv 31 5,.i1 32 9 30 31,.f1 33 2 32,.f1 34 0 33,.l1 35 1 34,.mv 36 1,.c1 37 52 [36],.b1 38 .neq 35 37]) (.cnd 38 (.s (.r [.ex 4 (.mv (.k (.c (.sc (.int .i64 (.negSucc 0))))))]) .ret) .skip)) (.s (.ic 39 40 1) (.s (.s (.r [.mv 41 0,.mv 42 5,.i1 43 9 41 42,.f1 44 2 43,.f1 45 1 44,.l1 46 1 45,.mv 47 1,.b1 48 .rem 47 (.i 3),.b1 49 .eql 48 (.i 0),.ex 50 (.bb true 46 49)]) (.cnd 50 (.s (.r [.ex 4 (.mv (.k (.c (.sc (.int .i64 (.negSucc 0))))))]) .ret) .skip)) (.s (.ic 51 52 1) (.s (.s (.d [.mv 53 0,.mv 54 5,.i1 55 9 53 54,.f1 56 2 55,.f1 57 2 56,.f1 58 0 57,.l1 59 1 58,.mv 60 1,.c1 61 52 [60],.b1 62 .neq 59 61]) (.cnd 62 (.s (.r [.ex 4 (.mv (.k (.c (.sc (.int .i64 (.negSucc 0))))))]) .ret) .skip)) (.s (.ic 63 64 1) (.s (.s (.r [.mv 65 0,.mv 66 5,.i1 67 9 65 66,.f1 68 2 67,.f1 69 2 68,.f1 70 1 69,.l1 71 1 70,.mv 72 1,.b1 73 .rem 72 (.i 3),.b1 74 .eql 73 (.i 0),.ex 75 (.bb true 71 74)]) (.cnd 75 (.s (.r [.ex 4 (.mv (.k (.c (.sc (.int .i64 (.negSucc 0))))))]) .ret) .skip)) (.s (.ic 76 77 1) (.s (.s (.d [.mv 78 0,.mv 79 5,.i1 80 9 78 79,.f1 81 2 80,.f1 82 2 81,.f1 83 2 82,.l1 84 1 83,.mv 85 1,.c1 86 52 [85],.b1 87 .neq 84 86]) (.cnd 87 (.s (.r [.ex 4 (.mv (.k (.c (.sc (.int .i64 (.negSucc 0))))))]) .ret) .skip)) (.s (.ic 88 89 1) (.s (.s (.r [.mv 90 0,.mv 91 5,.i1 92 9 90 91,.f1 93 2 92,.f1 94 5 93,.l1 95 1 94,.mv 96 1,.b1 97 .neq 95 96]) (.cnd 97 (.s (.r [.ex 4 (.mv (.k (.c (.sc (.int .i64 (.negSucc 0))))))]) .ret) .skip)) (.s (.ic 98 99 1) (.s (.s (.r [.mv 100 0,.mv 101 5,.i1 102 9 100 101,.f1 103 2 102,.f1 104 6 103,.l1 105 1 104,.mv 106 1,.b1 107 .neq 105 106]) (.cnd 107 (.s (.r [.ex 4 (.mv (.k (.c (.sc (.int .i64 (.negSucc 0))))))]) .ret) .skip)) (.ic 108 109 1))))))))))))))))))) (.ic 10 11 5)))))) (.s (.r [.mv 110 1,.mv 4 110]) .ret)))
theorem zeg:zn Try.prog [] 40=some (zef.ac,[(.t 4)],111):=by kernel_rfl
theorem zgw (W0:World) (k:Int):Fn Try.prog W0 40 [qa [],CI k] (.c (CI k)) []:=by
 refine fX mixed zeg fun hg=>?_
 refine dr ?_;refine lp (σ:=Unit) (fun _=>[(0,.c (qa [])),(1,I k),(5,I 0)]) (fun _=>[]) (fun _=>True) (fun _=>0) () trivial ?_ ?_
 ·refine dr ?_;trivial
 intro _ _;refine dr ?_;apply cP<;>intro h1
 ·exact absurd h1 (by simp)
 exact dz
def zfG:XC:=(.s (.r [.m1 4 (.i 0)]) (.s (.s (.r [.m1 5 (.i 0)]) (.blk 0 (.loop (.s (.s (.r [.mv 6 5,.mv 7 0,.n1 8 7,.b1 9 .lss 6 8]) (.ce 9 0)) (.s (.blk 1 (.r [.mv 12 0,.mv 13 5,.i1 14 1 12 13,.l1 15 1 14,.mv 16 1,.c1 17 53 [15,16],.mv 1 17])) (.ic 10 11 5)))))) (.s (.r [.mv 18 1,.mv 4 18]) .ret)))
theorem zfH:zn Try.prog [] 33=some (zfG.ac,[(.t 4)],19):=by kernel_rfl
theorem zgR (W0:World) (k:Int) (hk:0≤k):Fn Try.prog W0 33 [j8 [[],[],[]],CI k] (.c (CI k)) []:=by
 refine fX mixed zfH fun hg=>?_
 refine dr ?_;refine lp (σ:=Nat) (fun i=>[(0,.c (j8 [[],[],[]])),(1,I k),(5,I i)]) (fun _=>[]) (fun i=>i≤3) (fun i=>3 - i) 0 (by simp) ?_ ?_
 ·refine dr ?_;trivial
 intro i hi;refine dr ?_;apply cP<;>intro h1
 ·have hi':i < 3:=by simp at h1; omega
  have hat:([[],[],[]]:List (List Hold))[i]=[]:=by
   match i,hi' with
   | 0,_=>rfl
   | 1,_=>rfl
   | 2,_=>rfl
  have q:=zgQ W0 k;rw [← hat] at q;refine dEr ?_;repeat ((first|refine aM (j:=i) rfl (show i < ([[],[],[]]:List (List Hold)).length from hi') ?_|refine c0 q rfl ?_|refine klf (by omega) ?_); first|refine dEr ?_|exact dz)
  refine ⟨i+1,by omega,by omega,?_⟩;refine dr ?_;trivial
 ·exact dz
def zea:XC:=(.s (.r [.m1 4 (.i 0)]) (.s (.s (.r [.m1 5 (.i 0)]) (.blk 0 (.loop (.s (.s (.r [.mv 6 5,.mv 7 0,.n1 8 7,.b1 9 .lss 6 8]) (.ce 9 0)) (.s (.blk 1 (.s (.r [.mv 12 0,.mv 13 5,.i1 14 1 12 13,.l1 15 1 14,.mv 16 1,.c1 17 57 [15,16],.mv 1 17]) (.s (.r [.mv 18 1,.b1 19 .lss 18 (.i 0)]) (.cnd 19 (.s (.r [.ex 4 (.mv (.k (.c (.sc (.int .i64 (.negSucc 0))))))]) .ret) .skip)))) (.ic 10 11 5)))))) (.s (.r [.mv 20 1,.mv 4 20]) .ret)))
theorem zeb:zn Try.prog [] 38=some (zea.ac,[(.t 4)],21):=by kernel_rfl
theorem zgu (W0:World) (k:Int) (hk:0≤k):Fn Try.prog W0 38 [j8 [[],[],[]],CI k] (.c (CI k)) []:=by
 refine fX mixed zeb fun hg=>?_
 refine dr ?_;refine lp (σ:=Nat) (fun i=>[(0,.c (j8 [[],[],[]])),(1,I k),(5,I i)]) (fun _=>[]) (fun i=>i≤3) (fun i=>3 - i) 0 (by simp) ?_ ?_
 ·refine dr ?_;trivial
 intro i hi;refine dr ?_;apply cP<;>intro h1
 ·have hi':i < 3:=by simp at h1; omega
  have hat:([[],[],[]]:List (List Hold))[i]=[]:=by
   match i,hi' with
   | 0,_=>rfl
   | 1,_=>rfl
   | 2,_=>rfl
  have q:=zgt W0 k;rw [← hat] at q;refine dEr ?_;repeat ((first|refine aM (j:=i) rfl (show i < ([[],[],[]]:List (List Hold)).length from hi') ?_|refine c0 q rfl ?_|refine klf (by omega) ?_); first|refine dEr ?_|exact dz)
  refine ⟨i+1,by omega,by omega,?_⟩;refine dr ?_;trivial
 ·exact dz
def ze5:XC:=(.s (.r [.m1 4 (.i 0)]) (.s (.s (.r [.m1 5 (.i 0)]) (.blk 0 (.loop (.s (.s (.r [.mv 6 5,.mv 7 0,.n1 8 7,.b1 9 .lss 6 8]) (.ce 9 0)) (.s (.blk 1 (.s (.r [.mv 12 0,.mv 13 5,.mv 14 1,.i1 15 1 12 13,.s1 1 15 14]) (.ic 16 17 1))) (.ic 10 11 5)))))) (.s (.r [.mv 18 1,.mv 4 18]) .ret)))
theorem ze6:zn Try.prog [] 34=some (ze5.ac,[(.t 4)],19):=by kernel_rfl
theorem zgM (W0:World) (t:List Int) (k:Int) (hk:0≤k∧k≤100000000) (ht:t.length≤1048576):zu Try.prog W0 34 [.own 4 t.length,.c (CI k)] [(4,.row (t.map CI) 1 3)] (fun _:Unit=>True) (fun _ => .c (CI (k+t.length))) (fun _=>[(4,.row ((mkI k t.length).map CI) 1 3)]):=by
 refine fW mixed ze6 fun hg=>?_
 have hml:(mkI k t.length).length=t.length:=zcd;refine dr ?_;refine lp (σ:=Nat) (fun i=>[(0,.own 4 t.length),(1,I (k+i)),(5,I i)]) (fun i=>[(4,.row ((part (mkI k t.length) t i).map CI) 1 3)]) (fun i=>i≤t.length) (fun i=>t.length - i) 0 (by simp) ?_ ?_
 ·refine dr ?_;repeat ((first|refine oB (by simp) ?_|refine oB (by rw [Qk]) ?_); first|refine dr ?_|exact dz)
  trivial
 intro i hi;have hpl:=Jf hml hi;refine dr ?_;apply cP<;>intro h1
 ·have hi':i < t.length:=by omega
  have hat:=Ql hml hi';have h0:((part (mkI k t.length) t i).map CI)[i]? = some (CI t[i]):=by rw [List.getElem?_map,hat]; rfl
  have hl0:((part (mkI k t.length) t i).map CI).length=t.length:=by simpa using hpl
  have hs:((part (mkI k t.length) t i).map CI).set i (CI (k+i))=(part (mkI k t.length) t (i+1)).map CI:=by
   rw [← List.map_set,Qm hml hi' _ (by rw [zcc])]
  refine dEr ?_;repeat ((first|refine oB hl0 ?_|refine aE (j:=i) rfl h0 ?_|refine oB ⟨by omega,by decide,by omega⟩ ?_); first|refine dEr ?_|exact dz)
  refine ⟨i+1,by omega,by omega,?_⟩;refine dr ?_;repeat ((first|refine oB (congrArg I (by omega)) ?_|refine oB (congrArg (fun r=>XB.row r 1 3) hs) ?_); first|refine dr ?_|exact dz)
  trivial
 ·have:i=t.length:=by omega
  subst this;rw [Je hml];refine dr ?_;refine ⟨none,_,_,?_,(),trivial,rfl,rfl⟩;refine dr ?_;trivial
def zeT:XC:=(.s (.r [.m1 4 (.i 0)]) (.s (.s (.r [.m1 5 (.i 0)]) (.blk 0 (.loop (.s (.s (.r [.mv 6 5,.mv 7 0,.n1 8 7,.b1 9 .lss 6 8]) (.ce 9 0)) (.s (.blk 1 (.s (.s (.r [.mv 12 0,.mv 13 5,.i1 14 1 12 13,.l1 15 1 14,.mv 16 1,.b1 17 .neq 15 16]) (.cnd 17 (.s (.r [.ex 4 (.mv (.k (.c (.sc (.int .i64 (.negSucc 0))))))]) .ret) .skip)) (.ic 18 19 1))) (.ic 10 11 5)))))) (.s (.r [.mv 20 1,.mv 4 20]) .ret)))
theorem zeU:zn Try.prog [] 39=some (zeT.ac,[(.t 4)],21):=by kernel_rfl
theorem zgy (W0:World) (k:Int) (n:Nat) (hk:0≤k∧k≤100000000) (hn:n≤1048576):Fn Try.prog W0 39 [qS (mkI k n),CI k] (.c (CI (k+n))) []:=by
 refine fX mixed zeU fun hg=>?_
 have hml:(mkI k n).length=n:=zcd;refine dr ?_;refine lp (σ:=Nat) (fun i=>[(0,.c (qS (mkI k n))),(1,I (k+i)),(5,I i)]) (fun _=>[]) (fun i=>i≤n) (fun i=>n - i) 0 (by simp) ?_ ?_
 ·refine dr ?_;repeat (refine oB (congrArg I (by simp)) ?_; first|refine dr ?_|exact dz)
  trivial
 intro i hi;refine dr ?_;apply cP<;>intro h1
 ·have hi':i < (mkI k n).length:=by omega
  have e1:(mkI k n)[i]=k+i:=zcc hi';refine dEr ?_;repeat ((first|refine aM (j:=i) rfl hi' ?_|refine kin (by rw [e1]) ?_|refine oB ⟨by omega,by decide,by omega⟩ ?_); first|refine dEr ?_|exact dz)
  refine ⟨i+1,by omega,by omega,?_⟩;refine dr ?_;repeat (refine oB (congrArg I (by omega)) ?_; first|refine dr ?_|exact dz)
  trivial
 ·have h1:((mkI k n).length:Int)≤i:=h1;have:i=n:=by omega
  subst this;exact dz

noncomputable def tb (p:Prop):Bool:=@decide p (Classical.propDecidable p)
theorem tb_t {p:Prop} (h:p):tb p=true:=@decide_eq_true p (Classical.propDecidable p) h
theorem tb_f {p:Prop} (h:¬ p):tb p=false:=@decide_eq_false p (Classical.propDecidable p) h
theorem tb_i {p:Prop}:tb p=true↔p:=⟨fun h=>@of_decide_eq_true p (Classical.propDecidable p) h,tb_t⟩
theorem tb_n {p:Prop}:tb p=false↔¬ p:=⟨fun h hp=>(by rw [tb_t hp] at h; cases h),tb_f⟩
instance (p:Prop):BP (tb p) p (¬ p):=⟨tb_i.1,tb_n.1⟩
def noOp:Op:=⟨0,[],[],[]⟩
def newW (o:Over):Wld:=⟨o,0,0,[],[[],[],[]],[0,0,0],[],false,noOp⟩

def zeL:XC:=(.s (.r [.x1 2 0,.x1 3 1,.m1 4 .n]) (.s (.s (.r [.f1 5 0 2,.l1 6 1 5,.f1 7 0 3,.l1 8 1 7,.b1 9 .neq 6 8]) (.cnd 9 (.rf 4) .skip)) (.s (.s (.r [.f1 10 1 2,.l1 11 1 10,.f1 12 1 3,.l1 13 1 12,.b1 14 .neq 11 13]) (.cnd 14 (.rf 4) .skip)) (.s (.s (.r [.f1 15 2 2,.l1 16 1 15,.f1 17 2 3,.l1 18 1 17,.b1 19 .neq 16 18]) (.cnd 19 (.rf 4) .skip)) (.s (.s (.r [.f1 20 3 2,.l1 21 1 20,.f1 22 3 3,.l1 23 1 22,.b1 24 .neq 21 23]) (.cnd 24 (.rf 4) .skip)) (.rt 4))))))
theorem zeM:zn Try.prog [] 25=some (zeL.ac,[(.t 4)],25):=by kernel_rfl
theorem zgr (W0:World) (a b:Op):Fn Try.prog W0 25 [eOp a,eOp b] (.c (CB (decide (a=b)))) []:=by
 refine fX mixed zeM fun hg=>?_
 refine dEr ?_;apply cP<;>intro h0
 ·refine dr ?_;exact dF fun e=>by simp [e] at h0
 refine dEr ?_;apply cP<;>intro h1
 ·refine dr ?_;exact dF fun e=>by simp [e] at h1
 refine dEr ?_;apply cP<;>intro h2
 ·refine dr ?_;exact dF fun e=>by simp [e] at h2
 refine dEr ?_;apply cP<;>intro h3
 ·refine dr ?_;exact dF fun e=>by simp [e] at h3
 refine dr ?_;exact dT (by cases a; cases b; simp_all)
def zex:XC:=(.s (.r [.x1 2 0,.x1 3 1,.m1 4 .n]) (.s (.s (.r [.f1 5 0 2,.l1 6 1 5,.f1 7 0 3,.l1 8 1 7,.b1 9 .neq 6 8]) (.cnd 9 (.rf 4) .skip)) (.s (.s (.r [.f1 10 1 2,.l1 11 1 10,.f1 12 1 3,.l1 13 1 12,.b1 14 .neq 11 13]) (.cnd 14 (.rf 4) .skip)) (.s (.s (.r [.f1 15 2 2,.l1 16 1 15,.f1 17 2 3,.l1 18 1 17,.b1 19 .neq 16 18]) (.cnd 19 (.rf 4) .skip)) (.s (.s (.r [.f1 20 3 2,.l1 21 1 20,.f1 22 3 3,.l1 23 1 22,.b1 24 .neq 21 23]) (.cnd 24 (.rf 4) .skip)) (.rt 4))))))
theorem zeA:zn Try.prog [] 47=some (zex.ac,[(.t 4)],25):=by kernel_rfl
theorem zgo (W0:World) (a b:Lease):Fn Try.prog W0 47 [QW a,QW b] (.c (CB (decide (a=b)))) []:=by
 refine fX mixed zeA fun hg=>?_
 refine dEr ?_;apply cP<;>intro h0
 ·refine dr ?_;exact dF fun e=>by simp [e] at h0
 refine dEr ?_;apply cP<;>intro h1
 ·refine dr ?_;exact dF fun e=>by simp [e] at h1
 refine dEr ?_;apply cP<;>intro h2
 ·refine dr ?_;exact dF fun e=>by simp [e] at h2
 refine dEr ?_;apply cP<;>intro h3
 ·refine dr ?_;exact dF fun e=>by simp [e] at h3
 refine dr ?_;exact dT (by cases a; cases b; simp_all)
def zep:XC:=(.s (.r [.x1 2 0,.x1 3 1,.m1 4 .n]) (.s (.s (.r [.f1 5 0 2,.l1 6 1 5,.f1 7 0 3,.l1 8 1 7,.b1 9 .neq 6 8]) (.cnd 9 (.rf 4) .skip)) (.s (.s (.r [.f1 10 1 2,.l1 11 1 10,.f1 12 1 3,.l1 13 1 12,.ex 14 (.bb true 11 13)]) (.cnd 14 (.rf 4) .skip)) (.s (.s (.r [.f1 15 2 2,.l2 16 3 15,.f1 17 2 3,.l2 18 3 17,.c1 19 50 [16,18],.u1 20 19]) (.cnd 20 (.rf 4) .skip)) (.s (.s (.r [.f1 21 5 2,.l1 22 1 21,.f1 23 5 3,.l1 24 1 23,.b1 25 .neq 22 24]) (.cnd 25 (.rf 4) .skip)) (.s (.s (.r [.f1 26 6 2,.l1 27 1 26,.f1 28 6 3,.l1 29 1 28,.b1 30 .neq 27 29]) (.cnd 30 (.rf 4) .skip)) (.rt 4)))))))
theorem zeu:zn Try.prog [] 58=some (zep.ac,[(.t 4)],31):=by kernel_rfl
theorem JQ (W0:World) (a b:Hold):Fn Try.prog W0 58 [eHold a,eHold b] (.c (CB (decide (a=b)))) []:=by
 refine fX mixed zeu fun hg=>?_
 refine dEr ?_;repeat (refine c0 (Zd W0 a.ent b.ent) rfl ?_; first|refine dEr ?_|exact dz)
 apply cP<;>intro h0
 ·refine dr ?_;exact dF fun e=>by simp [e] at h0
 refine dEr ?_;repeat (refine c0 (Zd W0 a.ent b.ent) rfl ?_; first|refine dEr ?_|exact dz)
 apply cP<;>intro h1
 ·refine dr ?_;exact dF fun e=>by simp [e] at h1
 refine dEr ?_;repeat (refine c0 (Zd W0 a.ent b.ent) rfl ?_; first|refine dEr ?_|exact dz)
 apply cP<;>intro h2
 ·refine dr ?_;exact dF fun e=>by simp [e] at h2
 refine dEr ?_;repeat (refine c0 (Zd W0 a.ent b.ent) rfl ?_; first|refine dEr ?_|exact dz)
 apply cP<;>intro h3
 ·refine dr ?_;exact dF fun e=>by simp [e] at h3
 refine dEr ?_;repeat (refine c0 (Zd W0 a.ent b.ent) rfl ?_; first|refine dEr ?_|exact dz)
 apply cP<;>intro h4
 ·refine dr ?_;exact dF fun e=>by simp [e] at h4
 refine dr ?_;exact dT (by cases a; cases b; simp_all)
def zeH:XC:=(.s (.r [.x1 2 0,.x1 3 1,.m1 4 .n]) (.s (.s (.r [.f1 5 0 2,.l1 6 1 5,.f1 7 0 3,.l1 8 1 7,.b1 9 .neq 6 8]) (.cnd 9 (.rf 4) .skip)) (.s (.s (.r [.f1 10 1 2,.l1 11 1 10,.f1 12 1 3,.l1 13 1 12,.b1 14 .neq 11 13]) (.cnd 14 (.rf 4) .skip)) (.s (.s (.r [.f1 15 2 2,.l2 16 7 15,.f1 17 2 3,.l2 18 7 17,.c1 19 58 [16,18],.u1 20 19]) (.cnd 20 (.rf 4) .skip)) (.rt 4)))))
theorem zeK:zn Try.prog [] 49=some (zeH.ac,[(.t 4)],21):=by kernel_rfl
theorem zgq (W0:World) (a b:Msg):Fn Try.prog W0 49 [eMsg a,eMsg b] (.c (CB (decide (a=b)))) []:=by
 refine fX mixed zeK fun hg=>?_
 refine dEr ?_;repeat (refine c0 (JQ W0 a.hold b.hold) rfl ?_; first|refine dEr ?_|exact dz)
 apply cP<;>intro h0
 ·refine dr ?_;exact dF fun e=>by simp [e] at h0
 refine dEr ?_;repeat (refine c0 (JQ W0 a.hold b.hold) rfl ?_; first|refine dEr ?_|exact dz)
 apply cP<;>intro h1
 ·refine dr ?_;exact dF fun e=>by simp [e] at h1
 refine dEr ?_;repeat (refine c0 (JQ W0 a.hold b.hold) rfl ?_; first|refine dEr ?_|exact dz)
 apply cP<;>intro h2
 ·refine dr ?_;exact dF fun e=>by simp [e] at h2
 refine dr ?_;exact dT (by cases a; cases b; simp_all)
def zey:XC:=(.s (.r [.m1 4 .n]) (.s (.s (.r [.mv 6 0,.n1 7 6,.mv 8 1,.n1 9 8,.b1 10 .neq 7 9]) (.cnd 10 (.rf 4) .skip)) (.s (.s (.r [.m1 5 (.i 0)]) (.blk 0 (.loop (.s (.s (.r [.mv 11 5,.mv 12 0,.n1 13 12,.b1 14 .lss 11 13]) (.ce 14 0)) (.s (.blk 1 (.s (.d [.mv 17 0,.mv 18 5,.i1 19 4 17 18,.l2 20 4 19,.mv 21 1,.mv 22 5,.i1 23 4 21 22,.l2 24 4 23,.c1 25 47 [20,24],.u1 26 25]) (.cnd 26 (.rf 4) .skip))) (.ic 15 16 5)))))) (.rt 4))))
theorem zez:zn Try.prog [] 21=some (zey.ac,[(.t 4)],27):=by kernel_rfl
theorem zgI (W0:World) (a b:List Lease):Fn Try.prog W0 21 [j9 a,j9 b] (.c (CB (decide (a=b)))) []:=by
 refine fX mixed zez fun hg=>?_
 have g1:=qf (hg _ (by simp:j9 a∈_));refine dr ?_;apply cP<;>intro h1
 ·conv=>whnf
  exact dF (yq (by omega))
 conv=>whnf
 refine lp (σ:=Nat) (fun k=>[(0,.c (j9 a)),(1,.c (j9 b)),(5,I k)]) (fun _=>[]) (fun k=>k≤a.length∧a.take k=b.take k) (fun k=>a.length - k) 0 ⟨by simp,by simp⟩ ?_ ?_
 ·refine dr ?_;trivial
 rintro k ⟨hk,he⟩;refine dr ?_;apply cP<;>intro h2
 ·refine dr ?_;repeat (refine c0 (zgo W0 _ _) rfl ?_; first|refine dr ?_|exact dz)
  apply cP<;>intro h3;rotate_left
  ·refine dr ?_;refine ⟨k+1,⟨by omega,yB (by omega) (by omega) he (by simpa using h3)⟩,by omega,?_⟩;refine dr ?_;trivial
  ·conv=>whnf
   exact dF (yp (k:=k) (by omega) (by omega) (by simpa using h3))
 ·refine dr ?_;have:k=a.length:=by omega
  subst this;exact dT (yg (by omega) he)
def zeq:XC:=(.s (.r [.m1 4 .n]) (.s (.s (.r [.mv 6 0,.n1 7 6,.mv 8 1,.n1 9 8,.b1 10 .neq 7 9]) (.cnd 10 (.rf 4) .skip)) (.s (.s (.r [.m1 5 (.i 0)]) (.blk 0 (.loop (.s (.s (.r [.mv 11 5,.mv 12 0,.n1 13 12,.b1 14 .lss 11 13]) (.ce 14 0)) (.s (.blk 1 (.s (.d [.mv 17 0,.mv 18 5,.i1 19 7 17 18,.l2 20 7 19,.mv 21 1,.mv 22 5,.i1 23 7 21 22,.l2 24 7 23,.c1 25 58 [20,24],.u1 26 25]) (.cnd 26 (.rf 4) .skip))) (.ic 15 16 5)))))) (.rt 4))))
theorem zet:zn Try.prog [] 48=some (zeq.ac,[(.t 4)],27):=by kernel_rfl
theorem zgF (W0:World) (a b:List Hold):Fn Try.prog W0 48 [j7 a,j7 b] (.c (CB (decide (a=b)))) []:=by
 refine fX mixed zet fun hg=>?_
 have g1:=qf (hg _ (by simp:j7 a∈_));refine dr ?_;apply cP<;>intro h1
 ·conv=>whnf
  exact dF (yq (by omega))
 conv=>whnf
 refine lp (σ:=Nat) (fun k=>[(0,.c (j7 a)),(1,.c (j7 b)),(5,I k)]) (fun _=>[]) (fun k=>k≤a.length∧a.take k=b.take k) (fun k=>a.length - k) 0 ⟨by simp,by simp⟩ ?_ ?_
 ·refine dr ?_;trivial
 rintro k ⟨hk,he⟩;refine dr ?_;apply cP<;>intro h2
 ·refine dr ?_;repeat (refine c0 (JQ W0 _ _) rfl ?_; first|refine dr ?_|exact dz)
  apply cP<;>intro h3;rotate_left
  ·refine dr ?_;refine ⟨k+1,⟨by omega,yB (by omega) (by omega) he (by simpa using h3)⟩,by omega,?_⟩;refine dr ?_;trivial
  ·conv=>whnf
   exact dF (yp (k:=k) (by omega) (by omega) (by simpa using h3))
 ·refine dr ?_;have:k=a.length:=by omega
  subst this;exact dT (yg (by omega) he)
def zeI:XC:=(.s (.r [.m1 4 .n]) (.s (.s (.r [.mv 6 0,.n1 7 6,.mv 8 1,.n1 9 8,.b1 10 .neq 7 9]) (.cnd 10 (.rf 4) .skip)) (.s (.s (.r [.m1 5 (.i 0)]) (.blk 0 (.loop (.s (.s (.r [.mv 11 5,.mv 12 0,.n1 13 12,.b1 14 .lss 11 13]) (.ce 14 0)) (.s (.blk 1 (.s (.d [.mv 17 0,.mv 18 5,.i1 19 9 17 18,.l2 20 9 19,.mv 21 1,.mv 22 5,.i1 23 9 21 22,.l2 24 9 23,.c1 25 49 [20,24],.u1 26 25]) (.cnd 26 (.rf 4) .skip))) (.ic 15 16 5)))))) (.rt 4))))
theorem zeJ:zn Try.prog [] 24=some (zeI.ac,[(.t 4)],27):=by kernel_rfl
theorem zgK (W0:World) (a b:List Msg):Fn Try.prog W0 24 [qa a,qa b] (.c (CB (decide (a=b)))) []:=by
 refine fX mixed zeJ fun hg=>?_
 have g1:=qf (hg _ (by simp:qa a∈_));refine dr ?_;apply cP<;>intro h1
 ·conv=>whnf
  exact dF (yq (by omega))
 conv=>whnf
 refine lp (σ:=Nat) (fun k=>[(0,.c (qa a)),(1,.c (qa b)),(5,I k)]) (fun _=>[]) (fun k=>k≤a.length∧a.take k=b.take k) (fun k=>a.length - k) 0 ⟨by simp,by simp⟩ ?_ ?_
 ·refine dr ?_;trivial
 rintro k ⟨hk,he⟩;refine dr ?_;apply cP<;>intro h2
 ·refine dr ?_;repeat (refine c0 (zgq W0 _ _) rfl ?_; first|refine dr ?_|exact dz)
  apply cP<;>intro h3;rotate_left
  ·refine dr ?_;refine ⟨k+1,⟨by omega,yB (by omega) (by omega) he (by simpa using h3)⟩,by omega,?_⟩;refine dr ?_;trivial
  ·conv=>whnf
   exact dF (yp (k:=k) (by omega) (by omega) (by simpa using h3))
 ·refine dr ?_;have:k=a.length:=by omega
  subst this;exact dT (yg (by omega) he)
def zer:XC:=(.s (.r [.m1 4 .n]) (.s (.s (.r [.mv 6 0,.n1 7 6,.mv 8 1,.n1 9 8,.b1 10 .neq 7 9]) (.cnd 10 (.rf 4) .skip)) (.s (.s (.r [.m1 5 (.i 0)]) (.blk 0 (.loop (.s (.s (.r [.mv 11 5,.mv 12 0,.n1 13 12,.b1 14 .lss 11 13]) (.ce 14 0)) (.s (.blk 1 (.s (.d [.mv 17 0,.mv 18 5,.i1 19 1 17 18,.l1 20 1 19,.mv 21 1,.mv 22 5,.i1 23 1 21 22,.l1 24 1 23,.c1 25 48 [20,24],.u1 26 25]) (.cnd 26 (.rf 4) .skip))) (.ic 15 16 5)))))) (.rt 4))))
theorem zes:zn Try.prog [] 22=some (zer.ac,[(.t 4)],27):=by kernel_rfl
theorem zgG (W0:World) (a b:List (List Hold)):Fn Try.prog W0 22 [j8 a,j8 b] (.c (CB (decide (a=b)))) []:=by
 refine fX mixed zes fun hg=>?_
 have g1:=qf (hg _ (by simp:j8 a∈_));refine dr ?_;apply cP<;>intro h1
 ·conv=>whnf
  exact dF (yq (by omega))
 conv=>whnf
 refine lp (σ:=Nat) (fun k=>[(0,.c (j8 a)),(1,.c (j8 b)),(5,I k)]) (fun _=>[]) (fun k=>k≤a.length∧a.take k=b.take k) (fun k=>a.length - k) 0 ⟨by simp,by simp⟩ ?_ ?_
 ·refine dr ?_;trivial
 rintro k ⟨hk,he⟩;refine dr ?_;apply cP<;>intro h2
 ·refine dr ?_;repeat (refine c0 (zgF W0 _ _) rfl ?_; first|refine dr ?_|exact dz)
  apply cP<;>intro h3;rotate_left
  ·refine dr ?_;refine ⟨k+1,⟨by omega,yB (by omega) (by omega) he (by simpa using h3)⟩,by omega,?_⟩;refine dr ?_;trivial
  ·conv=>whnf
   exact dF (yp (k:=k) (by omega) (by omega) (by simpa using h3))
 ·refine dr ?_;have:k=a.length:=by omega
  subst this;exact dT (yg (by omega) he)
def zev:XC:=(.s (.r [.m1 4 .n]) (.s (.s (.r [.mv 6 0,.n1 7 6,.mv 8 1,.n1 9 8,.b1 10 .neq 7 9]) (.cnd 10 (.rf 4) .skip)) (.s (.s (.r [.m1 5 (.i 0)]) (.blk 0 (.loop (.s (.s (.r [.mv 11 5,.mv 12 0,.n1 13 12,.b1 14 .lss 11 13]) (.ce 14 0)) (.s (.blk 1 (.s (.d [.mv 17 0,.mv 18 5,.i1 19 1 17 18,.l1 20 1 19,.mv 21 1,.mv 22 5,.i1 23 1 21 22,.l1 24 1 23,.b1 25 .neq 20 24]) (.cnd 25 (.rf 4) .skip))) (.ic 15 16 5)))))) (.rt 4))))
theorem zew:zn Try.prog [] 23=some (zev.ac,[(.t 4)],26):=by kernel_rfl
theorem zgH (W0:World) (a b:List Int):Fn Try.prog W0 23 [qS a,qS b] (.c (CB (decide (a=b)))) []:=by
 refine fX mixed zew fun hg=>?_
 have g1:=qf (hg _ (by simp:qS a∈_));refine dr ?_;apply cP<;>intro h1
 ·conv=>whnf
  exact dF (yq (by omega))
 conv=>whnf
 refine lp (σ:=Nat) (fun k=>[(0,.c (qS a)),(1,.c (qS b)),(5,I k)]) (fun _=>[]) (fun k=>k≤a.length∧a.take k=b.take k) (fun k=>a.length - k) 0 ⟨by simp,by simp⟩ ?_ ?_
 ·refine dr ?_;trivial
 rintro k ⟨hk,he⟩;refine dr ?_;apply cP<;>intro h2
 ·refine dr ?_;apply cP<;>intro h3;rotate_left
  ·refine dr ?_;refine ⟨k+1,⟨by omega,yB (by omega) (by omega) he h3⟩,by omega,?_⟩;refine dr ?_;trivial
  ·conv=>whnf
   exact dF (yp (k:=k) (by omega) (by omega) h3)
 ·refine dr ?_;have:k=a.length:=by omega
  subst this;exact dT (yg (by omega) he)
def zeP:XC:=(.s (.r [.x1 2 0,.x1 3 1,.m1 4 .n]) (.s (.s (.r [.f1 5 0 2,.l2 6 3 5,.f1 7 0 3,.l2 8 3 7,.c1 9 9 [6,8],.u1 10 9]) (.cnd 10 (.rf 4) .skip)) (.s (.s (.r [.f1 11 3 2,.l1 12 1 11,.f1 13 3 3,.l1 14 1 13,.b1 15 .neq 12 14]) (.cnd 15 (.rf 4) .skip)) (.s (.s (.r [.f1 16 4 2,.l1 17 1 16,.f1 18 4 3,.l1 19 1 18,.b1 20 .neq 17 19]) (.cnd 20 (.rf 4) .skip)) (.s (.s (.r [.f1 21 5 2,.l1 22 1 21,.f1 23 5 3,.l1 24 1 23,.c1 25 21 [22,24],.u1 26 25]) (.cnd 26 (.rf 4) .skip)) (.s (.s (.r [.f1 27 6 2,.l1 28 1 27,.f1 29 6 3,.l1 30 1 29,.c1 31 22 [28,30],.u1 32 31]) (.cnd 32 (.rf 4) .skip)) (.s (.s (.r [.f1 33 7 2,.l1 34 1 33,.f1 35 7 3,.l1 36 1 35,.c1 37 23 [34,36],.u1 38 37]) (.cnd 38 (.rf 4) .skip)) (.s (.s (.r [.f1 39 8 2,.l1 40 1 39,.f1 41 8 3,.l1 42 1 41,.c1 43 24 [40,42],.u1 44 43]) (.cnd 44 (.rf 4) .skip)) (.s (.s (.r [.f1 45 9 2,.l1 46 1 45,.f1 47 9 3,.l1 48 1 47,.ex 49 (.bb true 46 48)]) (.cnd 49 (.rf 4) .skip)) (.s (.s (.r [.f1 50 10 2,.l2 51 4 50,.f1 52 10 3,.l2 53 4 52,.c1 54 25 [51,53],.u1 55 54]) (.cnd 55 (.rf 4) .skip)) (.rt 4)))))))))))
theorem zeQ:zn Try.prog [] 8=some (zeP.ac,[(.t 4)],56):=by kernel_rfl
theorem zgs (W0:World) (a b:Wld):Fn Try.prog W0 8 [eWld a,eWld b] (.c (CB (decide (a=b)))) []:=by
 refine fX mixed zeQ fun hg=>?_
 refine dEr ?_;repeat (refine c0 (za4 W0 a.over b.over) rfl ?_; first|refine dEr ?_|exact dz)
 apply cP<;>intro h0
 ·refine dr ?_;exact dF fun e=>by simp [e] at h0
 refine dEr ?_;apply cP<;>intro h1
 ·refine dr ?_;exact dF fun e=>by simp [e] at h1
 refine dEr ?_;apply cP<;>intro h2
 ·refine dr ?_;exact dF fun e=>by simp [e] at h2
 refine dEr ?_;repeat (refine c0 (zgI W0 a.leases b.leases) rfl ?_; first|refine dEr ?_|exact dz)
 apply cP<;>intro h3
 ·refine dr ?_;exact dF fun e=>by simp [e] at h3
 refine dEr ?_;repeat (refine c0 (zgG W0 a.holds b.holds) rfl ?_; first|refine dEr ?_|exact dz)
 apply cP<;>intro h4
 ·refine dr ?_;exact dF fun e=>by simp [e] at h4
 refine dEr ?_;repeat (refine c0 (zgH W0 a.floors b.floors) rfl ?_; first|refine dEr ?_|exact dz)
 apply cP<;>intro h5
 ·refine dr ?_;exact dF fun e=>by simp [e] at h5
 refine dEr ?_;repeat (refine c0 (zgK W0 a.net b.net) rfl ?_; first|refine dEr ?_|exact dz)
 apply cP<;>intro h6
 ·refine dr ?_;exact dF fun e=>by simp [e] at h6
 refine dEr ?_;apply cP<;>intro h7
 ·refine dr ?_;exact dF fun e=>by simp [e] at h7
 refine dEr ?_;repeat (refine c0 (zgr W0 a.op b.op) rfl ?_; first|refine dEr ?_|exact dz)
 apply cP<;>intro h8
 ·refine dr ?_;exact dF fun e=>by simp [e] at h8
 refine dr ?_;exact dT (by cases a; cases b; simp_all)
end Go.Proofs.Ytmkmldepkponaaa
