/- The texts Ka4, Am1, Pa1, Pa2, Pa3, Qa1, Qa2, Qa3, Qa4, Qa5, Qa6, Pa4, Bm1, Pb1, Pb2, Pb3, Pb8, Pb9, Pb4, Bm2, Pb5, Pb6, Pb7, joined; no condition. -/
import Derived.Test.YtmkmldepkponaaaGreatDoorWfB
import Derived.Test.YtmkmldepkponaaaGreatDoorProg

namespace Go.Proofs.YtmkmldepkponaaaGreatDoor
set_option linter.unusedSimpArgs false
set_option linter.unusedVariables false
open Go Go.RowKit
theorem z7.sub {W0:World} {k0:List Nat} {F F2:Fr} {m m2:Mem} {K:Fr→Mem→Prop} (hF:∀ t x,lk F2 t=some x→lk F t=some x)
  (hm:∀ id b,lk m2 id=some b→lk m id=some b) (hk:∀ id,k0.contains id=true→(lk m2 id).isSome=true)
  (h1:ZH m2=true) (h2:∀ t x,lk F2 t=some x→inP m2 x=true) (hK:K F2 m2):z7 W0 k0 F m K:=by
 intro w0 κ0 m0 N κ act w hk0 hr;have hmw:=hr.mw;have live:∀ b,zf κ m2 b→zf κ m b:=fun b hb=>hb.imp id (Qx hm rfl)
 have some_m:∀ id,(lk m2 id).isSome=true→(lk m id).isSome=true:=fun id h=>by
  obtain ⟨x,hx⟩:=Option.isSome_iff_exists.1 h;rw [hm id x hx]; rfl
 have same:∀ id,(lk m0 id).isSome=true→lk m2 id=lk m id:=fun id h=>by
  obtain ⟨x,hx⟩:=Option.isSome_iff_exists.1 (hk id (hk0 id h));rw [hx,hm id x hx]
 refine ⟨κ,F2,m2,⟨⟨hmw.mem.down hm rfl live hmw.mem.sb (fun id b hi hb=>hmw.mem.sd id b (some_m id hi) hb) h1,fun b hb=>hmw.low b (live b hb),⟨fun id cs hb=>?_,fun id L sz e hb=>?_,fun b o v hl hc=>?_⟩,hmw.ext,fun id b hi hb=>hmw.new id b (some_m id hi) hb,hmw.hS⟩,hr.start,hr.low0,hr.s0,hr.size,hr.defers,fun t x hx=>?_⟩,hK⟩
 ·rw [same id (by rw [hb]; rfl)]; exact hmw.pres.box id cs hb
 ·rw [same id (by rw [hb]; rfl)];obtain ⟨L',g1,g2,g3,g4⟩:=hmw.pres.row id L sz e hb;exact ⟨L',g1,g2,g3,fun k C hne hC=>(g4 k C hne hC).imp (fun h=>h) fun ⟨e1,e2⟩=>⟨e1,fun hh v hv=>(e2 hh v hv).mono fun b _ _ hb hc=>⟨fun hq=>hb (live b hq),hc⟩⟩⟩
 ·obtain ⟨g1,g2⟩:=hmw.pres.cell b o v hl hc;exact ⟨fun hh=>g1 (live b hh),g2⟩
 ·obtain ⟨q1,q2⟩:=hr.tmps t x (hF t x hx);exact ⟨q1,Rep.down hm rfl live (h2 t x hx) q2⟩
theorem zaE {m:XM} {id:Nat} {b:Blk} (h:lk (er m) id=some b):∃ x,lkX m id=some x∧b=x.er:=by
 rw [zL,Option.map_eq_some_iff] at h;obtain ⟨x,h1,h2⟩:=h;exact ⟨x,h1,h2.symm⟩
theorem zcR {m m2:XM} (h:∀ id b,lkX m2 id=some b→lkX m id=some b):∀ id b,lk (er m2) id=some b→lk (er m) id=some b:=fun id b hb=>by
 obtain ⟨x,h1,rfl⟩:=zaE hb;rw [zL,h id x h1]; rfl
theorem zx.sub {k0:List Nat} {A F2:Fr} {m m2:XM} (hF:∀ t x,lkX F2 t=some x→lkX A t=some x) (hm:∀ id b,lkX m2 id=some b→lkX m id=some b)
  (hk:∀ id,k0.contains id=true→(lkX m2 id).isSome=true) (h1:inMX m2=true) (h2:∀ p∈F2,inPX m2 p.2=true):zx k0 A m F2 m2:=fun W0 F K hA hK=>by
 refine z7.sub (fun t x hx=>by rw [← hA t,← qw]; exact hF t x (by rw [qw]; exact hx)) (zcR hm) (fun id h=>?_) (Qi h1) (fun t x hx=>?_) hK
 ·obtain ⟨x,hx⟩:=Option.isSome_iff_exists.1 (hk id h);rw [zL,hx]; rfl
 ·rw [← Jq];have key:∀ (G:Fr) (t:Nat) (x:PV),lk G t=some x→(t,x)∈G:=by
   intro G t x;induction G with
   | nil=>simp [lk]
   | cons p G ih =>
    obtain ⟨k,u⟩:=p;rw [zr];split
    ·rename_i h; subst h; intro hh; cases hh; simp
    ·intro hh; exact List.mem_cons_of_mem _ (ih hh)
  exact h2 _ (key F2 t x hx)
def rle1:CV→Bool
 | .sc _=>true
 | .row []=>true
 | _=>false
def rleA:CV→Bool
 | .agg cs=>cs.all rle1
 | x=>rle1 x
def rleP:CV→Bool
 | .tup cs=>cs.all rleA
 | x=>rleA x
theorem YV {w:World} {S S':Nat→Prop} {x:CV} {v:Value} (hx:rle1 x=true) (h:RepC w S x v):RepC w S' x v:=by
 cases h with
 | sc hv=>exact .sc hv
 | nil hc=>exact .nil hc
 | @row L b off cap sz vs hne =>
  cases L with
  | nil=>exact absurd rfl hne
  | cons=>simp [rle1] at hx
 | _=>simp [rle1] at hx
theorem QA {w:World} {S S':Nat→Prop} {x:CV} {v:Value} (hx:rleA x=true) (h:RepC w S x v):RepC w S' x v:=by
 cases x with
 | agg cs =>
  cases h with
  | agg hl h1 h2=>exact .agg hl (fun i x v hx' hv=>YV (List.all_eq_true.1 hx x (List.mem_of_getElem? hx')) (h1 i x v hx' hv)) h2
 | sc v=>exact YV (x := .sc v) hx h
 | row L=>exact YV (x := .row L) hx h
 | tup cs=>simp [rleA,rle1] at hx
theorem zng {w:World} {S S':Nat→Prop} {x:CV} {v:Value} (hx:rleP x=true) (h:RepC w S x v):RepC w S' x v:=by
 cases x with
 | tup cs =>
  cases h with
  | tup hl h1=>exact .tup hl fun i x v hx' hv=>QA (List.all_eq_true.1 hx x (List.mem_of_getElem? hx')) (h1 i x v hx' hv)
 | sc v=>exact QA (x := .sc v) hx h
 | row L=>exact QA (x := .row L) hx h
 | agg cs=>exact QA (x := .agg cs) hx h
def rl1O:PV→Bool
 | .c x=>rle1 x
 | .nil | .np | .ptr .. | .own ..=>true
 | _=>false
def rlAO:PV→Bool
 | .agg cs=>cs.all rl1O
 | .c x=>rleA x
 | x=>rl1O x
def rlPO:PV→Bool
 | .tup cs=>cs.all rlAO
 | .c x=>rleP x
 | x=>rlAO x
def rlBO:Blk→Bool
 | .box cs=>cs.all rl1O
 | .row L _ _=>(L.flatMap PV.cells).all rl1O
section
variable {κ' κ'':Kap} {m' m'':Mem} {w:World}
theorem zb.fresh (hlk:∀ id b,lk m' id=some b→lk m'' id=some b∧κ'' id=κ' id) (hg:∀ id L sz e,lk m' id=some (.row L sz e)→∀ C,L≠zI sz C) {x:PV} {v:Value}
  (hx:rl1O x=true) (h:zb κ' m' w x v):zb κ'' m'' w x v:=by
 cases x with
 | c x =>
  cases x with
  | agg=>exact h.elim
  | tup=>exact h.elim
  | sc u=>cases h with | sc hv=>exact RepC.sc hv
  | row L=>exact YV (x := .row L) hx h
 | nil=>exact h
 | np=>exact h
 | ptr id off =>
  obtain ⟨b,cs,h1,h2,h3⟩:=h;obtain ⟨g1,g2⟩:=hlk _ _ h1;exact ⟨b,cs,g1,g2.trans h2,h3⟩
 | own id n =>
  obtain ⟨hs,hn,L,sz,e,h1,h2,h3,_⟩:=h;obtain ⟨g1,g2⟩:=hlk _ _ h1;exact ⟨hs,hn,L,sz,e,g1,h2,fun hl=>by have:=h3 hl; unfold zX at *; rw [g2]; exact this,fun _ C _ hC _=>absurd hC (hg _ _ _ _ h1 C)⟩
 | ep x off=>simp [rl1O] at hx
 | eo id n i off=>simp [rl1O] at hx
 | sl id n i off=>simp [rl1O] at hx
 | fn g ids=>simp [rl1O] at hx
 | agg=>exact h.elim
 | tup=>exact h.elim
theorem JP {f:PV→Bool} {R R':PV→Value→Prop}:∀ {cs:List PV} {vs:List Value},(∀ x v,f x=true→R x v→R' x v)→cs.all f=true→za R cs vs→za R' cs vs
 | [],[],_,_,_=>trivial
 | x::cs,v::vs,hi,hf,h=>by
  simp only [List.all_cons,Bool.and_eq_true] at hf;exact ⟨hi _ _ hf.1 h.1,JP hi hf.2 h.2⟩
 | [],_::_,_,_,h=>h.elim
 | _::_,[],_,_,h=>h.elim
theorem zg.fresh (hlk:∀ id b,lk m' id=some b→lk m'' id=some b∧κ'' id=κ' id) (hg:∀ id L sz e,lk m' id=some (.row L sz e)→∀ C,L≠zI sz C) {x:PV} {v:Value}
  (hx:rlAO x=true) (h:zg κ' m' w x v):zg κ'' m'' w x v:=by
 cases x with
 | agg cs =>
  obtain ⟨vs,h1,h2⟩:=h;exact ⟨vs,h1,JP (fun _ _ hx=>zb.fresh hlk hg hx) hx h2⟩
 | c x =>
  cases x with
  | agg cs=>exact QA (x := .agg cs) hx h
  | sc u=>exact zb.fresh (x := .c (.sc u)) hlk hg hx h
  | row u=>exact zb.fresh (x := .c (.row u)) hlk hg hx h
  | tup u=>exact h.elim
 | nil=>exact h
 | np=>exact h
 | ptr a b=>exact zb.fresh (w:=w) (x := .ptr a b) hlk hg hx h
 | own a b=>exact zb.fresh (w:=w) (x := .own a b) hlk hg hx h
 | ep a b=>simp [rlAO,rl1O] at hx
 | eo a b c d=>simp [rlAO,rl1O] at hx
 | sl a b c d=>simp [rlAO,rl1O] at hx
 | fn a b=>simp [rlAO,rl1O] at hx
 | tup a=>exact h.elim
theorem Rep.fresh (hlk:∀ id b,lk m' id=some b→lk m'' id=some b∧κ'' id=κ' id) (hg:∀ id L sz e,lk m' id=some (.row L sz e)→∀ C,L≠zI sz C) {x:PV} {v:Value}
  (hx:rlPO x=true) (h:Rep κ' m' w x v):Rep κ'' m'' w x v:=by
 cases x with
 | tup cs =>
  obtain ⟨vs,h1,h2⟩:=h;exact ⟨vs,h1,JP (fun _ _ hx=>zg.fresh hlk hg hx) hx h2⟩
 | c x =>
  cases x with
  | tup cs=>exact zng (x := .tup cs) hx h
  | sc u=>exact zg.fresh (x := .c (.sc u)) hlk hg hx h
  | row u=>exact zg.fresh (x := .c (.row u)) hlk hg hx h
  | agg u=>exact zg.fresh (x := .c (.agg u)) hlk hg hx h
 | nil=>exact h
 | np=>exact h
 | ptr a b=>exact zg.fresh (w:=w) (x := .ptr a b) hlk hg hx h
 | own a b=>exact zg.fresh (w:=w) (x := .own a b) hlk hg hx h
 | ep a b=>simp [rlPO,rlAO,rl1O] at hx
 | eo a b c d=>simp [rlPO,rlAO,rl1O] at hx
 | sl a b c d=>simp [rlPO,rlAO,rl1O] at hx
 | fn a b=>simp [rlPO,rlAO,rl1O] at hx
 | agg a=>exact zg.fresh (x := .agg a) hlk hg hx h
theorem jK.fresh (hlk:∀ id b,lk m' id=some b→lk m'' id=some b∧κ'' id=κ' id) (hg:∀ id L sz e,lk m' id=some (.row L sz e)→∀ C,L≠zI sz C) {id:Nat} {b:Blk}
  (hid:lk m' id=some b) (hx:rlBO b=true) (h:jK κ' m' w id b):jK κ'' m'' w id b:=by
 have hk:=(hlk id b hid).2;cases b with
 | box cs =>
  obtain ⟨g,vs,e,h1,h2,h3⟩:=h;exact ⟨g,vs,e,hk.trans h1,h2,JP (fun _ _ hx=>zb.fresh hlk hg hx) hx h3⟩
 | row L sz e =>
  obtain ⟨h0,h00,h⟩:=h;refine ⟨h0,h00,?_⟩;rcases h with ⟨h1,h2⟩ | ⟨g,vs,rest,h1,h2,h3⟩
  ·exact .inl ⟨hk.trans h1,h2⟩
  ·exact .inr ⟨g,vs,rest,hk.trans h1,h2,JP (fun _ _ hx=>zb.fresh hlk hg hx) hx h3⟩
end
theorem zmu {κ:Kap} {m:Mem} {w:World} (hm:MemOk κ m w) {id:Nat} {L:List PV} {sz:Nat} {e:TypeId} (hb:lk m id=some (.row L sz e)) (hr:rlBO (.row L sz e)=true) (C:List CV):L≠zI sz C:=by
 rintro rfl;have h0:0 < sz:=(hm.blk id _ hb).2.1;have hd:yt sz∈zI sz C:=by
  unfold zI ZD;exact List.mem_append_right _ (List.mem_replicate.2 ⟨by omega,rfl⟩)
 have hc:PV.tup []∈(zI sz C).flatMap PV.cells:=by
  refine List.mem_flatMap.2 ⟨_,hd,?_⟩;cases sz with
  | zero=>omega
  | succ n=>exact List.mem_replicate.2 ⟨by omega,rfl⟩
 have:=List.all_eq_true.1 hr _ hc;simp [rl1O] at this
theorem zfC {κ:Kap} {m:Mem} {w:World} {S:Nat→Prop} (hm:MemOk κ m w) (hS:∀ b,S b→zf κ m b) (hSo:∀ id b,(lk m id).isSome=true→κ id=some b→¬ S b):∀ {cs:List PV} {l:List CV} {vs:List Value},
  jJ m cs=some l→za (Rep κ m w) cs vs→za (RepC w S) l vs
 | [],l,vs,h,hv=>by
  simp only [jJ] at h; cases h;cases vs with
  | nil=>trivial
  | cons=>exact hv.elim
 | x::L,C,vs,h,hv=>by
  simp only [jJ] at h;split at h
  ·rename_i y k hy hk;cases h;cases vs with
   | nil=>exact hv.elim
   | cons v vs=>exact ⟨Y1 hm hS hSo (fun _ _ h=>h) hy hv.1,zfC hm hS hSo hk hv.2⟩
  ·cases h
theorem FunC.fresh {P:Program} {W0:World} {f:FuncId} {cs:List CV} {args:List PV} {m m2:Mem} {Φ:PV→Mem→Prop} (h:FunC P W0 f (cs.map .c) [] Φ)
  (hs:jJ m args=some cs) (hm2:∀ id,lk m2 id=lk m id)
  (hΦ:∀ r m',Φ r m'→rlPO r=true∧(∀ id b,lk m' id=some b→rlBO b=true)∧∀ id,(lk m' id).isSome=true→lk m id=none) :
  FunC P W0 f args m (fun r m''=>∃ m',Φ r m'∧m''=m'++m2):=by
 intro κ w vs hB hm hr;have hmm:=hm.mem;have hno:∀ b,¬ zf (⟨fun _=>none,fun _=>False⟩:Kap) [] b:=by
  rintro b (h | ⟨id,h,_⟩)
  ·exact h
  ·simp [lk] at h
 have hargs:=zfC (S:=fun _=>False) hmm (fun _ h=>h.elim) (fun _ _ _ _ h=>h) hs hr;have hst:MW W0 w ⟨fun _=>none,fun _=>False⟩ [] ⟨fun _=>none,fun _=>False⟩ [] w :=
  MW.start ⟨fun id b hb=>by simp [lk] at hb,fun i j b hi=>by simp [lk] at hi,fun b hb=>hb.elim,fun id b hi=>by simp [lk] at hi⟩ fun b hb=>(hno b hb).elim
 refine (h _ w vs hB hst ?_).mono ?_
 ·refine za.map_left (f:=PV.c) (hargs.imp fun c v hc=>RepC.rep (hc.mono fun b _ _ hb hcell=>⟨hno b,hcell⟩))
 rintro e w' ⟨v,r,m',κ',rfl,hph,hmw,hrep⟩;obtain ⟨r1,r2,r3⟩:=hΦ r m' hph;have hsz:=hmw.ext.size;have hblk:∀ b,b < w.heap.size→w'.heap[b]? = w.heap[b]? := fun b hb=>hmw.ext.block b hb fun ⟨id,h,_⟩=>by simp [lk] at h
 have hnew:∀ id b,(lk m' id).isSome=true→κ' id=some b→w.heap.size≤b:=fun id b h1 h2=>(hmw.new id b h1 h2).resolve_left fun ⟨i,h,_⟩=>by simp [lk] at h
 have hg:∀ id L sz e,lk m' id=some (.row L sz e)→∀ C,L≠zI sz C:=fun id L sz e hb C=>zmu hmw.mem hb (r2 id _ hb) C
 obtain ⟨κ2,hκ⟩:∃ κ2:Kap,κ2=⟨fun id=>if (lk m' id).isSome then κ' id else κ id,κ.S⟩:=⟨_,rfl⟩;have hS2:κ2.S=κ.S:=by rw [hκ]
 have L1:∀ id b,lk m' id=some b→lk (m'++m2) id=some b∧κ2 id=κ' id:=fun id b hb=>⟨by rw [j8,hb],by rw [hκ]; simp [hb]⟩
 have L0:∀ id,lk m' id=none→lk (m'++m2) id=lk m id∧κ2 id=κ id:=fun id hb=>⟨by rw [j8,hb]; exact hm2 id,by rw [hκ]; simp [hb]⟩
 have Ln:∀ id b,lk m id=some b→lk m' id=none:=fun id b hb=>by
  cases hl:lk m' id with
  | none=>rfl
  | some x=>rw [r3 id (by rw [hl]; rfl)] at hb; cases hb
 have Lm:∀ id b,lk m id=some b→lk (m'++m2) id=some b∧κ2 id=κ id:=fun id b hb=>by
  obtain ⟨g1,g2⟩:=L0 id (Ln id b hb);exact ⟨g1.trans hb,g2⟩
 have hown:∀ b,Own κ2 (m'++m2) b→Own κ m b∨w.heap.size≤b:=by
  rintro b ⟨id,h1,h2⟩;cases hl:lk m' id with
  | some x=>rw [(L1 id x hl).2] at h2; exact .inr (hnew id b (by rw [hl]; rfl) h2)
  | none =>
   obtain ⟨g1,g2⟩:=L0 id hl;rw [g1] at h1; rw [g2] at h2;exact .inl ⟨id,h1,h2⟩
 have hpres:Pres κ m w κ2 (m'++m2) w':=by
  refine ⟨fun id cs hb=>⟨⟨cs,(Lm id _ hb).1⟩,(Lm id _ hb).2⟩,fun id L sz e hb=>?_,fun b o v hl hc=>?_⟩
  ·obtain ⟨g1,g2⟩:=Lm id _ hb;exact ⟨L,g1,Nat.le_refl _,fun _=>⟨g2,fun b arr e' hk ha=>⟨arr,by rw [hblk b (Array.getElem?_eq_some_iff.1 ha).1]; exact ha,rfl⟩⟩,fun k _ _ _ => .inl ⟨rfl,g2.symm.trans k⟩⟩
  ·have hb:=yN hc;refine ⟨fun hh=>?_,by rw [y5 (hblk b hb)]; exact hc⟩;rcases hh with hh | hh
   ·exact hl (.inl (by rw [← hS2]; exact hh))
   ·rcases hown b hh with h | h
    ·exact hl (.inr h)
    ·omega
 refine ⟨v,r,m'++m2,κ2,rfl,⟨m',hph,rfl⟩,⟨⟨fun id b hb=>?_,fun i j b hi hj h1 h2=>?_,fun b hb=>Nat.lt_of_lt_of_le (hmm.sb b (by rw [← hS2]; exact hb)) hsz,fun i b hi hb=>?_⟩,fun b hb=>?_,hpres,⟨hmw.ext.os,hmw.ext.tape,hmw.ext.output,hsz,fun b hb _=>hblk b hb⟩,fun i b hi hb=>?_,hS2⟩,Rep.fresh L1 hg r1 hrep⟩
 ·cases hl:lk m' id with
  | some x =>
   rw [(L1 id x hl).1] at hb;rw [← Option.some.inj hb];exact (hmw.mem.blk id x hl).fresh L1 hg hl (r2 id x hl)
  | none =>
   obtain ⟨g1,g2⟩:=L0 id hl;rw [g1] at hb;exact (hmm.blk id b hb).pres hpres g2 fun g hk=>hblk g (hmm.live_lt (.inr ⟨id,by rw [hb]; rfl,hk⟩))
 ·have old:∀ i b,(lk m i).isSome=true→κ i=some b→b < w.heap.size:=fun i b h1 h2=>hmm.live_lt (.inr ⟨i,h1,h2⟩)
  cases hl:lk m' i with
  | some x =>
   rw [(L1 i x hl).2] at h1;cases hl':lk m' j with
   | some y=>rw [(L1 j y hl').2] at h2; exact hmw.mem.inj i j b (by rw [hl]; rfl) (by rw [hl']; rfl) h1 h2
   | none =>
    obtain ⟨g1,g2⟩:=L0 j hl';rw [g1] at hj; rw [g2] at h2;have:=old j b hj h2;have:=hnew i b (by rw [hl]; rfl) h1;omega
  | none =>
   obtain ⟨g1,g2⟩:=L0 i hl;rw [g1] at hi; rw [g2] at h1;cases hl':lk m' j with
   | some y =>
    rw [(L1 j y hl').2] at h2;have:=old i b hi h1;have:=hnew j b (by rw [hl']; rfl) h2;omega
   | none =>
    obtain ⟨g3,g4⟩:=L0 j hl';rw [g3] at hj; rw [g4] at h2;exact hmm.inj i j b hi hj h1 h2
 ·rw [hS2];cases hl:lk m' i with
  | some x =>
   rw [(L1 i x hl).2] at hb;intro hs;have:=hmm.sb b hs;have:=hnew i b (by rw [hl]; rfl) hb;omega
  | none =>
   obtain ⟨g1,g2⟩:=L0 i hl;rw [g1] at hi; rw [g2] at hb;exact hmm.sd i b hi hb
 ·rcases hb with hb | hb
  ·exact hm.low b (.inl (by rw [← hS2]; exact hb))
  ·rcases hown b hb with h | h
   ·exact hm.low b (.inr h)
   ·exact Nat.le_trans hB.size h
 ·cases hl:lk m' i with
  | some x=>rw [(L1 i x hl).2] at hb; exact .inr (hnew i b (by rw [hl]; rfl) hb)
  | none =>
   obtain ⟨g1,g2⟩:=L0 i hl;rw [g1] at hi; rw [g2] at hb;exact .inl ⟨i,hi,hb⟩
def ddX:XM→XM
 | []=>[]
 | (k,x)::l=>(k,x)::(ddX l).filter fun p=>!Nat.beq p.1 k
theorem za6 {k id:Nat}:∀ {l:XM},lkX (l.filter fun p=>!Nat.beq p.1 k) id=if id=k then none else lkX l id
 | []=>by simp [lkX]
 | (j,x)::l=>by
  rw [List.filter_cons];cases h:Nat.beq j k with
  | true =>
   have e:=Nat.eq_of_beq_eq_true h;subst e;simp only [h,Bool.not_true];rw [if_neg (by simp),za6,lkX];by_cases hi:id=j
   ·rw [if_pos hi,if_pos hi]
   ·rw [if_neg hi,if_neg hi];cases hb:Nat.beq id j with
    | true=>exact absurd (Nat.eq_of_beq_eq_true hb) hi
    | false=>rfl
  | false =>
   have e:=Nat.ne_of_beq_eq_false h;simp only [h,Bool.not_false];rw [if_pos trivial,lkX,lkX];cases hb:Nat.beq id j with
   | true =>
    have:=Nat.eq_of_beq_eq_true hb;subst this;rw [if_neg e]
   | false=>exact za6
theorem za5:∀ {m:XM} {id:Nat},lkX (ddX m) id=lkX m id
 | [],_=>rfl
 | (k,x)::l,id=>by
  rw [ddX,lkX,lkX];cases hb:Nat.beq id k with
  | true=>rfl
  | false =>
   simp only;rw [za6,if_neg (Nat.ne_of_beq_eq_false hb)];exact za5
theorem zet:∀ {m:XM} {p:Nat × XB},p∈ddX m→lkX m p.1=some p.2
 | [],p,h=>by cases h
 | (k,x)::l,p,h=>by
  rw [ddX,List.mem_cons] at h;rcases h with rfl | h
  ·simp [lkX]
  ·obtain ⟨h1,h2⟩:=List.mem_filter.1 h;have h2:Nat.beq p.1 k=false:=by
    cases hb:Nat.beq p.1 k with
    | false=>rfl
    | true=>rw [hb] at h2; cases h2
   rw [lkX,h2];exact zet h1
theorem zgn:∀ {m:XM} {id:Nat} {b:XB},lkX m id=some b→updX m id b=m
 | [],_,_,h=>by cases h
 | (k,x)::l,id,b,h=>by
  rw [lkX] at h;rw [updX];cases hb:Nat.beq id k with
  | true =>
   have e:=Nat.eq_of_beq_eq_true hb;subst e;rw [hb] at h;cases h;simp
  | false =>
   rw [hb] at h;have:Nat.beq k id=false:=by
    cases hk:Nat.beq k id with
    | false=>rfl
    | true=>exact absurd (Nat.eq_of_beq_eq_true hk).symm (Nat.ne_of_beq_eq_false hb)
   rw [this];simp only;rw [zgn h]
theorem zey {m:XM}:∀ {l:XM},(∀ p∈l,lkX m p.1=some p.2)→ju m l=m
 | [],_=>rfl
 | (id,b)::l,h=>by
  have h0:=h (id,b) (by simp);rw [ju,h0];simp only;rw [zey fun p hp=>h p (by simp [hp])];exact zgn h0
theorem zex {m l:XM} (hl:ju m l=m):∀ {n:XM},(∀ p∈n,lkX m p.1=none)→ju m (apX n l)=apX n m
 | [],_=>hl
 | (id,b)::n,h=>by
  rw [apX,ju,h (id,b) (by simp)];simp only [apX];rw [zex hl fun p hp=>h p (by simp [hp])]
theorem Qn {n m:XM} {id:Nat}:lkX (apX n m) id=match lkX n id with | some x=>some x | none=>lkX m id:=by
 induction n with
 | nil=>rfl
 | cons p n ih =>
  obtain ⟨k,x⟩:=p;rw [apX,lkX,lkX];cases Nat.beq id k with
  | true=>rfl
  | false=>exact ih
theorem yb:∀ {m:XM} {id:Nat} {b:XB},lkX m id=some b→(id,b)∈m
 | [],_,_,h=>by cases h
 | (k,x)::l,id,b,h=>by
  rw [lkX] at h;cases hb:Nat.beq id k with
  | true =>
   rw [hb] at h;cases h;rw [Nat.eq_of_beq_eq_true hb];simp
  | false=>rw [hb] at h; exact List.mem_cons_of_mem _ (yb h)
def rlXO:XB→Bool
 | .box cs=>cs.all rl1O
 | .row L _ _=>L.all fun x=>x.cells.all rle1
 | .rowP L _=>L.all fun x=>x.cells.all rl1O
 | .gone ..=>false
theorem znl {b:XB} (h:rlXO b=true):rlBO b.er=true:=by
 cases b with
 | box cs=>exact h
 | row L sz e =>
  simp only [rlXO,List.all_eq_true] at h;simp only [XB.er,rlBO,List.all_eq_true];intro x hx;obtain ⟨y,hy,hx⟩:=List.mem_flatMap.1 hx;obtain ⟨z,hz,rfl⟩:=List.mem_map.1 hy;obtain ⟨u,hu,rfl⟩:=List.mem_map.1 hx;exact h z hz u hu
 | rowP L e =>
  simp only [rlXO,List.all_eq_true] at h;simp only [XB.er,rlBO,List.all_eq_true];intro x hx;obtain ⟨y,hy,hx⟩:=List.mem_flatMap.1 hx;exact h y hy x hx
 | gone=>cases h
def newR (m:XM):XM→Prop
 | []=>True
 | (id,b)::l=>(rlXO b=true∧lkX m id=none)∧newR m l
theorem zbm {m:XM}:∀ {l:XM},newR m l→∀ p∈l,rlXO p.2=true∧lkX m p.1=none
 | [],_,p,hp=>by cases hp
 | (id,b)::l,h,p,hp=>by
  rcases List.mem_cons.1 hp with rfl | hp
  ·exact h.1
  ·exact zbm h.2 p hp
theorem oF {P:Program} {W0:World} {f:FuncId} {vs:List PV} {m:XM} {K:PV→XM→Prop} {α:Type} {ok:α→Prop} {R:α→PV} {M:α→XM} {cs:List CV} (h:zy P W0 f (cs.map .c) [] ok R M) (hs:yk m vs fun l=>l=cs)
  (h1:inMX m=true) (h2:vs.all (inPX m)=true) (h0:∃ a,ok a)
  (k:∀ a,ok a→rlPO (R a)=true∧newR m (M a)∧K (R a) (apX (M a) m)):OpnX P W0 f vs m K:=by
 have hs:jJ (er m) vs=some cs:=by
  obtain ⟨l,h1,rfl⟩:=QF hs;exact h1
 have key:=FunC.fresh (m:=er m) (m2:=er (ddX m)) h hs (fun id=>by rw [zL,zL,za5]) (fun r m' hr=>by
  obtain ⟨mx,rfl,a,ha,rfl,rfl⟩:=hr;obtain ⟨r1,r2,_⟩:=k a ha;have r2:=zbm r2;refine ⟨r1,fun id b hb=>?_,fun id hi=>?_⟩
  ·obtain ⟨x,hx,rfl⟩:=zaE hb;exact znl (r2 _ (yb hx)).1
  ·obtain ⟨b,hb⟩:=Option.isSome_iff_exists.1 hi;obtain ⟨x,hx,rfl⟩:=zaE hb;rw [zL,(r2 _ (yb hx)).2]; rfl)
 refine ⟨m,fun r mx=>∃ a,ok a∧r=R a∧mx=apX (M a) (ddX m),fun _ _ h=>h,Qi h1,?_,?_,?_,?_⟩
 ·rw [← h2]; congr 1; funext x; exact Jq.symm
 ·intro κ w us hB hm hr;refine (key κ w us hB hm hr).mono ?_;rintro e w' ⟨v,r,m',κ',rfl,⟨m1,⟨mx,rfl,a,ha,rfl,rfl⟩,rfl⟩,h4,h5⟩;exact ⟨v,_,_,κ',rfl,⟨apX (M a) (ddX m),Zy.symm,a,ha,rfl,rfl⟩,h4,h5⟩
 ·obtain ⟨a,ha⟩:=h0; exact ⟨_,_,a,ha,rfl,rfl⟩
 ·rintro r mx ⟨a,ha,rfl,rfl⟩;obtain ⟨r1,r2,r3⟩:=k a ha;have r2:=zbm r2;refine ⟨fun id hi=>?_,?_⟩
  ·rw [Qn] at hi;cases hl:lkX (M a) id with
   | some x=>exact .inr (r2 _ (yb hl)).2
   | none=>rw [hl] at hi; simp only at hi; rw [za5] at hi; exact .inl hi
  ·rw [zex (zey fun p hp=>zet hp) fun p hp=>(r2 p hp).2];exact r3
theorem rlRow {α:Type} {f:α→CV} {L:List α} {sz:Nat} {e:TypeId} (h:∀ a,(f a).cells.all rle1=true):rlXO (.row (L.map f) sz e)=true:=by
 simp only [rlXO,List.all_eq_true];intro x hx;obtain ⟨a,_,rfl⟩:=List.mem_map.1 hx;exact List.all_eq_true.1 (h a)
theorem zy.fn {P:Program} {W0:World} {f:FuncId} {cs:List CV} {α:Type} {ok:α→Prop} {R:α→PV} {M:α→XM} {r:CV} (h:zy P W0 f (cs.map .c) [] ok R M) (hr:∀ a,ok a→JI (er (M a)) (R a)=some r):Fn P W0 f cs (.c r) []:=by
 intro κ w vs hB hm hv;refine (h κ w vs hB hm hv).mono ?_;rintro e w' ⟨v,x,m',κ',rfl,⟨mx,rfl,a,ha,rfl,rfl⟩,hmw,hrep⟩;have hlive:∀ b,zf κ' [] b→κ'.S b:=by
  rintro b (hb | ⟨id,hb,_⟩)
  ·exact hb
  ·simp [lk] at hb
 refine ⟨v,.c r,[],κ',rfl,⟨rfl,rfl⟩,⟨⟨fun id b hb=>by simp [lk] at hb,fun i j b hi=>by simp [lk] at hi,hmw.mem.sb,fun id b hb=>by simp [lk] at hb⟩,fun b hb=>hmw.low b (.inl (hlive b hb)),
  ⟨fun id cs hb=>(by simp [er,lk] at hb),fun id L sz e hb=>(by simp [er,lk] at hb),fun b o u hl hc=>⟨fun hh=>(hmw.pres.cell b o u hl hc).1 (.inl (hlive b hh)),(hmw.pres.cell b o u hl hc).2⟩⟩,hmw.ext,fun id b hb=>by simp [lk] at hb,hmw.hS⟩,RepC.rep ?_⟩
 exact zfB hmw.mem (fun b hb => .inl (hlive b hb)) (fun id b hi hb hs=>hmw.mem.sd id b hi hb (hlive b hs)) (hr a ha) hrep
theorem zfz {m:XM}:∀ {cs:List PV} {l:List CV} {K:List CV→Prop},za (fun x y=>∀ K:CV→Prop,K y→QE m x K) cs l→K l→JH m cs K
 | [],[],_,_,h=>h
 | _::_,_::_,_,h,k=>h.1 _ (zfz h.2 k)
 | [],_::_,_,h,_=>h.elim
 | _::_,[],_,h,_=>h.elim
def je (c sz:Nat) (e:TypeId):Nat→List (List CV)→XM
 | _,[]=>[]
 | k,C::L=>(16 * k+c,.row C sz e)::je c sz e (k+1) L
def zB (c:Nat):Nat→List (List CV)→List PV
 | _,[]=>[]
 | k,C::L => .own (16 * k+c) C.length::zB c (k+1) L
theorem qR {c:Nat}:∀ {k:Nat} {L:List (List CV)},(zB c k L).length=L.length
 | _,[]=>rfl
 | k,C::L=>by simp [zB,qR (k:=k+1) (L:=L)]
theorem zaM {c sz:Nat} {e:TypeId}:∀ {k:Nat} {L:List (List CV)} {id:Nat},(id < 16 * k+c∨id % 16≠c % 16)→lkX (je c sz e k L) id=none
 | _,[],_,_=>rfl
 | k,C::L,id,h=>by
  have:Nat.beq id (16 * k+c)=false:=by
   cases hb:Nat.beq id (16 * k+c) with
   | false=>rfl
   | true=>have:=Nat.eq_of_beq_eq_true hb; omega
  rw [je,lkX,this];exact zaM (by omega)
theorem qX {c sz:Nat} {e:TypeId}:∀ {k:Nat} {L:List (List CV)} {i:Nat} (h:i < L.length),lkX (je c sz e k L) (16 * (k+i)+c)=some (.row L[i] sz e)
 | k,[],i,h=>by simp at h
 | k,C::L,0,h=>by rw [je,lkX,Nat.add_zero,Nat.beq_refl]; rfl
 | k,C::L,i+1,h=>by
  have:Nat.beq (16 * (k+(i+1))+c) (16 * k+c)=false:=by
   cases hb:Nat.beq (16 * (k+(i+1))+c) (16 * k+c) with
   | false=>rfl
   | true=>have:=Nat.eq_of_beq_eq_true hb; omega
  rw [je,lkX,this];have:=qX (c:=c) (sz:=sz) (e:=e) (k:=k+1) (L:=L) (i:=i) (by simpa using h);rw [show k+(i+1)=k+1+i by omega];exact this
theorem zeY {c:Nat}:∀ {k:Nat} {L:List (List CV)} {i:Nat} (h:i < L.length),(zB c k L)[i]? = some (.own (16 * (k+i)+c) L[i].length)
 | k,[],i,h=>by simp at h
 | k,C::L,0,h=>by simp [zB]
 | k,C::L,i+1,h=>by
  have:=zeY (c:=c) (k:=k+1) (L:=L) (i:=i) (by simpa using h);rw [zB,List.getElem?_cons_succ,this,show k+(i+1)=k+1+i by omega];rfl
theorem zbA {c:Nat}:∀ {k:Nat} {L:List (List CV)} {C:List CV},zB c k (L++[C])=zB c k L++[.own (16 * (k+L.length)+c) C.length]
 | k,[],C=>by simp [zB]
 | k,D::L,C=>by
  rw [List.cons_append,zB,zbA (k:=k+1) (L:=L),zB,List.cons_append,List.length_cons,show k+1+L.length=k+(L.length+1) by omega]
theorem Zu {c sz:Nat} {e:TypeId} {m:XM} {K:List CV→Prop}:∀ {k:Nat} {L:List (List CV)},(∀ i (h:i < L.length),lkX m (16 * (k+i)+c)=some (.row L[i] sz e))→K (L.map .row)→JH m (zB c k L) K:=by
 have key:∀ {L:List (List CV)} {k:Nat},(∀ i (h:i < L.length),lkX m (16 * (k+i)+c)=some (.row L[i] sz e))→za (fun x y=>∀ K:CV→Prop,K y→QE m x K) (zB c k L) (L.map .row):=by
  intro L;induction L with
  | nil=>intro k _; trivial
  | cons C L ih =>
   intro k h;refine ⟨fun K hK=>?_,ih fun i hi=>?_⟩
   ·have:=h 0 (by simp);simp only [Nat.add_zero,List.getElem_cons_zero] at this;unfold QE;simp only [this];exact ⟨rfl,hK⟩
   ·have:=h (i+1) (by simpa using hi);rw [show k+(i+1)=k+1+i by omega] at this
    simpa using this
 intro k L h hk;exact zfz (key h) hk
theorem fT {b:Bool} {A:Prop} (h:b=true) (k:A):(match (generalizing:=false) b with | false=>False | true=>A):=by subst h; exact k
theorem frX1 {m:XM} {id:Nat} {b:XB} (h:lkX m id=none):Jl m [(id,b)]=true:=by simp [Jl,h]
theorem zi {α:Type} {f:α→Bool} {p:α} {l:List α} (h1:f p=true) (h2:l.all f=true):(p::l).all f=true:=by simp [h1,h2]
theorem zc {α:Type} {k id:Nat} {x:α} {l:List (Nat × α)} (h:id≠k):lkX ((k,x)::l) id=lkX l id:=by
 rw [lkX];cases hb:Nat.beq id k with
 | true=>exact absurd (Nat.eq_of_beq_eq_true hb) h
 | false=>rfl
theorem yE {m:XM} {c:Nat}:∀ {k:Nat} {L:List (List CV)},(∀ i < L.length,(lkX m (16 * (k+i)+c)).isSome=true)→((zB c k L).all fun x=>x.cells.all (in1X m))=true
 | _,[],_=>rfl
 | k,C::L,h=>by
  refine zi ?_ (yE fun i hi=>?_)
  ·have:=h 0 (by simp);simp only [Nat.add_zero] at this;simp [PV.cells,in1X,this]
  ·have:=h (i+1) (by simpa using hi);rw [show k+(i+1)=k+1+i by omega] at this;exact this
theorem yx {m:XM} {c sz:Nat} {e:TypeId}:∀ {k:Nat} {L:List (List CV)},((je c sz e k L).all fun p=>inBX m p.2)=true
 | _,[]=>rfl
 | k,C::L=>zi rfl (yx (L:=L))
theorem YQ {s:Nat→Nat} {c:Nat}:∀ {k:Nat} {L:List (List CV)},(∀ i < L.length,s (16 * (k+i)+c)=16 * (k+i)+c)→(zB c k L).map (renA s)=zB c k L
 | _,[],_=>rfl
 | k,C::L,h=>by
  have h0:=h 0 (by simp);simp only [Nat.add_zero] at h0;rw [zB,List.map_cons,YQ (fun i hi=>by
   have:=h (i+1) (by simpa using hi);rw [show k+(i+1)=k+1+i by omega] at this;exact this)]
  simp only [renA,ren1,h0]
theorem rnP {s:Nat→Nat} {i o:Nat} (h:s i=i):renP s (.ptr i o) = .ptr i o:=by simp [renP,renA,ren1,h]
theorem rnO {s:Nat→Nat} {i n:Nat} (h:s i=i):renP s (.own i n) = .own i n:=by simp [renP,renA,ren1,h]
def frR (s:Nat→Nat) (A:Fr):Fr→Prop
 | []=>True
 | (t,v)::l=>(∃ u,lkX A t=some u∧renP s u=v)∧frR s A l
def mmR (s:Nat→Nat) (m:XM):XM→Prop
 | []=>True
 | (id,x)::l=>(∃ y,lkX m (s id)=some y∧yY s y=x)∧mmR s m l
theorem Yx {s:Nat→Nat} {m:XM} {i:Nat} {y:XB} (h:s i=i) (h2:lkX m i=some y):lkX m (s i)=some y:=by rw [h]; exact h2
theorem zdP {s:Nat→Nat} {A:Fr}:∀ {l:Fr},frR s A l→∀ p∈l,∃ u,lkX A p.1=some u∧renP s u=p.2
 | [],_,p,hp=>by cases hp
 | (t,v)::l,h,p,hp=>by
  rcases List.mem_cons.1 hp with rfl | hp
  ·exact h.1
  ·exact zdP h.2 p hp
theorem zeD {s:Nat→Nat} {m:XM}:∀ {l:XM},mmR s m l→∀ p∈l,∃ y,lkX m (s p.1)=some y∧yY s y=p.2
 | [],_,p,hp=>by cases hp
 | (t,v)::l,h,p,hp=>by
  rcases List.mem_cons.1 hp with rfl | hp
  ·exact h.1
  ·exact zeD h.2 p hp
theorem Jz {s:Nat→Nat} {m:XM} {c sz:Nat} {e:TypeId}:∀ {k:Nat} {L:List (List CV)},(∀ i (h:i < L.length),lkX m (s (16 * (k+i)+c))=some (.row L[i] sz e))→mmR s m (je c sz e k L)
 | _,[],_=>trivial
 | k,C::L,h=>⟨⟨_,by have:=h 0 (by simp); simpa using this,rfl⟩,Jz fun i hi=>by
   have:=h (i+1) (by simpa using hi);rw [show k+(i+1)=k+1+i by omega] at this
   simpa using this⟩
theorem za7:∀ {m:Fr} {id:Nat} {b:PV},lkX m id=some b→(id,b)∈m
 | [],_,_,h=>by cases h
 | (k,x)::l,id,b,h=>by
  rw [lkX] at h;cases hb:Nat.beq id k with
  | true =>
   rw [hb] at h;cases h;rw [Nat.eq_of_beq_eq_true hb];simp
  | false=>rw [hb] at h; exact List.mem_cons_of_mem _ (za7 h)
theorem zel {s:Nat→Nat} (hs:∀ i,s (s i)=i):∀ {m:XM} {id:Nat},lkX (renX s m) id=(lkX m (s id)).map (yY s)
 | [],_=>rfl
 | (k,x)::l,id=>by
  rw [renX,lkX,lkX];have:Nat.beq id (s k)=Nat.beq (s id) k:=by
   cases h1:Nat.beq id (s k) with
   | true =>
    have:=Nat.eq_of_beq_eq_true h1;subst this;rw [hs,Nat.beq_refl]
   | false =>
    cases h2:Nat.beq (s id) k with
    | false=>rfl
    | true =>
     have:=Nat.eq_of_beq_eq_true h2;subst this;rw [hs,Nat.beq_refl] at h1;cases h1
  rw [this];cases Nat.beq (s id) k with
  | true=>rfl
  | false=>exact zel hs
theorem zl9 {f:PV→PV} {A:Fr} {t:Nat}:lkX (mapL f A) t=(lkX A t).map f:=by rw [qw,qw,yV]
theorem zx.rn {k0:List Nat} {A F2:Fr} {m m2:XM} (a b:Nat) (ha:k0.contains a=false) (hb:k0.contains b=false) (hF:frR (sw a b) A F2) (hm:mmR (sw a b) m m2)
  (hk:∀ id,k0.contains id=true→(lkX m2 id).isSome=true) (h1:inMX m2=true) (h2:(F2.all fun p=>inPX m2 p.2)=true):zx k0 A m F2 m2 :=
 zx.ren (z:=some 3) a b ha hb (zx.sub (fun t x hx=>by
  obtain ⟨u,g1,g2⟩:=zdP hF _ (za7 hx);rw [zl9,g1];simp only at g2;simp [g2]) (fun id x hx=>by
  obtain ⟨y,g1,g2⟩:=zeD hm _ (yb hx);rw [zel (QH a b),g1];simp [g2]) hk h1 (List.all_eq_true.1 h2))
theorem YD:∀ {m:XM} {p:Nat × XB},p∈m→(lkX m p.1).isSome=true
 | [],_,h=>by cases h
 | (k,x)::l,p,h=>by
  rw [lkX];cases hb:Nat.beq p.1 k with
  | true=>rfl
  | false =>
   rcases List.mem_cons.1 h with rfl | h
   ·simp at hb
   ·exact YD h
theorem Q7 {tn:List Nat} {m:XM}:∀ {l:XM},(∀ p∈l,hiN tn p.1=false∨(lkX m p.1).isSome=true)→domB tn m l=true
 | [],_=>rfl
 | (k,x)::l,h=>by
  have h0:=h (k,x) (by simp);have hl:=Q7 (tn:=tn) (m:=m) (l:=l) fun p hp=>h p (by simp [hp])
  unfold domB;rcases h0 with h0 | h0
  ·simp only at h0;rw [h0];exact hl
  ·obtain ⟨y,hy⟩:=Option.isSome_iff_exists.1 h0;cases hiN tn k with
   | true =>
    simp only at hy ⊢;rw [hy];exact hl
   | false=>exact hl
theorem zcJ {tn:List Nat} {m:XM} {id:Nat} {b:XB} (h:hiN tn id=false):domB tn m ((id,b)::m)=true:=Q7 fun p hp=>by
 rcases List.mem_cons.1 hp with rfl | hp
 ·exact .inl h
 ·exact .inr (YD hp)
theorem Yz {tn:List Nat} {m m':XM} {A:Prop} (h1:domB tn m m'=true) (h2:eqK tn m' m A):loWX true tn m m' A:=by
 unfold loWX;simp only [h1];exact h2
def frS (A:Fr):Fr→Prop
 | []=>True
 | (t,v)::l=>lkX A t=some v∧frS A l
def mmS (m:XM):XM→Prop
 | []=>True
 | (id,x)::l=>lkX m id=some x∧mmS m l
theorem zdQ {A:Fr}:∀ {l:Fr},frS A l→∀ p∈l,lkX A p.1=some p.2
 | [],_,p,hp=>by cases hp
 | (t,v)::l,h,p,hp=>by
  rcases List.mem_cons.1 hp with rfl | hp
  ·exact h.1
  ·exact zdQ h.2 p hp
theorem JA {m:XM}:∀ {l:XM},mmS m l→∀ p∈l,lkX m p.1=some p.2
 | [],_,p,hp=>by cases hp
 | (t,v)::l,h,p,hp=>by
  rcases List.mem_cons.1 hp with rfl | hp
  ·exact h.1
  ·exact JA h.2 p hp
theorem yD {m:XM} {c sz:Nat} {e:TypeId}:∀ {k:Nat} {L:List (List CV)},(∀ i (h:i < L.length),lkX m (16 * (k+i)+c)=some (.row L[i] sz e))→mmS m (je c sz e k L)
 | _,[],_=>trivial
 | k,C::L,h=>⟨by have:=h 0 (by simp); simpa using this,yD fun i hi=>by
   have:=h (i+1) (by simpa using hi);rw [show k+(i+1)=k+1+i by omega] at this
   simpa using this⟩
theorem J4 {tn:List Nat} {m':XM} {A:Prop}:∀ {l:XM},mmS m' l→A→eqK tn m' l A
 | [],_,k=>k
 | (id,x)::l,h,k=>by
  have hl:=J4 (tn:=tn) (l:=l) h.2 k;unfold eqK;cases hiN tn id with
  | true =>
   simp only;rw [h.1];exact ⟨rfl,hl⟩
  | false=>exact hl
theorem zx.ls {k0:List Nat} {A F2:Fr} {m m2:XM} (hF:frS A F2) (hm:mmS m m2)
  (hk:∀ id,k0.contains id=true→(lkX m2 id).isSome=true) (h1:inMX m2=true) (h2:(F2.all fun p=>inPX m2 p.2)=true):zx k0 A m F2 m2 :=
 zx.sub (fun t x hx=>zdQ hF _ (za7 hx)) (fun id x hx=>JA hm _ (yb hx)) hk h1 (List.all_eq_true.1 h2)
def offB (id:Nat):XM→Bool
 | []=>true
 | (k,_)::l=>match Nat.beq id k with
  | true=>false
  | false=>offB id l
theorem jY {T:XM} {id:Nat}:∀ {P:XM},offB id P=true→lkX (apX P T) id=lkX T id
 | [],_=>rfl
 | (k,x)::l,h=>by
  unfold offB at h;rw [apX,lkX];cases hb:Nat.beq id k with
  | true=>rw [hb] at h; cases h
  | false=>rw [hb] at h; exact jY h
structure FamP (c sz:Nat) (e:TypeId) (k:Nat) (L:List (List CV)) (T:XM) (O:List PV):Prop where
 t:je c sz e k L=T
 o:zB c k L=O
section
variable {c sz:Nat} {e:TypeId} {k:Nat} {L:List (List CV)} {T:XM} {O:List PV} (h:FamP c sz e k L T O)
include h
theorem FamP.no {id:Nat} (hid:id < 16 * k+c∨id % 16≠c % 16):lkX T id=none:=by rw [← h.t]; exact zaM hid
theorem FamP.row {i:Nat} (hi:i < L.length):lkX T (16 * (k+i)+c)=some (.row L[i] sz e):=by rw [← h.t]; exact qX hi
theorem FamP.inT {m:XM}:(T.all fun p=>inBX m p.2)=true:=by rw [← h.t]; exact yx
theorem FamP.inO {m:XM} (hm:∀ i < L.length,(lkX m (16 * (k+i)+c)).isSome=true):(O.all fun x=>x.cells.all (in1X m))=true:=by rw [← h.o]; exact yE hm
theorem FamP.mmS {m:XM} (hm:∀ i (h:i < L.length),lkX m (16 * (k+i)+c)=some (.row L[i] sz e)):mmS m T:=by rw [← h.t]; exact yD hm
theorem FamP.mmR {s:Nat→Nat} {m:XM} (hm:∀ i (h:i < L.length),lkX m (s (16 * (k+i)+c))=some (.row L[i] sz e)):mmR s m T:=by rw [← h.t]; exact Jz hm
theorem FamP.len:O.length=L.length:=by rw [← h.o]; exact qR
theorem FamP.ren {s:Nat→Nat} (hs:∀ i < L.length,s (16 * (k+i)+c)=16 * (k+i)+c):O.map (renA s)=O:=by rw [← h.o]; exact YQ hs
theorem FamP.snap {m:XM} {K:List CV→Prop} (hm:∀ i (h:i < L.length),lkX m (16 * (k+i)+c)=some (.row L[i] sz e)) (hK:K (L.map .row)):JH m O K:=by rw [← h.o]; exact Zu hm hK
theorem FamP.get {i:Nat} (hi:i < L.length):O[i]? = some (.own (16 * (k+i)+c) L[i].length):=by rw [← h.o]; exact zeY hi
end
theorem famP (c sz:Nat) (e:TypeId) (k:Nat) (L:List (List CV)):∃ T O,FamP c sz e k L T O:=⟨_,_,rfl,rfl⟩
theorem FamP.skip {c sz:Nat} {e:TypeId} {k:Nat} {L:List (List CV)} {T:XM} {O:List PV} (h:FamP c sz e k L T O) {m:XM} {id:Nat} (hid:id < 16 * k+c∨id % 16≠c % 16):lkX (apX T m) id=lkX m id:=by rw [Qn,h.no hid]
theorem FamP.fst {c sz:Nat} {e:TypeId} {k:Nat} {L:List (List CV)} {T:XM} {O:List PV} (h:FamP c sz e k L T O) {m:XM} {i:Nat} (hi:i < L.length):lkX (apX T m) (16 * (k+i)+c)=some (.row L[i] sz e):=by rw [Qn,h.row hi]
theorem zbl {m:XM} {c sz:Nat} {e:TypeId}:∀ {k:Nat} {L:List (List CV)},(∀ C∈L,∀ x∈C,x.cells.all rle1=true)→(∀ i < L.length,lkX m (16 * (k+i)+c)=none)→newR m (je c sz e k L)
 | _,[],_,_=>trivial
 | k,C::L,h1,h2=>⟨⟨List.all_eq_true.2 (h1 C (by simp)),by have:=h2 0 (by simp); simpa using this⟩,zbl (fun D hD=>h1 D (by simp [hD])) fun i hi=>by
   have:=h2 (i+1) (by simpa using hi);rw [show k+(i+1)=k+1+i by omega] at this;exact this⟩
theorem zbJ {c:Nat}:∀ {k:Nat} {L:List (List CV)},((zB c k L).all fun x=>x.cells.all rl1O)=true
 | _,[]=>rfl
 | k,C::L=>zi rfl (zbJ (L:=L))
theorem zbo:∀ {m:XM} {K:XM→Prop},nfX m K=K m
 | [],_=>rfl
 | _::l,_=>zbo (m:=l)
section
variable (P:Program) (W0:World)
def goN (q lo:Bool) (tn:List Nat) (dst:Option Nat) (op:AOp) (F:Fr) (m n:XM) (K:Fr→XM→XM→Prop):Prop:=match op.wr with
 | true=>Y5 P W0 F (dst.getD 0) (apX n m) op fun r m'=>loWX lo tn m m' (match dst with
  | some d=>K ((d,r)::F) m' []
  | none=>K F m' [])
 | false=>loNX lo tn F op (Y9 P W0 F (dst.getD 0) m op fun r news=>endX q dst F m n r news K)
def runN (q:Bool):List AO→Fr→XM→XM→(Fr→XM→XM→Prop)→Prop
 | [],F,m,n,K=>K F m n
 | o::l,F,m,n,K=>match o.guard with
  | none=>goN P W0 q o.lo o.tn o.dst o.op F m n fun F m n=>runN q l F m n K
  | some (g,want)=>onv (lkX F g) fun v=>match v with
   | .c (.sc (.bool b))=>cndX b
    (match want with
     | true=>goN P W0 q o.lo o.tn o.dst o.op ((g,B true)::F) m n fun F m n=>runN q l F m n K
     | false=>runX.skX o.dst ((g,B true)::F) fun F=>runN q l F m n K)
    (match want with
     | true=>runX.skX o.dst ((g,B false)::F) fun F=>runN q l F m n K
     | false=>goN P W0 q o.lo o.tn o.dst o.op ((g,B false)::F) m n fun F m n=>runN q l F m n K)
   | .c (.tup [])=>runX.skX o.dst F fun F=>runN q l F m n K
   | _=>False
def xwpN (k0:List Nat):XC→(Fr→XM→Prop)→(Nat→Fr→XM→Prop)→(Fr→XM→Prop)→Fr→XM→Prop
 | .skip,N,_,_,F,m=>N F m
 | .reg q ops,N,_,_,F,m=>runN P W0 q ops F m [] fun F m n=>goodK F (Zz ops) (N F (apX n m))
 | .seq a b,N,E,R,F,m=>xwpN k0 a (fun F m=>xwpN k0 b N E R F m) E R F m
 | .cut a b,N,E,R,F,m=>CutX k0 (fun N F m=>xwpN k0 a N E R F m) (fun F m=>xwpN k0 b N E R F m) F m
 | .cnd c a b,N,E,R,F,m=>onv (evX F c) fun v=>match v with
  | .c (.sc (.bool t))=>cndX t (xwpN k0 a N E R F m) (xwpN k0 b N E R F m)
  | _=>False
 | .blk id a,N,E,R,F,m=>xwpN k0 a N (fun i F m=>match Nat.beq i id with
  | true=>N F m
  | false=>E i F m) R F m
 | .loop a,_,E,R,F,m=>LoopX k0 (fun N F m=>xwpN k0 a N E R F m) F m
 | .exit id,_,E,_,F,m=>E id F m
 | .ret,_,_,R,F,m=>R F m
end
section
variable {P:Program} {W0:World}
theorem zlK {q lo:Bool} {tn:List Nat} {dst:Option Nat} {op:AOp} {F:Fr} {m n:XM} {K:Fr→XM→XM→Prop}:goX P W0 q lo tn dst op F m n K=goN P W0 q lo tn dst op F m n K:=by
 unfold goX goN;simp only [zbo];rfl
theorem zfh {q:Bool}:∀ {ops:List AO} {F:Fr} {m n:XM} {K:Fr→XM→XM→Prop},runX P W0 q ops F m n K=runN P W0 q ops F m n K
 | [],_,_,_,_=>rfl
 | o::l,F,m,n,K=>by
  have ih:∀ F m n,runX P W0 q l F m n K=runN P W0 q l F m n K:=fun F m n=>zfh
  unfold runX runN;simp only [zlK,ih];rfl
theorem yL {k0:List Nat}:∀ (c:XC) (N:Fr→XM→Prop) (E:Nat→Fr→XM→Prop) (R:Fr→XM→Prop) (F:Fr) (m:XM),xwp P W0 k0 c N E R F m=xwpN P W0 k0 c N E R F m
 | .skip,_,_,_,_,_=>rfl
 | .reg q ops,N,E,R,F,m=>by
  unfold xwp xwpN;simp only [zfh,zbo]
 | .seq a b,N,E,R,F,m=>by
  have h1:=yL (k0:=k0) a;have h2:=yL (k0:=k0) b;unfold xwp xwpN;simp only [h1,h2]
 | .cut a b,N,E,R,F,m=>by
  have h1:=yL (k0:=k0) a;have h2:=yL (k0:=k0) b;unfold xwp xwpN;simp only [h1,h2]
 | .cnd c a b,N,E,R,F,m=>by
  have h1:=yL (k0:=k0) a;have h2:=yL (k0:=k0) b;unfold xwp xwpN;simp only [h1,h2];rfl
 | .blk id a,N,E,R,F,m=>by
  have h1:=yL (k0:=k0) a;unfold xwp xwpN;simp only [h1];rfl
 | .loop a,N,E,R,F,m=>by
  have h1:=yL (k0:=k0) a;unfold xwp xwpN;simp only [h1]
 | .exit id,_,_,_,_,_=>rfl
 | .ret,_,_,_,_,_=>rfl
end
theorem fX' {P:Program} {W0:World} {f:FuncId} {c:XC} {on:List FuncId} {ars:List AR} {n:Nat} {args:List CV} {r:CV} {F:Fr} (hm:P.follows .mixedOrders=true)
  (hc:zh P on f=some (c.ac,ars,n)) (h:(∀ x∈args,Good x)→xwpN P W0 [] c (finC ars r) (fun _ _ _=>False) (finC ars r) F []) (hn:args.length≤n:=by simp) (hF:argF 0 (args.map .c)=F:=by rfl):Fn P W0 f args (.c r) [] :=
 fnX hm hc hn hF fun hg=>by rw [yL]; exact h hg
theorem fW' {P:Program} {W0:World} {f:FuncId} {c:XC} {on:List FuncId} {ars:List AR} {n:Nat} {args:List PV} {m:XM} {α:Type} {ok:α→Prop} {R:α→PV} {M:α→XM} {F:Fr} (k0:List Nat) (hm:P.follows .mixedOrders=true)
  (hc:zh P on f=some (c.ac,ars,n))
  (h:(∀ x∈args,qN x)→xwpN P W0 k0 c (finX k0 ars fun r mx=>∃ a,ok a∧r=R a∧mx=M a) (fun _ _ _=>False) (finX k0 ars fun r mx=>∃ a,ok a∧r=R a∧mx=M a) F m)
  (hk:m.map (·.1)=k0) (hn:args.length≤n:=by simp) (hF:argF 0 args=F:=by rfl):zy P W0 f args m ok R M :=
 funW hm hc hn hF hk fun hg=>by rw [yL]; exact h hg
theorem Yw {m:XM} {id i:Nat} {b:XB}:lkX (updX m id b) i=if i=id∧(lkX m id).isSome=true then some b else lkX m i:=by
 induction m with
 | nil=>simp [updX,lkX]
 | cons p m ih =>
  obtain ⟨k,x⟩:=p;rw [updX];cases h:Nat.beq k id with
  | true =>
   have e:=Nat.eq_of_beq_eq_true h;subst e;simp only;rw [lkX,lkX,lkX,Nat.beq_refl];cases h2:Nat.beq i k with
   | true=>simp [Nat.eq_of_beq_eq_true h2]
   | false=>simp [Nat.ne_of_beq_eq_false h2]
  | false =>
   have e:=Nat.ne_of_beq_eq_false h;simp only;rw [lkX];have h3:lkX ((k,x)::m) id=lkX m id:=zc fun hh=>e hh.symm
   rw [h3,lkX];cases h2:Nat.beq i k with
   | true =>
    have:=Nat.eq_of_beq_eq_true h2;subst this;rw [if_neg fun hh=>e hh.1]
   | false=>exact ih
theorem zd3 {m:XM} {id:Nat}:∀ {l:XM},(lkX m id).isSome=true→(lkX (ju m l) id).isSome=true
 | [],h=>h
 | (k,b)::l,h=>by
  have ih:=zd3 (l:=l) h;rw [ju];cases hk:lkX m k with
  | some y =>
   simp only;rw [Yw];split
   ·rfl
   ·exact ih
  | none =>
   simp only;rw [lkX];cases Nat.beq id k with
   | true=>rfl
   | false=>exact ih
theorem qC {m:XM} {id:Nat}:∀ {l:XM},lkX (ju m l) id=match lkX l id with | some b=>some b | none=>lkX m id
 | []=>rfl
 | (k,b)::l=>by
  have ih:=qC (m:=m) (id:=id) (l:=l);rw [ju];cases hk:lkX m k with
  | some y =>
   simp only;have hs:=zd3 (m:=m) (id:=k) (l:=l) (by rw [hk]; rfl);rw [Yw];by_cases e:id=k
   ·subst e;rw [if_pos ⟨rfl,hs⟩,lkX,Nat.beq_refl]
   ·rw [if_neg fun hh=>e hh.1,ih,zc e]
  | none =>
   simp only;by_cases e:id=k
   ·subst e;rw [lkX,lkX,Nat.beq_refl]
   ·rw [zc e,ih,zc e]
theorem oW' {P:Program} {W0:World} {f:FuncId} {vs:List PV} {m mp:XM} {K:PV→XM→Prop} {α:Type} {ok:α→Prop} {R:α→PV} {M:α→XM} (h:zy P W0 f vs mp ok R M) (hsub:∀ id b,lkX mp id=some b→lkX m id=some b) (h1:inMX mp=true)
  (h2:vs.all (inPX mp)=true) (h0:∃ a,ok a) (k:∀ a,ok a→(∀ id,(lkX (M a) id).isSome=true→(lkX mp id).isSome=true∨lkX m id=none)∧K (R a) (ju m (M a))):OpnX P W0 f vs m K:=by
 refine ⟨mp,_,zcR hsub,Qi h1,?_,h,?_,?_⟩
 ·rw [← h2]; congr 1; funext x; exact Jq.symm
 ·obtain ⟨a,ha⟩:=h0; exact ⟨_,_,a,ha,rfl,rfl⟩
 ·rintro r mx ⟨a,ha,rfl,rfl⟩;exact k a ha
theorem oN {P:Program} {W0:World} {f:FuncId} {vs:List PV} {m:XM} {K:PV→XM→Prop} {cs:List CV} {r:CV} (h:Fn P W0 f cs (.c r) []) (hv:vs=cs.map .c) (k:K (.c r) m):OpnX P W0 f vs m K:=by
 subst hv;refine oW' (mp:=[]) h.funW (fun id b h=>by cases h) rfl ?_ ⟨(),trivial⟩ fun _ _=>⟨(fun id h=>by cases h),k⟩
 rw [List.all_eq_true];intro x hx;obtain ⟨c,_,rfl⟩:=List.mem_map.1 hx;rfl
theorem onI {α:Type} {o:Option α} {v:α} {f:α→Prop} (h:o=some v) (k:f v):onv o f:=by rw [h]; exact k
theorem zaf {m:XM} {id i:Nat} {b:XB} (h:i≠id):lkX (updX m id b) i=lkX m i:=by rw [Yw,if_neg fun hh=>h hh.1]
theorem zos {m:XM} {id:Nat} {b y:XB} (h:lkX m id=some y):lkX (updX m id b) id=some b:=by rw [Yw,if_pos ⟨rfl,by rw [h]; rfl⟩]
theorem zy.ren {P:Program} {W0:World} {f:FuncId} {vs:List PV} {mp:XM} {α:Type} {ok:α→Prop} {R:α→PV} {M:α→XM} (h:zy P W0 f vs mp ok R M) {s:Nat→Nat} (hs:∀ i,s (s i)=i) :
  zy P W0 f (vs.map (renP s)) (renX s mp) ok (fun x=>renP s (R x)) (fun x=>renX s (M x)):=by
 have:=FunC.ren (s:=s) hs h;unfold zy FunX;rw [JD];intro κ w vs hB hm hr;refine (this κ w vs hB hm hr).mono ?_;rintro e w' ⟨v,r,m',κ',rfl,⟨mx,h1,x,h2,h3,rfl⟩,h4,h5⟩;refine ⟨v,r,m',κ',rfl,⟨renX s (M x),?_,x,h2,?_,rfl⟩,h4,h5⟩
 ·show m'=er (renX s (M x));rw [JD,← h1,JC hs]
 ·show r=renP s (R x);rw [← h3,YU hs]
theorem zbk:∀ {m:XM} {id:Nat},(m.map (·.1)).contains id=true→(lkX m id).isSome=true
 | [],_,h=>by cases h
 | (k,x)::l,id,h=>by
  rw [lkX];cases hb:Nat.beq id k with
  | true=>rfl
  | false =>
   simp only [List.map_cons,List.contains_cons,Bool.or_eq_true,beq_iff_eq] at h;rcases h with h | h
   ·subst h; simp at hb
   ·exact zbk h
theorem zbB {c:Nat}:∀ {k:Nat} {L L':List (List CV)},L.map List.length=L'.map List.length→zB c k L=zB c k L'
 | _,[],[],_=>rfl
 | k,C::L,D::L',h=>by
  simp only [List.map_cons,List.cons.injEq] at h;rw [zB,zB,h.1,zbB h.2]
 | _,[],_::_,h=>by cases h
 | _,_::_,[],h=>by cases h
theorem Yk {c sz:Nat} {e:TypeId} {id:Nat}:∀ {k:Nat} {L L':List (List CV)},L.length=L'.length→(lkX (je c sz e k L) id).isSome=(lkX (je c sz e k L') id).isSome
 | _,[],[],_=>rfl
 | k,C::L,D::L',h=>by
  rw [je,je,lkX,lkX];cases Nat.beq id (16 * k+c) with
  | true=>rfl
  | false=>exact Yk (by simpa using h)
 | _,[],_::_,h=>by cases h
 | _,_::_,[],h=>by cases h

abbrev AO.mv (d s:Nat):AO:=⟨some d,.mv (.t s),none,false,[]⟩
abbrev AO.ex (d:Nat) (o:AOp):AO:=⟨some d,o,none,false,[]⟩
abbrev AO.nu (o:AOp):AO:=⟨none,o,none,false,[]⟩
abbrev AO.gt (d:Nat) (o:AOp) (g:Nat):AO:=⟨some d,o,some (g,true),false,[]⟩
instance (n:Nat):OfNat AX n:=⟨.t n⟩
abbrev sE:PV := .c (.sc (.string ⟨#[]⟩))
abbrev AO.l1 (d n:Nat) (a:AX):AO:=⟨some d,.ld false n a,none,false,[]⟩
abbrev AO.l2 (d n:Nat) (a:AX):AO:=⟨some d,.ld true n a,none,false,[]⟩
abbrev AO.b1 (d:Nat) (o:BinOp) (x y:AX):AO:=⟨some d,.bin o x y,none,false,[]⟩
abbrev AO.f1 (d k:Nat) (x:AX):AO:=⟨some d,.fa k x,none,false,[]⟩
abbrev AO.c1 (d f:Nat) (xs:List AX):AO:=⟨some d,.call f xs,none,false,[]⟩
abbrev AO.n1 (d:Nat) (x:AX):AO:=⟨some d,.len false x,none,false,[]⟩
abbrev AO.e1 (d:Nat) (x:AX) (i:Nat):AO:=⟨some d,.ext x i,none,false,[]⟩
abbrev AO.a1 (d:Nat) (x:AX) (z e:Nat):AO:=⟨some d,.asn x z e,none,false,[]⟩
abbrev AO.i1 (d s:Nat) (x i:AX):AO:=⟨some d,.ia s x i,none,false,[]⟩
abbrev AO.s1 (n:Nat) (a v:AX):AO:=⟨none,.st n a v,none,false,[]⟩
abbrev AO.o1 (d f:Nat) (xs:List AX):AO:=⟨some d,.opn f xs,none,false,[]⟩
abbrev AO.m1 (d:Nat) (x:AX):AO:=⟨some d,.mv x,none,false,[]⟩
abbrev AO.g1 (d k:Nat) (x:AX) (g:Nat):AO:=⟨some d,.fa k x,some (g,true),false,[]⟩
abbrev AO.g2 (d n:Nat) (x:AX) (g:Nat):AO:=⟨some d,.ld false n x,some (g,true),false,[]⟩
abbrev AO.g3 (d:Nat) (x:AX) (g:Nat):AO:=⟨some d,.mv x,some (g,true),false,[]⟩
abbrev AO.h1 (d k:Nat) (x:AX) (g:Nat):AO:=⟨some d,.fa k x,some (g,false),false,[]⟩
abbrev AO.h2 (d n:Nat) (x:AX) (g:Nat):AO:=⟨some d,.ld false n x,some (g,false),false,[]⟩
abbrev AO.h3 (d:Nat) (x:AX) (g:Nat):AO:=⟨some d,.mv x,some (g,false),false,[]⟩
abbrev AO.p1 (d:Nat) (c b:AX):AO:=⟨some d,.pick c (.k (.c (.sc (.bool true)))) b,none,false,[]⟩
abbrev AO.p2 (d:Nat) (c a:AX):AO:=⟨some d,.pick c a (.k (.c (.sc (.bool false)))),none,false,[]⟩
abbrev AO.u1 (d:Nat) (x:AX):AO:=⟨some d,.un .not x,none,false,[]⟩
abbrev AO.x1 (d:Nat) (x:AX):AO:=⟨some d,.box x,none,false,[]⟩
abbrev AO.k1 (d:Nat) (x:AX):AO:=⟨some d,.nck x,none,false,[]⟩
abbrev AO.a2 (d z e:Nat):AO:=⟨some d,.asn (.k .nil) z e,none,false,[]⟩
abbrev zE:List PV:=[sE,B false,sE]
abbrev XC.ic (a b i:Nat):XC := .reg true [⟨some a,.mv (.t i),none,false,[]⟩,⟨some b,.bin .add (.t a) (.k (.c (.sc (.int .i64 1)))),none,false,[]⟩,⟨some i,.mv (.t b),none,false,[]⟩]
abbrev XC.ce (c i:Nat):XC := .cnd (.t c) .skip (.exit i)
abbrev XC.rf (d:Nat):XC := .seq (.reg true [⟨some d,.mv (.k (.c (.sc (.bool false)))),none,false,[]⟩]) .ret
abbrev XC.rt (d:Nat):XC := .seq (.reg true [⟨some d,.mv (.k (.c (.sc (.bool true)))),none,false,[]⟩]) .ret
abbrev AO.gf (d:Nat) (o:AOp) (g:Nat):AO:=⟨some d,o,some (g,false),false,[]⟩
abbrev AO.exl (d:Nat) (o:AOp):AO:=⟨some d,o,none,true,[]⟩
abbrev AO.exo (tn:List Nat) (d:Nat) (o:AOp):AO:=⟨some d,o,none,true,tn⟩
abbrev AX.i (n:Int):AX := .k (.c (.sc (.int .i64 n)))
abbrev AX.u (n:Int):AX := .k (.c (.sc (.int .u8 n)))
abbrev AX.y:AX := .k (.c (.sc (.bool true)))
abbrev AX.n:AX := .k (.c (.sc (.bool false)))
abbrev AX.s (l:Str):AX := .k (.c (.sc (.string ⟨⟨l⟩⟩)))
abbrev XC.s (a b:XC):XC := .seq a b
abbrev XC.r (l:List AO):XC := .reg true l
abbrev XC.d (l:List AO):XC := .reg false l
class BP (b:Bool) (p n:outParam Prop):Prop where
 t:b=true→p
 f:b=false→n
instance (priority:=low) (b:Bool):BP b (b=true) (b=false):=⟨id,id⟩
instance (a b:Int):BP (ltI a b) (a < b) (b≤a):=⟨zba.1,za9.1⟩
instance (a b:Int):BP (leI a b) (a≤b) (b < a):=⟨zeh.1,zl8.1⟩
instance (a b:Int):BP (eqI a b) (a=b) (a≠b):=⟨Yd.1,zkm.1⟩
instance (a b:Str):BP (eqS a b) (a=b) (a≠b):=⟨zaD.1,zkn.1⟩
instance (a b:Bool):BP (eqB a b) (a=b) (a≠b):=⟨Yc.1,zkl.1⟩
instance (p:Prop) [Decidable p]:BP (decide p) p (¬ p):=⟨of_decide_eq_true,of_decide_eq_false⟩
instance (b:Bool) (p n:Prop) [h:BP b p n]:BP (!b) n p:=⟨fun e=>h.f (by simpa using e),fun e=>h.t (by simpa using e)⟩
theorem cP {b:Bool} {p n A B:Prop} [h:BP b p n] (h1:p→A) (h2:n→B):cndX b A B:=zcz (fun e=>h1 (h.t e)) fun e=>h2 (h.f e)
theorem oB {p A:Prop} (h:p) (k:A):Ob p A:=⟨h,k⟩
section
variable {α β:Type} {f:α→β} {L:List α}
theorem lM {K:Nat→Prop} (h:K L.length):LenX (L.map f) K:=⟨_,by simp,h⟩
theorem lmp:(L.map f).length=L.length:=List.length_map _
theorem lA {K:Nat→Prop} (h:K L.length):LenX L K:=⟨_,rfl,h⟩
theorem aM {k:Int} {j:Nat} {K:β→Prop} (hk:k=(j:Int)) (hj:j < L.length) (h:K (f L[j])):AtX k (L.map f) K:=⟨j,hk,f L[j],by simp [hj],h⟩
theorem aA {k:Int} {j:Nat} {K:α→Prop} (hk:k=(j:Int)) (hj:j < L.length) (h:K L[j]):AtX k L K:=⟨j,hk,L[j],by simp [hj],h⟩
theorem aE {k:Int} {j:Nat} {y:α} {K:α→Prop} (hk:k=(j:Int)) (hy:L[j]? = some y) (h:K y):AtX k L K:=⟨j,hk,y,hy,h⟩
theorem nC {j:Nat} {K:Nat→Prop} (h:K j):NatX (j:Int) K:=⟨j,rfl,h⟩
theorem sLo {k:Int} (l:Nat) {K:List α→Prop} (e:k=(l:Int)) (hl:l≤L.length) (h:K (L.drop l)):SubX L (some k) none K :=
 ⟨l,L.length,e,rfl,hl,Nat.le_refl _,by simpa using h⟩
theorem sHi {k:Int} (l:Nat) {K:List α→Prop} (e:k=(l:Int)) (hl:l≤L.length) (h:K (L.take l)):SubX L none (some k) K :=
 ⟨0,l,rfl,e,Nat.zero_le _,hl,by simpa using h⟩
theorem sBo {i k:Int} (l r:Nat) {K:List α→Prop} (e:i=(l:Int)) (e':k=(r:Int)) (hl:l≤r) (hr:r≤L.length) (h:K ((L.take r).drop l)):SubX L (some i) (some k) K :=
 ⟨l,r,e,e',hl,hr,h⟩
theorem sLoM {k:Int} (l:Nat) {K:List β→Prop} (e:k=(l:Int)) (hl:l≤L.length) (h:K ((L.drop l).map f)):SubX (L.map f) (some k) none K :=
 sLo l e (by simpa using hl) (by simpa [List.map_drop] using h)
theorem sHiM {k:Int} (l:Nat) {K:List β→Prop} (e:k=(l:Int)) (hl:l≤L.length) (h:K ((L.take l).map f)):SubX (L.map f) none (some k) K :=
 sHi l e (by simpa using hl) (by simpa [List.map_take] using h)
end
theorem zM {α:Type} {f:α→CV} {L:List α} {sz:Nat} (h:∀ a,(f a).cells.length=sz):Z1 sz (L.map f):=fun x hx=>by
 obtain ⟨a,_,rfl⟩:=List.mem_map.1 hx; exact h a
theorem zN {sz:Nat}:Z1 sz []:=fun _ h=>by cases h
theorem zC {sz:Nat} {x:CV} {L:List CV} (h:x.cells.length=sz) (hl:Z1 sz L):Z1 sz (x::L):=fun y hy=>by
 rcases List.mem_cons.1 hy with rfl | hy
 ·exact h
 ·exact hl y hy
theorem oA {p A:Prop} (k:A) (h:p:=by first|omega|rfl|exact zM fun _=>rfl|exact lmp|exact zC rfl zN|exact ⟨by omega,by omega⟩|exact congrArg I (by omega)):Ob p A:=⟨h,k⟩
theorem lF {α:Type} {x:α} {K:Nat→Prop} (h:K 1):LenX [x] K:=⟨1,rfl,h⟩
structure Hid (Q:Prop):Prop where
 out:Q
theorem dr {P Q:Prop} (q:Q) (h:Hid Q→P:=by intro q; (conv=>whnf); (repeat ((first|refine oA ?_|refine lM ?_|refine lF ?_|refine lA ?_|refine aM rfl (by omega) ?_|refine aA rfl (by omega) ?_|refine aA (j:=0) rfl (by omega) ?_|refine nC ?_); conv=>whnf)); exact q.out):P:=h ⟨q⟩
theorem dI {P Q:Prop} (h:Q):P→Q:=fun _=>h
theorem dEr {P Q:Prop} (q:Q) (h:Hid Q→P:=by intro q; (conv=>whnf); (repeat ((first|refine oA ?_|refine lM ?_|refine lF ?_|refine lA ?_|refine aM rfl (by omega) ?_|refine aA rfl (by omega) ?_|refine aA (j:=0) rfl (by omega) ?_|refine nC ?_|refine dI ?_); conv=>whnf)); exact q.out):P:=h ⟨q⟩
theorem dz {P:Prop} (h:P:=by (conv=>whnf); (repeat ((first|refine oA ?_|refine lM ?_|refine lF ?_|refine lA ?_|refine aM rfl (by omega) ?_|refine aA rfl (by omega) ?_|refine aA (j:=0) rfl (by omega) ?_|refine nC ?_|refine dI ?_); conv=>whnf))):P:=h
theorem fX {P:Program} {W0:World} {f:FuncId} {c:XC} {on:List FuncId} {ars:List AR} {n:Nat} {args:List CV} {r:CV} {F:Fr} (hm:P.follows .mixedOrders=true)
  (hc:zh P on f=some (c.ac,ars,n)) (h:(∀ x∈args,Good x)→xwp P W0 [] c (finC ars r) (fun _ _ _=>False) (finC ars r) F []) (hn:args.length≤n:=by simp) (hF:argF 0 (args.map .c)=F:=by rfl):Fn P W0 f args (.c r) []:=fnX hm hc hn hF h
theorem fW {P:Program} {W0:World} {f:FuncId} {c:XC} {on:List FuncId} {ars:List AR} {n:Nat} {args:List PV} {m:XM} {α:Type} {ok:α→Prop} {R:α→PV} {M:α→XM} {F:Fr} {k0:List Nat} (hm:P.follows .mixedOrders=true)
  (hc:zh P on f=some (c.ac,ars,n))
  (h:(∀ x∈args,qN x)→xwp P W0 k0 c (finX k0 ars fun r mx=>∃ a,ok a∧r=R a∧mx=M a) (fun _ _ _=>False) (finX k0 ars fun r mx=>∃ a,ok a∧r=R a∧mx=M a) F m)
  (hn:args.length≤n:=by simp) (hF:argF 0 args=F:=by rfl) (hk:m.map (·.1)=k0:=by rfl):zy P W0 f args m ok R M:=funW hm hc hn hF hk h
theorem c0 {P:Program} {W0:World} {f:FuncId} {cs:List CV} {r:PV} {own:Bool} {K:PV→XM→Prop} (hf:Fn P W0 f cs r []) (ho:(own||rlP r)=true) (k:K r []):CallX P W0 f cs own K :=
 ⟨r,[],hf,by cases own with | true=>exact .inl rfl | false=>exact .inr ⟨ho,rfl⟩,k⟩
theorem lp {k0:List Nat} {body:(Fr→XM→Prop)→Fr→XM→Prop} {F:Fr} {m:XM} {σ:Type} (fr:σ→Fr) (mm:σ→XM) (inv:σ→Prop) (me:σ→Nat) (x0:σ) (h0:inv x0) (hk:zH k0 none F m (fr x0) (mm x0))
  (hb:∀ x,inv x→body (fun F' m'=>∃ x',inv x'∧me x' < me x∧zH k0 none F' m' (fr x') (mm x')) (fr x) (mm x)):LoopX k0 body F m :=
 ⟨σ,fr,mm,inv,me,none,none,_,⟨x0,h0,hk⟩,fun _ _ _ h=>h,hb⟩
theorem lp2 {k0:List Nat} {body:(Fr→XM→Prop)→Fr→XM→Prop} {F:Fr} {m:XM} {α β:Type} (fr:α→β→Fr) (mm:α→β→XM) (inv:α→β→Prop) (me:α→β→Nat) (a0:α) (b0:β) (h0:inv a0 b0) (hk:zH k0 none F m (fr a0 b0) (mm a0 b0))
  (hb:∀ a b,inv a b→body (fun F' m'=>∃ a' b',inv a' b'∧me a' b' < me a b∧zH k0 none F' m' (fr a' b') (mm a' b')) (fr a b) (mm a b)):LoopX k0 body F m :=
 ⟨α × β,fun x=>fr x.1 x.2,fun x=>mm x.1 x.2,fun x=>inv x.1 x.2,fun x=>me x.1 x.2,none,none,fun x F' m'=>∃ a' b',inv a' b'∧me a' b' < me x.1 x.2∧zH k0 none F' m' (fr a' b') (mm a' b'),
  ⟨(a0,b0),h0,hk⟩,fun _ _ _ ⟨a,b,h⟩=>⟨(a,b),h⟩,fun x h=>hb x.1 x.2 h⟩
theorem lp3 {k0:List Nat} {body:(Fr→XM→Prop)→Fr→XM→Prop} {F:Fr} {m:XM} {α β γ:Type} (fr:α→β→γ→Fr) (mm:α→β→γ→XM) (inv:α→β→γ→Prop) (me:α→β→γ→Nat) (a0:α) (b0:β) (c0:γ) (h0:inv a0 b0 c0) (hk:zH k0 none F m (fr a0 b0 c0) (mm a0 b0 c0))
  (hb:∀ a b c,inv a b c→body (fun F' m'=>∃ a' b' c',inv a' b' c'∧me a' b' c' < me a b c∧zH k0 none F' m' (fr a' b' c') (mm a' b' c')) (fr a b c) (mm a b c)):LoopX k0 body F m :=
 ⟨α × β × γ,fun x=>fr x.1 x.2.1 x.2.2,fun x=>mm x.1 x.2.1 x.2.2,fun x=>inv x.1 x.2.1 x.2.2,fun x=>me x.1 x.2.1 x.2.2,none,none,fun x F' m'=>∃ a' b' c',inv a' b' c'∧me a' b' c' < me x.1 x.2.1 x.2.2∧zH k0 none F' m' (fr a' b' c') (mm a' b' c'),
  ⟨(a0,b0,c0),h0,hk⟩,fun _ _ _ ⟨a,b,c,h⟩=>⟨(a,b,c),h⟩,fun x h=>hb x.1 x.2.1 x.2.2 h⟩
theorem lz {k0:List Nat} {body:(Fr→XM→Prop)→Fr→XM→Prop} {F:Fr} {m:XM} {σ:Type} (z:Nat) (fr:σ→Fr) (mm:σ→XM) (inv:σ→Prop) (me:σ→Nat) (x0:σ) (h0:inv x0) (hk:zH k0 (some z) F m (fr x0) (mm x0))
  (hb:∀ x,inv x→body (fun F' m'=>∃ x',inv x'∧me x' < me x∧zH k0 none F' m' (fr x') (mm x')) (fr x) (mm x)):LoopX k0 body F m :=
 ⟨σ,fr,mm,inv,me,some z,none,_,⟨x0,h0,hk⟩,fun _ _ _ h=>h,hb⟩
theorem lz2 {k0:List Nat} {body:(Fr→XM→Prop)→Fr→XM→Prop} {F:Fr} {m:XM} {α β:Type} (z:Nat) (fr:α→β→Fr) (mm:α→β→XM) (inv:α→β→Prop) (me:α→β→Nat) (a0:α) (b0:β) (h0:inv a0 b0) (hk:zH k0 (some z) F m (fr a0 b0) (mm a0 b0))
  (hb:∀ a b,inv a b→body (fun F' m'=>∃ a' b',inv a' b'∧me a' b' < me a b∧zH k0 none F' m' (fr a' b') (mm a' b')) (fr a b) (mm a b)):LoopX k0 body F m :=
 ⟨α × β,fun x=>fr x.1 x.2,fun x=>mm x.1 x.2,fun x=>inv x.1 x.2,fun x=>me x.1 x.2,some z,none,fun x F' m'=>∃ a' b',inv a' b'∧me a' b' < me x.1 x.2∧zH k0 none F' m' (fr a' b') (mm a' b'),
  ⟨(a0,b0),h0,hk⟩,fun _ _ _ ⟨a,b,h⟩=>⟨(a,b),h⟩,fun x h=>hb x.1 x.2 h⟩
theorem cutz {k0:List Nat} {a:(Fr→XM→Prop)→Fr→XM→Prop} {b:Fr→XM→Prop} {F:Fr} {m:XM} {σ:Type} (z:Nat) (fr:σ→Fr) (mm:σ→XM) (inv:σ→Prop)
  (ha:a (fun F' m'=>∃ x,inv x∧zH k0 (some z) F' m' (fr x) (mm x)) F m) (hb:∀ x,inv x→b (fr x) (mm x)):CutX k0 a b F m:=⟨σ,fr,mm,inv,some z,_,ha,fun _ _ h=>h,hb⟩
theorem jM {α:Type} {f:α→CV} {L:List α} (h:Good (.row (L.map f))):L.length≤9223372036854775807:=by
 cases h with
 | row h _=>simpa [maxLen] using h
theorem Ys {cs:List CV} (h:Good (.agg cs)):∀ x∈cs,Good x:=by
 cases h with
 | agg h=>exact h
theorem Jp {s:Str} (h:Good (CS s)):s.length≤9223372036854775807:=by
 cases h with
 | sc h=>simpa [wfv,maxLen,ByteArray.size] using h
structure Ent where
 path:Str
 dir:Bool
 data:Str
deriving DecidableEq
structure Op where
 kind:Int
 path:Str
 dest:Str
 data:Str
deriving DecidableEq
structure Mark where
 path:Str
 kind:Int
 data:Str
deriving DecidableEq
structure Over where
 base:List Ent
 layers:List (List Mark)
 upper:List Mark
deriving DecidableEq
def zv (e:Ent):CV := .agg [CS e.path,CB e.dir,CS e.data]
def zm (m:Mark):CV := .agg [CS m.path,CI m.kind,CS m.data]
def zj (t:List Ent):CV := .row (t.map zv)
def zd (l:List Mark):CV := .row (l.map zm)
def zT (l:List (List Mark)):CV := .row (l.map zd)
def zY (o:Over):CV := .agg [zj o.base,zT o.layers,zd o.upper]
def jV (l:List Str):CV := .row (l.map CS)
theorem dT {p:Prop} [Decidable p] (h:p):CB true=CB (decide p):=by rw [decide_eq_true h]
theorem dF {p:Prop} [Decidable p] (h:¬ p):CB false=CB (decide p):=by rw [decide_eq_false h]
theorem bT {b:Bool} (h:b=true):CB true=CB b:=by rw [h]
theorem bF {b:Bool} (h:b=false):CB false=CB b:=by rw [h]
theorem QU (a b:Ent):(eqS a.path b.path&&(eqB a.dir b.dir&&(eqS a.data b.data&&true)))=decide (a=b):=by
 cases a; cases b; rw [Bool.eq_iff_iff]; simp [Ja,zaz]
theorem bqMark (a b:Mark):(eqS a.path b.path&&(eqI a.kind b.kind&&(eqS a.data b.data&&true)))=decide (a=b):=by
 cases a; cases b; rw [Bool.eq_iff_iff]; simp [Ja,yu]
theorem QL {α:Type} {a b:List α} {k:Nat} (ha:k < a.length) (hb:k < b.length) (h:a.take k=b.take k) (he:a[k]=b[k]):a.take (k+1)=b.take (k+1):=by
 rw [List.take_succ_eq_append_getElem ha,List.take_succ_eq_append_getElem hb,h,he]
theorem J5 {α:Type} {a b:List α} (hl:a.length=b.length) (h:a.take a.length=b.take a.length):a=b:=by
 rw [List.take_length,hl,List.take_length] at h; exact h
theorem Qt {α:Type} {a b:List α} {k:Nat} (ha:k < a.length) (hb:k < b.length) (he:a[k]≠b[k]):a≠b:=by rintro rfl; exact he rfl
theorem Qu {α:Type} {a b:List α} (h:a.length≠b.length):a≠b:=by rintro rfl; exact h rfl
theorem QD {α β:Type} {f:α→β} {t:List α} {k:Nat} {z:β} (h:k < t.length):((t.take k).map f++List.replicate (t.length - k) z).set k (f t[k])=(t.take (k+1)).map f++List.replicate (t.length - (k+1)) z:=by
 have e:t.length - k=(t.length - (k+1))+1:=by omega
 have e2:k - ((t.take k).map f).length=0:=by simp; omega
 rw [e,List.replicate_succ,List.set_append_right _ _ (by simp; omega),List.take_succ_eq_append_getElem h,e2,List.map_append,List.append_assoc];rfl
theorem Qg {α β:Type} {f:α→β} {t:List α} {k:Nat} {z:β} (h:k < t.length):((t.take k).map f++List.replicate (t.length - k) z)[k]? = some z:=by
 rw [List.getElem?_append_right (by simp; omega),List.getElem?_replicate,if_pos (by simp; omega)]
theorem Zc {α β:Type} {f:α→β} {t:List α} {k:Nat} {z:β} (h:k≤t.length):((t.take k).map f++List.replicate (t.length - k) z).length=t.length:=by simp; omega
theorem tmn {α:Type} {f:α→CV} {t:List α} {k n e:Nat} (h:k < t.length):XB.row ((t.take k).map f++[f t[k]]) n e = .row ((t.take (k+1)).map f) n e:=by
 rw [List.take_succ_eq_append_getElem h,List.map_append]; rfl

def cut (c:UInt8):Str→List Str
 | []=>[[]]
 | b::t=>if b=c then []::cut c t else match cut c t with
  | []=>[[b]]
  | h::r=>(b::h)::r
theorem zat (c:UInt8):∀ s,cut c s≠[]
 | []=>by simp [cut]
 | b::t=>by
  unfold cut;split
  ·simp
  ·split<;>simp
theorem Q5 {c:UInt8}:∀ {s:Str},c ∉ s→cut c s=[s]
 | [],_=>rfl
 | b::t,h=>by
  simp only [List.mem_cons,not_or] at h;unfold cut;rw [if_neg (fun e=>h.1 e.symm),Q5 h.2]
theorem Q4 {c:UInt8}:∀ {a:Str} (b:Str),c ∉ a→cut c (a++c::b)=a::cut c b
 | [],b,_=>by simp [cut]
 | x::a,b,h=>by
  simp only [List.mem_cons,not_or] at h;rw [List.cons_append,cut,if_neg (fun e=>h.1 e.symm),Q4 b h.2]
def jn (ns:List Str):Str:=ns.flatMap (47::·)
theorem zd7:∀ (s:Str),jn (cut 47 s)=47::s
 | []=>rfl
 | b::t=>by
  have ih:=zd7 t;unfold cut;split
  ·rename_i hb; subst hb; simp only [jn,List.flatMap_cons] at ih ⊢; rw [ih]; rfl
  ·split
   ·rename_i hc; exact absurd hc (zat _ _)
   ·rename_i x r hc;rw [hc] at ih;simp only [jn,List.flatMap_cons,List.cons_append,List.cons.injEq,true_and] at ih ⊢;rw [ih]
theorem zas:∀ {n:Str} {ns:List Str},(∀ x∈n::ns,(47:UInt8) ∉ x)→cut 47 (n++jn ns)=n::ns
 | n,[],h=>by simp [jn]; exact Q5 (h n (by simp))
 | n,m::ns,h=>by
  have:jn (m::ns)=47::(m++jn ns):=rfl;rw [this,Q4 _ (h n (by simp)),zas fun x hx=>h x (by simp at hx ⊢; exact .inr hx)]
def jt (b:UInt8):Bool:=97≤b.toNat&&b.toNat≤122
def jq (n:Str):Bool:=n.all jt&&(1≤n.length&&n.length≤3)
theorem zbj {n:Str} (h:jq n=true):(47:UInt8) ∉ n:=by
 intro hm;simp only [jq,Bool.and_eq_true,List.all_eq_true] at h;have:=h.1 _ hm;simp [jt] at this
def names (s:Str):List Str:=if s.length < 2∨s.head? ≠ some 47 then [] else cut 47 s.tail
def pOk (s:Str):Bool:=s.length≤12&&((names s).all jq&&(1≤(names s).length&&(names s).length≤3))
theorem ze1 {s:Str}:pOk s=true↔∃ ns:List Str,(1≤ns.length∧ns.length≤3)∧(∀ n∈ns,jq n=true)∧s=jn ns:=by
 constructor
 ·intro h;simp only [pOk,Bool.and_eq_true,decide_eq_true_eq,List.all_eq_true] at h;obtain ⟨_,h1,h2,h3⟩:=h;refine ⟨names s,⟨h2,h3⟩,h1,?_⟩;unfold names at h2 ⊢;split at h2
  ·simp at h2
  ·rename_i hc;rw [if_neg hc,zd7];cases s with
   | nil=>simp at hc
   | cons b t=>simp at hc; simp [hc.2]
 ·rintro ⟨ns,⟨h1,h2⟩,h3,rfl⟩;cases ns with
  | nil=>simp at h1
  | cons n ns =>
   have hno:∀ x∈n::ns,(47:UInt8) ∉ x:=fun x hx=>zbj (h3 x hx)
   have e:jn (n::ns)=47::(n++jn ns):=rfl;have hlen:∀ (ns:List Str),(∀ n∈ns,jq n=true)→(jn ns).length≤4 * ns.length:=by
    intro ns;induction ns with
    | nil=>intro _; simp [jn]
    | cons a l ih =>
     intro h;have:=ih fun n hn=>h n (by simp [hn])
     have ha:=h a (by simp);simp only [jq,Bool.and_eq_true,decide_eq_true_eq] at ha;have e:jn (a::l)=47::(a++jn l):=rfl;rw [e]; simp; omega
   have hn:=h3 n (by simp);simp only [jq,Bool.and_eq_true,decide_eq_true_eq] at hn;have hnm:names (jn (n::ns))=n::ns:=by
    unfold names;rw [e];rw [if_neg (by simp; omega)];exact zas hno
   simp only [pOk,Bool.and_eq_true,decide_eq_true_eq,List.all_eq_true,hnm];have:=hlen _ h3;exact ⟨by omega,h3,h1,h2⟩
theorem zeI {ns:List Str} (h1:1≤ns.length) (h3:∀ n∈ns,jq n=true):names (jn ns)=ns:=by
 cases ns with
 | nil=>simp at h1
 | cons n ns =>
  have hno:∀ x∈n::ns,(47:UInt8) ∉ x:=fun x hx=>zbj (h3 x hx)
  have e:jn (n::ns)=47::(n++jn ns):=rfl;have hn:=h3 n (by simp);simp only [jq,Bool.and_eq_true,decide_eq_true_eq] at hn;unfold names;rw [e,if_neg (by simp; omega)];exact zas hno
theorem zd6 (a b:List Str):jn (a++b)=jn a++jn b:=by simp [jn]
theorem qS {s:Str} (h:pOk s=true):(1≤(names s).length∧(names s).length≤3)∧(∀ n∈names s,jq n=true)∧s=jn (names s):=by
 obtain ⟨ns,h1,h2,rfl⟩:=ze1.1 h;rw [zeI h1.1 h2];exact ⟨h1,h2,rfl⟩
theorem yg {s:Str} (h:pOk s=true):2≤s.length∧s.length≤12∧s.head? = some 47:=by
 have h12:s.length≤12:=by simp only [pOk,Bool.and_eq_true,decide_eq_true_eq] at h; exact h.1
 obtain ⟨⟨h1,_⟩,_,_⟩:=qS h;unfold names at h1;split at h1
 ·simp at h1
 ·rename_i hc; simp only [not_or,Nat.not_lt,ne_eq,Classical.not_not] at hc; exact ⟨hc.1,h12,hc.2⟩
def pUp (s:Str):Str:=if pOk s then (if (names s).length=1 then [47] else jn (names s).dropLast) else []
def pName (s:Str):Str:=if pOk s then (names s).getLast?.getD [] else []
def und (s d:Str):Bool:=d==[47]||(d++[47]).isPrefixOf s
def j9 (s f t:Str):Option Str:=if (pOk s&&pOk f&&pOk t)=true then (if (s != f&&!und s f)=true then some s else if pOk (t++s.drop f.length)=true then some (t++s.drop f.length) else none) else none
theorem JB {s:Str} (h:pOk s=true):∃ a l,s=a++47::l∧(47:UInt8) ∉ l∧a=jn (names s).dropLast∧(names s).getLast? = some l∧jq l=true∧(a=[]↔(names s).length=1)∧pName s=l∧pUp s=(if a=[] then [47] else a):=by
 obtain ⟨⟨h1,h2⟩,h3,h4⟩:=qS h;obtain ⟨l,hl⟩:∃ l,(names s).getLast? = some l:=by
  cases hn:names s with
  | nil=>rw [hn] at h1; simp at h1
  | cons x r=>exact ⟨_,List.getLast?_eq_some_getLast (by simp)⟩
 have hsp:names s=(names s).dropLast++[l]:=by
  obtain ⟨hne,e⟩:=List.getLast?_eq_some_iff.1 hl;rw [e]; simp
 have hlm:l∈names s:=by rw [hsp]; simp
 have ha:(jn (names s).dropLast=[]↔(names s).length=1):=by
  cases hd:(names s).dropLast with
  | nil =>
   have:(names s).length=1:=by rw [hsp,hd]; rfl
   simp [jn,this]
  | cons x r =>
   have:(names s).length=r.length+2:=by rw [hsp,hd]; simp
   simp [jn,this]
 refine ⟨jn (names s).dropLast,l,?_,zbj (h3 l hlm),rfl,hl,h3 l hlm,ha,?_,?_⟩
 ·have e:jn (names s)=jn (names s).dropLast++jn [l]:=by rw [← zd6,← hsp]
  rw [h4.symm] at e
  simpa [jn] using e
 ·simp [pName,h,hl]
 ·unfold pUp;rw [if_pos h];by_cases hc:(names s).length=1
  ·rw [if_pos hc,if_pos (ha.2 hc)]
  ·rw [if_neg hc,if_neg (fun e=>hc (ha.1 e))]
theorem qJ {α:Type} {q:α→Bool} {l:List α} {k:Nat} (h:k < l.length) (h1:(l.take k).all q=true) (h2:q l[k]=true):(l.take (k+1)).all q=true:=by
 rw [List.take_succ_eq_append_getElem h,List.all_append,h1]; simp [h2]
theorem Z2 {α:Type} {q:α→Bool} {l:List α} {k:Nat} (h:k < l.length) (h2:q l[k]=false):l.all q=false:=by
 rw [List.all_eq_false]; exact ⟨l[k],List.getElem_mem h,by simp [h2]⟩

theorem Qq (b:Str):ltS [] b=!b.isEmpty:=by rw [Zf]; cases b<;>rfl
theorem zbb (x:UInt8) (a:Str):ltS (x::a) []=false:=by rw [Zf]; rfl
theorem Qo (x y:UInt8) (a b:Str):ltS (x::a) (y::b)=(x < y||(x==y&&ltS a b)):=by rw [Zf,Zf]; rfl
theorem yc:∀ (a:Str),ltS a a=false
 | []=>by rw [Qq]; rfl
 | x::a=>by rw [Qo,yc a]; simp
theorem yX:∀ {a b c:Str},ltS a b=true→ltS b c=true→ltS a c=true
 | [],b,[],h1,h2=>by cases b with
  | nil=>rw [yc] at h1; cases h1
  | cons y b=>rw [zbb] at h2; cases h2
 | [],_,z::c,_,_=>by rw [Qq]; rfl
 | x::a,[],c,h1,_=>by rw [zbb] at h1; cases h1
 | x::a,y::b,[],_,h2=>by rw [zbb] at h2; cases h2
 | x::a,y::b,z::c,h1,h2=>by
  rw [Qo] at h1 h2 ⊢;simp only [Bool.or_eq_true,Bool.and_eq_true,decide_eq_true_eq,beq_iff_eq] at h1 h2 ⊢;simp only [UInt8.lt_iff_toNat_lt] at h1 h2 ⊢;rcases h1 with h1 | ⟨rfl,h1⟩<;>rcases h2 with h2 | ⟨rfl,h2⟩
  ·left; omega
  ·left; exact h1
  ·left; exact h2
  ·right; exact ⟨rfl,yX h1 h2⟩
theorem YB:∀ (a b:Str),a=b∨ltS a b=true∨ltS b a=true
 | [],[] => .inl rfl
 | [],y::b=>by rw [Qq]; simp
 | x::a,[]=>by rw [Qq (x::a)]; simp
 | x::a,y::b=>by
  rw [Qo,Qo];rcases YB a b with h | h | h
  ·subst h;simp only [Bool.or_eq_true,decide_eq_true_eq,Bool.and_eq_true,beq_iff_eq,UInt8.lt_iff_toNat_lt];rcases Nat.lt_trichotomy x.toNat y.toNat with h | h | h
   ·right; left; left; exact h
   ·left; rw [UInt8.toNat_inj.1 h]
   ·right; right; left; exact h
  ·simp only [Bool.or_eq_true,decide_eq_true_eq,Bool.and_eq_true,beq_iff_eq,UInt8.lt_iff_toNat_lt];rcases Nat.lt_trichotomy x.toNat y.toNat with h' | h' | h'
   ·right; left; left; exact h'
   ·right; left; right; exact ⟨UInt8.toNat_inj.1 h',h⟩
   ·right; right; left; exact h'
  ·simp only [Bool.or_eq_true,decide_eq_true_eq,Bool.and_eq_true,beq_iff_eq,UInt8.lt_iff_toNat_lt];rcases Nat.lt_trichotomy x.toNat y.toNat with h' | h' | h'
   ·right; left; left; exact h'
   ·right; right; right; exact ⟨(UInt8.toNat_inj.1 h').symm,h⟩
   ·right; right; left; exact h'
theorem ZL {a b:Str} (h:ltS a b=true):ltS b a=false:=by
 cases h':ltS b a with
 | false=>rfl
 | true=>have:=yX h h'; rw [yc] at this; cases this
theorem yC {a b:Str} (h:ltS a b=true):a≠b:=by rintro rfl; rw [yc] at h; cases h
theorem Qp {a b:Str} (h:ltS a b=false):a=b∨ltS b a=true:=by
 rcases YB a b with h' | h' | h'
 ·exact .inl h'
 ·rw [h] at h'; cases h'
 ·exact .inr h'
theorem zer (a:Str) (x:UInt8) (r:Str):ltS a (a++x::r)=true:=by
 induction a with
 | nil=>rw [Qq]; rfl
 | cons y a ih=>rw [List.cons_append,Qo,ih]; simp
def jL (b:UInt8):Bool:=jt b||(48≤b.toNat&&b.toNat≤57)
def j2 (s:Str):Bool:=s.all jL&&s.length≤6
def find (t:List Ent) (p:Str):Option Ent:=t.find? fun e=>e.path==p
def idx (t:List Ent) (p:Str):Int:=match t.findIdx? (fun e=>e.path==p) with
 | some i=>i
 | none => -1
def YX:Ent:=⟨[47],true,[]⟩
def noE:Ent:=⟨[],false,[]⟩
def get (t:List Ent) (p:Str):Option Ent:=if p=[47] then some YX else find t p
def zR (t:List Ent) (p:Str):Bool:=match get t p with
 | some e=>e.dir
 | none=>false
def eEntO:Option Ent→CV
 | none => .tup [zv noE,CB false]
 | some e => .tup [zv e,CB true]
theorem Yu (t:List Ent) (p:Str):(idx t p = -1∧find t p=none∧∀ e∈t,e.path≠p)∨∃ j,∃ h:j < t.length,idx t p=(j:Int)∧find t p=some t[j]∧t[j].path=p∧∀ i (h':i < t.length),i < j→t[i].path≠p:=by
 unfold idx find;cases hf:t.findIdx? (fun e=>e.path==p) with
 | none =>
  left;have hn:=List.findIdx?_eq_none_iff.1 hf;refine ⟨rfl,List.find?_eq_none.2 fun e he=>by simpa using hn e he,fun e he=>by simpa using hn e he⟩
 | some j =>
  right;obtain ⟨h,h1,h2⟩:=List.findIdx?_eq_some_iff_getElem.1 hf;refine ⟨j,h,rfl,?_,by simpa using h1,fun i h' hi=>by simpa using h2 i hi⟩;rw [List.find?_eq_some_iff_getElem];exact ⟨h1,j,h,rfl,fun i hi=>by simpa using h2 i hi⟩
theorem zlR {t:List Ent} {p:Str} {k:Nat} (h:k < t.length) (hp:t[k].path=p) (hn:∀ i (h':i < t.length),i < k→t[i].path≠p):idx t p=(k:Int):=by
 rcases Yu t p with ⟨_,_,h3⟩ | ⟨j,hj,h1,_,h2,h3⟩
 ·exact absurd hp (h3 _ (List.getElem_mem h))
 ·rcases Nat.lt_trichotomy j k with h' | h' | h'
  ·exact absurd h2 (hn j hj h')
  ·rw [h1,h']
  ·exact absurd hp (h3 k h h')
theorem zlS {t:List Ent} {p:Str} (hn:∀ i (h':i < t.length),t[i].path≠p):idx t p = -1:=by
 rcases Yu t p with ⟨h,_⟩ | ⟨j,hj,_,_,h2,_⟩
 ·exact h
 ·exact absurd h2 (hn j hj)
theorem jX {t:List Ent} {p:Str} {e:Ent} (h:find t p=some e):e.path=p∧e∈t:=by
 unfold find at h;exact ⟨by simpa using List.find?_some h,List.mem_of_find?_eq_some h⟩
def ok1 (pre:List Ent) (e:Ent):Bool:=pOk e.path&&(j2 e.data&&(!(e.dir&&e.data != [])&&((match pre.getLast? with
 | none=>true
 | some l=>ltS l.path e.path)&&zR pre (pUp e.path))))
def okA:List Ent→List Ent→Bool
 | _,[]=>true
 | pre,e::r=>ok1 pre e&&okA (pre++[e]) r
def tOk (t:List Ent):Bool:=t.length≤16&&okA [] t
theorem zeO:∀ {r pre:List Ent},okA pre r=true↔∀ j (h:j < r.length),ok1 (pre++r.take j) r[j]=true
 | [],pre=>by simp [okA]
 | e::r,pre=>by
  rw [okA,Bool.and_eq_true,zeO (r:=r)];constructor
  ·rintro ⟨h1,h2⟩ j hj;cases j with
   | zero=>rw [List.take_zero,List.append_nil]; exact h1
   | succ j=>have:=h2 j (by simpa using hj); simpa using this
  ·intro h;refine ⟨by have:=h 0 (by simp); rw [List.take_zero,List.append_nil] at this; exact this,fun j hj=>?_⟩;have:=h (j+1) (by simpa using hj)
   simpa using this
theorem okA0 {t:List Ent}:okA [] t=true↔∀ j (h:j < t.length),ok1 (t.take j) t[j]=true:=by
 rw [zeO]; simp

theorem zad {α:Type} {q:α→Bool}:∀ {t:List α} {k:Nat},(t.take k).all q=true→(∀ h:k < t.length,q t[k]=false)→t.takeWhile q=t.take k∧t.dropWhile q=t.drop k
 | [],_,_,_=>by simp
 | x::t,0,_,h2=>by
  have:=h2 (by simp);simp only [List.getElem_cons_zero] at this;simp [this]
 | x::t,k+1,h1,h2=>by
  simp only [List.take_succ_cons,List.all_cons,Bool.and_eq_true] at h1;have:=zad (t:=t) (k:=k) h1.2 fun h=>by have:=h2 (by simpa using h); simpa using this
  simp [h1.1,this.1,this.2]
def zO {α:Type} (key:α→Str) (t:List α) (e:α):List α :=
 t.takeWhile (fun x=>ltS (key x) (key e))++e::(match t.dropWhile (fun x=>ltS (key x) (key e)) with
  | []=>[]
  | x::r=>if key x=key e then r else x::r)
abbrev put:=zO Ent.path
abbrev lput:=zO Mark.path
theorem yF {α:Type} {key:α→Str} {t:List α} {e:α}:(zO key t e).length≤t.length+1:=by
 have h:=congrArg List.length (List.takeWhile_append_dropWhile (p:=fun x=>ltS (key x) (key e)) (l:=t));rw [List.length_append] at h;unfold zO;rw [List.length_append,List.length_cons];split
 ·simp; omega
 ·rename_i hc;rw [hc] at h;split<;>simp at h ⊢<;>omega
theorem ze8 {α:Type} {key:α→Str} {t:List α} {e:α} {k:Nat} (hk:¬ k < t.length) (h1:(t.take k).all (fun x=>ltS (key x) (key e))=true):zO key t e=t.take k++[e]:=by
 obtain ⟨e1,e2⟩:=zad h1 fun h=>absurd h hk
 unfold zO;rw [e1,e2,List.drop_of_length_le (by omega)]
theorem ze9 {α:Type} {key:α→Str} {t:List α} {e:α} {k:Nat} (hk:k < t.length) (h1:(t.take k).all (fun x=>ltS (key x) (key e))=true) (h2:ltS (key t[k]) (key e)=false) (h3:key t[k]≠key e):zO key t e=t.take k++e::t.drop k:=by
 obtain ⟨e1,e2⟩:=zad h1 fun _=>h2
 unfold zO;rw [e1,e2,List.drop_eq_getElem_cons hk];simp only [if_neg h3]
theorem ze6 {α:Type} {key:α→Str} {t:List α} {e:α} {k:Nat} (hk:k < t.length) (h1:(t.take k).all (fun x=>ltS (key x) (key e))=true) (h2:ltS (key t[k]) (key e)=false) (h3:key t[k]=key e):zO key t e=t.take k++e::t.drop (k+1):=by
 obtain ⟨e1,e2⟩:=zad h1 fun _=>h2
 unfold zO;rw [e1,e2,List.drop_eq_getElem_cons hk];simp only [if_pos h3]
def both (a b:List Ent):List Ent:=b.foldl put a
def tudP (a b:List Ent) (e:Ent):Bool:=decide (get a e.path≠get b e.path)
def z6 (a b:List Ent):List Str:=((both a b).filter (tudP a b)).map (·.path)
def zt (l:List Mark) (p:Str):Option Mark:=l.find? fun m=>m.path==p
def midx (l:List Mark) (p:Str):Int:=match l.findIdx? (fun m=>m.path==p) with
 | some i=>i
 | none => -1
theorem zbf (t:List Mark) (p:Str):(midx t p = -1∧zt t p=none∧∀ e∈t,e.path≠p)∨∃ j,∃ h:j < t.length,midx t p=(j:Int)∧zt t p=some t[j]∧t[j].path=p∧∀ i (h':i < t.length),i < j→t[i].path≠p:=by
 unfold midx zt;cases hf:t.findIdx? (fun e=>e.path==p) with
 | none =>
  left;have hn:=List.findIdx?_eq_none_iff.1 hf;refine ⟨rfl,List.find?_eq_none.2 fun e he=>by simpa using hn e he,fun e he=>by simpa using hn e he⟩
 | some j =>
  right;obtain ⟨h,h1,h2⟩:=List.findIdx?_eq_some_iff_getElem.1 hf;refine ⟨j,h,rfl,?_,by simpa using h1,fun i h' hi=>by simpa using h2 i hi⟩;rw [List.find?_eq_some_iff_getElem];exact ⟨h1,j,h,rfl,fun i hi=>by simpa using h2 i hi⟩
theorem zmo {t:List Mark} {p:Str} {k:Nat} (h:k < t.length) (hp:t[k].path=p) (hn:∀ i (h':i < t.length),i < k→t[i].path≠p):midx t p=(k:Int):=by
 rcases zbf t p with ⟨_,_,h3⟩ | ⟨j,hj,h1,_,h2,h3⟩
 ·exact absurd hp (h3 _ (List.getElem_mem h))
 ·rcases Nat.lt_trichotomy j k with h' | h' | h'
  ·exact absurd h2 (hn j hj h')
  ·rw [h1,h']
  ·exact absurd hp (h3 k h h')
theorem zmp {t:List Mark} {p:Str} (hn:∀ i (h':i < t.length),t[i].path≠p):midx t p = -1:=by
 rcases zbf t p with ⟨h,_⟩ | ⟨j,hj,_,_,h2,_⟩
 ·exact h
 ·exact absurd h2 (hn j hj)
theorem qy {t:List Mark} {p:Str} {e:Mark} (h:zt t p=some e):e.path=p∧e∈t:=by
 unfold zt at h;exact ⟨by simpa using List.find?_some h,List.mem_of_find?_eq_some h⟩
def kind (l:List Mark) (p:Str):Int:=match zt l p with
 | some m=>m.kind
 | none=>0
def zQ (l:List Mark) (p:Str):Bool:=l.any fun m=>m.kind==4&&und p m.path
def inD (l:List Mark) (p:Str):Bool:=pUp p==[47]||(kind l (pUp p)==2||kind l (pUp p)==4)
def hidP (p:Str) (m:Mark):Bool:=(m.path==p&&m.kind != 2)||(m.kind != 2&&und p m.path)
def zw (l:List Mark) (p:Str):Bool:=l.any (hidP p)
def ye (pre:List Mark) (p:Str):Bool:=match pre.getLast? with
 | none=>true
 | some l=>ltS l.path p
def jc (pre:List Mark) (m:Mark):Bool:=(decide (1≤m.kind)&&decide (m.kind≤4))&&(pOk m.path&&(j2 m.data&&(!(m.kind != 1&&m.data != [])&&(ye pre m.path&&(inD pre m.path&&!(decide (2 < m.kind)&&zQ pre m.path))))))
def mokA:List Mark→List Mark→Bool
 | _,[]=>true
 | pre,e::r=>jc pre e&&mokA (pre++[e]) r
def lOk (l:List Mark):Bool:=l.length≤32&&mokA [] l
theorem zeE:∀ {r pre:List Mark},mokA pre r=true↔∀ j (h:j < r.length),jc (pre++r.take j) r[j]=true
 | [],pre=>by simp [mokA]
 | e::r,pre=>by
  rw [mokA,Bool.and_eq_true,zeE (r:=r)];constructor
  ·rintro ⟨h1,h2⟩ j hj;cases j with
   | zero=>rw [List.take_zero,List.append_nil]; exact h1
   | succ j=>have:=h2 j (by simpa using hj); simpa using this
  ·intro h;refine ⟨by have:=h 0 (by simp); rw [List.take_zero,List.append_nil] at this; exact this,fun j hj=>?_⟩;have:=h (j+1) (by simpa using hj)
   simpa using this
theorem YK {t:List Mark}:mokA [] t=true↔∀ j (h:j < t.length),jc (t.take j) t[j]=true:=by
 rw [zeE]; simp
def onP (out:List Ent) (m:Mark):List Ent:=if m.kind=1 then put out ⟨m.path,false,m.data⟩ else if m.kind=2∨m.kind=4 then put out ⟨m.path,true,[]⟩ else out
def jj (l:List Mark) (t:List Ent):List Ent:=l.foldl onP (t.filter fun e=>!zw l e.path)
def lOn (l:List Mark) (t:List Ent):Option (List Ent):=if (lOk l&&tOk t)=true then (if (jj l t).length≤16 then some (jj l t) else none) else none
def Q8:Option (List Ent)→CV
 | none => .tup [zj [],CB false]
 | some t => .tup [zj t,CB true]
def jl:Nat→Str→List Str
 | 0,_=>[]
 | n+1,p=>if pUp p=[47] then [] else pUp p::jl n (pUp p)
def upsP (l:List Mark) (u:Str):List Mark:=if kind l u=0 then lput l ⟨u,2,[]⟩ else l
def ups (l:List Mark) (p:Str):List Mark:=(jl 3 p).foldl upsP l
def zJ (tq:List Ent) (p:Str):Option Mark:=match get tq p with
 | some e=>some ⟨p,if e.dir=true then 2 else 1,e.data⟩
 | none=>if zR tq (pUp p)=true then some ⟨p,3,[]⟩ else none
def difP (tq:List Ent) (out:List Mark) (p:Str):List Mark:=match zJ tq p with
 | some m=>ups (lput out m) p
 | none=>out
def diff (a b:List Ent):List Mark:=(z6 a b).foldl (difP b) []
def lowerA:List (List Mark)→List Ent→Option (List Ent)
 | [],t=>some t
 | l::r,t=>match lOn l t with
  | some t'=>lowerA r t'
  | none=>none
def jk (o:Over):Option (List Ent):=if tOk o.base=true∧o.layers.length≤4 then lowerA o.layers o.base else none
def jO (o:Over):Option (List Ent):=match jk o with
 | some t=>lOn o.upper t
 | none=>none
def oOk (o:Over):Bool:=match jk o,jO o with
 | some t,some x=>decide (o.upper=diff t x)
 | _,_=>false
theorem zcK (o:Option Ent):eEntO o = .tup [zv (o.getD noE),CB o.isSome]:=by cases o<;>rfl
theorem znC {α:Type} {a b:Option α} {d:α}:a=b↔a.isSome=b.isSome∧a.getD d=b.getD d:=by cases a<;>cases b<;>simp
theorem qL {α β:Type} {f:β→α→β} {z:β} {l:List α} {k:Nat} (h:k < l.length):(l.take (k+1)).foldl f z=f ((l.take k).foldl f z) l[k]:=by
 rw [List.take_succ_eq_append_getElem h,List.foldl_append]; rfl
theorem Jh {α:Type} {q:α→Bool} {l:List α} {k:Nat} (h:k < l.length) (hq:q l[k]=true):(l.take (k+1)).filter q=(l.take k).filter q++[l[k]]:=by
 rw [List.take_succ_eq_append_getElem h,List.filter_append]; simp [hq]
theorem ZG {α:Type} {q:α→Bool} {l:List α} {k:Nat} (h:k < l.length) (hq:q l[k]=false):(l.take (k+1)).filter q=(l.take k).filter q:=by
 rw [List.take_succ_eq_append_getElem h,List.filter_append]; simp [hq]
theorem zdp {α:Type} {q:α→Bool} {l:List α} {k:Nat}:((l.take k).filter q).length≤l.length:=by
 have h1:=List.length_filter_le q (l.take k);have h2:=List.length_take_le' k l;omega
theorem Jj {α:Type} {key:α→Str}:∀ (l:List α) (t:List α),(l.foldl (zO key) t).length≤t.length+l.length
 | [],t=>by simp
 | e::l,t=>by
  have h:=Jj (key:=key) l (zO key t e);have h2:=yF (key:=key) (t:=t) (e:=e);simp only [List.foldl_cons,List.length_cons];omega
theorem zlw {α:Type} {key:α→Str} (l:List α) (t:List α) (k:Nat):((l.take k).foldl (zO key) t).length≤t.length+l.length:=by
 have h:=Jj (key:=key) (l.take k) t;have h2:=List.length_take_le' k l;omega
theorem yh {p:Str} (h:pOk p=true) (h2:pUp p≠[47]):pOk (pUp p)=true∧names (pUp p)=(names p).dropLast∧(names (pUp p)).length+1=(names p).length:=by
 obtain ⟨⟨h1,h3⟩,h4,_⟩:=qS h;have hl:(names p).length≠1:=by
  intro e; unfold pUp at h2; rw [if_pos h,if_pos e] at h2; exact h2 rfl
 have e:pUp p=jn (names p).dropLast:=by unfold pUp; rw [if_pos h,if_neg hl]
 have hd:∀ n∈(names p).dropLast,jq n=true:=fun n hn=>h4 n (List.dropLast_subset _ hn)
 have hdl:(names p).dropLast.length+1=(names p).length:=by rw [List.length_dropLast]; omega
 have hn:names (pUp p)=(names p).dropLast:=by rw [e]; exact zeI (by omega) hd
 exact ⟨ze1.2 ⟨_,⟨by omega,by omega⟩,hd,e⟩,hn,by rw [hn]; exact hdl⟩
theorem YG {α:Type} {key:α→Str} {t:List α} {e x:α} (h:x∈zO key t e):x=e∨x∈t:=by
 have hs:=List.takeWhile_append_dropWhile (p:=fun x=>ltS (key x) (key e)) (l:=t);unfold zO at h;rw [List.mem_append,List.mem_cons] at h;rw [← hs,List.mem_append];rcases h with h | h | h
 ·exact .inr (.inl h)
 ·exact .inl h
 ·split at h
  ·cases h
  ·rename_i hc;rw [hc];split at h
   ·exact .inr (.inr (by simp [h]))
   ·exact .inr (.inr h)
theorem zeu {α:Type} {key:α→Str}:∀ {l:List α} {t:List α} {x:α},x∈l.foldl (zO key) t→x∈l∨x∈t
 | [],_,_,h => .inr h
 | e::l,t,x,h=>by
  rcases zeu (l:=l) h with h | h
  ·exact .inl (by simp [h])
  ·rcases YG h with rfl | h
   ·exact .inl (by simp)
   ·exact .inr h
theorem y2 {t:List Ent} (h:tOk t=true):t.length≤16∧∀ j (h:j < t.length),ok1 (t.take j) t[j]=true:=by
 simp only [tOk,Bool.and_eq_true,decide_eq_true_eq] at h;exact ⟨h.1,okA0.1 h.2⟩
theorem zf6 {t:List Ent} (h:tOk t=true) {e:Ent} (he:e∈t):pOk e.path=true:=by
 obtain ⟨j,hj,rfl⟩:=List.mem_iff_getElem.1 he;have:=(y2 h).2 j hj;simp only [ok1,Bool.and_eq_true] at this;exact this.1
theorem zgg {a b:List Ent} (ha:tOk a=true) (hb:tOk b=true) {p:Str} (h:p∈z6 a b):pOk p=true:=by
 obtain ⟨e,he,rfl⟩:=List.mem_map.1 h;rcases zeu (List.mem_filter.1 he).1 with h | h
 ·exact zf6 hb h
 ·exact zf6 ha h
theorem zgf {a b:List Ent}:(z6 a b).length≤a.length+b.length:=by
 unfold z6;rw [List.length_map];have h1:=List.length_filter_le (tudP a b) (both a b);have h2:=Jj (key:=Ent.path) b a;have h3:(both a b).length≤a.length+b.length:=h2;omega
theorem zb2:∀ (n:Nat) (p:Str),(jl n p).length≤n
 | 0,_=>by simp [jl]
 | n+1,p=>by
  unfold jl;split
  ·simp
  ·have:=zb2 n (pUp p); simp; omega
theorem zou {l:List Mark} {u:Str}:(upsP l u).length≤l.length+1:=by
 unfold upsP;split
 ·exact yF
 ·omega
theorem zdM:∀ (us:List Str) (l:List Mark),(us.foldl upsP l).length≤l.length+us.length
 | [],l=>by simp
 | u::us,l=>by
  have h:=zdM us (upsP l u);have h2:=zou (l:=l) (u:=u);simp only [List.foldl_cons,List.length_cons];omega
theorem zov {l:List Mark} {p:Str}:(ups l p).length≤l.length+3:=by
 have h:=zdM (jl 3 p) l;have h2:=zb2 3 p;unfold ups;omega
theorem zkg {b:List Ent} {out:List Mark} {p:Str}:(difP b out p).length≤out.length+4:=by
 unfold difP;split
 ·rename_i m _;have h:=zov (l:=lput out m) (p:=p);have h2:(lput out m).length≤out.length+1:=yF;omega
 ·omega
theorem zdJ {b:List Ent}:∀ (ps:List Str) (out:List Mark),(ps.foldl (difP b) out).length≤out.length+4 * ps.length
 | [],l=>by simp
 | u::us,l=>by
  have h:=zdJ (b:=b) us (difP b l u);have h2:=zkg (b:=b) (out:=l) (p:=u);simp only [List.foldl_cons,List.length_cons];omega
theorem zmJ {out:List Ent} {m:Mark}:(onP out m).length≤out.length+1:=by
 unfold onP;split
 ·exact yF
 ·split
  ·exact yF
  ·omega
theorem zdK:∀ (l:List Mark) (out:List Ent),(l.foldl onP out).length≤out.length+l.length
 | [],out=>by simp
 | m::l,out=>by
  have h:=zdK l (onP out m);have h2:=zmJ (out:=out) (m:=m);simp only [List.foldl_cons,List.length_cons];omega
theorem Jt {l:List Mark} {t t':List Ent} (h:lOn l t=some t'):t'.length≤16∧lOk l=true∧tOk t=true∧t'=jj l t:=by
 unfold lOn at h;split at h
 ·rename_i hc;simp only [Bool.and_eq_true] at hc;split at h
  ·cases h; exact ⟨by assumption,hc.1,hc.2,rfl⟩
  ·cases h
 ·cases h

section
variable {α:Type} {key:α→Str}
def Srt (key:α→Str) (l:List α):Prop:=l.Pairwise fun a b=>ltS (key a) (key b)=true
def fnd (key:α→Str) (l:List α) (p:Str):Option α:=l.find? fun e=>key e==p
theorem Ym {p:Str}:fnd key [] p=none:=rfl
theorem jI {x:α} {l:List α} {p:Str}:fnd key (x::l) p=if key x=p then some x else fnd key l p:=by
 unfold fnd;rw [List.find?_cons];by_cases h:key x=p
 ·simp [h]
 ·have e:(key x==p)=false:=by simpa using h
  rw [e,if_neg h]
theorem qY {l:List α} {p:Str} {e:α} (h:fnd key l p=some e):key e=p∧e∈l:=by
 unfold fnd at h;exact ⟨by simpa using List.find?_some h,List.mem_of_find?_eq_some h⟩
theorem jW {l:List α} {p:Str}:fnd key l p=none↔∀ e∈l,key e≠p:=by
 unfold fnd; simp
theorem jQ {l:List α} (hs:Srt key l) {e:α} (h:e∈l):fnd key l (key e)=some e:=by
 induction l with
 | nil=>cases h
 | cons x l ih =>
  rw [jI];unfold Srt at hs;rw [List.pairwise_cons] at hs;rcases List.mem_cons.1 h with rfl | h
  ·simp
  ·rw [if_neg (yC (hs.1 e h)),ih hs.2 h]
theorem Ji {l:List α} (hs:Srt key l) {e:α}:e∈l↔fnd key l (key e)=some e:=⟨jQ hs,fun h=>(qY h).2⟩
theorem zlt {a b:List α} {p:Str}:fnd key (a++b) p=(fnd key a p).or (fnd key b p):=by
 unfold fnd; rw [List.find?_append]
theorem Y3 {a b:List α} (ha:Srt key a) (hb:Srt key b) (h:∀ p,fnd key a p=fnd key b p):a=b:=by
 induction a generalizing b with
 | nil =>
  cases b with
  | nil=>rfl
  | cons y b=>have:=h (key y); rw [jI,if_pos rfl,Ym] at this; cases this
 | cons x a ih =>
  cases b with
  | nil=>have:=h (key x); rw [jI,if_pos rfl,Ym] at this; cases this
  | cons y b =>
   unfold Srt at ha hb;rw [List.pairwise_cons] at ha hb;have hxy:key x=key y:=by
    apply Classical.byContradiction; intro hne;have h1:=h (key x);rw [jI,if_pos rfl,jI,if_neg (fun e=>hne e.symm)] at h1;have h2:=h (key y);rw [jI,if_neg hne,jI,if_pos rfl] at h2;have l1:=hb.1 x (qY h1.symm).2;have l2:=ha.1 y (qY h2).2;rw [ZL l1] at l2; cases l2
   have e:x=y:=by
    have:=h (key x);rw [jI,if_pos rfl,jI,if_pos hxy.symm] at this;exact Option.some.inj this
   subst e;rw [ih ha.2 hb.2 fun p=>?_];have:=h p;rw [jI,jI] at this;by_cases hp:key x=p
   ·subst hp;rw [jW.2 fun e he=>(yC (ha.1 e he)).symm,jW.2 fun e he=>(yC (hb.1 e he)).symm]
   ·rwa [if_neg hp,if_neg hp] at this
theorem ZV {l:List α} (hs:Srt key l) (q:α→Bool):Srt key (l.filter q):=List.Pairwise.filter _ hs
theorem zaQ {l:List α} (hs:Srt key l) {q:α→Bool} {p:Str}:fnd key (l.filter q) p=(fnd key l p).filter q:=by
 cases h:fnd key l p with
 | none =>
  rw [jW] at h;exact jW.2 fun e he=>h e (List.mem_filter.1 he).1
 | some e =>
  obtain ⟨h1,h2⟩:=qY h;subst h1;rw [Option.filter];split
  ·rename_i hq;exact jQ (ZV hs q) (List.mem_filter.2 ⟨h2,hq⟩)
  ·rename_i hq;refine jW.2 fun x hx e'=>?_
   have hx':=List.mem_filter.1 hx;have:=jQ hs hx'.1;rw [e',h] at this;cases this;exact hq hx'.2
theorem zfa {e:α}:zO key [] e=[e]:=rfl
theorem ze7 {x:α} {t:List α} {e:α}:zO key (x::t) e=if ltS (key x) (key e)=true then x::zO key t e else if key x=key e then e::t else e::x::t:=by
 unfold zO;by_cases h:ltS (key x) (key e)=true
 ·simp [h]
 ·simp [h];split<;>rfl
theorem yH {t:List α} {e:α} (hs:Srt key t):Srt key (zO key t e):=by
 induction t with
 | nil=>rw [zfa]; exact List.pairwise_singleton _ _
 | cons x t ih =>
  unfold Srt at hs;rw [List.pairwise_cons] at hs;rw [ze7];by_cases h:ltS (key x) (key e)=true
  ·rw [if_pos h];refine List.pairwise_cons.2 ⟨fun y hy=>?_,ih hs.2⟩;rcases YG hy with rfl | hy
   ·exact h
   ·exact hs.1 y hy
  ·rw [if_neg h];by_cases h2:key x=key e
   ·rw [if_pos h2];exact List.pairwise_cons.2 ⟨fun y hy=>by rw [← h2]; exact hs.1 y hy,hs.2⟩
   ·rw [if_neg h2];have h3:ltS (key e) (key x)=true:=by
     rcases Qp (by simpa using h) with h3 | h3
     ·exact absurd h3 h2
     ·exact h3
    refine List.pairwise_cons.2 ⟨fun y hy=>?_,List.pairwise_cons.2 hs⟩;rcases List.mem_cons.1 hy with rfl | hy
    ·exact h3
    ·exact yX h3 (hs.1 y hy)
theorem Qf {t:List α} {e:α} {p:Str}:fnd key (zO key t e) p=if key e=p then some e else fnd key t p:=by
 induction t with
 | nil=>rw [zfa,jI]
 | cons x t ih =>
  rw [ze7];by_cases h:ltS (key x) (key e)=true
  ·rw [if_pos h,jI,ih,jI];by_cases hx:key x=p
   ·rw [if_pos hx,if_pos hx,if_neg fun e'=>yC h (hx.trans e'.symm)]
   ·rw [if_neg hx,if_neg hx]
  ·rw [if_neg h];by_cases h2:key x=key e
   ·rw [if_pos h2,jI,jI];by_cases hx:key e=p
    ·rw [if_pos hx,if_pos hx]
    ·rw [if_neg hx,if_neg hx,if_neg (by rw [h2]; exact hx)]
   ·rw [if_neg h2,jI]
theorem Yn:∀ {l:List α} {t:List α},Srt key t→Srt key (l.foldl (zO key) t)
 | [],_,h=>h
 | _::l,_,h=>Yn (l:=l) (yH h)
theorem yZ {t:List α}:Srt key t↔∀ j (h:j+1 < t.length),ltS (key t[j]) (key t[j+1])=true:=by
 constructor
 ·intro hs j h;exact List.pairwise_iff_getElem.1 hs j (j+1) (by omega) h (by omega)
 ·intro h;refine List.pairwise_iff_getElem.2 fun i j hi hj hij=>?_
  obtain ⟨d,rfl⟩:∃ d,j=i+1+d:=⟨j - i - 1,by omega⟩;induction d with
  | zero=>exact h i hj
  | succ d ih=>exact yX (ih (by omega) (by omega)) (h (i+1+d) hj)
theorem zaR {t:List α} (hs:Srt key t) {j:Nat} (h:j < t.length) {u:Str} (hu:ltS u (key t[j])=true):fnd key (t.take j) u=fnd key t u:=by
 have e:fnd key t u=(fnd key (t.take j) u).or (fnd key (t.drop j) u):=by rw [← zlt,List.take_append_drop]
 have e2:fnd key (t.drop j) u=none:=by
  rw [jW];intro e he hek;obtain ⟨i,hi,rfl⟩:=List.mem_iff_getElem.1 he;rw [List.getElem_drop] at hek;rw [List.length_drop] at hi;by_cases h0:i=0
  ·subst h0;simp only [Nat.add_zero] at hek;rw [hek] at hu;rw [yc] at hu; cases hu
  ·have:=List.pairwise_iff_getElem.1 hs j (j+i) h (by omega) (by omega);rw [hek] at this;rw [ZL this] at hu; cases hu
 rw [e,e2]; simp
theorem zgw {t:List α} (hs:Srt key t) {j:Nat} (h:j < t.length) {q:α→Bool} (hq:∀ e∈t,q e=true→ltS (key e) (key t[j])=true):(t.take j).any q=t.any q:=by
 have e:t.any q=((t.take j).any q||(t.drop j).any q):=by rw [← List.any_append,List.take_append_drop]
 have e2:(t.drop j).any q=false:=by
  rw [List.any_eq_false];intro x hx hqx;have hlt:=hq x (List.mem_of_mem_drop hx) hqx;obtain ⟨i,hi,rfl⟩:=List.mem_iff_getElem.1 hx;rw [List.getElem_drop] at hlt;rw [List.length_drop] at hi;by_cases h0:i=0
  ·subst h0;simp only [Nat.add_zero] at hlt;rw [yc] at hlt; cases hlt
  ·have:=List.pairwise_iff_getElem.1 hs j (j+i) h (by omega) (by omega);rw [ZL this] at hlt; cases hlt
 rw [e,e2]; simp
end

theorem zgm {p:Str} (h:pOk p=true) (hu:pUp p≠[47]):ltS (pUp p) p=true:=by
 obtain ⟨a,l,e,_,_,_,_,_,_,hup⟩:=JB h;by_cases ha:a=[]
 ·rw [if_pos ha] at hup; exact absurd hup hu
 ·rw [if_neg ha] at hup;rw [hup];conv=>lhs; arg 2; rw [e]
  exact zer a 47 l
theorem zgk {p d:Str} (h:und p d=true) (hd:d≠[47]):ltS d p=true:=by
 unfold und at h;simp only [Bool.or_eq_true,beq_iff_eq,List.isPrefixOf_iff_prefix] at h;rcases h with h | ⟨r,h⟩
 ·exact absurd h hd
 ·rw [← h,List.append_assoc]; exact zer d 47 r
theorem ZQ {p:Str} (h:pOk p=true):p≠[47]:=by rintro rfl; have:=(yg h).1; simp at this
def eok (e:Ent):Bool:=pOk e.path&&(j2 e.data&&!(e.dir&&e.data != []))
theorem QK {t:List Ent}:tOk t=true↔t.length≤16∧Srt Ent.path t∧(∀ e∈t,eok e=true)∧∀ e∈t,zR t (pUp e.path)=true:=by
 have key:∀ {j} (h:j < t.length),Srt Ent.path t→pOk t[j].path=true→zR (t.take j) (pUp t[j].path)=zR t (pUp t[j].path):=by
  intro j h hs hp;unfold zR get;by_cases hu:pUp t[j].path=[47]
  ·rw [if_pos hu,if_pos hu]
  ·rw [if_neg hu,if_neg hu];have:find (t.take j) (pUp t[j].path)=find t (pUp t[j].path):=zaR hs h (zgm hp hu);rw [this]
 constructor
 ·intro h;obtain ⟨h1,h2⟩:=y2 h;have hs:Srt Ent.path t:=yZ.2 fun j hj=>by
   have:=h2 (j+1) hj;simp only [ok1,Bool.and_eq_true] at this;have:=this.2.2.2.1;have hl:(t.take (j+1)).getLast? = some t[j]:=by
    rw [List.getLast?_take,if_neg (by omega),List.getElem?_eq_getElem (by omega)]; rfl
   rw [hl] at this;exact this
  refine ⟨h1,hs,fun e he=>?_,fun e he=>?_⟩
  ·obtain ⟨j,hj,rfl⟩:=List.mem_iff_getElem.1 he;have:=h2 j hj;simp only [ok1,Bool.and_eq_true] at this;simp only [eok,Bool.and_eq_true];exact ⟨this.1,this.2.1,this.2.2.1⟩
  ·obtain ⟨j,hj,rfl⟩:=List.mem_iff_getElem.1 he;have:=h2 j hj;simp only [ok1,Bool.and_eq_true] at this;rw [← key hj hs this.1];exact this.2.2.2.2
 ·rintro ⟨h1,hs,h3,h4⟩;simp only [tOk,Bool.and_eq_true,decide_eq_true_eq];refine ⟨h1,okA0.2 fun j hj=>?_⟩;have he:=h3 _ (List.getElem_mem hj);simp only [eok,Bool.and_eq_true] at he;simp only [ok1,Bool.and_eq_true];refine ⟨he.1,he.2.1,he.2.2,?_,by rw [key hj hs he.1]; exact h4 _ (List.getElem_mem hj)⟩;cases j with
  | zero=>rfl
  | succ j =>
   have hl:(t.take (j+1)).getLast? = some t[j]:=by
    rw [List.getLast?_take,if_neg (by omega),List.getElem?_eq_getElem (by omega)]; rfl
   rw [hl];exact yZ.1 hs j hj
def mok (m:Mark):Bool:=(decide (1≤m.kind)&&decide (m.kind≤4))&&(pOk m.path&&(j2 m.data&&!(m.kind != 1&&m.data != [])))
theorem qz {m:Mark} (h:mok m=true):pOk m.path=true:=by
 simp only [mok,Bool.and_eq_true] at h; exact h.2.1
theorem zV {l:List Mark}:lOk l=true↔l.length≤32∧Srt Mark.path l∧(∀ m∈l,mok m=true)∧(∀ m∈l,inD l m.path=true)∧∀ m∈l,2 < m.kind→zQ l m.path=false:=by
 have k1:∀ {j} (h:j < l.length),Srt Mark.path l→pOk l[j].path=true→inD (l.take j) l[j].path=inD l l[j].path:=by
  intro j h hs hp;unfold inD kind;by_cases hu:pUp l[j].path=[47]
  ·simp [hu]
  ·have:zt (l.take j) (pUp l[j].path)=zt l (pUp l[j].path):=zaR hs h (zgm hp hu);rw [this]
 have k2:∀ {j} (h:j < l.length),Srt Mark.path l→(∀ m∈l,mok m=true)→zQ (l.take j) l[j].path=zQ l l[j].path:=by
  intro j h hs hm;refine zgw hs h fun m hmem hq=>?_
  simp only [Bool.and_eq_true] at hq;exact zgk hq.2 (ZQ (qz (hm m hmem)))
 constructor
 ·intro h;simp only [lOk,Bool.and_eq_true,decide_eq_true_eq] at h;have h2:=YK.1 h.2;have hs:Srt Mark.path l:=yZ.2 fun j hj=>by
   have:=h2 (j+1) hj;simp only [jc,Bool.and_eq_true] at this;have:=this.2.2.2.2.1;have hl:(l.take (j+1)).getLast? = some l[j]:=by
    rw [List.getLast?_take,if_neg (by omega),List.getElem?_eq_getElem (by omega)]; rfl
   rw [ye,hl] at this;exact this
  have hm:∀ m∈l,mok m=true:=fun m hm=>by
   obtain ⟨j,hj,rfl⟩:=List.mem_iff_getElem.1 hm;have:=h2 j hj;simp only [jc,Bool.and_eq_true] at this;simp only [mok,Bool.and_eq_true];exact ⟨this.1,this.2.1,this.2.2.1,this.2.2.2.1⟩
  refine ⟨h.1,hs,hm,fun m he=>?_,fun m he hk=>?_⟩
  ·obtain ⟨j,hj,rfl⟩:=List.mem_iff_getElem.1 he;have:=h2 j hj;simp only [jc,Bool.and_eq_true] at this;rw [← k1 hj hs this.2.1];exact this.2.2.2.2.2.1
  ·obtain ⟨j,hj,rfl⟩:=List.mem_iff_getElem.1 he;have:=h2 j hj;simp only [jc,Bool.and_eq_true] at this;have:=this.2.2.2.2.2.2;rw [k2 hj hs hm] at this
   simpa [hk] using this
 ·rintro ⟨h1,hs,h3,h4,h5⟩;simp only [lOk,Bool.and_eq_true,decide_eq_true_eq];refine ⟨h1,YK.2 fun j hj=>?_⟩;have he:=h3 _ (List.getElem_mem hj);simp only [mok,Bool.and_eq_true] at he;simp only [jc,Bool.and_eq_true];refine ⟨he.1,he.2.1,he.2.2.1,he.2.2.2,?_,by rw [k1 hj hs he.2.1]; exact h4 _ (List.getElem_mem hj),?_⟩
  ·unfold ye;cases j with
   | zero=>rfl
   | succ j =>
    have hl:(l.take (j+1)).getLast? = some l[j]:=by
     rw [List.getLast?_take,if_neg (by omega),List.getElem?_eq_getElem (by omega)]; rfl
    rw [hl];exact yZ.1 hs j hj
  ·rw [k2 hj hs h3];by_cases hk:2 < l[j].kind
   ·rw [h5 _ (List.getElem_mem hj) hk]; simp
   ·simp [hk]
theorem ZZ {p u d:Str} (hd:d≠[47]) (hu:u≠[47]) (h1:und p u=true) (h2:und u d=true):und p d=true:=by
 unfold und at h1 h2 ⊢;simp only [Bool.or_eq_true,beq_iff_eq,List.isPrefixOf_iff_prefix] at h1 h2 ⊢;rcases h1 with h1 | ⟨r,h1⟩
 ·exact absurd h1 hu
 rcases h2 with h2 | ⟨s,h2⟩
 ·exact absurd h2 hd
 right;exact ⟨s++[47]++r,by rw [← h1,← h2]; simp⟩
theorem ym {p:Str} (h:pOk p=true):und p (pUp p)=true:=by
 obtain ⟨a,l,e,_,_,_,_,_,_,hup⟩:=JB h;unfold und;by_cases ha:a=[]
 ·rw [if_pos ha] at hup; simp [hup]
 ·rw [if_neg ha] at hup;simp only [Bool.or_eq_true,List.isPrefixOf_iff_prefix];right;exact ⟨l,by rw [hup]; (conv=>rhs; rw [e]); simp⟩
theorem zgi {p d:Str} (h:pOk p=true) (hd:pOk d=true) (hu:und p d=true):pUp p=d∨(pUp p≠[47]∧pOk (pUp p)=true∧und (pUp p) d=true):=by
 have hdr:=ZQ hd;unfold und at hu;simp only [Bool.or_eq_true,beq_iff_eq,List.isPrefixOf_iff_prefix] at hu;rcases hu with hu | ⟨r,hu⟩
 ·exact absurd hu hdr
 obtain ⟨a,l,e,hl,_,_,_,_,_,hup⟩:=JB h;have e2:d++47::r=a++47::l:=by rw [← e,← hu]; simp
 have hda:d=a∨∃ s,a=d++47::s:=by
  rcases List.append_eq_append_iff.1 e2 with ⟨s,h1,h2⟩ | ⟨s,h1,h2⟩
  ·cases s with
   | nil=>left; rw [h1]; simp
   | cons x s =>
    rw [List.cons_append,List.cons.injEq] at h2;obtain ⟨rfl,h2⟩:=h2;exact .inr ⟨s,h1⟩
  ·cases s with
   | nil=>left; rw [h1]; simp
   | cons x s =>
    rw [List.cons_append,List.cons.injEq] at h2;obtain ⟨rfl,h2⟩:=h2;exact absurd (by rw [h2]; simp) hl
 have ha:a≠[]:=by
  rintro rfl;rcases hda with h1 | ⟨s,h1⟩
  ·subst h1; have:=(yg hd).1; simp at this
  ·simp at h1
 rw [if_neg ha] at hup;rcases hda with rfl | ⟨s,hs⟩
 ·exact .inl hup
 ·right;have hne:pUp p≠[47]:=by
   rw [hup,hs];have h1:=(yg hd).1;intro e; have:=congrArg List.length e; simp at this; omega
  refine ⟨hne,(yh h hne).1,?_⟩;unfold und;simp only [Bool.or_eq_true,List.isPrefixOf_iff_prefix];right;exact ⟨s,by rw [hup,hs]; simp⟩
theorem jy {t:List Ent} {p:Str} (h:pOk p=true):get t p=find t p:=by
 unfold get; rw [if_neg (ZQ h)]
theorem zd2 {t:List Ent}:zR t [47]=true:=rfl

def ji (m:Mark):Option Ent:=if m.kind=1 then some ⟨m.path,false,m.data⟩ else if m.kind=2∨m.kind=4 then some ⟨m.path,true,[]⟩ else none
theorem zeQ (out:List Ent) (m:Mark):onP out m=match ji m with
 | some e=>put out e
 | none=>out:=by
 unfold onP ji;by_cases h1:m.kind=1
 ·rw [if_pos h1,if_pos h1]
 ·rw [if_neg h1,if_neg h1];by_cases h2:m.kind=2∨m.kind=4
  ·rw [if_pos h2,if_pos h2]
  ·rw [if_neg h2,if_neg h2]
theorem Zn {m:Mark} {e:Ent} (h:ji m=some e):e.path=m.path:=by
 unfold ji at h;split at h
 ·cases h; rfl
 ·split at h
  ·cases h; rfl
  ·cases h
theorem zn5 {out:List Ent} {m:Mark} (h:Srt Ent.path out):Srt Ent.path (onP out m):=by
 rw [zeQ];split
 ·exact yH h
 ·exact h
theorem zlv {out:List Ent} {m:Mark} {p:Str}:find (onP out m) p=if m.path=p then (ji m).or (find out p) else find out p:=by
 rw [zeQ];cases h:ji m with
 | none=>simp
 | some e =>
  have:find (put out e) p=if e.path=p then some e else find out p:=Qf
  simp only [this,Zn h,Option.some_or]
theorem zfR:∀ {l:List Mark} {out:List Ent},Srt Ent.path out→Srt Ent.path (l.foldl onP out)
 | [],_,h=>h
 | _::l,_,h=>zfR (l:=l) (zn5 h)
theorem zdE:∀ {l:List Mark} {out:List Ent} {p:Str},Srt Mark.path l→find (l.foldl onP out) p=match zt l p with
  | some m=>(ji m).or (find out p)
  | none=>find out p
 | [],_,_,_=>rfl
 | m::l,out,p,hs=>by
  unfold Srt at hs;rw [List.pairwise_cons] at hs;rw [List.foldl_cons,zdE (l:=l) hs.2,zlv];have e:zt (m::l) p=if m.path=p then some m else zt l p:=jI (key:=Mark.path)
  rw [e];by_cases h:m.path=p
  ·have h2:zt l p=none:=jW.2 fun x hx=>by rw [← h]; exact (yC (hs.1 x hx)).symm
   rw [if_pos h,h2,if_pos h]
  ·rw [if_neg h,if_neg h]
theorem yl {l:List Mark} {t:List Ent} (ht:Srt Ent.path t):Srt Ent.path (jj l t):=zfR (ZV ht _)
theorem Zo {l:List Mark} {t:List Ent} (hs:Srt Mark.path l) (ht:Srt Ent.path t) (p:Str):find (jj l t) p=match zt l p with
  | some m=>ji m
  | none=>if zw l p=true then none else find t p:=by
 have hf:find (t.filter fun e=>!zw l e.path) p=if zw l p=true then none else find t p:=by
  have h:find (t.filter fun e=>!zw l e.path) p=(find t p).filter fun e=>!zw l e.path:=zaQ ht
  rw [h];cases hp:find t p with
  | none=>simp
  | some e =>
   have:=(jX hp).1;rw [Option.filter,this];cases zw l p<;>rfl
 unfold jj;rw [zdE hs,hf];cases h:zt l p with
 | none=>rfl
 | some m =>
  simp only;obtain ⟨h1,h2⟩:=qy h;cases ho:ji m with
  | some e=>rfl
  | none =>
   have hk:m.kind≠2:=by
    intro e; unfold ji at ho; rw [if_neg (by omega),if_pos (.inl e)] at ho; cases ho
   have:zw l p=true:=by
    unfold zw;rw [List.any_eq_true];exact ⟨m,h2,by simp [hidP,h1,hk]⟩
   rw [if_pos this]; rfl
theorem zbs {l:List Mark} {t:List Ent} (hl:lOk l=true) (ht:Srt Ent.path t) (p:Str):find (jj l t) p=match zt l p with
  | some m=>ji m
  | none=>if zw l p=true then none else find t p:=Zo (zV.1 hl).2.1 ht p
theorem YE {l:List Mark} {t:List Ent} (hl:lOk l=true) (ht:Srt Ent.path t) {e:Ent}:e∈jj l t↔(∃ m∈l,ji m=some e)∨(zt l e.path=none∧zw l e.path=false∧e∈t):=by
 obtain ⟨_,hs,hm,_⟩:=zV.1 hl;have h:e∈jj l t↔find (jj l t) e.path=some e:=Ji (yl ht);rw [h,zbs hl ht];cases hf:zt l e.path with
 | some m =>
  obtain ⟨h1,h2⟩:=qy hf;simp only [reduceCtorEq,false_and,or_false];constructor
  ·exact fun h=>⟨m,h2,h⟩
  ·rintro ⟨m',hm',h'⟩;have:=Zn h';have h3:zt l m'.path=some m':=jQ hs hm';rw [← this,hf] at h3;cases h3; exact h'
 | none =>
  have hn:∀ m∈l,m.path≠e.path:=jW.1 hf;simp only [true_and];constructor
  ·intro h;right;cases hh:zw l e.path with
   | true=>rw [hh] at h; simp at h
   | false=>rw [hh] at h; simp at h; exact ⟨rfl,(jX h).2⟩
  ·rintro (⟨m,hm',h'⟩ | ⟨h1,h2⟩)
   ·exact absurd (Zn h').symm (hn m hm')
   ·rw [h1]; simp; exact jQ ht h2
theorem zmH {m:Mark} {e:Ent} (h:mok m=true) (ho:ji m=some e):eok e=true:=by
 simp only [mok,Bool.and_eq_true,Bool.not_eq_true',Bool.and_eq_false_iff] at h;unfold ji at ho;split at ho
 ·cases ho; simp [eok,h.2.1,h.2.2.1]
 ·split at ho
  ·cases ho; simp [eok,h.2.1]; rfl
  ·cases ho
theorem zmP {l:List Mark} {t:List Ent} (hl:lOk l=true) (ht:tOk t=true):Srt Ent.path (jj l t)∧(∀ e∈jj l t,eok e=true)∧∀ e∈jj l t,zR (jj l t) (pUp e.path)=true:=by
 obtain ⟨_,hs,hm,hin,hb⟩:=zV.1 hl;obtain ⟨_,ts,te,tu⟩:=QK.1 ht;refine ⟨yl ts,fun e he=>?_,fun e he=>?_⟩
 ·rcases (YE hl ts).1 he with ⟨m,h1,h2⟩ | ⟨_,_,h3⟩
  ·exact zmH (hm m h1) h2
  ·exact te e h3
 ·have hd:∀ m∈l,m.kind=2∨m.kind=4→zR (jj l t) m.path=true:=by
   intro m hmem hk;have hp:=qz (hm m hmem);have h3:zt l m.path=some m:=jQ hs hmem;unfold zR;rw [jy hp,zbs hl ts,h3];simp only [ji];rw [if_neg (by omega),if_pos hk]
  rcases (YE hl ts).1 he with ⟨m,h1,h2⟩ | ⟨h1,h2,h3⟩
  ·rw [Zn h2];have:=hin m h1;unfold inD at this;simp only [Bool.or_eq_true,beq_iff_eq] at this;rcases this with h | h
   ·rw [h]; rfl
   ·unfold kind at h;cases hf:zt l (pUp m.path) with
    | none=>rw [hf] at h; simp at h
    | some m' =>
     rw [hf] at h;obtain ⟨g1,g2⟩:=qy hf;rw [← g1];exact hd m' g2 h
  ·have hep:=te e h3;simp only [eok,Bool.and_eq_true] at hep;have hpe:=hep.1;have htu:=tu e h3;by_cases hr:pUp e.path=[47]
   ·rw [hr]; rfl
   have hup:=(yh hpe hr).1;have hnot:∀ m∈l,hidP e.path m=false:=by
    intro m hmem;unfold zw at h2;rw [List.any_eq_false] at h2
    simpa using h2 m hmem
   cases hf:zt l (pUp e.path) with
   | some m =>
    obtain ⟨g1,g2⟩:=qy hf;rw [← g1];refine hd m g2 ?_;have:=hnot m g2;unfold hidP at this;have hu:und e.path m.path=true:=by rw [g1]; exact ym hpe
    simp [hu] at this;exact .inl this.2
   | none =>
    have hh:zw l (pUp e.path)=false:=by
     unfold zw;rw [List.any_eq_false];intro m hmem hc;have h0:=hnot m hmem;have hmr:=ZQ (qz (hm m hmem));unfold hidP at hc h0;simp only [Bool.or_eq_true,Bool.and_eq_true,beq_iff_eq,bne_iff_ne] at hc;rcases hc with ⟨c1,_⟩ | ⟨c1,c2⟩
     ·exact jW.1 hf m hmem c1
     ·have:=ZZ hmr hr (ym hpe) c2;simp [this,c1] at h0
    unfold zR at htu ⊢;rw [jy hup] at htu ⊢;rw [zbs hl ts,hf];simp only [hh,Bool.false_eq_true,if_false];exact htu
theorem Ju {l:List Mark} {t t':List Ent} (h:lOn l t=some t'):tOk t'=true:=by
 obtain ⟨h1,h2,h3,rfl⟩:=Jt h;exact QK.2 ⟨h1,zmP h2 h3⟩
theorem Jw:∀ {a b:List (List Mark)} {t:List Ent},lowerA (a++b) t=match lowerA a t with
  | some t'=>lowerA b t'
  | none=>none
 | [],_,_=>rfl
 | l::a,b,t=>by
  rw [List.cons_append,lowerA,lowerA];cases lOn l t with
  | none=>rfl
  | some t'=>exact Jw (a:=a)
theorem zeq:∀ {a:List (List Mark)} {t t':List Ent},tOk t=true→lowerA a t=some t'→tOk t'=true
 | [],t,t',h,h2=>by cases h2; exact h
 | l::a,t,t',h,h2=>by
  rw [lowerA] at h2;cases h3:lOn l t with
  | none=>rw [h3] at h2; cases h2
  | some x=>rw [h3] at h2; exact zeq (a:=a) (Ju h3) h2
theorem YA {o:Over} {t:List Ent} (h:jk o=some t):tOk t=true:=by
 unfold jk at h;split at h
 ·rename_i hc; exact zeq hc.1 h
 ·cases h
theorem zb4 {o:Over} {t:List Ent} (h:jO o=some t):tOk t=true:=by
 unfold jO at h;split at h
 ·exact Ju h
 ·cases h
def topN (all:List (List Mark)) (p:Str):Nat→Nat
 | 0=>0
 | k+1=>if kind (all.getD k []) p≠0 then k+1 else topN all p k
def allL (o:Over):List (List Mark):=o.layers++[o.upper]
def oGet (o:Over) (p:Str):Option (Ent × Int):=if oOk o=true then (match jO o with
 | some t=>match get t p with
  | some e=>some (e,(topN (allL o) p (allL o).length:Int))
  | none=>none
 | none=>none) else none
theorem zeL {o:Over} (h:oOk o=true):∃ t x,jk o=some t∧jO o=some x∧o.upper=diff t x:=by
 unfold oOk at h;split at h
 ·rename_i t x h1 h2; exact ⟨t,x,h1,h2,by simpa using h⟩
 ·cases h

section
variable {α:Type} {key:α→Str}
theorem zfU {a b:List α} (ha:Srt key a) (hb:Srt key b) (h:∀ e,e∈a↔e∈b):a=b:=by
 refine Y3 ha hb fun p=>?_
 cases ha':fnd key a p with
 | some e =>
  obtain ⟨h1,h2⟩:=qY ha';have:=jQ hb ((h e).1 h2);rw [h1] at this; exact this.symm
 | none =>
  refine (jW.2 fun e he hk=>?_).symm;exact jW.1 ha' e ((h e).2 he) hk
theorem Yl:∀ {l t:List α} {p:Str},Srt key l→fnd key (l.foldl (zO key) t) p=(fnd key l p).or (fnd key t p)
 | [],t,p,_=>by simp [Ym]
 | e::l,t,p,hs=>by
  unfold Srt at hs;rw [List.pairwise_cons] at hs;rw [List.foldl_cons,Yl (l:=l) hs.2,Qf,jI];by_cases h:key e=p
  ·have h2:fnd key l p=none:=jW.2 fun x hx=>by rw [← h]; exact (yC (hs.1 x hx)).symm
   rw [if_pos h,if_pos h,h2]; rfl
  ·rw [if_neg h,if_neg h]
theorem zfT {f:α→α} (hf:∀ x,key (f x)=key x) {l:List α} (hs:Srt key l):Srt key (l.map f):=by
 unfold Srt at hs ⊢;rw [List.pairwise_map];exact hs.imp fun h=>by rw [hf,hf]; exact h
theorem zdF {f:α→α} (hf:∀ x,key (f x)=key x):∀ {l:List α} {p:Str},fnd key (l.map f) p=(fnd key l p).map f
 | [],_=>rfl
 | x::l,p=>by
  rw [List.map_cons,jI,jI,hf,zdF hf (l:=l)];split<;>rfl
theorem zfQ {f:α→Option α} (hf:∀ x y,f x=some y→key y=key x) {l:List α} (hs:Srt key l):Srt key (l.filterMap f):=by
 induction l with
 | nil=>exact List.Pairwise.nil
 | cons x l ih =>
  unfold Srt at hs;rw [List.pairwise_cons] at hs;rw [List.filterMap_cons];split
  ·exact ih hs.2
  ·rename_i y hy;refine List.pairwise_cons.2 ⟨fun z hz=>?_,ih hs.2⟩;obtain ⟨u,hu,hz⟩:=List.mem_filterMap.1 hz;rw [hf _ _ hy,hf _ _ hz]; exact hs.1 u hu
theorem zlu {f:α→Option α} (hf:∀ x y,f x=some y→key y=key x) {l:List α} (hs:Srt key l) {p:Str}:fnd key (l.filterMap f) p=(fnd key l p).bind f:=by
 cases h:fnd key l p with
 | none =>
  rw [jW] at h;refine jW.2 fun e he hk=>?_
  obtain ⟨u,hu,he⟩:=List.mem_filterMap.1 he;exact h u hu (by rw [← hf _ _ he,hk])
 | some e =>
  obtain ⟨h1,h2⟩:=qY h;simp only [Option.bind_some];cases hy:f e with
  | some y =>
   have:=jQ (zfQ hf hs) (List.mem_filterMap.2 ⟨e,h2,hy⟩);rw [hf _ _ hy,h1] at this; exact this
  | none =>
   refine jW.2 fun z hz hk=>?_
   obtain ⟨u,hu,hz⟩:=List.mem_filterMap.1 hz;have:fnd key l (key u)=some u:=jQ hs hu;rw [← hf _ _ hz,hk,h] at this;cases this;rw [hy] at hz; cases hz
end
structure LG (l:List Mark):Prop where
 srt:Srt Mark.path l
 ok:∀ m∈l,mok m=true
theorem LG.of {l:List Mark} (h:lOk l=true):LG l:=by obtain ⟨_,hs,hm,_⟩:=zV.1 h; exact ⟨hs,hm⟩
theorem LG.path {l:List Mark} (h:LG l) {m:Mark} (hm:m∈l):pOk m.path=true:=qz (h.ok m hm)
theorem LG.root {l:List Mark} (h:LG l) {m:Mark} (hm:m∈l):m.path≠[47]:=ZQ (h.path hm)
theorem LG.at {l:List Mark} (h:LG l) {m:Mark} (hm:m∈l):zt l m.path=some m:=jQ h.srt hm
theorem Zi {m:Mark} (h:mok m=true):1≤m.kind∧m.kind≤4:=by
 simp only [mok,Bool.and_eq_true,decide_eq_true_eq] at h; exact h.1
theorem zeF {m:Mark} (h:mok m=true) (hk:m.kind≠1):m.data=[]:=by
 simp only [mok,Bool.and_eq_true,Bool.not_eq_true',Bool.and_eq_false_iff] at h;have:=h.2.2.2;simp [hk] at this; exact this
theorem zeG {m:Mark} (h:mok m=true) {k:Int} (h1:2≤k) (h2:k≤4) (hk:m.kind≠1):mok { m with kind:=k }=true:=by
 have hd:=zeF h hk;have hp:=qz h;simp only [mok,Bool.and_eq_true] at h ⊢;refine ⟨⟨by simp; omega,by simpa using h2⟩,hp,h.2.2.1,by simp [hd]⟩
theorem LG.kind0 {l:List Mark} (h:LG l) {p:Str}:kind l p=0↔zt l p=none:=by
 unfold kind;cases hf:zt l p with
 | none=>simp
 | some m =>
  have:=Zi (h.ok m (qy hf).2);simp; omega
theorem zl3 {l:List Mark} {p:Str} {m:Mark} (h:zt l p=some m):kind l p=m.kind:=by unfold kind; rw [h]
theorem qg {l:List Mark} {p:Str} {m:Mark} (hm:m∈l) (hk:m.kind≠2) (h:m.path=p∨und p m.path=true):zw l p=true:=by
 unfold zw; rw [List.any_eq_true];refine ⟨m,hm,?_⟩;unfold hidP;rcases h with h | h
 ·simp [h,hk]
 ·simp [h,hk]
theorem Zm {l:List Mark} {p:Str} (h:zw l p=true):∃ m∈l,m.kind≠2∧(m.path=p∨und p m.path=true):=by
 unfold zw at h; rw [List.any_eq_true] at h;obtain ⟨m,hm,h⟩:=h;unfold hidP at h;simp only [Bool.or_eq_true,Bool.and_eq_true,beq_iff_eq,bne_iff_ne] at h;rcases h with ⟨h1,h2⟩ | ⟨h1,h2⟩
 ·exact ⟨m,hm,h2,.inl h1⟩
 ·exact ⟨m,hm,h1,.inr h2⟩
theorem LG.hides_und {l:List Mark} (h:LG l) {p d:Str} (hd:d≠[47]) (hu:und p d=true) (hh:zw l d=true):zw l p=true:=by
 obtain ⟨m,hm,hk,h1⟩:=Zm hh;refine qg hm hk (.inr ?_);rcases h1 with h1 | h1
 ·rw [h1]; exact hu
 ·exact ZZ (h.root hm) hd hu h1
theorem ZP {l:List Mark} {p:Str} (h:zQ l p=true):∃ m∈l,m.kind=4∧und p m.path=true:=by
 unfold zQ at h; rw [List.any_eq_true] at h;obtain ⟨m,hm,h⟩:=h;simp only [Bool.and_eq_true,beq_iff_eq] at h;exact ⟨m,hm,h.1,h.2⟩
theorem JT {l:List Mark} {p:Str} {m:Mark} (hm:m∈l) (hk:m.kind=4) (h:und p m.path=true):zQ l p=true:=by
 unfold zQ; rw [List.any_eq_true];exact ⟨m,hm,by simp [hk,h]⟩
theorem zce {l:List Mark} {p:Str} (h:zQ l p=true):zw l p=true:=by
 obtain ⟨m,hm,hk,hu⟩:=ZP h;exact qg hm (by omega) (.inr hu)
theorem LG.bare_und {l:List Mark} (h:LG l) {p d:Str} (hd:d≠[47]) (hu:und p d=true) (hh:zQ l d=true):zQ l p=true:=by
 obtain ⟨m,hm,hk,h1⟩:=ZP hh;exact JT hm hk (ZZ (h.root hm) hd hu h1)
theorem zgj {p d:Str} (h:und p d=true) (hd:d≠[47]):d.length < p.length:=by
 unfold und at h;simp only [Bool.or_eq_true,beq_iff_eq,List.isPrefixOf_iff_prefix] at h;rcases h with h | h
 ·exact absurd h hd
 ·have:=h.length_le; simp at this; omega
theorem LG.bare_top {l:List Mark} (h:LG l):∀ (n:Nat) {p:Str},p.length≤n→zQ l p=true→∃ m∈l,m.kind=4∧und p m.path=true∧zQ l m.path=false
 | 0,p,hn,hb=>by
  obtain ⟨m,hm,hk,hu⟩:=ZP hb;have:=zgj hu (h.root hm); omega
 | n+1,p,hn,hb=>by
  obtain ⟨m,hm,hk,hu⟩:=ZP hb;cases hb2:zQ l m.path with
  | false=>exact ⟨m,hm,hk,hu,hb2⟩
  | true =>
   have:=zgj hu (h.root hm);obtain ⟨m',h1,h2,h3,h4⟩:=h.bare_top n (p:=m.path) (by omega) hb2;exact ⟨m',h1,h2,ZZ (h.root h1) (h.root hm) hu h3,h4⟩
def zK (l:List Mark) (m:Mark):Option Mark:=if zQ l m.path=true then (if m.kind=3 then none else some (if m.kind=4 then { m with kind:=2 } else m)) else some m
def yK (l:List Mark):List Mark:=l.filterMap (zK l)
theorem JM {l:List Mark} (x y:Mark) (h:zK l x=some y):y.path=x.path:=by
 unfold zK at h;split at h
 ·split at h
  ·cases h
  ·cases h; split<;>rfl
 ·cases h; rfl
theorem zga {l:List Mark} {m:Mark} (h:zQ l m.path=false):zK l m=some m:=by unfold zK; simp [h]
theorem zf7 {l:List Mark} (h:LG l) {p:Str}:zt (yK l) p=(zt l p).bind (zK l):=zlu JM h.srt
theorem ZM {l:List Mark} {m:Mark}:m∈yK l↔∃ x∈l,zK l x=some m:=List.mem_filterMap
theorem zf9 {l:List Mark} {m:Mark} (hm:m∈l) (h:zQ l m.path=false):m∈yK l:=ZM.2 ⟨m,hm,zga h⟩
theorem zac {l:List Mark} {x y:Mark} (h:zK l x=some y):y=x∨(x.kind=4∧y={ x with kind:=2 }):=by
 unfold zK at h;split at h
 ·split at h
  ·cases h
  ·split at h
   ·cases h; exact .inr ⟨by assumption,rfl⟩
   ·cases h; exact .inl rfl
 ·cases h; exact .inl rfl
theorem LG.tidy {l:List Mark} (h:LG l):LG (yK l):=by
 refine ⟨zfQ JM h.srt,fun m hm=>?_⟩;obtain ⟨x,hx,e⟩:=ZM.1 hm;rcases zac e with rfl | ⟨hk,rfl⟩
 ·exact h.ok _ hx
 ·exact zeG (h.ok x hx) (by omega) (by omega) (by omega)
theorem LG.tidy_bare {l:List Mark} (h:LG l) {p:Str}:zQ (yK l) p=zQ l p:=by
 rw [Bool.eq_iff_iff];constructor
 ·intro hb;obtain ⟨m,hm,hk,hu⟩:=ZP hb;obtain ⟨x,hx,e⟩:=ZM.1 hm;rcases zac e with rfl | ⟨_,rfl⟩
  ·exact JT hx hk hu
  ·simp at hk
 ·intro hb;obtain ⟨m,hm,hk,hu,hn⟩:=h.bare_top p.length (Nat.le_refl _) hb;exact JT (zf9 hm hn) hk hu
theorem LG.tidy_hides {l:List Mark} (h:LG l) {p:Str}:zw (yK l) p=zw l p:=by
 rw [Bool.eq_iff_iff];constructor
 ·intro hb;obtain ⟨m,hm,hk,hu⟩:=Zm hb;obtain ⟨x,hx,e⟩:=ZM.1 hm;rcases zac e with rfl | ⟨_,rfl⟩
  ·exact qg hx hk hu
  ·simp at hk
 ·intro hb;obtain ⟨m,hm,hk,hu⟩:=Zm hb;cases hb2:zQ l m.path with
  | false=>exact qg (zf9 hm hb2) hk hu
  | true =>
   have:zQ l p=true:=by
    rcases hu with hu | hu
    ·rw [← hu]; exact hb2
    ·exact h.bare_und (h.root hm) hu hb2
   exact zce (by rw [h.tidy_bare]; exact this)
theorem zmQ {l:List Mark} {t:List Ent} (h:LG l) (ht:Srt Ent.path t):jj (yK l) t=jj l t:=by
 refine Y3 (yl ht) (yl ht) fun p=>?_
 show find _ p=find _ p;rw [Zo h.tidy.srt ht,Zo h.srt ht,zf7 h,h.tidy_hides];cases hf:zt l p with
 | none=>rfl
 | some m =>
  obtain ⟨h1,h2⟩:=qy hf;simp only [Option.bind_some];unfold zK;by_cases hb:zQ l m.path=true
  ·rw [if_pos hb];have hh:zw l p=true:=zce (by rw [← h1]; exact hb);by_cases h3:m.kind=3
   ·rw [if_pos h3,hh];simp [ji,h3]
   ·rw [if_neg h3];by_cases h4:m.kind=4
    ·rw [if_pos h4]; simp [ji,h4]
    ·rw [if_neg h4]
  ·rw [if_neg hb]
def jG (a b:Int):Int:=if a=2∧b≠0∧b≠2 then 4 else a
def zU (b:List Mark) (m:Mark):Mark:={ m with kind:=jG m.kind (kind b m.path) }
def jh (a:List Mark) (m:Mark):Bool:=!zw a m.path&&kind a m.path==0
def jz (a b:List Mark):List Mark:=(a.map (zU b)).foldl lput ((b.filter (jh a)).foldl lput [])
def jS (a b:List Mark):List Mark:=yK (jz a b)
theorem zci {a b:Int} (h:a≠2):jG a b=a:=by unfold jG; rw [if_neg (by simp [h])]
theorem zch {a b:Int}:jG a b=2∨jG a b=4↔a=2∨a=4:=by
 unfold jG;split
 ·omega
 ·exact Iff.rfl
theorem zaZ {a b:List Mark} (ha:LG a) (hb:LG b) {p:Str}:zt (jz a b) p=match zt a p with
  | some m=>some (zU b m)
  | none=>if zw a p=true then none else zt b p:=by
 have h1:fnd Mark.path (jz a b) p=(fnd Mark.path (a.map (zU b)) p).or (fnd Mark.path ((b.filter (jh a)).foldl lput []) p):=Yl (zfT (f:=zU b) (fun _=>rfl) ha.srt);have h2:fnd Mark.path ((b.filter (jh a)).foldl lput []) p=(fnd Mark.path (b.filter (jh a)) p).or (fnd Mark.path [] p):=Yl (ZV hb.srt _);have h3:fnd Mark.path (b.filter (jh a)) p=(zt b p).filter (jh a):=zaQ hb.srt;have h4:fnd Mark.path (a.map (zU b)) p=(zt a p).map (zU b):=zdF (f:=zU b) (fun _=>rfl);show fnd Mark.path (jz a b) p=_;rw [h1,h2,h3,h4,Ym];cases hf:zt a p with
 | some m=>rfl
 | none =>
  have hk:=ha.kind0.2 hf;cases hg:zt b p with
  | none=>simp
  | some m =>
   have hp:=(qy hg).1;simp [Option.filter,jh,hp,hk];cases zw a p<;>rfl
theorem zd8 {a b:List Mark}:Srt Mark.path (jz a b):=Yn (Yn List.Pairwise.nil)
theorem Zh {a b:List Mark} (ha:LG a) (hb:LG b) {m:Mark}:m∈jz a b↔(∃ x∈a,m=zU b x)∨(m∈b∧zt a m.path=none∧zw a m.path=false):=by
 have h:m∈jz a b↔zt (jz a b) m.path=some m:=Ji zd8;rw [h,zaZ ha hb];cases hf:zt a m.path with
 | some x =>
  obtain ⟨h1,h2⟩:=qy hf;simp only [Option.some.injEq,reduceCtorEq,false_and,and_false,or_false];constructor
  ·rintro rfl; exact ⟨x,h2,rfl⟩
  ·rintro ⟨y,hy,rfl⟩;have:zt a y.path=some y:=ha.at hy;have e:(zU b y).path=y.path:=rfl;rw [e,this] at hf; cases hf; rfl
 | none =>
  simp only [true_and];have hn:¬ ∃ x∈a,m=zU b x:=by
   rintro ⟨y,hy,rfl⟩;have:zt a y.path=some y:=ha.at hy;have e:(zU b y).path=y.path:=rfl;rw [e,this] at hf; cases hf
  cases hh:zw a m.path with
  | true=>simp [hn]
  | false =>
   simp only [Bool.false_eq_true,if_false,hn,and_true,false_or];exact (Ji hb.srt).symm
theorem ZI {a b:List Mark} (ha:LG a) (hb:LG b):LG (jz a b):=by
 refine ⟨zd8,fun m hm=>?_⟩;rcases (Zh ha hb).1 hm with ⟨x,hx,rfl⟩ | ⟨h,_⟩
 ·have ho:=ha.ok x hx;by_cases hk:x.kind=2
  ·refine zeG ho ?_ ?_ (by omega)<;>(unfold jG; split<;>omega)
  ·have:zU b x=x:=by unfold zU; rw [zci hk]
   rw [this]; exact ho
 ·exact hb.ok m h
theorem zmI {b:List Mark} {m:Mark}:ji (zU b m)=ji m:=by
 unfold ji zU jG;by_cases h:m.kind=2∧kind b m.path≠0∧kind b m.path≠2
 ·simp [h,h.1]
 ·simp only [if_neg h]
theorem zmO {a b:List Mark} {t:List Ent} (ha:LG a) (hb:LG b) (ht:Srt Ent.path t):jj (jz a b) t=jj a (jj b t):=by
 refine Y3 (yl ht) (yl (yl ht)) fun p=>?_
 show find _ p=find _ p;have hj:=ZI ha hb;rw [Zo hj.srt ht,Zo ha.srt (yl ht),Zo hb.srt ht,zaZ ha hb];cases hf:zt a p with
 | some m=>exact zmI
 | none =>
  have hne:∀ {m},m∈a→m.path≠p:=fun {m} hm e=>by have:=ha.at hm; rw [e,hf] at this; cases this
  cases hh:zw a p with
  | true =>
   obtain ⟨m,hm,hk,hu⟩:=Zm hh;have hu:und p m.path=true:=hu.resolve_left (hne hm);have:zw (jz a b) p=true:=by
    refine qg (m:=zU b m) ((Zh ha hb).2 (.inl ⟨m,hm,rfl⟩)) ?_ (.inr hu);show jG m.kind _≠2;rw [zci hk]; exact hk
   simp [this]
  | false =>
   simp only [Bool.false_eq_true,if_false];cases hg:zt b p with
   | some m=>rfl
   | none =>
    have hnb:∀ {m},m∈b→m.path≠p:=fun {m} hm e=>by have:=hb.at hm; rw [e,hg] at this; cases this
    have key:zw (jz a b) p=zw b p:=by
     rw [Bool.eq_iff_iff];constructor
     ·intro h;obtain ⟨m,hm,hk,hu⟩:=Zm h;rcases (Zh ha hb).1 hm with ⟨x,hx,rfl⟩ | ⟨h1,_⟩
      ·have hu:und p x.path=true:=hu.resolve_left (fun e=>hne hx e);have hx2:x.kind=2:=by
        apply Classical.byContradiction; intro hn;have:=qg hx hn (.inr hu); rw [hh] at this; cases this
       have hkb:kind b x.path≠0∧kind b x.path≠2:=by
        apply Classical.byContradiction; intro hn;apply hk;show jG x.kind _=2;unfold jG; rw [if_neg (fun e=>hn e.2)]; exact hx2
       unfold kind at hkb;cases hy:zt b x.path with
       | none=>rw [hy] at hkb; exact absurd rfl hkb.1
       | some y =>
        rw [hy] at hkb;obtain ⟨g1,g2⟩:=qy hy;exact qg g2 hkb.2 (.inr (by rw [g1]; exact hu))
      ·exact qg h1 hk (.inr (hu.resolve_left (hnb h1)))
     ·intro h;obtain ⟨m,hm,hk,hu⟩:=Zm h;have hu:und p m.path=true:=hu.resolve_left (hnb hm);cases hy:zt a m.path with
      | some x =>
       obtain ⟨g1,g2⟩:=qy hy;have hx2:x.kind=2:=by
        apply Classical.byContradiction; intro hn;have:=qg g2 hn (.inr (by rw [g1]; exact hu)); rw [hh] at this; cases this
       refine qg (m:=zU b x) ((Zh ha hb).2 (.inl ⟨x,g2,rfl⟩)) ?_ (.inr (by show und p x.path=true; rw [g1]; exact hu));show jG x.kind (kind b x.path)≠2;have e:kind b x.path=m.kind:=by rw [g1]; exact zl3 (hb.at hm)
       have:=Zi (hb.ok m hm);unfold jG; rw [if_pos ⟨hx2,by omega,by omega⟩]; omega
      | none =>
       have hn:zw a m.path=false:=by
        cases hz:zw a m.path with
        | false=>rfl
        | true=>have:=ha.hides_und (hb.root hm) hu hz; rw [hh] at this; cases this
       exact qg ((Zh ha hb).2 (.inr ⟨hm,hy,hn⟩)) hk (.inr hu)
    rw [key]
theorem zmN {a b:List Mark} {t:List Ent} (ha:LG a) (hb:LG b) (ht:Srt Ent.path t):jj (jS a b) t=jj a (jj b t):=by
 unfold jS; rw [zmQ (ZI ha hb) ht,zmO ha hb ht]
theorem za0 {a b:List Mark} (ha:LG a) (hb:LG b):LG (jS a b):=(ZI ha hb).tidy
theorem qO {l:List Mark} {p:Str}:inD l p=true↔pUp p=[47]∨∃ m,zt l (pUp p)=some m∧(m.kind=2∨m.kind=4):=by
 unfold inD kind;cases h:zt l (pUp p) with
 | none=>simp
 | some m=>simp
theorem zlY {a b:List Mark} (ha:lOk a=true) (hb:lOk b=true) (hl:(jS a b).length≤32):lOk (jS a b)=true:=by
 have ga:=LG.of ha;have gb:=LG.of hb;have g0:=ZI ga gb;have gj:=za0 ga gb;obtain ⟨_,_,_,ia,_⟩:=zV.1 ha;obtain ⟨_,_,_,ib,_⟩:=zV.1 hb;refine zV.2 ⟨hl,gj.srt,gj.ok,fun m hm=>?_,fun m hm hk=>?_⟩
 ·obtain ⟨x,hx,e⟩:=ZM.1 hm;have hp:=JM _ _ e;have hxp:=g0.path hx;rw [qO,hp];by_cases hr:pUp x.path=[47]
  ·exact .inl hr
  right;have hup:=(yh hxp hr).1;have key:∃ y,zt (jz a b) (pUp x.path)=some y∧(y.kind=2∨y.kind=4):=by
   rw [zaZ ga gb];rcases (Zh ga gb).1 hx with ⟨z,hz,e2⟩ | ⟨h1,h2,h3⟩
   ·have hzp:x.path=z.path:=by rw [e2]; rfl
    rw [hzp] at hr hup ⊢;rcases qO.1 (ia z hz) with h | ⟨y,hy,hk⟩
    ·exact absurd h hr
    ·rw [hy]; exact ⟨_,rfl,zch.2 hk⟩
   ·rcases qO.1 (ib x h1) with h | ⟨y,hy,hk⟩
    ·exact absurd h hr
    ·cases hz:zt a (pUp x.path) with
     | some z =>
      obtain ⟨q1,q2⟩:=qy hz;have:z.kind=2:=by
       apply Classical.byContradiction; intro hn;have:=qg (p:=x.path) q2 hn (.inr (by rw [q1]; exact ym hxp));rw [h3] at this; cases this
      exact ⟨_,rfl,zch.2 (.inl this)⟩
     | none =>
      have:zw a (pUp x.path)=false:=by
       cases hq:zw a (pUp x.path) with
       | false=>rfl
       | true=>have:=ga.hides_und hr (ym hxp) hq; rw [h3] at this; cases this
      simp only [this,Bool.false_eq_true,if_false];exact ⟨y,hy,hk⟩
  obtain ⟨y,hy,hk⟩:=key;unfold jS;rw [zf7 g0,hy];simp only [Option.bind_some];unfold zK;split
  ·rw [if_neg (by omega)];refine ⟨_,rfl,?_⟩;split
   ·exact .inl rfl
   ·exact hk
  ·exact ⟨_,rfl,hk⟩
 ·unfold jS;rw [g0.tidy_bare];obtain ⟨x,hx,e⟩:=ZM.1 hm;have hp:=JM _ _ e;have hmk:=Zi (gj.ok m hm);rw [hp];cases hb:zQ (jz a b) x.path with
  | false=>rfl
  | true =>
   unfold zK at e;rw [if_pos hb] at e;split at e
   ·cases e
   ·cases e;split at hk
    ·simp at hk
    ·split at hmk
     ·omega
     ·omega
def jp (a b:List Mark):Option (List Mark):=if (lOk a&&lOk b)=true then (if (jS a b).length≤32 then some (jS a b) else none) else none
def zcL:Option (List Mark)→CV
 | none => .tup [zd [],CB false]
 | some t => .tup [zd t,CB true]
theorem zl5 {a b j:List Mark} (h:jp a b=some j):lOk a=true∧lOk b=true∧j=jS a b∧lOk j=true:=by
 unfold jp at h;split at h
 ·rename_i hc;simp only [Bool.and_eq_true] at hc;split at h
  ·cases h; exact ⟨hc.1,hc.2,rfl,zlY hc.1 hc.2 (by assumption)⟩
  ·cases h
 ·cases h
def j0 (out:List Mark) (m:Mark):List Mark:=if zQ out m.path=true then (if m.kind=3 then out else out++[if m.kind=4 then { m with kind:=2 } else m]) else out++[m]
theorem Qe {α β:Type} {f:α→Option β} {l:List α} {k:Nat} (h:k < l.length):(l.take (k+1)).filterMap f=(l.take k).filterMap f++(f l[k]).toList:=by
 rw [List.take_succ_eq_append_getElem h,List.filterMap_append];cases hf:f l[k]<;>simp [hf]
theorem zf8 {l:List Mark} (h:LG l):∀ {k:Nat},k≤l.length→(l.take k).foldl j0 []=(l.take k).filterMap (zK l)
 | 0,_=>by simp
 | k+1,hk=>by
  have hk':k < l.length:=by omega
  rw [qL hk',zf8 h (by omega),Qe hk'];have hm:l[k]∈l:=List.getElem_mem hk';have e:zQ ((l.take k).filterMap (zK l)) l[k].path=zQ l l[k].path:=by
   rw [Bool.eq_iff_iff];constructor
   ·intro hb;obtain ⟨m,hm',hk4,hu⟩:=ZP hb;obtain ⟨x,hx,e⟩:=List.mem_filterMap.1 hm';rcases zac e with rfl | ⟨_,rfl⟩
    ·exact JT (List.mem_of_mem_take hx) hk4 hu
    ·simp at hk4
   ·intro hb;obtain ⟨m,hm',hk4,hu,hn⟩:=h.bare_top _ (Nat.le_refl _) hb;have hlt:=zgk hu (h.root hm');refine JT (m:=m) (List.mem_filterMap.2 ⟨m,?_,zga hn⟩) hk4 hu;have h1:=zaR h.srt hk' hlt;have h2:fnd Mark.path l m.path=some m:=jQ h.srt hm';rw [h2] at h1;exact (qY h1).2
  rw [j0,e];unfold zK;split
  ·split
   ·simp
   ·simp
  ·simp
theorem zok {l:List Mark} (h:LG l):l.foldl j0 []=yK l:=by
 have:=zf8 h (Nat.le_refl l.length);rw [List.take_length] at this; exact this

theorem Qv {α:Type} [DecidableEq α]:∀ {l k:List α},l.Nodup→(∀ x∈l,x∈k)→l.length≤k.length
 | [],_,_,_=>by simp
 | x::l,k,hn,h=>by
  rw [List.nodup_cons] at hn;have hx:=h x (by simp);have ih:=Qv (l:=l) (k:=k.erase x) hn.2 fun y hy=>by
   refine (List.mem_erase_of_ne ?_).2 (h y (by simp [hy]));rintro rfl; exact hn.1 hy
  rw [List.length_erase_of_mem hx] at ih;have:=List.length_pos_of_mem hx;simp; omega
theorem y0 {α:Type} {key:α→Str} {l:List α} (hs:Srt key l):(l.map key).Nodup:=by
 unfold List.Nodup;rw [List.pairwise_map];exact hs.imp fun h=>yC h
structure TG (t:List Ent):Prop where
 len:t.length≤16
 srt:Srt Ent.path t
 ok:∀ e∈t,eok e=true
 up:∀ e∈t,zR t (pUp e.path)=true
theorem TG.of {t:List Ent} (h:tOk t=true):TG t:=by obtain ⟨a,b,c,d⟩:=QK.1 h; exact ⟨a,b,c,d⟩
theorem TG.path {t:List Ent} (h:TG t) {e:Ent} (he:e∈t):pOk e.path=true:=by
 have:=h.ok e he; simp only [eok,Bool.and_eq_true] at this; exact this.1
theorem TG.data {t:List Ent} (h:TG t) {e:Ent} (he:e∈t) (hd:e.dir=true):e.data=[]:=by
 have:=h.ok e he; simp only [eok,Bool.and_eq_true,hd,Bool.true_and] at this
 simpa using this.2.2
theorem TG.datOk {t:List Ent} (h:TG t) {e:Ent} (he:e∈t):j2 e.data=true:=by
 have:=h.ok e he; simp only [eok,Bool.and_eq_true] at this; exact this.2.1
theorem TG.at {t:List Ent} (h:TG t) {e:Ent} (he:e∈t):find t e.path=some e:=jQ h.srt he
theorem TG.find_ok {t:List Ent} (h:TG t) {p:Str} {e:Ent} (hf:find t p=some e):pOk p=true:=by
 obtain ⟨h1,h2⟩:=jX hf; rw [← h1]; exact h.path h2
theorem TG.isDir_ent {t:List Ent} (h:TG t) {p:Str} (hp:pOk p=true) (hd:zR t p=true):find t p=some ⟨p,true,[]⟩:=by
 unfold zR at hd;rw [jy hp] at hd;cases hf:find t p with
 | none=>rw [hf] at hd; cases hd
 | some e =>
  rw [hf] at hd;obtain ⟨h1,h2⟩:=jX hf;have:=h.data h2 hd;obtain ⟨a,b,c⟩:=e;simp at h1 hd this;rw [h1,hd,this]
theorem TG.anc {t:List Ent} (h:TG t):∀ (n:Nat) {p d:Str},(names p).length≤n→pOk p=true→pOk d=true→und p d=true→zR t (pUp p)=true→find t d=some ⟨d,true,[]⟩
 | 0,p,d,hn,hp,_,_,_=>by have:=(qS hp).1.1; omega
 | n+1,p,d,hn,hp,hd,hu,hf=>by
  rcases zgi hp hd hu with h1 | ⟨h1,h2,h3⟩
  ·rw [h1] at hf; exact h.isDir_ent hd hf
  ·have hup:=(yh hp h1).2.2;refine h.anc n (by omega) h2 hd h3 ?_;have:=h.isDir_ent h2 hf;exact h.up _ (jX this).2
theorem TG.anc' {t:List Ent} (h:TG t) {p d:Str} {e:Ent} (hf:find t p=some e) (hd:pOk d=true) (hu:und p d=true):find t d=some ⟨d,true,[]⟩:=by
 have hp:=h.find_ok hf;refine h.anc _ (Nat.le_refl _) hp hd hu ?_;obtain ⟨h1,h2⟩:=jX hf;have:=h.up e h2;rw [h1] at this; exact this
abbrev SrtS (l:List Str):Prop:=Srt (fun s:Str=>s) l
theorem zaN {a b:List Ent} (ha:TG a) (hb:TG b) {p:Str}:find (both a b) p=(find b p).or (find a p):=Yl hb.srt
theorem zcj {a b:List Ent} (ha:TG a):Srt Ent.path (both a b):=Yn ha.srt
theorem zgh {a b:List Ent} (ha:TG a):SrtS (z6 a b):=by
 have:=ZV (zcj (b:=b) ha) (tudP a b);unfold Srt at this;unfold z6;show List.Pairwise _ _;rw [List.pairwise_map]; exact this
theorem ZN {a b:List Ent} (ha:TG a) (hb:TG b) {p:Str}:p∈z6 a b↔find a p≠find b p:=by
 have hok:∀ {q},(∃ e,find a q=some e)∨(∃ e,find b q=some e)→pOk q=true:=by
  rintro q (⟨e,h⟩ | ⟨e,h⟩)
  ·exact ha.find_ok h
  ·exact hb.find_ok h
 unfold z6;rw [List.mem_map];constructor
 ·rintro ⟨e,he,rfl⟩;obtain ⟨h1,h2⟩:=List.mem_filter.1 he;have:find (both a b) e.path=some e:=jQ (zcj ha) h1;rw [zaN ha hb] at this;have hp:pOk e.path=true:=by
   refine hok ?_;cases hb':find b e.path with
   | some x=>exact .inr ⟨x,rfl⟩
   | none=>rw [hb'] at this; exact .inl ⟨e,by simpa using this⟩
  simp only [tudP,decide_eq_true_eq,jy hp] at h2;exact h2
 ·intro h;cases hf:find (both a b) p with
  | none =>
   rw [zaN ha hb] at hf;cases hb':find b p with
   | some x=>rw [hb'] at hf; cases hf
   | none=>rw [hb'] at hf h; simp at hf; rw [hf] at h; exact absurd rfl h
  | some e =>
   obtain ⟨h1,h2⟩:=jX hf;refine ⟨e,List.mem_filter.2 ⟨h2,?_⟩,h1⟩;rw [zaN ha hb] at hf;have hp:pOk p=true:=by
    refine hok ?_;cases hb':find b p with
    | some x=>exact .inr ⟨x,rfl⟩
    | none=>rw [hb'] at hf; exact .inl ⟨e,by simpa using hf⟩
   simp only [tudP,decide_eq_true_eq,h1,jy hp];exact h
theorem zb3:∀ (n:Nat) {p u:Str},pOk p=true→u∈jl n p→pOk u=true∧und p u=true∧(pUp u=[47]∨(names p).length≤n→pUp u=[47]∨pUp u∈jl n p)
 | 0,p,u,_,h=>by simp [jl] at h
 | n+1,p,u,hp,h=>by
  unfold jl at h ⊢;split at h
  ·simp at h
  ·rename_i hr;rw [if_neg hr];obtain ⟨q1,q2,q3⟩:=yh hp hr;rcases List.mem_cons.1 h with rfl | h
   ·refine ⟨q1,ym hp,fun hh=>?_⟩;by_cases hr2:pUp (pUp p)=[47]
    ·exact .inl hr2
    ·rcases hh with hh | hh
     ·exact .inl hh
     ·right;have hn1:=(qS q1).1.1;cases n with
      | zero=>omega
      | succ n=>refine List.mem_cons_of_mem _ ?_; unfold jl; rw [if_neg hr2]; simp
   ·obtain ⟨h1,h2,h3⟩:=zb3 n q1 h;refine ⟨h1,ZZ (ZQ h1) hr (ym hp) h2,fun hh=>?_⟩;rcases h3 (hh.imp id fun hh=>by omega) with h4 | h4
    ·exact .inl h4
    ·exact .inr (List.mem_cons_of_mem _ h4)
def DS (b:List Ent) (ps:List Str) (x:Mark):Prop:=(∃ p∈ps,zJ b p=some x)∨∃ p∈ps,(zJ b p).isSome=true∧∃ u∈jl 3 p,x=⟨u,2,[]⟩
theorem yQ {b:List Ent} {p:Str} {x:Mark} (h:zJ b p=some x):x.path=p:=by
 unfold zJ at h;split at h
 ·cases h; rfl
 ·split at h
  ·cases h; rfl
  ·cases h
theorem zkf {b:List Ent} (hb:TG b) {p:Str} (hp:pOk p=true) (h:(zJ b p).isSome=true):zR b (pUp p)=true:=by
 unfold zJ at h;rw [jy hp] at h;cases hf:find b p with
 | none =>
  rw [hf] at h; simp only at h;split at h
  ·assumption
  ·cases h
 | some e =>
  obtain ⟨h1,h2⟩:=jX hf;have:=hb.up e h2;rw [h1] at this; exact this
theorem zcE {b:List Ent} {p:Str} (hp:pOk p=true) (h:find b p=some ⟨p,true,[]⟩):zJ b p=some ⟨p,2,[]⟩:=by
 unfold zJ; rw [jy hp,h]; rfl
theorem zgo {b:List Ent} (hb:TG b) {p u:Str} (hp:pOk p=true) (h:(zJ b p).isSome=true) (hu:u∈jl 3 p):pOk u=true∧und p u=true∧find b u=some ⟨u,true,[]⟩:=by
 obtain ⟨h1,h2,_⟩:=zb3 3 hp hu;exact ⟨h1,h2,hb.anc _ (Nat.le_refl _) hp h1 h2 (zkf hb hp h)⟩
theorem DS.one {b:List Ent} (hb:TG b) {ps:List Str} (hps:∀ p∈ps,pOk p=true) {x y:Mark} (hx:DS b ps x) (hy:DS b ps y) (h:x.path=y.path):x=y:=by
 have key:∀ {z},DS b ps z→pOk z.path=true∧((∃ p∈ps,zJ b p=some z∧z.path=p)∨(z=⟨z.path,2,[]⟩∧find b z.path=some ⟨z.path,true,[]⟩)):=by
  rintro z (⟨p,hp,e⟩ | ⟨p,hp,hs,u,hu,rfl⟩)
  ·have:=yQ e;exact ⟨by rw [this]; exact hps p hp,.inl ⟨p,hp,e,this⟩⟩
  ·have:=zgo hb (hps p hp) hs hu;exact ⟨this.1,.inr ⟨rfl,this.2.2⟩⟩
 obtain ⟨hxp,hx⟩:=key hx;obtain ⟨_,hy⟩:=key hy;rcases hx with ⟨p,hp,e,e1⟩ | ⟨e,e1⟩<;>rcases hy with ⟨q,hq,f,f1⟩ | ⟨f,f1⟩
 ·have:p=q:=by rw [← e1,← f1,h]
  subst this; rw [e] at f; cases f; rfl
 ·rw [← h] at f1 f;rw [← e1] at e;rw [zcE hxp f1] at e; exact (Option.some.inj e).symm.trans f.symm
 ·rw [h] at e1 e hxp;rw [← f1] at f;rw [zcE hxp e1] at f; exact e.trans (Option.some.inj f)
 ·rw [e,f,h]
theorem zew {α:Type} {key:α→Str} {t:List α} {e x:α} (hs:Srt key t) (h:∀ y∈t,key y=key e→y=e):x∈zO key t e↔x∈t∨x=e:=by
 have h1:x∈zO key t e↔fnd key (zO key t e) (key x)=some x:=Ji (yH hs);rw [h1,Qf];by_cases hk:key e=key x
 ·rw [if_pos hk];constructor
  ·intro e'; cases e'; exact .inr rfl
  ·rintro (hx|rfl)
   ·rw [h x hx hk.symm]
   ·rfl
 ·rw [if_neg hk];constructor
  ·intro e'; exact .inl (qY e').2
  ·rintro (hx|rfl)
   ·exact jQ hs hx
   ·exact absurd rfl hk
theorem zmj {l:List Mark} {u:Str} {x:Mark} (hs:Srt Mark.path l) (h:∀ y∈l,y.path=u→y=⟨u,2,[]⟩):x∈upsP l u↔x∈l∨x=⟨u,2,[]⟩:=by
 unfold upsP;split
 ·exact zew hs h
 ·rename_i hk;unfold kind at hk;cases hf:zt l u with
  | none=>rw [hf] at hk; simp at hk
  | some m =>
   obtain ⟨h1,h2⟩:=qy hf;have:=h m h2 h1;constructor
   ·exact .inl
   ·rintro (h|rfl)
    ·exact h
    ·rw [← this]; exact h2
theorem zfV {l:List Mark} {u:Str} (hs:Srt Mark.path l):Srt Mark.path (upsP l u):=by
 unfold upsP; split
 ·exact yH hs
 ·exact hs
theorem zfS:∀ {us:List Str} {l:List Mark},Srt Mark.path l→Srt Mark.path (us.foldl upsP l)
 | [],_,h=>h
 | _::us,_,h=>zfS (us:=us) (zfV h)
theorem zev:∀ {us:List Str} {l:List Mark} {x:Mark},Srt Mark.path l→(∀ u∈us,∀ y∈l,y.path=u→y=⟨u,2,[]⟩)→(x∈us.foldl upsP l↔x∈l∨∃ u∈us,x=⟨u,2,[]⟩)
 | [],l,x,_,_=>by simp
 | u::us,l,x,hs,h=>by
  have hm:=fun x=>zmj (x:=x) hs (h u (by simp))
  rw [List.foldl_cons,zev (us:=us) (zfV hs) fun v hv y hy e=>?_,hm]
  ·simp only [List.mem_cons,exists_eq_or_imp,or_assoc]
  ·rcases (hm y).1 hy with hy|rfl
   ·exact h v (by simp [hv]) y hy e
   ·simp at e; rw [e]
theorem zn4 {b:List Ent} {out:List Mark} {p:Str} (hs:Srt Mark.path out):Srt Mark.path (difP b out p):=by
 unfold difP;split
 ·exact zfS (yH hs)
 ·exact hs
theorem zbd {b:List Ent} (hb:TG b) {all:List Str} (hall:∀ p∈all,pOk p=true):∀ {ps:List Str} {out:List Mark},(∀ p∈ps,p∈all)→Srt Mark.path out→(∀ x∈out,DS b all x) →
  Srt Mark.path (ps.foldl (difP b) out)∧∀ x,x∈ps.foldl (difP b) out↔x∈out∨DS b ps x
 | [],out,_,hs,_=>⟨hs,fun x=>by simp [DS]⟩
 | p::ps,out,hps,hs,hout=>by
  have hp:=hps p (by simp);have step:Srt Mark.path (difP b out p)∧∀ x,x∈difP b out p↔x∈out∨DS b [p] x:=by
   refine ⟨zn4 hs,fun x=>?_⟩;unfold difP;cases hd:zJ b p with
   | none=>simp [DS,hd]
   | some m =>
    have hm:DS b all m := .inl ⟨p,hp,hd⟩;have hsome:(zJ b p).isSome=true:=by rw [hd]; rfl
    have h1:=fun x=>zew (x:=x) hs fun y hy e=>(hout y hy).one hb hall hm e
    have h2:x∈ups (lput out m) p↔x∈lput out m∨∃ u∈jl 3 p,x=⟨u,2,[]⟩:=by
     refine zev (yH hs) fun u hu y hy e=>?_
     have hU:DS b all ⟨u,2,[]⟩ := .inr ⟨p,hp,hsome,u,hu,rfl⟩;rcases (h1 y).1 hy with hy|rfl
     ·exact (hout y hy).one hb hall hU e
     ·exact hm.one hb hall hU e
    simp only;rw [h2,h1];simp only [DS,List.mem_singleton,exists_eq_left,hd,Option.isSome_some,Option.some.injEq,true_and,or_assoc];constructor
    ·rintro (h | h | h)
     ·exact .inl h
     ·exact .inr (.inl h.symm)
     ·exact .inr (.inr h)
    ·rintro (h | h | h)
     ·exact .inl h
     ·exact .inr (.inl h.symm)
     ·exact .inr (.inr h)
  have hout2:∀ x∈difP b out p,DS b all x:=fun x hx=>by
   rcases (step.2 x).1 hx with hx | hx
   ·exact hout x hx
   ·rcases hx with ⟨q,hq,e⟩ | ⟨q,hq,e⟩
    ·simp at hq; subst hq; exact .inl ⟨q,hp,e⟩
    ·simp at hq; subst hq; exact .inr ⟨q,hp,e⟩
  obtain ⟨r1,r2⟩:=zbd hb hall (ps:=ps) (fun q hq=>hps q (by simp [hq])) step.1 hout2;refine ⟨r1,fun x=>?_⟩;rw [List.foldl_cons,r2,step.2];simp only [DS,List.mem_cons,exists_eq_or_imp,List.not_mem_nil,false_and,exists_false,or_false,exists_eq_left];constructor
  ·rintro ((h | h | h) | h | h)
   ·exact .inl h
   ·exact .inr (.inl (.inl h))
   ·exact .inr (.inr (.inl h))
   ·exact .inr (.inl (.inr h))
   ·exact .inr (.inr (.inr h))
  ·rintro (h|(h | h) | h | h)
   ·exact .inl (.inl h)
   ·exact .inl (.inr (.inl h))
   ·exact .inr (.inl h)
   ·exact .inl (.inr (.inr h))
   ·exact .inr (.inr h)
theorem ZY {a b:List Ent} (ha:TG a) (hb:TG b) {p:Str} (h:p∈z6 a b):pOk p=true:=by
 have:=(ZN ha hb).1 h;cases ha':find a p with
 | some e=>exact ha.find_ok ha'
 | none =>
  cases hb':find b p with
  | some e=>exact hb.find_ok hb'
  | none=>rw [ha',hb'] at this; exact absurd rfl this
theorem zaw {a b:List Ent} (ha:TG a) (hb:TG b):Srt Mark.path (diff a b) :=
 (zbd hb (fun _ h=>ZY ha hb h) (fun _ h=>h) List.Pairwise.nil (fun _ h=>by cases h)).1
theorem Zg {a b:List Ent} (ha:TG a) (hb:TG b) {x:Mark}:x∈diff a b↔DS b (z6 a b) x:=by
 have:=(zbd hb (all:=z6 a b) (fun _ h=>ZY ha hb h) (fun _ h=>h) (out:=[]) List.Pairwise.nil (fun _ h=>by cases h)).2 x;unfold diff; rw [this]; simp
theorem Z6 {a b:List Ent} (ha:TG a) (hb:TG b) {x:Mark} (h:x∈diff a b):pOk x.path=true ∧
  ((∃ e,find b x.path=some e∧x=⟨x.path,if e.dir=true then 2 else 1,e.data⟩)∨(find b x.path=none∧zR b (pUp x.path)=true∧x=⟨x.path,3,[]⟩∧∃ e,find a x.path=some e)):=by
 rcases (Zg ha hb).1 h with ⟨p,hp,e⟩ | ⟨p,hp,hs,u,hu,rfl⟩
 ·have hpo:=ZY ha hb hp;have hx:=yQ e;rw [hx];refine ⟨hpo,?_⟩;have ht:=(ZN ha hb).1 hp;unfold zJ at e;rw [jy hpo] at e;cases hf:find b p with
  | some y=>rw [hf] at e; cases e; exact .inl ⟨y,rfl,rfl⟩
  | none =>
   rw [hf] at e;simp only at e;split at e
   ·cases e;refine .inr ⟨rfl,by assumption,rfl,?_⟩;cases ha':find a p with
    | some y=>exact ⟨y,rfl⟩
    | none=>rw [ha',hf] at ht; exact absurd rfl ht
   ·cases e
 ·have:=zgo hb (ZY ha hb hp) hs hu;exact ⟨this.1,.inl ⟨_,this.2.2,rfl⟩⟩
theorem zcG {a b:List Ent} (ha:TG a) (hb:TG b):lOk (diff a b)=true:=by
 have hs:=zaw ha hb;have hm:∀ m∈diff a b,mok m=true:=fun m hm=>by
  obtain ⟨hp,h | h⟩:=Z6 ha hb hm
  ·obtain ⟨e,h1,h2⟩:=h;have he:=(jX h1).2;have hd:=hb.datOk he;rw [h2];simp only [mok,hp,hd];cases hdir:e.dir with
   | true=>simp [hb.data he hdir]
   | false=>simp
  ·rw [h.2.2.1];simp only [mok,hp]; rfl
 refine zV.2 ⟨?_,hs,hm,fun m hm=>?_,fun m hm hk=>?_⟩
 ·have h1:((diff a b).map Mark.path).length≤(a.map Ent.path++b.map Ent.path).length:=by
   refine Qv (y0 hs) fun p hp=>?_
   obtain ⟨m,hm,rfl⟩:=List.mem_map.1 hp;obtain ⟨_,h | h⟩:=Z6 ha hb hm
   ·obtain ⟨e,h1,_⟩:=h;obtain ⟨h2,h3⟩:=jX h1;exact List.mem_append.2 (.inr (List.mem_map.2 ⟨e,h3,h2⟩))
   ·obtain ⟨_,_,_,e,h1⟩:=h;obtain ⟨h2,h3⟩:=jX h1;exact List.mem_append.2 (.inl (List.mem_map.2 ⟨e,h3,h2⟩))
  have:=ha.len;have:=hb.len;simp at h1; omega
 ·rw [qO];have key:pUp m.path=[47]∨(⟨pUp m.path,2,[]⟩:Mark)∈diff a b:=by
   rcases (Zg ha hb).1 hm with ⟨p,hp,e⟩ | ⟨p,hp,hsm,u,hu,rfl⟩
   ·rw [yQ e];by_cases hr:pUp p=[47]
    ·exact .inl hr
    ·refine .inr ((Zg ha hb).2 (.inr ⟨p,hp,by rw [e]; rfl,pUp p,?_,rfl⟩));unfold jl; rw [if_neg hr]; simp
   ·have hpo:=ZY ha hb hp;rcases (zb3 3 hpo hu).2.2 (.inr (qS hpo).1.2) with h | h
    ·exact .inl h
    ·exact .inr ((Zg ha hb).2 (.inr ⟨p,hp,hsm,_,h,rfl⟩))
  rcases key with h | h
  ·exact .inl h
  ·exact .inr ⟨_,jQ hs h,.inl rfl⟩
 ·cases hb':zQ (diff a b) m.path with
  | false=>rfl
  | true =>
   obtain ⟨x,hx,hk4,_⟩:=ZP hb';obtain ⟨_,h | h⟩:=Z6 ha hb hx
   ·obtain ⟨e,_,h2⟩:=h;rw [h2] at hk4;simp only at hk4;split at hk4<;>omega
   ·rw [h.2.2.1] at hk4; simp at hk4
theorem zmM {a b:List Ent} (ha:TG a) (hb:TG b):jj (diff a b) a=b:=by
 have hs:=zaw ha hb;have hD:LG (diff a b):=LG.of (zcG ha hb);refine Y3 (yl ha.srt) hb.srt fun p=>?_
 show find _ p=find b p;rw [Zo hs ha.srt];cases hf:zt (diff a b) p with
 | some m =>
  obtain ⟨h1,h2⟩:=qy hf;simp only;obtain ⟨_,h | h⟩:=Z6 ha hb h2
  ·obtain ⟨e,h3,h4⟩:=h;rw [h1] at h3;rw [h3,h4];obtain ⟨g1,g2⟩:=jX h3;obtain ⟨ep,ed,edat⟩:=e;simp only at g1 h4 ⊢;cases ed with
   | true=>have:=hb.data g2 rfl; simp at this; simp [ji,h1,g1,this]
   | false=>simp [ji,h1,g1]
  ·rw [h1] at h;rw [h.1,h.2.2.1]; rfl
 | none =>
  simp only;by_cases hh:zw (diff a b) p=true
  ·rw [if_pos hh];obtain ⟨m,hm,hk,hu⟩:=Zm hh;have hne:m.path≠p:=fun e=>by
    have h2:zt (diff a b) m.path=some m:=jQ hs hm;rw [e,hf] at h2; cases h2
   have hu:=hu.resolve_left hne;cases hfb:find b p with
   | none=>rfl
   | some e =>
    obtain ⟨hpm,h⟩:=Z6 ha hb hm;have hd:=hb.anc' hfb hpm hu;rcases h with ⟨y,h1,h2⟩ | h
    ·rw [hd] at h1; cases h1;rw [h2] at hk; simp at hk
    ·rw [hd] at h; cases h.1
  ·rw [if_neg hh];apply Classical.byContradiction; intro hne;have up:∀ (n:Nat) {q:Str},(names q).length≤n→pOk q=true→(∃ e,find a q=some e)→find b q=none→zw (diff a b) q=true:=by
    intro n;induction n with
    | zero=>intro q hn hq; have:=(qS hq).1.1; omega
    | succ n ih =>
     rintro q hn hq ⟨e,h1⟩ h2;have ht:q∈z6 a b:=(ZN ha hb).2 (by rw [h1,h2]; simp);cases hd:zR b (pUp q) with
     | true =>
      have:zJ b q=some ⟨q,3,[]⟩:=by unfold zJ; rw [jy hq,h2]; simp only [hd,if_true]
      exact qg ((Zg ha hb).2 (.inl ⟨q,ht,this⟩)) (by simp) (.inl rfl)
     | false =>
      have hr:pUp q≠[47]:=by intro e'; rw [e'] at hd; cases hd
      obtain ⟨u1,_,u3⟩:=yh hq hr;obtain ⟨g1,g2⟩:=jX h1;have hda:=ha.up e g2;rw [g1] at hda;have hfa:=ha.isDir_ent u1 hda;refine hD.hides_und hr (ym hq) ?_;cases hfb:find b (pUp q) with
      | none=>exact ih (by omega) u1 ⟨_,hfa⟩ hfb
      | some y =>
       have hyd:y.dir=false:=by
        unfold zR at hd; rw [jy u1,hfb] at hd; exact hd
       have ht2:pUp q∈z6 a b:=(ZN ha hb).2 (by rw [hfa,hfb]; intro e'; cases e'; cases hyd);have:zJ b (pUp q)=some ⟨pUp q,1,y.data⟩:=by unfold zJ; rw [jy u1,hfb]; simp [hyd]
       exact qg ((Zg ha hb).2 (.inl ⟨_,ht2,this⟩)) (by simp) (.inl rfl)
   have ht:p∈z6 a b:=(ZN ha hb).2 hne;have hp:=ZY ha hb ht;cases hfb:find b p with
   | some e =>
    have:zJ b p=some ⟨p,if e.dir=true then 2 else 1,e.data⟩:=by unfold zJ; rw [jy hp,hfb]
    have h2:zt (diff a b) p=some _:=jQ (key:=Mark.path) hs ((Zg ha hb).2 (.inl ⟨p,ht,this⟩));rw [hf] at h2; cases h2
   | none =>
    cases hfa:find a p with
    | none=>rw [hfa,hfb] at hne; exact hne rfl
    | some e=>exact hh (up _ (Nat.le_refl _) hp ⟨e,hfa⟩ hfb)
theorem zeg {a b:List Ent} (ha:tOk a=true) (hb:tOk b=true):lOn (diff a b) a=some b:=by
 have ga:=TG.of ha;have gb:=TG.of hb;unfold lOn;rw [if_pos (by simp [zcG ga gb,ha]),zmM ga gb,if_pos gb.len]

def qe {α:Type} (key:α→Str) (X S:List α):Prop:=S.Perm X∧S.Pairwise fun a b=>ltS (key b) (key a)=false
theorem qe.eq {α:Type} {key:α→Str} {X S Y:List α} (h:qe key X S) (hn:(X.map key).Nodup) (hY:Srt key Y) (hm:∀ e,e∈X↔e∈Y):S=Y:=by
 have hn2:(S.map key).Nodup:=(h.1.map key).nodup_iff.2 hn;refine zfU ?_ hY fun e=>by rw [← hm]; exact h.1.mem_iff
 unfold List.Nodup at hn2;rw [List.pairwise_map] at hn2;refine (h.2.and hn2).imp fun ⟨h1,h2⟩=>?_
 rcases Qp h1 with h3 | h3
 ·exact absurd h3.symm h2
 ·exact h3
theorem qe.len {α:Type} {key:α→Str} {X S:List α} (h:qe key X S):S.length=X.length:=h.1.length_eq
def zS:List Ent→List Ent→List Str
 | [],[]=>[]
 | x::a,[]=>x.path::zS a []
 | [],y::b=>y.path::zS [] b
 | x::a,y::b=>if ltS x.path y.path=true then x.path::zS a (y::b) else if ltS y.path x.path=true then y.path::zS (x::a) b else if x=y then zS a b else x.path::zS a b
termination_by a b=>a.length+b.length
theorem Zv {α:Type} {key:α→Str} {x:α} {l:List α} (hs:Srt key (x::l)) {p:Str} {e:α} (h:fnd key l p=some e):ltS (key x) p=true:=by
 unfold Srt at hs;rw [List.pairwise_cons] at hs;obtain ⟨h1,h2⟩:=qY h;rw [← h1]; exact hs.1 e h2
theorem JK {α:Type} {key:α→Str} {x:α} {l:List α} (hs:Srt key (x::l)):Srt key l:=by
 unfold Srt at hs; rw [List.pairwise_cons] at hs; exact hs.2
theorem yz {x:Ent} {l:List Ent} {p:Str}:find (x::l) p=if x.path=p then some x else find l p:=jI
theorem zds {l:List Ent} {y:Ent} (hs:Srt Ent.path (y::l)) {p:Str} (h:ltS p y.path=true):find (y::l) p=none:=by
 refine jW.2 fun e he hk=>?_
 rcases List.mem_cons.1 he with rfl | he
 ·rw [hk,yc] at h; cases h
 ·unfold Srt at hs;rw [List.pairwise_cons] at hs;have:=yX h (hs.1 e he);rw [hk,yc] at this; cases this
theorem zdt {l:List Ent} {y:Ent} (hs:Srt Ent.path (y::l)):find l y.path=none:=by
 unfold Srt at hs;rw [List.pairwise_cons] at hs;exact jW.2 fun e he=>(yC (hs.1 e he)).symm
theorem zmm:∀ (n:Nat) {a b:List Ent},a.length+b.length≤n→Srt Ent.path a→Srt Ent.path b→SrtS (zS a b)∧∀ p,p∈zS a b↔find a p≠find b p:=by
 intro n;induction n with
 | zero =>
  intro a b hl _ _;cases a with
  | cons=>simp at hl
  | nil=>cases b with
   | cons=>simp at hl
   | nil=>exact ⟨by rw [zS]; exact List.Pairwise.nil,fun p=>by rw [zS]; simp⟩
 | succ n ih =>
  intro a b hl ha hb;have hcons:∀ {x:Ent} {a b:List Ent} {p0:Str},(SrtS (zS a b)∧∀ p,p∈zS a b↔find a p≠find b p)→(∀ p,(∃ e,find a p=some e)→ltS x.path p=true)→(∀ p,(∃ e,find b p=some e)→ltS x.path p=true) →
    SrtS (x.path::zS a b):=by
   rintro x a b _ ⟨h1,h2⟩ h3 h4;refine List.pairwise_cons.2 ⟨fun p hp=>?_,h1⟩;have:=(h2 p).1 hp;cases hfa:find a p with
   | some e=>exact h3 p ⟨e,hfa⟩
   | none =>
    cases hfb:find b p with
    | some e=>exact h4 p ⟨e,hfb⟩
    | none=>rw [hfa,hfb] at this; exact absurd rfl this
  cases a with
  | nil =>
   cases b with
   | nil=>exact ⟨by rw [zS]; exact List.Pairwise.nil,fun p=>by rw [zS]; simp⟩
   | cons y b =>
    have h:=ih (a:=[]) (b:=b) (by simp at hl ⊢; omega) ha (JK hb);rw [zS];refine ⟨hcons (p0:=[]) h (fun p ⟨e,he⟩=>by cases he) (fun p ⟨e,he⟩=>Zv hb he),fun p=>?_⟩;rw [List.mem_cons,h.2,yz];by_cases hp:y.path=p
    ·rw [if_pos hp]; simp [hp,find]
    ·rw [if_neg hp]; exact or_iff_right fun e=>hp (Eq.symm e)
  | cons x a =>
   cases b with
   | nil =>
    have h:=ih (a:=a) (b:=[]) (by simp at hl ⊢; omega) (JK ha) hb;rw [zS];refine ⟨hcons (p0:=[]) h (fun p ⟨e,he⟩=>Zv ha he) (fun p ⟨e,he⟩=>by cases he),fun p=>?_⟩;rw [List.mem_cons,h.2,yz];by_cases hp:x.path=p
    ·rw [if_pos hp]; simp [hp,find]
    ·rw [if_neg hp]; exact or_iff_right fun e=>hp (Eq.symm e)
   | cons y b =>
    rw [zS];by_cases h1:ltS x.path y.path=true
    ·rw [if_pos h1];have h:=ih (a:=a) (b:=y::b) (by simp at hl ⊢; omega) (JK ha) hb;refine ⟨hcons (p0:=[]) h (fun p ⟨e,he⟩=>Zv ha he) (fun p ⟨e,he⟩=>?_),fun p=>?_⟩
     ·rw [yz] at he;split at he
      ·rename_i hy; rw [← hy]; exact h1
      ·exact yX h1 (Zv hb he)
     ·rw [List.mem_cons,h.2,yz (x:=x)];by_cases hp:x.path=p
      ·rw [if_pos hp,zds hb (by rw [← hp]; exact h1)]; simp [hp]
      ·rw [if_neg hp]; exact or_iff_right fun e=>hp (Eq.symm e)
    ·rw [if_neg h1];by_cases h2:ltS y.path x.path=true
     ·rw [if_pos h2];have h:=ih (a:=x::a) (b:=b) (by simp at hl ⊢; omega) ha (JK hb);refine ⟨hcons (p0:=[]) h (fun p ⟨e,he⟩=>?_) (fun p ⟨e,he⟩=>Zv hb he),fun p=>?_⟩
      ·rw [yz] at he;split at he
       ·rename_i hy; rw [← hy]; exact h2
       ·exact yX h2 (Zv ha he)
      ·rw [List.mem_cons,h.2,yz (x:=y)];by_cases hp:y.path=p
       ·rw [if_pos hp,zds ha (by rw [← hp]; exact h2)]; simp [hp]
       ·rw [if_neg hp]; exact or_iff_right fun e=>hp (Eq.symm e)
     ·rw [if_neg h2];have he:x.path=y.path:=by
       rcases Qp (by simpa using h1:ltS x.path y.path=false) with h3 | h3
       ·exact h3
       ·exact absurd h3 h2
      have h:=ih (a:=a) (b:=b) (by simp at hl ⊢; omega) (JK ha) (JK hb);have hfa:=zdt ha;have hfb:=zdt hb;by_cases hxy:x=y
      ·rw [if_pos hxy];refine ⟨h.1,fun p=>?_⟩;rw [h.2,yz,yz,← he,hxy];by_cases hp:y.path=p
       ·rw [if_pos hp,if_pos hp,← hp,hfb,← he,hfa]; simp
       ·rw [if_neg hp,if_neg hp]
      ·rw [if_neg hxy];refine ⟨hcons (p0:=[]) h (fun p ⟨e,h'⟩=>Zv ha h') (fun p ⟨e,h'⟩=>by rw [he]; exact Zv hb h'),fun p=>?_⟩;rw [List.mem_cons,h.2,yz,yz,← he];by_cases hp:x.path=p
       ·rw [if_pos hp,if_pos hp]; simp [hp,hxy]
       ·rw [if_neg hp,if_neg hp]; exact or_iff_right fun e=>hp (Eq.symm e)
theorem zmn {a b:List Ent} (ha:TG a) (hb:TG b):zS a b=z6 a b:=by
 obtain ⟨h1,h2⟩:=zmm _ (Nat.le_refl _) ha.srt hb.srt;exact zfU h1 (zgh ha) fun p=>by rw [h2,ZN ha hb]
def jF (l:List Mark) (u:Str):List Mark:=if (zt l u).isSome=true then l else l++[⟨u,2,[]⟩]
theorem zmh {l:List Mark} {u:Str} {x:Mark} (h:∀ y∈l,y.path=u→y=⟨u,2,[]⟩):x∈jF l u↔x∈l∨x=⟨u,2,[]⟩:=by
 unfold jF;split
 ·rename_i hs;obtain ⟨m,hm⟩:=Option.isSome_iff_exists.1 hs;obtain ⟨h1,h2⟩:=qy hm;have:=h m h2 h1;constructor
  ·exact .inl
  ·rintro (h|rfl)
   ·exact h
   ·rw [← this]; exact h2
 ·simp
theorem zmv {l:List Mark} {u:Str} (h:(l.map Mark.path).Nodup):((jF l u).map Mark.path).Nodup:=by
 unfold jF;split
 ·exact h
 ·rename_i hs;have:zt l u=none:=by cases hm:zt l u with
   | none=>rfl
   | some m=>rw [hm] at hs; exact absurd rfl hs
  rw [List.map_append,List.nodup_append];refine ⟨h,by simp,fun p hp q hq=>?_⟩;simp at hq;subst hq;obtain ⟨m,hm,rfl⟩:=List.mem_map.1 hp;exact jW.1 this m hm
theorem zdG:∀ {us:List Str} {l:List Mark},(l.map Mark.path).Nodup→(∀ u∈us,∀ y∈l,y.path=u→y=⟨u,2,[]⟩) →
  ((us.foldl jF l).map Mark.path).Nodup∧∀ x,x∈us.foldl jF l↔x∈l∨∃ u∈us,x=⟨u,2,[]⟩
 | [],l,hn,_=>⟨hn,fun x=>by simp⟩
 | u::us,l,hn,h=>by
  have hm:=fun x=>zmh (x:=x) (h u (by simp))
  obtain ⟨h1,h2⟩:=zdG (us:=us) (zmv (u:=u) hn) fun v hv y hy e=>by
   rcases (hm y).1 hy with hy|rfl
   ·exact h v (by simp [hv]) y hy e
   ·simp at e; rw [e]
  refine ⟨h1,fun x=>?_⟩;rw [List.foldl_cons,h2,hm];simp only [List.mem_cons,exists_eq_or_imp,or_assoc]
def qp (l:List Mark) (m:Mark):List Mark:=(jl 3 m.path).foldl jF l
def difX (a b:List Ent):List Mark:=((z6 a b).filterMap (zJ b)).foldl qp ((z6 a b).filterMap (zJ b))
theorem zdI {b:List Ent} (hb:TG b) {all:List Str} (hall:∀ p∈all,pOk p=true):∀ {ms:List Mark} {l:List Mark},(∀ m∈ms,∃ p∈all,zJ b p=some m)→(l.map Mark.path).Nodup→(∀ x∈l,DS b all x) →
  ((ms.foldl qp l).map Mark.path).Nodup∧∀ x,x∈ms.foldl qp l↔x∈l∨∃ m∈ms,∃ u∈jl 3 m.path,x=⟨u,2,[]⟩
 | [],l,_,hn,_=>⟨hn,fun x=>by simp⟩
 | m::ms,l,hms,hn,hl=>by
  obtain ⟨p,hp,hd⟩:=hms m (by simp);have hpm:=yQ hd;have hU:∀ u∈jl 3 m.path,DS b all ⟨u,2,[]⟩:=fun u hu => .inr ⟨p,hp,by rw [hd]; rfl,u,by rw [← hpm]; exact hu,rfl⟩
  obtain ⟨h1,h2⟩:=zdG (us:=jl 3 m.path) hn fun u hu y hy e=>(hl y hy).one hb hall (hU u hu) e
  obtain ⟨h3,h4⟩:=zdI hb hall (ms:=ms) (l:=qp l m) (fun x hx=>hms x (by simp [hx])) h1 fun x hx=>by
   rcases (h2 x).1 hx with hx | ⟨u,hu,rfl⟩
   ·exact hl x hx
   ·exact hU u hu
  refine ⟨h3,fun x=>?_⟩;rw [List.foldl_cons,h4];have:x∈qp l m↔x∈l∨∃ u∈jl 3 m.path,x=⟨u,2,[]⟩:=h2 x;rw [this];simp only [List.mem_cons,exists_eq_or_imp,or_assoc]
theorem zcF {a b:List Ent} (ha:TG a) (hb:TG b):((difX a b).map Mark.path).Nodup∧∀ x,x∈difX a b↔x∈diff a b:=by
 have hall:∀ p∈z6 a b,pOk p=true:=fun _ h=>ZY ha hb h
 have hmem:∀ m,m∈(z6 a b).filterMap (zJ b)↔∃ p∈z6 a b,zJ b p=some m:=fun m=>List.mem_filterMap
 have hn:(((z6 a b).filterMap (zJ b)).map Mark.path).Nodup:=by
  have hs:=zgh (b:=b) ha;unfold List.Nodup;rw [List.pairwise_map,List.pairwise_filterMap];refine List.Pairwise.imp (fun {p q} h m hm m' hm'=>?_) hs;rw [yQ hm,yQ hm']; exact yC h
 obtain ⟨h1,h2⟩:=zdI hb hall (ms:=(z6 a b).filterMap (zJ b)) (fun m hm=>(hmem m).1 hm) hn fun x hx => .inl ((hmem x).1 hx)
 refine ⟨h1,fun x=>?_⟩;have e:x∈difX a b↔_:=h2 x;rw [e,Zg ha hb,hmem];unfold DS;refine or_congr Iff.rfl ?_;constructor
 ·rintro ⟨m,hm,u,hu,rfl⟩;obtain ⟨p,hp,hd⟩:=(hmem m).1 hm;exact ⟨p,hp,by rw [hd]; rfl,u,by rw [← yQ hd]; exact hu,rfl⟩
 ·rintro ⟨p,hp,hs,u,hu,rfl⟩;obtain ⟨m,hm⟩:=Option.isSome_iff_exists.1 hs;exact ⟨m,(hmem m).2 ⟨p,hp,hm⟩,u,by rw [yQ hm]; exact hu,rfl⟩
theorem zkh {a b:List Ent} (ha:TG a) (hb:TG b) {S:List Mark} (h:qe Mark.path (difX a b) S):S=diff a b :=
 h.eq (zcF ha hb).1 (zaw ha hb) (zcF ha hb).2
def onX (l:List Mark) (t:List Ent):List Ent:=(t.filter fun e=>!(zt l e.path).isSome&&!zw l e.path)++l.filterMap ji
theorem zbr {l:List Mark} {t:List Ent} (hl:lOk l=true) (ht:Srt Ent.path t) (e:Ent):e∈onX l t↔e∈jj l t:=by
 rw [YE hl ht];unfold onX;rw [List.mem_append,List.mem_filterMap,List.mem_filter];constructor
 ·rintro (⟨h1,h2⟩ | h)
  ·simp only [Bool.and_eq_true,Bool.not_eq_true',Option.isSome_eq_false_iff,Option.isNone_iff_eq_none] at h2;exact .inr ⟨h2.1,h2.2,h1⟩
  ·exact .inl h
 ·rintro (h | ⟨h1,h2,h3⟩)
  ·exact .inr h
  ·exact .inl ⟨h3,by simp [h1,h2]⟩
theorem zeR {l:List Mark} {t:List Ent} (hl:Srt Mark.path l) (ht:Srt Ent.path t):((onX l t).map Ent.path).Nodup:=by
 unfold onX;rw [List.map_append,List.nodup_append];refine ⟨y0 (ZV ht _),?_,fun p hp q hq=>?_⟩
 ·unfold List.Nodup;rw [List.pairwise_map,List.pairwise_filterMap];refine List.Pairwise.imp (fun {x y} h e he f hf=>?_) hl;rw [Zn he,Zn hf]; exact yC h
 ·rintro rfl;obtain ⟨e,he,rfl⟩:=List.mem_map.1 hp;obtain ⟨f,hf,hq⟩:=List.mem_map.1 hq;obtain ⟨m,hm,hf⟩:=List.mem_filterMap.1 hf;have h2:=(List.mem_filter.1 he).2;have h3:zt l m.path=some m:=jQ hl hm;rw [← hq,Zn hf,h3] at h2;simp at h2
theorem zmL {l:List Mark} {t S:List Ent} (hl:lOk l=true) (ht:Srt Ent.path t) (h:qe Ent.path (onX l t) S):S=jj l t :=
 h.eq (zeR (zV.1 hl).2.1 ht) (yl ht) (zbr hl ht)
theorem zmK {l:List Mark} {t:List Ent} (hl:lOk l=true) (ht:Srt Ent.path t):(onX l t).length=(jj l t).length:=by
 have h1:∀ {α:Type} {key:α→Str} {a b:List α},(a.map key).Nodup→(∀ e,e∈a→e∈b)→[DecidableEq α]→a.length≤b.length:=by
  intro α key a b hn h _;refine Qv ?_ h;unfold List.Nodup at hn ⊢;rw [List.pairwise_map] at hn;exact hn.imp fun h e=>h (by rw [e])
 have ha:=h1 (key:=Ent.path) (zeR (zV.1 hl).2.1 ht) (fun e he=>(zbr hl ht e).1 he);have hb:=h1 (key:=Ent.path) (y0 (yl (l:=l) ht)) (fun e he=>(zbr hl ht e).2 he);omega
def jA (a b:List Mark):List Mark:=b.filter (jh a)++a.map (zU b)
theorem Qk {a b:List Mark} (ha:LG a) (hb:LG b) (m:Mark):m∈jA a b↔m∈jz a b:=by
 rw [Zh ha hb];unfold jA;rw [List.mem_append,List.mem_filter,List.mem_map];have hj:jh a m=true↔zt a m.path=none∧zw a m.path=false:=by
  unfold jh;simp only [Bool.and_eq_true,Bool.not_eq_true',beq_iff_eq,ha.kind0];exact and_comm
 rw [hj];constructor
 ·rintro (⟨h1,h2,h3⟩ | ⟨x,h1,h2⟩)
  ·exact .inr ⟨h1,h2,h3⟩
  ·exact .inl ⟨x,h1,h2.symm⟩
 ·rintro (⟨x,h1,h2⟩ | ⟨h1,h2,h3⟩)
  ·exact .inr ⟨x,h1,h2.symm⟩
  ·exact .inl ⟨h1,h2,h3⟩
theorem zlZ {a b:List Mark} (ha:LG a) (hb:LG b):((jA a b).map Mark.path).Nodup:=by
 unfold jA;rw [List.map_append,List.nodup_append];refine ⟨y0 (ZV hb.srt _),y0 (zfT (f:=zU b) (fun _=>rfl) ha.srt),fun p hp q hq=>?_⟩;rintro rfl;obtain ⟨e,he,rfl⟩:=List.mem_map.1 hp;obtain ⟨f,hf,hq⟩:=List.mem_map.1 hq;obtain ⟨m,hm,rfl⟩:=List.mem_map.1 hf;have h2:=(List.mem_filter.1 he).2;have h3:zt a m.path=some m:=jQ ha.srt hm;have h4:m.path=e.path:=hq;unfold jh at h2;simp only [Bool.and_eq_true,beq_iff_eq,ha.kind0,← h4,h3] at h2;cases h2.2
theorem zgu {α:Type} {q:α→Bool} {a b:List α} (h:∀ e,e∈a↔e∈b):a.any q=b.any q:=by
 rw [Bool.eq_iff_iff,List.any_eq_true,List.any_eq_true];exact ⟨fun ⟨x,h1,h2⟩=>⟨x,(h x).1 h1,h2⟩,fun ⟨x,h1,h2⟩=>⟨x,(h x).2 h1,h2⟩⟩
theorem tidyX {a b:List Mark} (ha:LG a) (hb:LG b):zK (jA a b)=zK (jz a b):=by
 funext m;have:zQ (jA a b) m.path=zQ (jz a b) m.path:=zgu (Qk ha hb);unfold zK; rw [this]
def ya (a b:List Mark):List Mark:=(jA a b).filterMap (zK (jA a b))
theorem Ql {a b:List Mark} (ha:LG a) (hb:LG b):((ya a b).map Mark.path).Nodup∧∀ m,m∈ya a b↔m∈jS a b:=by
 unfold ya jS yK;rw [tidyX ha hb];refine ⟨?_,fun m=>?_⟩
 ·have:=zlZ ha hb;unfold List.Nodup at this ⊢;rw [List.pairwise_map] at this;rw [List.pairwise_map,List.pairwise_filterMap];refine List.Pairwise.imp (fun {x y} h e he f hf=>?_) this;rw [JM _ _ he,JM _ _ hf]; exact h
 ·rw [List.mem_filterMap,List.mem_filterMap];exact ⟨fun ⟨x,h1,h2⟩=>⟨x,(Qk ha hb x).1 h1,h2⟩,fun ⟨x,h1,h2⟩=>⟨x,(Qk ha hb x).2 h1,h2⟩⟩
theorem zec {a b S:List Mark} (ha:LG a) (hb:LG b) (h:qe Mark.path (ya a b) S):S=jS a b :=
 h.eq (Ql ha hb).1 (za0 ha hb).srt (Ql ha hb).2
theorem zeb {a b:List Mark} (ha:LG a) (hb:LG b):(ya a b).length=(jS a b).length:=by
 have h1:∀ {a b:List Mark},(a.map Mark.path).Nodup→(∀ e,e∈a→e∈b)→a.length≤b.length:=by
  intro a b hn h;refine Qv ?_ h;unfold List.Nodup at hn ⊢;rw [List.pairwise_map] at hn;exact hn.imp fun h e=>h (by rw [e])
 have h2:=h1 (Ql ha hb).1 fun e he=>((Ql ha hb).2 e).1 he
 have h3:=h1 (y0 (za0 ha hb).srt) fun e he=>((Ql ha hb).2 e).2 he
 omega
def upC2 (t:List Ent) (p:Str):Int:=if pUp p=[47] then 0 else match find t (pUp p) with
 | none=>2
 | some e=>if e.dir=true then 0 else 3
theorem yn {t:List Ent} {p:Str}:upC2 t p=0↔zR t (pUp p)=true:=by
 unfold upC2 zR get;by_cases h:pUp p=[47]
 ·rw [if_pos h,if_pos h]; simp [YX]
 ·rw [if_neg h,if_neg h];cases find t (pUp p) with
  | none=>simp
  | some e=>cases e.dir<;>simp

def qj (op:Op):Bool:=(decide (1≤op.kind)&&decide (op.kind≤5))&&(pOk op.path&&(if op.kind=5 then pOk op.dest&&op.data==[] else op.dest==[]&&(j2 op.data&&(op.kind==2||op.data==[]))))
def kids (t:List Ent) (p:Str):List Str:=(t.filter fun e=>pUp e.path==p).map fun e=>pName e.path
def upC (t:List Ent) (p:Str):Int:=match get t (pUp p) with
 | none=>2
 | some e=>if e.dir=true then 0 else 3
def newC (t:List Ent) (p:Str):Int:=if upC t p≠0 then upC t p else if (get t p).isSome=true then 4 else if 16≤t.length then 8 else 0
def putC (t:List Ent) (p:Str):Int:=if newC t p=4 then (if ((get t p).getD noE).dir=true then 5 else 0) else newC t p
def offC (t:List Ent) (op:Op):Int:=match get t op.path with
 | none=>2
 | some e=>if op.kind=3∧e.dir=true then 5 else if op.kind=4∧e.dir=false then 3 else if 0 < (kids t op.path).length then 6 else 0
def movC (t:List Ent) (op:Op):Int:=if (get t op.path).isSome=false then 2 else if upC t op.dest≠0 then upC t op.dest else if (get t op.dest).isSome=true then 4 else if und op.dest op.path=true then 7 else
 if t.all (fun e=>(j9 e.path op.path op.dest).isSome)=true then 0 else 8
def y7 (t:List Ent) (op:Op):Int:=if op.kind=1 then newC t op.path else if op.kind=2 then putC t op.path else if op.kind=5 then movC t op else offC t op
def offT (t:List Ent) (p:Str):List Ent:=t.filter fun e=>e.path != p
def movE (f tq:Str) (e:Ent):Ent:={ e with path:=(j9 e.path f tq).getD [] }
def movT (t:List Ent) (f tq:Str):List Ent:=t.foldl (fun out e=>put out (movE f tq e)) []
def doT (t:List Ent) (op:Op):List Ent:=if op.kind=1 then put t ⟨op.path,true,[]⟩ else if op.kind=2 then put t ⟨op.path,false,op.data⟩ else if op.kind=5 then movT t op.path op.dest else offT t op.path
def jE (t:List Ent) (op:Op):List Ent × Int:=if tOk t=true then (if qj op=true then (if y7 t op=0 then (doT t op,0) else (t,y7 t op)) else (t,1)) else ([],1)

theorem mixed:Tryz.prog.follows .mixedOrders=true:=by kernel_rfl
def szL {α:Type} (f:α→Int→Int):List α→Int→Int
 | [],l=>l
 | a::t,l=>if f a l < 0 then -1 else szL f t (f a l)
def szR {α:Type} (f:α→Int→Int) (t:List α) (l:Int):Int:=if l - t.length < 0 then -1 else szL f t (l - t.length)
def y1 (s:Str) (l:Int):Int:=if l - s.length < 0 then -1 else l - s.length
def jN (e:Ent) (l:Int):Int:=if l - e.path.length < 0 then -1 else y1 e.data (l - e.path.length)
def jo (e:Mark) (l:Int):Int:=if l - e.path.length < 0 then -1 else y1 e.data (l - e.path.length)
theorem zf5 {s:Str} {l:Int} (h : -1≤l) : -1≤y1 s l∧y1 s l≤l:=by unfold y1; split<;>omega
theorem QI {e:Ent} {l:Int} (h : -1≤l) : -1≤jN e l∧jN e l≤l:=by
 unfold jN; split
 ·omega
 ·have:=@zf5 e.data (l - e.path.length) (by omega); omega
theorem yJ {e:Mark} {l:Int} (h : -1≤l) : -1≤jo e l∧jo e l≤l:=by
 unfold jo; split
 ·omega
 ·have:=@zf5 e.data (l - e.path.length) (by omega); omega
theorem zbZ {α:Type} {f:α→Int→Int} (hf:∀ a l,-1≤l → -1≤f a l∧f a l≤l):∀ {t:List α} {l:Int},-1≤l → -1≤szL f t l∧szL f t l≤l
 | [],l,h=>⟨h,Int.le_refl _⟩
 | a::t,l,h=>by
  unfold szL;have:=hf a l h;split
  ·omega
  ·have:=zbZ hf (t:=t) (l:=f a l) (by omega); omega
theorem qI {α:Type} {f:α→Int→Int} (hf:∀ a l,-1≤l → -1≤f a l∧f a l≤l) {t:List α} {l:Int} (h : -1≤l) : -1≤szR f t l∧szR f t l≤l:=by
 unfold szR;split
 ·omega
 ·have:=zbZ hf (t:=t) (l:=l - t.length) (by omega); omega
theorem zbY {α:Type} {f:α→Int→Int} {t:List α} {k:Nat} (h:k < t.length) {l:Int}:szL f (t.drop k) l=if f t[k] l < 0 then -1 else szL f (t.drop (k+1)) (f t[k] l):=by
 rw [List.drop_eq_getElem_cons h]; rfl
def zig:XC:=(.s (.r [.x1 2 0,.m1 4 (.i 0)]) (.s (.r [.mv 5 1,.f1 6 0 2,.l1 7 1 6,.ex 8 (.len true 7),.b1 9 .sub 5 8,.mv 1 9]) (.s (.s (.r [.mv 10 1,.b1 11 .lss 10 (.i 0)]) (.cnd 11 (.s (.r [.ex 4 (.mv (.k (.c (.sc (.int .i64 (.negSucc 0))))))]) .ret) .skip)) (.s (.r [.mv 12 1,.f1 13 2 2,.l1 14 1 13,.ex 15 (.len true 14),.b1 16 .sub 12 15,.mv 1 16]) (.s (.s (.r [.mv 17 1,.b1 18 .lss 17 (.i 0)]) (.cnd 18 (.s (.r [.ex 4 (.mv (.k (.c (.sc (.int .i64 (.negSucc 0))))))]) .ret) .skip)) (.s (.r [.mv 19 1,.mv 4 19]) .ret))))))
theorem zij:zh Tryz.prog [] 96=some (zig.ac,[(.t 4)],20):=by kernel_rfl
theorem zlf (W0:World) (e:Ent) (l:Int) (h : -1≤l∧l≤1048576):Fn Tryz.prog W0 96 [zv e,CI l] (.c (CI (jN e l))) []:=by
 refine fX mixed zij fun hg=>?_
 have hg0:=hg _ (by simp:zv e∈_);have g1:=Jp (Ys hg0 _ (by simp:CS e.path∈_));have g2:=Jp (Ys hg0 _ (by simp:CS e.data∈_));refine dr ?_;refine j7 (fun h1=>?_) fun h1=>?_
 ·conv=>whnf
  simp only [jN,h1,if_true]<;>rfl
 ·refine dr ?_;refine j7 (fun h2=>?_) fun h2=>?_
  ·conv=>whnf
   simp only [jN,y1,Int.not_lt.2 h1,h2,if_true,if_false]<;>rfl
  ·conv=>whnf
   simp only [jN,y1,Int.not_lt.2 h1,Int.not_lt.2 h2,if_false]
def zik:XC:=(.s (.r [.x1 2 0,.m1 4 (.i 0)]) (.s (.r [.mv 5 1,.f1 6 0 2,.l1 7 1 6,.ex 8 (.len true 7),.b1 9 .sub 5 8,.mv 1 9]) (.s (.s (.r [.mv 10 1,.b1 11 .lss 10 (.i 0)]) (.cnd 11 (.s (.r [.ex 4 (.mv (.k (.c (.sc (.int .i64 (.negSucc 0))))))]) .ret) .skip)) (.s (.r [.mv 12 1,.f1 13 2 2,.l1 14 1 13,.ex 15 (.len true 14),.b1 16 .sub 12 15,.mv 1 16]) (.s (.s (.r [.mv 17 1,.b1 18 .lss 17 (.i 0)]) (.cnd 18 (.s (.r [.ex 4 (.mv (.k (.c (.sc (.int .i64 (.negSucc 0))))))]) .ret) .skip)) (.s (.r [.mv 19 1,.mv 4 19]) .ret))))))
theorem zip:zh Tryz.prog [] 97=some (zik.ac,[(.t 4)],20):=by kernel_rfl
theorem zlh (W0:World) (e:Mark) (l:Int) (h : -1≤l∧l≤1048576):Fn Tryz.prog W0 97 [zm e,CI l] (.c (CI (jo e l))) []:=by
 refine fX mixed zip fun hg=>?_
 have hg0:=hg _ (by simp:zm e∈_);have g1:=Jp (Ys hg0 _ (by simp:CS e.path∈_));have g2:=Jp (Ys hg0 _ (by simp:CS e.data∈_));refine dr ?_;refine j7 (fun h1=>?_) fun h1=>?_
 ·conv=>whnf
  simp only [jo,h1,if_true]<;>rfl
 ·refine dr ?_;refine j7 (fun h2=>?_) fun h2=>?_
  ·conv=>whnf
   simp only [jo,y1,Int.not_lt.2 h1,h2,if_true,if_false]<;>rfl
  ·conv=>whnf
   simp only [jo,y1,Int.not_lt.2 h1,Int.not_lt.2 h2,if_false]
def zih:XC:=(.s (.r [.m1 4 (.i 0)]) (.s (.r [.mv 6 1,.mv 7 0,.n1 8 7,.b1 9 .sub 6 8,.mv 1 9]) (.s (.s (.r [.mv 10 1,.b1 11 .lss 10 (.i 0)]) (.cnd 11 (.s (.r [.ex 4 (.mv (.k (.c (.sc (.int .i64 (.negSucc 0))))))]) .ret) .skip)) (.s (.s (.r [.m1 5 (.i 0)]) (.blk 0 (.loop (.s (.s (.r [.mv 12 5,.mv 13 0,.n1 14 13,.b1 15 .lss 12 14]) (.ce 15 0)) (.s (.blk 1 (.s (.r [.mv 18 0,.mv 19 5,.i1 20 3 18 19,.l2 21 3 20,.mv 22 1,.c1 23 96 [21,22],.mv 1 23]) (.s (.r [.mv 24 1,.b1 25 .lss 24 (.i 0)]) (.cnd 25 (.s (.r [.ex 4 (.mv (.k (.c (.sc (.int .i64 (.negSucc 0))))))]) .ret) .skip)))) (.ic 16 17 5)))))) (.s (.r [.mv 26 1,.mv 4 26]) .ret)))))
theorem zii:zh Tryz.prog [] 54=some (zih.ac,[(.t 4)],27):=by kernel_rfl
theorem zlg (W0:World) (t:List Ent) (l:Int) (h : -1≤l∧l≤1048576):Fn Tryz.prog W0 54 [zj t,CI l] (.c (CI (szR jN t l))) []:=by
 refine fX mixed zii fun hg=>?_
 have g1:=jM (hg _ (by simp:zj t∈_));refine dr ?_;refine j7 (fun h1=>?_) fun h1=>?_
 ·conv=>whnf
  simp only [szR,h1,if_true]<;>rfl
 conv=>whnf
 refine lp (σ:=Nat × Int) (fun x=>[(0,.c (zj t)),(1,I x.2),(5,I x.1)]) (fun _=>[]) (fun x=>x.1≤t.length ∧ -1≤x.2∧x.2≤1048576∧szL jN (t.drop x.1) x.2=szR jN t l)
  (fun x=>t.length - x.1) (0,l - t.length) ⟨by simp,by simp; omega,by simp; omega,by simp [szR,Int.not_lt.2 h1]⟩ ?_ ?_
 ·refine dr ?_;trivial
 rintro ⟨k,r⟩ ⟨hk,hr1,hr2,hr⟩;dsimp only at hk hr1 hr2 hr;refine dr ?_;refine j7 (fun h2=>?_) fun h2=>?_
 ·have hk':k < t.length:=by omega
  have hs:=@QI t[k] r hr1;rw [zbY hk'] at hr;refine dr ?_;repeat (refine c0 (zlf W0 t[k] r (by omega)) rfl ?_; first|refine dr ?_|exact dz)
  intro hg2;conv=>whnf
  refine j7 (fun h3=>?_) fun h3=>?_
  ·conv=>whnf
   rw [if_pos h3] at hr;rw [← hr]; rfl
  ·rw [if_neg (Int.not_lt.2 h3)] at hr;refine dr ?_;refine ⟨(k+1,jN t[k] r),⟨by dsimp only; omega,by dsimp only; omega,by dsimp only; omega,hr⟩,by dsimp only; omega,?_⟩;refine dr ?_;trivial
 ·have:k=t.length:=by omega
  subst this;rw [List.drop_length] at hr;refine dr ?_;exact congrArg CI hr
def zil:XC:=(.s (.r [.m1 4 (.i 0)]) (.s (.r [.mv 6 1,.mv 7 0,.n1 8 7,.b1 9 .sub 6 8,.mv 1 9]) (.s (.s (.r [.mv 10 1,.b1 11 .lss 10 (.i 0)]) (.cnd 11 (.s (.r [.ex 4 (.mv (.k (.c (.sc (.int .i64 (.negSucc 0))))))]) .ret) .skip)) (.s (.s (.r [.m1 5 (.i 0)]) (.blk 0 (.loop (.s (.s (.r [.mv 12 5,.mv 13 0,.n1 14 13,.b1 15 .lss 12 14]) (.ce 15 0)) (.s (.blk 1 (.s (.r [.mv 18 0,.mv 19 5,.i1 20 3 18 19,.l2 21 3 20,.mv 22 1,.c1 23 97 [21,22],.mv 1 23]) (.s (.r [.mv 24 1,.b1 25 .lss 24 (.i 0)]) (.cnd 25 (.s (.r [.ex 4 (.mv (.k (.c (.sc (.int .i64 (.negSucc 0))))))]) .ret) .skip)))) (.ic 16 17 5)))))) (.s (.r [.mv 26 1,.mv 4 26]) .ret)))))
theorem zio:zh Tryz.prog [] 56=some (zil.ac,[(.t 4)],27):=by kernel_rfl
theorem zdf (W0:World) (t:List Mark) (l:Int) (h : -1≤l∧l≤1048576):Fn Tryz.prog W0 56 [zd t,CI l] (.c (CI (szR jo t l))) []:=by
 refine fX mixed zio fun hg=>?_
 have g1:=jM (hg _ (by simp:zd t∈_));refine dr ?_;refine j7 (fun h1=>?_) fun h1=>?_
 ·conv=>whnf
  simp only [szR,h1,if_true]<;>rfl
 conv=>whnf
 refine lp (σ:=Nat × Int) (fun x=>[(0,.c (zd t)),(1,I x.2),(5,I x.1)]) (fun _=>[]) (fun x=>x.1≤t.length ∧ -1≤x.2∧x.2≤1048576∧szL jo (t.drop x.1) x.2=szR jo t l)
  (fun x=>t.length - x.1) (0,l - t.length) ⟨by simp,by simp; omega,by simp; omega,by simp [szR,Int.not_lt.2 h1]⟩ ?_ ?_
 ·refine dr ?_;trivial
 rintro ⟨k,r⟩ ⟨hk,hr1,hr2,hr⟩;dsimp only at hk hr1 hr2 hr;refine dr ?_;refine j7 (fun h2=>?_) fun h2=>?_
 ·have hk':k < t.length:=by omega
  have hs:=@yJ t[k] r hr1;rw [zbY hk'] at hr;refine dr ?_;repeat (refine c0 (zlh W0 t[k] r (by omega)) rfl ?_; first|refine dr ?_|exact dz)
  intro hg2;conv=>whnf
  refine j7 (fun h3=>?_) fun h3=>?_
  ·conv=>whnf
   rw [if_pos h3] at hr;rw [← hr]; rfl
  ·rw [if_neg (Int.not_lt.2 h3)] at hr;refine dr ?_;refine ⟨(k+1,jo t[k] r),⟨by dsimp only; omega,by dsimp only; omega,by dsimp only; omega,hr⟩,by dsimp only; omega,?_⟩;refine dr ?_;trivial
 ·have:k=t.length:=by omega
  subst this;rw [List.drop_length] at hr;refine dr ?_;exact congrArg CI hr
def zim:XC:=(.s (.r [.m1 4 (.i 0)]) (.s (.r [.mv 6 1,.mv 7 0,.n1 8 7,.b1 9 .sub 6 8,.mv 1 9]) (.s (.s (.r [.mv 10 1,.b1 11 .lss 10 (.i 0)]) (.cnd 11 (.s (.r [.ex 4 (.mv (.k (.c (.sc (.int .i64 (.negSucc 0))))))]) .ret) .skip)) (.s (.s (.r [.m1 5 (.i 0)]) (.blk 0 (.loop (.s (.s (.r [.mv 12 5,.mv 13 0,.n1 14 13,.b1 15 .lss 12 14]) (.ce 15 0)) (.s (.blk 1 (.s (.r [.mv 18 0,.mv 19 5,.i1 20 1 18 19,.l1 21 1 20,.mv 22 1,.c1 23 56 [21,22],.mv 1 23]) (.s (.r [.mv 24 1,.b1 25 .lss 24 (.i 0)]) (.cnd 25 (.s (.r [.ex 4 (.mv (.k (.c (.sc (.int .i64 (.negSucc 0))))))]) .ret) .skip)))) (.ic 16 17 5)))))) (.s (.r [.mv 26 1,.mv 4 26]) .ret)))))
theorem zin:zh Tryz.prog [] 55=some (zim.ac,[(.t 4)],27):=by kernel_rfl
theorem zli (W0:World) (t:List (List Mark)) (l:Int) (h : -1≤l∧l≤1048576):Fn Tryz.prog W0 55 [zT t,CI l] (.c (CI (szR (szR jo) t l))) []:=by
 refine fX mixed zin fun hg=>?_
 have g1:=jM (hg _ (by simp:zT t∈_));refine dr ?_;refine j7 (fun h1=>?_) fun h1=>?_
 ·conv=>whnf
  simp only [szR,h1,if_true]<;>rfl
 conv=>whnf
 refine lp (σ:=Nat × Int) (fun x=>[(0,.c (zT t)),(1,I x.2),(5,I x.1)]) (fun _=>[]) (fun x=>x.1≤t.length ∧ -1≤x.2∧x.2≤1048576∧szL (szR jo) (t.drop x.1) x.2=szR (szR jo) t l)
  (fun x=>t.length - x.1) (0,l - t.length) ⟨by simp,by simp; omega,by simp; omega,by rw [szR.eq_def _ t,if_neg (by omega)]; rfl⟩ ?_ ?_
 ·refine dr ?_;trivial
 rintro ⟨k,r⟩ ⟨hk,hr1,hr2,hr⟩;dsimp only at hk hr1 hr2 hr;refine dr ?_;refine j7 (fun h2=>?_) fun h2=>?_
 ·have hk':k < t.length:=by omega
  have hs:=@qI _ _ (fun a l=>@yJ a l) t[k] r hr1;rw [zbY hk'] at hr;refine dr ?_;repeat (refine c0 (zdf W0 t[k] r (by omega)) rfl ?_; first|refine dr ?_|exact dz)
  intro hg2;conv=>whnf
  refine j7 (fun h3=>?_) fun h3=>?_
  ·conv=>whnf
   rw [if_pos h3] at hr;rw [← hr]; rfl
  ·rw [if_neg (Int.not_lt.2 h3)] at hr;refine dr ?_;refine ⟨(k+1,szR jo t[k] r),⟨by dsimp only; omega,by dsimp only; omega,by dsimp only; omega,hr⟩,by dsimp only; omega,?_⟩;refine dr ?_;trivial
 ·have:k=t.length:=by omega
  subst this;rw [List.drop_length] at hr;refine dr ?_;exact congrArg CI hr
def qH (o:Over) (l:Int):Int:=if szR jN o.base l < 0 then -1 else if szR (szR jo) o.layers (szR jN o.base l) < 0 then -1 else
 if szR jo o.upper (szR (szR jo) o.layers (szR jN o.base l)) < 0 then -1 else szR jo o.upper (szR (szR jo) o.layers (szR jN o.base l))
def ziq:XC:=(.s (.r [.x1 2 0,.m1 4 (.i 0)]) (.s (.r [.f1 5 0 2,.l1 6 1 5,.mv 7 1,.c1 8 54 [6,7],.mv 1 8]) (.s (.s (.r [.mv 9 1,.b1 10 .lss 9 (.i 0)]) (.cnd 10 (.s (.r [.ex 4 (.mv (.k (.c (.sc (.int .i64 (.negSucc 0))))))]) .ret) .skip)) (.s (.r [.f1 11 1 2,.l1 12 1 11,.mv 13 1,.c1 14 55 [12,13],.mv 1 14]) (.s (.s (.r [.mv 15 1,.b1 16 .lss 15 (.i 0)]) (.cnd 16 (.s (.r [.ex 4 (.mv (.k (.c (.sc (.int .i64 (.negSucc 0))))))]) .ret) .skip)) (.s (.r [.f1 17 2 2,.l1 18 1 17,.mv 19 1,.c1 20 56 [18,19],.mv 1 20]) (.s (.s (.r [.mv 21 1,.b1 22 .lss 21 (.i 0)]) (.cnd 22 (.s (.r [.ex 4 (.mv (.k (.c (.sc (.int .i64 (.negSucc 0))))))]) .ret) .skip)) (.s (.r [.mv 23 1,.mv 4 23]) .ret))))))))
theorem zir:zh Tryz.prog [] 17=some (ziq.ac,[(.t 4)],24):=by kernel_rfl
theorem zlj (W0:World) (o:Over) (l:Int) (h : -1≤l∧l≤1048576):Fn Tryz.prog W0 17 [zY o,CI l] (.c (CI (qH o l))) []:=by
 refine fX mixed zir fun hg=>?_
 have s1:=@qI _ _ (fun a l=>@QI a l) o.base l h.1;refine dr ?_;repeat (refine c0 (zlg W0 o.base l h) rfl ?_; first|refine dr ?_|exact dz)
 intro hg1;conv=>whnf
 refine j7 (fun h1=>?_) fun h1=>?_
 ·conv=>whnf
  simp only [qH,h1,if_true]<;>rfl
 have s2:=@qI _ _ (fun a l=>@qI _ _ (fun a l=>@yJ a l) a l) o.layers _ s1.1;refine dr ?_;repeat (refine c0 (zli W0 o.layers _ (by omega)) rfl ?_; first|refine dr ?_|exact dz)
 intro hg2;conv=>whnf
 refine j7 (fun h2=>?_) fun h2=>?_
 ·conv=>whnf
  simp only [qH,Int.not_lt.2 h1,if_false,h2,if_true]<;>rfl
 have s3:=@qI _ _ (fun a l=>@yJ a l) o.upper _ s2.1;refine dr ?_;repeat (refine c0 (zdf W0 o.upper _ (by omega)) rfl ?_; first|refine dr ?_|exact dz)
 intro hg3;conv=>whnf
 refine j7 (fun h3=>?_) fun h3=>?_
 ·conv=>whnf
  simp only [qH,Int.not_lt.2 h1,Int.not_lt.2 h2,if_false,h3,if_true]<;>rfl
 ·refine dr ?_;simp only [qH,Int.not_lt.2 h1,Int.not_lt.2 h2,Int.not_lt.2 h3,if_false]
def zhM:XC:=(.s (.r [.x1 2 0,.x1 3 1,.m1 4 .n]) (.s (.s (.r [.f1 5 0 2,.l1 6 1 5,.f1 7 0 3,.l1 8 1 7,.b1 9 .neq 6 8]) (.cnd 9 (.rf 4) .skip)) (.s (.s (.r [.f1 10 1 2,.l1 11 1 10,.f1 12 1 3,.l1 13 1 12,.ex 14 (.bb true 11 13)]) (.cnd 14 (.rf 4) .skip)) (.s (.s (.r [.f1 15 2 2,.l1 16 1 15,.f1 17 2 3,.l1 18 1 17,.b1 19 .neq 16 18]) (.cnd 19 (.rf 4) .skip)) (.rt 4)))))
theorem zhP:zh Tryz.prog [] 60=some (zhM.ac,[(.t 4)],20):=by kernel_rfl
theorem zkC (W0:World) (a b:Ent):Fn Tryz.prog W0 60 [zv a,zv b] (.c (CB (decide (a=b)))) []:=by
 refine fX mixed zhP fun hg=>?_
 refine dr ?_;apply cP<;>intro h1
 ·conv=>whnf
  exact dF fun e=>h1 (by rw [e])
 refine dr ?_;apply cP<;>intro h2
 ·conv=>whnf
  exact dF fun e=>h2 (by rw [e])
 refine dr ?_;apply cP<;>intro h3
 ·conv=>whnf
  exact dF fun e=>h3 (by rw [e])
 refine dr ?_;exact dT (by cases a; cases b; simp_all)
def zhQ:XC:=(.s (.r [.x1 2 0,.x1 3 1,.m1 4 .n]) (.s (.s (.r [.f1 5 0 2,.l1 6 1 5,.f1 7 0 3,.l1 8 1 7,.b1 9 .neq 6 8]) (.cnd 9 (.rf 4) .skip)) (.s (.s (.r [.f1 10 1 2,.l1 11 1 10,.f1 12 1 3,.l1 13 1 12,.b1 14 .neq 11 13]) (.cnd 14 (.rf 4) .skip)) (.s (.s (.r [.f1 15 2 2,.l1 16 1 15,.f1 17 2 3,.l1 18 1 17,.b1 19 .neq 16 18]) (.cnd 19 (.rf 4) .skip)) (.rt 4)))))
theorem zhV:zh Tryz.prog [] 100=some (zhQ.ac,[(.t 4)],20):=by kernel_rfl
theorem zkD (W0:World) (a b:Mark):Fn Tryz.prog W0 100 [zm a,zm b] (.c (CB (decide (a=b)))) []:=by
 refine fX mixed zhV fun hg=>?_
 refine dr ?_;apply cP<;>intro h1
 ·conv=>whnf
  exact dF fun e=>h1 (by rw [e])
 refine dr ?_;apply cP<;>intro h2
 ·conv=>whnf
  exact dF fun e=>h2 (by rw [e])
 refine dr ?_;apply cP<;>intro h3
 ·conv=>whnf
  exact dF fun e=>h3 (by rw [e])
 refine dr ?_;exact dT (by cases a; cases b; simp_all)
def zhN:XC:=(.s (.r [.m1 4 .n]) (.s (.s (.r [.mv 6 0,.n1 7 6,.mv 8 1,.n1 9 8,.b1 10 .neq 7 9]) (.cnd 10 (.rf 4) .skip)) (.s (.s (.r [.m1 5 (.i 0)]) (.blk 0 (.loop (.s (.s (.r [.mv 11 5,.mv 12 0,.n1 13 12,.b1 14 .lss 11 13]) (.ce 14 0)) (.s (.blk 1 (.s (.d [.mv 17 0,.mv 18 5,.i1 19 3 17 18,.l2 20 3 19,.mv 21 1,.mv 22 5,.i1 23 3 21 22,.l2 24 3 23,.c1 25 60 [20,24],.u1 26 25]) (.cnd 26 (.rf 4) .skip))) (.ic 15 16 5)))))) (.rt 4))))
theorem zhO:zh Tryz.prog [] 21=some (zhN.ac,[(.t 4)],27):=by kernel_rfl
theorem zkX (W0:World) (a b:List Ent):Fn Tryz.prog W0 21 [zj a,zj b] (.c (CB (decide (a=b)))) []:=by
 refine fX mixed zhO fun hg=>?_
 have g1:=jM (hg _ (by simp:zj a∈_));refine dr ?_;apply cP<;>intro h1
 ·conv=>whnf
  exact dF (Qu (by omega))
 conv=>whnf
 refine lp (σ:=Nat) (fun k=>[(0,.c (zj a)),(1,.c (zj b)),(5,I k)]) (fun _=>[]) (fun k=>k≤a.length∧a.take k=b.take k) (fun k=>a.length - k) 0 ⟨by simp,by simp⟩ ?_ ?_
 ·refine dr ?_;trivial
 rintro k ⟨hk,he⟩;refine dr ?_;apply cP<;>intro h2
 ·refine dr ?_;repeat (refine c0 (zkC W0 _ _) rfl ?_; first|refine dr ?_|exact dz)
  apply cP<;>intro h3;rotate_left
  ·refine dr ?_;refine ⟨k+1,⟨by omega,QL (by omega) (by omega) he (by simpa using h3)⟩,by omega,?_⟩;refine dr ?_;trivial
  ·conv=>whnf
   exact dF (Qt (k:=k) (by omega) (by omega) (by simpa using h3))
 ·refine dr ?_;have:k=a.length:=by omega
  subst this;exact dT (J5 (by omega) he)
def zhR:XC:=(.s (.r [.m1 4 .n]) (.s (.s (.r [.mv 6 0,.n1 7 6,.mv 8 1,.n1 9 8,.b1 10 .neq 7 9]) (.cnd 10 (.rf 4) .skip)) (.s (.s (.r [.m1 5 (.i 0)]) (.blk 0 (.loop (.s (.s (.r [.mv 11 5,.mv 12 0,.n1 13 12,.b1 14 .lss 11 13]) (.ce 14 0)) (.s (.blk 1 (.s (.d [.mv 17 0,.mv 18 5,.i1 19 3 17 18,.l2 20 3 19,.mv 21 1,.mv 22 5,.i1 23 3 21 22,.l2 24 3 23,.c1 25 100 [20,24],.u1 26 25]) (.cnd 26 (.rf 4) .skip))) (.ic 15 16 5)))))) (.rt 4))))
theorem zhU:zh Tryz.prog [] 62=some (zhR.ac,[(.t 4)],27):=by kernel_rfl
theorem zc9 (W0:World) (a b:List Mark):Fn Tryz.prog W0 62 [zd a,zd b] (.c (CB (decide (a=b)))) []:=by
 refine fX mixed zhU fun hg=>?_
 have g1:=jM (hg _ (by simp:zd a∈_));refine dr ?_;apply cP<;>intro h1
 ·conv=>whnf
  exact dF (Qu (by omega))
 conv=>whnf
 refine lp (σ:=Nat) (fun k=>[(0,.c (zd a)),(1,.c (zd b)),(5,I k)]) (fun _=>[]) (fun k=>k≤a.length∧a.take k=b.take k) (fun k=>a.length - k) 0 ⟨by simp,by simp⟩ ?_ ?_
 ·refine dr ?_;trivial
 rintro k ⟨hk,he⟩;refine dr ?_;apply cP<;>intro h2
 ·refine dr ?_;repeat (refine c0 (zkD W0 _ _) rfl ?_; first|refine dr ?_|exact dz)
  apply cP<;>intro h3;rotate_left
  ·refine dr ?_;refine ⟨k+1,⟨by omega,QL (by omega) (by omega) he (by simpa using h3)⟩,by omega,?_⟩;refine dr ?_;trivial
  ·conv=>whnf
   exact dF (Qt (k:=k) (by omega) (by omega) (by simpa using h3))
 ·refine dr ?_;have:k=a.length:=by omega
  subst this;exact dT (J5 (by omega) he)
def zhS:XC:=(.s (.r [.m1 4 .n]) (.s (.s (.r [.mv 6 0,.n1 7 6,.mv 8 1,.n1 9 8,.b1 10 .neq 7 9]) (.cnd 10 (.rf 4) .skip)) (.s (.s (.r [.m1 5 (.i 0)]) (.blk 0 (.loop (.s (.s (.r [.mv 11 5,.mv 12 0,.n1 13 12,.b1 14 .lss 11 13]) (.ce 14 0)) (.s (.blk 1 (.s (.d [.mv 17 0,.mv 18 5,.i1 19 1 17 18,.l1 20 1 19,.mv 21 1,.mv 22 5,.i1 23 1 21 22,.l1 24 1 23,.c1 25 62 [20,24],.u1 26 25]) (.cnd 26 (.rf 4) .skip))) (.ic 15 16 5)))))) (.rt 4))))
theorem zhT:zh Tryz.prog [] 61=some (zhS.ac,[(.t 4)],27):=by kernel_rfl
theorem zkY (W0:World) (a b:List (List Mark)):Fn Tryz.prog W0 61 [zT a,zT b] (.c (CB (decide (a=b)))) []:=by
 refine fX mixed zhT fun hg=>?_
 have g1:=jM (hg _ (by simp:zT a∈_));refine dr ?_;apply cP<;>intro h1
 ·conv=>whnf
  exact dF (Qu (by omega))
 conv=>whnf
 refine lp (σ:=Nat) (fun k=>[(0,.c (zT a)),(1,.c (zT b)),(5,I k)]) (fun _=>[]) (fun k=>k≤a.length∧a.take k=b.take k) (fun k=>a.length - k) 0 ⟨by simp,by simp⟩ ?_ ?_
 ·refine dr ?_;trivial
 rintro k ⟨hk,he⟩;refine dr ?_;apply cP<;>intro h2
 ·refine dr ?_;repeat (refine c0 (zc9 W0 _ _) rfl ?_; first|refine dr ?_|exact dz)
  apply cP<;>intro h3;rotate_left
  ·refine dr ?_;refine ⟨k+1,⟨by omega,QL (by omega) (by omega) he (by simpa using h3)⟩,by omega,?_⟩;refine dr ?_;trivial
  ·conv=>whnf
   exact dF (Qt (k:=k) (by omega) (by omega) (by simpa using h3))
 ·refine dr ?_;have:k=a.length:=by omega
  subst this;exact dT (J5 (by omega) he)

def zi4:XC:=(.s (.r [.a2 4 1 9]) (.s (.r [.ex 8 .bsl0,.a1 5 8 1 9]) (.s (.r [.m1 6 (.i 0)]) (.s (.s (.r [.m1 7 (.i 0)]) (.blk 0 (.loop (.s (.s (.r [.mv 9 7,.mv 10 0,.ex 11 (.len true 10),.b1 12 .leq 9 11]) (.ce 12 0)) (.s (.blk 1 (.s (.r [.mv 15 7,.mv 16 0,.ex 17 (.len true 16),.b1 18 .eql 15 17,.mv 19 18,.h3 20 0 19,.h3 21 7 19,.gf 22 (.idx 20 21) 19,.h3 23 1 19,.gf 24 (.bin .eql 22 23) 19,.p1 25 19 24]) (.cnd 25 (.s (.r [.mv 26 5,.mv 27 0,.mv 28 6,.mv 29 7,.ex 30 (.sls 27 (.some 28) (.some 29)),.ex 31 (.bsl 1 9 [30]),.ex 32 (.app false 1 16 9 26 31),.a1 5 32 1 9]) (.r [.mv 33 7,.b1 34 .add 33 (.i 1),.mv 6 34])) .skip))) (.ic 13 14 7)))))) (.s (.r [.mv 35 5,.a1 4 35 1 9]) .ret)))))
theorem zi5:zh Tryz.prog [] 176=some (zi4.ac,[(.t 4)],36):=by kernel_rfl
theorem zkK (W0:World) (s:Str) (c:UInt8) (hs:s.length≤1000000):Fn Tryz.prog W0 176 [CS s,CU c.toNat] (.c (jV (cut c s))) []:=by
 refine fX mixed zi5 fun hg=>?_
 refine dr ?_;refine lp3 (fun (out:List Str) (fr k:Nat)=>[(0,.c (CS s)),(1,.c (CU c.toNat)),(5,.own 80 out.length),(6,I fr),(7,I k)]) (fun out _ _=>[(80,.row (out.map CS) 1 9)])
  (fun out fr k=>fr≤k∧k≤s.length+1∧(k≤s.length→c ∉ (s.take k).drop fr∧out++cut c (s.drop fr)=cut c s)∧(k=s.length+1→out=cut c s)∧out.length≤k) (fun _ _ k=>s.length+1 - k) [] 0 0 ⟨by simp,by simp,by simp,by simp,by simp⟩ ?_ ?_
 ·refine dr ?_;trivial
 rintro out fr k ⟨h1,h2,h3,h4,h5⟩;refine dr ?_;apply cP<;>intro h6
 ·obtain ⟨h7,h8⟩:=h3 (by omega);refine dr ?_;apply cP<;>intro h9
  ·have hk:k=s.length:=by omega
   refine dr ?_;repeat (refine sBo fr k rfl rfl (by omega) (by omega) ?_; first|refine dr ?_|exact dz)
   refine ⟨out++[(s.take k).drop fr],k+1,k+1,⟨by omega,by omega,by omega,fun _=>?_,by simp; omega⟩,by omega,?_⟩
   ·rw [← h8,Q5 (s:=s.drop fr)]
    ·rw [hk,List.take_length]
    ·rw [hk,List.take_length] at h7; exact h7
   ·refine dr ?_;repeat (refine oB (by simp) ?_; first|refine dr ?_|exact dz)
    trivial
  ·have hk:k < s.length:=by omega
   refine dr ?_;apply cP<;>intro h10
   ·have e:s[k]=c:=by
     have:s[k].toNat=c.toNat:=by omega
     exact UInt8.toNat_inj.1 this
    refine dr ?_;repeat (refine sBo fr k rfl rfl (by omega) (by omega) ?_; first|refine dr ?_|exact dz)
    refine ⟨out++[(s.take k).drop fr],k+1,k+1,⟨by omega,by omega,fun h=>⟨?_,?_⟩,fun h=>by omega,by simp; omega⟩,by omega,?_⟩
    ·rw [List.drop_of_length_le (by simp; omega)]; simp
    ·have e2:s.drop fr=(s.take k).drop fr++c::s.drop (k+1):=by
      rw [← e,← List.drop_eq_getElem_cons hk];have:s.drop fr=(s.take k++s.drop k).drop fr:=by rw [List.take_append_drop]
      rw [this,List.drop_append_of_le_length (by simp; omega)]
     rw [e2,Q4 _ h7] at h8;rw [← h8]; simp
    ·refine dr ?_;repeat (refine oB (by simp) ?_; first|refine dr ?_|exact dz)
     trivial
   ·have e:s[k]≠c:=by
     intro e; rw [e] at h10; exact h10 rfl
    refine dr ?_;refine ⟨out,fr,k+1,⟨by omega,by omega,fun h=>⟨?_,h8⟩,fun h=>?_,by omega⟩,by omega,?_⟩
    ·rw [List.take_succ_eq_append_getElem hk,List.drop_append_of_le_length (by simp; omega)];simp only [List.mem_append,not_or,List.mem_singleton];exact ⟨h7,fun h=>e h.symm⟩
    ·omega
    ·refine dr ?_;trivial
 ·have hk:k=s.length+1:=by omega
  refine dr ?_;repeat (refine oB (by simp) ?_; first|refine dr ?_|exact dz)
  rw [h4 hk]; rfl
def zi8:XC:=(.s (.r [.a2 2 1 9]) (.s (.s (.r [.mv 3 0,.ex 4 (.len true 3),.b1 5 .lss 4 (.i 2),.mv 6 5,.h3 7 0 6,.gf 8 (.idx 7 (.i 0)) 6,.gf 9 (.bin .neq 8 (.u 47)) 6,.p1 10 6 9]) (.cnd 10 (.s (.r [.ex 11 .bsl0,.a1 2 11 1 9]) .ret) .skip)) (.s (.r [.mv 12 0,.ex 13 (.sls 12 (.some (.i 1)) .none),.c1 14 176 [13,(.u 47)],.a1 2 14 1 9]) .ret)))
theorem zi9:zh Tryz.prog [] 159=some (zi8.ac,[(.t 2)],15):=by kernel_rfl
theorem zkM (W0:World) (s:Str) (hs:s.length≤1000000):Fn Tryz.prog W0 159 [CS s] (.c (jV (names s))) []:=by
 refine fX mixed zi9 fun hg=>?_
 refine dr ?_;apply cP<;>intro h1
 ·refine dr ?_;repeat (refine oB (by simp) ?_; first|refine dr ?_|exact dz)
  rw [names,if_pos (.inl (by omega))]; rfl
 ·have hl:2≤s.length:=by omega
  refine dr ?_;apply cP<;>intro h2
  ·refine dr ?_;repeat (refine oB (by simp) ?_; first|refine dr ?_|exact dz)
   have hc:s.head? ≠ some 47:=by
    cases s with
    | nil=>simp at hl
    | cons b t =>
     show some b≠some 47;intro e; cases e; exact h2 rfl
   have e:names s=[]:=by rw [names,if_pos (.inr hc)]
   exact congrArg jV e.symm
  ·have e:s.head? = some 47:=by
    cases s with
    | nil=>simp at hl
    | cons b t =>
     have:b.toNat=47:=by simp at h2; omega
     simp; exact UInt8.toNat_inj.1 (by simpa using this)
   refine dr ?_;repeat ((first|refine sLo 1 rfl (by omega) ?_|refine c0 (zkK W0 _ 47 (by simp; omega)) rfl ?_); first|refine dr ?_|exact dz)
   intro hg1;refine dr ?_;repeat (refine oB (by simp) ?_; first|refine dr ?_|exact dz)
   rw [names,if_neg (by simp [e]; omega),← List.drop_one]
def zi6:XC:=(.s (.r [.m1 2 .n]) (.s (.s (.r [.m1 3 (.i 0)]) (.blk 0 (.loop (.s (.s (.r [.mv 4 3,.mv 5 0,.ex 6 (.len true 5),.b1 7 .lss 4 6]) (.ce 7 0)) (.s (.blk 1 (.s (.r [.mv 10 0,.mv 11 3,.ex 12 (.idx 10 11),.b1 13 .lss 12 (.u 97),.mv 14 13,.h3 15 0 14,.h3 16 3 14,.gf 17 (.idx 15 16) 14,.gf 18 (.bin .gtr 17 (.u 122)) 14,.p1 19 14 18]) (.cnd 19 (.rf 2) .skip))) (.ic 8 9 3)))))) (.s (.r [.mv 20 0,.ex 21 (.len true 20),.b1 22 .geq 21 (.i 1),.mv 23 22,.g3 24 0 23,.gt 25 (.len true 24) 23,.gt 26 (.bin .leq 25 (.i 3)) 23,.p2 27 23 26,.mv 2 27]) .ret)))
theorem zi7:zh Tryz.prog [] 160=some (zi6.ac,[(.t 2)],28):=by kernel_rfl
theorem zkL (W0:World) (s:Str):Fn Tryz.prog W0 160 [CS s] (.c (CB (jq s))) []:=by
 refine fX mixed zi7 fun hg=>?_
 have g1:=Jp (hg _ (by simp:CS s∈_));refine dr ?_;refine lp (σ:=Nat) (fun k=>[(0,.c (CS s)),(3,I k)]) (fun _=>[]) (fun k=>k≤s.length∧(s.take k).all jt=true) (fun k=>s.length - k) 0 ⟨by simp,by simp⟩ ?_ ?_
 ·refine dr ?_;trivial
 rintro k ⟨hk,ha⟩;refine dr ?_;apply cP<;>intro h1
 ·have hk':k < s.length:=by omega
  have no:jt s[k]=false→CB false=CB (jq s):=fun h=>bF (by rw [jq,Z2 hk' h]; rfl)
  refine dr ?_;apply cP<;>intro h2
  ·refine dr ?_;exact no (by simp [jt]; omega)
  ·refine dr ?_;apply cP<;>intro h3
   ·refine dr ?_;exact no (by simp [jt]; omega)
   ·refine dr ?_;refine ⟨k+1,⟨by omega,qJ hk' ha (by simp [jt]; omega)⟩,by omega,?_⟩;refine dr ?_;trivial
 ·have:k=s.length:=by omega
  subst this;rw [List.take_length] at ha;refine dr ?_;apply cP<;>intro h2
  ·refine dr ?_;refine congrArg CB ?_;rw [jq,ha,Qm,Bool.eq_iff_iff]; simp; omega
  ·refine dr ?_;exact bF (by rw [jq,ha]; simp; omega)
def ziY:XC:=(.s (.r [.m1 2 .n]) (.s (.s (.r [.mv 5 0,.ex 6 (.len true 5),.b1 7 .gtr 6 (.i 12)]) (.cnd 7 (.rf 2) .skip)) (.s (.r [.mv 8 0,.c1 9 159 [8],.a1 3 9 1 9]) (.s (.s (.r [.m1 4 (.i 0)]) (.blk 0 (.loop (.s (.s (.r [.mv 10 4,.mv 11 3,.n1 12 11,.b1 13 .lss 10 12]) (.ce 13 0)) (.s (.blk 1 (.s (.r [.mv 16 3,.mv 17 4,.i1 18 1 16 17,.l1 19 1 18,.c1 20 160 [19],.u1 21 20]) (.cnd 21 (.rf 2) .skip))) (.ic 14 15 4)))))) (.s (.r [.mv 22 3,.n1 23 22,.b1 24 .geq 23 (.i 1),.mv 25 24,.g3 26 3 25,.gt 27 (.len false 26) 25,.gt 28 (.bin .leq 27 (.i 3)) 25,.p2 29 25 28,.mv 2 29]) .ret)))))
theorem ziZ:zh Tryz.prog [] 127=some (ziY.ac,[(.t 2)],30):=by kernel_rfl
theorem zaL (W0:World) (s:Str):Fn Tryz.prog W0 127 [CS s] (.c (CB (pOk s))) []:=by
 refine fX mixed ziZ fun hg=>?_
 refine dr ?_;apply cP<;>intro h1
 ·refine dr ?_;exact bF (by simp [pOk]; omega)
 refine dr ?_;repeat (refine c0 (zkM W0 s (by omega)) rfl ?_; first|refine dr ?_|exact dz)
 intro hg1;have g1:=jM hg1;refine dr ?_;refine lp (σ:=Nat) (fun k=>[(3,.c (jV (names s))),(4,I k)]) (fun _=>[]) (fun k=>k≤(names s).length∧((names s).take k).all jq=true) (fun k=>(names s).length - k) 0 ⟨by simp,by simp⟩ ?_ ?_
 ·refine dr ?_;trivial
 rintro k ⟨hk,ha⟩;refine dr ?_;apply cP<;>intro h2
 ·refine dr ?_;repeat (refine c0 (zkL W0 _) rfl ?_; first|refine dr ?_|exact dz)
  apply cP<;>intro h3
  ·refine dr ?_;exact bF (by rw [pOk,Z2 (by omega) h3]; simp)
  ·refine dr ?_;refine ⟨k+1,⟨by omega,qJ (by omega) ha h3⟩,by omega,?_⟩;refine dr ?_;trivial
 ·have:k=(names s).length:=by omega
  subst this;rw [List.take_length] at ha;refine dr ?_;apply cP<;>intro h3
  ·refine dr ?_;refine congrArg CB ?_;rw [pOk,ha,Qm,Bool.eq_iff_iff]; simp; omega
  ·refine dr ?_;exact bF (by rw [pOk,ha]; simp; omega)
def zja:XC:=(.s (.r [.m1 2 (.i 0)]) (.s (.r [.mv 4 0,.ex 5 (.len true 4),.b1 6 .sub 5 (.i 1),.mv 3 6]) (.s (.blk 0 (.loop (.s (.s (.r [.mv 7 3,.b1 8 .gtr 7 (.i 0),.mv 9 8,.g3 10 0 9,.g3 11 3 9,.gt 12 (.idx 10 11) 9,.gt 13 (.bin .neq 12 (.u 47)) 9,.p2 14 9 13]) (.ce 14 0)) (.blk 1 (.r [.mv 15 3,.b1 16 .sub 15 (.i 1),.mv 3 16]))))) (.s (.r [.mv 17 3,.mv 2 17]) .ret))))
theorem zjb:zh Tryz.prog [] 132=some (zja.ac,[(.t 2)],18):=by kernel_rfl
theorem zkN (W0:World) (a l:Str) (hl:(47:UInt8) ∉ l) (h12:(a++47::l).length≤12):Fn Tryz.prog W0 132 [CS (a++47::l)] (.c (CI a.length)) []:=by
 have hlen:(a++47::l).length=a.length+l.length+1:=by simp; omega
 have h47:∀ (h:a.length < (a++47::l).length),(a++47::l)[a.length]=47:=fun h=>by simp
 have hno:∀ k (h:k < (a++47::l).length),a.length < k→(a++47::l)[k]≠47:=fun k h hk e=>by
  have hm:(a++47::l)[k]? = some 47:=by rw [List.getElem?_eq_getElem h,e]
  rw [List.getElem?_append_right (by omega),show k - a.length=(k - a.length - 1)+1 by omega,List.getElem?_cons_succ] at hm;exact hl (List.mem_of_getElem? hm)
 generalize a++47::l=s at *;refine fX mixed zjb fun hg=>?_
 refine dr ?_;refine lp (σ:=Nat) (fun k=>[(0,.c (CS s)),(3,I k)]) (fun _=>[]) (fun k=>a.length≤k∧k < s.length) (fun k=>k) (s.length - 1) ⟨by omega,by omega⟩ ?_ ?_
 ·refine dr ?_;trivial
 rintro k ⟨h1,h2⟩;refine dr ?_;apply cP<;>intro h3
 ·refine dr ?_;apply cP<;>intro h4
  ·have hk:a.length < k:=by
    rcases Nat.lt_or_ge a.length k with h | h
    ·exact h
    ·have e:k=a.length:=by omega
     subst e;rw [h47 h2] at h4;simp at h4
   refine dr ?_;refine ⟨k - 1,⟨by omega,by omega⟩,by omega,?_⟩;refine dr ?_;trivial
  ·have hk:k=a.length:=by
    have h4':s[k]=47:=by
     have:s[k].toNat=47:=by omega
     exact UInt8.toNat_inj.1 (by simpa using this)
    rcases Nat.lt_or_ge a.length k with h | h
    ·exact absurd h4' (hno k h2 h)
    ·omega
   refine dr ?_;rw [hk]
 ·refine dr ?_;have:k=a.length:=by omega
  rw [this]
def zi0:XC:=(.s (.r [.ex 2 (.mv (.s []))]) (.s (.s (.r [.mv 4 0,.c1 5 127 [4],.u1 6 5]) (.cnd 6 (.s (.r [.ex 2 (.mv (.s []))]) .ret) .skip)) (.s (.r [.mv 7 0,.c1 8 132 [7],.mv 3 8]) (.s (.s (.r [.mv 9 3,.b1 10 .eql 9 (.i 0)]) (.cnd 10 (.s (.r [.ex 2 (.mv (.s [47]))]) .ret) .skip)) (.s (.r [.mv 11 0,.mv 12 3,.ex 13 (.sls 11 .none (.some 12)),.mv 2 13]) .ret)))))
theorem zi1:zh Tryz.prog [] 93=some (zi0.ac,[(.t 2)],14):=by kernel_rfl
theorem ZF (W0:World) (s:Str):Fn Tryz.prog W0 93 [CS s] (.c (CS (pUp s))) []:=by
 refine fX mixed zi1 fun hg=>?_
 refine dr ?_;repeat (refine c0 (zaL W0 s) rfl ?_; first|refine dr ?_|exact dz)
 apply cP<;>intro h1
 ·refine dr ?_;rw [show pUp s=[] by rw [pUp,h1]; rfl]
 obtain ⟨a,l,e,hl,_,_,_,_,_,hu⟩:=JB h1;have h12:=(yg h1).2.1;rw [hu];clear hu;subst e;refine dr ?_;repeat (refine c0 (zkN W0 a l hl h12) rfl ?_; first|refine dr ?_|exact dz)
 intro hg1;refine dr ?_;apply cP<;>intro h2
 ·refine dr ?_;have:a=[]:=List.length_eq_zero_iff.1 (by omega);rw [if_pos this]
 ·refine dr ?_;repeat (refine sHi a.length rfl (by simp) ?_; first|refine dr ?_|exact dz)
  rw [if_neg (fun e=>h2 (by simp [e])),List.take_left]
def zjc:XC:=(.s (.r [.m1 4 .n]) (.s (.s (.r [.mv 5 1,.ex 6 (.bin .eql 5 (.s [47]))]) (.cnd 6 (.rt 4) .skip)) (.s (.r [.mv 7 0,.ex 8 (.len true 7),.mv 9 1,.ex 10 (.len true 9),.b1 11 .gtr 8 10,.mv 12 11,.g3 13 0 12,.g3 14 1 12,.gt 15 (.len true 14) 12,.gt 16 (.sls 13 .none (.some 15)) 12,.g3 17 1 12,.gt 18 (.bin .eql 16 17) 12,.p2 19 12 18,.mv 20 19,.g3 21 0 20,.g3 22 1 20,.gt 23 (.len true 22) 20,.gt 24 (.idx 21 23) 20,.gt 25 (.bin .eql 24 (.u 47)) 20,.p2 26 20 25,.mv 4 26]) .ret)))
theorem zjd:zh Tryz.prog [] 162=some (zjc.ac,[(.t 4)],27):=by kernel_rfl
theorem zc4 (W0:World) (s d:Str):Fn Tryz.prog W0 162 [CS s,CS d] (.c (CB (und s d))) []:=by
 refine fX mixed zjd fun hg=>?_
 refine dr ?_;apply cP<;>intro h1
 ·refine dr ?_;exact bT (by simp [und,h1])
 have hnd:und s d=(d++[47]).isPrefixOf s:=by simp [und,h1]
 rw [hnd];refine dr ?_;apply cP<;>intro h2;rotate_left
 ·refine dr ?_;refine bF ?_;rw [Bool.eq_false_iff];intro h;have:=(List.isPrefixOf_iff_prefix.1 h).length_le;simp at this; omega
 refine dr ?_;repeat (refine sHi d.length rfl (by omega) ?_; first|refine dr ?_|exact dz)
 apply cP<;>intro h3;rotate_left
 ·refine dr ?_;refine bF ?_;rw [Bool.eq_false_iff];intro h;obtain ⟨r,hr⟩:=List.isPrefixOf_iff_prefix.1 h;apply h3;rw [← hr,List.append_assoc,List.take_left]
 refine dr ?_;have hs:s=d++s[d.length]::s.drop (d.length+1):=by
  rw [← List.drop_eq_getElem_cons (by omega)];conv=>lhs; rw [← List.take_append_drop d.length s,h3]
 refine congrArg CB ?_;rw [yu,Bool.eq_iff_iff,List.isPrefixOf_iff_prefix];simp only [beq_iff_eq];constructor
 ·intro h;have e:s[d.length]=47:=by
   have:s[d.length].toNat=47:=by omega
   exact UInt8.toNat_inj.1 (by simpa using this)
  rw [e] at hs;exact ⟨s.drop (d.length+1),by rw [hs]; simp⟩
 ·rintro ⟨r,hr⟩;have:s[d.length]? = some 47:=by rw [← hr]; simp
  have e:s[d.length]=47:=by
   rw [List.getElem?_eq_getElem (by omega)] at this; exact Option.some.inj this
  rw [e]; rfl

def zje:XC:=(.s (.r [.m1 2 .n]) (.s (.s (.r [.m1 3 (.i 0)]) (.blk 0 (.loop (.s (.s (.r [.mv 4 3,.mv 5 0,.ex 6 (.len true 5),.b1 7 .lss 4 6]) (.ce 7 0)) (.s (.blk 1 (.s (.r [.mv 10 0,.mv 11 3,.ex 12 (.idx 10 11),.b1 13 .lss 12 (.u 97),.mv 14 13,.h3 15 0 14,.h3 16 3 14,.gf 17 (.idx 15 16) 14,.gf 18 (.bin .gtr 17 (.u 122)) 14,.p1 19 14 18,.mv 20 19,.g3 21 0 20,.g3 22 3 20,.gt 23 (.idx 21 22) 20,.gt 24 (.bin .lss 23 (.u 48)) 20,.g3 25 24 20,.h3 26 0 25,.h3 27 3 25,.gf 28 (.idx 26 27) 25,.gf 29 (.bin .gtr 28 (.u 57)) 25,.gt 30 (.pick 25 .y 29) 20,.p2 31 20 30]) (.cnd 31 (.rf 2) .skip))) (.ic 8 9 3)))))) (.s (.r [.mv 32 0,.ex 33 (.len true 32),.b1 34 .leq 33 (.i 6),.mv 2 34]) .ret)))
theorem zjf:zh Tryz.prog [] 128=some (zje.ac,[(.t 2)],35):=by kernel_rfl
theorem zc5 (W0:World) (s:Str):Fn Tryz.prog W0 128 [CS s] (.c (CB (j2 s))) []:=by
 refine fX mixed zjf fun hg=>?_
 have g1:=Jp (hg _ (by simp:CS s∈_));refine dr ?_;refine lp (σ:=Nat) (fun k=>[(0,.c (CS s)),(3,I k)]) (fun _=>[]) (fun k=>k≤s.length∧(s.take k).all jL=true) (fun k=>s.length - k) 0 ⟨by simp,by simp⟩ ?_ ?_
 ·refine dr ?_;trivial
 rintro k ⟨hk,ha⟩;refine dr ?_;apply cP<;>intro h1
 ·have hk':k < s.length:=by omega
  have no:jL s[k]=false→CB false=CB (j2 s):=fun h=>bF (by rw [j2,Z2 hk' h]; rfl)
  have yes:jL s[k]=true→∃ x',(x'≤s.length∧(s.take x').all jL=true)∧x'=k+1:=fun h=>⟨k+1,⟨by omega,qJ hk' ha h⟩,rfl⟩
  refine dr ?_;apply cP<;>intro h2
  ·refine dr ?_;apply cP<;>intro h3
   ·refine dr ?_;exact no (by simp [jL,jt]; omega)
   ·refine dr ?_;apply cP<;>intro h4
    ·refine dr ?_;exact no (by simp [jL,jt]; omega)
    ·refine dr ?_;refine ⟨k+1,⟨by omega,qJ hk' ha (by simp [jL,jt]; omega)⟩,by omega,?_⟩;refine dr ?_;trivial
  ·refine dr ?_;apply cP<;>intro h3
   ·refine dr ?_;apply cP<;>intro h4
    ·refine dr ?_;exact no (by simp [jL,jt]; omega)
    ·refine dr ?_;apply cP<;>intro h5
     ·refine dr ?_;exact no (by simp [jL,jt]; omega)
     ·refine dr ?_;refine ⟨k+1,⟨by omega,qJ hk' ha (by simp [jL,jt]; omega)⟩,by omega,?_⟩;refine dr ?_;trivial
   ·refine dr ?_;refine ⟨k+1,⟨by omega,qJ hk' ha (by simp [jL,jt]; omega)⟩,by omega,?_⟩;refine dr ?_;trivial
 ·have:k=s.length:=by omega
  subst this;rw [List.take_length] at ha;refine dr ?_;refine congrArg CB ?_;rw [j2,ha,Qm,Bool.eq_iff_iff]; simp; omega
def zji:XC:=(.s (.r [.m1 4 (.i 0)]) (.s (.s (.r [.m1 5 (.i 0)]) (.blk 0 (.loop (.s (.s (.r [.mv 6 5,.mv 7 0,.n1 8 7,.b1 9 .lss 6 8]) (.ce 9 0)) (.s (.blk 1 (.s (.r [.mv 12 0,.mv 13 5,.i1 14 3 12 13,.f1 15 0 14,.l1 16 1 15,.mv 17 1,.b1 18 .eql 16 17]) (.cnd 18 (.s (.r [.mv 19 5,.mv 4 19]) .ret) .skip))) (.ic 10 11 5)))))) (.s (.r [.ex 4 (.mv (.k (.c (.sc (.int .i64 (.negSucc 0))))))]) .ret)))
theorem zjj:zh Tryz.prog [] 131=some (zji.ac,[(.t 4)],20):=by kernel_rfl
theorem zc6 (W0:World) (t:List Ent) (p:Str):Fn Tryz.prog W0 131 [zj t,CS p] (.c (CI (idx t p))) []:=by
 refine fX mixed zjj fun hg=>?_
 have g1:=jM (hg _ (by simp:zj t∈_));refine dr ?_;refine lp (σ:=Nat) (fun k=>[(0,.c (zj t)),(1,.c (CS p)),(5,I k)]) (fun _=>[]) (fun k=>k≤t.length∧∀ i (h':i < t.length),i < k→t[i].path≠p) (fun k=>t.length - k) 0 ⟨by simp,by simp⟩ ?_ ?_
 ·refine dr ?_;trivial
 rintro k ⟨hk,ha⟩;refine dr ?_;apply cP<;>intro h1
 ·refine dr ?_;apply cP<;>intro h2
  ·refine dr ?_;rw [zlR (by omega) h2 ha]
  ·refine dr ?_;refine ⟨k+1,⟨by omega,fun i h' hi=>?_⟩,by omega,?_⟩
   ·by_cases e:i=k
    ·subst e; exact h2
    ·exact ha i h' (by omega)
   ·refine dr ?_;trivial
 ·refine dr ?_;rw [zlS fun i h'=>ha i h' (by omega)]; rfl
def zjg:XC:=(.s (.r [.m1 4 .n]) (.s (.s (.r [.mv 6 1,.ex 7 (.bin .eql 6 (.s [47]))]) (.cnd 7 (.rt 4) .skip)) (.s (.r [.mv 8 0,.mv 9 1,.c1 10 131 [8,9],.mv 5 10]) (.s (.r [.mv 11 5,.b1 12 .geq 11 (.i 0),.mv 13 12,.g3 14 0 13,.g3 15 5 13,.gt 16 (.ia 3 14 15) 13,.g1 17 1 16 13,.g2 18 1 17 13,.p2 19 13 18,.mv 4 19]) .ret))))
theorem zjh:zh Tryz.prog [] 92=some (zjg.ac,[(.t 4)],20):=by kernel_rfl
theorem J8 (W0:World) (t:List Ent) (p:Str):Fn Tryz.prog W0 92 [zj t,CS p] (.c (CB (zR t p))) []:=by
 refine fX mixed zjh fun hg=>?_
 refine dr ?_;apply cP<;>intro h1
 ·refine dr ?_;exact bT (by simp [zR,get,h1,YX])
 refine dr ?_;repeat (refine c0 (zc6 W0 t p) rfl ?_; first|refine dr ?_|exact dz)
 intro hg1;have hd:zR t p=match find t p with | some e=>e.dir | none=>false:=by unfold zR get; rw [if_neg h1]; try (cases find t p<;>rfl)
 rw [hd];rcases Yu t p with ⟨e1,e2,_⟩ | ⟨j,hj,e1,e2,_⟩
 ·rw [e1,e2];refine dr ?_;apply cP<;>intro h2
  ·omega
  ·exact dz
 ·rw [e1,e2];refine dr ?_;apply cP<;>intro h2
  ·exact dz
  ·omega
def zjk:XC:=(.s (.r [.ex 4 (.alloc zE),.m1 5 .n]) (.s (.s (.r [.mv 7 1,.ex 8 (.bin .eql 7 (.s [47]))]) (.cnd 8 (.s (.r [.ex 9 (.build zE [(0,(1,(.s [47]))),(1,(1,.y))]),.s1 3 4 9,.m1 5 .y]) .ret) .skip)) (.s (.r [.mv 10 0,.mv 11 1,.c1 12 131 [10,11],.mv 6 12]) (.s (.s (.r [.mv 13 6,.b1 14 .lss 13 (.i 0)]) (.cnd 14 (.s (.r [.ex 15 (.build zE []),.s1 3 4 15,.m1 5 .n]) .ret) .skip)) (.s (.r [.mv 16 0,.mv 17 6,.i1 18 3 16 17,.l2 19 3 18,.s1 3 4 19,.m1 5 .y]) .ret)))))
theorem zjl:zh Tryz.prog [] 91=some (zjk.ac,[(.cell 4 true 3),(.t 5)],20):=by kernel_rfl
theorem zaI (W0:World) (t:List Ent) (p:Str):Fn Tryz.prog W0 91 [zj t,CS p] (.c (eEntO (get t p))) []:=by
 refine fX mixed zjl fun hg=>?_
 refine dr ?_;apply cP<;>intro h1
 ·refine dr ?_;rw [get,if_pos h1]; rfl
 rw [get,if_neg h1];refine dr ?_;repeat (refine c0 (zc6 W0 t p) rfl ?_; first|refine dr ?_|exact dz)
 intro hg1;rcases Yu t p with ⟨e1,e2,_⟩ | ⟨j,hj,e1,e2,_⟩
 ·rw [e1,e2];refine dr ?_;apply cP<;>intro h2
  ·refine dr ?_;rfl
  ·omega
 ·rw [e1,e2];refine dr ?_;apply cP<;>intro h2
  ·omega
  ·refine dr ?_;rfl
def zi2:XC:=(.s (.r [.m1 2 .n]) (.s (.s (.r [.mv 5 0,.n1 6 5,.b1 7 .gtr 6 (.i 16)]) (.cnd 7 (.rf 2) .skip)) (.s (.s (.r [.m1 3 (.i 0)]) (.blk 0 (.loop (.s (.s (.r [.mv 8 3,.mv 9 0,.n1 10 9,.b1 11 .lss 8 10]) (.ce 11 0)) (.s (.blk 1 (.s (.r [.mv 14 0,.mv 15 3,.i1 16 3 14 15,.l2 17 3 16,.ex 4 (.alloc zE),.s1 3 4 17]) (.s (.d [.f1 18 0 4,.l1 19 1 18,.c1 20 127 [19],.u1 21 20,.mv 22 21,.h1 23 2 4 22,.h2 24 1 23 22,.gf 25 (.call 128 [24]) 22,.gf 26 (.un .not 25) 22,.p1 27 22 26,.mv 28 27,.h1 29 1 4 28,.h2 30 1 29 28,.h3 31 30 28,.g1 32 2 4 31,.g2 33 1 32 31,.gt 34 (.bin .neq 33 (.s [])) 31,.gf 35 (.pick 31 34 .n) 28,.p1 36 28 35,.mv 37 36,.h3 38 3 37,.gf 39 (.bin .gtr 38 (.i 0)) 37,.h3 40 39 37,.g3 41 0 40,.g3 42 3 40,.gt 43 (.bin .sub 42 (.i 1)) 40,.gt 44 (.ia 3 41 43) 40,.g1 45 0 44 40,.g2 46 1 45 40,.g1 47 0 4 40,.g2 48 1 47 40,.gt 49 (.bin .geq 46 48) 40,.gf 50 (.pick 40 49 .n) 37,.p1 51 37 50,.mv 52 51,.h3 53 0 52,.h3 54 3 52,.gf 55 (.slr 3 53 .none (.some 54)) 52,.h1 56 0 4 52,.h2 57 1 56 52,.gf 58 (.call 93 [57]) 52,.gf 59 (.call 92 [55,58]) 52,.gf 60 (.un .not 59) 52,.p1 61 52 60]) (.cnd 61 (.rf 2) .skip)))) (.ic 12 13 3)))))) (.rt 2))))
theorem zi3:zh Tryz.prog [] 88=some (zi2.ac,[(.t 2)],62):=by kernel_rfl
theorem zde (W0:World) (t:List Ent):Fn Tryz.prog W0 88 [zj t] (.c (CB (tOk t))) []:=by
 refine fX mixed zi3 fun hg=>?_
 have g1:=jM (hg _ (by simp:zj t∈_));refine dr ?_;apply cP<;>intro h1
 ·refine dr ?_;exact bF (by rw [tOk,Bool.and_eq_false_iff]; left; simp; omega)
 have hT:tOk t=okA [] t:=by rw [tOk]; simp; omega
 rw [hT];refine dr ?_;refine lp (σ:=Nat) (fun k=>[(0,.c (zj t)),(3,I k)]) (fun _=>[]) (fun k=>k≤t.length∧∀ j (h:j < t.length),j < k→ok1 (t.take j) t[j]=true) (fun k=>t.length - k) 0 ⟨by simp,by simp⟩ ?_ ?_
 ·refine dr ?_;trivial
 rintro k ⟨hk,ha⟩;refine dr ?_;apply cP<;>intro h2;rotate_left
 ·refine dr ?_;exact bT (okA0.2 fun j h=>ha j h (by omega))
 have hk':k < t.length:=by omega
 have no:ok1 (t.take k) t[k]=false→CB false=CB (okA [] t):=fun h=>bF (by
  rw [Bool.eq_false_iff]; intro e;have:=okA0.1 e k hk';rw [h] at this; cases this)
 refine dr ?_;repeat (refine c0 (zaL W0 _) rfl ?_; first|refine dr ?_|exact dz)
 apply cP<;>intro h3
 ·refine dr ?_;exact no (by simp [ok1,h3])
 refine dr ?_;repeat (refine c0 (zc5 W0 _) rfl ?_; first|refine dr ?_|exact dz)
 apply cP<;>intro h4
 ·refine dr ?_;exact no (by simp [ok1,h4])
 refine dr ?_;apply cP<;>intro h5
 ·refine dr ?_;apply cP<;>intro h6
  ·refine dr ?_;exact no (by simp [ok1,h5,h6])
  ·have h56:(!(t[k].dir&&t[k].data != []))=true:=by simp [h6]
   clear h5 h6;refine dr ?_;apply cP<;>intro h7
   ·have hl:(t.take k).getLast? = some t[k - 1]:=by
     rw [List.getLast?_take,if_neg (by omega),List.getElem?_eq_getElem (by omega)];rfl
    refine dr ?_;repeat (refine aM (j:=k - 1) (by omega) (by omega) ?_; first|refine dr ?_|exact dz)
    cases h8:ltS t[k - 1].path t[k].path
    ·refine dr ?_;exact no (by simp [ok1,hl,h8])
    ·refine dEr ?_;repeat ((first|refine sHiM k rfl (by omega) ?_|refine c0 (ZF W0 _) rfl ?_|refine c0 (J8 W0 (t.take k) _) rfl ?_); first|refine dEr ?_|exact dz)
     apply cP<;>intro h9
     ·refine dr ?_;exact no (by simp [ok1,h9])
     ·refine dr ?_;refine ⟨k+1,⟨by omega,fun j h hj=>?_⟩,by omega,?_⟩
      ·by_cases e:j=k
       ·subst e; rw [ok1,h3,h4,h56,h9,hl]; simp [h8]
       ·exact ha j h (by omega)
      ·refine dr ?_;trivial
   ·have hk0:k=0:=by omega
    subst hk0;refine dEr ?_;repeat ((first|refine sHiM 0 rfl (by omega) ?_|refine c0 (ZF W0 _) rfl ?_|refine c0 (J8 W0 (t.take 0) _) rfl ?_); first|refine dEr ?_|exact dz)
    apply cP<;>intro h9
    ·refine dr ?_;exact no (by simp only [ok1,h9,Bool.and_false])
    ·refine dr ?_;refine ⟨1,⟨by omega,fun j h hj=>?_⟩,by omega,?_⟩
     ·have e:j=0:=by omega
      subst e;rw [ok1,h3,h4,h56,h9]; rfl
     ·refine dr ?_;trivial
 ·have h56:(!(t[k].dir&&t[k].data != []))=true:=by simp [h5]
  clear h5;refine dr ?_;apply cP<;>intro h7
  ·have hl:(t.take k).getLast? = some t[k - 1]:=by
    rw [List.getLast?_take,if_neg (by omega),List.getElem?_eq_getElem (by omega)];rfl
   refine dr ?_;repeat (refine aM (j:=k - 1) (by omega) (by omega) ?_; first|refine dr ?_|exact dz)
   cases h8:ltS t[k - 1].path t[k].path
   ·refine dr ?_;exact no (by simp [ok1,hl,h8])
   ·refine dEr ?_;repeat ((first|refine sHiM k rfl (by omega) ?_|refine c0 (ZF W0 _) rfl ?_|refine c0 (J8 W0 (t.take k) _) rfl ?_); first|refine dEr ?_|exact dz)
    apply cP<;>intro h9
    ·refine dr ?_;exact no (by simp [ok1,h9])
    ·refine dr ?_;refine ⟨k+1,⟨by omega,fun j h hj=>?_⟩,by omega,?_⟩
     ·by_cases e:j=k
      ·subst e; rw [ok1,h3,h4,h56,h9,hl]; simp [h8]
      ·exact ha j h (by omega)
     ·refine dr ?_;trivial
  ·have hk0:k=0:=by omega
   subst hk0;refine dEr ?_;repeat ((first|refine sHiM 0 rfl (by omega) ?_|refine c0 (ZF W0 _) rfl ?_|refine c0 (J8 W0 (t.take 0) _) rfl ?_); first|refine dEr ?_|exact dz)
   apply cP<;>intro h9
   ·refine dr ?_;exact no (by simp only [ok1,h9,Bool.and_false])
   ·refine dr ?_;refine ⟨1,⟨by omega,fun j h hj=>?_⟩,by omega,?_⟩
    ·have e:j=0:=by omega
     subst e;rw [ok1,h3,h4,h56,h9]; rfl
    ·refine dr ?_;trivial

def zjm:XC:=(.s (.r [.x1 3 1,.a2 4 3 77]) (.s (.r [.ex 7 .bsl0,.a1 5 7 3 77]) (.s (.r [.m1 6 (.i 0)]) (.s (.blk 0 (.loop (.s (.s (.d [.mv 8 6,.mv 9 0,.n1 10 9,.b1 11 .lss 8 10,.mv 12 11,.g3 13 0 12,.g3 14 6 12,.gt 15 (.ia 3 13 14) 12,.g1 16 0 15 12,.g2 17 1 16 12,.g1 18 0 3 12,.g2 19 1 18 12,.gt 20 (.bin .lss 17 19) 12,.p2 21 12 20]) (.ce 21 0)) (.blk 1 (.s (.r [.mv 22 5,.mv 23 0,.mv 24 6,.i1 25 3 23 24,.l2 26 3 25,.ex 27 (.bsl 3 77 [26]),.ex 28 (.app false 3 40 77 22 27),.a1 5 28 3 77]) (.ic 29 30 6)))))) (.s (.r [.mv 31 5,.l2 32 3 3,.ex 33 (.bsl 3 77 [32]),.ex 34 (.app false 3 40 77 31 33),.a1 5 34 3 77]) (.s (.s (.d [.mv 35 6,.mv 36 0,.n1 37 36,.b1 38 .lss 35 37,.mv 39 38,.g3 40 0 39,.g3 41 6 39,.gt 42 (.ia 3 40 41) 39,.g1 43 0 42 39,.g2 44 1 43 39,.g1 45 0 3 39,.g2 46 1 45 39,.gt 47 (.bin .eql 44 46) 39,.p2 48 39 47]) (.cnd 48 (.ic 49 50 6) .skip)) (.s (.r [.mv 51 5,.mv 52 0,.mv 53 6,.ex 54 (.slr 3 52 (.some 53) .none),.ex 55 (.app false 3 40 77 51 54),.a1 4 55 3 77]) .ret)))))))
theorem zjn:zh Tryz.prog [] 130=some (zjm.ac,[(.t 4)],56):=by kernel_rfl
theorem Yg (W0:World) (t:List Ent) (e:Ent) (ht:t.length≤1000000):Fn Tryz.prog W0 130 [zj t,zv e] (.c (zj (put t e))) []:=by
 refine fX mixed zjn fun hg=>?_
 refine dr ?_;refine lp (σ:=Nat) (fun k=>[(0,.c (zj t)),(3,.ptr 48 0),(5,.own 80 k),(6,I k)]) (fun k=>[(48,.box [.c (CS e.path),(.c (CB e.dir)),.c (CS e.data)]),(80,.row ((t.take k).map zv) 3 77)]) (fun k=>k≤t.length∧(t.take k).all (fun x=>ltS x.path e.path)=true) (fun k=>t.length - k) 0 ⟨by simp,by simp⟩ ?_ ?_
 ·refine dr ?_;trivial
 rintro k ⟨hk,ha⟩;refine dr ?_;apply cP<;>intro h1
 ·have hk':k < t.length:=by omega
  refine dr ?_;apply cP<;>intro h2
  ·refine dr ?_;repeat ((first|refine oB (by simp; omega) ?_|refine oB (by simp) ?_); first|refine dr ?_|exact dz)
   refine ⟨k+1,⟨by omega,qJ hk' ha h2⟩,by omega,?_⟩;refine dr ?_;repeat ((first|refine oB (by simp; omega) ?_|refine oB (tmn hk') ?_); first|refine dr ?_|exact dz)
   trivial
  ·refine dr ?_;repeat ((first|refine oB (by simp; omega) ?_|refine oB (by simp) ?_); first|refine dr ?_|exact dz)
   apply cP<;>intro h3;rotate_left
   ·omega
   refine dr ?_;apply cP<;>intro h4
   ·refine dr ?_;repeat ((first|refine sLoM (k+1) (by omega) (by omega) ?_|refine oB (by simp; omega) ?_|refine oB (by simp) ?_); first|refine dr ?_|exact dz)
    show _=zj (zO _ t e);rw [ze6 hk' ha h2 h4]; simp [zj]; rfl
   ·refine dr ?_;repeat ((first|refine sLoM k (by omega) (by omega) ?_|refine oB (by simp; omega) ?_|refine oB (by simp) ?_); first|refine dr ?_|exact dz)
    show _=zj (zO _ t e);rw [ze9 hk' ha h2 h4]; simp [zj]; rfl
 ·refine dr ?_;repeat ((first|refine oB (by simp; omega) ?_|refine oB (by simp) ?_); first|refine dr ?_|exact dz)
  apply cP<;>intro h3
  ·omega
  refine dr ?_;repeat ((first|refine sLoM k (by omega) (by omega) ?_|refine oB (by simp; omega) ?_|refine oB (by simp) ?_); first|refine dr ?_|exact dz)
  show _=zj (zO _ t e);rw [ze8 (by omega) ha];have:k=t.length:=by omega
  simp [zj,this]; rfl
def zjI:XC:=(.s (.r [.x1 3 1,.a2 4 3 34]) (.s (.r [.ex 7 .bsl0,.a1 5 7 3 34]) (.s (.r [.m1 6 (.i 0)]) (.s (.blk 0 (.loop (.s (.s (.d [.mv 8 6,.mv 9 0,.n1 10 9,.b1 11 .lss 8 10,.mv 12 11,.g3 13 0 12,.g3 14 6 12,.gt 15 (.ia 3 13 14) 12,.g1 16 0 15 12,.g2 17 1 16 12,.g1 18 0 3 12,.g2 19 1 18 12,.gt 20 (.bin .lss 17 19) 12,.p2 21 12 20]) (.ce 21 0)) (.blk 1 (.s (.r [.mv 22 5,.mv 23 0,.mv 24 6,.i1 25 3 23 24,.l2 26 3 25,.ex 27 (.bsl 3 34 [26]),.ex 28 (.app false 3 40 34 22 27),.a1 5 28 3 34]) (.ic 29 30 6)))))) (.s (.r [.mv 31 5,.l2 32 3 3,.ex 33 (.bsl 3 34 [32]),.ex 34 (.app false 3 40 34 31 33),.a1 5 34 3 34]) (.s (.s (.d [.mv 35 6,.mv 36 0,.n1 37 36,.b1 38 .lss 35 37,.mv 39 38,.g3 40 0 39,.g3 41 6 39,.gt 42 (.ia 3 40 41) 39,.g1 43 0 42 39,.g2 44 1 43 39,.g1 45 0 3 39,.g2 46 1 45 39,.gt 47 (.bin .eql 44 46) 39,.p2 48 39 47]) (.cnd 48 (.ic 49 50 6) .skip)) (.s (.r [.mv 51 5,.mv 52 0,.mv 53 6,.ex 54 (.slr 3 52 (.some 53) .none),.ex 55 (.app false 3 40 34 51 54),.a1 4 55 3 34]) .ret)))))))
theorem zjJ:zh Tryz.prog [] 95=some (zjI.ac,[(.t 4)],56):=by kernel_rfl
theorem Je (W0:World) (t:List Mark) (e:Mark) (ht:t.length≤1000000):Fn Tryz.prog W0 95 [zd t,zm e] (.c (zd (lput t e))) []:=by
 refine fX mixed zjJ fun hg=>?_
 refine dr ?_;refine lp (σ:=Nat) (fun k=>[(0,.c (zd t)),(3,.ptr 48 0),(5,.own 80 k),(6,I k)]) (fun k=>[(48,.box [.c (CS e.path),(I e.kind),.c (CS e.data)]),(80,.row ((t.take k).map zm) 3 34)]) (fun k=>k≤t.length∧(t.take k).all (fun x=>ltS x.path e.path)=true) (fun k=>t.length - k) 0 ⟨by simp,by simp⟩ ?_ ?_
 ·refine dr ?_;trivial
 rintro k ⟨hk,ha⟩;refine dr ?_;apply cP<;>intro h1
 ·have hk':k < t.length:=by omega
  refine dr ?_;apply cP<;>intro h2
  ·refine dr ?_;repeat ((first|refine oB (by simp; omega) ?_|refine oB (by simp) ?_); first|refine dr ?_|exact dz)
   refine ⟨k+1,⟨by omega,qJ hk' ha h2⟩,by omega,?_⟩;refine dr ?_;repeat ((first|refine oB (by simp; omega) ?_|refine oB (tmn hk') ?_); first|refine dr ?_|exact dz)
   trivial
  ·refine dr ?_;repeat ((first|refine oB (by simp; omega) ?_|refine oB (by simp) ?_); first|refine dr ?_|exact dz)
   apply cP<;>intro h3;rotate_left
   ·omega
   refine dr ?_;apply cP<;>intro h4
   ·refine dr ?_;repeat ((first|refine sLoM (k+1) (by omega) (by omega) ?_|refine oB (by simp; omega) ?_|refine oB (by simp) ?_); first|refine dr ?_|exact dz)
    show _=zd (zO _ t e);rw [ze6 hk' ha h2 h4]; simp [zd]; rfl
   ·refine dr ?_;repeat ((first|refine sLoM k (by omega) (by omega) ?_|refine oB (by simp; omega) ?_|refine oB (by simp) ?_); first|refine dr ?_|exact dz)
    show _=zd (zO _ t e);rw [ze9 hk' ha h2 h4]; simp [zd]; rfl
 ·refine dr ?_;repeat ((first|refine oB (by simp; omega) ?_|refine oB (by simp) ?_); first|refine dr ?_|exact dz)
  apply cP<;>intro h3
  ·omega
  refine dr ?_;repeat ((first|refine sLoM k (by omega) (by omega) ?_|refine oB (by simp; omega) ?_|refine oB (by simp) ?_); first|refine dr ?_|exact dz)
  show _=zd (zO _ t e);rw [ze8 (by omega) ha];have:k=t.length:=by omega
  simp [zd,this]; rfl
def zjo:XC:=(.s (.r [.a2 4 1 9]) (.s (.r [.mv 13 0,.a1 5 13 3 77]) (.s (.s (.r [.m1 6 (.i 0)]) (.blk 0 (.loop (.s (.s (.r [.mv 14 6,.mv 15 1,.n1 16 15,.b1 17 .lss 14 16]) (.ce 17 0)) (.s (.blk 1 (.r [.mv 20 5,.mv 21 1,.mv 22 6,.i1 23 3 21 22,.l2 24 3 23,.c1 25 130 [20,24],.a1 5 25 3 77])) (.ic 18 19 6)))))) (.s (.r [.ex 26 .bsl0,.a1 7 26 1 9]) (.s (.s (.r [.m1 8 (.i 0)]) (.blk 2 (.loop (.s (.s (.r [.mv 27 8,.mv 28 5,.n1 29 28,.b1 30 .lss 27 29]) (.ce 30 2)) (.s (.blk 3 (.s (.r [.mv 34 0,.mv 35 5,.mv 36 8,.i1 37 3 35 36,.f1 38 0 37,.l1 39 1 38,.c1 40 91 [34,39],.mv 33 40,.e1 41 33 0,.e1 42 33 1,.ex 9 (.alloc zE),.s1 3 9 41,.mv 10 42]) (.s (.r [.mv 44 1,.mv 45 5,.mv 46 8,.i1 47 3 45 46,.f1 48 0 47,.l1 49 1 48,.c1 50 91 [44,49],.mv 43 50,.e1 51 43 0,.e1 52 43 1,.ex 11 (.alloc zE),.s1 3 11 51,.mv 12 52]) (.s (.r [.mv 53 10,.mv 54 12,.ex 55 (.bb true 53 54),.mv 56 55,.gf 57 (.ld true 3 9) 56,.gf 58 (.ld true 3 11) 56,.gf 59 (.beq true [.s,.b,.s] 57 58) 56,.p1 60 56 59]) (.cnd 60 (.r [.mv 61 7,.mv 62 5,.mv 63 8,.i1 64 3 62 63,.f1 65 0 64,.l1 66 1 65,.ex 67 (.bsl 1 9 [66]),.ex 68 (.app false 1 16 9 61 67),.a1 7 68 1 9]) .skip))))) (.ic 31 32 8)))))) (.s (.r [.mv 69 7,.a1 4 69 1 9]) .ret))))))
theorem zjp:zh Tryz.prog [] 90=some (zjo.ac,[(.t 4)],70):=by kernel_rfl
theorem zkO (W0:World) (a b:List Ent) (ht:a.length+b.length≤1000000):Fn Tryz.prog W0 90 [zj a,zj b] (.c (jV (z6 a b))) []:=by
 refine fX mixed zjp fun hg=>?_
 refine dr ?_;refine lp (σ:=Nat) (fun k=>[(0,.c (zj a)),(1,.c (zj b)),(5,.c (zj ((b.take k).foldl put a))),(6,I k)]) (fun _=>[]) (fun k=>k≤b.length) (fun k=>b.length - k) 0 (by simp) ?_ ?_
 ·refine dr ?_;trivial
 intro k hk;have hlk:((b.take k).foldl put a).length≤a.length+b.length:=zlw b a k;refine dr ?_;apply cP<;>intro h1
 ·have hk':k < b.length:=by omega
  refine dr ?_;repeat (refine c0 (Yg W0 _ _ (by omega)) rfl ?_; first|refine dr ?_|exact dz)
  intro hg1;refine dr ?_;refine ⟨k+1,by omega,by omega,?_⟩;refine dr ?_;repeat (refine oB (by rw [qL hk']) ?_; first|refine dr ?_|exact dz)
  trivial
 have hkl:k=b.length:=by omega
 subst hkl;rw [List.take_length] at hlk ⊢;have hB:b.foldl put a=both a b:=rfl;rw [hB] at hlk ⊢;generalize hBB:both a b=B at *;refine dr ?_;refine lp (σ:=Nat) (fun k=>[(0,.c (zj a)),(1,.c (zj b)),(5,.c (zj B)),(8,I k),(7,.own 112 ((B.take k).filter (tudP a b)).length)]) (fun k=>[(112,.row (((B.take k).filter (tudP a b)).map fun e=>CS e.path) 1 9)]) (fun k=>k≤B.length) (fun k=>B.length - k) 0 (by simp) ?_ ?_
 ·refine dr ?_;trivial
 intro k hk;have hfl:=zdp (q:=tudP a b) (l:=B) (k:=k);refine dr ?_;apply cP<;>intro h2
 ·have hk':k < B.length:=by omega
  refine dr ?_;repeat ((first|refine c0 (zaI W0 _ _) rfl ?_ | rw [zcK]); first|refine dr ?_|exact dz)
  intro hg1;refine dr ?_;repeat ((first|refine c0 (zaI W0 _ _) rfl ?_ | rw [zcK]); first|refine dr ?_|exact dz)
  intro hg1;refine dr ?_;have hq:tudP a b B[k]=!(decide ((get a B[k].path).isSome=(get b B[k].path).isSome)&&decide ((get a B[k].path).getD noE=(get b B[k].path).getD noE)):=by
   rw [tudP,Bool.eq_iff_iff]; simp [znC (d:=noE)]
  apply cP<;>intro h3
  ·refine dr ?_;repeat ((first|refine oB (by simp; omega) ?_|refine oB (by simp) ?_); first|refine dr ?_|exact dz)
   have hT:tudP a b B[k]=true:=by rw [hq]; simp [h3]
   refine ⟨k+1,by omega,by omega,?_⟩;refine dr ?_;repeat (refine oB (by rw [Jh hk' hT]; simp) ?_; first|refine dr ?_|exact dz)
   trivial
  ·refine dr ?_;apply cP<;>intro h4
   ·refine dr ?_;repeat ((first|refine oB (by simp; omega) ?_|refine oB (by simp) ?_); first|refine dr ?_|exact dz)
    have hT:tudP a b B[k]=true:=by rw [hq,← QU,h4]; simp
    refine ⟨k+1,by omega,by omega,?_⟩;refine dr ?_;repeat (refine oB (by rw [Jh hk' hT]; simp) ?_; first|refine dr ?_|exact dz)
    trivial
   ·refine dr ?_;have hT:tudP a b B[k]=false:=by rw [hq,← QU,h4]; simp [h3]
    refine ⟨k+1,by omega,by omega,?_⟩;refine dr ?_;repeat (refine oB (by rw [ZG hk' hT]) ?_; first|refine dr ?_|exact dz)
    trivial
 have hkl:k=B.length:=by omega
 refine dr ?_;repeat (refine oB (by simp) ?_; first|refine dr ?_|exact dz)
 rw [z6,hBB,hkl,List.take_length];simp [jV]



def zjw:XC:=(.s (.r [.m1 4 (.i 0)]) (.s (.s (.r [.m1 5 (.i 0)]) (.blk 0 (.loop (.s (.s (.r [.mv 6 5,.mv 7 0,.n1 8 7,.b1 9 .lss 6 8]) (.ce 9 0)) (.s (.blk 1 (.s (.r [.mv 12 0,.mv 13 5,.i1 14 3 12 13,.f1 15 0 14,.l1 16 1 15,.mv 17 1,.b1 18 .eql 16 17]) (.cnd 18 (.s (.r [.mv 19 5,.mv 4 19]) .ret) .skip))) (.ic 10 11 5)))))) (.s (.r [.ex 4 (.mv (.k (.c (.sc (.int .i64 (.negSucc 0))))))]) .ret)))
theorem zjx:zh Tryz.prog [] 161=some (zjw.ac,[(.t 4)],20):=by kernel_rfl
theorem zkR (W0:World) (t:List Mark) (p:Str):Fn Tryz.prog W0 161 [zd t,CS p] (.c (CI (midx t p))) []:=by
 refine fX mixed zjx fun hg=>?_
 have g1:=jM (hg _ (by simp:zd t∈_));refine dr ?_;refine lp (σ:=Nat) (fun k=>[(0,.c (zd t)),(1,.c (CS p)),(5,I k)]) (fun _=>[]) (fun k=>k≤t.length∧∀ i (h':i < t.length),i < k→t[i].path≠p) (fun k=>t.length - k) 0 ⟨by simp,by simp⟩ ?_ ?_
 ·refine dr ?_;trivial
 rintro k ⟨hk,ha⟩;refine dr ?_;apply cP<;>intro h1
 ·refine dr ?_;apply cP<;>intro h2
  ·refine dr ?_;rw [zmo (by omega) h2 ha]
  ·refine dr ?_;refine ⟨k+1,⟨by omega,fun i h' hi=>?_⟩,by omega,?_⟩
   ·by_cases e:i=k
    ·subst e; exact h2
    ·exact ha i h' (by omega)
   ·refine dr ?_;trivial
 ·refine dr ?_;rw [zmp fun i h'=>ha i h' (by omega)]; rfl
def zjE:XC:=(.s (.r [.m1 4 (.i 0)]) (.s (.r [.mv 6 0,.mv 7 1,.c1 8 161 [6,7],.mv 5 8]) (.s (.s (.r [.mv 9 5,.b1 10 .lss 9 (.i 0)]) (.cnd 10 (.s (.r [.m1 4 (.i 0)]) .ret) .skip)) (.s (.r [.mv 11 0,.mv 12 5,.i1 13 3 11 12,.f1 14 1 13,.l1 15 1 14,.mv 4 15]) .ret))))
theorem zjF:zh Tryz.prog [] 133=some (zjE.ac,[(.t 4)],16):=by kernel_rfl
theorem Yi (W0:World) (t:List Mark) (p:Str):Fn Tryz.prog W0 133 [zd t,CS p] (.c (CI (kind t p))) []:=by
 refine fX mixed zjF fun hg=>?_
 refine dr ?_;repeat (refine c0 (zkR W0 t p) rfl ?_; first|refine dr ?_|exact dz)
 intro hg1;rcases zbf t p with ⟨e1,e2,_⟩ | ⟨j,hj,e1,e2,_⟩
 ·rw [kind,e1,e2];refine dr ?_;apply cP<;>intro h2
  ·exact dz
  ·omega
 ·rw [kind,e1,e2];refine dr ?_;apply cP<;>intro h2
  ·omega
  ·exact dz
def zjq:XC:=(.s (.r [.m1 4 .n]) (.s (.s (.r [.m1 5 (.i 0)]) (.blk 0 (.loop (.s (.s (.r [.mv 6 5,.mv 7 0,.n1 8 7,.b1 9 .lss 6 8]) (.ce 9 0)) (.s (.blk 1 (.s (.r [.mv 12 0,.mv 13 5,.i1 14 3 12 13,.f1 15 1 14,.l1 16 1 15,.b1 17 .eql 16 (.i 4),.mv 18 17,.g3 19 1 18,.g3 20 0 18,.g3 21 5 18,.gt 22 (.ia 3 20 21) 18,.g1 23 0 22 18,.g2 24 1 23 18,.gt 25 (.call 162 [19,24]) 18,.p2 26 18 25]) (.cnd 26 (.rt 4) .skip))) (.ic 10 11 5)))))) (.rf 4)))
theorem zjr:zh Tryz.prog [] 135=some (zjq.ac,[(.t 4)],27):=by kernel_rfl
theorem J9 (W0:World) (t:List Mark) (p:Str):Fn Tryz.prog W0 135 [zd t,CS p] (.c (CB (zQ t p))) []:=by
 refine fX mixed zjr fun hg=>?_
 have g1:=jM (hg _ (by simp:zd t∈_));refine dr ?_;refine lp (σ:=Nat) (fun k=>[(0,.c (zd t)),(1,.c (CS p)),(5,I k)]) (fun _=>[]) (fun k=>k≤t.length∧zQ (t.take k) p=false) (fun k=>t.length - k) 0 ⟨by simp,by simp [zQ]⟩ ?_ ?_
 ·refine dr ?_;trivial
 rintro k ⟨hk,ha⟩;refine dr ?_;apply cP<;>intro h1
 ·have hk':k < t.length:=by omega
  have no:(t[k].kind==4&&und p t[k].path)=false→zQ (t.take (k+1)) p=false:=fun h=>by
   rw [zQ] at ha ⊢;rw [List.take_succ_eq_append_getElem hk',List.any_append,ha]; simpa using h
  have yes:(t[k].kind==4&&und p t[k].path)=true→CB true=CB (zQ t p):=fun h=>bT (by
   rw [zQ,List.any_eq_true]; exact ⟨t[k],List.getElem_mem hk',h⟩)
  refine dr ?_;apply cP<;>intro h2
  ·refine dEr ?_;repeat (refine c0 (zc4 W0 _ _) rfl ?_; first|refine dEr ?_|exact dz)
   apply cP<;>intro h3
   ·refine dr ?_;exact yes (by simp [h2,h3])
   ·refine dr ?_;refine ⟨k+1,⟨by omega,no (by simp [h3])⟩,by omega,?_⟩;refine dr ?_;trivial
  ·refine dr ?_;refine ⟨k+1,⟨by omega,no (by simp [h2])⟩,by omega,?_⟩;refine dr ?_;trivial
 ·refine dr ?_;have:k=t.length:=by omega
  subst this;rw [List.take_length] at ha;rw [ha]
def zjA:XC:=(.s (.r [.m1 4 .n]) (.s (.r [.mv 7 1,.c1 8 93 [7],.mv 5 8]) (.s (.r [.mv 9 0,.mv 10 5,.c1 11 133 [9,10],.mv 6 11]) (.s (.r [.mv 12 5,.ex 13 (.bin .eql 12 (.s [47])),.mv 14 13,.h3 15 6 14,.gf 16 (.bin .eql 15 (.i 2)) 14,.p1 17 14 16,.mv 18 17,.h3 19 6 18,.gf 20 (.bin .eql 19 (.i 4)) 18,.p1 21 18 20,.mv 4 21]) .ret))))
theorem zjB:zh Tryz.prog [] 134=some (zjA.ac,[(.t 4)],22):=by kernel_rfl
theorem Yh (W0:World) (t:List Mark) (p:Str):Fn Tryz.prog W0 134 [zd t,CS p] (.c (CB (inD t p))) []:=by
 refine fX mixed zjB fun hg=>?_
 refine dr ?_;repeat (refine c0 (ZF W0 _) rfl ?_; first|refine dr ?_|exact dz)
 intro hg1;refine dr ?_;repeat (refine c0 (Yi W0 _ _) rfl ?_; first|refine dr ?_|exact dz)
 intro hg1;refine dr ?_;apply cP<;>intro h1
 ·refine dr ?_;exact bT (by simp [inD,h1])
 ·refine dr ?_;apply cP<;>intro h2
  ·refine dr ?_;exact bT (by simp [inD,h2])
  ·refine dr ?_;refine congrArg CB ?_;rw [Bool.eq_iff_iff]; simp [inD,h1,h2,yu]
def zjy:XC:=(.s (.r [.m1 4 .n]) (.s (.s (.r [.m1 5 (.i 0)]) (.blk 0 (.loop (.s (.s (.r [.mv 6 5,.mv 7 0,.n1 8 7,.b1 9 .lss 6 8]) (.ce 9 0)) (.s (.blk 1 (.s (.r [.mv 12 0,.mv 13 5,.i1 14 3 12 13,.f1 15 0 14,.l1 16 1 15,.mv 17 1,.b1 18 .eql 16 17,.mv 19 18,.g3 20 0 19,.g3 21 5 19,.gt 22 (.ia 3 20 21) 19,.g1 23 1 22 19,.g2 24 1 23 19,.gt 25 (.bin .neq 24 (.i 2)) 19,.p2 26 19 25,.mv 27 26,.h3 28 0 27,.h3 29 5 27,.gf 30 (.ia 3 28 29) 27,.h1 31 1 30 27,.h2 32 1 31 27,.gf 33 (.bin .neq 32 (.i 2)) 27,.h3 34 33 27,.g3 35 1 34,.g3 36 0 34,.g3 37 5 34,.gt 38 (.ia 3 36 37) 34,.g1 39 0 38 34,.g2 40 1 39 34,.gt 41 (.call 162 [35,40]) 34,.gf 42 (.pick 34 41 .n) 27,.p1 43 27 42]) (.cnd 43 (.rt 4) .skip))) (.ic 10 11 5)))))) (.rf 4)))
theorem zjz:zh Tryz.prog [] 136=some (zjy.ac,[(.t 4)],44):=by kernel_rfl
theorem zc7 (W0:World) (t:List Mark) (p:Str):Fn Tryz.prog W0 136 [zd t,CS p] (.c (CB (zw t p))) []:=by
 refine fX mixed zjz fun hg=>?_
 have g1:=jM (hg _ (by simp:zd t∈_));refine dr ?_;refine lp (σ:=Nat) (fun k=>[(0,.c (zd t)),(1,.c (CS p)),(5,I k)]) (fun _=>[]) (fun k=>k≤t.length∧zw (t.take k) p=false) (fun k=>t.length - k) 0 ⟨by simp,by simp [zw]⟩ ?_ ?_
 ·refine dr ?_;trivial
 rintro k ⟨hk,ha⟩;refine dr ?_;apply cP<;>intro h1
 ·have hk':k < t.length:=by omega
  have no:hidP p t[k]=false→zw (t.take (k+1)) p=false:=fun h=>by
   rw [zw] at ha ⊢;rw [List.take_succ_eq_append_getElem hk',List.any_append,ha]; simpa using h
  have yes:hidP p t[k]=true→CB true=CB (zw t p):=fun h=>bT (by
   rw [zw,List.any_eq_true]; exact ⟨t[k],List.getElem_mem hk',h⟩)
  refine dr ?_;have nx:hidP p t[k]=false→∃ x',(x'≤t.length∧zw (t.take x') p=false)∧x'=k+1:=fun h=>⟨k+1,⟨by omega,no h⟩,rfl⟩
  apply cP<;>intro h2
  ·refine dr ?_;apply cP<;>intro h3
   ·refine dr ?_;exact yes (by simp [hidP,h2,h3])
   ·refine dr ?_;apply cP<;>intro h4
    ·omega
    ·refine dr ?_;refine ⟨k+1,⟨by omega,no (by simp [hidP,h3])⟩,by omega,?_⟩;refine dr ?_;trivial
  ·refine dr ?_;apply cP<;>intro h3
   ·refine dEr ?_;repeat (refine c0 (zc4 W0 _ _) rfl ?_; first|refine dEr ?_|exact dz)
    apply cP<;>intro h5
    ·refine dr ?_;exact yes (by simp [hidP,h3,h5])
    ·refine dr ?_;refine ⟨k+1,⟨by omega,no (by simp [hidP,h2,h5])⟩,by omega,?_⟩;refine dr ?_;trivial
   ·refine dr ?_;refine ⟨k+1,⟨by omega,no (by simp [hidP,h3])⟩,by omega,?_⟩;refine dr ?_;trivial
 ·refine dr ?_;have:k=t.length:=by omega
  subst this;rw [List.take_length] at ha;rw [ha]
def ziO:XC:=(.s (.r [.m1 2 .n]) (.s (.s (.r [.m1 3 (.i 0)]) (.blk 0 (.loop (.s (.s (.r [.mv 5 3,.mv 6 0,.n1 7 6,.b1 8 .lss 5 7]) (.ce 8 0)) (.s (.blk 1 (.s (.r [.mv 11 0,.mv 12 3,.i1 13 3 11 12,.l2 14 3 13,.ex 4 (.alloc [sE,(I 0),sE]),.s1 3 4 14]) (.s (.s (.r [.f1 15 1 4,.l1 16 1 15,.b1 17 .lss 16 (.i 1),.mv 18 17,.h1 19 1 4 18,.h2 20 1 19 18,.gf 21 (.bin .gtr 20 (.i 4)) 18,.p1 22 18 21,.mv 23 22,.h1 24 0 4 23,.h2 25 1 24 23,.gf 26 (.call 127 [25]) 23,.gf 27 (.un .not 26) 23,.p1 28 23 27,.mv 29 28,.h1 30 2 4 29,.h2 31 1 30 29,.gf 32 (.call 128 [31]) 29,.gf 33 (.un .not 32) 29,.p1 34 29 33,.mv 35 34,.h1 36 1 4 35,.h2 37 1 36 35,.gf 38 (.bin .neq 37 (.i 1)) 35,.h3 39 38 35,.g1 40 2 4 39,.g2 41 1 40 39,.gt 42 (.bin .neq 41 (.s [])) 39,.gf 43 (.pick 39 42 .n) 35,.p1 44 35 43]) (.cnd 44 (.rf 2) .skip)) (.s (.s (.d [.mv 45 3,.b1 46 .gtr 45 (.i 0),.mv 47 46,.g3 48 0 47,.g3 49 3 47,.gt 50 (.bin .sub 49 (.i 1)) 47,.gt 51 (.ia 3 48 50) 47,.g1 52 0 51 47,.g2 53 1 52 47,.g1 54 0 4 47,.g2 55 1 54 47,.gt 56 (.bin .geq 53 55) 47,.p2 57 47 56,.mv 58 57,.h3 59 0 58,.h3 60 3 58,.gf 61 (.slr 3 59 .none (.some 60)) 58,.h1 62 0 4 58,.h2 63 1 62 58,.gf 64 (.call 134 [61,63]) 58,.gf 65 (.un .not 64) 58,.p1 66 58 65]) (.cnd 66 (.rf 2) .skip)) (.s (.d [.f1 67 1 4,.l1 68 1 67,.b1 69 .gtr 68 (.i 2),.mv 70 69,.g3 71 0 70,.g3 72 3 70,.gt 73 (.slr 3 71 .none (.some 72)) 70,.g1 74 0 4 70,.g2 75 1 74 70,.gt 76 (.call 135 [73,75]) 70,.p2 77 70 76]) (.cnd 77 (.rf 2) .skip)))))) (.ic 9 10 3)))))) (.s (.r [.mv 78 0,.n1 79 78,.b1 80 .leq 79 (.i 32),.mv 2 80]) .ret)))
theorem ziP:zh Tryz.prog [] 101=some (ziO.ac,[(.t 2)],81):=by kernel_rfl
theorem zaK (W0:World) (t:List Mark):Fn Tryz.prog W0 101 [zd t] (.c (CB (lOk t))) []:=by
 refine fX mixed ziP fun hg=>?_
 have g1:=jM (hg _ (by simp:zd t∈_));refine dr ?_;refine lp (σ:=Nat) (fun k=>[(0,.c (zd t)),(3,I k)]) (fun _=>[]) (fun k=>k≤t.length∧∀ j (h:j < t.length),j < k→jc (t.take j) t[j]=true) (fun k=>t.length - k) 0 ⟨by simp,by simp⟩ ?_ ?_
 ·refine dr ?_;trivial
 rintro k ⟨hk,ha⟩;refine dr ?_;apply cP<;>intro h2;rotate_left
 ·refine dr ?_;refine congrArg CB ?_;rw [lOk,YK.2 fun j h=>ha j h (by omega),Bool.eq_iff_iff]; simp [Qm]; omega
 have hk':k < t.length:=by omega
 have no:jc (t.take k) t[k]=false→CB false=CB (lOk t):=fun h=>bF (by
  rw [lOk,Bool.and_eq_false_iff]; right;rw [Bool.eq_false_iff]; intro e;have:=YK.1 e k hk';rw [h] at this; cases this)
 refine dr ?_;apply cP<;>intro h3
 ·refine dr ?_;exact no (by simp [jc]; omega)
 refine dr ?_;apply cP<;>intro h4
 ·refine dr ?_;exact no (by simp [jc]; omega)
 have h34:(decide (1≤t[k].kind)&&decide (t[k].kind≤4))=true:=by simp; omega
 refine dr ?_;repeat (refine c0 (zaL W0 _) rfl ?_; first|refine dr ?_|exact dz)
 apply cP<;>intro h5
 ·refine dr ?_;exact no (by simp [jc,h5])
 refine dr ?_;repeat (refine c0 (zc5 W0 _) rfl ?_; first|refine dr ?_|exact dz)
 apply cP<;>intro h6
 ·refine dr ?_;exact no (by simp [jc,h6])
 refine dr ?_;apply cP<;>intro h70
 ·refine dr ?_;apply cP<;>intro h71
  ·refine dr ?_;exact no (by simp [jc,h70,h71])
  ·have h7:(!(t[k].kind != 1&&t[k].data != []))=true:=by simp [h71]
   clear h71;refine dr ?_;apply cP<;>intro h8
   ·have hl:(t.take k).getLast? = some t[k - 1]:=by
     rw [List.getLast?_take,if_neg (by omega),List.getElem?_eq_getElem (by omega)];rfl
    refine dr ?_;repeat (refine aM (j:=k - 1) (by omega) (by omega) ?_; first|refine dr ?_|exact dz)
    cases hlt:ltS t[k - 1].path t[k].path
    ·refine dr ?_;exact no (by simp [jc,ye,hl,hlt])
    ·have hlast:ye (t.take k) t[k].path=true:=by rw [ye,hl]; exact hlt
     refine dEr ?_;repeat ((first|refine sHiM k rfl (by omega) ?_|refine c0 (Yh W0 (t.take k) _) rfl ?_); first|refine dEr ?_|exact dz)
     apply cP<;>intro h9
     ·refine dr ?_;exact no (by simp [jc,h9])
     ·refine dr ?_;apply cP<;>intro h10
      ·refine dEr ?_;repeat ((first|refine sHiM k rfl (by omega) ?_|refine c0 (J9 W0 (t.take k) _) rfl ?_); first|refine dEr ?_|exact dz)
       apply cP<;>intro h11
       ·refine dr ?_;exact no (by simp [jc,h10,h11])
       ·refine dr ?_;refine ⟨k+1,⟨by omega,fun j h hj=>?_⟩,by omega,?_⟩
        ·by_cases e:j=k
         ·subst e; rw [jc,h34,h5,h6,h7,hlast,h9,h11]; simp
         ·exact ha j h (by omega)
        ·refine dr ?_;trivial
      ·refine dr ?_;refine ⟨k+1,⟨by omega,fun j h hj=>?_⟩,by omega,?_⟩
       ·by_cases e:j=k
        ·subst e; rw [jc,h34,h5,h6,h7,hlast,h9]; simp; omega
        ·exact ha j h (by omega)
       ·refine dr ?_;trivial
   ·have hlast:ye (t.take k) t[k].path=true:=by
     have hk0:k=0:=by omega
     subst hk0; rfl
    refine dEr ?_;repeat ((first|refine sHiM k rfl (by omega) ?_|refine c0 (Yh W0 (t.take k) _) rfl ?_); first|refine dEr ?_|exact dz)
    apply cP<;>intro h9
    ·refine dr ?_;exact no (by simp [jc,h9])
    ·refine dr ?_;apply cP<;>intro h10
     ·refine dEr ?_;repeat ((first|refine sHiM k rfl (by omega) ?_|refine c0 (J9 W0 (t.take k) _) rfl ?_); first|refine dEr ?_|exact dz)
      apply cP<;>intro h11
      ·refine dr ?_;exact no (by simp [jc,h10,h11])
      ·refine dr ?_;refine ⟨k+1,⟨by omega,fun j h hj=>?_⟩,by omega,?_⟩
       ·by_cases e:j=k
        ·subst e; rw [jc,h34,h5,h6,h7,hlast,h9,h11]; simp
        ·exact ha j h (by omega)
       ·refine dr ?_;trivial
     ·refine dr ?_;refine ⟨k+1,⟨by omega,fun j h hj=>?_⟩,by omega,?_⟩
      ·by_cases e:j=k
       ·subst e; rw [jc,h34,h5,h6,h7,hlast,h9]; simp; omega
       ·exact ha j h (by omega)
      ·refine dr ?_;trivial
 ·have h7:(!(t[k].kind != 1&&t[k].data != []))=true:=by simp [h70]
  refine dr ?_;apply cP<;>intro h8
  ·have hl:(t.take k).getLast? = some t[k - 1]:=by
    rw [List.getLast?_take,if_neg (by omega),List.getElem?_eq_getElem (by omega)];rfl
   refine dr ?_;repeat (refine aM (j:=k - 1) (by omega) (by omega) ?_; first|refine dr ?_|exact dz)
   cases hlt:ltS t[k - 1].path t[k].path
   ·refine dr ?_;exact no (by simp [jc,ye,hl,hlt])
   ·have hlast:ye (t.take k) t[k].path=true:=by rw [ye,hl]; exact hlt
    refine dEr ?_;repeat ((first|refine sHiM k rfl (by omega) ?_|refine c0 (Yh W0 (t.take k) _) rfl ?_); first|refine dEr ?_|exact dz)
    apply cP<;>intro h9
    ·refine dr ?_;exact no (by simp [jc,h9])
    ·refine dr ?_;apply cP<;>intro h10
     ·refine dEr ?_;repeat ((first|refine sHiM k rfl (by omega) ?_|refine c0 (J9 W0 (t.take k) _) rfl ?_); first|refine dEr ?_|exact dz)
      apply cP<;>intro h11
      ·refine dr ?_;exact no (by simp [jc,h10,h11])
      ·refine dr ?_;refine ⟨k+1,⟨by omega,fun j h hj=>?_⟩,by omega,?_⟩
       ·by_cases e:j=k
        ·subst e; rw [jc,h34,h5,h6,h7,hlast,h9,h11]; simp
        ·exact ha j h (by omega)
       ·refine dr ?_;trivial
     ·refine dr ?_;refine ⟨k+1,⟨by omega,fun j h hj=>?_⟩,by omega,?_⟩
      ·by_cases e:j=k
       ·subst e; rw [jc,h34,h5,h6,h7,hlast,h9]; simp; omega
       ·exact ha j h (by omega)
      ·refine dr ?_;trivial
  ·have hlast:ye (t.take k) t[k].path=true:=by
    have hk0:k=0:=by omega
    subst hk0; rfl
   refine dEr ?_;repeat ((first|refine sHiM k rfl (by omega) ?_|refine c0 (Yh W0 (t.take k) _) rfl ?_); first|refine dEr ?_|exact dz)
   apply cP<;>intro h9
   ·refine dr ?_;exact no (by simp [jc,h9])
   ·refine dr ?_;apply cP<;>intro h10
    ·refine dEr ?_;repeat ((first|refine sHiM k rfl (by omega) ?_|refine c0 (J9 W0 (t.take k) _) rfl ?_); first|refine dEr ?_|exact dz)
     apply cP<;>intro h11
     ·refine dr ?_;exact no (by simp [jc,h10,h11])
     ·refine dr ?_;refine ⟨k+1,⟨by omega,fun j h hj=>?_⟩,by omega,?_⟩
      ·by_cases e:j=k
       ·subst e; rw [jc,h34,h5,h6,h7,hlast,h9,h11]; simp
       ·exact ha j h (by omega)
      ·refine dr ?_;trivial
    ·refine dr ?_;refine ⟨k+1,⟨by omega,fun j h hj=>?_⟩,by omega,?_⟩
     ·by_cases e:j=k
      ·subst e; rw [jc,h34,h5,h6,h7,hlast,h9]; simp; omega
      ·exact ha j h (by omega)
     ·refine dr ?_;trivial

def zhW:XC:=(.s (.r [.x1 2 0,.x1 3 1,.m1 4 .n]) (.s (.s (.r [.f1 5 0 2,.l1 6 1 5,.f1 7 0 3,.l1 8 1 7,.c1 9 21 [6,8],.u1 10 9]) (.cnd 10 (.rf 4) .skip)) (.s (.s (.r [.f1 11 1 2,.l1 12 1 11,.f1 13 1 3,.l1 14 1 13,.c1 15 61 [12,14],.u1 16 15]) (.cnd 16 (.rf 4) .skip)) (.s (.s (.r [.f1 17 2 2,.l1 18 1 17,.f1 19 2 3,.l1 20 1 19,.c1 21 62 [18,20],.u1 22 21]) (.cnd 22 (.rf 4) .skip)) (.rt 4)))))
theorem zhX:zh Tryz.prog [] 22=some (zhW.ac,[(.t 4)],23):=by kernel_rfl
theorem zkE (W0:World) (a b:Over):Fn Tryz.prog W0 22 [zY a,zY b] (.c (CB (decide (a=b)))) []:=by
 refine fX mixed zhX fun hg=>?_
 refine dr ?_;repeat (refine c0 (zkX W0 a.base b.base) rfl ?_; first|refine dr ?_|exact dz)
 apply cP<;>intro h1
 ·conv=>whnf
  exact dF fun e=>by simp [e] at h1
 refine dr ?_;repeat (refine c0 (zkY W0 a.layers b.layers) rfl ?_; first|refine dr ?_|exact dz)
 apply cP<;>intro h2
 ·conv=>whnf
  exact dF fun e=>by simp [e] at h2
 refine dr ?_;repeat (refine c0 (zc9 W0 a.upper b.upper) rfl ?_; first|refine dr ?_|exact dz)
 apply cP<;>intro h3
 ·conv=>whnf
  exact dF fun e=>by simp [e] at h3
 refine dr ?_;exact dT (by cases a; cases b; simp_all)
def ziS:XC:=(.s (.r [.m1 4 .n]) (.s (.s (.r [.mv 6 0,.n1 7 6,.mv 8 1,.n1 9 8,.b1 10 .neq 7 9]) (.cnd 10 (.rf 4) .skip)) (.s (.s (.r [.m1 5 (.i 0)]) (.blk 0 (.loop (.s (.s (.r [.mv 11 5,.mv 12 0,.n1 13 12,.b1 14 .lss 11 13]) (.ce 14 0)) (.s (.blk 1 (.s (.d [.mv 17 0,.mv 18 5,.i1 19 3 17 18,.l2 20 3 19,.mv 21 1,.mv 22 5,.i1 23 3 21 22,.l2 24 3 23,.ex 25 (.beq true [.s,(.i .i64),.s] 20 24)]) (.cnd 25 (.rf 4) .skip))) (.ic 15 16 5)))))) (.rt 4))))
theorem ziT:zh Tryz.prog [] 49=some (ziS.ac,[(.t 4)],26):=by kernel_rfl
theorem zlc (W0:World) (a b:List Mark):Fn Tryz.prog W0 49 [zd a,zd b] (.c (CB (decide (a=b)))) []:=by
 refine fX mixed ziT fun hg=>?_
 have g1:=jM (hg _ (by simp:zd a∈_));refine dr ?_;apply cP<;>intro h1
 ·conv=>whnf
  exact dF (Qu (by omega))
 conv=>whnf
 refine lp (σ:=Nat) (fun k=>[(0,.c (zd a)),(1,.c (zd b)),(5,I k)]) (fun _=>[]) (fun k=>k≤a.length∧a.take k=b.take k) (fun k=>a.length - k) 0 ⟨by simp,by simp⟩ ?_ ?_
 ·refine dr ?_;trivial
 rintro k ⟨hk,he⟩;refine dr ?_;apply cP<;>intro h2
 ·refine dr ?_;rw [bqMark];apply cP<;>intro h3;rotate_left
  ·refine dr ?_;refine ⟨k+1,⟨by omega,QL (by omega) (by omega) he (by simpa using h3)⟩,by omega,?_⟩;refine dr ?_;trivial
  ·conv=>whnf
   exact dF (Qt (k:=k) (by omega) (by omega) (by simpa using h3))
 ·refine dr ?_;have:k=a.length:=by omega
  subst this;exact dT (J5 (by omega) he)
def zgD:XC:=(.s (.r [.m1 4 .n]) (.s (.s (.r [.mv 6 0,.n1 7 6,.mv 8 1,.n1 9 8,.b1 10 .neq 7 9]) (.cnd 10 (.rf 4) .skip)) (.s (.s (.r [.mv 11 0,.n1 12 11,.m1 13 (.i 0)]) (.blk 0 (.loop (.s (.r [.b1 14 .lss 13 12]) (.s (.ce 14 0) (.s (.blk 1 (.s (.r [.mv 15 13,.mv 5 15]) (.s (.d [.mv 16 0,.mv 17 5,.i1 18 3 16 17,.l2 19 3 18,.mv 20 1,.mv 21 5,.i1 22 3 20 21,.l2 23 3 22,.ex 24 (.beq true [.s,(.i .i64),.s] 19 23)]) (.cnd 24 (.rf 4) .skip)))) (.r [.b1 25 .add 13 (.i 1),.mv 13 25]))))))) (.rt 4))))
theorem zgE:zh Tryz.prog [] 84=some (zgD.ac,[(.t 4)],26):=by kernel_rfl
theorem zkp (W0:World) (a b:List Mark):Fn Tryz.prog W0 84 [zd a,zd b] (.c (CB (decide (a=b)))) []:=by
 refine fX mixed zgE fun hg=>?_
 have g1:=jM (hg _ (by simp:zd a∈_));refine dr ?_;apply cP<;>intro h1
 ·conv=>whnf
  exact dF (Qu (by omega))
 refine dr ?_;refine lp (σ:=Nat) (fun k=>[(0,.c (zd a)),(1,.c (zd b)),(12,I a.length),(13,I k)]) (fun _=>[]) (fun k=>k≤a.length∧a.take k=b.take k) (fun k=>a.length - k) 0 ⟨by simp,by simp⟩ ?_ ?_
 ·refine dr ?_;trivial
 rintro k ⟨hk,he⟩;refine dr ?_;apply cP<;>intro h2
 ·refine dr ?_;rw [bqMark];apply cP<;>intro h3;rotate_left
  ·refine dr ?_;refine ⟨k+1,⟨by omega,QL (by omega) (by omega) he (by simpa using h3)⟩,by omega,?_⟩;refine dr ?_;trivial
  ·conv=>whnf
   exact dF (Qt (k:=k) (by omega) (by omega) (by simpa using h3))
 ·refine dr ?_;have:k=a.length:=by omega
  subst this;exact dT (J5 (by omega) he)
def zgH:XC:=(.s (.r [.m1 4 .n]) (.s (.r [.mv 5 0,.mv 6 1,.c1 7 84 [5,6],.mv 4 7]) .ret))
theorem zgI:zh Tryz.prog [] 47=some (zgH.ac,[(.t 4)],8):=by kernel_rfl
theorem zkI (W0:World) (a b:List Mark):Fn Tryz.prog W0 47 [zd a,zd b] (.c (CB (decide (a=b)))) []:=by
 refine fX mixed zgI fun hg=>?_
 refine dr ?_;repeat (refine c0 (zkp W0 a b) rfl ?_; first|refine dr ?_|exact dz)
def zis:XC:=(.s (.r [.x1 1 0,.ex 2 (.alloc zE)]) (.s (.r [.ex 3 (.alloc zE)]) (.s (.r [.f1 4 0 1,.l1 5 1 4,.f1 6 0 3,.s1 1 6 5]) (.s (.r [.f1 7 1 1,.l1 8 1 7,.f1 9 1 3,.s1 1 9 8]) (.s (.r [.f1 10 2 1,.l1 11 1 10,.f1 12 2 3,.s1 1 12 11]) (.s (.r [.l2 13 3 3,.s1 3 2 13]) .ret))))))
theorem ziv:zh Tryz.prog [] 98=some (zis.ac,[(.cell 2 true 3)],14):=by kernel_rfl
theorem zdg (W0:World) (e:Ent):Fn Tryz.prog W0 98 [zv e] (.c (zv e)) []:=by
 refine fX mixed ziv fun hg=>?_
 refine dr ?_;rfl
def ziw:XC:=(.s (.r [.x1 1 0,.ex 2 (.alloc [sE,(I 0),sE])]) (.s (.r [.ex 3 (.alloc [sE,(I 0),sE])]) (.s (.r [.f1 4 0 1,.l1 5 1 4,.f1 6 0 3,.s1 1 6 5]) (.s (.r [.f1 7 1 1,.l1 8 1 7,.f1 9 1 3,.s1 1 9 8]) (.s (.r [.f1 10 2 1,.l1 11 1 10,.f1 12 2 3,.s1 1 12 11]) (.s (.r [.l2 13 3 3,.s1 3 2 13]) .ret))))))
theorem ziB:zh Tryz.prog [] 99=some (ziw.ac,[(.cell 2 true 3)],14):=by kernel_rfl
theorem zdh (W0:World) (e:Mark):Fn Tryz.prog W0 99 [zm e] (.c (zm e)) []:=by
 refine fX mixed ziB fun hg=>?_
 refine dr ?_;rfl
def zit:XC:=(.s (.r [.a2 2 3 77]) (.s (.r [.mv 5 0,.n1 6 5,.ex 7 (.mks 3 40 77 (.c (.agg [(.sc (.string ⟨#[]⟩)),(.sc (.bool false)),(.sc (.string ⟨#[]⟩))])) 6),.a1 3 7 3 77]) (.s (.s (.r [.m1 4 (.i 0)]) (.blk 0 (.loop (.s (.s (.r [.mv 8 4,.mv 9 0,.n1 10 9,.b1 11 .lss 8 10]) (.ce 11 0)) (.s (.blk 1 (.r [.mv 14 3,.mv 15 4,.mv 16 0,.mv 17 4,.i1 18 3 16 17,.l2 19 3 18,.c1 20 98 [19],.i1 21 3 14 15,.s1 3 21 20])) (.ic 12 13 4)))))) (.s (.r [.mv 22 3,.a1 2 22 3 77]) .ret))))
theorem ziu:zh Tryz.prog [] 57=some (zit.ac,[(.t 2)],23):=by kernel_rfl
theorem zlk (W0:World) (t:List Ent) (ht:t.length≤1048576):Fn Tryz.prog W0 57 [zj t] (.c (zj t)) []:=by
 refine fX mixed ziu fun hg=>?_
 refine dr ?_;refine lp (σ:=Nat) (fun k=>[(0,.c (zj t)),(3,.own 112 t.length),(4,I k)]) (fun k=>[(112,.row ((t.take k).map zv++List.replicate (t.length - k) (zv ⟨[],false,[]⟩)) 3 77)]) (fun k=>k≤t.length) (fun k=>t.length - k) 0 (by simp) ?_ ?_
 ·refine dr ?_;trivial
 rintro k hk;refine dr ?_;apply cP<;>intro h2
 ·refine dr ?_;repeat ((first|refine c0 (zdg W0 _) rfl ?_|refine oB (Zc hk) ?_|refine aE (j:=k) rfl (Qg (by omega)) ?_); first|refine dr ?_|exact dz)
  intro hg2;refine dr ?_;refine ⟨k+1,by omega,by omega,?_⟩;refine dr ?_;repeat (refine oB (by rw [← QD (f:=zv) (by omega:k < t.length)]<;>rfl) ?_; first|refine dr ?_|exact dz)
  trivial
 ·have:k=t.length:=by omega
  subst this;refine dr ?_;repeat (refine oB (Zc (Nat.le_refl _)) ?_; first|refine dr ?_|exact dz)
  simp [zj]
def zix:XC:=(.s (.r [.a2 2 3 34]) (.s (.r [.mv 5 0,.n1 6 5,.ex 7 (.mks 3 40 34 (.c (.agg [(.sc (.string ⟨#[]⟩)),(.sc (.int .i64 0)),(.sc (.string ⟨#[]⟩))])) 6),.a1 3 7 3 34]) (.s (.s (.r [.m1 4 (.i 0)]) (.blk 0 (.loop (.s (.s (.r [.mv 8 4,.mv 9 0,.n1 10 9,.b1 11 .lss 8 10]) (.ce 11 0)) (.s (.blk 1 (.r [.mv 14 3,.mv 15 4,.mv 16 0,.mv 17 4,.i1 18 3 16 17,.l2 19 3 18,.c1 20 99 [19],.i1 21 3 14 15,.s1 3 21 20])) (.ic 12 13 4)))))) (.s (.r [.mv 22 3,.a1 2 22 3 34]) .ret))))
theorem ziA:zh Tryz.prog [] 59=some (zix.ac,[(.t 2)],23):=by kernel_rfl
theorem zdi (W0:World) (t:List Mark) (ht:t.length≤1048576):Fn Tryz.prog W0 59 [zd t] (.c (zd t)) []:=by
 refine fX mixed ziA fun hg=>?_
 refine dr ?_;refine lp (σ:=Nat) (fun k=>[(0,.c (zd t)),(3,.own 112 t.length),(4,I k)]) (fun k=>[(112,.row ((t.take k).map zm++List.replicate (t.length - k) (zm ⟨[],0,[]⟩)) 3 34)]) (fun k=>k≤t.length) (fun k=>t.length - k) 0 (by simp) ?_ ?_
 ·refine dr ?_;trivial
 rintro k hk;refine dr ?_;apply cP<;>intro h2
 ·refine dr ?_;repeat ((first|refine c0 (zdh W0 _) rfl ?_|refine oB (Zc hk) ?_|refine aE (j:=k) rfl (Qg (by omega)) ?_); first|refine dr ?_|exact dz)
  intro hg2;refine dr ?_;refine ⟨k+1,by omega,by omega,?_⟩;refine dr ?_;repeat (refine oB (by rw [← QD (f:=zm) (by omega:k < t.length)]<;>rfl) ?_; first|refine dr ?_|exact dz)
  trivial
 ·have:k=t.length:=by omega
  subst this;refine dr ?_;repeat (refine oB (Zc (Nat.le_refl _)) ?_; first|refine dr ?_|exact dz)
  simp [zd]
def ziy:XC:=(.s (.r [.a2 2 1 25]) (.s (.r [.mv 5 0,.n1 6 5,.ex 7 (.mks 1 24 25 (.c (.row [])) 6),.a1 3 7 1 25]) (.s (.s (.r [.m1 4 (.i 0)]) (.blk 0 (.loop (.s (.s (.r [.mv 8 4,.mv 9 0,.n1 10 9,.b1 11 .lss 8 10]) (.ce 11 0)) (.s (.blk 1 (.r [.mv 14 3,.mv 15 4,.mv 16 0,.mv 17 4,.i1 18 1 16 17,.l1 19 1 18,.c1 20 59 [19],.i1 21 1 14 15,.s1 1 21 20])) (.ic 12 13 4)))))) (.s (.r [.mv 22 3,.a1 2 22 1 25]) .ret))))
theorem ziz:zh Tryz.prog [] 58=some (ziy.ac,[(.t 2)],23):=by kernel_rfl
theorem zlm (W0:World) (t:List (List Mark)) (ht:t.length≤1048576) (ht2:∀ l∈t,l.length≤1048576):Fn Tryz.prog W0 58 [zT t] (.c (zT t)) []:=by
 refine fX mixed ziz fun hg=>?_
 refine dr ?_;refine lp (σ:=Nat) (fun k=>[(0,.c (zT t)),(3,.own 112 t.length),(4,I k)]) (fun k=>[(112,.row ((t.take k).map zd++List.replicate (t.length - k) (zd [])) 1 25)]) (fun k=>k≤t.length) (fun k=>t.length - k) 0 (by simp) ?_ ?_
 ·refine dr ?_;trivial
 rintro k hk;refine dr ?_;apply cP<;>intro h2
 ·refine dr ?_;repeat ((first|refine c0 (zdi W0 _ (ht2 _ (by simp))) rfl ?_|refine oB (Zc hk) ?_|refine aE (j:=k) rfl (Qg (by omega)) ?_); first|refine dr ?_|exact dz)
  intro hg2;refine dr ?_;refine ⟨k+1,by omega,by omega,?_⟩;refine dr ?_;repeat (refine oB (by rw [← QD (f:=zd) (by omega:k < t.length)]<;>rfl) ?_; first|refine dr ?_|exact dz)
  trivial
 ·have:k=t.length:=by omega
  subst this;refine dr ?_;repeat (refine oB (Zc (Nat.le_refl _)) ?_; first|refine dr ?_|exact dz)
  simp [zT]
def ziC:XC:=(.s (.r [.x1 1 0,.ex 2 (.alloc [.nil,.nil,.nil])]) (.s (.r [.ex 3 (.alloc [.nil,.nil,.nil])]) (.s (.r [.f1 4 0 1,.l1 5 1 4,.c1 6 57 [5],.f1 7 0 3,.s1 1 7 6]) (.s (.r [.f1 8 1 1,.l1 9 1 8,.c1 10 58 [9],.f1 11 1 3,.s1 1 11 10]) (.s (.r [.f1 12 2 1,.l1 13 1 12,.c1 14 59 [13],.f1 15 2 3,.s1 1 15 14]) (.s (.r [.l2 16 3 3,.s1 3 2 16]) .ret))))))
theorem ziD:zh Tryz.prog [] 19=some (ziC.ac,[(.cell 2 true 3)],17):=by kernel_rfl
theorem zlo (W0:World) (o:Over) (h1:o.base.length≤1048576) (h2:o.layers.length≤1048576) (h3:∀ l∈o.layers,l.length≤1048576) (h4:o.upper.length≤1048576) :
  Fn Tryz.prog W0 19 [zY o] (.c (zY o)) []:=by
 refine fX mixed ziD fun hg=>?_
 refine dr ?_;repeat (refine c0 (zlk W0 o.base h1) rfl ?_; first|refine dr ?_|exact dz)
 intro hg1;refine dr ?_;repeat (refine c0 (zlm W0 o.layers h2 h3) rfl ?_; first|refine dr ?_|exact dz)
 intro hg2;refine dr ?_;repeat (refine c0 (zdi W0 o.upper h4) rfl ?_; first|refine dr ?_|exact dz)
 intro hg3;refine dr ?_;rfl
theorem zf3 {α:Type} {f:α→Int→Int} (hf:∀ a l,-1≤l → -1≤f a l∧f a l≤l) {p:α→Int→Prop} (hp:∀ a l,0≤l→0≤f a l→p a l) (hm:∀ a l l',p a l→l≤l'→p a l'):∀ {t:List α} {l:Int},0≤l→0≤szL f t l→∀ a∈t,p a l
 | [],l,_,_,a,ha=>by simp at ha
 | b::t,l,h0,h,a,ha=>by
  unfold szL at h;split at h
  ·omega
  ·have h1:=hf b l (by omega);rcases List.mem_cons.1 ha with rfl | ha
   ·exact hp _ l h0 (by omega)
   ·exact hm _ _ _ (zf3 hf hp hm (t:=t) (l:=f b l) (by omega) h a ha) h1.2
theorem QJ {α:Type} {f:α→Int→Int} {t:List α} {l:Int} (h0:0≤l) (h:0≤szR f t l):t.length≤l∧0≤szL f t (l - t.length):=by
 unfold szR at h;split at h<;>omega
structure OvFit (o:Over):Prop where
 h1:o.base.length≤1048576
 h2:o.layers.length≤1048576
 h3:∀ l∈o.layers,l.length≤1048576
 h4:o.upper.length≤1048576
theorem zoh {o:Over} {l:Int} (h : -1≤l) : -1≤qH o l∧qH o l≤l:=by
 have s1:=@qI _ _ (fun a l=>@QI a l) o.base l h;have s2:=@qI _ _ (fun a l=>@qI _ _ (fun a l=>@yJ a l) a l) o.layers _ s1.1;have s3:=@qI _ _ (fun a l=>@yJ a l) o.upper _ s2.1;unfold qH;split
 ·omega
 split
 ·omega
 split<;>omega
theorem zog {o:Over} {l:Int} (h0:0≤l) (hl:l≤1048576) (h:0≤qH o l):OvFit o:=by
 have s1:=@qI _ _ (fun a l=>@QI a l) o.base l (by omega);have s2:=@qI _ _ (fun a l=>@qI _ _ (fun a l=>@yJ a l) a l) o.layers _ s1.1;unfold qH at h;split at h
 ·omega
 rename_i g1;split at h
 ·omega
 rename_i g2;split at h
 ·omega
 have k1:=QJ h0 (by omega:0≤szR jN o.base l);have k2:=QJ (by omega) (by omega:0≤szR (szR jo) o.layers (szR jN o.base l));have k3:=QJ (by omega) h;refine ⟨by omega,by omega,fun x hx=>?_,by omega⟩;have:=zf3 (f:=szR jo) (p:=fun a l=>(a.length:Int)≤l) (fun a l=>@qI _ _ (fun a l=>@yJ a l) a l) (fun a l h0 h=>(QJ h0 h).1) (fun a l l' h h'=>Int.le_trans h h') (by omega) k2.2 x hx;omega

def zjG:XC:=(.s (.r [.a2 4 3 77]) (.s (.r [.ex 8 .bsl0,.a1 5 8 3 77]) (.s (.s (.r [.m1 6 (.i 0)]) (.blk 0 (.loop (.s (.s (.r [.mv 9 6,.mv 10 1,.n1 11 10,.b1 12 .lss 9 11]) (.ce 12 0)) (.s (.blk 1 (.s (.r [.mv 15 0,.mv 16 1,.mv 17 6,.i1 18 3 16 17,.f1 19 0 18,.l1 20 1 19,.c1 21 136 [15,20],.u1 22 21]) (.cnd 22 (.r [.mv 23 5,.mv 24 1,.mv 25 6,.i1 26 3 24 25,.l2 27 3 26,.ex 28 (.bsl 3 77 [27]),.ex 29 (.app false 3 40 77 23 28),.a1 5 29 3 77]) .skip))) (.ic 13 14 6)))))) (.s (.s (.r [.m1 7 (.i 0)]) (.blk 2 (.loop (.s (.s (.r [.mv 30 7,.mv 31 0,.n1 32 31,.b1 33 .lss 30 32]) (.ce 33 2)) (.s (.blk 3 (.s (.r [.mv 36 0,.mv 37 7,.i1 38 3 36 37,.f1 39 1 38,.l1 40 1 39]) (.blk 4 (.s (.r [.b1 42 .eql 40 (.i 1),.mv 41 42]) (.cnd 41 (.d [.mv 43 5,.mv 44 0,.mv 45 7,.i1 46 3 44 45,.f1 47 0 46,.l1 48 1 47,.mv 49 0,.mv 50 7,.i1 51 3 49 50,.f1 52 2 51,.l1 53 1 52,.ex 54 (.build zE [(0,(1,48)),(2,(1,53))]),.c1 55 130 [43,54],.a1 5 55 3 77]) (.s (.s (.r [.b1 57 .eql 40 (.i 2),.mv 56 57]) (.cnd 56 .skip (.r [.b1 58 .eql 40 (.i 4),.mv 56 58]))) (.cnd 56 (.r [.mv 59 5,.mv 60 0,.mv 61 7,.i1 62 3 60 61,.f1 63 0 62,.l1 64 1 63,.ex 65 (.build zE [(0,(1,64)),(1,(1,.y))]),.c1 66 130 [59,65],.a1 5 66 3 77]) .skip))))))) (.ic 34 35 7)))))) (.s (.r [.mv 67 5,.a1 4 67 3 77]) .ret)))))
theorem zjH:zh Tryz.prog [] 129=some (zjG.ac,[(.t 4)],68):=by kernel_rfl
theorem zkT (W0:World) (l:List Mark) (t:List Ent) (ht:t.length+l.length≤1000000):Fn Tryz.prog W0 129 [zd l,zj t] (.c (zj (jj l t))) []:=by
 refine fX mixed zjH fun hg=>?_
 refine dr ?_;refine lp (σ:=Nat) (fun k=>[(0,.c (zd l)),(1,.c (zj t)),(5,.own 80 ((t.take k).filter fun e=>!zw l e.path).length),(6,I k)]) (fun k=>[(80,.row (((t.take k).filter fun e=>!zw l e.path).map zv) 3 77)]) (fun k=>k≤t.length) (fun k=>t.length - k) 0 (by simp) ?_ ?_
 ·refine dr ?_;trivial
 intro k hk;have hfl:=zdp (q:=fun e:Ent=>!zw l e.path) (l:=t) (k:=k);refine dr ?_;apply cP<;>intro h1
 ·have hk':k < t.length:=by omega
  refine dEr ?_;repeat (refine c0 (zc7 W0 _ _) rfl ?_; first|refine dEr ?_|exact dz)
  apply cP<;>intro h2
  ·refine dr ?_;repeat ((first|refine oB (by simp; omega) ?_|refine oB (by simp) ?_); first|refine dr ?_|exact dz)
   refine ⟨k+1,by omega,by omega,?_⟩;refine dr ?_;repeat (refine oB (by rw [Jh hk' (by simp [h2])]; simp) ?_; first|refine dr ?_|exact dz)
   trivial
  ·refine dr ?_;refine ⟨k+1,by omega,by omega,?_⟩;refine dr ?_;repeat (refine oB (by rw [ZG hk' (by simp [h2])]) ?_; first|refine dr ?_|exact dz)
   trivial
 have hkl:k=t.length:=by omega
 subst hkl;rw [List.take_length] at hfl ⊢;have hR:jj l t=l.foldl onP (t.filter fun e=>!zw l e.path):=rfl;rw [hR];generalize (t.filter fun e=>!zw l e.path)=t0 at *;refine dr ?_;refine lz (σ:=Nat) 80 (fun k=>[(0,.c (zd l)),(1,.c (zj t)),(5,.c (zj ((l.take k).foldl onP t0))),(7,I k)]) (fun _=>[]) (fun k=>k≤l.length) (fun k=>l.length - k) 0 (by simp) ?_ ?_
 ·refine dr ?_;repeat (refine oB (by simp) ?_; first|refine dr ?_|exact dz)
  trivial
 clear h1;intro k hk;have hlk:=zdK (l.take k) t0;have hlk2:=List.length_take_le' k l;refine dr ?_;apply cP<;>intro h1
 ·have hk':k < l.length:=by omega
  refine dr ?_;apply cP<;>intro h2
  ·refine dr ?_;repeat (refine c0 (Yg W0 _ ⟨_,_,_⟩ (by omega)) rfl ?_; first|refine dr ?_|exact dz)
   intro hg1;refine dr ?_;refine ⟨k+1,by omega,by omega,?_⟩;refine dr ?_;repeat (refine oB (by rw [qL hk',onP,if_pos h2]) ?_; first|refine dr ?_|exact dz)
   trivial
  ·refine dr ?_;apply cP<;>intro h3
   ·refine dr ?_;apply cP<;>intro h30;rotate_left
    ·omega
    refine dr ?_;repeat (refine c0 (Yg W0 _ ⟨_,_,_⟩ (by omega)) rfl ?_; first|refine dr ?_|exact dz)
    intro hg1;refine dr ?_;refine ⟨k+1,by omega,by omega,?_⟩;refine dr ?_;repeat (refine oB (by rw [qL hk',onP,if_neg h2,if_pos (.inl h3)]) ?_; first|refine dr ?_|exact dz)
    trivial
   ·refine dr ?_;apply cP<;>intro h4
    ·refine dr ?_;repeat (refine c0 (Yg W0 _ ⟨_,_,_⟩ (by omega)) rfl ?_; first|refine dr ?_|exact dz)
     intro hg1;refine dr ?_;refine ⟨k+1,by omega,by omega,?_⟩;refine dr ?_;repeat (refine oB (by rw [qL hk',onP,if_neg h2,if_pos (.inr h4)]) ?_; first|refine dr ?_|exact dz)
     trivial
    ·refine dr ?_;refine ⟨k+1,by omega,by omega,?_⟩;refine dr ?_;repeat (refine oB (by rw [qL hk',onP,if_neg h2,if_neg (by omega)]) ?_; first|refine dr ?_|exact dz)
     trivial
 have hkl:k=l.length:=by omega
 refine dr ?_;rw [hkl,List.take_length]
def ziQ:XC:=(.s (.r [.a2 4 3 77,.m1 5 .n]) (.s (.s (.r [.mv 7 0,.c1 8 101 [7],.u1 9 8,.mv 10 9,.h3 11 1 10,.gf 12 (.call 88 [11]) 10,.gf 13 (.un .not 12) 10,.p1 14 10 13]) (.cnd 14 (.s (.r [.ex 15 .bsl0,.a1 4 15 3 77,.m1 5 .n]) .ret) .skip)) (.s (.r [.mv 16 0,.mv 17 1,.c1 18 129 [16,17],.a1 6 18 3 77]) (.s (.s (.r [.mv 19 6,.n1 20 19,.b1 21 .gtr 20 (.i 16)]) (.cnd 21 (.s (.r [.ex 22 .bsl0,.a1 4 22 3 77,.m1 5 .n]) .ret) .skip)) (.s (.r [.mv 23 6,.a1 4 23 3 77,.m1 5 .y]) .ret)))))
theorem ziR:zh Tryz.prog [] 89=some (ziQ.ac,[(.t 4),(.t 5)],24):=by kernel_rfl
theorem zdd (W0:World) (l:List Mark) (t:List Ent):Fn Tryz.prog W0 89 [zd l,zj t] (.c (Q8 (lOn l t))) []:=by
 refine fX mixed ziR fun hg=>?_
 refine dr ?_;repeat (refine c0 (zaK W0 _) rfl ?_; first|refine dr ?_|exact dz)
 apply cP<;>intro h1
 ·refine dEr ?_;rw [lOn,if_neg (by simp [h1])]; rfl
 refine dEr ?_;repeat (refine c0 (zde W0 _) rfl ?_; first|refine dEr ?_|exact dz)
 apply cP<;>intro h2
 ·refine dr ?_;rw [lOn,if_neg (by simp [h2])]; rfl
 have hl:l.length≤32:=by simp only [lOk,Bool.and_eq_true,decide_eq_true_eq] at h1; exact h1.1
 have ht:=(y2 h2).1;refine dr ?_;repeat (refine c0 (zkT W0 _ _ (by omega)) rfl ?_; first|refine dr ?_|exact dz)
 intro hg2;refine dr ?_;rw [lOn,if_pos (by simp [h1,h2])];apply cP<;>intro h3
 ·refine dr ?_;rw [if_neg (by omega)]; rfl
 ·refine dr ?_;rw [if_pos (by omega)]; rfl
def zjM:XC:=(.s (.r [.a2 4 3 34]) (.s (.r [.mv 6 1,.c1 7 93 [6],.mv 5 7]) (.s (.s (.r [.mv 8 5,.ex 9 (.bin .eql 8 (.s [47]))]) (.cnd 9 (.s (.r [.mv 10 0,.a1 4 10 3 34]) .ret) .skip)) (.s (.s (.r [.mv 11 0,.mv 12 5,.c1 13 133 [11,12],.b1 14 .eql 13 (.i 0)]) (.cnd 14 (.r [.mv 15 0,.mv 16 5,.ex 17 (.build [sE,(I 0),sE] [(0,(1,16)),(1,(1,(.i 2)))]),.c1 18 95 [15,17],.a1 0 18 3 34]) .skip)) (.s (.r [.mv 19 0,.mv 20 5,.c1 21 94 [19,20],.a1 4 21 3 34]) .ret)))))
theorem zjN:zh Tryz.prog [] 94=some (zjM.ac,[(.t 4)],22):=by kernel_rfl
theorem Qa (W0:World):∀ (n:Nat) (l:List Mark) (p:Str),pOk p=true→(names p).length≤n→l.length+n≤1000000→Fn Tryz.prog W0 94 [zd l,CS p] (.c (zd ((jl n p).foldl upsP l))) []
 | 0,l,p,hp,hn,_=>by have:=(qS hp).1.1; omega
 | n+1,l,p,hp,hn,hl=>by
  refine fX mixed zjN fun hg=>?_
  refine dr ?_;repeat (refine c0 (ZF W0 _) rfl ?_; first|refine dr ?_|exact dz)
  intro hg1;rw [jl];apply cP<;>intro h1
  ·refine dr ?_;rw [if_pos h1]; rfl
  rw [if_neg h1];obtain ⟨u1,_,u2⟩:=yh hp h1;have e:((pUp p::jl n (pUp p)).foldl upsP l)=(jl n (pUp p)).foldl upsP (upsP l (pUp p)):=rfl;rw [e,upsP];refine dr ?_;repeat (refine c0 (Yi W0 _ _) rfl ?_; first|refine dr ?_|exact dz)
  intro hg2;apply cP<;>intro h2
  ·rw [if_pos h2];have hpl:(lput l ⟨pUp p,2,[]⟩).length≤l.length+1:=yF;refine dr ?_;repeat (refine c0 (Je W0 _ ⟨pUp p,2,[]⟩ (by omega)) rfl ?_; first|refine dr ?_|exact dz)
   intro hg3;refine dr ?_;repeat (refine c0 (Qa W0 n _ _ u1 (by omega) (by omega)) rfl ?_; first|refine dr ?_|exact dz)
   intro hg4;exact dz
  ·rw [if_neg h2];refine dr ?_;repeat (refine c0 (Qa W0 n _ _ u1 (by omega) (by omega)) rfl ?_; first|refine dr ?_|exact dz)
   intro hg4;exact dz
def zju:XC:=(.s (.r [.a2 4 3 34]) (.s (.r [.ex 11 .bsl0,.a1 5 11 3 34]) (.s (.r [.mv 12 0,.mv 13 1,.c1 14 90 [12,13],.a1 6 14 1 9]) (.s (.s (.r [.m1 7 (.i 0)]) (.blk 0 (.loop (.s (.s (.r [.mv 15 7,.mv 16 6,.n1 17 16,.b1 18 .lss 15 17]) (.ce 18 0)) (.s (.blk 1 (.s (.r [.mv 22 1,.mv 23 6,.mv 24 7,.i1 25 1 23 24,.l1 26 1 25,.c1 27 91 [22,26],.mv 21 27,.e1 28 21 0,.e1 29 21 1,.ex 8 (.alloc zE),.s1 3 8 28,.mv 9 29]) (.s (.r [.mv 30 6,.mv 31 7,.i1 32 1 30 31,.l1 33 1 32,.ex 34 (.build [sE,(I 0),sE] [(0,(1,33)),(1,(1,(.i 3)))]),.ex 10 (.alloc [sE,(I 0),sE]),.s1 3 10 34]) (.s (.s (.r [.mv 35 9]) (.cnd 35 (.d [.mv 36 6,.mv 37 7,.i1 38 1 36 37,.l1 39 1 38,.f1 40 2 8,.l1 41 1 40,.ex 42 (.build [sE,(I 0),sE] [(0,(1,39)),(1,(1,(.i 1))),(2,(1,41))]),.s1 3 10 42]) .skip)) (.s (.s (.r [.mv 43 9,.mv 44 43,.g1 45 1 8 44,.g2 46 1 45 44,.p2 47 44 46]) (.cnd 47 (.r [.f1 48 1 10,.nu (.st 1 48 (.i 2))]) .skip)) (.s (.r [.mv 49 9,.mv 50 49,.h3 51 1 50,.h3 52 6 50,.h3 53 7 50,.gf 54 (.ia 1 52 53) 50,.h2 55 1 54 50,.gf 56 (.call 93 [55]) 50,.gf 57 (.call 92 [51,56]) 50,.p1 58 50 57]) (.cnd 58 (.d [.mv 59 5,.l2 60 3 10,.c1 61 95 [59,60],.mv 62 6,.mv 63 7,.i1 64 1 62 63,.l1 65 1 64,.c1 66 94 [61,65],.a1 5 66 3 34]) .skip))))))) (.ic 19 20 7)))))) (.s (.r [.mv 67 5,.a1 4 67 3 34]) .ret)))))
theorem zjv:zh Tryz.prog [] 53=some (zju.ac,[(.t 4)],68):=by kernel_rfl
theorem zkQ (W0:World) (a b:List Ent) (ha:tOk a=true) (hb:tOk b=true):Fn Tryz.prog W0 53 [zj a,zj b] (.c (zd (diff a b))) []:=by
 have la:=(y2 ha).1;have lb:=(y2 hb).1;have lt:=zgf (a:=a) (b:=b);have hok:∀ p∈z6 a b,pOk p=true:=fun p hp=>zgg ha hb hp
 refine fX mixed zjv fun hg=>?_
 refine dr ?_;repeat (refine c0 (zkO W0 _ _ (by omega)) rfl ?_; first|refine dr ?_|exact dz)
 intro hg1;rw [diff];generalize z6 a b=L at *;refine dr ?_;refine lz (σ:=Nat) 80 (fun k=>[(1,.c (zj b)),(6,.c (jV L)),(5,.c (zd ((L.take k).foldl (difP b) []))),(7,I k)]) (fun _=>[]) (fun k=>k≤L.length) (fun k=>L.length - k) 0 (by simp) ?_ ?_
 ·refine dr ?_;trivial
 intro k hk;have hlk:=zdJ (b:=b) (L.take k) [];have hlk2:=List.length_take_le' k L;simp only [List.length_nil] at hlk;refine dr ?_;apply cP<;>intro h1
 ·have hk':k < L.length:=by omega
  have hp:=hok _ (List.getElem_mem hk');have hc:=zaI W0 b L[k];have hn:=(qS hp).1.2;have hpl:∀ m,(lput ((L.take k).foldl (difP b) []) m).length≤((L.take k).foldl (difP b) []).length+1:=fun m=>yF
  cases hx:get b L[k] with
  | none =>
   rw [hx] at hc;refine dr ?_;repeat (refine c0 hc rfl ?_; first|refine dr ?_|exact dz)
   intro hg2;refine dr ?_;repeat ((first|refine c0 (ZF W0 _) rfl ?_|refine c0 (J8 W0 _ _) rfl ?_); first|refine dr ?_|exact dz)
   intro hg3;apply cP<;>intro h2
   ·refine dEr ?_;repeat ((first|refine c0 (Je W0 _ ⟨L[k],3,[]⟩ (by omega)) rfl ?_|refine c0 (Qa W0 3 _ _ hp hn (by have:=hpl ⟨L[k],3,[]⟩; omega)) rfl ?_); first|refine dEr ?_|exact dz)
    refine ⟨k+1,by omega,by omega,?_⟩;refine dr ?_;repeat (refine oB (by rw [qL hk',difP,zJ,hx]; simp only [if_pos h2]; rfl) ?_; first|refine dr ?_|exact dz)
    trivial
   ·refine dr ?_;refine ⟨k+1,by omega,by omega,?_⟩;refine dr ?_;repeat (refine oB (by rw [qL hk',difP,zJ,hx]; simp [h2]) ?_; first|refine dr ?_|exact dz)
    trivial
  | some e =>
   rw [hx] at hc;refine dr ?_;repeat (refine c0 hc rfl ?_; first|refine dr ?_|exact dz)
   intro hg2;refine dr ?_;apply cP<;>intro h2
   ·refine dEr ?_;repeat ((first|refine c0 (Je W0 _ ⟨L[k],2,e.data⟩ (by omega)) rfl ?_|refine c0 (Qa W0 3 _ _ hp hn (by have:=hpl ⟨L[k],2,e.data⟩; omega)) rfl ?_); first|refine dEr ?_|exact dz)
    refine ⟨k+1,by omega,by omega,?_⟩;refine dr ?_;repeat (refine oB (by rw [qL hk',difP,zJ,hx]; simp only [if_pos h2]; rfl) ?_; first|refine dr ?_|exact dz)
    trivial
   ·refine dEr ?_;repeat ((first|refine c0 (Je W0 _ ⟨L[k],1,e.data⟩ (by omega)) rfl ?_|refine c0 (Qa W0 3 _ _ hp hn (by have:=hpl ⟨L[k],1,e.data⟩; omega)) rfl ?_); first|refine dEr ?_|exact dz)
    refine ⟨k+1,by omega,by omega,?_⟩;refine dr ?_;repeat (refine oB (by rw [qL hk',difP,zJ,hx]; simp [h2]; rfl) ?_; first|refine dr ?_|exact dz)
    trivial
 have hkl:k=L.length:=by omega
 refine dr ?_;rw [hkl,List.take_length]

def zjQ:XC:=(.s (.r [.x1 1 0,.a2 2 3 77,.m1 3 .n]) (.s (.r [.f1 7 0 1,.l1 8 1 7,.a1 4 8 3 77]) (.s (.s (.r [.mv 9 4,.c1 10 88 [9],.u1 11 10,.mv 12 11,.h1 13 1 1 12,.h2 14 1 13 12,.gf 15 (.len false 14) 12,.gf 16 (.bin .gtr 15 (.i 4)) 12,.p1 17 12 16]) (.cnd 17 (.s (.r [.ex 18 .bsl0,.a1 2 18 3 77,.m1 3 .n]) .ret) .skip)) (.s (.s (.r [.m1 5 (.i 0)]) (.blk 0 (.loop (.s (.s (.r [.mv 19 5,.f1 20 1 1,.l1 21 1 20,.n1 22 21,.b1 23 .lss 19 22]) (.ce 23 0)) (.s (.blk 1 (.s (.r [.m1 6 .n]) (.s (.r [.f1 27 1 1,.l1 28 1 27,.mv 29 5,.i1 30 1 28 29,.l1 31 1 30,.mv 32 4,.c1 33 89 [31,32],.mv 26 33,.e1 34 26 0,.e1 35 26 1,.a1 4 34 3 77,.mv 6 35]) (.s (.r [.mv 36 6,.u1 37 36]) (.cnd 37 (.s (.r [.ex 38 .bsl0,.a1 2 38 3 77,.m1 3 .n]) .ret) .skip))))) (.ic 24 25 5)))))) (.s (.r [.ex 39 .bsl0,.mv 40 4,.ex 41 (.app true 3 40 77 39 40),.a1 2 41 3 77,.m1 3 .y]) .ret)))))
theorem zjR:zh Tryz.prog [] 51=some (zjQ.ac,[(.t 2),(.t 3)],42):=by kernel_rfl
theorem zc8 (W0:World) (o:Over):Fn Tryz.prog W0 51 [zY o] (.c (Q8 (jk o))) []:=by
 refine fX mixed zjR fun hg=>?_
 refine dEr ?_;repeat (refine c0 (zde W0 _) rfl ?_; first|refine dEr ?_|exact dz)
 apply cP<;>intro h1
 ·refine dr ?_;rw [jk,if_neg (by simp [h1])]; rfl
 refine dr ?_;apply cP<;>intro h2
 ·refine dr ?_;rw [jk,if_neg (by omega)]; rfl
 rw [jk,if_pos ⟨h1,by omega⟩];refine dr ?_;refine lp2 (fun (k:Nat) (t:List Ent)=>[(1,.ptr 16 0),(4,.c (zj t)),(5,I k)]) (fun _ _=>[(16,.box [.c (zj o.base),.c (zT o.layers),.c (zd o.upper)])]) (fun k t=>k≤o.layers.length∧lowerA (o.layers.take k) o.base=some t∧tOk t=true) (fun k _=>o.layers.length - k) 0 o.base ⟨by simp,rfl,h1⟩ ?_ ?_
 ·refine dr ?_;trivial
 rintro k t ⟨hk,ha,ht⟩;refine dr ?_;apply cP<;>intro h3
 ·have hk':k < o.layers.length:=by omega
  have hn:lowerA (o.layers.take (k+1)) o.base=lOn o.layers[k] t:=by
   rw [List.take_succ_eq_append_getElem hk',Jw,ha];simp only [lowerA];cases lOn o.layers[k] t<;>rfl
  have hc:=zdd W0 o.layers[k] t;cases hx:lOn o.layers[k] t with
  | none =>
   rw [hx] at hc;refine dr ?_;repeat (refine c0 hc rfl ?_; first|refine dr ?_|exact dz)
   intro hg1;refine dr ?_;have:lowerA o.layers o.base=none:=by
    have e:o.layers=o.layers.take (k+1)++o.layers.drop (k+1):=by rw [List.take_append_drop]
    rw [e,Jw,hn,hx]
   rw [this]; rfl
  | some t' =>
   rw [hx] at hc;refine dr ?_;repeat (refine c0 hc rfl ?_; first|refine dr ?_|exact dz)
   intro hg1;refine dr ?_;refine ⟨k+1,t',⟨by omega,by rw [hn,hx],Ju hx⟩,by omega,?_⟩;refine dr ?_;trivial
 have hkl:k=o.layers.length:=by omega
 rw [hkl,List.take_length] at ha;have hl:=(y2 ht).1;refine dr ?_;repeat (refine oB (by simp; omega) ?_; first|refine dr ?_|exact dz)
 rw [ha]; rfl
def zjS:XC:=(.s (.r [.x1 1 0,.a2 2 3 77,.m1 3 .n]) (.s (.r [.l2 7 3 1,.c1 8 51 [7],.mv 6 8,.e1 9 6 0,.e1 10 6 1,.a1 4 9 3 77,.mv 5 10]) (.s (.s (.r [.mv 11 5,.u1 12 11]) (.cnd 12 (.s (.r [.ex 13 .bsl0,.a1 2 13 3 77,.m1 3 .n]) .ret) .skip)) (.s (.r [.f1 14 2 1,.l1 15 1 14,.mv 16 4,.c1 17 89 [15,16],.e1 18 17 0,.e1 19 17 1,.a1 2 18 3 77,.mv 3 19]) .ret))))
theorem zjT:zh Tryz.prog [] 52=some (zjS.ac,[(.t 2),(.t 3)],20):=by kernel_rfl
theorem zkW (W0:World) (o:Over):Fn Tryz.prog W0 52 [zY o] (.c (Q8 (jO o))) []:=by
 refine fX mixed zjT fun hg=>?_
 have hc:=zc8 W0 o;cases hx:jk o with
 | none =>
  rw [hx] at hc;refine dr ?_;repeat (refine c0 hc rfl ?_; first|refine dr ?_|exact dz)
  intro hg1;refine dr ?_;rw [jO,hx]; rfl
 | some t =>
  rw [hx] at hc;have hv:jO o=lOn o.upper t:=by rw [jO,hx]
  have hc2:=zdd W0 o.upper t;rw [hv];cases hy:lOn o.upper t with
  | none =>
   rw [hy] at hc2;refine dr ?_;repeat (refine c0 hc rfl ?_; first|refine dr ?_|exact dz)
   intro hg1;refine dr ?_;repeat (refine c0 hc2 rfl ?_; first|refine dr ?_|exact dz)
   intro hg2;refine dr ?_;rfl
  | some x =>
   rw [hy] at hc2;refine dr ?_;repeat (refine c0 hc rfl ?_; first|refine dr ?_|exact dz)
   intro hg1;refine dr ?_;repeat (refine c0 hc2 rfl ?_; first|refine dr ?_|exact dz)
   intro hg2;refine dr ?_;rfl
def ziW:XC:=(.s (.r [.x1 1 0,.m1 2 .n]) (.s (.r [.l2 8 3 1,.c1 9 51 [8],.mv 7 9,.e1 10 7 0,.e1 11 7 1,.a1 3 10 3 77,.mv 4 11]) (.s (.r [.l2 13 3 1,.c1 14 52 [13],.mv 12 14,.e1 15 12 0,.e1 16 12 1,.a1 5 15 3 77,.mv 6 16]) (.s (.d [.mv 17 4,.mv 18 17,.g3 19 6 18,.p2 20 18 19,.mv 21 20,.g1 22 2 1 21,.g2 23 1 22 21,.g3 24 3 21,.g3 25 5 21,.gt 26 (.call 53 [24,25]) 21,.gt 27 (.call 49 [23,26]) 21,.p2 28 21 27,.mv 2 28]) .ret))))
theorem ziX:zh Tryz.prog [] 16=some (ziW.ac,[(.t 2)],29):=by kernel_rfl
theorem zle (W0:World) (o:Over):Fn Tryz.prog W0 16 [zY o] (.c (CB (oOk o))) []:=by
 refine fX mixed ziX fun hg=>?_
 have hc:=zc8 W0 o;have hc2:=zkW W0 o;cases hx:jk o with
 | none =>
  have hv:jO o=none:=by rw [jO,hx]
  rw [hx] at hc;rw [hv] at hc2;refine dr ?_;repeat (refine c0 hc rfl ?_; first|refine dr ?_|exact dz)
  intro hg1;refine dr ?_;repeat (refine c0 hc2 rfl ?_; first|refine dr ?_|exact dz)
  intro hg2;refine dr ?_;rw [oOk,hx]
 | some t =>
  rw [hx] at hc;cases hy:jO o with
  | none =>
   rw [hy] at hc2;refine dr ?_;repeat (refine c0 hc rfl ?_; first|refine dr ?_|exact dz)
   intro hg1;refine dr ?_;repeat (refine c0 hc2 rfl ?_; first|refine dr ?_|exact dz)
   intro hg2;refine dr ?_;rw [oOk,hx,hy]
  | some x =>
   rw [hy] at hc2;refine dr ?_;repeat (refine c0 hc rfl ?_; first|refine dr ?_|exact dz)
   intro hg1;refine dr ?_;repeat (refine c0 hc2 rfl ?_; first|refine dr ?_|exact dz)
   intro hg2;refine dr ?_;repeat ((first|refine c0 (zkQ W0 t x (YA hx) (zb4 hy)) rfl ?_|refine c0 (zlc W0 _ _) rfl ?_); first|refine dr ?_|exact dz)
   intro hg3;refine dr ?_;rw [oOk,hx,hy]

def zjs:XC:=(.s (.r [.m1 4 (.i 0)]) (.s (.s (.r [.mv 5 0,.b1 6 .eql 5 (.i 2),.mv 7 6,.g3 8 1 7,.gt 9 (.bin .neq 8 (.i 0)) 7,.p2 10 7 9,.mv 11 10,.g3 12 1 11,.gt 13 (.bin .neq 12 (.i 2)) 11,.p2 14 11 13]) (.cnd 14 (.s (.r [.m1 4 (.i 4)]) .ret) .skip)) (.s (.r [.mv 15 0,.mv 4 15]) .ret)))
theorem zjt:zh Tryz.prog [] 137=some (zjs.ac,[(.t 4)],16):=by kernel_rfl
theorem zkP (W0:World) (a b:Int):Fn Tryz.prog W0 137 [CI a,CI b] (.c (CI (jG a b))) []:=by
 refine fX mixed zjt fun hg=>?_
 refine dr ?_;apply cP<;>intro h1
 ·refine dr ?_;apply cP<;>intro h2
  ·refine dr ?_;apply cP<;>intro h3
   ·refine dr ?_;exact congrArg CI (by rw [jG,if_pos ⟨h1,h2,h3⟩])
   ·refine dr ?_;exact congrArg CI (by rw [jG,if_neg (fun h=>h.2.2 h3)])
  ·refine dr ?_;exact congrArg CI (by rw [jG,if_neg (fun h=>h.2.1 h2)])
 ·refine dr ?_;exact congrArg CI (by rw [jG,if_neg (fun h=>h1 h.1)])
def zjK:XC:=(.s (.r [.a2 2 3 34]) (.s (.r [.ex 6 .bsl0,.a1 3 6 3 34]) (.s (.s (.r [.m1 4 (.i 0)]) (.blk 0 (.loop (.s (.s (.r [.mv 7 4,.mv 8 0,.n1 9 8,.b1 10 .lss 7 9]) (.ce 10 0)) (.s (.blk 1 (.s (.r [.mv 13 0,.mv 14 4,.i1 15 3 13 14,.l2 16 3 15,.ex 5 (.alloc [sE,(I 0),sE]),.s1 3 5 16]) (.s (.s (.r [.mv 17 3,.f1 18 0 5,.l1 19 1 18,.c1 20 135 [17,19]]) (.cnd 20 (.s (.s (.r [.f1 21 1 5,.l1 22 1 21,.b1 23 .eql 22 (.i 3)]) (.cnd 23 (.exit 1) .skip)) (.s (.r [.f1 24 1 5,.l1 25 1 24,.b1 26 .eql 25 (.i 4)]) (.cnd 26 (.r [.f1 27 1 5,.nu (.st 1 27 (.i 2))]) .skip))) .skip)) (.r [.mv 28 3,.l2 29 3 5,.ex 30 (.bsl 3 34 [29]),.ex 31 (.app false 3 40 34 28 30),.a1 3 31 3 34])))) (.ic 11 12 4)))))) (.s (.r [.mv 32 3,.a1 2 32 3 34]) .ret))))
theorem zjL:zh Tryz.prog [] 102=some (zjK.ac,[(.t 2)],33):=by kernel_rfl
theorem zoj {out:List Mark} {m:Mark}:(j0 out m).length≤out.length+1:=by
 unfold j0; split
 ·split<;>simp
 ·simp
theorem zkU (W0:World) (l:List Mark) (hl:l.length≤1000000):Fn Tryz.prog W0 102 [zd l] (.c (zd (l.foldl j0 []))) []:=by
 refine fX mixed zjL fun hg=>?_
 refine dr ?_;refine lp2 (fun (k:Nat) (out:List Mark)=>[(0,.c (zd l)),(3,.own 48 out.length),(4,I k)]) (fun _ out=>[(48,.row (out.map zm) 3 34)]) (fun k out=>k≤l.length∧out=(l.take k).foldl j0 []∧out.length≤k) (fun k _=>l.length - k) 0 [] ⟨by simp,rfl,by simp⟩ ?_ ?_
 ·refine dr ?_;trivial
 rintro k out ⟨hk,ho,hle⟩;refine dr ?_;apply cP<;>intro h1
 ·have hk':k < l.length:=by omega
  have hn:(l.take (k+1)).foldl j0 []=j0 out l[k]:=by rw [qL hk',← ho]
  have hn2:(j0 out l[k]).length≤k+1:=by have:=zoj (out:=out) (m:=l[k]); omega
  refine dr ?_;repeat (refine c0 (J9 W0 out _) rfl ?_; first|refine dr ?_|exact dz)
  apply cP<;>intro h2
  ·refine dr ?_;apply cP<;>intro h3
   ·refine dr ?_;have e:j0 out l[k]=out:=by rw [j0,if_pos h2,if_pos h3]
    refine ⟨k+1,out,⟨by omega,by rw [hn,e],by omega⟩,by omega,?_⟩;refine dr ?_;trivial
   ·refine dr ?_;apply cP<;>intro h4
    ·refine dr ?_;repeat ((first|refine oB (by simp; omega) ?_|refine oB (by simp) ?_); first|refine dr ?_|exact dz)
     have e:j0 out l[k]=out++[⟨l[k].path,2,l[k].data⟩]:=by rw [j0,if_pos h2,if_neg h3,if_pos h4]
     refine ⟨k+1,out++[⟨l[k].path,2,l[k].data⟩],⟨by omega,by rw [hn,e],by simp; omega⟩,by omega,?_⟩;refine dr ?_;repeat (refine oB (by simp<;>rfl) ?_; first|refine dr ?_|exact dz)
     trivial
    ·refine dr ?_;repeat ((first|refine oB (by simp; omega) ?_|refine oB (by simp) ?_); first|refine dr ?_|exact dz)
     have e:j0 out l[k]=out++[l[k]]:=by rw [j0,if_pos h2,if_neg h3,if_neg h4]
     refine ⟨k+1,out++[l[k]],⟨by omega,by rw [hn,e],by simp; omega⟩,by omega,?_⟩;refine dr ?_;repeat (refine oB (by simp<;>rfl) ?_; first|refine dr ?_|exact dz)
     trivial
  ·refine dr ?_;repeat ((first|refine oB (by simp; omega) ?_|refine oB (by simp) ?_); first|refine dr ?_|exact dz)
   have e:j0 out l[k]=out++[l[k]]:=by rw [j0,if_neg (by simp [h2])]
   refine ⟨k+1,out++[l[k]],⟨by omega,by rw [hn,e],by simp; omega⟩,by omega,?_⟩;refine dr ?_;repeat (refine oB (by simp<;>rfl) ?_; first|refine dr ?_|exact dz)
   trivial
 have hkl:k=l.length:=by omega
 rw [hkl,List.take_length] at ho;refine dr ?_;repeat (refine oB (by simp) ?_; first|refine dr ?_|exact dz)
 rw [ho]; rfl
def zjC:XC:=(.s (.r [.a2 4 3 34]) (.s (.r [.ex 9 .bsl0,.a1 5 9 3 34]) (.s (.s (.r [.m1 6 (.i 0)]) (.blk 0 (.loop (.s (.s (.r [.mv 10 6,.mv 11 1,.n1 12 11,.b1 13 .lss 10 12]) (.ce 13 0)) (.s (.blk 1 (.s (.r [.mv 16 0,.mv 17 1,.mv 18 6,.i1 19 3 17 18,.f1 20 0 19,.l1 21 1 20,.c1 22 136 [16,21],.u1 23 22,.mv 24 23,.g3 25 0 24,.g3 26 1 24,.g3 27 6 24,.gt 28 (.ia 3 26 27) 24,.g1 29 0 28 24,.g2 30 1 29 24,.gt 31 (.call 133 [25,30]) 24,.gt 32 (.bin .eql 31 (.i 0)) 24,.p2 33 24 32]) (.cnd 33 (.r [.mv 34 5,.mv 35 1,.mv 36 6,.i1 37 3 35 36,.l2 38 3 37,.c1 39 95 [34,38],.a1 5 39 3 34]) .skip))) (.ic 14 15 6)))))) (.s (.s (.r [.m1 7 (.i 0)]) (.blk 2 (.loop (.s (.s (.r [.mv 40 7,.mv 41 0,.n1 42 41,.b1 43 .lss 40 42]) (.ce 43 2)) (.s (.blk 3 (.s (.r [.mv 46 0,.mv 47 7,.i1 48 3 46 47,.l2 49 3 48,.ex 8 (.alloc [sE,(I 0),sE]),.s1 3 8 49]) (.s (.d [.f1 50 1 8,.l1 51 1 50,.mv 52 1,.f1 53 0 8,.l1 54 1 53,.c1 55 133 [52,54],.c1 56 137 [51,55],.f1 57 1 8,.s1 1 57 56]) (.r [.mv 58 5,.l2 59 3 8,.c1 60 95 [58,59],.a1 5 60 3 34])))) (.ic 44 45 7)))))) (.s (.r [.mv 61 5,.a1 4 61 3 34]) .ret)))))
theorem zjD:zh Tryz.prog [] 103=some (zjC.ac,[(.t 4)],62):=by kernel_rfl
theorem zkS (W0:World) (a b:List Mark) (hl:a.length+b.length≤1000000):Fn Tryz.prog W0 103 [zd a,zd b] (.c (zd (jz a b))) []:=by
 refine fX mixed zjD fun hg=>?_
 refine dr ?_;refine lz2 80 (fun (k:Nat) (out:List Mark)=>[(0,.c (zd a)),(1,.c (zd b)),(5,.c (zd out)),(6,I k)]) (fun _ _=>[]) (fun k out=>k≤b.length∧out=((b.take k).filter (jh a)).foldl lput []∧out.length≤k) (fun k _=>b.length - k) 0 [] ⟨by simp,rfl,by simp⟩ ?_ ?_
 ·refine dr ?_;trivial
 rintro k out ⟨hk,ho,hle⟩;refine dr ?_;apply cP<;>intro h1
 ·have hk':k < b.length:=by omega
  have no:jh a b[k]=false→out=((b.take (k+1)).filter (jh a)).foldl lput []:=fun h=>by rw [ZG hk' h,ho]
  have yes:jh a b[k]=true→lput out b[k]=((b.take (k+1)).filter (jh a)).foldl lput []:=fun h=>by rw [Jh hk' h,List.foldl_append,← ho]; rfl
  refine dEr ?_;repeat (refine c0 (zc7 W0 _ _) rfl ?_; first|refine dEr ?_|exact dz)
  apply cP<;>intro h2
  ·refine dEr ?_;repeat (refine c0 (Yi W0 _ _) rfl ?_; first|refine dEr ?_|exact dz)
   apply cP<;>intro h3
   ·have hpl:(lput out b[k]).length≤out.length+1:=yF;refine dEr ?_;repeat (refine c0 (Je W0 _ b[k] (by omega)) rfl ?_; first|refine dEr ?_|exact dz)
    refine ⟨k+1,lput out b[k],⟨by omega,yes (by simp [jh,h2,h3]),by omega⟩,by omega,?_⟩;refine dr ?_;trivial
   ·refine dr ?_;refine ⟨k+1,out,⟨by omega,no (by simp [jh,h3]),by omega⟩,by omega,?_⟩;refine dr ?_;trivial
  ·refine dr ?_;refine ⟨k+1,out,⟨by omega,no (by simp [jh,h2]),by omega⟩,by omega,?_⟩;refine dr ?_;trivial
 have hkl:k=b.length:=by omega
 rw [hkl,List.take_length] at ho;have hj:jz a b=(a.map (zU b)).foldl lput out:=by rw [jz,ho]
 rw [hj];have hob:out.length≤b.length:=by omega
 clear ho hk hle hj h1 hkl;generalize hoo:out=o0 at *;refine dr ?_;refine lp2 (fun (k:Nat) (out:List Mark)=>[(0,.c (zd a)),(1,.c (zd b)),(5,.c (zd out)),(7,I k)]) (fun _ _=>[]) (fun k out=>k≤a.length∧out=((a.take k).map (zU b)).foldl lput o0∧out.length≤o0.length+k) (fun k _=>a.length - k) 0 o0 ⟨by simp,rfl,by simp⟩ ?_ ?_
 ·refine dr ?_;trivial
 clear hoo;rintro k out ⟨hk,ho,hle⟩;refine dr ?_;apply cP<;>intro h1
 ·have hk':k < a.length:=by omega
  have hn:((a.take (k+1)).map (zU b)).foldl lput o0=lput out (zU b a[k]):=by
   rw [List.take_succ_eq_append_getElem hk',List.map_append,List.foldl_append,← ho]; rfl
  have hpl:(lput out (zU b a[k])).length≤out.length+1:=yF;refine dEr ?_;repeat ((first|refine c0 (Yi W0 _ _) rfl ?_|refine c0 (zkP W0 _ _) rfl ?_|refine c0 (Je W0 _ (zU b a[k]) (by omega)) rfl ?_); first|refine dEr ?_|exact dz)
  refine ⟨k+1,_,⟨by omega,hn.symm,by omega⟩,by omega,?_⟩;refine dr ?_;trivial
 have hkl:k=a.length:=by omega
 rw [hkl,List.take_length] at ho;refine dr ?_;rw [ho]
def ziM:XC:=(.s (.r [.a2 4 3 34,.m1 5 .n]) (.s (.s (.r [.mv 7 0,.c1 8 101 [7],.u1 9 8,.mv 10 9,.h3 11 1 10,.gf 12 (.call 101 [11]) 10,.gf 13 (.un .not 12) 10,.p1 14 10 13]) (.cnd 14 (.s (.r [.ex 15 .bsl0,.a1 4 15 3 34,.m1 5 .n]) .ret) .skip)) (.s (.r [.mv 16 0,.mv 17 1,.c1 18 103 [16,17],.c1 19 102 [18],.a1 6 19 3 34]) (.s (.s (.r [.mv 20 6,.n1 21 20,.b1 22 .gtr 21 (.i 32)]) (.cnd 22 (.s (.r [.ex 23 .bsl0,.a1 4 23 3 34,.m1 5 .n]) .ret) .skip)) (.s (.r [.mv 24 6,.a1 4 24 3 34,.m1 5 .y]) .ret)))))
theorem ziN:zh Tryz.prog [] 71=some (ziM.ac,[(.t 4),(.t 5)],25):=by kernel_rfl
theorem zlb (W0:World) (a b:List Mark):Fn Tryz.prog W0 71 [zd a,zd b] (.c (zcL (jp a b))) []:=by
 refine fX mixed ziN fun hg=>?_
 refine dEr ?_;repeat (refine c0 (zaK W0 _) rfl ?_; first|refine dEr ?_|exact dz)
 apply cP<;>intro h1
 ·refine dEr ?_;rw [jp,if_neg (by simp [h1])]; rfl
 refine dEr ?_;repeat (refine c0 (zaK W0 _) rfl ?_; first|refine dEr ?_|exact dz)
 apply cP<;>intro h2
 ·refine dr ?_;rw [jp,if_neg (by simp [h2])]; rfl
 have ga:=LG.of h1;have gb:=LG.of h2;have hla:=(zV.1 h1).1;have hlb:=(zV.1 h2).1;have hjl:(jz a b).length≤1000000:=by
  have e1:(jz a b).length≤((b.filter (jh a)).foldl lput []).length+(a.map (zU b)).length:=Jj (key:=Mark.path) (a.map (zU b)) ((b.filter (jh a)).foldl lput []);have e2:((b.filter (jh a)).foldl lput []).length≤0+(b.filter (jh a)).length:=Jj (key:=Mark.path) (b.filter (jh a)) [];have e3:=List.length_filter_le (jh a) b;rw [List.length_map] at e1;omega
 have hc:=zkU W0 (jz a b) hjl;rw [zok (ZI ga gb)] at hc;have e:jp a b=if (jS a b).length≤32 then some (jS a b) else none:=by rw [jp,if_pos (by simp [h1,h2])]
 rw [e];unfold jS at *;refine dr ?_;repeat ((first|refine c0 (zkS W0 _ _ (by omega)) rfl ?_|refine c0 hc rfl ?_); first|refine dr ?_|exact dz)
 intro hg3 hg4;refine dr ?_;apply cP<;>intro h3
 ·refine dr ?_;rw [if_neg (by omega)]; rfl
 ·refine dr ?_;rw [if_pos (by omega)]; rfl
end Go.Proofs.YtmkmldepkponaaaGreatDoor
