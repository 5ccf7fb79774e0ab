/- The texts Ka2, Ka3, joined; no condition. -/
import Derived.Test.YtmkmldepkponaaaGreatDoorWfA

namespace Go.Proofs.YtmkmldepkponaaaGreatDoor
set_option linter.unusedSimpArgs false
set_option linter.unusedVariables false
open Go Go.RowKit
section
variable {W0 w0:World} {κ0:Kap} {m0:Mem} {κ κ':Kap} {m m' mp:Mem} {w w':World}
theorem zb.down (hsub:∀ id b,lk mp id=some b→lk m id=some b) (hf:κ'.f=κ.f) (hS:∀ b,zf κ' mp b→zf κ m b) {x:PV} {v:Value} (hin:in1 mp x=true) (h:zb κ m w x v):zb κ' mp w x v:=by
 have hc:∀ {y:CV} {u:Value},RepC w (zf κ m) y u→RepC w (zf κ' mp) y u:=fun h=>h.mono fun b _ _ hb hcell=>⟨fun hh=>hb (hS b hh),hcell⟩
 have hlk:∀ {id},(lk mp id).isSome=true→lk mp id=lk m id:=by
  intro id hid;obtain ⟨b,hb⟩:=Option.isSome_iff_exists.1 hid;rw [hb,hsub id b hb]
 cases x with
 | c x =>
  cases x with
  | agg=>exact h.elim
  | tup=>exact h.elim
  | sc u=>exact hc (y := .sc u) h
  | row L=>exact hc (y := .row L) h
 | nil=>exact h
 | np=>exact h
 | ptr id off =>
  obtain ⟨b,cs,h1,h2,h3⟩:=h;exact ⟨b,cs,(hlk hin).trans h1,by rw [hf]; exact h2,h3⟩
 | own id n =>
  obtain ⟨hs,hn,L,sz,e,h1,h2,h3,hg⟩:=h;exact ⟨hs,hn,L,sz,e,(hlk hin).trans h1,h2,fun hl=>by have:=h3 hl; unfold zX at *; rw [hf]; exact this,fun k C hne hC hl=>hc (hg (by rw [hf] at k; exact k) C hne hC hl)⟩
 | ep x off =>
  obtain ⟨b,o,vs,h1,h2,h3,hp,h4⟩:=h;exact ⟨b,o,vs,h1,fun hh=>h2 (hS b hh),h3,hp,fun i y u hy hu=>⟨hc (h4 i y u hy hu).1,(h4 i y u hy hu).2⟩⟩
 | eo id n i off =>
  obtain ⟨hs,L,sz,e,h1,h2,h3⟩:=h;exact ⟨hs,L,sz,e,(hlk hin).trans h1,h2,fun hl=>by rw [hf]; exact h3 hl⟩
 | sl id n lo s =>
  obtain ⟨hs,L,sz,e,h1,h2,h3⟩:=h;exact ⟨hs,L,sz,e,(hlk hin).trans h1,h2,fun hl=>by rw [hf]; exact h3 hl⟩
 | fn g ids =>
  obtain ⟨bs,h1,h2⟩:=h;refine ⟨bs,h1,za.imp_mem (fun id b hi _ ⟨⟨cs,h3⟩,h4⟩=>?_) h2⟩;exact ⟨⟨cs,(hlk (List.all_eq_true.1 (show (ids.all fun id=>(lk mp id).isSome)=true from hin) id hi)).trans h3⟩,by rw [hf]; exact h4⟩
 | agg=>exact h.elim
 | tup=>exact h.elim
theorem Zx {f:PV→Bool} {R R':PV→Value→Prop}:∀ {cs:List PV} {vs:List Value},(∀ x v,f x=true→R x v→R' x v)→cs.all f=true→za R cs vs→za R' cs vs
 | [],[],_,_,_=>trivial
 | x::cs,v::vs,hi,hf,h=>by
  simp only [List.all_cons,Bool.and_eq_true] at hf;exact ⟨hi _ _ hf.1 h.1,Zx hi hf.2 h.2⟩
 | [],_::_,_,_,h=>h.elim
 | _::_,[],_,_,h=>h.elim
theorem zg.down (hsub:∀ id b,lk mp id=some b→lk m id=some b) (hf:κ'.f=κ.f) (hS:∀ b,zf κ' mp b→zf κ m b) {x:PV} {v:Value} (hin:inA mp x=true) (h:zg κ m w x v):zg κ' mp w x v:=by
 have hc:∀ {y:CV} {u:Value},RepC w (zf κ m) y u→RepC w (zf κ' mp) y u:=fun h=>h.mono fun b _ _ hb hcell=>⟨fun hh=>hb (hS b hh),hcell⟩
 cases x with
 | agg cs =>
  obtain ⟨vs,h1,h2⟩:=h;exact ⟨vs,h1,Zx (fun _ _ hin=>zb.down hsub hf hS hin) hin h2⟩
 | c x =>
  cases x with
  | agg cs=>exact hc (y := .agg cs) h
  | sc u=>exact zb.down (x := .c (.sc u)) hsub hf hS hin h
  | row u=>exact zb.down (x := .c (.row u)) hsub hf hS hin h
  | tup u=>exact h.elim
 | nil=>exact h
 | np=>exact h
 | ptr a b=>exact zb.down (w:=w) (x := .ptr a b) hsub hf hS hin h
 | own a b=>exact zb.down (x := .own a b) hsub hf hS hin h
 | ep a b=>exact zb.down (x := .ep a b) hsub hf hS hin h
 | eo a b c d=>exact zb.down (w:=w) (x := .eo a b c d) hsub hf hS hin h
 | sl a b c d=>exact zb.down (w:=w) (x := .sl a b c d) hsub hf hS hin h
 | fn a b=>exact zb.down (w:=w) (x := .fn a b) hsub hf hS hin h
 | tup a=>exact h.elim
theorem Rep.down (hsub:∀ id b,lk mp id=some b→lk m id=some b) (hf:κ'.f=κ.f) (hS:∀ b,zf κ' mp b→zf κ m b) {x:PV} {v:Value} (hin:inP mp x=true) (h:Rep κ m w x v):Rep κ' mp w x v:=by
 have hc:∀ {y:CV} {u:Value},RepC w (zf κ m) y u→RepC w (zf κ' mp) y u:=fun h=>h.mono fun b _ _ hb hcell=>⟨fun hh=>hb (hS b hh),hcell⟩
 cases x with
 | tup cs =>
  obtain ⟨vs,h1,h2⟩:=h;exact ⟨vs,h1,Zx (fun _ _ hin=>zg.down hsub hf hS hin) hin h2⟩
 | c x =>
  cases x with
  | tup cs=>exact hc (y := .tup cs) h
  | sc u=>exact zg.down (x := .c (.sc u)) hsub hf hS hin h
  | row u=>exact zg.down (x := .c (.row u)) hsub hf hS hin h
  | agg u=>exact zg.down (x := .c (.agg u)) hsub hf hS hin h
 | nil=>exact h
 | np=>exact h
 | ptr a b=>exact zg.down (w:=w) (x := .ptr a b) hsub hf hS hin h
 | own a b=>exact zg.down (x := .own a b) hsub hf hS hin h
 | ep a b=>exact zg.down (x := .ep a b) hsub hf hS hin h
 | eo a b c d=>exact zg.down (w:=w) (x := .eo a b c d) hsub hf hS hin h
 | sl a b c d=>exact zg.down (w:=w) (x := .sl a b c d) hsub hf hS hin h
 | fn a b=>exact zg.down (w:=w) (x := .fn a b) hsub hf hS hin h
 | agg a=>exact zg.down (x := .agg a) hsub hf hS hin h
theorem zd0 {m mp:Mem} (h:(mp.all fun p=>inB m p.2)=true) {id:Nat} {b:Blk} (hb:lk mp id=some b):inB m b=true:=by
 induction mp with
 | nil=>simp [lk] at hb
 | cons a l ih =>
  obtain ⟨k,x⟩:=a;simp only [List.all_cons,Bool.and_eq_true] at h;simp only [zr] at hb;split at hb
  ·cases hb; exact h.1
  ·exact ih h.2 hb
theorem Qx (hsub:∀ id b,lk mp id=some b→lk m id=some b) (hf:κ'.f=κ.f) {b:Nat} (h:Own κ' mp b):Own κ m b:=by
 obtain ⟨id,h1,h2⟩:=h;obtain ⟨x,hx⟩:=Option.isSome_iff_exists.1 h1;exact ⟨id,by rw [hsub id x hx]; rfl,by rw [← hf]; exact h2⟩
theorem MemOk.down (hm:MemOk κ m w) (hsub:∀ id b,lk mp id=some b→lk m id=some b) (hf:κ'.f=κ.f) (hS:∀ b,zf κ' mp b→zf κ m b) (hS':∀ b,κ'.S b→b < w.heap.size) (hsd:∀ id b,(lk mp id).isSome=true→κ' id=some b→¬ κ'.S b) (hin:ZH mp=true):MemOk κ' mp w:=by
 refine ⟨fun id b hb=>?_,fun i j b hi hj h1 h2=>?_,hS',hsd⟩
 ·have hbin:=zd0 hin hb;have hk:=hm.blk id b (hsub id b hb);cases b with
  | box cs =>
   obtain ⟨g,vs,e,h1,h2,h3⟩:=hk;exact ⟨g,vs,e,by rw [hf]; exact h1,h2,Zx (fun _ _ hin=>zb.down hsub hf hS hin) hbin h3⟩
  | row L sz e =>
   obtain ⟨h0,h00,h⟩:=hk;refine ⟨h0,h00,?_⟩;rcases h with ⟨h1,h2⟩ | ⟨g,vs,rest,h1,h2,h3⟩
   ·exact .inl ⟨by rw [hf]; exact h1,h2⟩
   ·exact .inr ⟨g,vs,rest,by rw [hf]; exact h1,h2,Zx (fun _ _ hin=>zb.down hsub hf hS hin) hbin h3⟩
 ·have up:∀ i,(lk mp i).isSome=true→(lk m i).isSome=true:=fun i hi=>by
   obtain ⟨x,hx⟩:=Option.isSome_iff_exists.1 hi;rw [hsub i x hx]; rfl
  exact hm.inj i j b (up i hi) (up j hj) (by rw [← hf]; exact h1) (by rw [← hf]; exact h2)
theorem zb.join {κ'':Kap} {m'':Mem} {full:Prop} (hlk:∀ id b,lk m' id=some b→lk m'' id=some b∧κ'' id=κ' id) (hlive:full→∀ b,zf κ'' m'' b→zf κ' m' b) {x:PV} {v:Value}
  (hx:full∨rl1 x=true) (h:zb κ' m' w x v):zb κ'' m'' w x v:=by
 have hc:full→∀ {y:CV} {u:Value},RepC w (zf κ' m') y u→RepC w (zf κ'' m'') y u:=fun hf _ _ h=>h.mono fun b _ _ hb hcell=>⟨fun hh=>hb (hlive hf b hh),hcell⟩
 cases x with
 | c x =>
  cases x with
  | agg=>exact h.elim
  | tup=>exact h.elim
  | sc u=>cases h with | sc hv=>exact RepC.sc hv
  | row L =>
   rcases hx with hx | hx
   ·exact hc hx (y := .row L) h
   ·simp [rl1,Zs] at hx
 | nil=>exact h
 | np=>exact h
 | ptr id off =>
  obtain ⟨b,cs,h1,h2,h3⟩:=h;obtain ⟨g1,g2⟩:=hlk _ _ h1;exact ⟨b,cs,g1,g2.trans h2,h3⟩
 | own id n =>
  rcases hx with hx | hx
  ·obtain ⟨hs,hn,L,sz,e,h1,h2,h3,hg⟩:=h;obtain ⟨g1,g2⟩:=hlk _ _ h1;exact ⟨hs,hn,L,sz,e,g1,h2,fun hl=>by have:=h3 hl; unfold zX at *; rw [g2]; exact this,fun k C hne hC hl=>hc hx (hg (by rw [g2] at k; exact k) C hne hC hl)⟩
  ·simp [rl1] at hx
 | ep x off =>
  rcases hx with hx | hx
  ·obtain ⟨b,o,vs,h1,h2,h3,hp,h4⟩:=h;exact ⟨b,o,vs,h1,fun hh=>h2 (hlive hx b hh),h3,hp,fun i y u hy hu=>⟨hc hx (h4 i y u hy hu).1,(h4 i y u hy hu).2⟩⟩
  ·simp [rl1] at hx
 | eo id n i off =>
  obtain ⟨hs,L,sz,e,h1,h2,h3⟩:=h;obtain ⟨g1,g2⟩:=hlk _ _ h1;exact ⟨hs,L,sz,e,g1,h2,fun hl=>by rw [g2]; exact h3 hl⟩
 | sl id n lo s =>
  obtain ⟨hs,L,sz,e,h1,h2,h3⟩:=h;obtain ⟨g1,g2⟩:=hlk _ _ h1;exact ⟨hs,L,sz,e,g1,h2,fun hl=>by rw [g2]; exact h3 hl⟩
 | fn g ids =>
  obtain ⟨bs,h1,h2⟩:=h;exact ⟨bs,h1,h2.imp fun id b ⟨⟨cs,h3⟩,h4⟩=>⟨⟨cs,(hlk _ _ h3).1⟩,(hlk _ _ h3).2.trans h4⟩⟩
 | agg=>exact h.elim
 | tup=>exact h.elim
theorem JQ {f:PV→Bool} {full:Prop} {R R':PV→Value→Prop}:∀ {cs:List PV} {vs:List Value},(∀ x v,(full∨f x=true)→R x v→R' x v)→(full∨cs.all f=true)→za R cs vs→za R' cs vs
 | [],[],_,_,_=>trivial
 | x::cs,v::vs,hi,hf,h=>by
  simp only [List.all_cons,Bool.and_eq_true] at hf;exact ⟨hi _ _ (hf.imp id And.left) h.1,JQ hi (hf.imp id And.right) h.2⟩
 | [],_::_,_,_,h=>h.elim
 | _::_,[],_,_,h=>h.elim
theorem RepC.rl {S S':Nat→Prop} {x:CV} {v:Value} (hx:Zs x=true) (h:RepC w S x v):RepC w S' x v:=by
 cases h with
 | sc hv=>exact .sc hv
 | _=>simp [Zs] at hx
theorem RepC.rlA {S S':Nat→Prop} {x:CV} {v:Value} (hx:JE x=true) (h:RepC w S x v):RepC w S' x v:=by
 cases h with
 | sc hv=>exact .sc hv
 | agg hl h1 h2=>exact .agg hl (fun i x v hx' hv=>RepC.rl (List.all_eq_true.1 hx x (List.mem_of_getElem? hx')) (h1 i x v hx' hv)) h2
 | _=>simp [JE,Zs] at hx
theorem RepC.rlP {S S':Nat→Prop} {x:CV} {v:Value} (hx:zbL x=true) (h:RepC w S x v):RepC w S' x v:=by
 cases h with
 | sc hv=>exact .sc hv
 | agg hl h1 h2=>exact RepC.rlA (x := .agg _) hx (.agg hl h1 h2)
 | tup hl h1=>exact .tup hl fun i x v hx' hv=>RepC.rlA (List.all_eq_true.1 hx x (List.mem_of_getElem? hx')) (h1 i x v hx' hv)
 | _=>simp [zbL,JE,Zs] at hx
theorem zg.join {κ'':Kap} {m'':Mem} {full:Prop} (hlk:∀ id b,lk m' id=some b→lk m'' id=some b∧κ'' id=κ' id) (hlive:full→∀ b,zf κ'' m'' b→zf κ' m' b) {x:PV} {v:Value}
  (hx:full∨rlA x=true) (h:zg κ' m' w x v):zg κ'' m'' w x v:=by
 cases x with
 | agg cs =>
  obtain ⟨vs,h1,h2⟩:=h;exact ⟨vs,h1,JQ (full:=full) (fun _ _ hx=>zb.join hlk hlive hx) hx h2⟩
 | c x =>
  cases x with
  | agg cs =>
   rcases hx with hf | hx
   ·exact RepC.mono (fun b _ _ hb hcell=>⟨fun hh=>hb (hlive hf b hh),hcell⟩) (show RepC _ _ _ _ from h)
   ·exact RepC.rlA (x := .agg cs) hx h
  | sc u=>exact zb.join (x := .c (.sc u)) hlk hlive hx h
  | row u=>exact zb.join (x := .c (.row u)) hlk hlive hx h
  | tup u=>exact h.elim
 | nil=>exact h
 | np=>exact h
 | ptr a b=>exact zb.join (w:=w) (x := .ptr a b) hlk hlive hx h
 | own a b=>exact zb.join (x := .own a b) hlk hlive hx h
 | ep a b=>exact zb.join (x := .ep a b) hlk hlive hx h
 | eo a b c d=>exact zb.join (w:=w) (x := .eo a b c d) hlk hlive hx h
 | sl a b c d=>exact zb.join (w:=w) (x := .sl a b c d) hlk hlive hx h
 | fn a b=>exact zb.join (w:=w) (x := .fn a b) hlk hlive hx h
 | tup a=>exact h.elim
theorem Rep.join {κ'':Kap} {m'':Mem} {full:Prop} (hlk:∀ id b,lk m' id=some b→lk m'' id=some b∧κ'' id=κ' id) (hlive:full→∀ b,zf κ'' m'' b→zf κ' m' b) {x:PV} {v:Value}
  (hx:full∨rlP x=true) (h:Rep κ' m' w x v):Rep κ'' m'' w x v:=by
 cases x with
 | tup cs =>
  obtain ⟨vs,h1,h2⟩:=h;exact ⟨vs,h1,JQ (full:=full) (fun _ _ hx=>zg.join hlk hlive hx) hx h2⟩
 | c x =>
  cases x with
  | tup cs =>
   rcases hx with hf | hx
   ·exact RepC.mono (fun b _ _ hb hcell=>⟨fun hh=>hb (hlive hf b hh),hcell⟩) (show RepC _ _ _ _ from h)
   ·exact RepC.rlP (x := .tup cs) hx h
  | sc u=>exact zg.join (x := .c (.sc u)) hlk hlive hx h
  | row u=>exact zg.join (x := .c (.row u)) hlk hlive hx h
  | agg u=>exact zg.join (x := .c (.agg u)) hlk hlive hx h
 | nil=>exact h
 | np=>exact h
 | ptr a b=>exact zg.join (w:=w) (x := .ptr a b) hlk hlive hx h
 | own a b=>exact zg.join (x := .own a b) hlk hlive hx h
 | ep a b=>exact zg.join (x := .ep a b) hlk hlive hx h
 | eo a b c d=>exact zg.join (w:=w) (x := .eo a b c d) hlk hlive hx h
 | sl a b c d=>exact zg.join (w:=w) (x := .sl a b c d) hlk hlive hx h
 | fn a b=>exact zg.join (w:=w) (x := .fn a b) hlk hlive hx h
 | agg a=>exact zg.join (x := .agg a) hlk hlive hx h
theorem jK.join {κ'':Kap} {m'':Mem} {full:Prop} (hlk:∀ id b,lk m' id=some b→lk m'' id=some b∧κ'' id=κ' id) (hlive:full→∀ b,zf κ'' m'' b→zf κ' m' b) {id:Nat} {b:Blk}
  (hid:lk m' id=some b) (hx:full∨rlB b=true) (h:jK κ' m' w id b):jK κ'' m'' w id b:=by
 have hk:=(hlk id b hid).2;cases b with
 | box cs =>
  obtain ⟨g,vs,e,h1,h2,h3⟩:=h;exact ⟨g,vs,e,hk.trans h1,h2,JQ (full:=full) (fun _ _ hx=>zb.join hlk hlive hx) hx h3⟩
 | row L sz e =>
  obtain ⟨h0,h00,h⟩:=h;refine ⟨h0,h00,?_⟩;rcases h with ⟨h1,h2⟩ | ⟨g,vs,rest,h1,h2,h3⟩
  ·exact .inl ⟨hk.trans h1,h2⟩
  ·exact .inr ⟨g,vs,rest,hk.trans h1,h2,JQ (full:=full) (fun _ _ hx=>zb.join hlk hlive hx) hx h3⟩
theorem znk {m:Mem} (h:rlM m=true) {id:Nat} {b:Blk} (hb:lk m id=some b):rlB b=true:=by
 induction m with
 | nil=>simp [lk] at hb
 | cons a l ih=>simp [rlM] at h
def qr (κ κ':Kap) (m':Mem):Kap:=⟨fun id=>if (lk m' id).isSome then κ' id else κ id,κ.S⟩
theorem zal {κc:Kap} {m'':Mem} {full:Prop} (hm:MW W0 w0 κ0 m0 κ m w) (hsub:∀ id b,lk mp id=some b→lk m id=some b) (hf:κc.f=κ.f)
  (hfull:full→∀ b,κ.S b∨(Own κ m b∧¬ Own κ mp b)→κc.S b)
  (hc:MW W0 w κc mp κ' m' w') (hid:∀ id,(lk m' id).isSome=true→(lk mp id).isSome=true∨lk m id=none)
  (hm'':∀ id,lk m'' id=match lk m' id with | some b=>some b | none=>lk m id) (hrl:full∨rlM m'=true) :
  MW W0 w0 κ0 m0 (qr κ κ' m') m'' w'∧Pres κ m w (qr κ κ' m') m'' w'∧∀ r v,(full∨rlP r=true)→Rep κ' m' w' r v→Rep (qr κ κ' m') m'' w' r v:=by
 have hlk:∀ id b,lk m' id=some b→lk m'' id=some b∧qr κ κ' m' id=κ' id:=fun id b hb=>⟨by rw [hm'',hb],by simp [qr,hb]⟩
 have hlk0:∀ id,lk m' id=none→lk m'' id=lk m id∧qr κ κ' m' id=κ id:=fun id hb=>⟨by rw [hm'',hb],by simp [qr,hb]⟩
 have hown_mp:∀ {b},Own κc mp b→Own κ m b:=fun h=>Qx hsub hf h
 have hmp':∀ id,(lk mp id).isSome=true→(lk m' id).isSome=true:=by
  intro id h;obtain ⟨b,hb⟩:=Option.isSome_iff_exists.1 h;cases b with
  | box cs=>obtain ⟨⟨cs',h1⟩,_⟩:=hc.pres.box id cs hb; simp [h1]
  | row L sz e=>obtain ⟨L',h1,_⟩:=hc.pres.row id L sz e hb; simp [h1]
 have hown:∀ b,Own (qr κ κ' m') m'' b→Own κ' m' b∨(Own κ m b∧¬ Own κ mp b):=by
  rintro b ⟨id,h1,h2⟩;cases hl:lk m' id with
  | some x=>left; exact ⟨id,by simp [hl],by rw [← (hlk id x hl).2]; exact h2⟩
  | none =>
   obtain ⟨g1,g2⟩:=hlk0 id hl;rw [g1] at h1; rw [g2] at h2;right;refine ⟨⟨id,h1,h2⟩,?_⟩;rintro ⟨j,h3,h4⟩;have hj:(lk m j).isSome=true:=by
    obtain ⟨y,hy⟩:=Option.isSome_iff_exists.1 h3;rw [hsub j y hy]; rfl
   have:=hm.mem.inj id j b h1 hj h2 h4;subst this;have:=hmp' _ h3;rw [hl] at this; simp at this
 have hown':∀ b,Own κ' m' b→Own κ m b∨w.heap.size≤b:=by
  intro b hb;exact (hc.newB hb).imp hown_mp fun h=>h
 have hlive:full→∀ b,zf (qr κ κ' m') m'' b→zf κ' m' b:=by
  rintro hfl b (hb | hb)
  ·left; rw [hc.hS]; exact hfull hfl b (.inl hb)
  ·rcases hown b hb with h | h
   ·exact .inr h
   ·left; rw [hc.hS]; exact hfull hfl b (.inr h)
 have hlive':∀ b,zf (qr κ κ' m') m'' b→zf κ m b∨w.heap.size≤b:=by
  rintro b (hb | hb)
  ·exact .inl (.inl hb)
  ·rcases hown b hb with h | h
   ·exact (hown' b h).imp .inr fun h=>h
   ·exact .inl (.inr h.1)
 have hblk:∀ b,b < w.heap.size→¬ Own κ mp b→w'.heap[b]? = w.heap[b]? := fun b hb ho=>hc.ext.block b hb fun h=>ho (by
  obtain ⟨id,h1,h2⟩:=h;exact ⟨id,h1,by rw [← hf]; exact h2⟩)
 have hpres:Pres κ m w (qr κ κ' m') m'' w':=by
  refine ⟨fun id cs hb=>?_,fun id L sz e hr=>?_,fun b o v hl hcell=>?_⟩
  ·cases hl:lk m' id with
   | none=>obtain ⟨g1,g2⟩:=hlk0 id hl; exact ⟨⟨cs,g1.trans hb⟩,g2⟩
   | some x =>
    obtain ⟨g1,g2⟩:=hlk id x hl;rcases hid id (by simp [hl]) with h | h
    ·obtain ⟨y,hy⟩:=Option.isSome_iff_exists.1 h;have:=hsub id y hy;rw [hb] at this; cases this;obtain ⟨⟨cs',h1⟩,h2⟩:=hc.pres.box id cs hy;rw [hl] at h1; cases h1;exact ⟨⟨cs',g1⟩,g2.trans (h2.trans (by rw [hf]))⟩
    ·rw [hb] at h; cases h
  ·cases hl:lk m' id with
   | none =>
    obtain ⟨g1,g2⟩:=hlk0 id hl;refine ⟨L,g1.trans hr,Nat.le_refl _,fun _=>⟨g2,fun b arr e' hb ha=>⟨arr,?_,rfl⟩⟩,fun k _ _ _ => .inl ⟨rfl,g2.symm.trans k⟩⟩;rw [hblk b (Array.getElem?_eq_some_iff.1 ha).1 ?_]
    ·exact ha
    ·rintro ⟨j,h3,h4⟩;have hj:(lk m j).isSome=true:=by
      obtain ⟨y,hy⟩:=Option.isSome_iff_exists.1 h3;rw [hsub j y hy]; rfl
     have:=hm.mem.inj id j b (by simp [hr]) hj hb h4;subst this;have:=hmp' _ h3;rw [hl] at this; simp at this
   | some x =>
    obtain ⟨g1,g2⟩:=hlk id x hl;rcases hid id (by simp [hl]) with h | h
    ·obtain ⟨y,hy⟩:=Option.isSome_iff_exists.1 h;have:=hsub id y hy;rw [hr] at this; cases this;obtain ⟨L',h1,h2,h3,h6⟩:=hc.pres.row id L sz e hy;rw [hl] at h1; cases h1;refine ⟨L',g1,h2,fun hlen=>?_,fun k C hne hC=>?_⟩
     ·obtain ⟨h4,h5⟩:=h3 hlen;exact ⟨g2.trans (h4.trans (by rw [hf])),fun b arr e' hb ha=>h5 b arr e' (by rw [hf]; exact hb) ha⟩
     ·rcases hrl with hfl | hrl
      ·refine (h6 (g2.symm.trans k) C hne hC).imp (fun ⟨e1,e2⟩=>⟨e1,by rw [← hf]; exact e2⟩) fun ⟨e1,e2⟩=>⟨e1,fun hh v hv=>?_⟩
       refine (e2 hh v (by unfold zX at *; rw [hf]; exact hv)).mono fun b _ _ hb hcell=>⟨fun hq=>hb (hlive hfl b hq),hcell⟩
      ·exfalso;cases m' with
       | nil=>cases hl
       | cons=>cases hrl
    ·rw [hr] at h; cases h
  ·have hlt:=yN hcell;refine ⟨fun h=>?_,?_⟩
   ·rcases hlive' b h with h | h
    ·exact hl h
    ·omega
   ·rw [y5 (hblk b hlt fun h=>hl (.inr (Qx hsub rfl h)))]; exact hcell
 refine ⟨⟨⟨fun id b hb=>?_,fun i j b hi hj h1 h2=>?_,fun b hb=>Nat.lt_of_lt_of_le (hm.mem.sb b hb) hc.ext.size,fun i b hi hb=>?_⟩,fun b hb=>?_,hm.pres.trans hpres,⟨hc.ext.os.trans hm.ext.os,hc.ext.tape.trans hm.ext.tape,hc.ext.output.trans hm.ext.output,Nat.le_trans hm.ext.size hc.ext.size,fun b hb hl=>?_⟩,fun i b hi hb=>?_,hm.hS⟩,hpres,fun r v hx hr=>Rep.join hlk hlive hx hr⟩
 ·cases hl:lk m' id with
  | some x =>
   rw [(hlk id x hl).1] at hb;have hb:=Option.some.inj hb;subst hb;exact (hc.mem.blk id x hl).join hlk hlive hl (hrl.imp (fun h=>h) fun h=>znk h hl)
  | none =>
   obtain ⟨g1,g2⟩:=hlk0 id hl;rw [g1] at hb;refine (hm.mem.blk id b hb).pres hpres g2 fun g hg=>hblk g (hm.mem.live_lt (.inr ⟨id,by simp [hb],hg⟩)) ?_
   rintro ⟨j,h3,h4⟩;have hj:(lk m j).isSome=true:=by
    obtain ⟨y,hy⟩:=Option.isSome_iff_exists.1 h3;rw [hsub j y hy]; rfl
   have:=hm.mem.inj id j g (by simp [hb]) hj hg h4;subst this;have:=hmp' _ h3;rw [hl] at this; simp at this
 ·cases hl:lk m' i with
  | some x =>
   obtain ⟨g1,g2⟩:=hlk i x hl;rw [g2] at h1;cases hl':lk m' j with
   | some y =>
    obtain ⟨g3,g4⟩:=hlk j y hl';rw [g4] at h2;exact hc.mem.inj i j b (by simp [hl]) (by simp [hl']) h1 h2
   | none =>
    obtain ⟨g3,g4⟩:=hlk0 j hl';rw [g4] at h2; rw [g3] at hj;rcases hc.new i b (by simp [hl]) h1 with ⟨q,h3,h4⟩ | h3
    ·have hq:(lk m q).isSome=true:=by
      obtain ⟨y,hy⟩:=Option.isSome_iff_exists.1 h3;rw [hsub q y hy]; rfl
     have:=hm.mem.inj q j b hq hj (by rw [← hf]; exact h4) h2;subst this;have:=hmp' _ h3;rw [hl'] at this; simp at this
    ·have:=hm.mem.live_lt (.inr ⟨j,hj,h2⟩); omega
  | none =>
   obtain ⟨g1,g2⟩:=hlk0 i hl;rw [g2] at h1; rw [g1] at hi;cases hl':lk m' j with
   | some y =>
    obtain ⟨g3,g4⟩:=hlk j y hl';rw [g4] at h2;rcases hc.new j b (by simp [hl']) h2 with ⟨q,h3,h4⟩ | h3
    ·have hq:(lk m q).isSome=true:=by
      obtain ⟨y,hy⟩:=Option.isSome_iff_exists.1 h3;rw [hsub q y hy]; rfl
     have:=hm.mem.inj q i b hq hi (by rw [← hf]; exact h4) h1;subst this;have:=hmp' _ h3;rw [hl] at this; simp at this
    ·have:=hm.mem.live_lt (.inr ⟨i,hi,h1⟩); omega
   | none =>
    obtain ⟨g3,g4⟩:=hlk0 j hl';rw [g4] at h2; rw [g3] at hj;exact hm.mem.inj i j b hi hj h1 h2
 ·show ¬ κ.S b;cases hl:lk m' i with
  | some x =>
   obtain ⟨g1,g2⟩:=hlk i x hl;rw [g2] at hb;rcases hc.new i b (by simp [hl]) hb with ⟨q,h3,h4⟩ | h3
   ·obtain ⟨y,hy⟩:=Option.isSome_iff_exists.1 h3;exact hm.mem.sd q b (by rw [hsub q y hy]; rfl) (by rw [← hf]; exact h4)
   ·intro hs; have:=hm.mem.sb b hs; omega
  | none =>
   obtain ⟨g1,g2⟩:=hlk0 i hl;rw [g2] at hb; rw [g1] at hi;exact hm.mem.sd i b hi hb
 ·rcases hb with hb | hb
  ·exact hm.low b (.inl hb)
  ·rcases hown b hb with h | h
   ·exact hc.low b (.inr h)
   ·exact hm.low b (.inr h.1)
 ·rw [hblk b (Nat.lt_of_lt_of_le hb hm.ext.size) fun h=>?_]
  ·exact hm.ext.block b hb hl
  ·rcases hm.newB (Qx hsub rfl h) with h1 | h1
   ·exact hl h1
   ·omega
 ·cases hl:lk m' i with
  | some x =>
   obtain ⟨g1,g2⟩:=hlk i x hl;rw [g2] at hb;rcases hc.new i b (by simp [hl]) hb with ⟨q,h3,h4⟩ | h3
   ·obtain ⟨y,hy⟩:=Option.isSome_iff_exists.1 h3;exact hm.new q b (by rw [hsub q y hy]; rfl) (by rw [← hf]; exact h4)
   ·have:=hm.ext.size; right; omega
  | none =>
   obtain ⟨g1,g2⟩:=hlk0 i hl;rw [g2] at hb; rw [g1] at hi;exact hm.new i b hi hb
end
section
variable {P:Program} {W0 w0:World} {κ0:Kap} {m0:Mem} {κ:Kap} {m mr:Mem} {w:World} {e:Operand→Value} {o:Oper} {K:PV→Mem→Prop} {ρ:AX→Option PV} {d:Nat}
theorem znV (hm:MW W0 w0 κ0 m0 κ m w) (hW:W0.heap.size≤w.heap.size) {t:TypeId} {z:PV} (ho:o.op = .alloc t) (hz:qK P t=some z) (hz':z.isVal=true)
  (hs:jZ ρ d m (.newb z.cells) K):y4 P W0 w0 κ0 m0 κ m w e o K:=by
 obtain ⟨hid,hk⟩:=hs;have hid:lk m (16 * d)=none:=by simpa using hid
 obtain ⟨v,w',κ',r,news,h1,⟨rfl,rfl⟩,h3⟩:=zfH (P:=P) (mr:=m) (ρ:=ρ) (d:=d) (e:=e) (K:=fun r news=>r = .ptr (16 * d) 0∧news=[(16 * d,.box z.cells)]) hm hW ho hz hz' ⟨rfl,rfl⟩;obtain ⟨g1,g2,g3⟩:=h3 fun id hi=>by
  by_cases h:id=16 * d
  ·rw [h]; exact hid
  ·simp [lk,h] at hi
 exact ⟨.value v,v,w',κ',_,_,h1,.inl rfl,hk,g1,g2,fun _=>g3⟩
theorem znW (hm:MW W0 w0 κ0 m0 κ m w) (hW:W0.heap.size≤w.heap.size) (hev:Evs κ m w ρ e) {t el:TypeId} {l c:Operand} {al:AX} {z:PV} {i:TypeInfo} {op:AOp}
  (ho:o.op = .makeSlice t l c) (ht:qf P t=some el) (hi:P.info? el=some i) (hz:qK P el=some z) (hz':z.isVal=true) (hpos:0 < i.size) (hl:opd l=some al) (hsame:e l=e c)
  (hρ:∀ k:PV,ρ (.k k)=some k) (hc:zu.newrO i el z al=some op) (hs:jZ ρ d m op K):y4 P W0 w0 κ0 m0 κ m w e o K:=by
 unfold zu.newrO at hc;split at hc
 ·rename_i k;split at hc
  ·rename_i hcond;obtain ⟨h1,h2,h3,h4,h5⟩:=hcond;cases hc;obtain ⟨hid,hk⟩:=hs;have hid:lk m (16 * d)=none:=by simpa using hid
   have hm2:zo ρ d m (.mks i.size i.bytes el (clZ z) (.k (.c (.sc (.int .i64 k))))) (fun r news=>r = .own (16 * d) k.toNat∧news=[(16 * d,.row (List.replicate k.toNat (clZ z)) 1 el)]):=by
    have:=hρ (.c (.sc (.int .i64 k)));simp only [zo,this,onv];refine ⟨h2,?_,?_,by rw [h1]; exact h5,hpos,trivial,by rw [h1]⟩
    ·unfold maxLen; omega
    ·have:(i.bytes:Int) * k≤1000 * 1000:=by
      have e1:(i.bytes:Int)≤1000:=by omega
      have:=Int.mul_le_mul e1 h3 h2 (by omega);omega
     omega
   obtain ⟨v,w',κ',r,news,g0,⟨rfl,rfl⟩,g3⟩:=zfM hm hW hev ho ht hi hz hz' hpos hl hsame hm2;obtain ⟨g1,g2,g3⟩:=g3 fun id hi=>by
    by_cases h:id=16 * d
    ·rw [h]; exact hid
    ·simp [lk,h] at hi
   exact ⟨.value v,v,w',κ',_,_,g0,.inl rfl,hk,g1,g2,fun _=>g3⟩
  ·cases hc
 ·cases hc
set_option maxHeartbeats 1600000 in
theorem zob {on:List FuncId} {nils:List Tmp} {op:AOp} (hm:MW W0 w0 κ0 m0 κ m w) (hW:W0.heap.size≤w.heap.size) (hev:Evs κ m w ρ e)
  (hρ:∀ k:PV,ρ (.k k)=some k) (hc:zu P on nils o=some op) (hs:jZ ρ d m op K):y4 P W0 w0 κ0 m0 κ m w e o K:=by
 cases ho:o.op with
 | move x =>
  simp only [zu,ho] at hc;split at hc
  ·cases hc; exact hs.elim
  ·cases hc
 | assign x =>
  simp only [zu,ho] at hc;split at hc
  ·split at hc
   ·simp only [Option.map_eq_some_iff] at hc;obtain ⟨n,hn,rfl⟩:=hc;exact hs.elim
   ·cases hc; exact hs.elim
  ·cases hc
 | nilCheck x =>
  simp only [zu,ho,Option.map_eq_some_iff] at hc;obtain ⟨y,hy,rfl⟩:=hc;exact hs.elim
 | pick c a b =>
  simp only [zu,ho] at hc;split at hc
  ·cases hc; exact hs.elim
  ·cases hc
 | alloc t =>
  simp only [zu,ho] at hc;split at hc
  ·split at hc
   ·split at hc
    ·cases hc; exact znV hm hW ho ‹_› ‹_› hs
    ·cases hc; exact hs.elim
   ·cases hc
  ·cases hc
 | box t x =>
  simp only [zu,ho,Option.map_eq_some_iff] at hc;obtain ⟨y,hy,rfl⟩:=hc;exact hs.elim
 | build t parts =>
  simp only [zu,ho] at hc;split at hc
  ·split at hc
   ·split at hc
    ·simp only [Option.map_eq_some_iff] at hc;obtain ⟨ps,hps,rfl⟩:=hc;exact hs.elim
    ·cases hc
   ·cases hc
  ·cases hc
 | buildSlice t n parts =>
  simp only [zu,ho] at hc;split at hc
  ·split at hc
   ·split at hc
    ·split at hc
     ·cases hc;exact hs.elim
     ·cases hc
    ·split at hc
     ·cases hc;exact hs.elim
     ·cases hc
   ·cases hc
  ·cases hc
 | load t a =>
  simp only [zu,ho] at hc;split at hc
  ·split at hc
   ·cases hc; exact hs.elim
   ·cases hc
  ·cases hc
 | store t a v =>
  simp only [zu,ho] at hc;split at hc
  ·split at hc
   ·cases hc; exact zn0 hm hW hev ho ‹_› ‹_› ‹_› ‹_› hs
   ·cases hc
  ·cases hc
 | fieldAddr s x f =>
  simp only [zu,ho] at hc;split at hc
  ·split at hc
   ·split at hc
    ·split at hc
     ·cases hc; exact hs.elim
     ·cases hc
    ·cases hc
   ·cases hc
  ·cases hc
 | field s x f =>
  simp only [zu,ho] at hc;split at hc
  ·split at hc
   ·split at hc
    ·split at hc
     ·cases hc; exact hs.elim
     ·cases hc
    ·cases hc
   ·cases hc
  ·cases hc
 | indexAddr t x i =>
  simp only [zu,ho] at hc;split at hc
  ·simp only [Option.map_eq_some_iff] at hc;obtain ⟨n,hn,rfl⟩:=hc;exact hs.elim
  ·cases hc
 | index t x i =>
  simp only [zu,ho] at hc;split at hc
  ·cases hc; exact hs.elim
  ·cases hc
 | slice t x lo hi mx =>
  simp only [zu,ho] at hc;split at hc
  ·cases hc; exact hs.elim
  ·split at hc
   ·split at hc
    ·cases hc; exact hs.elim
    ·cases hc
   ·cases hc
  ·cases hc
 | binOp bop t x y t' =>
  simp only [zu,ho] at hc;split at hc
  ·split at hc
   ·split at hc
    ·split at hc<;>cases hc<;>exact hs.elim
    ·cases hc
   ·cases hc
  ·split at hc<;>cases hc<;>exact hs.elim
  ·cases hc; exact hs.elim
  ·cases hc; exact hs.elim
  ·cases hc
 | unOp uop t x =>
  simp only [zu,ho,Option.map_eq_some_iff] at hc;obtain ⟨y,hy,rfl⟩:=hc;exact hs.elim
 | convert s t x =>
  simp only [zu,ho] at hc;split at hc
  ·cases hc; exact hs.elim
  ·cases hc; exact hs.elim
  ·split at hc
   ·cases hc; exact hs.elim
   ·cases hc
  ·cases hc
 | makeSlice t l c =>
  simp only [zu,ho] at hc;split at hc
  ·split at hc
   ·split at hc
    ·rename_i hcond;split at hc
     ·exact znW hm hW hev ho ‹_› ‹_› ‹_› hcond.2.2 hcond.2.1 ‹_› (zfn hcond.1) hρ hc hs
     ·cases hc;exact hs.elim
    ·cases hc
   ·cases hc
  ·cases hc
 | extract x i =>
  simp only [zu,ho,Option.map_eq_some_iff] at hc;obtain ⟨y,hy,rfl⟩:=hc;exact hs.elim
 | makeFunc fn fst caps =>
  cases fn with
  | func f =>
   simp only [zu,ho] at hc;split at hc
   ·simp only [Option.map_eq_some_iff] at hc;obtain ⟨cs,hcs,rfl⟩:=hc;exact hs.elim
   ·cases hc
  | _=>simp only [zu,ho] at hc; cases hc
 | call c =>
  simp only [zu,ho] at hc;split at hc
  ·split at hc
   ·split at hc
    ·cases hc; exact hs.elim
    ·cases hc; exact hs.elim
    ·cases hc
   ·cases hc
  ·split at hc
   ·split at hc
    ·rename_i htu;subst htu;split at hc
     ·split at hc
      ·split at hc
       ·rename_i hcond;cases hc;revert hs;generalize zu.isNil nils _=fr;intro hs;cases fr with
        | true=>exact hs.elim
        | false=>exact znD hm hW hev (zcd ‹_› ‹_› hcond.1 hcond.2) ho ‹_› ‹_› ‹_› ‹_› ‹_› hs
       ·cases hc
      ·cases hc
     ·cases hc
    ·cases hc
   ·cases hc
  ·split at hc
   ·split at hc
    ·cases hc; exact hs.elim
    ·cases hc
   ·cases hc
  ·split at hc
   ·split at hc
    ·cases hc; exact hs.elim
    ·cases hc
   ·cases hc
  ·split at hc
   ·split at hc
    ·simp only [Option.map_eq_some_iff] at hc;obtain ⟨as,has,rfl⟩:=hc;split at hs<;>exact hs.elim
    ·cases hc
   ·cases hc
  ·split at hc
   ·cases hc;split at hs<;>exact hs.elim
   ·cases hc
  ·cases hc
 | _=>simp only [zu,ho] at hc; cases hc
theorem y4.mono {K':PV→Mem→Prop} (h:y4 P W0 w0 κ0 m0 κ m w e o K) (hk:∀ r m',K r m'→K' r m'):y4 P W0 w0 κ0 m0 κ m w e o K':=by
 obtain ⟨n,v,w',κ',r,m',h1,h2,h3,h4⟩:=h;exact ⟨n,v,w',κ',r,m',h1,h2,hk _ _ h3,h4⟩
theorem QW {P:Program} {f:FuncId} {args:Array Value} {w:World} (h:yq P f=true):(callFunc f args).run P w = .ok (.enter f args) w:=by
 unfold yq at h;split at h
 ·rename_i fn hf;simp only [Bool.and_eq_true,bne_iff_ne,ne_eq,Option.isSome_iff_exists] at h;obtain ⟨⟨c,hc⟩,hn⟩:=h;simp [callFunc,hf,hn,hc]
 ·cases h
theorem zfE {M:Mem} (hm:MemOk κ M w) (hsub:∀ id b,lk mr id=some b→lk M id=some b):∀ {vs:List PV} {cs:List CV} {us:List Value},jJ mr vs=some cs→za (Rep κ M w) vs us→za (RepC w (fun _=>False)) cs us
 | [],cs,us,h1,h2=>by
  simp only [jJ] at h1; cases h1;cases us with
  | nil=>trivial
  | cons=>exact h2.elim
 | x::l,cs,us,h1,h2=>by
  simp only [jJ] at h1;split at h1
  ·rename_i y k hy hk;cases h1;cases us with
   | nil=>exact h2.elim
   | cons u us=>exact ⟨znz hm hsub hy h2.1,zfE hm hsub hk h2.2⟩
  ·cases h1
theorem zfF {M:Mem}:∀ {vs:List PV} {cs:List CV} {us:List Value},jJ mr vs=some cs→Zj vs=true→za (Rep κ M w) vs us→za (RepC w (zf κ M)) cs us
 | [],cs,us,h1,_,h2=>by
  simp only [jJ] at h1; cases h1;cases us with
  | nil=>trivial
  | cons=>exact h2.elim
 | x::l,cs,us,h1,h0,h2=>by
  simp only [jJ] at h1;split at h1
  ·rename_i y k hy hk;cases h1;have hx:isOwnA x=false∧Zj l=true:=by
    cases x with
    | own=>cases h0
    | agg cs =>
     simp only [Zj] at h0;split at h0
     ·cases h0
     ·rename_i ha; exact ⟨ha,h0⟩
    | _=>exact ⟨rfl,h0⟩
   cases us with
   | nil=>exact h2.elim
   | cons u us=>exact ⟨znA hy hx.1 h2.1,zfF hk hx.2 h2.2⟩
  ·cases h1
theorem zcn {f:FuncId} {vs:List PV} {us:Array Value} (hW:Below W0.heap.size W0 w) (hm:MW W0 w0 κ0 m0 κ m w) (hsub:∀ id b,lk mr id=some b→lk m id=some b)
  (hr:za (Rep κ m w) vs us.toList) (hs:JW P W0 f vs mr K) :
  Calls P f us w fun e w'=>∃ v κ' r news,e = .returned v∧K r news∧((∀ id,(lk news id).isSome=true→lk m id=none)→MW W0 w0 κ0 m0 κ' (news++m) w'∧Pres κ m w κ' (news++m) w'∧Rep κ' (news++m) w' r v):=by
 obtain ⟨cs,hcs,r,news,hF,hcond,hK⟩:=ze hs;have hlow:∀ b,zf κ m b→W0.heap.size≤b:=hm.low;rcases hcond with hno | ⟨hrl,hrlm⟩
 ·let κc:Kap:=⟨κ.f,fun b=>κ.S b∨(Own κ m b∧¬ Own κ [] b)⟩
  have hl:∀ b,zf κc [] b→zf κ m b:=by
   rintro b ((hb | hb) | ⟨id,hb,_⟩)
   ·exact .inl hb
   ·exact .inr hb.1
   ·simp [lk] at hb
  have hmem:MemOk κc [] w:=⟨fun id b hb=>by simp [lk] at hb,fun i j b hi=>by simp [lk] at hi,fun b hb=>hm.mem.live_lt (hl b (.inl hb)),fun id b hb=>by simp [lk] at hb⟩;refine (hF κc w us hW (.start hmem fun b hb=>hlow b (hl b hb)) ?_).mono ?_
  ·exact za.map_left PV.c ((zfF hcs hno hr).imp fun _ _ h=>Rep.of_c (h.mono fun b _ _ hb hc=>⟨fun hh=>hb (hl b hh),hc⟩))
  ·rintro e w' ⟨v,r',m',κ',rfl,⟨rfl,rfl⟩,hmw,hrep⟩;refine ⟨v,qr κ κ' m',r',m',rfl,hK,fun hfr=>?_⟩;obtain ⟨g1,g2,g3⟩:=zal (κc:=κc) (mp:=[]) (m'':=m'++m) (full:=True) hm (fun id b hb=>by simp [lk] at hb) rfl (fun _ b hb=>hb) hmw (fun id hid => .inr (hfr id hid)) (fun id=>by rw [j8]; cases lk m' id<;>rfl) (.inl trivial);exact ⟨g1,g2,g3 _ _ (.inl trivial) hrep⟩
 ·let κc:Kap:=⟨κ.f,fun _=>False⟩
  have hl:∀ b,¬ zf κc [] b:=by
   rintro b (hb | ⟨id,hb,_⟩)
   ·exact hb
   ·simp [lk] at hb
  have hmem:MemOk κc [] w:=⟨fun id b hb=>by simp [lk] at hb,fun i j b hi=>by simp [lk] at hi,fun b hb=>hb.elim,fun id b hb=>by simp [lk] at hb⟩;refine (hF κc w us hW (.start hmem fun b hb=>(hl b hb).elim) ?_).mono ?_
  ·exact za.map_left PV.c ((zfE hm.mem hsub hcs hr).imp fun _ _ h=>Rep.of_c (h.mono fun b _ _ _ hc=>⟨hl b,hc⟩))
  ·rintro e w' ⟨v,r',m',κ',rfl,⟨rfl,rfl⟩,hmw,hrep⟩;refine ⟨v,qr κ κ' m',r',m',rfl,hK,fun hfr=>?_⟩;obtain ⟨g1,g2,g3⟩:=zal (κc:=κc) (mp:=[]) (m'':=m'++m) (full:=False) hm (fun id b hb=>by simp [lk] at hb) rfl (fun h=>h.elim) hmw (fun id hid => .inr (hfr id hid)) (fun id=>by rw [j8]; cases lk m' id<;>rfl) (.inr hrlm);exact ⟨g1,g2,g3 _ _ (.inr hrl) hrep⟩
theorem Ze (m:Mem):∀ (l:Mem) (id:Nat),lk (merge m l) id=match lk l id with | some b=>some b | none=>lk m id
 | [],id=>rfl
 | (k,b)::l,id=>by
  have ih:=Ze m l;simp only [merge,zr];by_cases hk:id=k
  ·subst hk;simp only [if_true];split
   ·rename_i hs;have h2:(lk (merge m l) id).isSome=true:=by
     rw [ih id]; split
     ·rfl
     ·exact hs
    rw [ZK,if_pos ⟨rfl,h2⟩]
   ·simp [zr]
  ·simp only [if_neg hk];split
   ·rw [ZK,if_neg (fun h=>hk h.1)]; exact ih id
   ·rw [zr,if_neg hk]; exact ih id
theorem zeV {f:FuncId} {vs:List PV} {us:Array Value} (hW:Below W0.heap.size W0 w) (hm:MW W0 w0 κ0 m0 κ m w)
  (hr:za (Rep κ m w) vs us.toList) (hs:Zp P W0 f vs m K) :
  Calls P f us w fun e w'=>∃ v κ' r m',e = .returned v∧K r m'∧MW W0 w0 κ0 m0 κ' m' w'∧Pres κ m w κ' m' w'∧Rep κ' m' w' r v:=by
 obtain ⟨mp,Φ,hsub,hin,hvs,hF,_,hK⟩:=hs;let κc:Kap:=⟨κ.f,fun b=>κ.S b∨(Own κ m b∧¬ Own κ mp b)⟩
 have hl:∀ b,zf κc mp b→zf κ m b:=by
  rintro b ((hb | hb) | hb)
  ·exact .inl hb
  ·exact .inr hb.1
  ·exact .inr (Qx (κ':=κc) hsub rfl hb)
 have hmem:MemOk κc mp w:=hm.mem.down hsub rfl hl (fun b hb=>hm.mem.live_lt (hl b (.inl hb))) (fun id b hi hb hs=>by
  obtain ⟨y,hy⟩:=Option.isSome_iff_exists.1 hi;rcases hs with hs | hs
  ·exact hm.mem.sd id b (by rw [hsub id y hy]; rfl) hb hs
  ·exact hs.2 ⟨id,hi,hb⟩) hin
 refine (hF κc w us hW (.start hmem fun b hb=>hm.low b (hl b hb)) ?_).mono ?_
 ·refine Zx (f:=inP mp) (fun x v hin h=>Rep.down (κ:=κ) (κ':=κc) hsub rfl hl hin h) hvs hr
 ·rintro e w' ⟨v,r,m',κ',rfl,hΦ,hmw,hrep⟩;obtain ⟨hid,hk⟩:=hK r m' hΦ;obtain ⟨g1,g2,g3⟩:=zal (κc:=κc) (mp:=mp) (m'':=merge m m') (full:=True) hm hsub rfl (fun _ b hb=>hb) hmw hid (fun id=>Ze _ _ _) (.inl trivial);exact ⟨v,qr κ κ' m',r,_,rfl,hk,g1,g2,g3 _ _ (.inl trivial) hrep⟩
end
def AOp.isCall:AOp→Bool
 | .call .. | .opn .. | .callv .. | .opv ..=>true
 | _=>false
theorem Q3 {P:Program} {on:List FuncId} {nils:List Tmp} {o:Oper} {op:AOp} (hc:zu P on nils o=some op) (h:op.isCall=true) :
  ∃ c,o.op = .call c∧((∃ f as,c.callee = .value (.func f)∧yq P f=true∧opds c.args.toList=some as∧(op = .call f as∨op = .opn f as)) ∨
   (∃ f af as,c.callee = .value f∧opd f=some af∧opds c.args.toList=some as∧(op = .callv af as∨op = .opv af as))):=by
 cases ho:o.op with
 | call c =>
  refine ⟨c,rfl,?_⟩;simp only [zu,ho] at hc;split at hc
  ·repeat' split at hc
   all_goals (cases hc<;>simp [AOp.isCall] at h)
  ·repeat' split at hc
   all_goals (cases hc<;>simp [AOp.isCall] at h)
  ·repeat' split at hc
   all_goals (cases hc<;>simp [AOp.isCall] at h)
  ·repeat' split at hc
   all_goals (cases hc<;>simp [AOp.isCall] at h)
  ·rename_i f hcal;split at hc
   ·rename_i fn hf;split at hc
    ·rename_i hcond;simp only [Option.map_eq_some_iff] at hc;obtain ⟨as,has,rfl⟩:=hc;refine .inl ⟨f,as,hcal,?_,has,?_⟩
     ·simp only [yq,hf,Bool.and_eq_true,bne_iff_ne,ne_eq]; exact ⟨hcond.1,hcond.2⟩
     ·split
      ·exact .inr rfl
      ·exact .inl rfl
    ·cases hc
   ·cases hc
  ·split at hc
   ·cases hc;refine .inr ⟨_,_,_,‹_›,‹_›,‹_›,?_⟩;split
    ·exact .inr rfl
    ·exact .inl rfl
   ·cases hc
  ·cases hc
 | makeFunc fn fst caps =>
  cases fn with
  | func f =>
   simp only [zu,ho] at hc;split at hc
   ·simp only [Option.map_eq_some_iff] at hc; obtain ⟨_,_,rfl⟩:=hc; simp [AOp.isCall] at h
   ·cases hc
  | _=>simp only [zu,ho] at hc; cases hc
 | makeSlice t l c =>
  exfalso;simp only [zu,ho] at hc;split at hc
  ·split at hc
   ·split at hc
    ·split at hc
     ·unfold zu.newrO at hc;split at hc
      ·split at hc
       ·cases hc; simp [AOp.isCall] at h
       ·cases hc
      ·cases hc
     ·cases hc; simp [AOp.isCall] at h
    ·cases hc
   ·cases hc
  ·cases hc
 | _ =>
  simp only [zu,ho] at hc
  repeat' split at hc
  all_goals first|(simp only [Option.map_eq_some_iff] at hc; obtain ⟨_,_,rfl⟩:=hc; simp [AOp.isCall] at h; done)|(cases hc<;>simp [AOp.isCall] at h)
theorem zka {P:Program} {on:List FuncId} {nils:List Tmp} {o:Oper} {op:AOp} (hc:zu P on nils o=some op) (h:∃ t a x,o.op = .store t a x):op.isSt=true:=by
 obtain ⟨t,a,x,ho⟩:=h;simp only [zu,ho] at hc
 repeat' split at hc
 all_goals (cases hc<;>rfl)
theorem zcA {P:Program} {on:List FuncId} {N:Nat} {ops:Array Oper} {o:Oper} {ao:AO} (h:ZC P on N ops o=some ao) :
  zu P on (nilsOf ops.toList) o=some ao.op∧ao.dst=o.dst∧o.dst.all (· < N)=true∧(o.dst=none∨ao.op.isSt=false) ∧
   ((o.guard=none∧ao.guard=none)∨∃ j want t,o.guard=some (j,want)∧(ops[j]?).bind (·.dst)=some t∧ao.guard=some (t,want)):=by
 unfold ZC at h;split at h
 ·rename_i op hop;split at h
  ·rename_i hcond;split at h
   ·rename_i hg;cases h;exact ⟨hop,rfl,hcond.1,by simpa using hcond.2,.inl ⟨hg,rfl⟩⟩
   ·rename_i j want hg;split at h
    ·rename_i t ht;cases h;exact ⟨hop,rfl,hcond.1,by simpa using hcond.2,.inr ⟨j,want,t,hg,ht,rfl⟩⟩
    ·cases h
  ·cases h
 ·cases h
section
variable {P:Program} {W0 w0:World} {κ0:Kap} {m0:Mem} {N:Nat} {κ κ':Kap} {a:Act} {w:World} {o:Oper} {s:RS} {K:RS→Prop} {on:List FuncId} {ops:Array Oper} {ao:AO} {Q:Exit→Act→World→Prop}
def RelS (W0 w0:World) (κ0:Kap) (m0:Mem) (N:Nat) (s:RS) (a:Act) (w:World):Prop :=
 ∃ κ,Rel W0 w0 κ0 m0 N κ s.F (s.n++s.m) a w∧∀ id,(lk s.n id).isSome=true→lk s.m id=none
theorem zbX {n m:Mem} (h:∀ id,(lk n id).isSome=true→lk m id=none):∀ id b,lk m id=some b→lk (n++m) id=some b:=by
 intro id b hb;rw [j8];cases hn:lk n id with
 | none=>exact hb
 | some x=>rw [h id (by simp [hn])] at hb; cases hb
theorem zah {dst:Option Nat} {r:PV} {news:Mem} {v:Value} {w':World} {seq:Bool} (hrel:Rel W0 w0 κ0 m0 N κ s.F (s.n++s.m) a w) (hfr:∀ id,(lk s.n id).isSome=true→lk s.m id=none)
  (hd:dst.all (· < N)=true) (hf:j4 news (s.n++s.m)=true)
  (hk:K (if seq then ⟨zl s.F dst r,news++(s.n++s.m),[]⟩ else ⟨zl s.F dst r,s.m,news++s.n⟩))
  (hv:MW W0 w0 κ0 m0 κ' (news++(s.n++s.m)) w'∧Pres κ (s.n++s.m) w κ' (news++(s.n++s.m)) w'∧Rep κ' (news++(s.n++s.m)) w' r v) :
  ∃ s',RelS W0 w0 κ0 m0 N s' (a.put dst v) w'∧K s':=by
 refine ⟨_,⟨κ',?_,?_⟩,hk⟩
 ·cases seq with
  | true=>exact hrel.put hv.1 hv.2.1 hd (.inl hv.2.2)
  | false=>simp only [Bool.false_eq_true,if_false,List.append_assoc]; exact hrel.put hv.1 hv.2.1 hd (.inl hv.2.2)
 ·cases seq with
  | true=>intro id hid; simp [lk] at hid
  | false =>
   intro id hid;simp only [Bool.false_eq_true,if_false,j8] at hid ⊢;cases hn:lk news id with
   | some x =>
    have:=Jk hf id (by simp [hn]);rw [j8] at this;cases hn':lk s.n id with
    | some y=>rw [hn'] at this; cases this
    | none=>rw [hn'] at this; exact this
   | none=>rw [hn] at hid; exact hfr id hid
theorem zlN {seq:Bool} (hco:ZC P on N ops o=some ao) (hrel:RelS W0 w0 κ0 m0 N s a w) (h:go P W0 seq ao s K) :
  o.wp P a w (fun a' w'=>∃ s',RelS W0 w0 κ0 m0 N s' a' w'∧K s') Q:=by
 obtain ⟨κ,hrel,hfr⟩:=hrel;obtain ⟨hop,hdst,hN,hst,_⟩:=zcA hco;have hev:=hrel.evs;unfold go at h;split at h
 ·
  rename_i hwr;unfold JL at h;split at h
  ·rename_i f as heq;obtain ⟨c,ho,hc⟩:=Q3 hop (by rw [heq]; rfl);obtain ⟨f',as',hcal,hcb,has,heq'⟩:∃ f' as',c.callee = .value (.func f')∧yq P f'=true∧opds c.args.toList=some as'∧(ao.op = .call f' as'∨ao.op = .opn f' as'):=by
    rcases hc with hc | ⟨_,_,_,_,_,_,hh⟩
    ·exact hc
    ·rw [heq] at hh; rcases hh with hh | hh<;>cases hh
   rw [heq] at heq';rcases heq' with heq' | heq'
   ·cases heq'
   cases heq';obtain ⟨vs,hvs,hk⟩:=ze h;have hreps:=Jc hev has hvs;rw [← Array.toList_map] at hreps;have hrun:(execOp a.eval o).run P w = .ok (.enter f (c.args.map a.eval)) w:=by
    simp only [execOp,ho,resolve,hcal,Act.eval,Deferred.ofValue,pure_bind,invoke]
    simpa using QW hcb
   simp only [Oper.wp,hrun,Oper.upon_enter];refine (zeV hrel.below hrel.mw hreps hk).mono ?_;rintro e w' ⟨v,κ',r,m',rfl,hK,hmw,hp,hrep⟩;refine ⟨_,⟨κ',?_,?_⟩,hK⟩
   ·rw [hdst]; exact hrel.put hmw hp hN (.inl hrep)
   ·intro id hid; simp [lk] at hid
  ·rename_i f as heq;obtain ⟨c,ho,hc⟩:=Q3 hop (by rw [heq]; rfl);obtain ⟨f',af,as',hcal,hopd,has,heq'⟩:∃ f af as',c.callee = .value f∧opd f=some af∧opds c.args.toList=some as'∧(ao.op = .callv af as'∨ao.op = .opv af as'):=by
    rcases hc with ⟨_,_,_,_,_,hh⟩ | hc
    ·rw [heq] at hh; rcases hh with hh | hh<;>cases hh
    ·exact hc
   rw [heq] at heq';rcases heq' with heq' | heq'
   ·cases heq'
   cases heq';obtain ⟨fv,hfv,hk⟩:=ze h;split at hk
   ·rename_i g ids;obtain ⟨hcb,hk⟩:=hk;obtain ⟨vs,hvs,hk⟩:=ze hk;have hreps:=Jc hev has hvs;obtain ⟨bs,hfe,hbs⟩:=(show zb κ (s.n++s.m) w (.fn g ids) (a.eval f') from hev _ _ _ hopd hfv);have hreps':za (Rep κ (s.n++s.m) w) (vs++ids.map fun i => .ptr i 0) (c.args.map a.eval++(bs.map fun b=>Value.pointer (some ⟨b,0,none⟩)).toArray).toList:=by
     rw [Array.toList_append,Array.toList_map,List.toList_toArray];refine hreps.append (za.of_get (by simp [hbs.length]) fun i x v hx hv=>?_);simp only [List.getElem?_map,Option.map_eq_some_iff] at hx hv;obtain ⟨id,hid,rfl⟩:=hx;obtain ⟨b,hb,rfl⟩:=hv;obtain ⟨b',hb',⟨cs,h1⟩,h2⟩:=hbs.get i id hid;rw [hb] at hb'; cases hb';exact ⟨b,cs,h1,h2,rfl⟩
    have hrun:(execOp a.eval o).run P w = .ok (.enter g (c.args.map a.eval++(bs.map fun b=>Value.pointer (some ⟨b,0,none⟩)).toArray)) w:=by
     simp only [execOp,ho,resolve,hcal,hfe,Deferred.ofValue,pure_bind,invoke]
     simpa using QW hcb
    simp only [Oper.wp,hrun,Oper.upon_enter];refine (zeV hrel.below hrel.mw hreps' hk).mono ?_;rintro e w' ⟨v,κ',r,m',rfl,hK,hmw,hp,hrep⟩;refine ⟨_,⟨κ',?_,?_⟩,hK⟩
    ·rw [hdst]; exact hrel.put hmw hp hN (.inl hrep)
    ·intro id hid; simp [lk] at hid
   ·exact hk.elim
  ·obtain ⟨n,v,w',κ',r,m',hrun,hn,hK,hmw,hp,hrep⟩:=zob hrel.mw hrel.big hev (fun _=>rfl) hop h;have hfin:∃ s',RelS W0 w0 κ0 m0 N s' (a.put o.dst v) w'∧K s':=by
    refine ⟨_,⟨κ',?_,?_⟩,hK⟩
    ·rw [hdst];refine hrel.put hmw hp hN ?_;rcases hn with hn | ⟨_,_,hn⟩
     ·exact .inl (hrep hn)
     ·right;exact hst.resolve_right (by rw [zka hop hn]; simp)
    ·intro id hid; simp [lk] at hid
   rcases hn with rfl | ⟨rfl,rfl,_⟩
   ·simp only [Oper.wp,hrun,Oper.upon_value]; exact hfin
   ·simp only [Oper.wp,hrun,Oper.upon_skip]; exact hfin
 ·
  unfold Y4 at h;split at h
  ·rename_i f as heq;obtain ⟨c,ho,hc⟩:=Q3 hop (by rw [heq]; rfl);obtain ⟨f',as',hcal,hcb,has,heq'⟩:∃ f' as',c.callee = .value (.func f')∧yq P f'=true∧opds c.args.toList=some as'∧(ao.op = .call f' as'∨ao.op = .opn f' as'):=by
    rcases hc with hc | ⟨_,_,_,_,_,_,hh⟩
    ·exact hc
    ·rw [heq] at hh; rcases hh with hh | hh<;>cases hh
   rw [heq] at heq';rcases heq' with heq' | heq'
   ·cases heq';obtain ⟨vs,hvs,hk⟩:=ze h;have hreps:=Jc hev has hvs;rw [← Array.toList_map] at hreps;have hrun:(execOp a.eval o).run P w = .ok (.enter f (c.args.map a.eval)) w:=by
     simp only [execOp,ho,resolve,hcal,Act.eval,Deferred.ofValue,pure_bind,invoke]
     simpa using QW hcb
    simp only [Oper.wp,hrun,Oper.upon_enter];refine (zcn hrel.below hrel.mw (zbX hfr) hreps hk).mono ?_;rintro e w' ⟨v,κ',r,news,rfl,⟨hf,_,hK⟩,hv⟩;rw [← hdst];exact zah hrel hfr (hdst▸hN) hf hK (hv (Jk hf))
   ·cases heq'
  ·rename_i f as heq;obtain ⟨c,ho,hc⟩:=Q3 hop (by rw [heq]; rfl);obtain ⟨f',af,as',hcal,hopd,has,heq'⟩:∃ f af as',c.callee = .value f∧opd f=some af∧opds c.args.toList=some as'∧(ao.op = .callv af as'∨ao.op = .opv af as'):=by
    rcases hc with ⟨_,_,_,_,_,hh⟩ | hc
    ·rw [heq] at hh; rcases hh with hh | hh<;>cases hh
    ·exact hc
   rw [heq] at heq';rcases heq' with heq' | heq';rotate_left
   ·cases heq'
   cases heq';obtain ⟨fv,hfv,hk⟩:=ze h;split at hk
   ·rename_i g fst caps;obtain ⟨rfl,hk⟩:=hk;obtain ⟨vs,hvs,hcb,hcaps,hk⟩:=ze hk;have hreps:=Jc hev has hvs;have hfe:=(Rep.sc (hev _ _ _ hopd hfv)).1;have hreps':za (Rep κ (s.n++s.m) w) (vs++caps.toList.map fun u => .c (.sc u)) (c.args.map a.eval++caps).toList:=by
     rw [Array.toList_append,Array.toList_map];refine hreps.append (za.of_get (by simp) fun i x v hx hv=>?_);simp only [List.getElem?_map,Option.map_eq_some_iff] at hx;obtain ⟨u,hu,rfl⟩:=hx;rw [hv] at hu; cases hu;exact .of_c (.sc (hcaps _ (List.mem_of_getElem? hv)))
    have hrun:(execOp a.eval o).run P w = .ok (.enter g (c.args.map a.eval++caps)) w:=by
     simp only [execOp,ho,resolve,hcal,hfe,Deferred.ofValue,pure_bind,invoke]
     simpa using QW hcb
    simp only [Oper.wp,hrun,Oper.upon_enter];refine (zcn hrel.below hrel.mw (zbX hfr) hreps' hk).mono ?_;rintro e w' ⟨v,κ',r,news,rfl,⟨hf,_,hK⟩,hv⟩;rw [← hdst];exact zah hrel hfr (hdst▸hN) hf hK (hv (Jk hf))
   ·exact hk.elim
  ·obtain ⟨v,w',κ',r,news,hrun,⟨hf,_,hK⟩,hv⟩:=zn7 hrel.mw hrel.big (zbX hfr) hev hop h;simp only [Oper.wp,hrun,Oper.upon_value];rw [← hdst];exact zah hrel hfr (hdst▸hN) hf hK (hv (Jk hf))
theorem zfZ {seq:Bool} {i:Nat} {ao':AO} (hi:ops[i]? = some o) (hco:ZC P on N ops o=some ao) (he:ao'.dst=ao.dst∧ao'.op=ao.op∧ao'.guard=ao.guard) (hrel:RelS W0 w0 κ0 m0 N s a w) (h:zZ P W0 seq ao' s K) :
  wpOp P ops Q i (fun a' w'=>∃ s',RelS W0 w0 κ0 m0 N s' a' w'∧K s') a w:=by
 obtain ⟨hop,hdst,hN,hst,hg⟩:=zcA hco;obtain ⟨he1,he2,he3⟩:=he;have gs:goL P W0 seq ao' s K→o.wp P a w (fun a' w'=>∃ s',RelS W0 w0 κ0 m0 N s' a' w'∧K s') Q:=fun hgo=>by
  obtain ⟨_,hgo⟩:=hgo;have hgo:go P W0 seq ao s fun s'=>(ao'.lo=true→kpOk ao' s s')∧K s':=by
   unfold go at hgo ⊢;rw [he1,he2] at hgo;exact hgo
  refine Oper.wp_mono ?_ (zlN hco hrel hgo);rintro a' w' ⟨s',h1,_,h2⟩;exact ⟨s',h1,h2⟩
 unfold wpOp;simp only [hi];unfold zZ at h;rcases hg with ⟨hg1,hg2⟩ | ⟨j,want,t,hg1,ht,hg2⟩
 ·rw [he3,hg2] at h;simp only [Region.wanted,hg1,if_true];exact .inl (gs h)
 ·rw [he3,hg2] at h;obtain ⟨v,hv,hk⟩:=ze h;have hskip:Region.wanted o (yielded ops a.tmps)=false→K (skS s ao')→(if Region.wanted o (yielded ops a.tmps)=true then o.wp P a w (fun a' w'=>∃ s',RelS W0 w0 κ0 m0 N s' a' w'∧K s') Q∨(o.asks P a w∧LetsOut Q)
    else (fun a' w'=>∃ s',RelS W0 w0 κ0 m0 N s' a' w'∧K s') (a.put o.dst undef) w):=by
   intro hw hK;rw [hw];simp only [Bool.false_eq_true,if_false];obtain ⟨κ,hr,hfr⟩:=hrel;refine ⟨skS s ao',⟨κ,?_,hfr⟩,hK⟩;simp only [skS];rw [he1,hdst];exact hr.put hr.mw (Pres.refl _ _ _) hN (.inl (RepC.tup (cs:=[]) (vs:=[]) rfl (fun i x v hx=>by simp at hx)))
  split at hk
  ·rename_i b;have hsc:a.tmps.getD t undef = .bool b:=by
    obtain ⟨κ,hr,_⟩:=hrel;exact (Rep.sc (hr.tmps t _ hv).2).1
   have hlt:t < a.tmps.size:=by
    obtain ⟨κ,hr,_⟩:=hrel;rw [hr.size]; exact (hr.tmps t _ hv).1
   have hy:yielded ops a.tmps j=some b:=by
    unfold yielded;rw [ht];have:a.tmps[t]? = some (.bool b):=by
     rw [Array.getElem?_eq_getElem hlt];simp only [Array.getD_eq_getD_getElem?,Array.getElem?_eq_getElem hlt,Option.getD_some] at hsc;rw [hsc]
    simp [this]
   by_cases hb:b=want
   ·subst hb;simp only [Region.wanted,hg1,hy,beq_self_eq_true,if_true];exact .inl (gs (hk.1 rfl))
   ·have hw:Region.wanted o (yielded ops a.tmps)=false:=by simp [Region.wanted,hg1,hy,hb]
    exact hskip hw (hk.2 (by cases b<;>cases want<;>simp_all))
  ·have hy:yielded ops a.tmps j=none:=by
    unfold yielded;rw [ht];obtain ⟨κ,hr,_⟩:=hrel;have h2:=(hr.tmps t _ hv).2;have hlt:t < a.tmps.size:=by rw [hr.size]; exact (hr.tmps t _ hv).1
    have e:a.tmps[t]? = some (.tuple #[]):=by
     rw [Array.getElem?_eq_getElem hlt];simp only [Array.getD_eq_getD_getElem?,Array.getElem?_eq_getElem hlt,Option.getD_some] at h2;have h3:RepC w (zf κ (s.n++s.m)) (.tup []) a.tmps[t]:=h2;generalize a.tmps[t]=u at h3;cases h3 with
     | @tup _ vs hl _ =>
      cases vs with
      | nil=>rfl
      | cons x l=>simp at hl
    simp [e]
   have hw:Region.wanted o (yielded ops a.tmps)=false:=by simp [Region.wanted,hg1,hy]
   exact hskip hw hk
  ·exact hk.elim
end
def Det (S:(PV→Mem→Prop)→Prop):Prop:=(∀ K,¬ S K)∨∃ r,∀ K,S K↔K r []
theorem ja {r:PV}:Det fun K=>K r [] := .inr ⟨r,fun _=>Iff.rfl⟩
theorem jx:Det fun _=>False := .inl fun _ h=>h
theorem jU {p:Prop} {S:(PV→Mem→Prop)→Prop} (h:Det S):Det fun K=>p∧S K:=by
 by_cases hp:p
 ·rcases h with h | ⟨r,h⟩
  ·exact .inl fun K hk=>h K hk.2
  ·exact .inr ⟨r,fun K=>⟨fun hk=>(h K).1 hk.2,fun hk=>⟨hp,(h K).2 hk⟩⟩⟩
 ·exact .inl fun K hk=>hp hk.1
theorem zke {b:Bool} {S S':(PV→Mem→Prop)→Prop} (h:Det S) (h':Det S'):Det fun K=>(b=true→S K)∧(b=false→S' K):=by
 cases b with
 | true =>
  rcases h with h | ⟨r,h⟩
  ·exact .inl fun K hk=>h K (hk.1 rfl)
  ·exact .inr ⟨r,fun K=>⟨fun hk=>(h K).1 (hk.1 rfl),fun hk=>⟨fun _=>(h K).2 hk,fun hh=>absurd hh (by simp)⟩⟩⟩
 | false =>
  rcases h' with h | ⟨r,h⟩
  ·exact .inl fun K hk=>h K (hk.2 rfl)
  ·exact .inr ⟨r,fun K=>⟨fun hk=>(h K).1 (hk.2 rfl),fun hk=>⟨fun hh=>absurd hh (by simp),fun _=>(h K).2 hk⟩⟩⟩
theorem jg {α:Type} {o:Option α} {S:α→(PV→Mem→Prop)→Prop} (h:∀ v,Det (S v)):Det fun K=>onv o fun v=>S v K:=by
 cases o with
 | none=>exact .inl fun _ h=>h
 | some v=>exact h v
theorem J1 {ρ:AX→Option PV} {x:Option AX} {n:Nat} {S:Nat→(PV→Mem→Prop)→Prop} (h:∀ v,Det (S v)):Det fun K=>bnd ρ x n fun v=>S v K:=by
 cases x with
 | none=>exact h n
 | some x =>
  simp only [bnd];split
  ·exact jU (h _)
  ·exact jx
theorem zkd {α:Type} {S:α→(PV→Mem→Prop)→Prop} {q:α→Prop} (hu:∀ a b,q a→q b→a=b) (h:∀ v,Det (S v)):Det fun K=>∃ v,q v∧S v K:=by
 by_cases hq:∃ v,q v
 ·obtain ⟨v,hv⟩:=hq;rcases h v with h' | ⟨r,h'⟩
  ·exact .inl fun K ⟨u,hu',hk⟩=>h' K (hu u v hu' hv▸hk)
  ·exact .inr ⟨r,fun K=>⟨fun ⟨u,hu',hk⟩=>(h' K).1 (hu u v hu' hv▸hk),fun hk=>⟨v,hv,(h' K).2 hk⟩⟩⟩
 ·exact .inl fun K ⟨u,hu',_⟩=>hq ⟨u,hu'⟩
theorem zkc {op:BinOp} {a b:Value}:Det fun K=>binV op a b fun r=>K r []:=by
 cases a with
 | int k x =>
  cases b with
  | int k' y =>
   refine jU ?_;cases op<;>first|exact ja|exact jx|exact jU ja|exact jU (jU ja)
  | _=>exact jx
 | string s =>
  cases b with
  | string t=>cases op<;>first|exact ja|exact jx|exact jU ja
  | _=>exact jx
 | _=>exact jx
theorem zfX {ρ:AX→Option PV} {op:AOp} {d:Nat} {m:Mem} (h:op.tch=false):Det (zo ρ d m op):=by
 cases op<;>simp only [AOp.tch,Bool.true_eq_false] at h
 case mv x=>exact jg fun v=>ja
 case nck x=>exact jg fun v=>by cases v<;>first|exact ja|exact jx
 case pick c a b =>
  refine jg fun v=>?_
  split
  ·exact zke (jg fun _=>ja) (jg fun _=>ja)
  ·exact jx
 case build z ps=>exact jg fun v=>ja
 case fa off x=>exact jg fun v=>by cases v<;>first|exact ja|exact jx
 case fld off n g x =>
  refine jg fun v=>?_
  cases g<;>(split<;>first|exact jx|exact jU ja|exact jg fun _=>ja)
 case idx x i =>
  refine jg fun v=>?_
  split
  ·refine jg fun v=>?_
   split
   ·exact jU (zkd (fun a b ha hb=>by rw [ha] at hb; exact Option.some.inj hb) fun _=>ja)
   ·exact jx
  ·exact jx
 case sls x lo hi =>
  refine jg fun v=>?_
  split
  ·exact J1 fun _=>J1 fun _=>jU (jU ja)
  ·exact jx
 case slr n x lo hi =>
  refine jg fun v=>?_
  split
  ·exact jU (J1 fun _=>J1 fun _=>jU (jU ja))
  ·exact J1 fun _=>jU (jU ja)
  ·exact jx
 case bin op x y =>
  refine jg fun v=>jg fun u=>?_
  split
  ·exact zkc
  ·exact jx
 case bb neg x y =>
  refine jg fun v=>jg fun u=>?_
  split
  ·exact ja
  ·exact jx
 case beq neg ks x y =>
  refine jg fun v=>jg fun u=>?_
  split
  ·exact jU (jU (jg fun _=>ja))
  ·exact jx
 case un op x =>
  refine jg fun v=>?_
  split
  ·exact ja
  ·exact ja
  ·exact jx
 case conv k x =>
  refine jg fun v=>?_
  split
  ·exact ja
  ·exact jx
 case cvs x =>
  refine jg fun v=>?_
  split
  ·exact ja
  ·exact jx
 case ext x i =>
  refine jg fun v=>?_
  split
  ·exact jg fun _=>ja
  ·exact jg fun _=>ja
  ·exact jx
 case len s x =>
  refine jg fun v=>?_
  split
  ·exact ja
  ·exact ja
  ·exact ja
  ·exact ja
  ·exact ja
  ·exact jx
 case mm mx x y =>
  refine jg fun v=>jg fun u=>?_
  split
  ·exact jU ja
  ·exact jx
 case fnv f caps =>
  refine jg fun v=>?_
  split
  ·exact ja
  ·exact jg fun _=>jU ja
theorem zbV {ρ:AX→Option PV} {op:AOp} {d:Nat} {m m':Mem} {K:PV→Mem→Prop} (h:op.tch=false) (hs:zo ρ d m op K):zo ρ d m' op K:=by
 cases op<;>simp only [AOp.tch,Bool.true_eq_false] at h<;>exact hs
theorem zn6 {ρ:AX→Option PV} {op:AOp} {d:Nat} {m m':Mem} {K:PV→Mem→Prop} (h:∀ id,lk m id=lk m' id) (hs:zo ρ d m op K):zo ρ d m' op K:=by
 have h':lk m=lk m':=funext h;have he:∀ sz v K,jP m sz v K=jP m' sz v K:=by
  intro sz v K;cases v<;>simp only [jP,h']
 cases op with
 | app f =>
  cases f with
  | true=>simp only [zo,h',he] at hs ⊢; exact hs
  | false=>exact hs.elim
 | _=>first|exact hs|(simp only [zo,h',he] at hs ⊢; exact hs)|exact hs.elim
def Sim {α:Type} (a b:List (Nat × α)):Prop:=∀ t,lk a t=lk b t
theorem Sim.refl {α:Type} (a:List (Nat × α)):Sim a a:=fun _=>rfl
theorem Sim.symm {α:Type} {a b:List (Nat × α)} (h:Sim a b):Sim b a:=fun t=>(h t).symm
theorem Sim.trans {α:Type} {a b c:List (Nat × α)} (h:Sim a b) (k:Sim b c):Sim a c:=fun t=>(h t).trans (k t)
theorem Sim.app {α:Type} {a b c d:List (Nat × α)} (h:Sim a b) (k:Sim c d):Sim (a++c) (b++d):=fun t=>by rw [j8,j8,h t,k t]
theorem Sim.put {F G:List (Nat × PV)} (h:Sim F G) (d:Option Nat) (r:PV):Sim (zl F d r) (zl G d r):=fun t=>by
 cases d with
 | none=>exact h t
 | some d=>simp only [zl,zr,h t]
theorem Sim.upd {m m':Mem} (h:Sim m m') (id:Nat) (b:Blk):Sim (upd m id b) (upd m' id b):=fun t=>by rw [ZK,ZK,h t,h id]
theorem Sim.cons {m m':Mem} (h:Sim m m') (id:Nat) (b:Blk):Sim ((id,b)::m) ((id,b)::m'):=fun t=>by rw [zr,zr,h t]
theorem Sim.merge {m m':Mem} (h:Sim m m') (l:Mem):Sim (merge m l) (merge m' l):=fun t=>by rw [Ze,Ze,h t]
theorem Y8 {ρ:AX→Option PV} {op:AOp} {d:Nat} {m m':Mem} {K:PV→Mem→Prop} (h:Sim m m') (hs:jZ ρ d m op K):jZ ρ d m' op fun r x=>∃ y,Sim y x∧K r y:=by
 have h':lk m=lk m':=funext h;have he:∀ sz v K,jP m sz v K=jP m' sz v K:=by
  intro sz v K;cases v<;>simp only [jP,h']
 cases op with
 | newb z=>exact ⟨by rw [← h']; exact hs.1,_,h.cons _ _,hs.2⟩
 | newr k e z=>exact ⟨by rw [← h']; exact hs.1,_,h.cons _ _,hs.2⟩
 | st n a x =>
  obtain ⟨p,hp,hk⟩:=ze hs;obtain ⟨v,hv,hk⟩:=ze hk;refine zn hp (zn hv ?_);cases p with
  | ptr id off =>
   simp only [h'] at hk;split at hk
   ·rename_i cs hl;simp only [hl];exact ⟨hk.1,hk.2.1,hk.2.2.1,_,h.upd _ _,hk.2.2.2⟩
   ·exact hk.elim
  | eo id n' i off =>
   simp only [h'] at hk;split at hk
   ·rename_i L sz e hl;simp only [hl];obtain ⟨h1,y,h2,h3,h4,h5,h6⟩:=hk;exact ⟨h1,y,h2,h3,h4,h5,_,h.upd _ _,h6⟩
   ·exact hk.elim
  | _=>exact (show False from hk).elim
 | app f sz bytes e s x =>
  cases f with
  | true=>exact hs.elim
  | false =>
   obtain ⟨v,hv,hk⟩:=ze hs;refine zn hv ?_;cases v with
   | nil =>
    obtain ⟨u,hu,hk⟩:=ze hk;refine zn hu ?_;rw [he] at hk;obtain ⟨L,⟨h1,h2,h3,h4,h5⟩,hw⟩:=y9 hk;exact hw _ ⟨h1,h2,h3,by rw [← h']; exact h4,_,h.cons _ _,h5⟩
   | own id n =>
    simp only [h'] at hk;split at hk
    ·rename_i L sz' e' hl;simp only [hl];obtain ⟨h1,h2,h3,hk⟩:=hk;refine ⟨h1,h2,h3,?_⟩;obtain ⟨u,hu,hk⟩:=ze hk;refine zn hu ?_;rw [he] at hk;obtain ⟨L',⟨h4,h5,h6⟩,hw⟩:=y9 hk;refine hw _ ⟨h4,h5,?_⟩;by_cases hg:id % 16=15
     ·rw [if_pos hg] at h6 ⊢;obtain ⟨C,C',h7,h8,h9⟩:=h6;exact ⟨C,C',h7,h8,_,h.upd _ _,h9⟩
     ·rw [if_neg hg] at h6 ⊢;exact ⟨_,h.upd _ _,h6⟩
    ·exact hk.elim
   | _=>exact (show False from hk).elim
 | _=>exact hs.elim
theorem Y7 {ρ:AX→Option PV} {op:AOp} {d:Nat} {m:Mem} {K:PV→Mem→Prop} (hs:jZ ρ d m op K):∃ r x,K r x:=by
 cases op with
 | newb z=>exact ⟨_,_,hs.2⟩
 | newr k e z=>exact ⟨_,_,hs.2⟩
 | st n a x =>
  obtain ⟨p,hp,hk⟩:=ze hs;obtain ⟨v,hv,hk⟩:=ze hk;cases p with
  | ptr id off =>
   simp only [] at hk;split at hk
   ·exact ⟨_,_,hk.2.2.2⟩
   ·exact hk.elim
  | eo id n' i off =>
   simp only [] at hk;split at hk
   ·obtain ⟨h1,y,h2,h3,h4,h5,h6⟩:=hk;exact ⟨_,_,h6⟩
   ·exact hk.elim
  | _=>exact (show False from hk).elim
 | app f sz bytes e s x =>
  cases f with
  | true=>exact hs.elim
  | false =>
   obtain ⟨v,hv,hk⟩:=ze hs;cases v with
   | nil =>
    obtain ⟨u,hu,hk⟩:=ze hk;obtain ⟨L,⟨h1,h2,h3,h4,h5⟩,hw⟩:=y9 hk;exact ⟨_,_,h5⟩
   | own id n =>
    simp only [] at hk;split at hk
    ·obtain ⟨h1,h2,h3,hk⟩:=hk;obtain ⟨u,hu,hk⟩:=ze hk;obtain ⟨L',⟨h4,h5,h6⟩,hw⟩:=y9 hk;split at h6
     ·obtain ⟨C,C',h7,h8,h9⟩:=h6;exact ⟨_,_,h9⟩
     ·exact ⟨_,_,h6⟩
    ·exact hk.elim
   | _=>exact (show False from hk).elim
 | _=>exact hs.elim
theorem Zw {ρ:AX→Option PV} {op:AOp} {d:Nat} {m:Mem} {K K':PV→Mem→Prop} (hk:∀ r x,K r x→K' r x) (hs:jZ ρ d m op K):jZ ρ d m op K':=by
 cases op with
 | newb z=>exact ⟨hs.1,hk _ _ hs.2⟩
 | newr k e z=>exact ⟨hs.1,hk _ _ hs.2⟩
 | st n a x =>
  obtain ⟨p,hp,h⟩:=ze hs;obtain ⟨v,hv,h⟩:=ze h;refine zn hp (zn hv ?_);cases p with
  | ptr id off =>
   simp only [] at h ⊢;split at h
   ·rename_i cs hl;try simp only [hl]
    exact ⟨h.1,h.2.1,h.2.2.1,hk _ _ h.2.2.2⟩
   ·exact h.elim
  | eo id n' i off =>
   simp only [] at h ⊢;split at h
   ·rename_i L sz e hl;try simp only [hl]
    obtain ⟨h1,y,h2,h3,h4,h5,h6⟩:=h;exact ⟨h1,y,h2,h3,h4,h5,hk _ _ h6⟩
   ·exact h.elim
  | _=>exact (show False from h).elim
 | app f sz bytes e s x =>
  cases f with
  | true=>exact hs.elim
  | false =>
   obtain ⟨v,hv,h⟩:=ze hs;refine zn hv ?_;cases v with
   | nil =>
    obtain ⟨u,hu,h⟩:=ze h;refine zn hu ?_;obtain ⟨L,⟨h1,h2,h3,h4,h5⟩,hw⟩:=y9 h;exact hw _ ⟨h1,h2,h3,h4,hk _ _ h5⟩
   | own id n =>
    simp only [] at h ⊢;split at h
    ·rename_i L sz' e' hl;obtain ⟨h1,h2,h3,h⟩:=h;obtain ⟨u,hu,h⟩:=ze h;obtain ⟨L',⟨h4,h5,h6⟩,hw⟩:=y9 h;refine ⟨h1,h2,h3,zn hu (hw _ ⟨h4,h5,?_⟩)⟩;by_cases hg:id % 16=15
     ·rw [if_pos hg] at h6 ⊢;obtain ⟨C,C',h7,h8,h9⟩:=h6;exact ⟨C,C',h7,h8,hk _ _ h9⟩
     ·rw [if_neg hg] at h6 ⊢;exact hk _ _ h6
    ·exact h.elim
   | _=>exact (show False from h).elim
 | _=>exact hs.elim
def RS.Sim (s s':RS):Prop:=YtmkmldepkponaaaGreatDoor.Sim s.F s'.F∧YtmkmldepkponaaaGreatDoor.Sim s.m s'.m∧YtmkmldepkponaaaGreatDoor.Sim s.n s'.n
theorem RS.Sim.refl (s:RS):RS.Sim s s:=⟨.refl _,.refl _,.refl _⟩
theorem RS.Sim.symm {s t:RS} (h:RS.Sim s t):RS.Sim t s:=⟨h.1.symm,h.2.1.symm,h.2.2.symm⟩
theorem RS.Sim.trans {s t u:RS} (h:RS.Sim s t) (k:RS.Sim t u):RS.Sim s u:=⟨h.1.trans k.1,h.2.1.trans k.2.1,h.2.2.trans k.2.2⟩
def up (K:RS→Prop) (s:RS):Prop:=∃ s',RS.Sim s' s∧K s'
theorem zoq {K:RS→Prop} {s:RS} (h:K s):up K s:=⟨s,.refl s,h⟩
theorem zor {K:RS→Prop} {s:RS} (h:up (up K) s):up K s:=by
 obtain ⟨t,h1,u,h2,h3⟩:=h; exact ⟨u,h2.trans h1,h3⟩
def putS (s:RS) (dst:Option Nat) (r:PV) (news:Mem):RS:=⟨zl s.F dst r,s.m,news++s.n⟩
theorem Yq {news m:Mem}:j4 news m=true↔∀ id,(lk news id).isSome=true→lk m id=none:=by
 constructor
 ·exact fun h=>Jk h
 ·intro h;induction news with
  | nil=>rfl
  | cons a l ih =>
   obtain ⟨k,b⟩:=a;simp only [j4,List.all_cons,Bool.and_eq_true];refine ⟨by simp [h k (by simp [lk])],?_⟩;refine ih fun id hid=>h id ?_
   rw [zr]; split
   ·rfl
   ·exact hid
theorem zlC {news m m':Mem} (h:Sim m m') (hf:j4 news m=true):j4 news m'=true:=by
 rw [Yq] at *;exact fun id hid=>(h id).symm.trans (hf id hid)
theorem zk.symm {l:List Nat} {F G:List (Nat × PV)} (h:zk l F G):zk l G F:=fun t ht=>(h t ht).symm
theorem znB {m m':Mem} (h:Sim m m') (vs:List PV):jJ m vs=jJ m' vs:=by
 have h':lk m=lk m':=funext h;have h0:∀ x,yi m x=yi m' x:=fun x=>by cases x<;>simp only [yi,h']
 have hi:∀ l,qk m l=qk m' l:=fun l=>by
  induction l with
  | nil=>rfl
  | cons x l ih=>simp only [qk,h0,ih]
 have h1':∀ x,yG m x=yG m' x:=fun x=>by cases x<;>simp only [yG,h',hi]
 have hs:∀ l,qG m l=qG m' l:=fun l=>by
  induction l with
  | nil=>rfl
  | cons x l ih=>simp only [qG,h1',ih]
 have h1:∀ x,snap m x=snap m' x:=fun x=>by cases x<;>simp only [snap,h1',hs]
 induction vs with
 | nil=>rfl
 | cons x l ih=>simp only [jJ,h1,ih]
section
variable {P:Program} {W0:World} {o a b:AO} {s:RS} {K K':RS→Prop}
theorem yI {ρ:AX→Option PV} {d:Nat} {m:Mem} {op:AOp} (h:op.isCall=false) {K:PV→Mem→Prop}:Y4 P W0 ρ d m op K=zo ρ d m op K:=by
 cases op<;>first|rfl|simp [AOp.isCall] at h
theorem zj4 {op:AOp} (h:op.isCall=true):op.tch=true:=by cases op<;>first|rfl|simp [AOp.isCall] at h
theorem zgp {op:AOp} (h:op.wr=true):op.tch=true:=by cases op<;>first|rfl|simp [AOp.wr] at h
theorem qc {ρ:AX→Option PV} {d:Nat} {m:Mem} {op:AOp} (h:op.isCall=false) {K:PV→Mem→Prop}:JL P W0 ρ d m op K=jZ ρ d m op K:=by
 cases op<;>first|rfl|simp [AOp.isCall] at h
theorem QX {f:FuncId} {vs:List PV} {m:Mem} {K:PV→Mem→Prop} (h:JW P W0 f vs m K):∃ r news,K r news∧∀ m' (K':PV→Mem→Prop),Sim m' m→K' r news→JW P W0 f vs m' K':=by
 obtain ⟨cs,hcs,r,news,h1,h2,h3⟩:=ze h;exact ⟨r,news,h3,fun m' K' hm hk=>zn ((znB hm vs).trans hcs) ⟨r,news,h1,h2,hk⟩⟩
theorem zeU {f:FuncId} {vs:List PV} {m m':Mem} {K:PV→Mem→Prop} (hm:Sim m m') (h:Zp P W0 f vs m K):Zp P W0 f vs m' fun r x=>∃ y,Sim y x∧K r y:=by
 obtain ⟨mp,Φ,h1,h2,h3,h4,h5,h6⟩:=h;refine ⟨mp,Φ,fun id b hb=>(hm id).symm.trans (h1 id b hb),h2,h3,h4,h5,fun r x hx=>?_⟩;obtain ⟨h7,h8⟩:=h6 r x hx;exact ⟨fun id hid=>(h7 id hid).imp (fun h=>h) fun h=>(hm id).symm.trans h,_,hm.merge _,h8⟩
theorem YN {f:FuncId} {vs:List PV} {m:Mem} {K K':PV→Mem→Prop} (hk:∀ r x,K r x→K' r x) (h:Zp P W0 f vs m K):Zp P W0 f vs m K':=by
 obtain ⟨mp,Φ,h1,h2,h3,h4,h5,h6⟩:=h;exact ⟨mp,Φ,h1,h2,h3,h4,h5,fun r x hx=>⟨(h6 r x hx).1,hk _ _ (h6 r x hx).2⟩⟩
theorem zeT {f:FuncId} {vs:List PV} {m:Mem} {K:PV→Mem→Prop} (h:Zp P W0 f vs m K):∃ r x,K r x:=by
 obtain ⟨mp,Φ,h1,h2,h3,h4,⟨r,x,h5⟩,h6⟩:=h;exact ⟨r,_,(h6 r x h5).2⟩
theorem Yr (hw:o.op.wr=false) {K:RS→Prop} (h:go P W0 false o s K):∃ r news,K (putS s o.dst r news)∧j4 news (s.n++s.m)=true ∧
  (o.op.tch=false→news=[])∧∀ F' m' n' (K':RS→Prop),zk o.op.rds s.F F'→(o.op.tch=true→Sim m' s.m)→j4 news (n'++m')=true→K' (putS ⟨F',m',n'⟩ o.dst r news)→go P W0 false o ⟨F',m',n'⟩ K':=by
 simp only [go,hw,Bool.false_eq_true,if_false] at h ⊢;by_cases hcall:o.op.isCall=true
 ·cases hop:o.op with
  | call f args =>
   rw [hop] at h;obtain ⟨vs,hvs,h⟩:=ze h;obtain ⟨r,news,⟨h1,h2,h3⟩,h4⟩:=QX h;refine ⟨r,news,h3,h1,fun hh=>by simp [AOp.tch] at hh,fun F' m' n' K' ha hm hf hk=>?_⟩;exact zn ((yv ha.symm).trans hvs) (h4 _ _ (hm rfl) ⟨hf,h2,hk⟩)
  | callv f args =>
   rw [hop] at h;obtain ⟨fv,hfv,h⟩:=ze h;split at h
   ·rename_i g fst caps;obtain ⟨h0,h⟩:=h;obtain ⟨vs,hvs,hcb,hcaps,h⟩:=ze h;obtain ⟨r,news,⟨h1,h2,h3⟩,h4⟩:=QX h;refine ⟨r,news,h3,h1,fun hh=>by simp [AOp.tch] at hh,fun F' m' n' K' ha hm hf hk=>?_⟩;refine zn ((zF ha.left.symm).trans hfv) ?_;exact ⟨h0,zn ((yv ha.right.symm).trans hvs) ⟨hcb,hcaps,h4 _ _ (hm rfl) ⟨hf,h2,hk⟩⟩⟩
   ·exact h.elim
  | opn f args=>rw [hop] at hw; simp [AOp.wr] at hw
  | opv f args=>rw [hop] at hw; simp [AOp.wr] at hw
  | _=>rw [hop] at hcall; simp [AOp.isCall] at hcall
 ·have hcall:o.op.isCall=false:=by simpa using hcall
  rw [yI hcall] at h;cases htch:o.op.tch with
  | false =>
   rcases zfX (ρ:=AX.ev s.F) (d:=o.dst.getD 0) (m:=s.m) htch with hd | ⟨r,hd⟩
   ·exact absurd h (hd _)
   ·obtain ⟨h1,h2,h3⟩:=(hd _).1 h;refine ⟨r,[],h3,h1,fun _=>rfl,fun F' m' n' K' ha hm hf hk=>?_⟩;rw [yI hcall,← zbU ha];exact zbV htch ((hd _).2 ⟨hf,.inr rfl,hk⟩)
  | true =>
   obtain ⟨r,news,⟨h1,h2,h3⟩,_,h4⟩:=zfY h;refine ⟨r,news,h3,h1,fun h=>by simp at h,fun F' m' n' K' ha hm hf hk=>?_⟩;rw [yI hcall,← zbU ha];exact zn6 (fun id=>(hm rfl id).symm) (h4 _ ⟨hf,h2,hk⟩)
theorem zlL (ht:o.op.tch=false) {K:RS→Prop} (h:go P W0 false o s K):∃ r,∀ F' m' n' (K':RS→Prop),zk o.op.rds s.F F'→(go P W0 false o ⟨F',m',n'⟩ K'↔(o.dst.isSome=true∨True)∧K' (putS ⟨F',m',n'⟩ o.dst r [])):=by
 have hw:o.op.wr=false:=by
  cases hw:o.op.wr with
  | false=>rfl
  | true=>rw [zgp hw] at ht; cases ht
 have hcall:o.op.isCall=false:=by
  cases hc:o.op.isCall with
  | false=>rfl
  | true=>rw [zj4 hc] at ht; cases ht
 simp only [go,hw,Bool.false_eq_true,if_false] at h ⊢;rw [yI hcall] at h;rcases zfX (ρ:=AX.ev s.F) (d:=o.dst.getD 0) (m:=s.m) ht with hd | ⟨r,hd⟩
 ·exact absurd h (hd _)
 ·refine ⟨r,fun F' m' n' K' ha=>?_⟩;rw [yI hcall,← zbU ha];constructor
  ·intro hk;have:=(hd _).1 (zbV (m':=s.m) ht hk);exact ⟨.inr trivial,this.2.2⟩
  ·intro hk;exact zbV ht ((hd _).2 ⟨rfl,.inr rfl,hk.2⟩)
theorem q8 (hw:o.op.wr=true) {F1 F2:List (Nat × PV)} {m m' n n':Mem} (h:go P W0 false o ⟨F1,m,n⟩ K) (ha:zk o.op.rds F1 F2) (hm:Sim m m') (hn:Sim n n') :
  go P W0 false o ⟨F2,m',n'⟩ fun s'=>∃ r x y,s'=⟨zl F2 o.dst r,x,[]⟩∧Sim y x∧K ⟨zl F1 o.dst r,y,[]⟩:=by
 simp only [go,hw,if_true] at h ⊢;cases hop:o.op with
 | opn f args =>
  rw [hop] at h ha;obtain ⟨vs,hvs,h⟩:=ze h;refine zn ((yv ha.symm).trans hvs) ?_;refine YN ?_ (zeU (hn.app hm) h);rintro r x ⟨y,h1,h2⟩;exact ⟨r,x,y,rfl,h1,h2⟩
 | opv f args =>
  rw [hop] at h ha;obtain ⟨fv,hfv,h⟩:=ze h;refine zn ((zF ha.left.symm).trans hfv) ?_;split at h
  ·obtain ⟨h0,h⟩:=h;obtain ⟨vs,hvs,h⟩:=ze h;refine ⟨h0,zn ((yv ha.right.symm).trans hvs) ?_⟩;refine YN ?_ (zeU (hn.app hm) h);rintro r x ⟨y,h1,h2⟩;exact ⟨r,x,y,rfl,h1,h2⟩
  ·exact h.elim
 | st c x y =>
  rw [hop] at h ha;rw [qc rfl] at h ⊢;rw [← Y6 ha];refine Zw ?_ (Y8 (hn.app hm) h);rintro r x ⟨y,h1,h2⟩;exact ⟨r,x,y,rfl,h1,h2⟩
 | app f sz bytes e x y =>
  rw [hop] at h ha;rw [qc rfl] at h ⊢;rw [← Y6 ha];refine Zw ?_ (Y8 (hn.app hm) h);rintro r x ⟨y,h1,h2⟩;exact ⟨r,x,y,rfl,h1,h2⟩
 | newb z =>
  rw [hop] at h ha;rw [qc rfl] at h ⊢;rw [← Y6 ha];refine Zw ?_ (Y8 (hn.app hm) h);rintro r x ⟨y,h1,h2⟩;exact ⟨r,x,y,rfl,h1,h2⟩
 | newr k e z =>
  rw [hop] at h ha;rw [qc rfl] at h ⊢;rw [← Y6 ha];refine Zw ?_ (Y8 (hn.app hm) h);rintro r x ⟨y,h1,h2⟩;exact ⟨r,x,y,rfl,h1,h2⟩
 | _=>rw [hop] at hw; simp [AOp.wr] at hw
theorem zaX (hw:o.op.wr=true) (h:go P W0 false o s K):∃ r x,K ⟨zl s.F o.dst r,x,[]⟩:=by
 simp only [go,hw,if_true] at h;cases hop:o.op with
 | opn f args =>
  rw [hop] at h;obtain ⟨vs,hvs,h⟩:=ze h;exact zeT h
 | opv f args =>
  rw [hop] at h;obtain ⟨fv,hfv,h⟩:=ze h;split at h
  ·obtain ⟨h0,h⟩:=h;obtain ⟨vs,hvs,h⟩:=ze h;exact zeT h
  ·exact h.elim
 | st c x y=>rw [hop,qc rfl] at h; exact Y7 h
 | app f sz bytes e x y=>rw [hop,qc rfl] at h; exact Y7 h
 | newb z=>rw [hop,qc rfl] at h; exact Y7 h
 | newr k e z=>rw [hop,qc rfl] at h; exact Y7 h
 | _=>rw [hop] at hw; simp [AOp.wr] at hw
theorem zdS {seq:Bool} (hW:∀ r m',K ⟨zl s.F o.dst r,m',[]⟩→K' ⟨zl s.F o.dst r,m',[]⟩)
  (hN:∀ r news,j4 news (s.n++s.m)=true→K (if seq then ⟨zl s.F o.dst r,news++(s.n++s.m),[]⟩ else ⟨zl s.F o.dst r,s.m,news++s.n⟩)→K' (if seq then ⟨zl s.F o.dst r,news++(s.n++s.m),[]⟩ else ⟨zl s.F o.dst r,s.m,news++s.n⟩))
  (h:go P W0 seq o s K):go P W0 seq o s K':=by
 unfold go at h ⊢;split at h
 ·rename_i hw;rw [if_pos hw];cases hop:o.op with
  | opn f args =>
   rw [hop] at h;obtain ⟨vs,hvs,h⟩:=ze h;exact zn hvs (YN (fun _ _=>hW _ _) h)
  | opv f args =>
   rw [hop] at h;obtain ⟨fv,hfv,h⟩:=ze h;refine zn hfv ?_;split at h
   ·obtain ⟨h0,h⟩:=h;obtain ⟨vs,hvs,h⟩:=ze h;exact ⟨h0,zn hvs (YN (fun _ _=>hW _ _) h)⟩
   ·exact h.elim
  | st c x y=>rw [hop,qc rfl] at h; rw [qc rfl]; exact Zw (fun _ _=>hW _ _) h
  | app f sz bytes e x y=>rw [hop,qc rfl] at h; rw [qc rfl]; exact Zw (fun _ _=>hW _ _) h
  | newb z=>rw [hop,qc rfl] at h; rw [qc rfl]; exact Zw (fun _ _=>hW _ _) h
  | newr k e z=>rw [hop,qc rfl] at h; rw [qc rfl]; exact Zw (fun _ _=>hW _ _) h
  | _=>rw [hop] at hw; simp [AOp.wr] at hw
 ·rename_i hw;rw [if_neg hw];by_cases hcall:o.op.isCall=true
  ·cases hop:o.op with
   | call f args =>
    rw [hop] at h;obtain ⟨vs,hvs,h⟩:=ze h;obtain ⟨r,news,⟨h1,h2,h3⟩,h4⟩:=QX h;exact zn hvs (h4 _ _ (.refl _) ⟨h1,h2,hN _ _ h1 h3⟩)
   | callv f args =>
    rw [hop] at h;obtain ⟨fv,hfv,h⟩:=ze h;refine zn hfv ?_;split at h
    ·obtain ⟨h0,h⟩:=h;obtain ⟨vs,hvs,hcb,hcaps,h⟩:=ze h;obtain ⟨r,news,⟨h1,h2,h3⟩,h4⟩:=QX h;exact ⟨h0,zn hvs ⟨hcb,hcaps,h4 _ _ (.refl _) ⟨h1,h2,hN _ _ h1 h3⟩⟩⟩
    ·exact h.elim
   | opn f args=>rw [hop] at hw; simp [AOp.wr] at hw
   | opv f args=>rw [hop] at hw; simp [AOp.wr] at hw
   | _=>rw [hop] at hcall; simp [AOp.isCall] at hcall
  ·have hcall:o.op.isCall=false:=by simpa using hcall
   rw [yI hcall] at h ⊢;obtain ⟨r,news,⟨h1,h2,h3⟩,_,h4⟩:=zfY h;exact h4 _ ⟨h1,h2,hN _ _ h1 h3⟩
theorem qM {seq:Bool} (hk:∀ s,K s→K' s) (h:go P W0 seq o s K):go P W0 seq o s K':=zdS (fun _ _=>hk _) (fun _ _ _=>hk _) h
def goG (o:AO) (F:List (Nat × PV)):Prop:=∀ g want,o.guard=some (g,want)→lk F g=some (B want)
def skG (o:AO) (F:List (Nat × PV)):Prop:=∃ g want,o.guard=some (g,want)∧(lk F g=some (B !want)∨lk F g=some (.c (.tup [])))
theorem Jm {o:AO} {F G:List (Nat × PV)} (ha:zk o.rds F G) (h:goG o F) (k:skG o G):False:=by
 obtain ⟨g,want,h1,h2⟩:=k;have h3:=h g want h1;rw [ha g (by simp [AO.rds,h1])] at h3;rcases h2 with h2 | h2
 ·rw [h2] at h3; cases want<;>simp at h3
 ·rw [h2] at h3; simp at h3
theorem zlH {seq:Bool} (hk:∀ s,K s→K' s) (h:goL P W0 seq o s K):goL P W0 seq o s K':=⟨h.1,qM (fun s h=>⟨h.1,hk s h.2⟩) h.2⟩
theorem jD {seq:Bool} (h:zZ P W0 seq o s K) :
  (goG o s.F∧goL P W0 seq o s K∧∀ (s':RS) (K':RS→Prop),zk o.rds s.F s'.F→goL P W0 seq o s' K'→zZ P W0 seq o s' K') ∨
  (skG o s.F∧K (skS s o)∧∀ (s':RS) (K':RS→Prop),zk o.rds s.F s'.F→K' (skS s' o)→zZ P W0 seq o s' K'):=by
 unfold zZ at h ⊢;cases hg:o.guard with
 | none=>rw [hg] at h; exact .inl ⟨(fun g want hh=>by rw [hg] at hh; cases hh),h,fun s' K' _ hk=>hk⟩
 | some gw =>
  obtain ⟨g,want⟩:=gw;rw [hg] at h;obtain ⟨v,hv,h⟩:=ze h;have hag:∀ s':RS,zk o.rds s.F s'.F→lk s'.F g=some v:=fun s' ha=>(ha g (by simp [AO.rds,hg])).symm.trans hv
  split at h
  ·rename_i b;by_cases hb:b=want
   ·subst hb;refine .inl ⟨(fun g' want' hh=>by rw [hg] at hh; cases hh; exact hv),h.1 rfl,fun s' K' ha hk=>?_⟩;exact zn (hag s' ha) ⟨fun _=>hk,fun hh=>by cases b<;>simp at hh⟩
   ·have hb':b=!want:=by cases b<;>cases want<;>simp_all
    refine .inr ⟨⟨g,want,hg,.inl (hb'▸hv)⟩,h.2 hb',fun s' K' ha hk=>?_⟩;exact zn (hag s' ha) ⟨fun hh=>absurd hh hb,fun _=>hk⟩
  ·refine .inr ⟨⟨g,want,hg,.inr hv⟩,h,fun s' K' ha hk=>?_⟩;exact zn (hag s' ha) hk
  ·exact h.elim
theorem QG {seq:Bool} (hk:∀ s,K s→K' s) (h:zZ P W0 seq o s K):zZ P W0 seq o s K':=by
 rcases jD h with ⟨_,h1,h2⟩ | ⟨_,h2,h3⟩
 ·exact h2 s K' (fun _ _=>rfl) (zlH hk h1)
 ·exact h3 s K' (fun _ _=>rfl) (hk _ h2)
theorem zk.of_sim {l:List Nat} {F G:List (Nat × PV)} (h:Sim F G):zk l F G:=fun t _=>h t
theorem jv {F G:List (Nat × PV)} (h:zk o.op.rds F G):ldOk F o↔ldOk G o:=by
 unfold ldOk;cases hop:o.op with
 | ld g n a=>rw [hop] at h; simp only; rw [zF (x:=a) h]
 | ia s x i=>rw [hop] at h; simp only; rw [zF (x:=x) h.left]
 | bsl s e ps=>rw [hop] at h; simp only; rw [yv h]
 | _=>exact Iff.rfl
theorem zn9 {s':RS} (hs:RS.Sim s s') (h:zZ P W0 false o s K):zZ P W0 false o s' (up K):=by
 rcases jD h with ⟨_,h1,h2⟩ | ⟨_,h2,h3⟩
 ·refine h2 s' _ (.of_sim hs.1) ⟨fun hl=>(jv (.of_sim hs.1)).1 (h1.1 hl),?_⟩;cases hw:o.op.wr with
  | true =>
   refine qM ?_ (q8 hw (F2:=s'.F) h1.2 (.of_sim hs.1) hs.2.1 hs.2.2);rintro t ⟨r,x,y,rfl,h4,h5⟩;refine ⟨fun hl _=>?_,⟨zl s.F o.dst r,y,[]⟩,⟨hs.1.put _ _,h4,.refl _⟩,h5.2⟩;have h7:=h5.1 hl hw;exact fun id hid=>by rw [← h4 id,h7 id hid,hs.2.1 id]
  | false =>
   obtain ⟨r,news,h4,h5,h6,h7⟩:=Yr hw h1.2;exact h7 s'.F s'.m s'.n _ (.of_sim hs.1) (fun _=>hs.2.1.symm) (zlC (hs.2.2.app hs.2.1) h5) ⟨fun _ hh=>(by rw [hw] at hh; cases hh),putS s o.dst r news,⟨hs.1.put _ _,hs.2.1,(Sim.refl news).app hs.2.2⟩,h4.2⟩
 ·exact h3 s' _ (.of_sim hs.1) ⟨skS s o,⟨hs.1.put _ _,hs.2⟩,h2⟩
theorem zfi {seq:Bool} {l:List AO} (hk:∀ s,K s→K' s):∀ {s:RS},runR P W0 seq l s K→runR P W0 seq l s K':=by
 induction l with
 | nil=>exact fun h=>hk _ h
 | cons o l ih=>exact fun h=>QG (fun _ hh=>ih hh) h
theorem znn {l:List AO}:∀ {s s':RS} {K:RS→Prop},RS.Sim s s'→runR P W0 false l s K→runR P W0 false l s' (up K):=by
 induction l with
 | nil=>exact fun hs h=>⟨_,hs,h⟩
 | cons o l ih =>
  intro s s' K hs h;refine QG ?_ (zn9 hs h);rintro t ⟨t',h1,h2⟩;exact ih h1 h2
end
section
variable {P:Program} {W0:World} {a b:AO} {s:RS} {K K':RS→Prop}
theorem zlV {a b:AO} (h:Jr a b=true):(∀ d,a.dst=some d→d ∉ b.rds)∧(∀ d,a.dst=some d→b.dst≠some d)∧(∀ d,b.dst=some d→d ∉ a.rds) ∧
  ((lxp a b=true∨(nbp a b=true∨nbn a b=true))∨((a.op.wr=true→b.op.tch=false)∧(b.op.wr=true→a.op.tch=false))):=by
 simp only [Jr,Bool.and_eq_true,Bool.or_eq_true,Bool.not_eq_true',Bool.and_eq_false_iff] at h;obtain ⟨⟨h1,h2⟩,h34⟩:=h;refine ⟨fun d hd=>?_,fun d hd=>?_,fun d hd=>?_,h34.imp (fun h=>h) fun ⟨h3,h4⟩=>⟨fun hw=>?_,fun hw=>?_⟩⟩
 ·simp [hd] at h1; exact h1.1
 ·simp [hd] at h1; exact h1.2
 ·simp [hd] at h2; exact h2
 ·rcases h3 with h3 | h3
  ·rw [hw] at h3; cases h3
  ·exact h3
 ·rcases h4 with h4 | h4
  ·rw [hw] at h4; cases h4
  ·exact h4
theorem zlI {o:AO} {g:Bool} {n:Nat} {x:AX} (ho:o.op = .ld g n x) (hl:ldOk s.F o) (h:go P W0 false o s K) :
  ∃ r,∀ F' m' n' (K':RS→Prop),zk o.op.rds s.F F'→(∀ id,hiN o.tn id=true→lk m' id=lk s.m id)→(go P W0 false o ⟨F',m',n'⟩ K'↔K' (putS ⟨F',m',n'⟩ o.dst r [])):=by
 have hw:o.op.wr=false:=by rw [ho]; rfl
 unfold ldOk at hl;rw [ho] at hl;simp only at hl;have key:∃ r,∀ F' m' (K':PV→Mem→Prop),zk o.op.rds s.F F'→(∀ id,hiN o.tn id=true→lk m' id=lk s.m id)→(zo (AX.ev F') (o.dst.getD 0) m' (.ld g n x) K'↔K' r []):=by
  simp only [go,hw,Bool.false_eq_true,if_false] at h;rw [ho] at h;rw [yI (op := .ld g n x) rfl] at h;obtain ⟨v,hv,hk⟩:=ze h;have hev:∀ F',zk o.op.rds s.F F'→AX.ev F' x=some v:=fun F' ha=>by
   rw [ho] at ha;rw [← zF (x:=x) ha]; exact hv
  rw [hv] at hl;cases v with
  | ptr id off =>
   simp only [] at hk hl;split at hk
   ·rename_i cs hb;cases g with
    | true =>
     simp only [if_true] at hk;refine ⟨jm ((cs.drop off).take n),fun F' m' K' ha hm=>?_⟩;simp only [zo,hev F' ha,onv,hm id hl,hb,if_true];exact ⟨fun h=>h.2,fun h=>⟨hk.1,h⟩⟩
    | false =>
     obtain ⟨y,hy,hk⟩:=ze (by simpa using hk);refine ⟨y,fun F' m' K' ha hm=>?_⟩;simp only [zo,hev F' ha,onv,hm id hl,hb,Bool.false_eq_true,if_false,hy]
   ·exact hk.elim
  | ep z off =>
   cases g with
   | true =>
    simp only [if_true] at hk;refine ⟨.c (.agg ((z.cells.drop off).take n)),fun F' m' K' ha hm=>?_⟩;simp only [zo,hev F' ha,onv,if_true];exact ⟨fun h=>h.2,fun h=>⟨hk.1,h⟩⟩
   | false =>
    obtain ⟨y,hy,hk⟩:=ze (by simpa using hk);refine ⟨.c y,fun F' m' K' ha hm=>?_⟩;simp only [zo,hev F' ha,onv,Bool.false_eq_true,if_false,hy]
  | eo id n' i off =>
   simp only [] at hk hl;split at hk
   ·rename_i L _ _ hb;obtain ⟨hlen,y,hy,hk⟩:=hk;cases g with
    | true =>
     simp only [if_true] at hk;refine ⟨jm ((y.cells.drop off).take n),fun F' m' K' ha hm=>?_⟩;simp only [zo,hev F' ha,onv,hm id hl,hb,if_true];constructor
     ·rintro ⟨_,y',hy',h⟩; rw [hy] at hy'; cases hy'; exact h.2
     ·exact fun h=>⟨hlen,y,hy,hk.1,h⟩
    | false =>
     obtain ⟨u,hu,hk⟩:=ze (by simpa using hk);refine ⟨u,fun F' m' K' ha hm=>?_⟩;simp only [zo,hev F' ha,onv,hm id hl,hb,Bool.false_eq_true,if_false];constructor
     ·rintro ⟨_,y',hy',h⟩; rw [hy] at hy'; cases hy'; rw [hu] at h; exact h
     ·exact fun h=>⟨hlen,y,hy,by rw [hu]; exact h⟩
   ·exact hk.elim
  | _=>exact (show False from hk).elim
 obtain ⟨r,hr⟩:=key;refine ⟨r,fun F' m' n' K' ha hm=>?_⟩;have e:go P W0 false o ⟨F',m',n'⟩ K'↔zo (AX.ev F') (o.dst.getD 0) m' (.ld g n x) fun r news=>j4 news (n'++m')=true∧(o.dst.isSome=true∨news=[])∧K' (putS ⟨F',m',n'⟩ o.dst r news):=by
  simp only [go,hw,Bool.false_eq_true,if_false,putS];rw [ho];exact Iff.rfl
 rw [e,hr F' m' _ ha hm];exact ⟨fun h=>h.2.2,fun h=>⟨rfl,.inr rfl,h⟩⟩
theorem zA {l:List Nat} {F:List (Nat × PV)} {dst:Option Nat} {r:PV} (h:∀ d,dst=some d→d ∉ l):zk l (zl F dst r) F:=by
 intro t ht;cases dst with
 | none=>rfl
 | some d =>
  have:t≠d:=by rintro rfl; exact h t rfl ht
  simp only [zl,zr,if_neg this]
theorem jC {F:List (Nat × PV)} {x y:Option Nat} {r q:PV} (h:∀ d,x=some d→y≠some d):Sim (zl (zl F x r) y q) (zl (zl F y q) x r):=by
 intro t;cases x with
 | none=>rfl
 | some d =>
  cases y with
  | none=>rfl
  | some e =>
   have hne:d≠e:=fun hh=>h d rfl (by rw [hh])
   simp only [zl,zr];by_cases h1:t=e<;>by_cases h2:t=d
   ·exact absurd (h2.symm.trans h1) hne
   ·subst h1; simp [h2]
   ·subst h2; simp [h1]
   ·simp [h1,h2]
theorem zG {o:AO} {F G:List (Nat × PV)} (h:zk o.rds F G):zk o.op.rds F G:=h.left
theorem zgx {x y n:Mem} (h:∀ id,(lk x id).isSome=true→lk y id=none):Sim (x++(y++n)) (y++(x++n)):=by
 intro t;simp only [j8];cases hx:lk x t with
 | none=>rfl
 | some v=>rw [h t (by simp [hx])]
theorem zlG {o:AO} {sz:Nat} {x i:AX} (ho:o.op = .ia sz x i) (hl:ldOk s.F o) (h:go P W0 false o s K) :
  ∃ r,∀ F' m' n' (K':RS→Prop),zk o.op.rds s.F F'→(∀ id,hiN o.tn id=true→lk m' id=lk s.m id)→(go P W0 false o ⟨F',m',n'⟩ K'↔K' (putS ⟨F',m',n'⟩ o.dst r [])):=by
 have hw:o.op.wr=false:=by rw [ho]; rfl
 unfold ldOk at hl;rw [ho] at hl;simp only at hl;have key:∃ r,∀ F' m' (K':PV→Mem→Prop),zk o.op.rds s.F F'→(∀ id,hiN o.tn id=true→lk m' id=lk s.m id)→(zo (AX.ev F') (o.dst.getD 0) m' (.ia sz x i) K'↔K' r []):=by
  simp only [go,hw,Bool.false_eq_true,if_false] at h;rw [ho] at h;rw [yI (op := .ia sz x i) rfl] at h;obtain ⟨iv,hiv,h⟩:=ze h;have hevi:∀ F',zk o.op.rds s.F F'→AX.ev F' i=some iv:=fun F' ha=>by
   rw [ho] at ha;rw [← zF (x:=i) ha.right]; exact hiv
  split at h
  ·rename_i k0 k;obtain ⟨v,hv,hk⟩:=ze h;have hev:∀ F',zk o.op.rds s.F F'→AX.ev F' x=some v:=fun F' ha=>by
    rw [ho] at ha;rw [← zF (x:=x) ha.left]; exact hv
   rw [hv] at hl;split at hk
   ·rename_i L;obtain ⟨h0,y,hy,hyl,hk⟩:=hk;refine ⟨.ep y 0,fun F' m' K' ha hm=>?_⟩;simp only [zo,hevi F' ha,hev F' ha,onv];constructor
    ·rintro ⟨_,y',hy',_,h⟩; rw [hy] at hy'; cases hy'; exact h
    ·exact fun h=>⟨h0,y,hy,hyl,h⟩
   ·rename_i id n;simp only at hl;split at hk
    ·rename_i L sz' _ hb;obtain ⟨h1,h2,h3,h4,hk⟩:=hk;refine ⟨.eo id n k.toNat 0,fun F' m' K' ha hm=>?_⟩;simp only [zo,hevi F' ha,hev F' ha,onv,hm id hl,hb];exact ⟨fun h=>h.2.2.2.2,fun h=>⟨h1,h2,h3,h4,h⟩⟩
    ·exact hk.elim
   ·rename_i id n lo s0;simp only at hl;split at hk
    ·rename_i L sz' _ hb;obtain ⟨h1,h2,h3,h4,h5,hk⟩:=hk;refine ⟨.eo id n (lo+k.toNat) 0,fun F' m' K' ha hm=>?_⟩;simp only [zo,hevi F' ha,hev F' ha,onv,hm id hl,hb];exact ⟨fun h=>h.2.2.2.2.2,fun h=>⟨h1,h2,h3,h4,h5,h⟩⟩
    ·exact hk.elim
   ·exact hk.elim
  ·exact h.elim
 obtain ⟨r,hr⟩:=key;refine ⟨r,fun F' m' n' K' ha hm=>?_⟩;have e:go P W0 false o ⟨F',m',n'⟩ K'↔zo (AX.ev F') (o.dst.getD 0) m' (.ia sz x i) fun r news=>j4 news (n'++m')=true∧(o.dst.isSome=true∨news=[])∧K' (putS ⟨F',m',n'⟩ o.dst r news):=by
  simp only [go,hw,Bool.false_eq_true,if_false,putS];rw [ho];exact Iff.rfl
 rw [e,hr F' m' _ ha hm];exact ⟨fun h=>h.2.2,fun h=>⟨rfl,.inr rfl,h⟩⟩
theorem zlF {o:AO} {sz:Nat} {e:TypeId} {ps:List AX} (ho:o.op = .bsl sz e ps) (hl:ldOk s.F o) (h:go P W0 false o s K) :
  ∃ r,∀ F' m' n' (K':RS→Prop),zk o.op.rds s.F F'→(∀ id,hiN o.tn id=true→lk m' id=lk s.m id)→(go P W0 false o ⟨F',m',n'⟩ K'↔K' (putS ⟨F',m',n'⟩ o.dst r [])):=by
 have hw:o.op.wr=false:=by rw [ho]; rfl
 unfold ldOk at hl;rw [ho] at hl;simp only at hl;have key:∃ r,∀ F' m' (K':PV→Mem→Prop),zk o.op.rds s.F F'→(∀ id,hiN o.tn id=true→lk m' id=lk s.m id)→(zo (AX.ev F') (o.dst.getD 0) m' (.bsl sz e ps) K'↔K' r []):=by
  simp only [go,hw,Bool.false_eq_true,if_false] at h;rw [ho] at h;rw [yI (op := .bsl sz e ps) rfl] at h;obtain ⟨vs,hv,hk⟩:=ze h;have hev:∀ F',zk o.op.rds s.F F'→evs (AX.ev F') ps=some vs:=fun F' ha=>by
   rw [ho] at ha;rw [← yv ha]; exact hv
  rw [hv] at hl;simp only at hl;obtain ⟨L,hL⟩:=Option.isSome_iff_exists.1 hl;simp only [hL] at hk;refine ⟨.c (.row L),fun F' m' K' ha hm=>?_⟩;simp only [zo,hev F' ha,onv,hL];exact ⟨fun h=>h.2.2,fun h=>⟨hk.1,hk.2.1,h⟩⟩
 obtain ⟨r,hr⟩:=key;refine ⟨r,fun F' m' n' K' ha hm=>?_⟩;have e:go P W0 false o ⟨F',m',n'⟩ K'↔zo (AX.ev F') (o.dst.getD 0) m' (.bsl sz e ps) fun r news=>j4 news (n'++m')=true∧(o.dst.isSome=true∨news=[])∧K' (putS ⟨F',m',n'⟩ o.dst r news):=by
  simp only [go,hw,Bool.false_eq_true,if_false,putS];rw [ho];exact Iff.rfl
 rw [e,hr F' m' _ ha hm];exact ⟨fun h=>h.2.2,fun h=>⟨rfl,.inr rfl,h⟩⟩
def isLo (o:AO):Prop:=(∃ g n x,o.op = .ld g n x)∨(∃ s x i,o.op = .ia s x i)∨∃ s e ps,o.op = .bsl s e ps
theorem zaW {o:AO} (ho:isLo o) (hl:ldOk s.F o) (h:go P W0 false o s K) :
  ∃ r,∀ F' m' n' (K':RS→Prop),zk o.op.rds s.F F'→(∀ id,hiN o.tn id=true→lk m' id=lk s.m id)→(go P W0 false o ⟨F',m',n'⟩ K'↔K' (putS ⟨F',m',n'⟩ o.dst r [])):=by
 rcases ho with ⟨g,n,x,ho⟩ | ⟨sz,x,i,ho⟩ | ⟨sz,e,ps,ho⟩
 ·exact zlI ho hl h
 ·exact zlG ho hl h
 ·exact zlF ho hl h
theorem zod (hx:lxp a b=true) (i1:∀ d,a.dst=some d→d ∉ b.rds) (i2:∀ d,a.dst=some d→b.dst≠some d) (i3:∀ d,b.dst=some d→d ∉ a.rds)
  (h:zZ P W0 false a s fun s1=>zZ P W0 false b s1 K):zZ P W0 false b s fun s1=>zZ P W0 false a s1 (up K):=by
 have nk:∀ {o:AO} {s s':RS},o.op.wr=false→(o.lo=true→kpOk o s s'):=fun hw _ hh=>by rw [hw] at hh; cases hh
 have ild:∀ {o:AO},o.op.isLd=true→isLo o:=fun {o} h=>by
  unfold AOp.isLd at h;split at h
  ·rename_i he; exact .inl ⟨_,_,_,he⟩
  ·rename_i he; exact .inr (.inl ⟨_,_,_,he⟩)
  ·rename_i he; exact .inr (.inr ⟨_,_,_,he⟩)
  ·cases h
 obtain ⟨hla,hlb,htn,hop⟩:a.lo=true∧b.lo=true∧a.tn=b.tn∧((isLo a∧b.op.wr=true)∨(isLo b∧a.op.wr=true)):=by
  simp only [lxp,Bool.and_eq_true,Bool.or_eq_true,beq_iff_eq] at hx;obtain ⟨⟨h1,h2⟩,h3,h4⟩:=hx;exact ⟨h1,h2,h3,h4.imp (fun h=>⟨ild h.1,h.2⟩) fun h=>⟨ild h.2,h.1⟩⟩
 have wlo:∀ {o:AO},isLo o→o.op.wr=false:=fun h=>by rcases h with ⟨_,_,_,h⟩ | ⟨_,_,_,h⟩ | ⟨_,_,_,h⟩<;>rw [h]<;>rfl
 rcases hop with ⟨ea,hwb⟩ | ⟨eb,hwa⟩
 ·have hwa:a.op.wr=false:=wlo ea;rcases jD h with ⟨_,⟨la,ga⟩,ta⟩ | ⟨_,ka,ta⟩
  ·obtain ⟨ra,oa⟩:=zaW ea (la hla) ga;obtain ⟨_,ka⟩:=(oa s.F s.m s.n _ (fun _ _=>rfl) (fun _ _=>rfl)).1 ga;have hag:zk b.rds (zl s.F a.dst ra) s.F:=zA i1;rcases jD ka with ⟨_,⟨lb,gb⟩,tb⟩ | ⟨_,kb,tb⟩
   ·refine tb s _ hag ⟨fun hl=>(jv (zG hag)).1 (lb hl),qM ?_ (q8 hwb (F2:=s.F) (m':=s.m) (n':=s.n) gb (zG hag) (.refl _) (.refl _))⟩;rintro s' ⟨r,y,z,rfl,h1,h3,h2⟩;have q2:=h3 hlb hwb;have hag':zk a.rds s.F (zl s.F b.dst r):=zk.symm (zA i3);refine ⟨fun _ _ id hid=>by rw [← h1 id]; exact q2 id hid,ta _ _ hag' ⟨fun hl=>(jv (zG hag')).1 (la hl),?_⟩⟩;refine (oa _ y [] _ (zG hag') fun id hid=>by rw [← h1 id]; exact q2 id (htn▸hid)).2 ⟨nk hwa,?_⟩;exact ⟨⟨zl (zl s.F a.dst ra) b.dst r,z,[]⟩,⟨jC i2,h1,.refl _⟩,h2⟩
   ·refine tb s _ hag ?_;have hag':zk a.rds s.F (zl s.F b.dst (.c (.tup []))):=zk.symm (zA i3);exact ta (skS s b) _ hag' ⟨fun hl=>(jv (zG hag')).1 (la hl),(oa _ s.m s.n _ (zG hag') fun _ _=>rfl).2 ⟨nk hwa,skS (putS s a.dst ra []) b,⟨jC i2,.refl _,.refl _⟩,kb⟩⟩
  ·have hag:zk b.rds (zl s.F a.dst (.c (.tup []))) s.F:=zA i1;rcases jD ka with ⟨_,⟨lb,gb⟩,tb⟩ | ⟨_,kb,tb⟩
   ·refine tb s _ hag ⟨fun hl=>(jv (zG hag)).1 (lb hl),qM ?_ (q8 hwb (F2:=s.F) (m':=s.m) (n':=s.n) gb (zG hag) (.refl _) (.refl _))⟩;rintro s' ⟨r,y,z,rfl,h1,h3,h2⟩;have q2:=h3 hlb hwb;have hag':zk a.rds s.F (zl s.F b.dst r):=zk.symm (zA i3);refine ⟨fun _ _ id hid=>by rw [← h1 id]; exact q2 id hid,?_⟩;exact ta _ _ hag' ⟨⟨zl (zl s.F a.dst (.c (.tup []))) b.dst r,z,[]⟩,⟨jC i2,h1,.refl _⟩,h2⟩
   ·have hag':zk a.rds s.F (zl s.F b.dst (.c (.tup []))):=zk.symm (zA i3);exact tb s _ hag (ta (skS s b) _ hag' ⟨skS (skS s a) b,⟨jC i2,.refl _,.refl _⟩,kb⟩)
 ·have hwb:b.op.wr=false:=wlo eb;rcases jD h with ⟨_,⟨la,ga⟩,ta⟩ | ⟨_,ka,ta⟩
  ·obtain ⟨r0,x0,k0,kx⟩:=zaX hwa ga;have p2:=k0 hla hwa;rcases jD kx with ⟨hgb,⟨lb,gb⟩,tb⟩ | ⟨hsb,kb,tb⟩
   ·obtain ⟨rb,ob⟩:=zaW eb (lb hlb) gb;have hag:zk b.rds (zl s.F a.dst r0) s.F:=zA i1;refine tb s _ hag ⟨fun hl=>(jv (zG hag)).1 (lb hl),(ob s.F s.m s.n _ (zG hag) fun id hid=>(p2 id (htn▸hid)).symm).2 ⟨nk hwb,?_⟩⟩;have hag':zk a.rds s.F (zl s.F b.dst rb):=zk.symm (zA i3);refine ta _ _ hag' ⟨fun hl=>(jv (zG hag')).1 (la hl),qM ?_ (q8 hwa (F2:=zl s.F b.dst rb) (m':=s.m) (n':=s.n) ga (zG hag') (.refl _) (.refl _))⟩;rintro s' ⟨r,y,z,rfl,h1,h3,h2⟩;have q2:=h3 hla hwa;refine ⟨fun _ _ id hid=>by rw [← h1 id]; exact q2 id hid,?_⟩;have hagb:zk b.rds (zl s.F a.dst r0) (zl s.F a.dst r):=fun t ht=>(zA (F:=s.F) i1 t ht).trans (zA (F:=s.F) i1 t ht).symm
    rcases jD h2 with ⟨_,⟨_,gb'⟩,tb'⟩ | ⟨hsb',_⟩
    ·have:=((ob _ z [] _ (zG hagb) fun id hid=>(q2 id (htn▸hid)).trans (p2 id (htn▸hid)).symm).1 gb').2;exact ⟨putS ⟨zl s.F a.dst r,z,[]⟩ b.dst rb [],⟨jC i2,h1,.refl _⟩,this⟩
    ·exact (Jm hagb hgb hsb').elim
   ·have hag:zk b.rds (zl s.F a.dst r0) s.F:=zA i1;refine tb s _ hag ?_;have hag':zk a.rds s.F (zl s.F b.dst (.c (.tup []))):=zk.symm (zA i3);refine ta (skS s b) _ hag' ⟨fun hl=>(jv (zG hag')).1 (la hl),qM ?_ (q8 hwa (F2:=zl s.F b.dst (.c (.tup []))) (m':=s.m) (n':=s.n) ga (zG hag') (.refl _) (.refl _))⟩;rintro s' ⟨r,y,z,rfl,h1,h3,h2⟩;have q2:=h3 hla hwa;refine ⟨fun _ _ id hid=>by rw [← h1 id]; exact q2 id hid,?_⟩;have hagb:zk b.rds (zl s.F a.dst r) (zl s.F a.dst r0):=fun t ht=>(zA (F:=s.F) i1 t ht).trans (zA (F:=s.F) i1 t ht).symm
    rcases jD h2 with ⟨hgb',_⟩ | ⟨_,kb',_⟩
    ·exact (Jm hagb hgb' hsb).elim
    ·exact ⟨skS ⟨zl s.F a.dst r,z,[]⟩ b,⟨jC i2,h1,.refl _⟩,kb'⟩
  ·have hag:zk b.rds (zl s.F a.dst (.c (.tup []))) s.F:=zA i1;rcases jD ka with ⟨_,⟨lb,gb⟩,tb⟩ | ⟨_,kb,tb⟩
   ·obtain ⟨rb,ob⟩:=zaW eb (lb hlb) gb;obtain ⟨_,kb⟩:=(ob _ s.m s.n _ (fun _ _=>rfl) (fun _ _=>rfl)).1 gb;have hag':zk a.rds s.F (zl s.F b.dst rb):=zk.symm (zA i3);exact tb s _ hag ⟨fun hl=>(jv (zG hag)).1 (lb hl),(ob _ s.m s.n _ (zG hag) fun _ _=>rfl).2 ⟨nk hwb,ta _ _ hag' ⟨putS (skS s a) b.dst rb [],⟨jC i2,.refl _,.refl _⟩,kb⟩⟩⟩
   ·have hag':zk a.rds s.F (zl s.F b.dst (.c (.tup []))):=zk.symm (zA i3);exact tb s _ hag (ta (skS s b) _ hag' ⟨skS (skS s a) b,⟨jC i2,.refl _,.refl _⟩,kb⟩)
def RS.Disj (s:RS):Prop:=∀ id,(lk s.n id).isSome=true→lk s.m id=none
theorem zn8 {q:Bool} {o:AO} (hd:s.Disj) (h:zZ P W0 q o s K):zZ P W0 q o s fun s'=>s'.Disj∧K s':=by
 have key:goL P W0 q o s K→goL P W0 q o s fun s'=>s'.Disj∧K s':=by
  rintro ⟨h1,h2⟩;have nil:∀ F x,RS.Disj ⟨F,x,[]⟩:=fun F x id hid=>by simp [lk] at hid
  refine ⟨h1,zdS (fun r m' hk=>⟨hk.1,nil _ _,hk.2⟩) (fun r news hf hk=>⟨hk.1,?_,hk.2⟩) h2⟩;cases q with
  | true=>exact nil _ _
  | false =>
   intro id hid;simp only [Bool.false_eq_true,if_false,j8] at hid ⊢;cases hn:lk news id with
   | some x =>
    have:=Jk hf id (by simp [hn]);rw [j8] at this;cases hn':lk s.n id with
    | some y=>rw [hn'] at this; cases this
    | none=>rw [hn'] at this; exact this
   | none=>rw [hn] at hid; exact hd id hid
 rcases jD h with ⟨_,h1,h2⟩ | ⟨_,h2,h3⟩
 ·exact h2 s _ (fun _ _=>rfl) (key h1)
 ·exact h3 s _ (fun _ _=>rfl) ⟨hd,h2⟩
theorem zlJ {o:AO} {g:Bool} {n:Nat} {x:AX} (ho:o.op = .ld g n x) (h:go P W0 false o s K) :
  ∃ r,∀ F' m' n' (K':RS→Prop),zk o.op.rds s.F F'→(∀ id b,lk s.m id=some b→lk m' id=some b)→(go P W0 false o ⟨F',m',n'⟩ K'↔K' (putS ⟨F',m',n'⟩ o.dst r [])):=by
 have hw:o.op.wr=false:=by rw [ho]; rfl
 have key:∃ r,∀ F' m' (K':PV→Mem→Prop),zk o.op.rds s.F F'→(∀ id b,lk s.m id=some b→lk m' id=some b)→(zo (AX.ev F') (o.dst.getD 0) m' (.ld g n x) K'↔K' r []):=by
  simp only [go,hw,Bool.false_eq_true,if_false] at h;rw [ho] at h;rw [yI (op := .ld g n x) rfl] at h;obtain ⟨v,hv,hk⟩:=ze h;have hev:∀ F',zk o.op.rds s.F F'→AX.ev F' x=some v:=fun F' ha=>by
   rw [ho] at ha;rw [← zF (x:=x) ha]; exact hv
  cases v with
  | ptr id off =>
   simp only [] at hk;split at hk
   ·rename_i cs hb;cases g with
    | true =>
     simp only [if_true] at hk;refine ⟨jm ((cs.drop off).take n),fun F' m' K' ha hm=>?_⟩;simp only [zo,hev F' ha,onv,hm id _ hb,if_true];exact ⟨fun h=>h.2,fun h=>⟨hk.1,h⟩⟩
    | false =>
     obtain ⟨y,hy,hk⟩:=ze (by simpa using hk);refine ⟨y,fun F' m' K' ha hm=>?_⟩;simp only [zo,hev F' ha,onv,hm id _ hb,Bool.false_eq_true,if_false,hy]
   ·exact hk.elim
  | ep z off =>
   cases g with
   | true =>
    simp only [if_true] at hk;refine ⟨.c (.agg ((z.cells.drop off).take n)),fun F' m' K' ha hm=>?_⟩;simp only [zo,hev F' ha,onv,if_true];exact ⟨fun h=>h.2,fun h=>⟨hk.1,h⟩⟩
   | false =>
    obtain ⟨y,hy,hk⟩:=ze (by simpa using hk);refine ⟨.c y,fun F' m' K' ha hm=>?_⟩;simp only [zo,hev F' ha,onv,Bool.false_eq_true,if_false,hy]
  | eo id n' i off =>
   simp only [] at hk;split at hk
   ·rename_i L _ _ hb;obtain ⟨hlen,y,hy,hk⟩:=hk;cases g with
    | true =>
     simp only [if_true] at hk;refine ⟨jm ((y.cells.drop off).take n),fun F' m' K' ha hm=>?_⟩;simp only [zo,hev F' ha,onv,hm id _ hb,if_true];constructor
     ·rintro ⟨_,y',hy',h⟩; rw [hy] at hy'; cases hy'; exact h.2
     ·exact fun h=>⟨hlen,y,hy,hk.1,h⟩
    | false =>
     obtain ⟨u,hu,hk⟩:=ze (by simpa using hk);refine ⟨u,fun F' m' K' ha hm=>?_⟩;simp only [zo,hev F' ha,onv,hm id _ hb,Bool.false_eq_true,if_false];constructor
     ·rintro ⟨_,y',hy',h⟩; rw [hy] at hy'; cases hy'; rw [hu] at h; exact h
     ·exact fun h=>⟨hlen,y,hy,by rw [hu]; exact h⟩
   ·exact hk.elim
  | _=>exact (show False from hk).elim
 obtain ⟨r,hr⟩:=key;refine ⟨r,fun F' m' n' K' ha hm=>?_⟩;have e:go P W0 false o ⟨F',m',n'⟩ K'↔zo (AX.ev F') (o.dst.getD 0) m' (.ld g n x) fun r news=>j4 news (n'++m')=true∧(o.dst.isSome=true∨news=[])∧K' (putS ⟨F',m',n'⟩ o.dst r news):=by
  simp only [go,hw,Bool.false_eq_true,if_false,putS];rw [ho];exact Iff.rfl
 rw [e,hr F' m' _ ha hm];exact ⟨fun h=>h.2.2,fun h=>⟨rfl,.inr rfl,h⟩⟩
theorem zbn {b:AO} (hb:isNw b.op=true) (hlo:b.lo=false):b.op.wr=true∧∃ R X,∀ (K:RS→Prop) (s:RS),goL P W0 false b s K↔(lk (s.n++s.m) (16 * b.dst.getD 0)=none∧K ⟨zl s.F b.dst R,(16 * b.dst.getD 0,X)::(s.n++s.m),[]⟩):=by
 unfold isNw at hb;split at hb
 ·rename_i z hz;refine ⟨by rw [hz]; rfl,.ptr (16 * b.dst.getD 0) 0,.box z,fun K s=>?_⟩;simp only [goL,go,hlo,Bool.false_eq_true,false_imp_iff,true_and];rw [hz];simp only [AOp.wr,if_true,JL,jZ,Option.isNone_iff_eq_none]
 ·rename_i k e z hz;refine ⟨by rw [hz]; rfl,.own (16 * b.dst.getD 0) k,.row (List.replicate k z) 1 e,fun K s=>?_⟩;simp only [goL,go,hlo,Bool.false_eq_true,false_imp_iff,true_and];rw [hz];simp only [AOp.wr,if_true,JL,jZ,Option.isNone_iff_eq_none]
 ·cases hb
theorem zoe (hx:nbp a b=true) (hd:s.Disj) (i1:∀ d,a.dst=some d→d ∉ b.rds) (i2:∀ d,a.dst=some d→b.dst≠some d) (i3:∀ d,b.dst=some d→d ∉ a.rds)
  (h:zZ P W0 false a s fun s1=>zZ P W0 false b s1 K):zZ P W0 false b s fun s1=>zZ P W0 false a s1 (up K):=by
 have nk:∀ {o:AO} {s s':RS},o.op.wr=false→(o.lo=true→kpOk o s s'):=fun hw _ hh=>by rw [hw] at hh; cases hh
 obtain ⟨hb,hlo,hop⟩:isNw b.op=true∧b.lo=false∧((∃ f as,a.op = .opn f as)∨∃ g n x,a.op = .ld g n x):=by
  unfold nbp at hx;split at hx
  ·rename_i hz;refine ⟨hz,?_⟩;split at hx
   ·cases hx
   ·rename_i hl;refine ⟨hl,?_⟩;split at hx
    ·rename_i ha; exact .inl ⟨_,_,ha⟩
    ·rename_i ha; exact .inr ⟨_,_,_,ha⟩
    ·cases hx
  ·cases hx
 obtain ⟨hwb,R,X,hgo⟩:=zbn (P:=P) (W0:=W0) hb hlo;have dd:∀ id y,lk s.m id=some y→lk (s.n++s.m) id=some y:=fun id y hy=>by
  rw [j8];cases hn:lk s.n id with
  | none=>exact hy
  | some u=>rw [hd id (by simp [hn])] at hy; cases hy
 rcases jD h with ⟨_,⟨la,ga⟩,ta⟩ | ⟨_,ka,ta⟩
 ·rcases hop with ⟨f,as,ha⟩ | ⟨g,n,x,ha⟩
  ·have hwa:a.op.wr=true:=by rw [ha]; rfl
   obtain ⟨r0,x0,_,kx⟩:=zaX hwa ga;rcases jD kx with ⟨hgb,gb,tb⟩ | ⟨hsb,kb,tb⟩
   ·have hag:zk b.rds (zl s.F a.dst r0) s.F:=zA i1;have hag':zk a.rds s.F (zl s.F b.dst R):=zk.symm (zA i3);have hin:=ga;simp only [go,hwa,if_true] at hin;rw [ha] at hin;obtain ⟨vs,hvs,mp,Φ,h1,h2,h3,h4,h5,h6⟩:=ze hin;have hbk:∀ r x,Φ r x→lk (merge (s.n++s.m) x) (16 * b.dst.getD 0)=none∧K ⟨zl (zl s.F a.dst r) b.dst R,(16 * b.dst.getD 0,X)::merge (s.n++s.m) x,[]⟩:=by
     intro r x hΦ;obtain ⟨_,_,h7⟩:=h6 r x hΦ;have hagb:zk b.rds (zl s.F a.dst r0) (zl s.F a.dst r):=fun t ht=>(zA (F:=s.F) i1 t ht).trans (zA (F:=s.F) i1 t ht).symm
     rcases jD h7 with ⟨_,h8,_⟩ | ⟨h8,_⟩
     ·exact (hgo _ _).1 h8
     ·exact (Jm hagb hgb h8).elim
    have hx0:∀ r x,Φ r x→lk x (16 * b.dst.getD 0)=none∧lk (s.n++s.m) (16 * b.dst.getD 0)=none:=by
     intro r x hΦ;have:=(hbk r x hΦ).1;rw [Ze] at this;split at this
     ·cases this
     ·exact ⟨‹_›,this⟩
    obtain ⟨r1,x1,hΦ1⟩:=h5;have hM:=(hx0 r1 x1 hΦ1).2;refine tb s _ hag ((hgo _ s).2 ⟨hM,ta _ _ hag' ⟨fun hl=>(jv (zG hag')).1 (la hl),?_⟩⟩);simp only [go,hwa,if_true];have hag2:=zG hag';rw [ha] at hag2;rw [ha];refine zn ((yv hag2.symm).trans hvs) ⟨mp,Φ,?_,h2,h3,h4,⟨r1,x1,hΦ1⟩,fun r x hΦ=>⟨?_,?_,?_⟩⟩
    ·intro id y hy;have:=h1 id y hy;have hne:id≠16 * b.dst.getD 0:=by rintro rfl; rw [hM] at this; cases this
     simpa [zr,hne] using this
    ·intro id hid;rcases (h6 r x hΦ).1 id hid with h7 | h7
     ·exact .inl h7
     ·have hne:id≠16 * b.dst.getD 0:=by rintro rfl; rw [(hx0 r x hΦ).1] at hid; cases hid
      exact .inr (by simpa [zr,hne] using h7)
    ·intro hl _ id hid;have q2:=(h6 r x hΦ).2.1 hl hwa id hid;simp only [List.nil_append] at q2 ⊢;rw [Ze,zr];rw [Ze] at q2;by_cases hne:id=16 * b.dst.getD 0
     ·subst hne; rw [(hx0 r x hΦ).1]
     ·rw [if_neg hne];cases hxx:lk x id with
      | none=>rfl
      | some y =>
       rw [hxx] at q2;exact (dd id y q2.symm).symm
    ·refine ⟨⟨zl (zl s.F a.dst r) b.dst R,(16 * b.dst.getD 0,X)::merge (s.n++s.m) x,[]⟩,⟨jC i2,?_,.refl _⟩,(hbk r x hΦ).2⟩;intro id;simp only [List.nil_append,Ze,zr];by_cases hne:id=16 * b.dst.getD 0
     ·subst hne; rw [(hx0 r x hΦ).1]
     ·simp only [if_neg hne]
   ·have hag:zk b.rds (zl s.F a.dst r0) s.F:=zA i1;refine tb s _ hag ?_;have hag':zk a.rds s.F (zl s.F b.dst (.c (.tup []))):=zk.symm (zA i3);refine ta (skS s b) _ hag' ⟨fun hl=>(jv (zG hag')).1 (la hl),qM ?_ (q8 hwa (F2:=zl s.F b.dst (.c (.tup []))) (m':=s.m) (n':=s.n) ga (zG hag') (.refl _) (.refl _))⟩;rintro s' ⟨r,x,y,rfl,h1,h3,h2⟩;refine ⟨fun hl hw=>?_,?_⟩
    ·have q2:=h3 hl hw;exact fun id hid=>by rw [← h1 id]; exact q2 id hid
    have hagb:zk b.rds (zl s.F a.dst r) (zl s.F a.dst r0):=fun t ht=>(zA (F:=s.F) i1 t ht).trans (zA (F:=s.F) i1 t ht).symm
    rcases jD h2 with ⟨hgb',_⟩ | ⟨_,kb',_⟩
    ·exact (Jm hagb hgb' hsb).elim
    ·exact ⟨skS ⟨zl s.F a.dst r,y,[]⟩ b,⟨jC i2,h1,.refl _⟩,kb'⟩
  ·have hwa:a.op.wr=false:=by rw [ha]; rfl
   obtain ⟨ra,oa⟩:=zlJ ha ga;obtain ⟨_,ka⟩:=(oa s.F s.m s.n _ (fun _ _=>rfl) (fun _ _ h=>h)).1 ga;have hag:zk b.rds (zl s.F a.dst ra) s.F:=zA i1;rcases jD ka with ⟨_,gb,tb⟩ | ⟨_,kb,tb⟩
   ·obtain ⟨hM,hK⟩:=(hgo _ _).1 gb;have hag':zk a.rds s.F (zl s.F b.dst R):=zk.symm (zA i3);refine tb s _ hag ((hgo _ s).2 ⟨hM,ta _ _ hag' ⟨fun hl=>(jv (zG hag')).1 (la hl),?_⟩⟩);refine (oa _ _ _ _ (zG hag') fun id y hy=>?_).2 ⟨nk hwa,⟨⟨zl (zl s.F a.dst ra) b.dst R,(16 * b.dst.getD 0,X)::(s.n++s.m),[]⟩,⟨jC i2,.refl _,.refl _⟩,hK⟩⟩;have hM':lk (s.n++s.m) (16 * b.dst.getD 0)=none:=hM;have:=dd id y hy;have hne:id≠16 * b.dst.getD 0:=by rintro rfl; rw [hM'] at this; cases this
    simpa [zr,hne] using this
   ·refine tb s _ hag ?_;have hag':zk a.rds s.F (zl s.F b.dst (.c (.tup []))):=zk.symm (zA i3);exact ta (skS s b) _ hag' ⟨fun hl=>(jv (zG hag')).1 (la hl),(oa _ s.m s.n _ (zG hag') fun _ _ h=>h).2 ⟨nk hwa,skS (putS s a.dst ra []) b,⟨jC i2,.refl _,.refl _⟩,kb⟩⟩
 ·have hag:zk b.rds (zl s.F a.dst (.c (.tup []))) s.F:=zA i1;rcases jD ka with ⟨_,⟨lb,gb⟩,tb⟩ | ⟨_,kb,tb⟩
  ·refine tb s _ hag ⟨fun hl=>(jv (zG hag)).1 (lb hl),qM ?_ (q8 hwb (F2:=s.F) (m':=s.m) (n':=s.n) gb (zG hag) (.refl _) (.refl _))⟩;rintro s' ⟨r,x,y,rfl,h1,h3,h2⟩;have hag':zk a.rds s.F (zl s.F b.dst r):=zk.symm (zA i3);refine ⟨fun hl hw=>?_,?_⟩
   ·have q2:=h3 hl hw;exact fun id hid=>by rw [← h1 id]; exact q2 id hid
   exact ta _ _ hag' ⟨⟨zl (zl s.F a.dst (.c (.tup []))) b.dst r,y,[]⟩,⟨jC i2,h1,.refl _⟩,h2⟩
  ·have hag':zk a.rds s.F (zl s.F b.dst (.c (.tup []))):=zk.symm (zA i3);exact tb s _ hag (ta (skS s b) _ hag' ⟨skS (skS s a) b,⟨jC i2,.refl _,.refl _⟩,kb⟩)
theorem zof (hx:nbn a b=true) (i2:∀ d,a.dst=some d→b.dst≠some d) (h:zZ P W0 false a s fun s1=>zZ P W0 false b s1 K):zZ P W0 false b s fun s1=>zZ P W0 false a s1 (up K):=by
 simp only [nbn,Bool.and_eq_true,Bool.not_eq_true',Option.isNone_iff_eq_none] at hx;obtain ⟨⟨na,nb⟩,⟨la,lb⟩,ga,gb⟩:=hx;obtain ⟨_,Ra,Xa,hga⟩:=zbn (P:=P) (W0:=W0) na la;obtain ⟨_,Rb,Xb,hgb⟩:=zbn (P:=P) (W0:=W0) nb lb;unfold zZ at h ⊢;rw [ga] at h;rw [gb];simp only at h ⊢;obtain ⟨h1,h2⟩:=(hga _ _).1 h;rw [gb] at h2;simp only at h2;obtain ⟨h3,h4⟩:=(hgb _ _).1 h2;simp only [List.nil_append,zr] at h3;split at h3
 ·cases h3
 ·rename_i hne;refine (hgb _ _).2 ⟨h3,?_⟩;rw [ga];simp only;refine (hga _ _).2 ⟨?_,?_⟩
  ·simp only [List.nil_append,zr];rw [if_neg (fun h=>hne h.symm)];exact h1
  ·refine ⟨⟨zl (zl s.F a.dst Ra) b.dst Rb,(16 * b.dst.getD 0,Xb)::((16 * a.dst.getD 0,Xa)::(s.n++s.m)),[]⟩,⟨jC i2,fun id=>?_,.refl _⟩,h4⟩;simp only [List.nil_append,zr];by_cases e1:id=16 * b.dst.getD 0
   ·subst e1; rw [if_pos rfl,if_neg hne,if_pos rfl]
   ·rw [if_neg e1,if_neg e1]
theorem swap (hd:s.Disj) (hi:Jr a b=true) (h:zZ P W0 false a s fun s1=>zZ P W0 false b s1 K):zZ P W0 false b s fun s1=>zZ P W0 false a s1 (up K):=by
 obtain ⟨i1,i2,i3,i45⟩:=zlV hi;have i2':∀ d,b.dst=some d→a.dst≠some d:=fun d hb ha=>i2 d ha hb
 have nk:∀ {o:AO} {s s':RS},o.op.wr=false→(o.lo=true→kpOk o s s'):=fun hw _ hh=>by rw [hw] at hh; cases hh
 rcases i45 with (hx | hx | hx) | ⟨i4,i5⟩
 ·exact zod hx i1 i2 i3 h
 ·exact zoe hx hd i1 i2 i3 h
 ·exact zof hx i2 h
 rcases jD h with ⟨_,⟨la,ga⟩,ta⟩ | ⟨_,ka,ta⟩
 ·cases hwa:a.op.wr with
  | false =>
   obtain ⟨ra,na,⟨_,ka⟩,fa,pa,wa⟩:=Yr hwa ga;rcases jD ka with ⟨_,⟨lb,gb⟩,tb⟩ | ⟨_,kb,tb⟩
   ·cases hwb:b.op.wr with
    | false =>
     obtain ⟨rb,nb,⟨_,kb⟩,fb,pb,wb⟩:=Yr hwb gb;have hag:zk b.rds (zl s.F a.dst ra) s.F:=zA i1;refine tb s _ hag ⟨fun hl=>(jv (zG hag)).1 (lb hl),wb s.F s.m s.n _ (zG hag) (fun _ => .refl _) ?_ ⟨nk hwb,?_⟩⟩
     ·rw [Yq] at fb ⊢;intro id hid;have:=fb id hid;simp only [putS,j8] at this ⊢;cases hn:lk na id with
      | some v=>rw [hn] at this; cases this
      | none=>rw [hn] at this; exact this
     ·have hag':zk a.rds s.F (zl s.F b.dst rb):=zk.symm (zA i3);have hdis:∀ id,(lk nb id).isSome=true→lk na id=none:=by
       intro id hid;have:=(Yq.1 fb) id hid;simp only [putS,j8] at this;cases hn:lk na id with
       | some v=>rw [hn] at this; cases this
       | none=>rfl
      refine ta _ _ hag' ⟨fun hl=>(jv (zG hag')).1 (la hl),wa _ _ _ _ (zG hag') (fun _ => .refl _) ?_ ⟨nk hwa,?_⟩⟩
      ·rw [Yq] at fa ⊢;intro id hid;have:=fa id hid;simp only [j8] at this ⊢;cases hn:lk nb id with
       | some v=>rw [hdis id (by simp [hn])] at hid; simp at hid
       | none=>exact this
      ·exact ⟨putS (putS s a.dst ra na) b.dst rb nb,⟨jC i2,.refl _,zgx hdis⟩,kb⟩
    | true =>
     have hna:=pa (i5 hwb);subst hna;have hag:zk b.rds (zl s.F a.dst ra) s.F:=zA i1;refine tb s _ hag ⟨fun hl=>(jv (zG hag)).1 (lb hl),qM ?_ (q8 hwb (F2:=s.F) (m':=s.m) (n':=s.n) gb (zG hag) (.refl _) (.refl _))⟩;rintro s' ⟨r,x,y,rfl,h1,h3,h2⟩;have hag':zk a.rds s.F (zl s.F b.dst r):=zk.symm (zA i3);refine ⟨fun hl hw=>?_,ta _ _ hag' ⟨fun hl=>(jv (zG hag')).1 (la hl),wa _ _ _ _ (zG hag') (fun hh=>by rw [i5 hwb] at hh; cases hh) rfl ⟨nk hwa,?_⟩⟩⟩
     ·have q2:=h3 hl hw;exact fun id hid=>by rw [← h1 id]; exact q2 id hid
     exact ⟨⟨zl (zl s.F a.dst ra) b.dst r,y,[]⟩,⟨jC i2,h1,.refl _⟩,h2⟩
   ·have hag:zk b.rds (zl s.F a.dst ra) s.F:=zA i1;refine tb s _ hag ?_;have hag':zk a.rds s.F (zl s.F b.dst (.c (.tup []))):=zk.symm (zA i3);exact ta (skS s b) _ hag' ⟨fun hl=>(jv (zG hag')).1 (la hl),wa _ _ _ _ (zG hag') (fun _ => .refl _) fa ⟨nk hwa,skS (putS s a.dst ra na) b,⟨jC i2,.refl _,.refl _⟩,kb⟩⟩
  | true =>
   have hbt:=i4 hwa;have hwb:b.op.wr=false:=by
    cases hw:b.op.wr with
    | false=>rfl
    | true=>rw [zgp hw] at hbt; cases hbt
   obtain ⟨r0,x0,_,kx⟩:=zaX hwa ga;rcases jD kx with ⟨hgb,⟨lb,gb⟩,tb⟩ | ⟨hsb,kb,tb⟩
   ·obtain ⟨rb,ob⟩:=zlL hbt gb;have hag:zk b.rds (zl s.F a.dst r0) s.F:=zA i1;refine tb s _ hag ⟨fun hl=>(jv (zG hag)).1 (lb hl),(ob s.F s.m s.n _ (zG hag)).2 ⟨.inr trivial,nk hwb,?_⟩⟩;have hag':zk a.rds s.F (zl s.F b.dst rb):=zk.symm (zA i3);refine ta _ _ hag' ⟨fun hl=>(jv (zG hag')).1 (la hl),qM ?_ (q8 hwa (F2:=zl s.F b.dst rb) (m':=s.m) (n':=s.n) ga (zG hag') (.refl _) (.refl _))⟩;rintro s' ⟨r,x,y,rfl,h1,h3,h2⟩;refine ⟨fun hl hw=>?_,?_⟩
    ·have q2:=h3 hl hw;exact fun id hid=>by rw [← h1 id]; exact q2 id hid
    have hagb:zk b.rds (zl s.F a.dst r0) (zl s.F a.dst r):=fun t ht=>(zA (F:=s.F) i1 t ht).trans (zA (F:=s.F) i1 t ht).symm
    rcases jD h2 with ⟨_,⟨_,gb'⟩,tb'⟩ | ⟨hsb',_⟩
    ·have:=((ob _ _ _ _ (zG hagb)).1 gb').2.2;exact ⟨putS ⟨zl s.F a.dst r,y,[]⟩ b.dst rb [],⟨jC i2,h1,.refl _⟩,this⟩
    ·exact (Jm hagb hgb hsb').elim
   ·have hag:zk b.rds (zl s.F a.dst r0) s.F:=zA i1;refine tb s _ hag ?_;have hag':zk a.rds s.F (zl s.F b.dst (.c (.tup []))):=zk.symm (zA i3);refine ta (skS s b) _ hag' ⟨fun hl=>(jv (zG hag')).1 (la hl),qM ?_ (q8 hwa (F2:=zl s.F b.dst (.c (.tup []))) (m':=s.m) (n':=s.n) ga (zG hag') (.refl _) (.refl _))⟩;rintro s' ⟨r,x,y,rfl,h1,h3,h2⟩;refine ⟨fun hl hw=>?_,?_⟩
    ·have q2:=h3 hl hw;exact fun id hid=>by rw [← h1 id]; exact q2 id hid
    have hagb:zk b.rds (zl s.F a.dst r) (zl s.F a.dst r0):=fun t ht=>(zA (F:=s.F) i1 t ht).trans (zA (F:=s.F) i1 t ht).symm
    rcases jD h2 with ⟨hgb',_⟩ | ⟨_,kb',_⟩
    ·exact (Jm hagb hgb' hsb).elim
    ·exact ⟨skS ⟨zl s.F a.dst r,y,[]⟩ b,⟨jC i2,h1,.refl _⟩,kb'⟩
 ·
  have hag:zk b.rds (zl s.F a.dst (.c (.tup []))) s.F:=zA i1;rcases jD ka with ⟨_,⟨lb,gb⟩,tb⟩ | ⟨_,kb,tb⟩
  ·cases hwb:b.op.wr with
   | false =>
    obtain ⟨rb,nb,⟨_,kb⟩,fb,pb,wb⟩:=Yr hwb gb;refine tb s _ hag ⟨fun hl=>(jv (zG hag)).1 (lb hl),wb _ _ _ _ (zG hag) (fun _ => .refl _) fb ⟨nk hwb,?_⟩⟩;have hag':zk a.rds s.F (zl s.F b.dst rb):=zk.symm (zA i3);exact ta _ _ hag' ⟨putS (skS s a) b.dst rb nb,⟨jC i2,.refl _,.refl _⟩,kb⟩
   | true =>
    refine tb s _ hag ⟨fun hl=>(jv (zG hag)).1 (lb hl),qM ?_ (q8 hwb (F2:=s.F) (m':=s.m) (n':=s.n) gb (zG hag) (.refl _) (.refl _))⟩;rintro s' ⟨r,x,y,rfl,h1,h3,h2⟩;have hag':zk a.rds s.F (zl s.F b.dst r):=zk.symm (zA i3);refine ⟨fun hl hw=>?_,?_⟩
    ·have q2:=h3 hl hw;exact fun id hid=>by rw [← h1 id]; exact q2 id hid
    exact ta _ _ hag' ⟨⟨zl (zl s.F a.dst (.c (.tup []))) b.dst r,y,[]⟩,⟨jC i2,h1,.refl _⟩,h2⟩
  ·have hag':zk a.rds s.F (zl s.F b.dst (.c (.tup []))):=zk.symm (zA i3);exact tb s _ hag (ta (skS s b) _ hag' ⟨skS (skS s a) b,⟨jC i2,.refl _,.refl _⟩,kb⟩)
end
section
variable {P:Program} {W0:World}
theorem front {b:AO} {B:List AO}:∀ {A:List AO} {s:RS} {K:RS→Prop},s.Disj→(∀ a∈A,Jr a b=true)→runR P W0 false (A++b::B) s K→runR P W0 false (b::(A++B)) s (up K)
 | [],s,K,_,_,h=>zfi (fun _=>zoq) h
 | a::A,s,K,hd,hA,h=>by
  have h1:zZ P W0 false a s fun s1=>zZ P W0 false b s1 fun s2=>runR P W0 false (A++B) s2 (up K) :=
   QG (fun s1 h1=>front (A:=A) h1.1 (fun x hx=>hA x (by simp [hx])) h1.2) (zn8 hd h)
  refine QG ?_ (swap hd (hA a (by simp)) h1);intro s1 h2;refine QG ?_ h2;rintro s2 ⟨s3,h3,h4⟩;exact zfi (fun _=>zor) (znn h3 h4)
def Pr (pre:List Oper) (acc:Array Nat):Prop:=acc.size=pre.length∧∀ (i:Nat) (o:Oper),pre[i]? = some o→∀ a,(acc.getD i 0).testBit a=true →
 ∃ e∈o.after.toList,Region.binds .any e=true∧(e.on=a∨((acc.getD e.on 0).testBit a=true∧e.on < i))
theorem zcM (acc:Array Nat) (a:Nat):∀ (es:List Edge) (s0:Nat),(es.foldl (fun s e=>if Region.binds .any e then s ||| 2 ^ e.on ||| acc.getD e.on 0 else s) s0).testBit a=true →
  s0.testBit a=true∨∃ e∈es,Region.binds .any e=true∧(e.on=a∨(acc.getD e.on 0).testBit a=true)
 | [],s0,h => .inl h
 | e::es,s0,h=>by
  rcases zcM acc a es _ h with h | ⟨e',h1,h2,h3⟩
  ·simp only [] at h;split at h
   ·rename_i hb;simp only [Nat.testBit_or,Nat.testBit_two_pow,Bool.or_eq_true,decide_eq_true_eq] at h;rcases h with (h | h) | h
    ·exact .inl h
    ·exact .inr ⟨e,by simp,hb,.inl h⟩
    ·exact .inr ⟨e,by simp,hb,.inr h⟩
   ·exact .inl h
  ·exact .inr ⟨e',by simp [h1],h2,h3⟩
theorem zbG {xs:Array Nat} {x:Nat} {i:Nat} (h:i < xs.size):(xs.push x).getD i 0=xs.getD i 0:=by
 simp [Array.getD_eq_getD_getElem?,Array.getElem?_push,Nat.ne_of_lt h]
theorem zm5 {pre:List Oper} {acc:Array Nat} {o:Oper} (h:Pr pre acc) :
  Pr (pre++[o]) (acc.push (o.after.foldl (fun s e=>if Region.binds .any e then s ||| 2 ^ e.on ||| acc.getD e.on 0 else s) 0)):=by
 obtain ⟨h1,h2⟩:=h;refine ⟨by simp [h1],fun i o' ho a hb=>?_⟩;rcases Nat.lt_or_ge i pre.length with hi | hi
 ·rw [List.getElem?_append_left hi] at ho;rw [zbG (by omega)] at hb;obtain ⟨e,h3,h4,h5⟩:=h2 i o' ho a hb;refine ⟨e,h3,h4,h5.imp (fun h=>h) fun h=>⟨?_,h.2⟩⟩;rw [zbG (by omega)]; exact h.1
 ·rw [List.getElem?_append_right hi] at ho;have hi':i=pre.length:=by
   rcases Nat.eq_or_lt_of_le hi with h | h
   ·exact h.symm
   ·rw [List.getElem?_eq_none (by simp; omega)] at ho; cases ho
  subst hi';simp only [Nat.sub_self,List.getElem?_cons_zero,Option.some.injEq] at ho;subst ho;rw [← h1] at hb;have hx:∀ x,(acc.push x).getD acc.size 0=x:=fun x=>by simp [Array.getD_eq_getD_getElem?]
  rw [hx,← Array.foldl_toList] at hb;rcases zcM acc a _ _ hb with h | ⟨e,h3,h4,h5⟩
  ·simp at h
  ·refine ⟨e,h3,h4,h5.imp (fun h=>h) fun h=>?_⟩;have hlt:e.on < acc.size:=by
    rcases Nat.lt_or_ge e.on acc.size with h' | h'
    ·exact h'
    ·simp [Array.getD_eq_getD_getElem?,Array.getElem?_eq_none h'] at h
   exact ⟨by rw [zbG hlt]; exact h,by omega⟩
theorem ze3:∀ (l:List Oper) (pre:List Oper) (acc:Array Nat),Pr pre acc →
  Pr (pre++l) (l.foldl (fun acc o=>acc.push (o.after.foldl (fun s e=>if Region.binds .any e then s ||| 2 ^ e.on ||| acc.getD e.on 0 else s) 0)) acc)
 | [],pre,acc,h=>by simpa using h
 | o::l,pre,acc,h=>by
  have:=ze3 l (pre++[o]) _ (zm5 h)
  simpa using this
theorem zcf (ops:Array Oper):Pr ops.toList (Region.before ops):=by
 have:=ze3 ops.toList [] #[] ⟨rfl,by simp⟩;rw [Region.before,← Array.foldl_toList]
 simpa using this
theorem zgA {ops:Array Oper} {listed:Array Bool} (hcl:∀ j o,ops[j]? = some o→listed.getD j false=true→∀ e∈o.after,Region.binds .any e=true→listed.getD e.on false=true) :
  ∀ (n i:Nat) (o:Oper),i≤n→ops[i]? = some o→(∀ e∈o.after,Region.binds .any e=true→listed.getD e.on false=true)→∀ a,((Region.before ops).getD i 0).testBit a=true→listed.getD a false=true:=by
 intro n;induction n with
 | zero =>
  intro i o hi ho hall a hb;obtain ⟨e,h1,h2,h3⟩:=(zcf ops).2 i o (by simpa using ho) a hb;rcases h3 with h3 | ⟨_,h3⟩
  ·subst h3; exact hall e (by simpa using h1) h2
  ·omega
 | succ n ih =>
  intro i o hi ho hall a hb;obtain ⟨e,h1,h2,h3⟩:=(zcf ops).2 i o (by simpa using ho) a hb;have hl:=hall e (by simpa using h1) h2;rcases h3 with h3 | ⟨h3,h4⟩
  ·subst h3; exact hl
  ·have hlt:e.on < ops.size:=by have:=(Array.getElem?_eq_some_iff.1 ho).1; omega
   obtain ⟨o',ho'⟩:∃ o',ops[e.on]? = some o':=⟨ops[e.on],by simp [hlt]⟩;exact ih e.on o' (by omega) ho' (hcl e.on o' ho' hl) a h3
theorem zgc {ops:Array Oper}:∀ (l done:List Nat),topo .any ops done l=true→∀ (A B:List Nat) (i:Nat),l=A++i::B→∃ o,ops[i]? = some o∧∀ e∈o.after,Region.binds .any e=true→e.on∈done∨e.on∈A
 | [],done,_,A,B,i,h=>by simp at h
 | x::l,done,h,A,B,i,hl=>by
  simp only [topo,Bool.and_eq_true] at h;cases A with
  | nil =>
   simp only [List.nil_append,List.cons.injEq] at hl;obtain ⟨rfl,rfl⟩:=hl;cases ho:ops[x]? with
   | none=>rw [ho] at h; simp at h
   | some o =>
    rw [ho] at h;refine ⟨o,rfl,fun e he hb => .inl ?_⟩;have:=h.1;simp only [Option.map_some,Option.getD_some,Array.all_eq_true_iff_forall_mem,Bool.or_eq_true,Bool.not_eq_true'] at this;rcases this e he with h' | h'
    ·rw [hb] at h'; cases h'
    ·simpa using h'
  | cons y A =>
   simp only [List.cons_append,List.cons.injEq] at hl;obtain ⟨rfl,rfl⟩:=hl;obtain ⟨o,h1,h2⟩:=zgc _ _ h.2 A B i rfl;refine ⟨o,h1,fun e he hb=>?_⟩;rcases h2 e he hb with h' | h'
   ·rcases List.mem_cons.1 h' with rfl | h'
    ·exact .inr (by simp)
    ·exact .inl h'
   ·exact .inr (by simp [h'])
end
section
variable {P:Program} {W0 w0:World} {κ0:Kap} {m0:Mem} {N:Nat} {on:List FuncId} {ops:Array Oper} {aos:List AO} {Q:Exit→Act→World→Prop}
theorem Q2:∀ {l:List Oper} {aos:List AO},y8 P on N ops l=some aos→aos.length=l.length∧∀ (i:Nat) (o:Oper),l[i]? = some o→∃ ao,aos[i]? = some ao∧ZC P on N ops o=some ao
 | [],aos,h=>by simp only [y8] at h; cases h; simp
 | o::l,aos,h=>by
  simp only [y8] at h;split at h
  ·rename_i x k hx hk;cases h;obtain ⟨h1,h2⟩:=Q2 hk;refine ⟨by simp [h1],fun i o' ho=>?_⟩;cases i with
   | zero=>simp only [List.getElem?_cons_zero,Option.some.injEq] at ho; subst ho; exact ⟨x,by simp,hx⟩
   | succ i=>simp only [List.getElem?_cons_succ] at ho ⊢; exact h2 i o' ho
  ·cases h
theorem znt (hc:y8 P on N ops ops.toList=some aos) {K:RS→Prop} (hQ:∀ s a w,RelS W0 w0 κ0 m0 N s a w→K s→Q .normal a w) :
  ∀ (n k:Nat),k+n=ops.size→∀ (s:RS) (a:Act) (w:World),RelS W0 w0 κ0 m0 N s a w→runR P W0 true (aos.drop k) s K→wpOps P ops Q (List.range' k n) a w:=by
 obtain ⟨hlen,hget⟩:=Q2 hc;intro n;induction n with
 | zero =>
  intro k hk s a w hr h;rw [List.drop_of_length_le (by rw [hlen]; simp; omega)] at h;exact hQ s a w hr h
 | succ n ih =>
  intro k hk s a w hr h;rw [List.range'_succ,wpOps_cons];have hlt:k < ops.size:=by omega
  obtain ⟨ao,h1,h2⟩:=hget k ops[k] (by simp [hlt]);have hk':k < aos.length:=by rw [hlen]; simpa using hlt
  rw [List.drop_eq_getElem_cons hk'] at h;have:aos[k]=ao:=by rw [List.getElem?_eq_getElem hk'] at h1; exact Option.some.inj h1
  rw [this] at h;refine wpOp_mono ?_ (zfZ (Q:=Q) (ops:=ops) (i:=k) (o:=ops[k]) (by simp [hlt]) h2 ⟨rfl,rfl,rfl⟩ hr h);rintro a' w' ⟨s',hr',hk''⟩;exact ih (k+1) (by omega) s' a' w' hr' hk''
theorem znc {s s':RS} {a:Act} {w:World} (hs:RS.Sim s s') (h:RelS W0 w0 κ0 m0 N s a w):RelS W0 w0 κ0 m0 N s' a w:=by
 obtain ⟨κ,hr,hf⟩:=h;have hm:lk (s.n++s.m)=lk (s'.n++s'.m):=funext (hs.2.2.app hs.2.1);have hl:zf κ (s.n++s.m)=zf κ (s'.n++s'.m):=by unfold zf Own; rw [hm]
 have h1:∀ x v,zb κ (s.n++s.m) w x v↔zb κ (s'.n++s'.m) w x v:=by
  intro x v;cases x with
  | c x=>cases x<;>simp only [zb,hl]
  | _=>simp only [zb,JO,hm,hl]
 have h1':zb κ (s.n++s.m) w=zb κ (s'.n++s'.m) w:=by funext x v; exact propext (h1 x v)
 have hA:zg κ (s.n++s.m) w=zg κ (s'.n++s'.m) w:=by
  funext x v;cases x with
  | c x=>cases x<;>simp only [zg,h1',hl]
  | _=>simp only [zg,h1']
 have hR:∀ x v,Rep κ (s.n++s.m) w x v=Rep κ (s'.n++s'.m) w x v:=by
  intro x v;cases x with
  | c x=>cases x<;>simp only [Rep,hA,hl]
  | _=>simp only [Rep,hA]
 have hB:∀ id b,jK κ (s.n++s.m) w id b=jK κ (s'.n++s'.m) w id b:=by
  intro id b;cases b<;>simp only [jK,h1']
 have hmw:=hr.mw;refine ⟨κ,⟨⟨⟨fun id b hb=>?_,fun i j b hi hj=>?_,hmw.mem.sb,fun i b hi=>hmw.mem.sd i b (hm▸hi)⟩,fun b hb=>hmw.low b (hl▸hb),?_,hmw.ext,fun i b hi hb=>?_,hmw.hS⟩,hr.start,hr.low0,hr.s0,hr.size,hr.defers,fun t x hx=>?_⟩,fun id hid=>?_⟩
 ·rw [← hB]; exact hmw.mem.blk id b (hm▸hb)
 ·exact hmw.mem.inj i j b (hm▸hi) (hm▸hj)
 ·exact ⟨fun id cs hb=>hm▸hmw.pres.box id cs hb,fun id L sz e hb=>(by have:=hmw.pres.row id L sz e hb; rw [hm,hl] at this; exact this),fun b o v h1 h2=>hl▸hmw.pres.cell b o v h1 h2⟩
 ·exact hmw.new i b (hm▸hi) hb
 ·rw [← hs.1 t] at hx;obtain ⟨g1,g2⟩:=hr.tmps t x hx;exact ⟨g1,hR x _▸g2⟩
 ·rw [← hs.2.1 id]; exact hf id (by rw [hs.2.2 id]; exact hid)
theorem znb {s:RS} {a:Act} {w:World} (h:RelS W0 w0 κ0 m0 N s a w):RelS W0 w0 κ0 m0 N s a { w with drawn:=w.drawn+1 }:=by
 obtain ⟨κ,hr,hf⟩:=h;have hb:Below w.heap.size w { w with drawn:=w.drawn+1 }:=zcg w;exact ⟨κ,⟨hr.mw.below hb,hr.start,hr.low0,hr.s0,hr.size,hr.defers,fun t x hx=>⟨(hr.tmps t x hx).1,Rep.pres (Qy hr.mw.mem hb) (hr.tmps t x hx).2⟩⟩,hf⟩
def qF (aos:List AO) (l:List Nat):List AO:=l.filterMap fun i=>aos[i]?
theorem zme {a:AO} {tn:List Nat}:(a.loose tn).dst=a.dst∧(a.loose tn).op=a.op∧(a.loose tn).guard=a.guard:=by
 unfold AO.loose;split
 ·rename_i h; exact ⟨rfl,h.symm,rfl⟩
 ·rename_i h; exact ⟨rfl,h.symm,rfl⟩
 ·rename_i h; exact ⟨rfl,h.symm,rfl⟩
 ·rename_i h; exact ⟨rfl,h.symm,rfl⟩
 ·exact ⟨rfl,rfl,rfl⟩
theorem zmd {a:AO} {g:Bool} {tn:List Nat}:(a.loose3 g tn).dst=a.dst∧(a.loose3 g tn).op=a.op∧(a.loose3 g tn).guard=a.guard:=by
 unfold AO.loose3;split<;>first|exact ⟨rfl,rfl,rfl⟩|(rename_i h; exact ⟨rfl,h.symm,rfl⟩)
theorem zgv {aos0:List AO} (hc:y8 P on N ops ops.toList=some aos0) (haos:aos=aos0∨(∃ tn,aos=aos0.map (AO.loose tn))∨∃ g tn,aos=aos0.map (AO.loose3 g tn)) (hok:Zq ops aos=true) :
  ∀ (fuel:Nat) (l:List Nat) (listed:Array Bool) (s:RS) (a:Act) (w:World) (K:RS→Prop),l.length=fuel→listed.size=ops.size→List.Sublist l (List.range ops.size) →
   (∀ j,j < ops.size→(listed.getD j false=true↔j ∉ l)) →
   (∀ j o,ops[j]? = some o→listed.getD j false=true→∀ e∈o.after,Region.binds .any e=true→listed.getD e.on false=true) →
   (∀ s a w,RelS W0 w0 κ0 m0 N s a w→K s→Q .normal a w) →
   RelS W0 w0 κ0 m0 N s a w→runR P W0 false (qF aos l) s K→wpAny P .any ops Q fuel listed a w:=by
 obtain ⟨hlen,hget0⟩:=Q2 hc;have hget:∀ (i:Nat) (o:Oper),ops.toList[i]? = some o→∃ ao' ao,aos[i]? = some ao'∧ZC P on N ops o=some ao∧ao'.dst=ao.dst∧ao'.op=ao.op∧ao'.guard=ao.guard:=fun i o ho=>by
  obtain ⟨ao,h1,h2⟩:=hget0 i o ho;rcases haos with rfl | ⟨tn,rfl⟩ | ⟨g,tn,rfl⟩
  ·exact ⟨ao,ao,h1,h2,rfl,rfl,rfl⟩
  ·exact ⟨ao.loose tn,ao,by rw [List.getElem?_map,h1]; rfl,h2,zme⟩
  ·exact ⟨ao.loose3 g tn,ao,by rw [List.getElem?_map,h1]; rfl,h2,zmd⟩
 simp only [Zq,Bool.and_eq_true,List.all_eq_true] at hok;obtain ⟨htopo,hpairs⟩:=hok;have hgd:∀ (listed:Array Bool) (j:Nat),listed.size=ops.size→j < ops.size→listed.getD j true=listed.getD j false:=fun listed j h1 h2=>by
  simp [Array.getD_eq_getD_getElem?,Array.getElem?_eq_getElem (show j < listed.size by omega)]
 intro fuel;induction fuel with
 | zero =>
  intro l listed s a w K hl hsz hsub hlist hcl hQ hr h;have:l=[]:=by simpa using hl
  subst this;refine ⟨?_,hQ s a w hr h⟩;rw [List.eq_nil_iff_forall_not_mem];intro i hi;obtain ⟨h1,o,ho,_⟩:=mem_ready.1 hi;have hlt:=(Array.getElem?_eq_some_iff.1 ho).1;rw [hgd listed i hsz hlt,(hlist i hlt).2 (by simp)] at h1;cases h1
 | succ fuel ih =>
  intro l listed s a w K hl hsz hsub hlist hcl hQ hr h;have hsort:List.Pairwise (· < ·) l:=List.Pairwise.sublist hsub List.pairwise_lt_range;refine ⟨fun hnil=>?_,fun i hi=>?_⟩
  ·exfalso;cases l with
   | nil=>simp at hl
   | cons i l =>
    have hi:i < ops.size:=by simpa using hsub.subset (List.mem_cons_self)
    obtain ⟨A,B,hAB⟩:=List.append_of_mem (show i∈List.range ops.size by simpa using hi);obtain ⟨o,ho,hall⟩:=zgc _ _ htopo A B i hAB;have:i∈Region.ready .any ops listed:=by
     refine mem_ready.2 ⟨?_,o,ho,fun e he hb=>?_⟩
     ·rw [hgd listed i hsz hi];cases hh:listed.getD i false with
      | false=>rfl
      | true=>exact absurd (List.mem_cons_self) ((hlist i hi).1 hh)
     ·have hA:e.on∈A:=(hall e he hb).resolve_left (by simp);have hp:List.Pairwise (· < ·) (A++i::B):=hAB▸List.pairwise_lt_range;have hlt:e.on < i:=(List.pairwise_append.1 hp).2.2 _ hA _ (List.mem_cons_self);refine (hlist e.on (by omega)).2 fun hmem=>?_
      rcases List.mem_cons.1 hmem with h' | h'
      ·omega
      ·have:=(List.pairwise_cons.1 hsort).1 _ h'; omega
    rw [hnil] at this; simp at this
  ·obtain ⟨h1,o,ho,hall⟩:=mem_ready.1 hi;have hlt:=(Array.getElem?_eq_some_iff.1 ho).1;have hil:i∈l:=by
    refine Classical.byContradiction fun hn=>?_
    rw [hgd listed i hsz hlt,(hlist i hlt).2 hn] at h1; cases h1
   obtain ⟨A,B,rfl⟩:=List.append_of_mem hil;obtain ⟨ao,ao0,hao,hco,heq⟩:=hget i o (by simpa using ho);have hpA:∀ a'∈qF aos A,Jr a' ao=true:=by
    intro a' ha';simp only [qF,List.mem_filterMap] at ha';obtain ⟨j,hj,hja⟩:=ha';have hji:j < i:=(List.pairwise_append.1 hsort).2.2 _ hj _ (List.mem_cons_self);have:=hpairs i (by simpa using hlt) j (by simpa using hji);simp only [Bool.or_eq_true,hja,hao] at this;rcases this with this | this
    ·exfalso;have hjl:=zgA hcl i i o (Nat.le_refl _) ho hall j this;exact (hlist j (by omega)).1 hjl (by simp [hj])
    ·exact this
   have hsplit:qF aos (A++i::B)=qF aos A++ao::qF aos B:=by simp [qF,List.filterMap_append,hao]
   rw [hsplit] at h;have hf:=front (let ⟨_,_,hfr⟩:=hr; hfr) hpA h;refine wpOp_mono ?_ (zfZ ho hco heq hr hf);rintro a' w' ⟨s',hr',hk'⟩;refine ih (A++B) _ s' a' w' (up K) (by simp at hl ⊢; omega) (by simpa using hsz) ?_ ?_ ?_ ?_ hr' (by rw [show qF aos (A++B)=qF aos A++qF aos B by simp [qF,List.filterMap_append]]; exact hk')
   ·exact List.Sublist.trans (List.Sublist.append_left (List.sublist_cons_self i B) A) hsub
   ·intro j hj;have hnd:i ∉ A++B:=by
     intro hm;rcases List.mem_append.1 hm with h' | h'
     ·have:=(List.pairwise_append.1 hsort).2.2 _ h' _ (List.mem_cons_self); omega
     ·have:=(List.pairwise_cons.1 (List.pairwise_append.1 hsort).2.1).1 _ h'; omega
    by_cases hji:i=j
    ·subst hji;constructor
     ·exact fun _=>hnd
     ·intro _; simp [Array.getD_eq_getD_getElem?,hsz,hj]
    ·rw [getD_set_ne false hji,hlist j hj];simp only [List.mem_append,List.mem_cons,not_or];constructor
     ·exact fun h=>⟨h.1,h.2.2⟩
     ·exact fun h=>⟨h.1,fun hh=>hji hh.symm,h.2⟩
   ·intro j o' ho' hlj e he hb;by_cases hji:i=j
    ·subst hji;rw [ho] at ho'; cases ho';exact getD_set_true (hall e he hb)
    ·rw [getD_set_ne false hji] at hlj;exact getD_set_true (hcl j o' ho' hlj e he hb)
   ·rintro s'' a'' w'' hr'' ⟨t,ht,hk⟩;exact hQ t a'' w'' (znc ht.symm hr'') hk
theorem zm4 {aos:List AO}:qF aos (List.range aos.length)=aos:=by
 unfold qF;induction aos with
 | nil=>rfl
 | cons x l ih =>
  rw [List.length_cons,List.range_succ_eq_map,List.filterMap_cons];simp only [List.getElem?_cons_zero,List.filterMap_map];refine congrArg _ ?_;rw [show ((fun i=>(x::l)[i]?) ∘ Nat.succ)=fun i=>l[i]? by funext i; simp];exact ih
theorem zna {aos0:List AO} {id:Nat} {draw:Bool} (hm:P.follows .mixedOrders=true) (hc:y8 P on N ops ops.toList=some aos0) (haos:aos=aos0∨draw=true∧((∃ tn,aos=aos0.map (AO.loose tn))∨∃ g tn,aos=aos0.map (AO.loose3 g tn))) (hok:draw=true→Zq ops aos=true) {s:RS} {a:Act} {w:World} {K:RS→Prop}
  (hQ:∀ s a w,RelS W0 w0 κ0 m0 N s a w→K s→Q .normal a w) (hr:RelS W0 w0 κ0 m0 N s a w) (h:runR P W0 (!draw) aos s K):(Code.region id ops draw).wp P Q a w:=by
 have hlen:aos.length=ops.toList.length:=by
  have:=(Q2 hc).1;rcases haos with rfl | ⟨_,⟨_,rfl⟩ | ⟨_,_,rfl⟩⟩
  ·exact this
  ·rw [List.length_map]; exact this
  ·rw [List.length_map]; exact this
 cases draw with
 | false =>
  have:aos=aos0:=by rcases haos with h | ⟨h,_⟩; exact h; cases h
  subst this;refine wp_region ?_;rw [List.range_eq_range'];exact znt hc hQ ops.size 0 (by simp) s a w hr h
 | true =>
  refine wp_region_any hm ?_;refine zgv hc (haos.imp (fun h=>h) fun h=>h.2) (hok rfl) ops.size (List.range ops.size) _ s a _ K (by simp) (by simp) (List.Sublist.refl _) ?_ ?_ hQ (znb hr) ?_
  ·intro j hj; simp [Array.getD_eq_getD_getElem?,hj]
  ·intro j o ho hl;have hlt:=(Array.getElem?_eq_some_iff.1 ho).1;simp [Array.getD_eq_getD_getElem?,hlt] at hl
  ·rw [show ops.size=aos.length by rw [hlen]; simp,zm4]; exact h
end
abbrev Frz:=Option (Nat × Nat × List CV)
def fr1 (z:Frz):PV→PV
 | .own i k=>match z with
  | some (id,n,C)=>if i=id∧k=n then .c (.row C) else .own i k
  | none => .own i k
 | x=>x
def frA (z:Frz):PV→PV
 | .agg cs=>jm (cs.map (fr1 z))
 | x=>fr1 z x
theorem zlz {z:Frz} {sz:Nat}:frA z (yt sz)=yt sz:=by
 cases sz with
 | zero=>rfl
 | succ n =>
  show jm ((List.replicate (n+1) (PV.tup [])).map (fr1 z))=_;rw [List.map_replicate];rfl
theorem zaU {z:Frz} {sz:Nat} {C:List CV}:(zI sz C).map (frA z)=zI sz C:=zdU zlz fun _=>rfl
theorem zdW {κ:Kap} {m:Mem} {w:World} {z:Frz} {id sz:Nat} {e:TypeId} {L:List PV} {C:List CV} (hm:MemOk κ m w) (hl:lk m id=some (.row L sz e)) (hk:κ id=none) (h:L.map (frA z)=zI sz C):L=zI sz C:=by
 rcases (hm.blk id _ hl).2.2 with ⟨_,rfl | ⟨D,rfl⟩⟩ | ⟨b,_,_,g,_⟩
 ·exact absurd h zlP
 ·rw [zaU] at h; exact h
 ·rw [hk] at g; cases g
def frP (z:Frz):PV→PV
 | .tup cs => .tup (cs.map (frA z))
 | x=>frA z x
def frB (z:Frz):Blk→Blk
 | .box cs => .box (cs.map (fr1 z))
 | .row L sz e => .row (L.map (frA z)) sz e
def jB {α:Type} (F:List (Nat × α)):List Nat→List (Nat × α)
 | []=>[]
 | t::l=>match lk F t with
  | some x=>(t,x)::jB F l
  | none=>jB F l
theorem Zd {α:Type} {F:List (Nat × α)}:∀ {l:List Nat} {t:Nat} {x:α},lk (jB F l) t=some x→lk F t=some x∧t∈l
 | [],t,x,h=>by simp [jB,lk] at h
 | k::l,t,x,h=>by
  simp only [jB] at h;split at h
  ·rename_i y hy;rw [zr] at h;split at h
   ·rename_i ht; subst ht; rw [hy]; exact ⟨h,by simp⟩
   ·exact ⟨(Zd h).1,List.mem_cons_of_mem _ (Zd h).2⟩
  ·exact ⟨(Zd h).1,List.mem_cons_of_mem _ (Zd h).2⟩
theorem za8 {α:Type} {F:List (Nat × α)}:∀ {l:List Nat} {t:Nat},t∈l→lk (jB F l) t=lk F t
 | k::l,t,h=>by
  simp only [jB];by_cases ht:t=k
  ·subst ht;split
   ·rename_i y hy; rw [zr,if_pos rfl]; exact hy.symm
   ·rename_i hy;cases hl:lk (jB F l) t with
    | none=>exact hy.symm
    | some z=>exact (Zd hl).1.symm
  ·have hm:t∈l:=(List.mem_cons.1 h).resolve_left ht;split
   ·rw [zr,if_neg ht]; exact za8 hm
   ·exact za8 hm
def mapL {α:Type} (f:α→α) (F:List (Nat × α)):List (Nat × α):=F.map fun p=>(p.1,f p.2)
theorem yV {α:Type} {f:α→α}:∀ {F:List (Nat × α)} {t:Nat},lk (mapL f F) t=(lk F t).map f
 | [],t=>rfl
 | (k,x)::F,t=>by
  have ih:=yV (f:=f) (F:=F) (t:=t);simp only [mapL,List.map_cons,zr] at ih ⊢;split
  ·rfl
  ·exact ih
structure Tr where
 z:Option Nat
 fs:List Nat
 ms:List Nat
def Tr.go (k0:List Nat) (z:Frz) (fs ms:List Nat) (F:List (Nat × PV)) (m:Mem) (K:List (Nat × PV)→Mem→Prop):Prop :=
 k0.all ms.contains=true∧ZH (mapL (frB z) (jB m ms))=true∧((mapL (frP z) (jB F fs)).all fun p=>inP (mapL (frB z) (jB m ms)) p.2)=true ∧
  K (mapL (frP z) (jB F fs)) (mapL (frB z) (jB m ms))
def Tr.on (k0:List Nat) (t:Tr) (F:List (Nat × PV)) (m:Mem) (K:List (Nat × PV)→Mem→Prop):Prop :=
 match t.z with
 | none=>Tr.go k0 none t.fs t.ms F m K
 | some id=>k0.contains id=false∧t.ms.contains id=false∧match lk m id with
  | some (.row L _ _)=>onv (z8 L) fun C=>Tr.go k0 (some (id,L.length,C)) t.fs t.ms F m K
  | _=>False
def Tr.ons (k0:List Nat):List Tr→List (Nat × PV)→Mem→(List (Nat × PV)→Mem→Prop)→Prop
 | [],F,m,K=>K F m
 | t::l,F,m,K=>t.on k0 F m fun F' m'=>Tr.ons k0 l F' m' K
theorem zez (cs:List PV):(jm cs).cells=cs:=by
 unfold jm;cases hs:qd cs with
 | none=>rfl
 | some l=>rw [zab hs]; rfl
theorem zdO (z:Frz) (x:PV) (hx:∀ cs,x ≠ .tup cs):(frA z x).cells=x.cells.map (fr1 z):=by
 cases x with
 | agg cs =>
  simp only [frA,zez]; rfl
 | c x =>
  simp only [frA,fr1,PV.cells,List.map_map];exact List.map_congr_left fun y _=>rfl
 | own i k =>
  simp only [frA,fr1];cases z with
  | none=>rfl
  | some z =>
   obtain ⟨id,n,C⟩:=z;simp only [];split
   ·rename_i h; simp [PV.cells,CV.cells,fr1,h]
   ·rename_i h; simp [PV.cells,fr1,h]
 | tup cs=>exact absurd rfl (hx cs)
 | _=>rfl
section
variable {W0 w0:World} {κ0:Kap} {m0:Mem} {κ:Kap} {m m':Mem} {w:World} {z:Frz}
structure FrOk (κ:Kap) (m m':Mem) (w:World) (z:Frz):Prop where
 sub:∀ id b',lk m' id=some b'→∃ b,lk m id=some b∧b'=frB z b
 fz:∀ id n C,z=some (id,n,C)→(∃ L sz e,lk m id=some (.row L sz e)∧L.length=n∧z8 L=some C)∧∀ b,κ id=some b→¬ zf κ m' b
theorem FrOk.own (h:FrOk κ m m' w z) {b:Nat} (hb:Own κ m' b):Own κ m b:=by
 obtain ⟨id,h1,h2⟩:=hb;obtain ⟨x,hx⟩:=Option.isSome_iff_exists.1 h1;obtain ⟨y,hy,_⟩:=h.sub id x hx;exact ⟨id,by simp [hy],h2⟩
theorem FrOk.live (h:FrOk κ m m' w z) {b:Nat} (hb:zf κ m' b):zf κ m b:=hb.imp (fun h=>h) h.own
theorem FrOk.c (h:FrOk κ m m' w z) {y:CV} {u:Value} (hr:RepC w (zf κ m) y u):RepC w (zf κ m') y u :=
 hr.mono fun _ _ _ hb hc=>⟨fun hh=>hb (h.live hh),hc⟩
theorem zb.fr (hm:MemOk κ m w) (h:FrOk κ m m' w z) {x:PV} {v:Value} (hin:in1 m' (fr1 z x)=true) (hr:zb κ m w x v):zb κ m' w (fr1 z x) v:=by
 have hlk:∀ {id},(lk m' id).isSome=true→∃ b,lk m id=some b∧lk m' id=some (frB z b):=by
  intro id hid;obtain ⟨b',hb'⟩:=Option.isSome_iff_exists.1 hid;obtain ⟨b,h1,h2⟩:=h.sub id b' hb';exact ⟨b,h1,by rw [hb',h2]⟩
 have hown:∀ {id n},in1 m' (.own id n)=true→zb κ m w (.own id n) v→zb κ m' w (.own id n) v:=by
  intro id n hin hr;obtain ⟨hs,hn,L,sz,e,h1,h2,h3,hg⟩:=hr;obtain ⟨b,g1,g2⟩:=hlk hin;rw [h1] at g1; cases g1;exact ⟨hs,hn,_,sz,e,g2,by simpa using h2,fun hl=>h3 (by simpa using hl),fun k C hne hC hl=>h.c (hg k C hne (zdW hm h1 k hC) hl)⟩
 cases x with
 | c x =>
  cases x with
  | agg=>exact hr.elim
  | tup=>exact hr.elim
  | sc u=>exact h.c (y := .sc u) hr
  | row L=>exact h.c (y := .row L) hr
 | nil=>exact hr
 | np=>exact hr
 | ptr id off =>
  obtain ⟨b,cs,h1,h2,h3⟩:=hr;obtain ⟨b',g1,g2⟩:=hlk hin;rw [h1] at g1; cases g1;exact ⟨b,_,g2,h2,h3⟩
 | own id n =>
  cases z with
  | none=>exact hown hin hr
  | some zz =>
   obtain ⟨i,k,C⟩:=zz;simp only [fr1] at hin ⊢;split
   ·rename_i hc;obtain ⟨rfl,rfl⟩:=hc;obtain ⟨⟨L,sz,e,h1,h2,h3⟩,h4⟩:=h.fz _ _ _ rfl;obtain ⟨g1,g2⟩:=yr h3 (hm.blk _ _ h1).1;exact zby hm h1 h2 g1 g2 (fun _ hh=>zct (fun b hb=>h.live hb) h3 hh) h4 (.of1 hr)
   ·rename_i hc;rw [if_neg hc] at hin;exact hown hin hr
 | ep x off =>
  obtain ⟨b,o,vs,h1,h2,h3,hp,h4⟩:=hr;exact ⟨b,o,vs,h1,fun hh=>h2 (h.live hh),h3,hp,fun i y u hy hu=>⟨h.c (h4 i y u hy hu).1,(h4 i y u hy hu).2⟩⟩
 | eo id n i off =>
  obtain ⟨hs,L,sz,e,h1,h2,h3⟩:=hr;obtain ⟨b',g1,g2⟩:=hlk hin;rw [h1] at g1; cases g1;exact ⟨hs,_,sz,e,g2,by simpa using h2,fun hl=>h3 (by simpa using hl)⟩
 | sl id n lo s =>
  obtain ⟨hs,L,sz,e,h1,h2,h3⟩:=hr;obtain ⟨b',g1,g2⟩:=hlk hin;rw [h1] at g1; cases g1;exact ⟨hs,_,sz,e,g2,by simpa using h2,fun hl=>h3 (by simpa using hl)⟩
 | fn g ids =>
  obtain ⟨bs,h1,h2⟩:=hr;refine ⟨bs,h1,za.imp_mem (fun id b hi _ ⟨⟨cs,h3⟩,h4⟩=>⟨?_,h4⟩) h2⟩;obtain ⟨b',g1,g2⟩:=hlk (List.all_eq_true.1 (show (ids.all fun id=>(lk m' id).isSome)=true from hin) id hi);rw [h3] at g1; cases g1;exact ⟨_,g2⟩
 | agg=>exact hr.elim
 | tup=>exact hr.elim
theorem JR {R R':PV→Value→Prop} {g:PV→PV} {f:PV→Bool}:∀ {cs:List PV} {vs:List Value},(∀ x v,f (g x)=true→R x v→R' (g x) v)→(cs.map g).all f=true→za R cs vs→za R' (cs.map g) vs
 | [],[],_,_,_=>trivial
 | x::cs,v::vs,hi,hf,h=>by
  simp only [List.map_cons,List.all_cons,Bool.and_eq_true] at hf;exact ⟨hi _ _ hf.1 h.1,JR hi hf.2 h.2⟩
 | [],_::_,_,_,h=>h.elim
 | _::_,[],_,_,h=>h.elim
theorem zlU {m:Mem} {ds:List PV} (h:inA m (jm ds)=true):ds.all (in1 m)=true:=by
 unfold jm at h;cases hs:qd ds with
 | none=>rw [hs] at h; exact h
 | some l=>rw [zab hs]; simp [in1]
theorem zg.fr (hm:MemOk κ m w) (h:FrOk κ m m' w z) {x:PV} {v:Value} (hin:inA m' (frA z x)=true) (hr:zg κ m w x v):zg κ m' w (frA z x) v:=by
 have one:∀ {x:PV} {v:Value},(∀ y,frA z x=y→in1 m' y=inA m' y∨inA m' y=false)→frA z x=fr1 z x→inA m' (frA z x)=true→zb κ m w x v→zg κ m' w (frA z x) v:=by
  intro x v h1 h2 hin hr;have:in1 m' (fr1 z x)=true:=by
   rcases h1 _ rfl with h3 | h3
   ·rw [← h2,h3]; exact hin
   ·rw [h3] at hin; cases hin
  rw [h2]; exact .of1 (zb.fr hm h this hr)
 cases x with
 | agg cs =>
  obtain ⟨vs,rfl,h2⟩:=hr;exact zg.of_mkAgg (JR (fun _ _ hin hr=>zb.fr hm h hin hr) (zlU hin) h2)
 | c x =>
  cases x with
  | agg cs=>exact h.c (y := .agg cs) hr
  | sc u=>exact h.c (y := .sc u) hr
  | row u=>exact h.c (y := .row u) hr
  | tup u=>exact hr.elim
 | nil=>exact hr
 | np=>exact hr
 | ptr a b=>exact .of1 (zb.fr (x := .ptr a b) hm h hin hr)
 | own i k =>
  have h1:inA m' (frA z (.own i k))=in1 m' (fr1 z (.own i k)):=by
   simp only [frA,fr1];cases z with
   | none=>rfl
   | some zz=>obtain ⟨id,n,C⟩:=zz; simp only []; split<;>rfl
  exact .of1 (zb.fr (x := .own i k) hm h (h1▸hin) hr)
 | ep a b=>exact .of1 (zb.fr (x := .ep a b) hm h hin hr)
 | eo a b c d=>exact .of1 (zb.fr (w:=w) (x := .eo a b c d) hm h hin hr)
 | sl a b c d=>exact .of1 (zb.fr (w:=w) (x := .sl a b c d) hm h hin hr)
 | fn a b=>exact .of1 (zb.fr (w:=w) (x := .fn a b) hm h hin hr)
 | tup a=>exact hr.elim
theorem Rep.fr (hm:MemOk κ m w) (h:FrOk κ m m' w z) {x:PV} {v:Value} (hin:inP m' (frP z x)=true) (hr:Rep κ m w x v):Rep κ m' w (frP z x) v:=by
 cases x with
 | tup cs =>
  obtain ⟨vs,rfl,h2⟩:=hr;exact ⟨vs,rfl,JR (fun _ _ hin hr=>zg.fr hm h hin hr) hin h2⟩
 | c x =>
  cases x with
  | tup cs=>exact h.c (y := .tup cs) hr
  | sc u=>exact h.c (y := .sc u) hr
  | row u=>exact h.c (y := .row u) hr
  | agg u=>exact h.c (y := .agg u) hr
 | nil=>exact hr
 | np=>exact hr
 | ptr a b=>exact .ofA (zg.fr (w:=w) (x := .ptr a b) hm h hin hr)
 | own i k =>
  have h1:inP m' (frP z (.own i k))=inA m' (frA z (.own i k)):=by
   simp only [frP,frA,fr1];cases z with
   | none=>rfl
   | some zz=>obtain ⟨id,n,C⟩:=zz; simp only []; split<;>rfl
  exact .ofA (zg.fr (x := .own i k) hm h (h1▸hin) hr)
 | ep a b=>exact .ofA (zg.fr (x := .ep a b) hm h hin hr)
 | eo a b c d=>exact .ofA (zg.fr (w:=w) (x := .eo a b c d) hm h hin hr)
 | sl a b c d=>exact .ofA (zg.fr (w:=w) (x := .sl a b c d) hm h hin hr)
 | fn a b=>exact .ofA (zg.fr (w:=w) (x := .fn a b) hm h hin hr)
 | agg cs =>
  have h1:inP m' (frP z (.agg cs))=inA m' (frA z (.agg cs)):=by
   simp only [frP,frA,jm];cases qd (cs.map (fr1 z))<;>rfl
  exact .ofA (zg.fr (x := .agg cs) hm h (h1▸hin) hr)
theorem zdz {L:List PV} (hL:∀ x∈L,∀ cs,x ≠ .tup cs):(L.map (frA z)).flatMap PV.cells=(L.flatMap PV.cells).map (fr1 z):=by
 induction L with
 | nil=>rfl
 | cons x l ih =>
  simp only [List.map_cons,List.flatMap_cons,List.map_append];rw [zdO z x (hL x (by simp)),ih fun y hy=>hL y (by simp [hy])]
theorem zeK {R:PV→Value→Prop} (hR:∀ cs v,¬ R (.tup cs) v):∀ {L:List PV} {vs:List Value},za R (L.flatMap PV.cells) vs→∀ x∈L,∀ cs,x ≠ .tup cs
 | [],_,_,x,hx,_=>by simp at hx
 | y::L,vs,h,x,hx,cs=>by
  simp only [List.flatMap_cons] at h;obtain ⟨u,v,rfl,h1,h2⟩:=QQ h;rcases List.mem_cons.1 hx with rfl | hx
  ·rintro rfl;cases u with
   | nil=>exact h1.elim
   | cons a u=>exact hR _ _ h1.1
  ·exact zeK hR h2 x hx cs
theorem zlx (z:Frz) (x:PV) (h:∀ cs,x ≠ .agg cs):(fr1 z x).cells.length=x.cells.length:=by
 cases x with
 | own i k =>
  unfold fr1;simp only;split
  ·split<;>rfl
  ·rfl
 | agg cs=>exact absurd rfl (h cs)
 | _=>rfl
theorem zly {z:Frz} {x:PV}:(frA z x).cells.length=x.cells.length:=by
 cases x with
 | agg cs=>unfold frA; rw [zez]; simp [PV.cells]
 | c x=>rfl
 | tup cs=>rfl
 | own i k=>exact zlx z (.own i k) (by simp)
 | _=>rfl
theorem MemOk.fr (hm:MemOk κ m w) (h:FrOk κ m m' w z) (hin:ZH m'=true):MemOk κ m' w:=by
 refine ⟨fun id b' hb'=>?_,fun i j b hi hj h1 h2=>?_,hm.sb,fun i b hi hb=>?_⟩
 ·have hbin:=zd0 hin hb';obtain ⟨b,hb,rfl⟩:=h.sub id b' hb';have hk:=hm.blk id b hb;cases b with
  | box cs =>
   obtain ⟨g,vs,e,h1,h2,h3⟩:=hk;exact ⟨g,vs,e,h1,h2,JR (fun _ _ hin hr=>zb.fr hm h hin hr) hbin h3⟩
  | row L sz e =>
   obtain ⟨h0,h00,hk⟩:=hk;rcases hk with ⟨h1,hd⟩ | ⟨g,vs,rest,h1,h2,h3⟩
   ·refine ⟨fun y hy=>?_,h00,.inl ⟨h1,hd.imp (fun e=>by rw [e]; rfl) fun ⟨C,e⟩=>⟨C,by rw [e,zaU]⟩⟩⟩;obtain ⟨x,hx,rfl⟩:=List.mem_map.1 hy;rw [zly]; exact h0 x hx
   ·have hnt:=zeK (R:=zb κ m w) (fun _ _ h=>h) h3;have hbin:((L.map (frA z)).flatMap PV.cells).all (in1 m')=true:=hbin;rw [zdz hnt] at hbin;refine ⟨fun y hy=>?_,h00,.inr ⟨g,vs,rest,h1,h2,?_⟩⟩
    ·obtain ⟨x,hx,rfl⟩:=List.mem_map.1 hy;rw [zdO z x (hnt x hx),List.length_map]; exact h0 x hx
    ·rw [zdz hnt];exact JR (fun _ _ hin hr=>zb.fr hm h hin hr) hbin h3
 ·have up:∀ i,(lk m' i).isSome=true→(lk m i).isSome=true:=fun i hi=>by
   obtain ⟨x,hx⟩:=Option.isSome_iff_exists.1 hi;obtain ⟨y,hy,_⟩:=h.sub i x hx;simp [hy]
  exact hm.inj i j b (up i hi) (up j hj) h1 h2
 ·obtain ⟨x,hx⟩:=Option.isSome_iff_exists.1 hi;obtain ⟨y,hy,_⟩:=h.sub i x hx;exact hm.sd i b (by simp [hy]) hb
end
inductive Good:CV→Prop where
 | sc {v:Value}:wfv v→Good (.sc v)
 | row {L:List CV}:L.length≤maxLen→(∀ x∈L,∀ y∈x.cells,Good y)→Good (.row L)
 | agg {L:List CV}:(∀ x∈L,Good x)→Good (.agg L)
 | tup {L:List CV}:(∀ x∈L,Good x)→Good (.tup L)
theorem RepC.good {w:World} {S:Nat→Prop} {x:CV} {v:Value} (h:RepC w S x v):Good x:=by
 induction h with
 | sc hv=>exact .sc hv
 | @agg cs vs hl _ _ ih =>
  refine .agg fun x hx=>?_
  obtain ⟨i,hi⟩:=List.mem_iff_getElem?.1 hx;have hlt:i < vs.length:=by
   rw [← hl]; exact (List.getElem?_eq_some_iff.1 hi).1
  exact ih i x vs[i] hi (by simp [hlt])
 | @tup cs vs hl _ ih =>
  refine .tup fun x hx=>?_
  obtain ⟨i,hi⟩:=List.mem_iff_getElem?.1 hx;have hlt:i < vs.length:=by
   rw [← hl]; exact (List.getElem?_eq_some_iff.1 hi).1
  exact ih i x vs[i] hi (by simp [hlt])
 | nil hc=>exact .row (Nat.zero_le _) (by simp)
 | @row L b off cap sz vs hne h0 hlc hcm hS hsz hl _ h1 hc ih =>
  refine .row (Nat.le_trans hlc hcm) fun x hx y hy=>?_
  have hm:y∈L.flatMap CV.cells:=List.mem_flatMap.2 ⟨x,hx,hy⟩;obtain ⟨i,hi⟩:=List.mem_iff_getElem?.1 hm;have hlt:i < vs.length:=by
   rw [← hl]; exact (List.getElem?_eq_some_iff.1 hi).1
  exact ih i y vs[i] hi (by simp [hlt])
def qN:PV→Prop
 | .c x=>Good x
 | .own _ n=>n≤maxLen
 | _=>True
theorem Rep.good {κ:Kap} {m:Mem} {w:World} {x:PV} {v:Value} (h:Rep κ m w x v):qN x:=by
 cases x with
 | c x=>exact (Rep.c h).good
 | own id n=>exact h.2.1
 | _=>trivial
section
variable {W0 w0:World} {κ0:Kap} {m0:Mem} {N:Nat} {κ:Kap} {F:List (Nat × PV)} {m:Mem} {a:Act} {w:World} {k0:List Nat}
theorem zdT {z:Frz} {fs ms:List Nat} {K:List (Nat × PV)→Mem→Prop} (hk0:∀ id,(lk m0 id).isSome=true→k0.contains id=true) (hr:Rel W0 w0 κ0 m0 N κ F m a w)
  (hz:∀ id n C,z=some (id,n,C)→k0.contains id=false∧ms.contains id=false∧∃ L sz e,lk m id=some (.row L sz e)∧L.length=n∧z8 L=some C)
  (h:Tr.go k0 z fs ms F m K):∃ F' m',Rel W0 w0 κ0 m0 N κ F' m' a w∧K F' m':=by
 obtain ⟨h1,h2,h3,hK⟩:=h;refine ⟨_,_,?_,hK⟩;have hmw:=hr.mw;have hsub:∀ id b',lk (mapL (frB z) (jB m ms)) id=some b'→∃ b,lk m id=some b∧b'=frB z b:=by
  intro id b' hb;rw [yV,Option.map_eq_some_iff] at hb;obtain ⟨b,hb,rfl⟩:=hb;exact ⟨b,(Zd hb).1,rfl⟩
 have hown:∀ {b},Own κ (mapL (frB z) (jB m ms)) b→Own κ m b:=by
  rintro b ⟨id,g1,g2⟩;obtain ⟨x,hx⟩:=Option.isSome_iff_exists.1 g1;obtain ⟨y,hy,_⟩:=hsub id x hx;exact ⟨id,by simp [hy],g2⟩
 have hfr:FrOk κ m (mapL (frB z) (jB m ms)) w z:=by
  refine ⟨hsub,fun id n C hzz=>?_⟩;obtain ⟨g1,g2,L,sz,e,g3,g4,g5⟩:=hz id n C hzz;refine ⟨⟨L,sz,e,g3,g4,g5⟩,fun b hb hl=>?_⟩;rcases hl with hl | ⟨j,g6,g7⟩
  ·exact hmw.mem.sd id b (by simp [g3]) hb hl
  ·obtain ⟨x,hx⟩:=Option.isSome_iff_exists.1 g6;obtain ⟨y,hy,_⟩:=hsub j x hx;have:=hmw.mem.inj id j b (by simp [g3]) (by simp [hy]) hb g7;subst this;rw [yV,Option.map_eq_some_iff] at hx;obtain ⟨b',hb',_⟩:=hx;have:=(Zd hb').2;rw [show ms.contains id=true by simpa using this] at g2;cases g2
 have hkeep:∀ id,(lk m0 id).isSome=true→lk (mapL (frB z) (jB m ms)) id=(lk m id).map (frB z):=by
  intro id hid;rw [yV,za8];have:=(List.all_eq_true.1 h1) id (by simpa using hk0 id hid)
  simpa using this
 refine ⟨⟨hmw.mem.fr hfr h2,fun b hb=>hmw.low b (hfr.live hb),⟨fun id cs hb=>?_,fun id L sz e hb=>?_,fun b o v hl hc=>?_⟩,hmw.ext,fun id b hid hb=>?_,hmw.hS⟩,hr.start,hr.low0,hr.s0,hr.size,hr.defers,fun t x hx=>?_⟩
 ·obtain ⟨⟨cs',g1⟩,g2⟩:=hmw.pres.box id cs hb;exact ⟨⟨_,by rw [hkeep id (by simp [hb]),g1]; rfl⟩,g2⟩
 ·obtain ⟨L',g1,g2,g3,g6⟩:=hmw.pres.row id L sz e hb;refine ⟨_,by rw [hkeep id (by simp [hb]),g1]; rfl,by simpa using g2,fun hl=>g3 (by simpa using hl),fun k C hne hC=>?_⟩;have e1:=zdW hmw.mem g1 k hC;refine (g6 k C hne e1).imp (fun ⟨e2,e3⟩=>⟨hC.trans (e1.symm.trans e2),e3⟩) fun ⟨e2,e3⟩=>⟨e2,fun hh v hv=>hfr.c (e3 hh v hv)⟩
 ·obtain ⟨g1,g2⟩:=hmw.pres.cell b o v hl hc;exact ⟨fun hh=>g1 (hfr.live hh),g2⟩
 ·obtain ⟨x,hx⟩:=Option.isSome_iff_exists.1 hid;obtain ⟨y,hy,_⟩:=hsub id x hx;exact hmw.new id b (by simp [hy]) hb
 ·have hx':=hx;rw [yV,Option.map_eq_some_iff] at hx;obtain ⟨y,hy,rfl⟩:=hx;obtain ⟨g1,g2⟩:=hr.tmps t y (Zd hy).1;refine ⟨g1,Rep.fr hmw.mem hfr ?_ g2⟩;have hall:=List.all_eq_true.1 h3;have hmem:∀ (G:List (Nat × PV)) (t:Nat) (x:PV),lk G t=some x→(t,x)∈G:=by
   intro G t x;induction G with
   | nil=>simp [lk]
   | cons p G ih =>
    obtain ⟨k,u⟩:=p;rw [zr];split
    ·rename_i h; subst h; intro hh; cases hh; simp
    ·intro hh; exact List.mem_cons_of_mem _ (ih hh)
  exact hall _ (hmem _ _ _ hx')
theorem zom {t:Tr} {K:List (Nat × PV)→Mem→Prop} (hk0:∀ id,(lk m0 id).isSome=true→k0.contains id=true) (hr:Rel W0 w0 κ0 m0 N κ F m a w)
  (h:t.on k0 F m K):∃ F' m',Rel W0 w0 κ0 m0 N κ F' m' a w∧K F' m':=by
 unfold Tr.on at h;split at h
 ·exact zdT hk0 hr (fun _ _ _ hh=>by cases hh) h
 ·obtain ⟨h1,h2,h⟩:=h;split at h
  ·rename_i L sz e hl;obtain ⟨C,hC,h⟩:=ze h;exact zdT hk0 hr (fun id n C' hh=>by cases hh; exact ⟨h1,h2,L,sz,e,hl,rfl,hC⟩) h
  ·exact h.elim
theorem zge:∀ {l:List Tr} {F:List (Nat × PV)} {m:Mem} {K:List (Nat × PV)→Mem→Prop},(∀ id,(lk m0 id).isSome=true→k0.contains id=true)→Rel W0 w0 κ0 m0 N κ F m a w →
  Tr.ons k0 l F m K→∃ F' m',Rel W0 w0 κ0 m0 N κ F' m' a w∧K F' m'
 | [],F,m,K,_,hr,h=>⟨F,m,hr,h⟩
 | t::l,F,m,K,hk0,hr,h=>by
  obtain ⟨F',m',hr',h'⟩:=zom hk0 hr h;exact zge hk0 hr' h'
end
abbrev Fr:=List (Nat × PV)
def z7 (W0:World) (k0:List Nat) (F:Fr) (m:Mem) (K:Fr→Mem→Prop):Prop :=
 ∀ (w0:World) (κ0:Kap) (m0:Mem) (N:Nat) (κ:Kap) (a:Act) (w:World),(∀ id,(lk m0 id).isSome=true→k0.contains id=true)→Rel W0 w0 κ0 m0 N κ F m a w →
  ∃ κ' F' m',Rel W0 w0 κ0 m0 N κ' F' m' a w∧K F' m'
theorem z7.of {W0:World} {k0:List Nat} {l:List Tr} {F:Fr} {m:Mem} {K:Fr→Mem→Prop} (h:Tr.ons k0 l F m K):z7 W0 k0 F m K:=fun _ _ _ _ κ _ _ hk hr=>by
 obtain ⟨F',m',h1,h2⟩:=zge hk hr h;exact ⟨κ,F',m',h1,h2⟩
theorem z7.trans {W0:World} {k0:List Nat} {F:Fr} {m:Mem} {K K':Fr→Mem→Prop} (h:z7 W0 k0 F m K) (hk:∀ F m,K F m→z7 W0 k0 F m K'):z7 W0 k0 F m K':=fun _ _ _ _ _ _ _ h0 hr=>by
 obtain ⟨κ',F',m',h1,h2⟩:=h _ _ _ _ _ _ _ h0 hr;exact hk F' m' h2 _ _ _ _ _ _ _ h0 h1
def acwp (P:Program) (W0:World) (k0:List Nat):AC→(Fr→Mem→Prop)→(Nat→Fr→Mem→Prop)→(Fr→Mem→Prop)→Fr→Mem→Prop
 | .skip,N,_,_,F,m=>N F m
 | .reg seq ops,N,_,_,F,m=>runR P W0 seq ops ⟨F,m,[]⟩ fun s=>(∀ t x,lk s.F t=some x→qN x)→N s.F (s.n++s.m)
 | .seq a b,N,E,R,F,m=>acwp P W0 k0 a (fun F m=>z7 W0 k0 F m fun F m=>acwp P W0 k0 b N E R F m) E R F m
 | .cnd c a b,N,E,R,F,m=>onv (AX.ev F c) fun v=>match v with
  | .c (.sc (.bool t))=>(t=true→acwp P W0 k0 a N E R F m)∧(t=false→acwp P W0 k0 b N E R F m)
  | _=>False
 | .blk id a,N,E,R,F,m=>acwp P W0 k0 a N (fun i F m=>if i=id then N F m else E i F m) R F m
 | .loop a,_,E,R,F,m=>∃ I:Nat→Fr→Mem→Prop,(∃ n,z7 W0 k0 F m (I n)) ∧
   ∀ n F m,I n F m→acwp P W0 k0 a (fun F' m'=>∃ n',n' < n∧z7 W0 k0 F' m' (I n')) E R F m
 | .exit id,_,E,_,F,m=>E id F m
 | .ret,_,_,R,F,m=>R F m
section
variable {P:Program} {W0 w0:World} {κ0:Kap} {m0:Mem} {N:Nat} {on:List FuncId} {k0:List Nat}
def RelQ (W0 w0:World) (κ0:Kap) (m0:Mem) (N:Nat) (K:Fr→Mem→Prop) (a:Act) (w:World):Prop:=∃ κ F m,Rel W0 w0 κ0 m0 N κ F m a w∧K F m
theorem zgr (hm:P.follows .mixedOrders=true) (hk0:∀ id,(lk m0 id).isSome=true→k0.contains id=true):∀ {c:Code} {ac:AC},comp P on N c=some ac →
  ∀ {Nn:Fr→Mem→Prop} {E:Nat→Fr→Mem→Prop} {R:Fr→Mem→Prop} {Q:Exit→Act→World→Prop} {a:Act} {w:World},
   (∀ a w,RelQ W0 w0 κ0 m0 N Nn a w→Q .normal a w)→(∀ i a w,RelQ W0 w0 κ0 m0 N (E i) a w→Q (.exit i) a w)→(∀ a w,RelQ W0 w0 κ0 m0 N R a w→Q .ret a w) →
   RelQ W0 w0 κ0 m0 N (acwp P W0 k0 ac Nn E R) a w→c.wp P Q a w:=by
 intro c;induction c with
 | skip =>
  intro ac hc Nn E R Q a w hN hE hR h;cases hc;exact wp_skip (hN _ _ h)
 | region id ops draw =>
  intro ac hc Nn E R Q a w hN hE hR h;simp only [comp] at hc;split at hc
  ·rename_i l hl;obtain ⟨κ,F,m,hr,h⟩:=h;have key:∀ d l',draw=d→(l'=l∨d=true∧((∃ tn,l'=l.map (AO.loose tn))∨∃ g tn,l'=l.map (AO.loose3 g tn)))→ac = .reg (!d) l'→(d=true→Zq ops l'=true)→(Code.region id ops draw).wp P Q a w:=by
    rintro d l' rfl hll rfl hok;refine zna hm hl hll hok (s:=⟨F,m,[]⟩) (K:=fun s=>(∀ t x,lk s.F t=some x→qN x)→Nn s.F (s.n++s.m)) ?_ ⟨κ,hr,fun id hid=>by simp [lk] at hid⟩ h;rintro s a w ⟨κ,hr,_⟩ hk;exact hN _ _ ⟨κ,_,_,hr,hk fun t x hx=>(hr.tmps t x hx).2.good⟩
   split at hc
   ·rename_i hd;split at hc
    ·rename_i hok;cases hc;exact key true l hd (.inl rfl) rfl fun _=>hok
    ·split at hc
     ·rename_i hok;cases hc;exact key true _ hd (.inr ⟨rfl,.inl ⟨_,rfl⟩⟩) rfl fun _=>hok
     ·split at hc
      ·rename_i hok;cases hc;exact key true _ hd (.inr ⟨rfl,.inr ⟨_,_,rfl⟩⟩) rfl fun _=>hok
      ·split at hc
       ·rename_i hok;cases hc;exact key true _ hd (.inr ⟨rfl,.inr ⟨_,_,rfl⟩⟩) rfl fun _=>hok
       ·cases hc
   ·rename_i hd;cases hc;exact key false l (by simpa using hd) (.inl rfl) rfl fun hh=>by cases hh
  ·cases hc
 | seq x y ihx ihy =>
  intro ac hc Nn E R Q a w hN hE hR h;simp only [comp] at hc;split at hc
  ·rename_i ax ay hx hy;cases hc;refine wp_seq (ihx hx ?_ ?_ ?_ h)
   ·rintro a w ⟨κ,F,m,hr,h⟩;obtain ⟨κ',F',m',hr',h'⟩:=h _ _ _ _ _ _ _ hk0 hr;exact ihy hy hN hE hR ⟨κ',F',m',hr',h'⟩
   ·exact fun i a w h=>hE i a w h
   ·exact fun a w h=>hR a w h
  ·cases hc
 | cond c x y ihx ihy =>
  intro ac hc Nn E R Q a w hN hE hR h;simp only [comp] at hc;split at hc
  ·rename_i cc ax ay hcc hx hy;cases hc;obtain ⟨κ,F,m,hr,h⟩:=h;obtain ⟨v,hv,h⟩:=ze h;split at h
   ·rename_i t;have:=(Rep.sc (hr.evs _ _ _ hcc hv)).1;exact wp_cond_split this (fun ht=>ihx hx hN hE hR ⟨κ,F,m,hr,h.1 ht⟩) (fun ht=>ihy hy hN hE hR ⟨κ,F,m,hr,h.2 ht⟩)
   ·exact h.elim
  ·cases hc
 | block id x ih =>
  intro ac hc Nn E R Q a w hN hE hR h;simp only [comp,Option.map_eq_some_iff] at hc;obtain ⟨ax,hx,rfl⟩:=hc;refine wp_block (ih hx ?_ ?_ ?_ h)
  ·exact fun a w h=>hN a w h
  ·intro i a w h;simp only [Exit.inBlock];split
   ·rename_i hi; subst hi; simp only [if_true] at h; exact hN a w h
   ·rename_i hi; simp only [if_neg hi] at h; exact hE i a w h
  ·exact fun a w h=>hR a w h
 | loop x ih =>
  intro ac hc Nn E R Q a w hN hE hR h;simp only [comp,Option.map_eq_some_iff] at hc;obtain ⟨ax,hx,rfl⟩:=hc;obtain ⟨κ,F,m,hr,I,⟨n,h0⟩,hI⟩:=h;obtain ⟨κ',F',m',hr',h0⟩:=h0 _ _ _ _ _ _ _ hk0 hr;have key:∀ n k,k≤n→∀ a w,RelQ W0 w0 κ0 m0 N (I k) a w→Code.rounds P x Q (n+1) a w:=by
   intro n;induction n with
   | zero =>
    intro k hk a w ⟨κ,F,m,hr,h⟩;rw [rounds_succ];refine ih hx (Q:=Exit.then (Code.rounds P x Q 0) Q) ?_ (fun i a w h=>hE i a w h) (fun a w h=>hR a w h) ⟨κ,F,m,hr,hI k F m h⟩;rintro a w ⟨κ,F,m,hr,n',hlt,h⟩;omega
   | succ n ihn =>
    intro k hk a w ⟨κ,F,m,hr,h⟩;rw [rounds_succ];refine ih hx (Q:=Exit.then (Code.rounds P x Q (n+1)) Q) ?_ (fun i a w h=>hE i a w h) (fun a w h=>hR a w h) ⟨κ,F,m,hr,hI k F m h⟩;rintro a w ⟨κ,F,m,hr,n',hlt,h⟩;obtain ⟨κ',F',m',hr',h'⟩:=h _ _ _ _ _ _ _ hk0 hr;exact ihn n' (by omega) a w ⟨κ',F',m',hr',h'⟩
  exact wp_loop_rounds (n+1) (key n n (Nat.le_refl _) a w ⟨κ',F',m',hr',h0⟩)
 | exit id =>
  intro ac hc Nn E R Q a w hN hE hR h;cases hc;exact wp_exit (hE _ _ _ h)
 | ret =>
  intro ac hc Nn E R Q a w hN hE hR h;cases hc;exact wp_ret (hR _ _ h)
 | _=>intro ac hc; cases hc
end
inductive AR where
 | t (n:Nat)
 | cell (n:Nat) (agg:Bool) (k:Nat)
def AR.ev (F:Fr) (m:Mem):AR→Option PV
 | .t n=>lk F n
 | .cell n g k=>match lk F n with
  | some (.ptr id 0)=>match lk m id with
   | some (.box cs)=>if g then (if k≤cs.length then some (jm (cs.take k)) else none) else cs[0]?
   | _=>none
  | _=>none
def argF:Nat→List PV→Fr
 | _,[]=>[]
 | i,x::l=>(i,x)::argF (i+1) l
theorem zem:∀ {l:List PV} {i t:Nat} {x:PV},lk (argF i l) t=some x→i≤t∧l[t - i]? = some x
 | [],i,t,x,h=>by simp [argF,lk] at h
 | y::l,i,t,x,h=>by
  simp only [argF,zr] at h;split at h
  ·rename_i ht; subst ht; simpa using h
  ·obtain ⟨h1,h2⟩:=zem h;refine ⟨by omega,?_⟩;rw [show t - i=(t - (i+1))+1 by omega,List.getElem?_cons_succ]; exact h2
def resA (P:Program):ResultVar→Option AR
 | .tmp t=>some (.t t)
 | .cell a t=>match jR P t,jr P t with
  | some g,some n=>some (.cell a g n)
  | _,_=>none
def ZR (P:Program):List ResultVar→Option (List AR)
 | []=>some []
 | x::l=>match resA P x,ZR P l with
  | some y,some k=>some (y::k)
  | _,_=>none
def qV (F:Fr) (m:Mem):List AR→Option (List PV)
 | []=>some []
 | x::l=>match x.ev F m,qV F m l with
  | some y,some k=>some (y::k)
  | _,_=>none
def QB (tmps:Array Value):ResultVar→Sem Value
 | .tmp t=>pure (tmps.getD t undef)
 | .cell a t=>do loadVar t (← asAddr (tmps.getD a undef))
theorem zni (fn:Func) (tmps:Array Value):results fn tmps=(do let vs ← fn.results.mapM (QB tmps); pure (if h:vs.size=1 then vs[0] else .tuple vs)):=by
 unfold results
 congr 1
def retP:List PV→PV
 | [x]=>x
 | l => .tup l
section
variable {P:Program} {W0 w0:World} {κ0:Kap} {m0:Mem} {N:Nat} {κ:Kap} {F:Fr} {m:Mem} {a:Act} {w:World}
theorem znh {rv:ResultVar} {ar:AR} {x:PV} (hr:Rel W0 w0 κ0 m0 N κ F m a w) (h:resA P rv=some ar) (hx:ar.ev F m=some x) :
  ∃ v,(QB a.tmps rv).run P w = .ok v w∧Rep κ m w x v:=by
 cases rv with
 | tmp t =>
  simp only [resA,Option.some.injEq] at h;subst h;exact ⟨_,rfl,(hr.tmps t x hx).2⟩
 | cell c t =>
  simp only [resA] at h;split at h
  ·rename_i g n hg hn;cases h;simp only [AR.ev] at hx;split at hx
   ·rename_i id hc;split at hx
    ·rename_i cs hl;obtain ⟨b,cs0,h1,h2,h3⟩:=(hr.tmps c _ hc).2;obtain ⟨vs,el,hh,hall⟩:=zak hr.mw.mem hl h2;cases g with
     | true =>
      simp only [if_true] at hx;split at hx
      ·rename_i hle;cases hx;have hA:za (zb κ m w) (cs.take n) (vs.take n):=hall.take n;have hlen:(vs.take n).length=n:=by rw [← hA.length]; simp; omega
       refine ⟨.agg (vs.take n).toArray,?_,.ofA (zg.of_mkAgg hA)⟩;have hl:=run_loadCells_list (P:=P) w ⟨b,0,none⟩ (vs.take n) (fun j v hv=>by
        rw [qq,j1 hh];rw [List.getElem?_take] at hv;split at hv
        ·simpa using hv
        ·cases hv)
       rw [hlen] at hl;simp [QB,h3,asAddr,loadVar,Zt hg,qa hn,hl]
      ·cases hx
     | false =>
      simp only [Bool.false_eq_true,if_false] at hx;obtain ⟨u,hu,hyu⟩:=hall.get 0 x hx;refine ⟨u,?_,.of1 hyu⟩;have:w.cell? ⟨b,0,none⟩=some u:=by rw [j1 hh]; exact hu
      simp [QB,h3,asAddr,loadVar,Zt hg,this]
    ·cases hx
   ·cases hx
  ·cases h
theorem zfe (hr:Rel W0 w0 κ0 m0 N κ F m a w):∀ {l:List ResultVar} {ars:List AR} {xs:List PV},ZR P l=some ars→qV F m ars=some xs →
  ∃ vs,(l.mapM (QB a.tmps)).run P w = .ok vs w∧za (Rep κ m w) xs vs
 | [],ars,xs,h,hx=>by
  simp only [ZR] at h; cases h;simp only [qV] at hx; cases hx;exact ⟨[],rfl,trivial⟩
 | rv::l,ars,xs,h,hx=>by
  simp only [ZR] at h;split at h
  ·rename_i y k hy hk;cases h;simp only [qV] at hx;split at hx
   ·rename_i u us hu hus;cases hx;obtain ⟨v,h1,h2⟩:=znh hr hy hu;obtain ⟨vs,h3,h4⟩:=zfe hr hk hus;refine ⟨v::vs,?_,h2,h4⟩;rw [List.mapM_cons];simp only [Sem.run_bind,h1,Result.andThen_ok,h3]; rfl
   ·cases hx
  ·cases h
theorem znj {fn:Func} {ars:List AR} {xs:List PV} (hr:Rel W0 w0 κ0 m0 N κ F m a w) (h:ZR P fn.results.toList=some ars) (hx:qV F m ars=some xs) (hv:xs.length=1∨xs.all PV.isVal=true) :
  ∃ v,(results fn a.tmps).run P w = .ok v w∧Rep κ m w (retP xs) v:=by
 obtain ⟨vs,h1,h2⟩:=zfe hr h hx;have hrun:(results fn a.tmps).run P w = .ok (if h:vs.toArray.size=1 then vs.toArray[0] else .tuple vs.toArray) w:=by
  rw [zni,Array.mapM_eq_mapM_toList];simp only [map_eq_pure_bind,bind_assoc,pure_bind,Sem.run_bind,h1,Result.andThen_ok];rfl
 refine ⟨_,hrun,?_⟩
 match xs,vs,h2,hv with
 | [],[],_,_=>exact ⟨[],rfl,trivial⟩
 | [x],[v],h2,_=>exact h2.1
 | x::y::xs,u::v::vs,h2,hv =>
  have hall:=hv.resolve_left (by simp);refine ⟨u::v::vs,by simp,?_⟩;exact Zx (f:=PV.isVal) (fun _ _ hi h=>zg.of_val h hi) hall h2
end
theorem zlD {P:Program} {W0:World} {f:FuncId} {fn:Func} {c:Code} {ac:AC} {on:List FuncId} {ars:List AR} {args:List PV} {m:Mem} {Φ:PV→Mem→Prop} (hm:P.follows .mixedOrders=true)
  (hf:P.funcs[f]? = some fn) (hb:fn.body=some c) (hc:comp P on fn.ntmps c=some ac) (hres:ZR P fn.results.toList=some ars) (hn:args.length≤fn.ntmps)
  (h:(∀ x∈args,qN x)→acwp P W0 (m.map (·.1)) ac
   (fun F m'=>onv (qV F m' ars) fun xs=>(xs.length=1∨xs.all PV.isVal=true)∧z7 W0 (m.map (·.1)) [(0,retP xs)] m' fun F' m''=>onv (lk F' 0) fun r=>Φ r m'') (fun _ _ _=>False)
   (fun F m'=>onv (qV F m' ars) fun xs=>(xs.length=1∨xs.all PV.isVal=true)∧z7 W0 (m.map (·.1)) [(0,retP xs)] m' fun F' m''=>onv (lk F' 0) fun r=>Φ r m'')
   (argF 0 args) m):FunC P W0 f args m Φ:=by
 intro κ w vs hW hmw hargs;have hk0:∀ id,(lk m id).isSome=true→(m.map (·.1)).contains id=true:=by
  intro id hid;have:∀ m:Mem,(lk m id).isSome=true→id∈m.map (·.1):=by
   intro m;induction m with
   | nil=>simp [lk]
   | cons p m ih =>
    obtain ⟨k,b⟩:=p;rw [zr];split
    ·rename_i hh; intro _; simp [hh]
    ·intro hh; simp only [List.map_cons,List.mem_cons]; exact .inr (ih hh)
  simpa using this m hid
 have hlen:=hargs.length;have hgood:∀ x∈args,qN x:=by
  intro x hx;obtain ⟨i,hi⟩:=List.mem_iff_getElem?.1 hx;obtain ⟨v,_,hr⟩:=hargs.get i x hi;exact hr.good
 have hfin:∀ (K:Fr→Mem→Prop),K=(fun F m'=>onv (qV F m' ars) fun xs=>(xs.length=1∨xs.all PV.isVal=true)∧z7 W0 (m.map (·.1)) [(0,retP xs)] m' fun F' m''=>onv (lk F' 0) fun r=>Φ r m'') →
   ∀ a w',RelQ W0 w κ m fn.ntmps K a w'→a.defers=[]∧∃ v,(results fn a.tmps).run P w' = .ok v w'∧∃ v' r m' κ',Ending.returned v = .returned v'∧Φ r m'∧MW W0 w κ m κ' m' w'∧Rep κ' m' w' r v':=by
  rintro K rfl a w' ⟨κ',F,m',hr,hk⟩;obtain ⟨xs,hxs,hv,hk⟩:=ze hk;obtain ⟨v,hrun,hrep⟩:=znj hr hres hxs hv;have hr1:Rel W0 w κ m 1 κ' [(0,retP xs)] m' ⟨#[v],[]⟩ w':=⟨hr.mw,hr.start,hr.low0,hr.s0,rfl,rfl,fun t x hx=>by
   rw [zr] at hx;split at hx
   ·rename_i ht; subst ht; cases hx; exact ⟨by omega,hrep⟩
   ·cases hx⟩
  obtain ⟨κ'',F',m'',hr',hk'⟩:=hk _ _ _ _ _ _ _ hk0 hr1;obtain ⟨r,hl,hΦ⟩:=ze hk';exact ⟨hr.defers,v,hrun,v,r,m'',κ'',rfl,hΦ,hr'.mw,(hr'.tmps 0 r hl).2⟩
 refine calls_of_wp hf hb ?_;refine zgr hm hk0 hc ?_ ?_ ?_ ⟨κ,_,_,⟨hmw,hW,fun b hb=>hmw.low b (.inr hb),hmw.mem.sb,?_,rfl,fun t x hx=>?_⟩,h hgood⟩
 ·intro a w' hq; exact hfin _ rfl a w' hq
 ·rintro i a w' ⟨_,_,_,_,hh⟩; exact hh.elim
 ·intro a w' hq; exact hfin _ rfl a w' hq
 ·simp; simp at hlen; omega
 ·obtain ⟨_,h2⟩:=zem hx;obtain ⟨v,hv,hr⟩:=hargs.get _ x (by simpa using h2);have hlt:t < args.length:=(List.getElem?_eq_some_iff.1 (by simpa using h2:args[t]? = some x)).1;refine ⟨by omega,?_⟩;have hvs:t < vs.size:=by simp at hlen; omega
  have:(vs++Array.replicate (fn.ntmps - vs.size) undef).getD t undef=v:=by
   simp only [Array.getD_eq_getD_getElem?,Array.getElem?_append_left hvs];have:vs[t]? = some v:=by simpa using hv
   rw [this]; rfl
  rw [this]; exact hr
def zh (P:Program) (on:List FuncId) (f:FuncId):Option (AC × List AR × Nat) :=
 match P.funcs[f]? with
 | some fn=>match fn.body with
  | some c=>match comp P on fn.ntmps c,ZR P fn.results.toList with
   | some ac,some ars=>some (ac,ars,fn.ntmps)
   | _,_=>none
  | none=>none
 | none=>none
def Fin (W0:World) (k0:List Nat) (ars:List AR) (Φ:PV→Mem→Prop) (F:Fr) (m:Mem):Prop :=
 onv (qV F m ars) fun xs=>(xs.length=1∨xs.all PV.isVal=true)∧z7 W0 k0 [(0,retP xs)] m fun F' m'=>onv (lk F' 0) fun r=>Φ r m'
theorem funC {P:Program} {W0:World} {f:FuncId} {ac:AC} {on:List FuncId} {ars:List AR} {n:Nat} {args:List PV} {m:Mem} {Φ:PV→Mem→Prop} (hm:P.follows .mixedOrders=true)
  (hc:zh P on f=some (ac,ars,n)) (hn:args.length≤n)
  (h:(∀ x∈args,qN x)→acwp P W0 (m.map (·.1)) ac (Fin W0 (m.map (·.1)) ars Φ) (fun _ _ _=>False) (Fin W0 (m.map (·.1)) ars Φ) (argF 0 args) m):FunC P W0 f args m Φ:=by
 unfold zh at hc;split at hc
 ·rename_i fn hf;split at hc
  ·rename_i c hb;split at hc
   ·rename_i ac' ars' h1 h2;cases hc;exact zlD hm hf hb h1 h2 hn h
   ·cases hc
  ·cases hc
 ·cases hc
abbrev Str:=List UInt8
abbrev CS (s:Str):CV := .sc (.string ⟨⟨s⟩⟩)
abbrev CI (n:Int):CV := .sc (.int .i64 n)
abbrev CB (b:Bool):CV := .sc (.bool b)
abbrev CU (n:Int):CV := .sc (.int .u8 n)
theorem JN {p:Prop}:@decide p (Classical.propDecidable p)=true↔p:=⟨fun h=>@of_decide_eq_true p (Classical.propDecidable p) h,fun h=>@decide_eq_true p (Classical.propDecidable p) h⟩
theorem QM {p:Prop}:@decide p (Classical.propDecidable p)=false↔¬ p:=by rw [← Bool.not_eq_true,JN]
@[irreducible] noncomputable def ltI (a b:Int):Bool:=@decide (a < b) (Classical.propDecidable _)
@[irreducible] noncomputable def leI (a b:Int):Bool:=@decide (a≤b) (Classical.propDecidable _)
@[irreducible] noncomputable def eqI (a b:Int):Bool:=@decide (a=b) (Classical.propDecidable _)
@[irreducible] noncomputable def eqB (a b:Bool):Bool:=@decide (a=b) (Classical.propDecidable _)
@[irreducible] noncomputable def eqS (a b:Str):Bool:=@decide (a=b) (Classical.propDecidable _)
@[irreducible] def ltS (a b:Str):Bool:=Op.bytesLess a b
theorem zba {a b:Int}:ltI a b=true↔a < b:=by unfold ltI; exact JN
theorem za9 {a b:Int}:ltI a b=false↔b≤a:=by unfold ltI; rw [QM]; omega
theorem zeh {a b:Int}:leI a b=true↔a≤b:=by unfold leI; exact JN
theorem zl8 {a b:Int}:leI a b=false↔b < a:=by unfold leI; rw [QM]; omega
theorem Yd {a b:Int}:eqI a b=true↔a=b:=by unfold eqI; exact JN
theorem zkm {a b:Int}:eqI a b=false↔a≠b:=by unfold eqI; exact QM
theorem Yc {a b:Bool}:eqB a b=true↔a=b:=by unfold eqB; exact JN
theorem zkl {a b:Bool}:eqB a b=false↔a≠b:=by unfold eqB; exact QM
theorem zaD {a b:Str}:eqS a b=true↔a=b:=by unfold eqS; exact JN
theorem zkn {a b:Str}:eqS a b=false↔a≠b:=by unfold eqS; exact QM
theorem zmf (a b:Int):ltI a b=decide (a < b):=by rw [Bool.eq_iff_iff,zba]; simp
theorem Qm (a b:Int):leI a b=decide (a≤b):=by rw [Bool.eq_iff_iff,zeh]; simp
theorem yu (a b:Int):eqI a b=(a==b):=by rw [Bool.eq_iff_iff,Yd]; simp
theorem zaz (a b:Bool):eqB a b=(a==b):=by rw [Bool.eq_iff_iff,Yc]; simp
theorem Ja (a b:Str):eqS a b=(a==b):=by rw [Bool.eq_iff_iff,zaD]; simp
theorem Zf (a b:Str):ltS a b=Op.bytesLess a b:=by unfold ltS; rfl
inductive XB where
 | box (cells:List PV)
 | row (L:List CV) (sz:Nat) (e:TypeId)
 | rowP (L:List PV) (e:TypeId)
 | gone (sz:Nat) (e:TypeId) (C:List CV)
abbrev XM:=List (Nat × XB)
def XB.er:XB→Blk
 | .box cs => .box cs
 | .row L sz e => .row (L.map .c) sz e
 | .rowP L e => .row L 1 e
 | .gone sz e C => .row (zI sz C) sz e
def er:XM→Mem
 | []=>[]
 | (k,x)::l=>(k,x.er)::er l
def lkX {α:Type}:List (Nat × α)→Nat→Option α
 | [],_=>none
 | (k,x)::l,t=>match Nat.beq t k with
  | true=>some x
  | false=>lkX l t
theorem qw {α:Type}:∀ {l:List (Nat × α)} {t:Nat},lkX l t=lk l t
 | [],t=>rfl
 | (k,x)::l,t=>by
  rw [lkX,lk];cases h:Nat.beq t k with
  | true=>rw [if_pos (Nat.eq_of_beq_eq_true h)]
  | false=>rw [if_neg (Nat.ne_of_beq_eq_false h)]; exact qw
theorem zL:∀ {m:XM} {id:Nat},lk (er m) id=(lkX m id).map XB.er
 | [],_=>rfl
 | (k,x)::l,id=>by
  rw [er,lk,lkX];cases h:Nat.beq id k with
  | true=>rw [if_pos (Nat.eq_of_beq_eq_true h)]; rfl
  | false=>rw [if_neg (Nat.ne_of_beq_eq_false h)]; exact zL
def apX:XM→XM→XM
 | [],m=>m
 | b::n,m=>b::apX n m
theorem Zy:∀ {n m:XM},er (apX n m)=er n++er m
 | [],m=>rfl
 | (k,x)::n,m=>by rw [apX,er,er,Zy]; rfl
def nfX:XM→(XM→Prop)→Prop
 | [],K=>K []
 | b::l,K=>nfX l fun r=>K (b::r)
theorem zbp:∀ {m:XM} {K:XM→Prop},nfX m K→K m
 | [],_,h=>h
 | _::l,_,h=>zbp (m:=l) h
def updX:XM→Nat→XB→XM
 | [],_,_=>[]
 | (k,x)::l,id,b=>match Nat.beq k id with
  | true=>(k,b)::l
  | false=>(k,x)::updX l id b
theorem yo:∀ {m:XM} {id:Nat} {b:XB},er (updX m id b)=upd (er m) id b.er
 | [],_,_=>rfl
 | (k,x)::l,id,b=>by
  rw [er,upd,updX];cases h:Nat.beq k id with
  | true=>rw [if_pos (Nat.eq_of_beq_eq_true h)]; rfl
  | false=>rw [if_neg (Nat.ne_of_beq_eq_false h)]; simp only [er,yo]
def evX (F:Fr):AX→Option PV
 | .t n=>lkX F n
 | .k x=>some x
abbrev Eqv (A B:Fr):Prop:=∀ t,lk A t=lk B t
theorem Za {A F:Fr} (h:Eqv A F) (x:AX):evX A x=AX.ev F x:=by
 cases x with
 | t n=>simp only [evX,AX.ev,qw]; exact h n
 | k x=>rfl
structure Ob (p A:Prop):Prop where
 h:p
 k:A
structure LenX {α:Type} (L:List α) (K:Nat→Prop):Prop where
 h:∃ n,L.length=n∧K n
structure AtX {α:Type} (k:Int) (L:List α) (K:α→Prop):Prop where
 h:∃ j:Nat,k=(j:Int)∧∃ y,L[j]? = some y∧K y
structure NatX (k:Int) (K:Nat→Prop):Prop where
 h:∃ j:Nat,k=(j:Int)∧K j
structure SubX {α:Type} (L:List α) (lo hi:Option Int) (K:List α→Prop):Prop where
 h:∃ l h:Nat,lo.getD 0=(l:Int)∧hi.getD L.length=(h:Int)∧l≤h∧h≤L.length∧K ((L.take h).drop l)
def cndX (b:Bool) (A B:Prop):Prop:=match b with
 | true=>A
 | false=>B
theorem zcz {b:Bool} {A B:Prop} (h1:b=true→A) (h2:b=false→B):cndX b A B:=by
 cases b with
 | true=>exact h1 rfl
 | false=>exact h2 rfl
theorem j7 {a b:Int} {A B:Prop} (h1:a < b→A) (h2:b≤a→B):cndX (ltI a b) A B:=zcz (fun h=>h1 (zba.1 h)) fun h=>h2 (za9.1 h)
theorem zar {b:Bool} {A B:Prop} (h:cndX b A B):(b=true→A)∧(b=false→B):=by
 cases b with
 | true=>exact ⟨fun _=>h,fun hh=>by cases hh⟩
 | false=>exact ⟨fun hh=>(by cases hh),fun _=>h⟩
def YC:List CV→(List PV→Prop)→Prop
 | [],K=>K []
 | a::l,K=>YC l fun r=>K (.c a::r)
theorem zbc:∀ {l:List CV} {K:List PV→Prop},YC l K→K (l.map .c)
 | [],_,h=>h
 | _::l,_,h=>zbc (l:=l) h
def y3 {α:Type}:Nat→List α→(List α→Prop)→Prop
 | 0,_,K=>K []
 | n+1,a::l,K=>y3 n l fun r=>K (a::r)
 | _+1,[],_=>False
theorem ZX {α:Type}:∀ {n:Nat} {l:List α} {K:List α→Prop},y3 n l K→n≤l.length∧K (l.take n)
 | 0,_,_,h=>⟨Nat.zero_le _,by simpa [y3] using h⟩
 | n+1,a::l,_,h=>by have:=ZX (n:=n) (l:=l) h; exact ⟨by simp; omega,by simpa using this.2⟩
 | _+1,[],_,h=>h.elim
def ZE {α:Type}:Nat→List α→(List α→Prop)→Prop
 | 0,l,K=>K l
 | n+1,_::l,K=>ZE n l K
 | _+1,[],_=>False
theorem J2 {α:Type}:∀ {n:Nat} {l:List α} {K:List α→Prop},ZE n l K→n≤l.length∧K (l.drop n)
 | 0,_,_,h=>⟨Nat.zero_le _,by simpa [ZE] using h⟩
 | n+1,a::l,_,h=>by have:=J2 (n:=n) (l:=l) h; exact ⟨by simp; omega,by simpa using this.2⟩
 | _+1,[],_,h=>h.elim
def nthK {α:Type}:Nat→List α→(α→Prop)→Prop
 | 0,a::_,K=>K a
 | n+1,_::l,K=>nthK n l K
 | _,[],_=>False
theorem yf {α:Type}:∀ {n:Nat} {l:List α} {K:α→Prop},nthK n l K→∃ a,l[n]? = some a∧K a
 | 0,a::_,_,h=>⟨a,rfl,h⟩
 | n+1,_::l,_,h=>by obtain ⟨a,h1,h2⟩:=yf (n:=n) (l:=l) h; exact ⟨a,by simpa using h1,h2⟩
 | 0,[],_,h=>h.elim
 | _+1,[],_,h=>h.elim
def lenB {α:Type}:List α→Nat→Bool
 | [],0=>true
 | _::l,n+1=>lenB l n
 | _,_=>false
theorem qP {α:Type}:∀ {l:List α} {n:Nat},lenB l n=true→l.length=n
 | [],0,_=>rfl
 | _::l,n+1,h=>by have:=qP (l:=l) (n:=n) h; simp [this]
def zaa:List PV→(List CV→Prop)→Prop→Prop
 | [],K,_=>K []
 | .c x::l,K,A=>zaa l (fun r=>K (x::r)) A
 | _::_,_,A=>A
theorem zbW:∀ {cs:List PV} {K:List CV→Prop} {A:Prop},zaa cs K A→(∃ l,qd cs=some l∧K l)∨(qd cs=none∧A)
 | [],_,_,h => .inl ⟨[],rfl,h⟩
 | x::l,K,A,h=>by
  cases x with
  | c x =>
   rcases zbW (cs:=l) h with ⟨r,h1,h2⟩ | ⟨h1,h2⟩
   ·exact .inl ⟨x::r,by simp [qd,h1],h2⟩
   ·exact .inr ⟨by simp [qd,h1],h2⟩
  | _=>exact .inr ⟨rfl,h⟩
def Jy (cs:List PV) (K:PV→Prop):Prop:=zaa cs (fun l=>K (.c (.agg l))) (K (.agg cs))
theorem Qr {cs:List PV} {K:PV→Prop} (h:Jy cs K):K (jm cs):=by
 unfold jm;rcases zbW h with ⟨l,h1,h2⟩ | ⟨h1,h2⟩
 ·rw [h1]; exact h2
 ·rw [h1]; exact h2
def y6 (v:PV) (K:List PV→Prop):Prop:=match v with
 | .c x=>match x with
  | .agg l=>YC l K
  | .tup _=>False
  | x=>K [.c x]
 | .agg cs=>K cs
 | .tup _=>False
 | v=>K [v]
theorem ZA {v:PV} {K:List PV→Prop} (h:y6 v K):v.isVal=true∧K v.cells:=by
 cases v with
 | c x =>
  cases x with
  | agg l=>exact ⟨rfl,zbc h⟩
  | tup l=>exact h.elim
  | _=>exact ⟨rfl,h⟩
 | tup l=>exact h.elim
 | _=>exact ⟨rfl,h⟩
def zau (x:CV) (K:List CV→Prop):Prop:=match x with
 | .agg l=>K l
 | x=>K [x]
theorem zcC {x:CV} {K:List CV→Prop} (h:zau x K):K x.cells:=by cases x<;>exact h
def J0:List PV→(List CV→Prop)→Prop
 | [],K=>K []
 | .c x::l,K=>J0 l fun r=>K (x::r)
 | .nil::l,K=>J0 l fun r=>K (.row []::r)
 | _::_,_=>False
theorem Q1:∀ {cs:List PV} {K:List CV→Prop},J0 cs K→∃ l,jf cs=some l∧K l
 | [],_,h=>⟨[],rfl,h⟩
 | x::l,K,h=>by
  cases x with
  | c x=>obtain ⟨r,h1,h2⟩:=Q1 (cs:=l) h; exact ⟨_,by simp [jf,jw,h1],h2⟩
  | nil=>obtain ⟨r,h1,h2⟩:=Q1 (cs:=l) h; exact ⟨_,by simp [jf,jw,h1],h2⟩
  | _=>exact h.elim
def QY (v:PV) (K:CV→Prop):Prop:=match v with
 | .c x=>K x
 | .nil=>K (.row [])
 | .agg cs=>J0 cs fun l=>K (.agg l)
 | _=>False
theorem Z5 {v:PV} {K:CV→Prop} (h:QY v K):∃ y,jT v=some y∧K y:=by
 cases v with
 | c x=>exact ⟨x,rfl,h⟩
 | nil=>exact ⟨_,rfl,h⟩
 | agg cs=>obtain ⟨l,h1,h2⟩:=Q1 h; exact ⟨_,by simp [jT,h1],h2⟩
 | _=>exact h.elim
def JY:List PV→(List CV→Prop)→Prop
 | [],K=>K []
 | x::l,K=>QY x fun y=>JY l fun r=>K (y::r)
theorem Q0:∀ {cs:List PV} {K:List CV→Prop},JY cs K→∃ l,z8 cs=some l∧K l
 | [],_,h=>⟨[],rfl,h⟩
 | x::l,K,h=>by
  obtain ⟨y,h1,h2⟩:=Z5 h;obtain ⟨r,h3,h4⟩:=Q0 h2;exact ⟨_,by simp [z8,h1,h3],h4⟩
theorem JZ (L:List CV):z8 (L.map .c)=some L:=by
 induction L with
 | nil=>rfl
 | cons a l ih=>simp [z8,jT,jw,ih]
theorem zs {α:Type} {o:Option α} {f:α→Prop} (h:onv o f):∃ v,o=some v∧f v:=ze h
def QE (m:XM) (v:PV) (K:CV→Prop):Prop:=match v with
 | .own id n=>onv (lkX m id) fun b=>match b with
  | .row L _ _=>Ob (L.length=n) (K (.row L))
  | _=>False
 | v=>QY v K
theorem znu {m:XM} {v:PV} {K:CV→Prop} (h:QE m v K):∃ y,yi (er m) v=some y∧K y:=by
 cases v with
 | own id n =>
  obtain ⟨b,h1,h2⟩:=zs h;cases b with
  | row L sz e=>exact ⟨.row L,by simp [yi,zL,h1,XB.er,h2.h,JZ],h2.k⟩
  | _=>exact h2.elim
 | c x=>exact Z5 (v := .c x) h
 | nil=>exact Z5 (v := .nil) h
 | agg cs=>exact Z5 (v := .agg cs) h
 | _=>exact h.elim
def JH (m:XM):List PV→(List CV→Prop)→Prop
 | [],K=>K []
 | x::l,K=>QE m x fun y=>JH m l fun r=>K (y::r)
theorem zfx {m:XM}:∀ {cs:List PV} {K:List CV→Prop},JH m cs K→∃ l,qk (er m) cs=some l∧K l
 | [],_,h=>⟨[],rfl,h⟩
 | x::l,K,h=>by
  obtain ⟨y,h1,h2⟩:=znu h;obtain ⟨r,h3,h4⟩:=zfx h2;exact ⟨_,by simp [qk,h1,h3],h4⟩
theorem znw {m:Mem} (L:List CV):qk m (L.map .c)=some L:=by
 induction L with
 | nil=>rfl
 | cons a l ih=>simp [qk,yi,jT,jw,ih]
def zbR (m:XM) (v:PV) (K:CV→Prop):Prop:=match v with
 | .own id n=>onv (lkX m id) fun b=>match b with
  | .row L _ _=>Ob (L.length=n) (K (.row L))
  | .rowP L _=>Ob (L.length=n) (JH m L fun C=>K (.row C))
  | _=>False
 | .c x=>K x
 | .nil=>K (.row [])
 | _=>False
theorem zfs {m:XM} {v:PV} {K:CV→Prop} (h:zbR m v K):∃ y,yG (er m) v=some y∧K y:=by
 cases v with
 | own id n =>
  obtain ⟨b,h1,h2⟩:=zs h;cases b with
  | row L sz e=>exact ⟨.row L,by simp [yG,zL,h1,XB.er,h2.h,znw],h2.k⟩
  | rowP L e =>
   obtain ⟨C,h3,h4⟩:=zfx h2.k;exact ⟨.row C,by simp [yG,zL,h1,XB.er,h2.h,h3],h4⟩
  | _=>exact h2.elim
 | c x=>exact ⟨x,rfl,h⟩
 | nil=>exact ⟨.row [],rfl,h⟩
 | _=>exact h.elim
def YZ (m:XM):List PV→(List CV→Prop)→Prop
 | [],K=>K []
 | x::l,K=>zbR m x fun y=>YZ m l fun r=>K (y::r)
theorem zfu {m:XM}:∀ {cs:List PV} {K:List CV→Prop},YZ m cs K→∃ l,qG (er m) cs=some l∧K l
 | [],_,h=>⟨[],rfl,h⟩
 | x::l,K,h=>by
  obtain ⟨y,h1,h2⟩:=zfs h;obtain ⟨r,h3,h4⟩:=zfu h2;exact ⟨_,by simp [qG,h1,h3],h4⟩
def Y0 (m:XM) (v:PV) (K:CV→Prop):Prop:=match v with
 | .own id n=>zbR m (.own id n) K
 | .agg cs=>YZ m cs fun l=>K (.agg l)
 | v=>QY v K
theorem yj {m:XM} {v:PV} {K:CV→Prop} (h:Y0 m v K):∃ y,snap (er m) v=some y∧K y:=by
 cases v with
 | own id n=>exact zfs (v := .own id n) h
 | agg cs =>
  obtain ⟨l,h1,h2⟩:=zfu (cs:=cs) h;exact ⟨_,by simp [snap,h1],h2⟩
 | c x=>exact Z5 (v := .c x) h
 | nil=>exact Z5 (v := .nil) h
 | _=>exact h.elim
def yk (m:XM):List PV→(List CV→Prop)→Prop
 | [],K=>K []
 | x::l,K=>Y0 m x fun y=>yk m l fun r=>K (y::r)
theorem QF {m:XM}:∀ {cs:List PV} {K:List CV→Prop},yk m cs K→∃ l,jJ (er m) cs=some l∧K l
 | [],_,h=>⟨[],rfl,h⟩
 | x::l,K,h=>by
  obtain ⟨y,h1,h2⟩:=yj h;obtain ⟨r,h3,h4⟩:=QF h2;exact ⟨_,by simp [jJ,h1,h3],h4⟩
def evsK (F:Fr):List AX→(List PV→Prop)→Prop
 | [],K=>K []
 | x::l,K=>onv (evX F x) fun v=>evsK F l fun r=>K (v::r)
theorem Zb {A F:Fr} (hF:Eqv A F):∀ {l:List AX} {K:List PV→Prop},evsK A l K→∃ vs,evs (AX.ev F) l=some vs∧K vs
 | [],_,h=>⟨[],rfl,h⟩
 | x::l,K,h=>by
  obtain ⟨v,h1,h2⟩:=zs h;obtain ⟨r,h3,h4⟩:=Zb hF h2;rw [Za hF] at h1;exact ⟨_,by simp [evs,h1,h3],h4⟩
def Z1 (sz:Nat) (L:List CV):Prop:=∀ x∈L,x.cells.length=sz
def J3 (m:XM) (sz:Nat) (v:PV) (K:List CV→Prop):Prop:=match v with
 | .nil=>K []
 | .c (.row L)=>Ob (Z1 sz L) (K L)
 | .own id n=>onv (lkX m id) fun b=>match b with
  | .row L sz' _=>Ob (L.length=n) (match Nat.beq sz' sz with
   | true=>K L
   | false=>False)
  | _=>False
 | _=>False
theorem zax {m:XM} {sz:Nat} {v:PV} {K:List CV→Prop} {K':List PV→Prop} (h:J3 m sz v K) (hK:∀ L,K L→K' (L.map .c)):jP (er m) sz v K':=by
 unfold J3 at h;split at h
 ·exact hK _ h
 ·exact ⟨h.h,hK _ h.k⟩
 ·obtain ⟨b,h1,h2⟩:=zs h;cases b with
  | box _=>exact h2.elim
  | rowP _ _=>exact h2.elim
  | gone _ _ _=>exact h2.elim
  | row L sz' e =>
   obtain ⟨h3,h4⟩:=h2;simp only [jP,zL,h1,Option.map_some,XB.er];split at h4
   ·rename_i hb; exact ⟨by simpa using h3,Nat.eq_of_beq_eq_true hb,hK _ h4⟩
   ·exact h4.elim
 ·exact h.elim
def Ya (m:XM) (v:PV) (K:List PV→Prop):Prop:=match v with
 | .own id n=>onv (lkX m id) fun b=>match b with
  | .rowP L _=>Ob (L.length=n) (K L)
  | _=>False
 | _=>False
theorem zay {m:XM} {v:PV} {K:List PV→Prop} {K':List PV→Prop} (h:Ya m v K) (hK:∀ L,K L→K' L):jP (er m) 1 v K':=by
 cases v with
 | own id n =>
  obtain ⟨b,h1,h2⟩:=zs h;cases b with
  | rowP L e =>
   simp only [jP,zL,h1,Option.map_some,XB.er];exact ⟨h2.h,trivial,hK _ h2.k⟩
  | _=>exact h2.elim
 | _=>exact h.elim
def isP (m:XM) (v:PV):Bool:=match v with
 | .own id _=>match lkX m id with
  | some b=>match b with
   | .rowP ..=>true
   | _=>false
  | none=>false
 | _=>false
def anyP:List PV→Bool
 | .own ..::_=>true
 | _=>false
def allP:List PV→Bool
 | []=>true
 | .own ..::l=>allP l
 | _=>false
theorem zca:∀ {l:List PV},allP l=true→∀ x∈l,x.cells.length=1∧x.isVal=true
 | [],_,x,hx=>by cases hx
 | a::l,h,x,hx=>by
  cases a with
  | own i n =>
   rcases List.mem_cons.1 hx with rfl | hx
   ·exact ⟨rfl,rfl⟩
   ·exact zca (l:=l) h x hx
  | _=>cases h
theorem zgt {l:List PV} (h:anyP l=true):z8 l=none:=by
 cases l with
 | nil=>cases h
 | cons a l =>
  cases a with
  | own i n=>rfl
  | _=>cases h
def ovK:List PV→List PV→(List PV→Prop)→Prop
 | cs,[],K=>K cs
 | _::cs,v::vs,K=>ovK cs vs fun r=>K (v::r)
 | [],_::_,_=>False
theorem zeW:∀ {cs vs:List PV} {K:List PV→Prop},ovK cs vs K→vs.length≤cs.length∧K (vs++cs.drop vs.length)
 | [],[],_,h=>⟨Nat.le_refl _,h⟩
 | _::_,[],_,h=>⟨Nat.zero_le _,h⟩
 | _::cs,v::vs,_,h=>by have:=zeW (cs:=cs) (vs:=vs) h; exact ⟨by simp; omega,by simpa using this.2⟩
 | [],_::_,_,h=>h.elim
def spK:Nat→List PV→List PV→(List PV→Prop)→Prop
 | 0,cs,vs,K=>ovK cs vs K
 | n+1,c::cs,vs,K=>spK n cs vs fun r=>K (c::r)
 | _+1,[],_,_=>False
theorem Y2:∀ {n:Nat} {cs vs:List PV} {K:List PV→Prop},spK n cs vs K→n+vs.length≤cs.length∧K (j6 cs n vs)
 | 0,cs,vs,_,h=>by have:=zeW h; exact ⟨by omega,by simpa [j6] using this.2⟩
 | n+1,c::cs,vs,_,h=>by
  have:=Y2 (n:=n) (cs:=cs) (vs:=vs) h;refine ⟨by simp; omega,?_⟩;have e:n+1+vs.length=(n+vs.length)+1:=by omega
  simpa [j6,e] using this.2
 | _+1,[],_,_,h=>h.elim
def fillK (F:Fr):List PV→List (Nat × Nat × AX)→(List PV→Prop)→Prop
 | cs,[],K=>K cs
 | cs,(off,n,x)::l,K=>onv (evX F x) fun v=>y6 v fun vs=>match lenB vs n with
  | true=>spK off cs vs fun cs'=>fillK F cs' l K
  | false=>False
theorem zdk {A F:Fr} (hF:Eqv A F):∀ {l:List (Nat × Nat × AX)} {cs:List PV} {K:List PV→Prop},fillK A cs l K→∃ cs',yy (AX.ev F) cs l=some cs'∧K cs'
 | [],cs,_,h=>⟨cs,rfl,h⟩
 | (off,n,x)::l,cs,K,h=>by
  obtain ⟨v,h1,h2⟩:=zs h;obtain ⟨h3,h4⟩:=ZA h2;split at h4
  ·rename_i hb;have hl:=qP hb;obtain ⟨h5,h6⟩:=Y2 h4;obtain ⟨cs',h7,h8⟩:=zdk hF h6;rw [Za hF] at h1;refine ⟨cs',?_,h8⟩;simp only [yy,h1];rw [if_pos ⟨h3,hl,by omega⟩]; exact h7
  ·exact h4.elim
def okLB (sz:Nat):List CV→Bool
 | []=>true
 | x::l=>match x with
  | .tup _=>false
  | x=>match lenB x.cells sz with
   | true=>okLB sz l
   | false=>false
theorem zbq {sz:Nat}:∀ {L:List CV},okLB sz L=true→(∀ x∈L,x.cells.length=sz)∧∀ x∈L,∀ cs,x ≠ .tup cs
 | [],_=>⟨by simp,by simp⟩
 | x::l,h=>by
  have key:lenB x.cells sz=true∧okLB sz l=true∧∀ cs,x ≠ .tup cs:=by
   cases x with
   | tup cs=>exact absurd h (by simp [okLB])
   | _ =>
    simp only [okLB] at h;split at h
    ·rename_i hb; exact ⟨hb,h,by simp⟩
    ·cases h
  obtain ⟨h1,h2,h3⟩:=key;obtain ⟨h4,h5⟩:=zbq h2;refine ⟨fun y hy=>?_,fun y hy=>?_⟩
  ·rcases List.mem_cons.1 hy with rfl | hy
   ·exact qP h1
   ·exact h4 y hy
  ·rcases List.mem_cons.1 hy with rfl | hy
   ·exact h3
   ·exact h5 y hy
def bK (F:Fr) (lo:Option AX) (K:Option Int→Prop):Prop:=match lo with
 | none=>K none
 | some a=>onv (evX F a) fun v=>match v with
  | .c (.sc (.int _ n))=>K (some n)
  | _=>False
theorem QS {A F:Fr} (hF:Eqv A F) {lo:Option AX} {K:Option Int→Prop} (h:bK A lo K) {d:Nat} {d':Int} (hd:d'=d) {K':Nat→Prop} (hK:∀ o,K o→∀ n:Nat,o.getD d'=(n:Int)→K' n)
  (hp:∀ o,K o→0≤o.getD d'):bnd (AX.ev F) lo d K':=by
 cases lo with
 | none=>exact hK none h d hd
 | some a =>
  obtain ⟨v,h1,h2⟩:=zs h;rw [Za hF] at h1;split at h2
  ·rename_i k n;have h0:=hp _ h2;simp only [Option.getD_some] at h0;simp only [bnd,h1];exact ⟨h0,hK _ h2 n.toNat (by simp; omega)⟩
  ·exact h2.elim
def rngX (k:IntKind) (n:Int) (K:Int→Prop):Prop:=match k with
 | .i64=>Ob (-9223372036854775808≤n∧n≤9223372036854775807) (K n)
 | .u8=>Ob (0≤n∧n≤255) (K n)
 | .u64=>Ob (0≤n∧n≤18446744073709551615) (K n)
 | k=>K (k.wrap n)
theorem zbK {k:IntKind} {n:Int} {K:Int→Prop} (h:rngX k n K):K (k.wrap n):=by
 cases k with
 | i64=>obtain ⟨h1,h2⟩:=h; rw [Go.IntWalk.i64_in n (by omega)]; exact h2
 | u8 =>
  obtain ⟨h1,h2⟩:=h;have:IntKind.wrap .u8 n=n:=by simp [IntKind.wrap,IntKind.signed,IntKind.bits]; omega
  rw [this]; exact h2
 | u64 =>
  obtain ⟨h1,h2⟩:=h;have:IntKind.wrap .u64 n=n:=by simp [IntKind.wrap,IntKind.signed,IntKind.bits]; omega
  rw [this]; exact h2
 | _=>exact h
def scV:Value→Value→(Bool→Prop)→Prop
 | .int _ a,.int _ b,K=>K (eqI a b)
 | .bool a,.bool b,K=>K (eqB a b)
 | .string ⟨⟨a⟩⟩,.string ⟨⟨b⟩⟩,K=>K (eqS a b)
 | _,_,_=>False
def scsX:List CV→List CV→(Bool→Prop)→Prop
 | [],[],K=>K true
 | .sc a::l,.sc b::k,K=>scsX l k fun t=>scV a b fun s=>K (s&&t)
 | _,_,_=>False
def binX (op:BinOp) (x y:Value) (K:PV→Prop):Prop:=match x,y with
 | .int k a,.int k' b=>match decide (k=k') with
  | false=>False
  | true=>match op with
   | .add=>rngX k (a+b) fun r=>K (.c (.sc (.int k r)))
   | .sub=>rngX k (a - b) fun r=>K (.c (.sc (.int k r)))
   | .mul=>rngX k (a * b) fun r=>K (.c (.sc (.int k r)))
   | .quo=>match k with
    | .i64=>Ob (0≤a∧0 < b∧a≤9223372036854775807) (K (I (a / b)))
    | _=>False
   | .rem=>match k with
    | .i64=>Ob (0≤a∧0 < b∧b≤9223372036854775807) (K (I (a % b)))
    | _=>False
   | .xor=>K (.c (.sc (.int k (k.wrap (BitVec.ofInt k.bits a ^^^ BitVec.ofInt k.bits b).toNat))))
   | .eql=>K (B (eqI a b))
   | .neq=>K (B (!eqI a b))
   | .lss=>K (B (ltI a b))
   | .leq=>K (B (leI a b))
   | .gtr=>K (B (ltI b a))
   | .geq=>K (B (leI b a))
   | _=>False
 | .string ⟨⟨a⟩⟩,.string ⟨⟨b⟩⟩=>match op with
  | .add=>Ob (a.length+b.length≤9223372036854775807) (K (.c (CS (a++b))))
  | .eql=>K (B (eqS a b))
  | .neq=>K (B (!eqS a b))
  | .lss=>K (B (ltS a b))
  | .leq=>K (B (ltS a b||eqS a b))
  | .gtr=>K (B (!(ltS a b||eqS a b)))
  | .geq=>K (B (!ltS a b))
  | _=>False
 | _,_=>False
def QV:List CV→(Str→Prop)→Prop
 | [],K=>K []
 | .sc (.int .u8 n)::l,K=>QV l fun r=>K (UInt8.ofNat n.toNat::r)
 | _,_=>False
def capsK:List CV→(List Value→Prop)→Prop
 | [],K=>K []
 | .sc v::l,K=>capsK l fun r=>K (v::r)
 | _,_=>False
structure CallX (P:Program) (W0:World) (f:FuncId) (cs:List CV) (own:Bool) (K:PV→XM→Prop):Prop where
 h:∃ r news,Fn P W0 f cs r (er news)∧(own=true∨(rlP r=true∧rlM (er news)=true))∧K r news
structure CalX (P:Program) (g:FuncId) (A:Prop):Prop where
 h:yq P g=true
 k:A
def capK:List PV→(List Nat→Prop)→Prop→Prop
 | [],K,_=>K []
 | .ptr id 0::l,K,A=>capK l (fun r=>K (id::r)) A
 | _,_,A=>A
theorem zco:∀ {cs:List PV} {K:List Nat→Prop} {A:Prop},capK cs K A→(∃ l,capL cs=some l∧K l)∨(capL cs=none∧A)
 | [],_,_,h => .inl ⟨[],rfl,h⟩
 | x::l,K,A,h=>by
  unfold capK at h;split at h
  ·rename_i heq; cases heq
  ·rename_i id l' heq;cases heq;rcases zco (cs:=l) h with ⟨r,h1,h2⟩ | ⟨h1,h2⟩
   ·exact .inl ⟨id::r,by simp [capL,h1],h2⟩
   ·exact .inr ⟨by simp [capL,h1],h2⟩
  ·rename_i h1 h2;refine .inr ⟨?_,h⟩;unfold capL;split
   ·rename_i heq; cases heq
   ·rename_i id l' heq; exact absurd heq (h2 id l')
   ·rfl
def YT:List Nat→List PV
 | []=>[]
 | i::l => .ptr i 0::YT l
def appP:List PV→List Nat→List PV
 | [],ids=>YT ids
 | v::l,ids=>v::appP l ids
theorem ze5:∀ {ids:List Nat},YT ids=ids.map fun i => .ptr i 0
 | []=>rfl
 | i::l=>by rw [YT,ze5]; rfl
theorem zcc:∀ {vs:List PV} {ids:List Nat},appP vs ids=vs++ids.map fun i => .ptr i 0
 | [],ids=>ze5
 | v::l,ids=>by rw [appP,zcc]; rfl
def ju (m:XM):XM→XM
 | []=>m
 | (id,b)::l=>match lkX m id with
  | some _=>updX (ju m l) id b
  | none=>(id,b)::ju m l
def FunX (P:Program) (W0:World) (f:FuncId) (vs:List PV) (mp:XM) (Φ:PV→XM→Prop):Prop:=FunC P W0 f vs (er mp) fun r m'=>∃ mx,m'=er mx∧Φ r mx
structure OpnX (P:Program) (W0:World) (f:FuncId) (vs:List PV) (m:XM) (K:PV→XM→Prop):Prop where
 h:∃ mp Φ,(∀ id b,lk (er mp) id=some b→lk (er m) id=some b)∧ZH (er mp)=true∧vs.all (inP (er mp))=true∧FunX P W0 f vs mp Φ∧(∃ r mx,Φ r mx) ∧
  ∀ r mx,Φ r mx→(∀ id,(lkX mx id).isSome=true→(lkX mp id).isSome=true∨lkX m id=none)∧K r (ju m mx)
def fr1K (z:Option (Nat × List CV)) (v:PV) (K:PV→Prop):Prop:=match v with
 | .own i k=>match z with
  | some (id,L)=>match Nat.beq i id with
   | true=>Ob (L.length=k) (K (.c (.row L)))
   | false=>K (.own i k)
  | none=>K (.own i k)
 | v=>K v
def frLK (z:Option (Nat × List CV)):List PV→(List PV→Prop)→Prop
 | [],K=>K []
 | v::l,K=>fr1K z v fun u=>frLK z l fun r=>K (u::r)
def frAK (z:Option (Nat × List CV)) (v:PV) (K:PV→Prop):Prop:=match v with
 | .agg cs=>frLK z cs fun l=>Jy l K
 | v=>fr1K z v K
def Yo (z:Option (Nat × List CV)):List PV→(List PV→Prop)→Prop
 | [],K=>K []
 | v::l,K=>frAK z v fun u=>Yo z l fun r=>K (u::r)
def frPK (z:Option (Nat × List CV)) (v:PV) (K:PV→Prop):Prop:=match v with
 | .tup cs=>Yo z cs fun l=>K (.tup l)
 | v=>frAK z v K
def frBK (z:Option (Nat × List CV)) (b:XB) (K:XB→Prop):Prop:=match b with
 | .box cs=>frLK z cs fun l=>K (.box l)
 | .rowP L e=>Yo z L fun l=>K (.rowP l e)
 | b=>K b
def in1X (m:XM):PV→Bool
 | .ptr id _ | .own id _ | .eo id .. | .sl id ..=>(lkX m id).isSome
 | .fn _ ids=>ids.all fun id=>(lkX m id).isSome
 | _=>true
def inAX (m:XM):PV→Bool
 | .agg cs=>cs.all (in1X m)
 | x=>in1X m x
def inPX (m:XM):PV→Bool
 | .tup cs=>cs.all (inAX m)
 | x=>inAX m x
def inBX (m:XM):XB→Bool
 | .box cs=>cs.all (in1X m)
 | .rowP L _=>L.all fun x=>x.cells.all (in1X m)
 | _=>true
def zx (k0:List Nat) (A:Fr) (m:XM) (F2:Fr) (m2:XM):Prop:=∀ (W0:World) (F:Fr) (K:Fr→Mem→Prop),Eqv A F→K F2 (er m2)→z7 W0 k0 F (er m) K
def zH (k0:List Nat) (z:Option Nat) (F:Fr) (m:XM) (F2:Fr) (m2:XM):Prop:=match z with
 | none=>go none
 | some id=>match Nat.beq id 3 with
  | true=>zx k0 F m F2 m2
  | false=>match k0.contains id,lkX m2 id with
   | false,none=>onv (lkX m id) fun b=>match b with
    | .row L _ _=>go (some (id,L))
    | .rowP L _=>JY L fun C=>go (some (id,C))
    | _=>False
   | _,_=>False
where
 eqF (z:Option (Nat × List CV)):Fr→Prop→Prop
  | [],A=>A
  | (t,v)::l,A=>onv (lkX F t) fun u=>frPK z u fun u=>Ob (u=v) (eqF z l A)
 eqM (z:Option (Nat × List CV)):XM→Prop→Prop
  | [],A=>A
  | (id,b)::l,A=>onv (lkX m id) fun u=>frBK z u fun u=>Ob (u=b) (eqM z l A)
 go (z:Option (Nat × List CV)):Prop:=match k0.all (fun id=>(lkX m2 id).isSome),m2.all (fun p=>inBX m2 p.2),F2.all (fun p=>inPX m2 p.2) with
  | true,true,true=>eqF z F2 (eqM z m2 True)
  | _,_,_=>False
structure LoopX (k0:List Nat) (body:(Fr→XM→Prop)→Fr→XM→Prop) (F:Fr) (m:XM):Prop where
 h:∃ (σ:Type) (fr:σ→Fr) (mm:σ→XM) (inv:σ→Prop) (me:σ→Nat) (z0 z1:Option Nat) (Q:σ→Fr→XM→Prop),(∃ x,inv x∧zH k0 z0 F m (fr x) (mm x)) ∧
  (∀ x F' m',Q x F' m'→∃ x',inv x'∧me x' < me x∧zH k0 z1 F' m' (fr x') (mm x'))∧∀ x,inv x→body (Q x) (fr x) (mm x)
structure CutX (k0:List Nat) (a:(Fr→XM→Prop)→Fr→XM→Prop) (b:Fr→XM→Prop) (F:Fr) (m:XM):Prop where
 h:∃ (σ:Type) (fr:σ→Fr) (mm:σ→XM) (inv:σ→Prop) (z:Option Nat) (Q:Fr→XM→Prop),a Q F m∧(∀ F' m',Q F' m'→∃ x,inv x∧zH k0 z F' m' (fr x) (mm x))∧∀ x,inv x→b (fr x) (mm x)
inductive XC where
 | skip
 | reg (seq:Bool) (ops:List AO)
 | seq (a b:XC)
 | cut (a b:XC)
 | cnd (c:AX) (a b:XC)
 | blk (id:Nat) (a:XC)
 | loop (a:XC)
 | exit (id:Nat)
 | ret
def XC.ac:XC→AC
 | .skip => .skip
 | .reg q ops => .reg q ops
 | .seq a b => .seq a.ac b.ac
 | .cut a b => .seq a.ac b.ac
 | .cnd c a b => .cnd c a.ac b.ac
 | .blk i a => .blk i a.ac
 | .loop a => .loop a.ac
 | .exit i => .exit i
 | .ret => .ret
section
variable (P:Program) (W0:World)
def Z9 (y:CV) (agg:Bool) (off n:Nat) (K:PV→Prop):Prop:=match agg with
 | true=>match off with
  | 0=>match y with
   | .agg cs=>match lenB cs n with
    | true=>K (.c y)
    | false=>y3 n cs fun l=>K (.c (.agg l))
   | _=>False
  | o+1=>zau y fun cs=>ZE (o+1) cs fun l=>y3 n l fun r=>K (.c (.agg r))
 | false=>zau y fun cs=>nthK off cs fun x=>K (.c x)
def Y9 (F:Fr) (d:Nat) (m:XM) (op:AOp) (K:PV→XM→Prop):Prop:=match op with
 | .mv x=>onv (evX F x) fun v=>K v []
 | .nck x=>onv (evX F x) fun v=>match v with
  | .ptr id off=>K (.ptr id off) []
  | _=>False
 | .asn x sz e=>onv (evX F x) fun v=>match v with
  | .nil=>match lkX m (16 * d) with
   | none=>match Nat.beq sz 0 with
    | true=>K .nil []
    | false=>K (.own (16 * d) 0) [(16 * d,.row [] sz e)]
   | some _=>K .nil []
  | v=>K v []
 | .pick c a b=>onv (evX F c) fun v=>match v with
  | .c (.sc (.bool t))=>cndX t (onv (evX F a) fun v=>K v []) (onv (evX F b) fun v=>K v [])
  | _=>False
 | .alloc zero=>K (.ptr (16 * d) 0) [(16 * d,.box zero)]
 | .box x=>onv (evX F x) fun v=>y6 v fun cs=>K (.ptr (16 * d) 0) [(16 * d,.box cs)]
 | .build zero parts=>fillK F zero parts fun cs=>Jy cs fun v=>K v []
 | .bsl sz e parts=>evsK F parts fun vs=>match anyP vs with
  | true=>match allP vs,Nat.beq sz 1 with
   | true,true=>LenX vs fun n=>K (.own (16 * d) n) [(16 * d,.rowP vs e)]
   | _,_=>False
  | false=>JY vs fun L=>match okLB sz L with
   | true=>K (.c (.row L)) []
   | false=>False
 | .bsl0=>K .nil []
 | .ld agg n a=>onv (evX F a) fun v=>match v with
  | .ptr id off=>onv (lkX m id) fun b=>match b with
   | .box cs=>match agg with
    | true=>ZE off cs fun l=>y3 n l fun r=>Jy r fun v=>K v []
    | false=>nthK off cs fun x=>K x []
   | _=>False
  | .ep x off=>Z9 x agg off n fun v=>K v []
  | .eo id n' i off=>onv (lkX m id) fun b=>match b with
   | .row L _ _=>Ob (L.length=n') (AtX i L fun y=>Z9 y agg off n fun v=>K v [])
   | .rowP L _=>Ob (L.length=n') (match agg with
    | false=>nthK i L fun y=>y6 y fun cs=>nthK off cs fun x=>K x []
    | true=>False)
   | _=>False
  | _=>False
 | .fa off x=>onv (evX F x) fun v=>match v with
  | .ptr id o=>K (.ptr id (o+off)) []
  | .ep x o=>K (.ep x (o+off)) []
  | .eo id n i o=>K (.eo id n i (o+off)) []
  | _=>False
 | .fld off n agg x=>onv (evX F x) fun v=>match v with
  | .c (.agg cs)=>match agg with
   | true=>ZE off cs fun l=>y3 n l fun r=>K (.c (.agg r)) []
   | false=>nthK off cs fun x=>K (.c x) []
  | .agg cs=>match agg with
   | true=>ZE off cs fun l=>y3 n l fun r=>Jy r fun v=>K v []
   | false=>nthK off cs fun x=>K x []
  | _=>False
 | .ia sz x i=>onv (evX F i) fun iv=>match iv with
  | .c (.sc (.int _ k))=>onv (evX F x) fun v=>match v with
   | .c (.row L)=>AtX k L fun y=>match lenB y.cells sz with
    | true=>K (.ep y 0) []
    | false=>False
   | .own id n=>onv (lkX m id) fun b=>match b with
    | .row L sz' _=>Ob (L.length=n) (match Nat.beq sz' sz with
     | true=>NatX k fun j=>Ob (j < n) (K (.eo id n j 0) [])
     | false=>False)
    | .rowP L _=>Ob (L.length=n) (match Nat.beq 1 sz with
     | true=>NatX k fun j=>Ob (j < n) (K (.eo id n j 0) [])
     | false=>False)
    | _=>False
   | .sl id n lo s=>onv (lkX m id) fun b=>match b with
    | .rowP L _=>Ob (L.length=n) (match Nat.beq 1 sz,Nat.beq s sz with
     | true,true=>NatX k fun j=>Ob (lo+j < n) (K (.eo id n (lo+j) 0) [])
     | _,_=>False)
    | _=>False
   | _=>False
  | _=>False
 | .idx x i=>onv (evX F i) fun iv=>match iv with
  | .c (.sc (.int _ k))=>onv (evX F x) fun v=>match v with
   | .c (.sc (.string ⟨⟨s⟩⟩))=>AtX k s fun b=>K (.c (CU b.toNat)) []
   | _=>False
  | _=>False
 | .sls x lo hi=>onv (evX F x) fun v=>match v with
  | .c (.sc (.string ⟨⟨s⟩⟩))=>bK F lo fun lo=>bK F hi fun hi=>SubX s lo hi fun r=>K (.c (CS r)) []
  | _=>False
 | .slr sz x lo hi=>onv (evX F x) fun v=>match v with
  | .c (.row L)=>Ob (Z1 sz L) (bK F lo fun lo=>bK F hi fun hi=>SubX L lo hi fun r=>K (.c (.row r)) [])
  | .own id n=>match hi,lo with
   | none,some a=>onv (evX F a) fun v=>match v with
    | .c (.sc (.int _ k))=>NatX k fun l=>Ob (l≤n) (K (.sl id n l sz) [])
    | _=>False
   | _,_=>False
  | _=>False
 | .bin op x y=>onv (evX F x) fun v=>onv (evX F y) fun u=>match v,u with
  | .c (.sc a),.c (.sc b)=>binX op a b fun r=>K r []
  | _,_=>False
 | .bb neg x y=>onv (evX F x) fun v=>onv (evX F y) fun u=>match v,u with
  | .c (.sc (.bool a)),.c (.sc (.bool b))=>match neg with
   | true=>K (B (!eqB a b)) []
   | false=>K (B (eqB a b)) []
  | _,_=>False
 | .beq neg ks x y=>onv (evX F x) fun v=>onv (evX F y) fun u=>match v,u with
  | .c (.agg a),.c (.agg b)=>match skOk ks a,skOk ks b with
   | true,true=>scsX a b fun t=>match neg with
    | true=>K (B (!t)) []
    | false=>K (B t) []
   | _,_=>False
  | _,_=>False
 | .un op x=>onv (evX F x) fun v=>match op,v with
  | .not,.c (.sc (.bool b))=>K (B (!b)) []
  | .neg,.c (.sc (.int k n))=>rngX k (0 - n) fun r=>K (.c (.sc (.int k r))) []
  | _,_=>False
 | .conv k x=>onv (evX F x) fun v=>match v with
  | .c (.sc (.int _ n))=>rngX k n fun r=>K (.c (.sc (.int k r))) []
  | _=>False
 | .cvs x=>onv (evX F x) fun v=>match v with
  | .c (.sc (.string s))=>K (.c (.sc (.string s))) []
  | _=>False
 | .b2s x=>onv (evX F x) fun v=>match v with
  | .c (.row L)=>match okLB 1 L with
   | true=>QV L fun s=>Ob (s.length≤9223372036854775807) (K (.c (CS s)) [])
   | false=>False
  | _=>False
 | .mks sz bytes e zero n=>onv (evX F n) fun v=>match v with
  | .c (.sc (.int .i64 k))=>match zero with
   | .c z=>match lenB z.cells sz,Nat.beq sz 0 with
    | true,false=>NatX k fun j=>Ob (j≤9223372036854775807∧bytes * j≤281474976710656) (K (.own (16 * d) j) [(16 * d,.row (List.replicate j z) sz e)])
    | _,_=>False
   | _=>False
  | _=>False
 | .ext x i=>onv (evX F x) fun v=>match v with
  | .tup vs=>nthK i vs fun y=>K y []
  | .c (.tup vs)=>nthK i vs fun y=>K (.c y) []
  | _=>False
 | .len str x=>onv (evX F x) fun v=>match str,v with
  | false,.nil=>K (I 0) []
  | false,.c (.row L)=>LenX L fun n=>K (I n) []
  | true,.c (.sc (.string ⟨⟨s⟩⟩))=>LenX s fun n=>K (I n) []
  | false,.own _ n=>K (I n) []
  | false,.sl _ n l _=>K (I ((n - l:Nat):Int)) []
  | _,_=>False
 | .app true sz bytes e s x=>onv (evX F s) fun v=>match v with
  | .nil=>onv (evX F x) fun u=>J3 m sz u fun L=>match Nat.beq sz 0 with
   | true=>False
   | false=>LenX L fun n=>Ob (n≤9223372036854775807∧n * bytes≤140737488355328) (K (.own (16 * d) n) [(16 * d,.row L sz e)])
  | _=>False
 | .mm mx x y=>onv (evX F x) fun v=>onv (evX F y) fun u=>match v,u with
  | .c (.sc (.int k a)),.c (.sc (.int k' b))=>match decide (k=k'),mx with
   | false,_=>False
   | true,true=>K (.c (.sc (.int k (max a b)))) []
   | true,false=>K (.c (.sc (.int k (min a b)))) []
  | _,_=>False
 | .fnv f caps=>evsK F caps fun vs=>match vs with
  | []=>K (.c (.sc (.func (.func f) ⟨[]⟩ ⟨[]⟩))) []
  | v::l=>capK (v::l) (fun ids=>K (.fn f ids) []) (J0 (v::l) fun cs=>capsK cs fun us=>K (.c (.sc (.func (.func f) ⟨[]⟩ ⟨us⟩))) [])
 | .call f args=>evsK F args fun vs=>yk m vs fun cs=>CallX P W0 f cs (Zj vs) K
 | .callv f args=>onv (evX F f) fun v=>match v with
  | .c (.sc (.func (.func g) ⟨[]⟩ ⟨us⟩))=>Ob (yq P g=true∧∀ u∈us,wfv u) (evsK F args fun vs=>yk m (vs++us.map fun u => .c (.sc u)) fun cs=>CallX P W0 g cs (Zj (vs++us.map fun u => .c (.sc u))) K)
  | _=>False
 | _=>False
def Y5 (F:Fr) (d:Nat) (m:XM) (op:AOp) (K:PV→XM→Prop):Prop:=match op with
  | .newb zero=>Ob (lkX m (16 * d)=none) (K (.ptr (16 * d) 0) ((16 * d,.box zero)::m))
  | .newr k e z=>match z with
    | .c y=>Ob (lkX m (16 * d)=none) (K (.own (16 * d) k) ((16 * d,.row (List.replicate k y) 1 e)::m))
    | _=>False
  | .st n a x=>onv (evX F a) fun p=>onv (evX F x) fun v=>match p with
    | .ptr id off=>onv (lkX m id) fun b=>match b with
      | .box cs=>y6 v fun vs=>match lenB vs n with
        | true=>spK off cs vs fun cs'=>K (.c (.tup [])) (updX m id (.box cs'))
        | false=>False
      | _=>False
    | .eo id n' i off=>onv (lkX m id) fun b=>match b with
      | .row L sz e=>Ob (L.length=n') (AtX i L fun y=>match lenB y.cells 1 with
        | true=>match Nat.beq off 0,Nat.beq n 1,v with
          | true,true,.c z=>match z with
            | .agg _=>False
            | .tup _=>False
            | _=>K (.c (.tup [])) (updX m id (.row (L.set i z) sz e))
          | _,_,_=>False
        | false=>y6 v fun vs=>match lenB vs n with
          | true=>YC y.cells fun cs=>spK off cs vs fun cs'=>closeLK' cs' fun l=>K (.c (.tup [])) (updX m id (.row (L.set i (.agg l)) sz e))
          | false=>False)
      | .rowP L e=>Ob (L.length=n') (nthK i L fun y=>y6 y fun ys=>y6 v fun vs=>match lenB ys 1,lenB vs 1,Nat.beq off 0,Nat.beq n 1 with
        | true,true,true,true=>K (.c (.tup [])) (updX m id (.rowP (L.set i v) e))
        | _,_,_,_=>False)
      | _=>False
    | _=>False
  | .app false sz bytes e s x=>onv (evX F s) fun v=>match v with
    | .nil=>onv (evX F x) fun u=>match isP m u with
     | true=>match Nat.beq sz 1,lkX m (16 * d) with
      | true,none=>Ya m u fun L=>LenX L fun n=>Ob (n≤9223372036854775807∧n * bytes≤140737488355328) (K (.own (16 * d) n) ((16 * d,.rowP L e)::m))
      | _,_=>False
     | false=>J3 m sz u fun L=>match Nat.beq sz 0,lkX m (16 * d) with
      | false,none=>LenX L fun n=>Ob (n≤9223372036854775807∧n * bytes≤140737488355328) (K (.own (16 * d) n) ((16 * d,.row L sz e)::m))
      | _,_=>False
    | .own id n=>onv (lkX m id) fun b=>match b with
      | .row L sz' e'=>Ob (L.length=n) (match Nat.beq sz' sz,Nat.beq e' e with
        | true,true=>onv (evX F x) fun u=>match isP m u with
          | true=>match Nat.beq sz 1 with
            | true=>Ya m u fun L'=>LenX L' fun k =>
              Ob (n+k≤9223372036854775807∧(n+k) * bytes≤140737488355328) (match Nat.beq (Nat.mod id 16) 15 with
                | false=>K (.own id (n+k)) (updX m id (.rowP (L.map .c++L') e))
                | true=>False)
            | false=>False
          | false=>J3 m sz u fun L'=>LenX L' fun k =>
            Ob (n+k≤9223372036854775807∧(n+k) * bytes≤140737488355328) (match Nat.beq (Nat.mod id 16) 15 with
              | false=>K (.own id (n+k)) (updX m id (.row (L++L') sz e))
              | true=>K (.c (.row (L++L'))) (updX m id (.gone sz e L)))
        | _,_=>False)
      | .rowP L e'=>Ob (L.length=n) (match Nat.beq 1 sz,Nat.beq e' e with
        | true,true=>onv (evX F x) fun u=>Ya m u fun L'=>LenX L' fun k =>
          Ob (n+k≤9223372036854775807∧(n+k) * bytes≤140737488355328) (match Nat.beq (Nat.mod id 16) 15 with
            | false=>K (.own id (n+k)) (updX m id (.rowP (L++L') e))
            | true=>False)
        | _,_=>False)
      | _=>False
    | _=>False
  | .opn f args=>evsK F args fun vs=>OpnX P W0 f vs m K
  | .opv f args=>onv (evX F f) fun v=>match v with
    | .fn g ids=>CalX P g (evsK F args fun vs=>OpnX P W0 g (appP vs ids) m K)
    | _=>False
  | _=>False
where
 closeLK' (cs:List PV) (K:List CV→Prop):Prop:=zaa cs K False
def Jl (m:XM):XM→Bool
 | []=>true
 | (k,_)::l=>match lkX m k with
  | none=>Jl m l
  | some _=>false
def endX (q:Bool) (dst:Option Nat) (F:Fr) (m n:XM) (r:PV) (news:XM) (K:Fr→XM→XM→Prop):Prop:=match news with
 | []=>match dst with
  | some d=>K ((d,r)::F) m n
  | none=>K F m n
 | b::bs=>match dst with
  | none=>False
  | some d=>match Jl (apX n m) (b::bs) with
   | false=>False
   | true=>match q with
    | true=>K ((d,r)::F) (b::apX bs (apX n m)) []
    | false=>K ((d,r)::F) m (b::apX bs n)
def domB (tn:List Nat) (m:XM):XM→Bool
 | []=>true
 | (id,_)::l=>match hiN tn id with
  | true=>match lkX m id with
   | some _=>domB tn m l
   | none=>false
  | false=>domB tn m l
def eqK (tn:List Nat) (m':XM):XM→Prop→Prop
 | [],A=>A
 | (id,b)::l,A=>match hiN tn id with
  | true=>onv (lkX m' id) fun u=>Ob (u=b) (eqK tn m' l A)
  | false=>eqK tn m' l A
def loWX (lo:Bool) (tn:List Nat) (m m':XM) (A:Prop):Prop:=match lo with
 | false=>A
 | true=>match domB tn m m' with
  | true=>eqK tn m' m A
  | false=>False
def loNX (lo:Bool) (tn:List Nat) (F:Fr) (op:AOp) (A:Prop):Prop:=match lo with
 | false=>A
 | true=>match op with
  | .ld _ _ a=>onv (evX F a) fun v=>match v with
   | .ptr id _=>match hiN tn id with
    | true=>A
    | false=>False
   | .eo id _ _ _=>match hiN tn id with
    | true=>A
    | false=>False
   | .ep _ _=>A
   | _=>False
  | .ia _ x _=>onv (evX F x) fun v=>match v with
   | .own id _=>match hiN tn id with
    | true=>A
    | false=>False
   | .c _=>A
   | _=>False
  | .bsl _ _ ps=>evsK F ps fun vs=>JY vs fun _=>A
  | _=>A
def goX (q lo:Bool) (tn:List Nat) (dst:Option Nat) (op:AOp) (F:Fr) (m n:XM) (K:Fr→XM→XM→Prop):Prop:=match op.wr with
 | true=>Y5 P W0 F (dst.getD 0) (apX n m) op fun r m'=>nfX m' fun m'=>loWX lo tn m m' (match dst with
  | some d=>K ((d,r)::F) m' []
  | none=>K F m' [])
 | false=>loNX lo tn F op (Y9 P W0 F (dst.getD 0) m op fun r news=>endX q dst F m n r news K)
def runX (q:Bool):List AO→Fr→XM→XM→(Fr→XM→XM→Prop)→Prop
 | [],F,m,n,K=>K F m n
 | o::l,F,m,n,K=>match o.guard with
  | none=>goX P W0 q o.lo o.tn o.dst o.op F m n fun F m n=>runX q l F m n K
  | some (g,want)=>onv (lkX F g) fun v=>match v with
   | .c (.sc (.bool b))=>cndX b
    (match want with
     | true=>goX P W0 q o.lo o.tn o.dst o.op ((g,B true)::F) m n fun F m n=>runX q l F m n K
     | false=>skX o.dst ((g,B true)::F) fun F=>runX q l F m n K)
    (match want with
     | true=>skX o.dst ((g,B false)::F) fun F=>runX q l F m n K
     | false=>goX P W0 q o.lo o.tn o.dst o.op ((g,B false)::F) m n fun F m n=>runX q l F m n K)
   | .c (.tup [])=>skX o.dst F fun F=>runX q l F m n K
   | _=>False
where
 skX (dst:Option Nat) (F:Fr) (K:Fr→Prop):Prop:=match dst with
  | none=>K F
  | some d=>K ((d,.c (.tup []))::F)
def goodK (F:Fr):List Nat→Prop→Prop
 | [],A=>A
 | t::l,A=>match lkX F t with
  | some v=>match v with
   | .c (.sc (.bool _))=>goodK F l A
   | .c (.tup [])=>goodK F l A
   | v=>qN v→goodK F l A
  | none=>goodK F l A
def Zz:List AO→List Nat
 | []=>[]
 | o::l=>match o.dst with
  | none=>Zz l
  | some d=>match o.op with
   | .call ..=>d::Zz l
   | .callv ..=>d::Zz l
   | .opn ..=>d::Zz l
   | _=>Zz l
def xwp (k0:List Nat):XC→(Fr→XM→Prop)→(Nat→Fr→XM→Prop)→(Fr→XM→Prop)→Fr→XM→Prop
 | .skip,N,_,_,F,m=>N F m
 | .reg q ops,N,_,_,F,m=>runX P W0 q ops F m [] fun F m n=>nfX (apX n m) fun m=>goodK F (Zz ops) (N F m)
 | .seq a b,N,E,R,F,m=>xwp k0 a (fun F m=>xwp k0 b N E R F m) E R F m
 | .cut a b,N,E,R,F,m=>CutX k0 (fun N F m=>xwp k0 a N E R F m) (fun F m=>xwp k0 b N E R F m) F m
 | .cnd c a b,N,E,R,F,m=>onv (evX F c) fun v=>match v with
  | .c (.sc (.bool t))=>cndX t (xwp k0 a N E R F m) (xwp k0 b N E R F m)
  | _=>False
 | .blk id a,N,E,R,F,m=>xwp k0 a N (fun i F m=>match Nat.beq i id with
  | true=>N F m
  | false=>E i F m) R F m
 | .loop a,_,E,R,F,m=>LoopX k0 (fun N F m=>xwp k0 a N E R F m) F m
 | .exit id,_,E,_,F,m=>E id F m
 | .ret,_,_,R,F,m=>R F m
end
def arK (F:Fr) (m:XM) (a:AR) (K:PV→Prop):Prop:=match a with
 | .t n=>onv (lkX F n) K
 | .cell n g k=>onv (lkX F n) fun v=>match v with
  | .ptr id 0=>onv (lkX m id) fun b=>match b with
   | .box cs=>match g with
    | true=>y3 k cs fun l=>Jy l K
    | false=>nthK 0 cs K
   | _=>False
  | _=>False
def arsK (F:Fr) (m:XM):List AR→(List PV→Prop)→Prop
 | [],K=>K []
 | a::l,K=>arK F m a fun v=>arsK F m l fun r=>K (v::r)
def YM (xs:List PV):Bool:=match xs with
 | [_]=>true
 | xs=>xs.all PV.isVal
def snapRK (m:XM) (v:PV) (K:CV→Prop):Prop:=match v with
 | .tup cs=>yk m cs fun l=>K (.tup l)
 | v=>Y0 m v K
def finC (ars:List AR) (r:CV) (F:Fr) (m:XM):Prop:=arsK F m ars fun xs=>match YM xs with
 | true=>snapRK m (retP xs) fun c=>c=r
 | false=>False
structure RetX (k0:List Nat) (v:PV) (m:XM) (Φ:PV→XM→Prop):Prop where
 h:∃ z r m2,zH k0 z [(0,v)] m [(0,r)] m2∧Φ r m2
def finX (k0:List Nat) (ars:List AR) (Φ:PV→XM→Prop) (F:Fr) (m:XM):Prop:=arsK F m ars fun xs=>match YM xs with
 | true=>RetX k0 (retP xs) m Φ
 | false=>False
theorem zq {α:Type} {o:Option α} {v:α} {f:α→Prop} (h:o=some v) (hf:f v):onv o f:=by subst h; exact hf
theorem baList (s:Str):ByteArray.toList ⟨⟨s⟩⟩=s:=ByteArray.toList_eq _
theorem zns {x y:Value} {K:Bool→Prop} (h:scV x y K):K (scEq x y):=by
 unfold scV at h;split at h
 ·have:eqI=fun a b=>a==b:=by funext a b; exact yu a b
  rw [this] at h; exact h
 ·have:eqB=fun a b=>a==b:=by funext a b; exact zaz a b
  rw [this] at h; exact h
 ·have:eqS=fun a b=>a==b:=by funext a b; exact Ja a b
  rw [this] at h; simp only [scEq,baList]; exact h
 ·exact h.elim
theorem zfp:∀ {a b:List CV} {K:Bool→Prop},scsX a b K→∃ t,ZT a b=some t∧K t
 | [],[],_,h=>⟨true,rfl,h⟩
 | .sc a::l,.sc b::k,K,h=>by
  obtain ⟨t,h1,h2⟩:=zfp (a:=l) (b:=k) h;exact ⟨scEq a b&&t,by simp only [ZT,h1]; rfl,zns (K:=fun s=>K (s&&t)) h2⟩
 | [],_::_,_,h=>h.elim
 | .sc _::_,[],_,h=>h.elim
 | .row _::_,_,_,h=>by cases h
 | .agg _::_,_,_,h=>by cases h
 | .tup _::_,_,_,h=>by cases h
 | .sc _::_,.row _::_,_,h=>h.elim
 | .sc _::_,.agg _::_,_,h=>h.elim
 | .sc _::_,.tup _::_,_,h=>h.elim
theorem zow {n:Int} (h : -9223372036854775808≤n∧n≤9223372036854775807):IntKind.wrap .i64 n=n:=Go.IntWalk.i64_in n h
theorem zgC {op:BinOp} {x y:Value} {K:PV→Prop} (h:binX op x y K):binV op x y K:=by
 unfold binX at h;split at h
 ·rename_i k a k' b;split at h
  ·exact h.elim
  ·rename_i hk;have hk':k=k':=by simpa using hk
   refine ⟨hk',?_⟩;cases op<;>simp only [zmf,Qm,yu] at h<;>first
    | exact h.elim
    | exact zbK h
    | exact h
    | skip
   ·split at h
    ·obtain ⟨⟨h1,h2,h3⟩,h4⟩:=h;refine ⟨by omega,?_⟩;have h5:0≤a / b:=Int.ediv_nonneg h1 (by omega);have h6:a / b≤a:=Int.ediv_le_self _ h1;rw [Int.tdiv_eq_ediv_of_nonneg h1,zow (by omega)]; exact h4
    ·exact h.elim
   ·split at h
    ·obtain ⟨⟨h1,h2,h3⟩,h4⟩:=h;have h5:0≤a % b:=Int.emod_nonneg _ (by omega);have h6:a % b < b:=Int.emod_lt_of_pos _ h2;rw [Int.tmod_eq_emod_of_nonneg h1];refine ⟨by omega,⟨?_,?_⟩,h4⟩
     ·show (-9223372036854775808:Int)≤_; omega
     ·show _≤(9223372036854775807:Int); omega
    ·exact h.elim
 ·cases op<;>simp only [Ja,Zf] at h<;>first
   | exact h.elim
   | (simp only [binV,baList]; exact h)
   | skip
  obtain ⟨h1,h2⟩:=h;refine ⟨by simp only [ByteArray.size,Array.size,maxLen]; omega,?_⟩;exact h2
 ·exact h.elim
theorem zck:∀ {L:List CV} {K:Str→Prop},QV L K→∃ s,yp L=some s∧K s
 | [],_,h=>⟨[],rfl,h⟩
 | x::l,K,h=>by
  unfold QV at h;split at h
  ·rename_i hh; cases hh
  ·rename_i n l' hh;cases hh;obtain ⟨s,h1,h2⟩:=zck (L:=l) h;exact ⟨_,by simp [yp,h1],h2⟩
  ·exact h.elim
theorem zcp:∀ {L:List CV} {K:List Value→Prop},capsK L K→∃ us,L=us.map .sc∧K us
 | [],_,h=>⟨[],rfl,h⟩
 | x::l,K,h=>by
  cases x with
  | sc v=>obtain ⟨us,h1,h2⟩:=zcp (L:=l) h; exact ⟨v::us,by simp [h1],h2⟩
  | _=>exact h.elim
theorem zcN {y:CV} {agg:Bool} {off n:Nat} {K:PV→Prop} (h:Z9 y agg off n K) :
  if agg then off+n≤y.cells.length∧K (.c (.agg ((y.cells.drop off).take n))) else onv y.cells[off]? fun x=>K (.c x):=by
 cases agg with
 | true =>
  simp only [if_true];cases off with
  | zero =>
   simp only [Z9] at h;split at h
   ·rename_i cs;split at h
    ·rename_i hb;have:=qP hb;subst this;exact ⟨by simp [CV.cells],by simpa [CV.cells] using h⟩
    ·have:=ZX h;exact ⟨by simpa [CV.cells] using this.1,by simpa [CV.cells] using this.2⟩
   ·exact h.elim
  | succ o =>
   simp only [Z9] at h;obtain ⟨h1,h2⟩:=J2 (zcC h);obtain ⟨h3,h4⟩:=ZX h2;simp only [List.length_drop] at h3;exact ⟨by omega,h4⟩
 | false =>
  simp only [Z9] at h;obtain ⟨a,h1,h2⟩:=yf (zcC h);simp only [Bool.false_eq_true,if_false];exact zq h1 h2
section
variable {P:Program} {W0:World} {A F:Fr} {d:Nat} {m:XM} {K:PV→XM→Prop} {K':PV→Mem→Prop}
theorem Yp {m:XM} {id:Nat} (h:lkX m id=none):(lk (er m) id).isNone=true:=by rw [zL,h]; rfl
theorem elemC {x:CV} {agg:Bool} {off n:Nat} {K:PV→Prop} (h:if agg then off+n≤x.cells.length∧K (.c (.agg ((x.cells.drop off).take n))) else onv x.cells[off]? fun x=>K (.c x)) :
  if agg then off+n≤(PV.c x).cells.length∧K (jm (((PV.c x).cells.drop off).take n)) else onv (PV.c x).cells[off]? fun y=>K y:=by
 cases agg with
 | true =>
  simp only [if_true,PV.cells,List.length_map] at h ⊢;refine ⟨h.1,?_⟩;rw [← List.map_drop,← List.map_take];have:∀ l:List CV,qd (l.map .c)=some l:=fun l=>by
   induction l with
   | nil=>rfl
   | cons a l ih=>simp [qd,ih]
  simp only [jm,this]; exact h.2
 | false =>
  simp only [Bool.false_eq_true,if_false,PV.cells] at h ⊢;obtain ⟨a,h1,h2⟩:=zs h;exact zq (by simp [h1]) h2
set_option maxHeartbeats 1600000 in
theorem zoc {op:AOp} (hF:Eqv A F) (hK:∀ r news,K r news→K' r (er news)) (h:Y9 P W0 A d m op K):Y4 P W0 (AX.ev F) d (er m) op K':=by
 have hev:∀ x,evX A x=AX.ev F x:=Za hF;cases op<;>simp only [Y9,hev] at h<;>try exact h.elim
 case mv x=>obtain ⟨v,h1,h2⟩:=zs h; exact zq h1 (hK _ _ h2)
 case nck x =>
  obtain ⟨v,h1,h2⟩:=zs h;refine zq h1 ?_;split at h2
  ·exact hK _ _ h2
  ·exact h2.elim
 case asn x sz e =>
  obtain ⟨v,h1,h2⟩:=zs h;refine zq h1 ?_;split at h2
  ·split at h2
   ·rename_i hl;split at h2
    ·rename_i hb;have:=Nat.eq_of_beq_eq_true hb;simp only [];rw [if_neg (by omega)]; exact hK _ _ h2
    ·rename_i hb;have:=Nat.ne_of_beq_eq_false hb;simp only [];rw [if_pos ⟨Yp hl,by omega⟩]; exact hK _ _ h2
   ·rename_i hl;simp only [];rw [if_neg (by rw [zL,hl]; simp)]; exact hK _ _ h2
  ·rename_i hne;cases v with
   | nil=>exact absurd rfl hne
   | _=>exact hK _ _ h2
 case pick c a b =>
  obtain ⟨v,h1,h2⟩:=zs h;refine zq h1 ?_;split at h2
  ·obtain ⟨h3,h4⟩:=zar h2;refine ⟨fun ht=>?_,fun ht=>?_⟩
   ·obtain ⟨u,h5,h6⟩:=zs (h3 ht); exact zq h5 (hK _ _ h6)
   ·obtain ⟨u,h5,h6⟩:=zs (h4 ht); exact zq h5 (hK _ _ h6)
  ·exact h2.elim
 case alloc z=>exact hK _ _ h
 case box x =>
  obtain ⟨v,h1,h2⟩:=zs h;obtain ⟨h3,h4⟩:=ZA h2;exact zq h1 ⟨h3,hK _ _ h4⟩
 case build z ps =>
  obtain ⟨cs,h1,h2⟩:=zdk hF h;exact zq h1 (hK _ _ (Qr h2))
 case bsl sz e ps =>
  obtain ⟨vs,h1,h2⟩:=Zb hF h;split at h2
  ·rename_i ha;split at h2
   ·rename_i hb hc;obtain ⟨n,rfl,h3⟩:=h2;have:=Nat.eq_of_beq_eq_true hc;subst this;refine zq h1 ?_;rw [zgt ha];exact ⟨zca hb,hK _ _ h3⟩
   ·exact h2.elim
  ·obtain ⟨L,h3,h4⟩:=Q0 h2;split at h4
   ·rename_i hb;obtain ⟨h5,h6⟩:=zbq hb;refine zq h1 ?_;rw [h3];exact ⟨h5,h6,hK _ _ h4⟩
   ·exact h4.elim
 case bsl0=>exact hK _ _ h
 case ld g n a =>
  obtain ⟨v,h1,h2⟩:=zs h;refine zq h1 ?_;split at h2
  ·rename_i id off;obtain ⟨b,h3,h4⟩:=zs h2;split at h4
   ·rename_i cs;simp only [zL,h3,Option.map_some,XB.er];cases g with
    | true =>
     obtain ⟨h5,h6⟩:=J2 h4;obtain ⟨h7,h8⟩:=ZX h6;simp only [List.length_drop] at h7;exact ⟨by omega,hK _ _ (Qr h8)⟩
    | false =>
     obtain ⟨x,h5,h6⟩:=yf h4;exact zq h5 (hK _ _ h6)
   ·exact h4.elim
  ·rename_i x off;have:=zcN h2;cases g with
   | true=>exact ⟨this.1,hK _ _ this.2⟩
   | false=>obtain ⟨y,h3,h4⟩:=zs this; exact zq h3 (hK _ _ h4)
  ·rename_i id n' i off;obtain ⟨b,h3,h4⟩:=zs h2;split at h4
   ·rename_i L sz e;obtain ⟨h5,j,hj,y,hy,h6⟩:=h4;have hj':i=j:=by omega
    subst hj';simp only [zL,h3,Option.map_some,XB.er];refine ⟨by simpa using h5,.c y,by simp [hy],?_⟩;refine elemC (K:=fun v=>K' v []) ?_;have:=zcN h6;cases g with
    | true=>exact ⟨this.1,hK _ _ this.2⟩
    | false=>obtain ⟨z,h7,h8⟩:=zs this; exact zq h7 (hK _ _ h8)
   ·rename_i L e;obtain ⟨h5,h6⟩:=h4;simp only [zL,h3,Option.map_some,XB.er];cases g with
    | true=>exact h6.elim
    | false =>
     obtain ⟨y,hy,h7⟩:=yf h6;obtain ⟨_,h8⟩:=ZA h7;obtain ⟨z,h9,h10⟩:=yf h8;exact ⟨h5,y,hy,zq h9 (hK _ _ h10)⟩
   ·exact h4.elim
  ·exact h2.elim
 case fa off x =>
  obtain ⟨v,h1,h2⟩:=zs h;refine zq h1 ?_;split at h2
  ·exact hK _ _ h2
  ·exact hK _ _ h2
  ·exact hK _ _ h2
  ·exact h2.elim
 case fld off n g x =>
  obtain ⟨v,h1,h2⟩:=zs h;refine zq h1 ?_;split at h2
  ·cases g with
   | true =>
    obtain ⟨h5,h6⟩:=J2 h2;obtain ⟨h7,h8⟩:=ZX h6;simp only [List.length_drop] at h7;exact ⟨by omega,hK _ _ h8⟩
   | false=>obtain ⟨x,h5,h6⟩:=yf h2; exact zq h5 (hK _ _ h6)
  ·cases g with
   | true =>
    obtain ⟨h5,h6⟩:=J2 h2;obtain ⟨h7,h8⟩:=ZX h6;simp only [List.length_drop] at h7;exact ⟨by omega,hK _ _ (Qr h8)⟩
   | false=>obtain ⟨x,h5,h6⟩:=yf h2; exact zq h5 (hK _ _ h6)
  ·exact h2.elim
 case ia sz x i =>
  obtain ⟨v,h1,h2⟩:=zs h;refine zq h1 ?_;split at h2
  ·rename_i kk k;obtain ⟨u,h3,h4⟩:=zs h2;refine zq h3 ?_;split at h4
   ·obtain ⟨j,hj,y,hy,h5⟩:=h4;subst hj;split at h5
    ·rename_i hb;exact ⟨by omega,y,by simpa using hy,qP hb,hK _ _ h5⟩
    ·exact h5.elim
   ·rename_i id n;obtain ⟨b,h5,h6⟩:=zs h4;split at h6
    ·rename_i L sz' e;obtain ⟨h7,h8⟩:=h6;split at h8
     ·rename_i hb;obtain ⟨j,hj,h9,h10⟩:=h8;subst hj;simp only [zL,h5,Option.map_some,XB.er];exact ⟨by simpa using h7,Nat.eq_of_beq_eq_true hb,by omega,by omega,hK _ _ h10⟩
     ·exact h8.elim
    ·rename_i L e;obtain ⟨h7,h8⟩:=h6;split at h8
     ·rename_i hb;obtain ⟨j,hj,h9,h10⟩:=h8;subst hj;simp only [zL,h5,Option.map_some,XB.er];exact ⟨h7,Nat.eq_of_beq_eq_true hb,by omega,by omega,hK _ _ h10⟩
     ·exact h8.elim
    ·exact h6.elim
   ·rename_i id n lo s0;obtain ⟨b,h5,h6⟩:=zs h4;split at h6
    ·rename_i L e;obtain ⟨h7,h8⟩:=h6;split at h8
     ·rename_i hb hb2;obtain ⟨j,hj,h9,h10⟩:=h8;subst hj;simp only [zL,h5,Option.map_some,XB.er];exact ⟨h7,Nat.eq_of_beq_eq_true hb,Nat.eq_of_beq_eq_true hb2,by omega,by omega,hK _ _ h10⟩
     ·exact h8.elim
    ·exact h6.elim
   ·exact h4.elim
  ·exact h2.elim
 case idx x i =>
  obtain ⟨v,h1,h2⟩:=zs h;refine zq h1 ?_;split at h2
  ·rename_i kk k;obtain ⟨u,h3,h4⟩:=zs h2;refine zq h3 ?_;split at h4
   ·obtain ⟨j,hj,y,hy,h5⟩:=h4;subst hj;exact ⟨by omega,y,by simpa using hy,hK _ _ h5⟩
   ·exact h4.elim
  ·exact h2.elim
 case sls x lo hi =>
  obtain ⟨v,h1,h2⟩:=zs h;refine zq h1 ?_;split at h2
  ·rename_i s;refine QS hF h2 (d':=0) rfl (fun o ho l hl=>QS hF ho (d':=s.length) rfl (fun o' ho' r hr=>?_) ?_) ?_
   ·obtain ⟨l',r',e1,e2,h5,h6,h7⟩:=ho';have:l=l':=by omega
    subst this;have:r=r':=by omega
    subst this;refine ⟨h5,h6,?_⟩;have:(ByteArray.extract ⟨⟨s⟩⟩ l r)=⟨⟨(s.take r).drop l⟩⟩:=by
     apply ByteArray.ext;rw [ByteArray.data_extract];apply Array.ext';simp [List.extract,List.drop_take]
    rw [this]; exact hK _ _ h7
   ·rintro o' ⟨l',r',e1,e2,h5,h6,h7⟩;omega
   ·intro o ho;have key:∀ K:Option Int→Prop,bK A hi K→∃ o,K o:=by
     intro K h;cases hi with
     | none=>exact ⟨_,h⟩
     | some a =>
      obtain ⟨v,_,h⟩:=zs h;split at h
      ·exact ⟨_,h⟩
      ·exact h.elim
    obtain ⟨o',l',r',e1,_⟩:=key _ ho;omega
  ·exact h2.elim
 case slr sz x lo hi =>
  obtain ⟨v,h1,h2⟩:=zs h;refine zq h1 ?_;split at h2
  ·rename_i L;obtain ⟨hz,h2⟩:=h2;refine ⟨hz,QS hF h2 (d':=0) rfl (fun o ho l hl=>QS hF ho (d':=L.length) rfl (fun o' ho' r hr=>?_) ?_) ?_⟩
   ·obtain ⟨l',r',e1,e2,h5,h6,h7⟩:=ho';have:l=l':=by omega
    subst this;have:r=r':=by omega
    subst this;exact ⟨h5,h6,hK _ _ h7⟩
   ·rintro o' ⟨l',r',e1,e2,h5,h6,h7⟩;omega
   ·intro o ho;have key:∀ K:Option Int→Prop,bK A hi K→∃ o,K o:=by
     intro K h;cases hi with
     | none=>exact ⟨_,h⟩
     | some a =>
      obtain ⟨v,_,h⟩:=zs h;split at h
      ·exact ⟨_,h⟩
      ·exact h.elim
    obtain ⟨o',l',r',e1,_⟩:=key _ ho;omega
  ·rename_i id n;split at h2
   ·rename_i a;obtain ⟨v,h3,h4⟩:=zs h2;split at h4
    ·rename_i kk k;obtain ⟨l,hl,h5,h6⟩:=h4;subst hl;simp only [bnd,h3];exact ⟨by omega,by simpa using h5,rfl,hK _ _ h6⟩
    ·exact h4.elim
   ·exact h2.elim
  ·exact h2.elim
 case bin op x y =>
  obtain ⟨v,h1,h2⟩:=zs h;obtain ⟨u,h3,h4⟩:=zs h2;refine zq h1 (zq h3 ?_);split at h4
  ·have:=zgC h4;have mono:∀ {a b:Value} {K1 K2:PV→Prop},(∀ r,K1 r→K2 r)→binV op a b K1→binV op a b K2:=by
    intro a b K1 K2 hk hh;cases a<;>cases b<;>simp only [binV] at hh ⊢<;>try exact hh
    ·refine ⟨hh.1,?_⟩;have hh:=hh.2;cases op<;>simp only [] at hh ⊢<;>first|exact hh.elim|exact hk _ hh|exact ⟨hh.1,hk _ hh.2⟩|exact ⟨hh.1,hh.2.1,hk _ hh.2.2⟩
    ·cases op<;>simp only [] at hh ⊢<;>first|exact hh.elim|exact hk _ hh|exact ⟨hh.1,hk _ hh.2⟩
   exact mono (fun r hr=>hK _ _ hr) this
  ·exact h4.elim
 case bb neg x y =>
  obtain ⟨v,h1,h2⟩:=zs h;obtain ⟨u,h3,h4⟩:=zs h2;refine zq h1 (zq h3 ?_);split at h4
  ·simp only [zaz] at h4;cases neg<;>exact hK _ _ h4
  ·exact h4.elim
 case beq neg ks x y =>
  obtain ⟨v,h1,h2⟩:=zs h;obtain ⟨u,h3,h4⟩:=zs h2;refine zq h1 (zq h3 ?_);split at h4
  ·split at h4
   ·rename_i e1 e2;obtain ⟨t,h5,h6⟩:=zfp h4;refine ⟨e1,e2,zq h5 ?_⟩;cases neg<;>exact hK _ _ h6
   ·exact h4.elim
  ·exact h4.elim
 case un op x =>
  obtain ⟨v,h1,h2⟩:=zs h;refine zq h1 ?_;split at h2
  ·exact hK _ _ h2
  ·exact hK _ _ (zbK (K:=fun r=>K (.c (.sc (.int _ r))) []) h2)
  ·exact h2.elim
 case conv k x =>
  obtain ⟨v,h1,h2⟩:=zs h;refine zq h1 ?_;split at h2
  ·exact hK _ _ (zbK (K:=fun r=>K (.c (.sc (.int _ r))) []) h2)
  ·exact h2.elim
 case cvs x =>
  obtain ⟨v,h1,h2⟩:=zs h;refine zq h1 ?_;split at h2
  ·exact hK _ _ h2
  ·exact h2.elim
 case b2s x =>
  obtain ⟨v,h1,h2⟩:=zs h;refine zq h1 ?_;split at h2
  ·rename_i L;split at h2
   ·rename_i hb;obtain ⟨s,h3,h4,h5⟩:=zck h2;exact ⟨(zbq hb).1,zq (zj7 L) (zq h3 ⟨by unfold maxLen; omega,hK _ _ h5⟩)⟩
   ·exact h2.elim
  ·exact h2.elim
 case mks sz bytes e zero n =>
  obtain ⟨v,h1,h2⟩:=zs h;refine zq h1 ?_;split at h2
  ·rename_i k;split at h2
   ·rename_i z;split at h2
    ·rename_i hb hb';obtain ⟨j,hj,h3,h4⟩:=h2;subst hj;have e1:=qP hb;have e2:=Nat.ne_of_beq_eq_false hb';refine ⟨by omega,by unfold maxLen; omega,by omega,by simpa [PV.cells] using e1,by omega,?_⟩;have:=hK _ _ h4
     simpa [er,XB.er] using this
    ·exact h2.elim
   ·exact h2.elim
  ·exact h2.elim
 case ext x i =>
  obtain ⟨v,h1,h2⟩:=zs h;refine zq h1 ?_;split at h2
  ·obtain ⟨y,h3,h4⟩:=yf h2; exact zq h3 (hK _ _ h4)
  ·obtain ⟨y,h3,h4⟩:=yf h2; exact zq h3 (hK _ _ h4)
  ·exact h2.elim
 case len str x =>
  obtain ⟨v,h1,h2⟩:=zs h;refine zq h1 ?_;split at h2
  ·exact hK _ _ h2
  ·obtain ⟨n,rfl,h3⟩:=h2; exact hK _ _ h3
  ·obtain ⟨n,rfl,h3⟩:=h2; exact hK _ _ h3
  ·exact hK _ _ h2
  ·exact hK _ _ h2
  ·exact h2.elim
 case app fr sz bytes e s x =>
  cases fr with
  | false=>exact h.elim
  | true =>
   obtain ⟨v,h1,h2⟩:=zs h;refine zq h1 ?_;split at h2
   ·obtain ⟨u,h3,h4⟩:=zs h2;refine zq h3 (zax h4 fun L hL=>?_);split at hL
    ·exact hL.elim
    ·rename_i hb;obtain ⟨n,rfl,⟨h5,h6⟩,h7⟩:=hL;have:=Nat.ne_of_beq_eq_false hb;refine ⟨by omega,by unfold maxLen; simp; omega,by simpa using h6,?_⟩;have:=hK _ _ h7
     simpa [er,XB.er] using this
   ·exact h2.elim
 case mm mx x y =>
  obtain ⟨v,h1,h2⟩:=zs h;obtain ⟨u,h3,h4⟩:=zs h2;refine zq h1 (zq h3 ?_);split at h4
  ·rename_i k a k' b;split at h4
   ·exact h4.elim
   ·rename_i hk;refine ⟨by simpa using hk,?_⟩;have:=hK _ _ h4;simp only [if_true];rw [show (if b > a then b else a)=max a b by omega]; exact this
   ·rename_i hk;refine ⟨by simpa using hk,?_⟩;have:=hK _ _ h4;simp only [Bool.false_eq_true,if_false];rw [show (if b < a then b else a)=min a b by omega]; exact this
  ·exact h4.elim
 case fnv f caps =>
  obtain ⟨vs,h1,h2⟩:=Zb hF h;refine zq h1 ?_;cases vs with
  | nil =>
   have:=hK _ _ h2;exact ⟨fun x hx=>by simp at hx,this⟩
  | cons v l =>
  rcases zco h2 with ⟨ids,h3,h4⟩ | ⟨hn,h2⟩
  ·have e:JX (v::l)=some ids:=h3;simp only [e];exact hK _ _ h4
  have e:JX (v::l)=none:=hn;simp only [e];obtain ⟨cs,h3,h4⟩:=Q1 h2;obtain ⟨us,rfl,h5⟩:=zcp h4;refine zq h3 ⟨fun x hx=>?_,?_⟩
  ·obtain ⟨v,_,rfl⟩:=List.mem_map.1 hx; exact ⟨v,rfl⟩
  ·have:=hK _ _ h5;have key:∀ l':List Value,l'=us→K' (.c (.sc (.func (.func f) #[] l'.toArray))) []:=by rintro _ rfl; exact this
   refine key _ ?_;clear key this h5 h3 h4;induction us with
   | nil=>rfl
   | cons a l ih=>simp only [List.map_cons,ih]
 case call f args =>
  obtain ⟨vs,h1,h2⟩:=Zb hF h;obtain ⟨cs,h3,r,news,h4,h5,h6⟩:=QF h2;exact zq h1 (zq h3 ⟨r,er news,h4,h5,hK _ _ h6⟩)
 case callv f args =>
  obtain ⟨v,h1,h2⟩:=zs h;refine zq h1 ?_;split at h2
  ·rename_i g us;obtain ⟨⟨h3,h4⟩,h5⟩:=h2;obtain ⟨vs,h6,h7⟩:=Zb hF h5;obtain ⟨cs,h8,r,news,h9,h10,h11⟩:=QF h7;refine ⟨rfl,zq h6 ⟨h3,h4,zq h8 ⟨r,er news,h9,h10,hK _ _ h11⟩⟩⟩
  ·exact h2.elim
end
theorem YH {m:XM}:∀ {l:XM},er (ju m l)=merge (er m) (er l)
 | []=>rfl
 | (id,b)::l=>by
  rw [ju,er,merge];cases h:lkX m id with
  | none =>
   have:(lk (er m) id).isSome=false:=by rw [zL,h]; rfl
   simp only [this,er,YH]; rfl
  | some x =>
   have:(lk (er m) id).isSome=true:=by rw [zL,h]; rfl
   simp only [this,yo,YH,if_true]
theorem Jb {m:XM} {id:Nat}:(lk (er m) id).isSome=(lkX m id).isSome:=by rw [zL]; cases lkX m id<;>rfl
theorem zcQ {m:XM} {id:Nat}:lk (er m) id=none↔lkX m id=none:=by rw [zL]; cases lkX m id<;>simp
section
variable {P:Program} {W0:World} {A F:Fr} {d:Nat} {m n:XM}
theorem zoa {K:PV→XM→Prop} {K':PV→Mem→Prop} {op:AOp} (hF:Eqv A F) (hK:∀ r m,K r m→K' r (er m)) (h:Y5 P W0 A d m op K):JL P W0 (AX.ev F) d (er m) op K':=by
 have hev:∀ x,evX A x=AX.ev F x:=Za hF;cases op<;>simp only [Y5,hev] at h<;>try exact h.elim
 case newb z =>
  obtain ⟨hn,h⟩:=h;exact ⟨by rw [zL,hn]; rfl,hK _ _ h⟩
 case newr k e z =>
  split at h
  ·rename_i y;obtain ⟨hn,h⟩:=h;refine ⟨by rw [zL,hn]; rfl,?_⟩;have:=hK _ _ h
   simpa [er,XB.er] using this
  ·exact h.elim
 case st n a x =>
  obtain ⟨p,h1,h2⟩:=zs h;obtain ⟨v,h3,h4⟩:=zs h2;refine zq h1 (zq h3 ?_);split at h4
  ·rename_i id off;obtain ⟨b,h5,h6⟩:=zs h4;split at h6
   ·rename_i cs;obtain ⟨h7,h8⟩:=ZA h6;split at h8
    ·rename_i hb;obtain ⟨h9,h10⟩:=Y2 h8;simp only [zL,h5,Option.map_some,XB.er];refine ⟨h7,qP hb,by have:=qP hb; omega,?_⟩;have:=hK _ _ h10;rw [yo] at this; exact this
    ·exact h8.elim
   ·exact h6.elim
  ·rename_i id n' i off;obtain ⟨b,h5,h6⟩:=zs h4;split at h6
   ·rename_i L sz e;obtain ⟨h7,j,hj,y,hy,h8⟩:=h6;have hj':i=j:=by omega
    subst hj';simp only [zL,h5,Option.map_some,XB.er];refine ⟨by simpa using h7,.c y,by simp [hy],?_⟩;split at h8
    ·rename_i hb;have hl:=qP hb;split at h8
     ·rename_i ho hn;have e1:=Nat.eq_of_beq_eq_true ho;have e2:=Nat.eq_of_beq_eq_true hn;subst e1 e2;rename_i z _ _;have key:∀ z,K (.c (.tup [])) (updX m id (.row (L.set i z) sz e))→(∀ l,z ≠ .agg l)→(∀ l,z ≠ .tup l) →
        (PV.c z).isVal=true∧(PV.c z).cells.length=1∧0+1≤(PV.c y).cells.length ∧
         K' (.c (.tup [])) (upd (er m) id (.row ((L.map .c).set i (if (PV.c y).cells.length=1 then .c z else jm (j6 (PV.c y).cells 0 (PV.c z).cells))) sz e)):=by
       intro z hk ha ht;have hyl:(PV.c y).cells.length=1:=by simpa [PV.cells] using hl
       have:=hK _ _ hk;rw [yo] at this;refine ⟨?_,?_,by omega,?_⟩
       ·cases z<;>first|rfl|exact absurd rfl (ht _)
       ·cases z<;>first|rfl|exact absurd rfl (ha _)
       ·rw [if_pos hyl,← List.map_set]; exact this
      split at h8
      ·exact h8.elim
      ·exact h8.elim
      ·exact key _ h8 (by simpa using ‹_›) (by simpa using ‹_›)
     ·exact h8.elim
    ·rename_i hb;obtain ⟨h9,h10⟩:=ZA h8;split at h10
     ·rename_i hb2;obtain ⟨h11,h12⟩:=Y2 (zbc h10);rcases zbW h12 with ⟨l,h13,h14⟩ | ⟨_,hh⟩
      ·have hlen:=qP hb2;have hyc:(PV.c y).cells=y.cells.map .c:=rfl;refine ⟨h9,hlen,by rw [hyc]; omega,?_⟩;have hne:¬ (PV.c y).cells.length=1:=by
        intro hh;have:lenB y.cells 1=true:=by
         rw [hyc,List.length_map] at hh;cases hc:y.cells with
         | nil=>rw [hc] at hh; simp at hh
         | cons a t=>cases t with
          | nil=>rfl
          | cons=>rw [hc] at hh; simp at hh
        rw [this] at hb; cases hb
       rw [if_neg hne];have:=hK _ _ h14;rw [yo] at this;have e2:jm (j6 (PV.c y).cells off v.cells) = .c (.agg l):=by unfold jm; rw [hyc,h13]
       rw [e2,← List.map_set]; exact this
      ·exact hh.elim
     ·exact h10.elim
   ·rename_i L e;obtain ⟨h7,h8⟩:=h6;obtain ⟨y,hy,h9⟩:=yf h8;obtain ⟨_,h10⟩:=ZA h9;obtain ⟨hv,h11⟩:=ZA h10;split at h11
    ·rename_i g1 g2 g3 g4;have e1:=Nat.eq_of_beq_eq_true g3;have e2:=Nat.eq_of_beq_eq_true g4;subst e1 e2;have hy1:=qP g1;simp only [zL,h5,Option.map_some,XB.er];refine ⟨h7,y,hy,hv,qP g2,by omega,?_⟩;rw [if_pos hy1];have:=hK _ _ h11;rw [yo] at this; exact this
    ·exact h11.elim
   ·exact h6.elim
  ·exact h4.elim
 case app fr sz bytes e s x =>
  cases fr with
  | true=>exact h.elim
  | false =>
   obtain ⟨v,h1,h2⟩:=zs h;refine zq h1 ?_;split at h2
   ·obtain ⟨u,h3,h4⟩:=zs h2;split at h4
    ·split at h4
     ·rename_i hb hn;have:=Nat.eq_of_beq_eq_true hb;subst this;refine zq h3 (zay h4 fun L hL=>?_);obtain ⟨k,rfl,⟨h5,h6⟩,h7⟩:=hL;exact ⟨by omega,by unfold maxLen; omega,h6,Yp hn,hK _ _ h7⟩
     ·exact h4.elim
    ·refine zq h3 (zax h4 fun L hL=>?_);split at hL
     ·rename_i hb hn;obtain ⟨k,rfl,⟨h5,h6⟩,h7⟩:=hL;have:=Nat.ne_of_beq_eq_false hb;refine ⟨by omega,by unfold maxLen; simp; omega,by simpa using h6,Yp hn,?_⟩;have:=hK _ _ h7
      simpa [er,XB.er] using this
     ·exact hL.elim
   ·rename_i id k;obtain ⟨b,h3,h4⟩:=zs h2;split at h4
    ·rename_i L sz' e';obtain ⟨h5,h6⟩:=h4;split at h6
     ·rename_i hb1 hb2;obtain ⟨u,h7,h8⟩:=zs h6;simp only [zL,h3,Option.map_some,XB.er];split at h8
      ·split at h8
       ·rename_i hb3;have e3:=Nat.eq_of_beq_eq_true hb3;subst e3;refine ⟨by simpa using h5,Nat.eq_of_beq_eq_true hb1,Nat.eq_of_beq_eq_true hb2,zq h7 (zay h8 fun L' hL=>?_)⟩;obtain ⟨k',rfl,⟨h9,h10⟩,h11⟩:=hL;refine ⟨by unfold maxLen; omega,h10,?_⟩;split at h11
        ·rename_i hg;have hg':¬ id % 16=15:=Nat.ne_of_beq_eq_false hg;have:=hK _ _ h11;rw [yo] at this;rw [if_neg hg']
         simpa [er,XB.er] using this
        ·exact h11.elim
       ·exact h8.elim
      refine ⟨by simpa using h5,Nat.eq_of_beq_eq_true hb1,Nat.eq_of_beq_eq_true hb2,zq h7 (zax h8 fun L' hL=>?_)⟩;obtain ⟨k',rfl,⟨h9,h10⟩,h11⟩:=hL;refine ⟨by unfold maxLen; simp; omega,by simpa using h10,?_⟩;split at h11
      ·rename_i hg;have hg':¬ id % 16=15:=Nat.ne_of_beq_eq_false hg;have:=hK _ _ h11;rw [yo] at this;rw [if_neg hg']
       simpa [er,XB.er] using this
      ·rename_i hg;have hg':id % 16=15:=Nat.eq_of_beq_eq_true hg;have:=hK _ _ h11;rw [yo] at this;rw [if_pos hg'];exact ⟨L,L',JZ L,JZ L',this⟩
     ·exact h6.elim
    ·rename_i L e';obtain ⟨h5,h6⟩:=h4;split at h6
     ·rename_i hb1 hb2;obtain ⟨u,h7,h8⟩:=zs h6;have e1:=Nat.eq_of_beq_eq_true hb1;have e2:=Nat.eq_of_beq_eq_true hb2;subst e1 e2;simp only [zL,h3,Option.map_some,XB.er];refine ⟨h5,trivial,trivial,zq h7 (zay h8 fun L' hL=>?_)⟩;obtain ⟨k',rfl,⟨h9,h10⟩,h11⟩:=hL;refine ⟨by unfold maxLen; omega,h10,?_⟩;split at h11
      ·rename_i hg;have hg':¬ id % 16=15:=Nat.ne_of_beq_eq_false hg;have:=hK _ _ h11;rw [yo] at this;rw [if_neg hg']; exact this
      ·exact h11.elim
     ·exact h6.elim
    ·exact h4.elim
   ·exact h2.elim
 case opn f args =>
  obtain ⟨vs,h1,mp,Φ,g1,g2,g3,g4,⟨r,mx,g5⟩,g6⟩:=Zb hF h;refine zq h1 ⟨er mp,_,g1,g2,g3,g4,⟨r,er mx,mx,rfl,g5⟩,?_⟩;rintro r _ ⟨mx,rfl,hr⟩;obtain ⟨k1,k2⟩:=g6 r mx hr;refine ⟨fun id hid=>?_,?_⟩
  ·rw [Jb] at hid;rcases k1 id hid with k | k
   ·left; rw [Jb]; exact k
   ·right; exact zcQ.2 k
  ·rw [← YH]; exact hK _ _ k2
 case opv f args =>
  obtain ⟨v,h1,h2⟩:=zs h;refine zq h1 ?_;split at h2
  ·rename_i g ids;obtain ⟨hcb,h2⟩:=h2;refine ⟨hcb,?_⟩;obtain ⟨vs,h1,mp,Φ,g1,g2,g3,g4,⟨r,mx,g5⟩,g6⟩:=Zb hF h2;rw [zcc] at g3 g4;refine zq h1 ⟨er mp,_,g1,g2,g3,g4,⟨r,er mx,mx,rfl,g5⟩,?_⟩;rintro r _ ⟨mx,rfl,hr⟩;obtain ⟨k1,k2⟩:=g6 r mx hr;refine ⟨fun id hid=>?_,?_⟩
   ·rw [Jb] at hid;rcases k1 id hid with k | k
    ·left; rw [Jb]; exact k
    ·right; exact zcQ.2 k
   ·rw [← YH]; exact hK _ _ k2
  ·exact h2.elim
theorem zdR {m:XM}:∀ {l:XM},Jl m l=true→j4 (er l) (er m)=true
 | [],_=>rfl
 | (k,b)::l,h=>by
  simp only [Jl] at h;split at h
  ·rename_i hn;simp only [er,j4,List.all_cons,Bool.and_eq_true];exact ⟨Yp hn,zdR h⟩
  ·cases h
def KOk (q:Bool) (K:Fr→XM→XM→Prop) (K':RS→Prop):Prop:=∀ A F m n,Eqv A F→(q=true→n=[])→K A m n→K' ⟨F,er m,er n⟩
theorem J6 {A F:Fr} (h:Eqv A F) (d:Nat) (r:PV):Eqv ((d,r)::A) ((d,r)::F):=fun t=>by simp only [zr,h t]
theorem zcI {tn:List Nat} {m:XM}:∀ {l:XM},domB tn m l=true→∀ id,hiN tn id=true→lkX m id=none→lkX l id=none
 | [],_,_,_,_=>rfl
 | (k,x)::l,h,id,hid,hm=>by
  rw [lkX];rw [domB] at h;cases hb:Nat.beq id k with
  | true =>
   have e:=Nat.eq_of_beq_eq_true hb;subst e;rw [hid] at h;simp only [hm] at h;cases h
  | false =>
   simp only;refine zcI (l:=l) ?_ id hid hm;split at h
   ·split at h
    ·exact h
    ·cases h
   ·exact h
theorem zaB {tn:List Nat} {m':XM}:∀ {l:XM} {B:Prop},eqK tn m' l B→(∀ id b,hiN tn id=true→lkX l id=some b→lkX m' id=some b)∧B
 | [],_,h=>⟨fun id b _ hb=>(by cases hb),h⟩
 | (k,x)::l,B,h=>by
  rw [eqK] at h;cases hk:hiN tn k with
  | true =>
   rw [hk] at h;obtain ⟨u,h1,h2,h3⟩:=zs h;obtain ⟨h4,h5⟩:=zaB (l:=l) h3;refine ⟨fun id b hid hb=>?_,h5⟩;rw [lkX] at hb;cases he:Nat.beq id k with
   | true =>
    rw [he] at hb;have e:=Nat.eq_of_beq_eq_true he;subst e;cases hb;rw [h1,h2]
   | false=>rw [he] at hb; exact h4 id b hid hb
  | false =>
   rw [hk] at h;obtain ⟨h4,h5⟩:=zaB (l:=l) h;refine ⟨fun id b hid hb=>?_,h5⟩;rw [lkX] at hb;cases he:Nat.beq id k with
   | true =>
    have e:=Nat.eq_of_beq_eq_true he;subst e;rw [hid] at hk;cases hk
   | false=>rw [he] at hb; exact h4 id b hid hb
theorem zmc {lo:Bool} {tn:List Nat} {m m':XM} {B:Prop} (h:loWX lo tn m m' B):(lo=true→∀ id,hiN tn id=true→lk (er m') id=lk (er m) id)∧B:=by
 unfold loWX at h;cases lo with
 | false=>exact ⟨fun hh=>(by cases hh),h⟩
 | true =>
  simp only at h;split at h
  ·rename_i hd;obtain ⟨h1,h2⟩:=zaB h;refine ⟨fun _ id hid=>?_,h2⟩;rw [zL,zL];cases hm:lkX m id with
   | some b=>rw [h1 id b hid hm]
   | none=>rw [zcI hd id hid hm]
  ·exact h.elim
theorem zmb {o:AO} {B:Prop} (hF:Eqv A F) (h:loNX o.lo o.tn A o.op B):(o.lo=true→ldOk F o)∧B:=by
 unfold loNX at h;cases hl:o.lo with
 | false=>rw [hl] at h; exact ⟨fun hh=>(by cases hh),h⟩
 | true =>
  rw [hl] at h;unfold ldOk;cases hop:o.op with
  | ld g n a =>
   rw [hop] at h;obtain ⟨v,h1,h2⟩:=zs h;rw [Za hF] at h1;simp only [h1];cases v with
   | ptr id off =>
    simp only at h2;split at h2
    ·rename_i hb; exact ⟨fun _=>hb,h2⟩
    ·exact h2.elim
   | eo id k i off =>
    simp only at h2;split at h2
    ·rename_i hb; exact ⟨fun _=>hb,h2⟩
    ·exact h2.elim
   | ep x off=>exact ⟨fun _=>trivial,h2⟩
   | _=>exact h2.elim
  | ia s x i =>
   rw [hop] at h;obtain ⟨v,h1,h2⟩:=zs h;rw [Za hF] at h1;simp only [h1];cases v with
   | own id k =>
    simp only at h2;split at h2
    ·rename_i hb; exact ⟨fun _=>hb,h2⟩
    ·exact h2.elim
   | c y=>exact ⟨fun _=>trivial,h2⟩
   | _=>exact h2.elim
  | bsl sz e ps =>
   rw [hop] at h;obtain ⟨vs,h1,h2⟩:=Zb hF h;obtain ⟨L,h3,h4⟩:=Q0 h2;simp only [h1,h3];exact ⟨fun _=>rfl,h4⟩
  | _=>rw [hop] at h; exact ⟨fun _=>trivial,h⟩
theorem zlM {q:Bool} {o:AO} {K:Fr→XM→XM→Prop} {K':RS→Prop} (hF:Eqv A F) (hq:q=true→n=[]) (hK:KOk q K K') (h:goX P W0 q o.lo o.tn o.dst o.op A m n K) :
  goL P W0 q o ⟨F,er m,er n⟩ K':=by
 unfold goL go;unfold goX at h;obtain ⟨dst,op,g,lo,tn⟩:=o;cases hw:op.wr with
 | true =>
  simp only [hw] at h ⊢;rw [if_pos trivial];rw [← Zy];refine ⟨fun _=>?_,zoa hF (fun r m' hr=>?_) h⟩
  ·unfold ldOk;simp only;split
   ·cases hw
   ·cases hw
   ·cases hw
   ·trivial
  ·obtain ⟨h1,hr⟩:=zmc (zbp hr);refine ⟨fun hl _=>h1 hl,?_⟩;cases dst with
   | none=>exact hK _ _ _ [] hF (fun _=>rfl) hr
   | some d=>exact hK _ _ _ [] (J6 hF _ _) (fun _=>rfl) hr
 | false =>
  simp only [hw,Bool.false_eq_true,if_false] at h ⊢;obtain ⟨h1,h⟩:=zmb (o:=⟨dst,op,g,lo,tn⟩) hF h;refine ⟨h1,zoc hF (fun r news hr=>?_) h⟩;have nk:∀ s':RS,lo=true→kpOk ⟨dst,op,g,lo,tn⟩ ⟨F,er m,er n⟩ s':=fun _ _ hh=>by simp [hw] at hh
  unfold endX at hr;cases news with
  | nil =>
   refine ⟨rfl,.inr rfl,nk _,?_⟩;cases dst with
   | none =>
    have:=hK _ _ _ _ hF hq hr;cases q with
    | true=>rw [hq rfl] at this ⊢; exact this
    | false=>exact this
   | some d =>
    have:=hK _ _ _ _ (J6 hF _ _) hq hr;cases q with
    | true=>rw [hq rfl] at this ⊢; exact this
    | false=>exact this
  | cons b bs =>
   cases dst with
   | none=>exact hr.elim
   | some d =>
    simp only [] at hr;split at hr
    ·exact hr.elim
    ·rename_i hf;refine ⟨by rw [← Zy]; exact zdR hf,.inl rfl,nk _,?_⟩;cases q with
     | true =>
      have:=hK _ _ _ [] (J6 hF _ _) (fun _=>rfl) hr;simp only [er,Zy] at this ⊢; exact this
     | false =>
      have:=hK _ _ _ _ (J6 hF _ _) (fun hh=>by cases hh) hr;simp only [er,Zy] at this ⊢; exact this
theorem zcP {A F:Fr} {g:Nat} {v:PV} (h:Eqv A F) (hv:lkX A g=some v):Eqv ((g,v)::A) F:=fun t=>by
 rw [zr];split
 ·rename_i ht; subst ht; rw [← h t,← qw,hv]
 ·exact h t
theorem YY {q:Bool} {K:Fr→XM→XM→Prop} {K':RS→Prop} (hK:KOk q K K'):∀ {l:List AO} {A F:Fr} {m n:XM},Eqv A F→(q=true→n=[])→runX P W0 q l A m n K →
  runR P W0 q l ⟨F,er m,er n⟩ K'
 | [],A,F,m,n,hF,hq,h=>hK _ _ _ _ hF hq h
 | ⟨dst,op,g,lo,tn⟩::l,A,F,m,n,hF,hq,h=>by
  have hgo:∀ {A:Fr},Eqv A F→(goX P W0 q lo tn dst op A m n fun F m n=>runX P W0 q l F m n K)→goL P W0 q ⟨dst,op,g,lo,tn⟩ ⟨F,er m,er n⟩ fun s'=>runR P W0 q l s' K' :=
   fun hA hh=>zlM (o:=⟨dst,op,g,lo,tn⟩) hA hq (fun A' F' m' n' h1 h2 h3=>YY hK h1 h2 h3) hh
  show zZ P W0 q ⟨dst,op,g,lo,tn⟩ ⟨F,er m,er n⟩ fun s'=>runR P W0 q l s' K'
  unfold zZ;unfold runX at h;cases g with
  | none=>exact hgo hF h
  | some g =>
   obtain ⟨g,want⟩:=g;obtain ⟨v,h1,h2⟩:=zs h;have h1':lk F g=some v:=by rw [← hF g,← qw]; exact h1
   have sk:∀ {A':Fr},Eqv A' F→(runX.skX dst A' fun F=>runX P W0 q l F m n K)→runR P W0 q l (skS ⟨F,er m,er n⟩ ⟨dst,op,some (g,want),lo,tn⟩) K':=by
    intro A' hA hh;cases dst with
    | none=>exact YY hK hA hq hh
    | some d=>exact YY hK (J6 hA _ _) hq hh
   refine zq h1' ?_;split at h2
   ·rename_i b;obtain ⟨h3,h4⟩:=zar h2;cases b with
    | true =>
     have h5:=h3 rfl;have hA:=zcP hF h1;cases want with
     | true=>exact ⟨fun _=>hgo hA h5,fun hh=>by cases hh⟩
     | false=>exact ⟨fun hh=>(by cases hh),fun _=>sk hA h5⟩
    | false =>
     have h5:=h4 rfl;have hA:=zcP hF h1;cases want with
     | true=>exact ⟨fun hh=>(by cases hh),fun _=>sk hA h5⟩
     | false=>exact ⟨fun _=>hgo hA h5,fun hh=>by cases hh⟩
   ·exact sk hF h2
   ·exact h2.elim
def qT (z:Option (Nat × List CV)):Frz:=z.map fun p=>(p.1,p.2.length,p.2)
theorem qZ {z:Option (Nat × List CV)} {v:PV} {K:PV→Prop} (h:fr1K z v K):K (fr1 (qT z) v):=by
 cases v with
 | own i k =>
  cases z with
  | none=>exact h
  | some p =>
   obtain ⟨id,L⟩:=p;simp only [fr1K] at h;simp only [qT,Option.map_some,fr1];split at h
   ·rename_i hb;rw [if_pos ⟨Nat.eq_of_beq_eq_true hb,h.h.symm⟩]; exact h.k
   ·rename_i hb;have:=Nat.ne_of_beq_eq_false hb;rw [if_neg (fun hh=>this hh.1)]; exact h
 | _=>exact h
theorem zaV {z:Option (Nat × List CV)}:∀ {cs:List PV} {K:List PV→Prop},frLK z cs K→K (cs.map (fr1 (qT z)))
 | [],_,h=>h
 | v::l,K,h=>by have:=zaV (cs:=l) (qZ h); simpa using this
theorem q7 {z:Option (Nat × List CV)} {v:PV} {K:PV→Prop} (h:frAK z v K):K (frA (qT z) v):=by
 cases v with
 | agg cs=>exact Qr (zaV (z:=z) h)
 | c x=>exact qZ (z:=z) (v := .c x) h
 | nil=>exact qZ (z:=z) (v := .nil) h
 | np=>exact qZ (z:=z) (v := .np) h
 | ptr x y=>exact qZ (z:=z) (v := .ptr x y) h
 | own x y=>exact qZ (z:=z) (v := .own x y) h
 | ep x y=>exact qZ (z:=z) (v := .ep x y) h
 | eo x y u v=>exact qZ (z:=z) (v := .eo x y u v) h
 | sl x y u v=>exact qZ (z:=z) (v := .sl x y u v) h
 | fn x y=>exact qZ (z:=z) (v := .fn x y) h
 | tup l=>exact qZ (z:=z) (v := .tup l) h
theorem zaT {z:Option (Nat × List CV)}:∀ {cs:List PV} {K:List PV→Prop},Yo z cs K→K (cs.map (frA (qT z)))
 | [],_,h=>h
 | v::l,K,h=>by have:=zaT (cs:=l) (q7 h); simpa using this
theorem zlB {z:Option (Nat × List CV)} {v:PV} {K:PV→Prop} (h:frPK z v K):K (frP (qT z) v):=by
 cases v with
 | tup cs=>exact zaT (z:=z) h
 | c x=>exact q7 (z:=z) (v := .c x) h
 | nil=>exact q7 (z:=z) (v := .nil) h
 | np=>exact q7 (z:=z) (v := .np) h
 | ptr x y=>exact q7 (z:=z) (v := .ptr x y) h
 | own x y=>exact q7 (z:=z) (v := .own x y) h
 | ep x y=>exact q7 (z:=z) (v := .ep x y) h
 | eo x y u v=>exact q7 (z:=z) (v := .eo x y u v) h
 | sl x y u v=>exact q7 (z:=z) (v := .sl x y u v) h
 | fn x y=>exact q7 (z:=z) (v := .fn x y) h
 | agg l=>exact q7 (z:=z) (v := .agg l) h
theorem zlA {z:Option (Nat × List CV)} {b:XB} {K:XB→Prop} (h:frBK z b K):∃ b',b'.er=frB (qT z) b.er∧K b':=by
 cases b with
 | box cs=>exact ⟨_,rfl,zaV (z:=z) h⟩
 | row L sz e=>exact ⟨_,by simp [XB.er,frB,frA,fr1,Function.comp_def],h⟩
 | rowP L e=>exact ⟨_,rfl,zaT (z:=z) h⟩
 | gone sz e C =>
  refine ⟨_,?_,h⟩;simp only [XB.er,frB];rw [zaU]
theorem Yv {m:XM} {v:PV}:in1X m v=in1 (er m) v:=by cases v<;>simp [in1X,in1,Jb]
theorem zdY {m:XM} {v:PV}:inAX m v=inA (er m) v:=by
 cases v<;>simp only [inAX,inA,Yv]
 congr 1; funext x; exact Yv
theorem Jq {m:XM} {v:PV}:inPX m v=inP (er m) v:=by
 cases v<;>simp only [inPX,inP,zdY]
 congr 1; funext x; exact zdY
theorem zdZ {m:XM} {b:XB} (h:inBX m b=true):inB (er m) b.er=true:=by
 cases b with
 | box cs =>
  simp only [inBX] at h;simp only [XB.er,inB];rw [← h]; congr 1; funext x; exact Yv.symm
 | row L sz e =>
  simp only [XB.er,inB,List.all_eq_true];intro x hx;obtain ⟨y,hy,hx⟩:=List.mem_flatMap.1 hx;obtain ⟨z,_,rfl⟩:=List.mem_map.1 hy;obtain ⟨u,_,rfl⟩:=List.mem_map.1 hx;rfl
 | rowP L e =>
  simp only [inBX,List.all_eq_true] at h;simp only [XB.er,inB,List.all_eq_true];intro x hx;obtain ⟨y,hy,hx⟩:=List.mem_flatMap.1 hx;rw [← Yv]; exact h y hy x hx
 | gone sz e C =>
  simp only [XB.er,inB,List.all_eq_true];intro x hx;obtain ⟨y,hy,hx⟩:=List.mem_flatMap.1 hx;rcases zdV hy with ⟨c,rfl⟩|rfl
  ·obtain ⟨u,_,rfl⟩:=List.mem_map.1 hx; rfl
  ·cases sz with
   | zero=>rw [List.mem_singleton.1 hx]; rfl
   | succ n=>rw [(List.mem_replicate.1 hx).2]; rfl
theorem za2 {m:XM} {f:Blk→Blk}:∀ {m2:XM},(∀ p∈m2,∃ b,lkX m p.1=some b∧p.2.er=f b.er)→mapL f (jB (er m) (m2.map (·.1)))=er m2
 | [],_=>rfl
 | (id,b)::l,h=>by
  obtain ⟨b',h1,h2⟩:=h (id,b) (by simp);have ih:=za2 (m:=m) (f:=f) (m2:=l) fun p hp=>h p (by simp [hp])
  simp only [List.map_cons,jB,zL,h1,Option.map_some,mapL,List.map_cons,er] at ih ⊢;rw [ih,← h2]
theorem za1 {A F:Fr} {f:PV→PV} (hF:Eqv A F):∀ {F2:Fr},(∀ p∈F2,∃ v,lkX A p.1=some v∧p.2=f v)→mapL f (jB F (F2.map (·.1)))=F2
 | [],_=>rfl
 | (t,v)::l,h=>by
  obtain ⟨v',h1,h2⟩:=h (t,v) (by simp);have ih:=za1 (f:=f) hF (F2:=l) fun p hp=>h p (by simp [hp])
  have h3:lk F t=some v':=by rw [← hF t,← qw]; exact h1
  simp only [List.map_cons,jB,h3,mapL,List.map_cons] at ih ⊢;rw [ih,← h2]
theorem zaA {A:Fr} {z:Option (Nat × List CV)}:∀ {F2:Fr} {B:Prop},zH.eqF A z F2 B→(∀ p∈F2,∃ v,lkX A p.1=some v∧p.2=frP (qT z) v)∧B
 | [],_,h=>⟨by simp,h⟩
 | (t,v)::l,B,h=>by
  obtain ⟨u,h1,h2⟩:=zs h;obtain ⟨h3,h4⟩:=zlB h2;obtain ⟨h5,h6⟩:=zaA (F2:=l) h4;refine ⟨fun p hp=>?_,h6⟩;rcases List.mem_cons.1 hp with rfl | hp
  ·exact ⟨u,h1,h3.symm⟩
  ·exact h5 p hp
theorem zaC {m:XM} {z:Option (Nat × List CV)}:∀ {m2:XM} {B:Prop},zH.eqM m z m2 B→(∀ p∈m2,∃ b,lkX m p.1=some b∧p.2.er=frB (qT z) b.er)∧B
 | [],_,h=>⟨by simp,h⟩
 | (id,b)::l,B,h=>by
  obtain ⟨u,h1,h2⟩:=zs h;obtain ⟨b',hb',h3,h4⟩:=zlA h2;obtain ⟨h5,h6⟩:=zaC (m2:=l) h4;refine ⟨fun p hp=>?_,h6⟩;rcases List.mem_cons.1 hp with rfl | hp
  ·exact ⟨u,h1,by rw [← h3]; exact hb'⟩
  ·exact h5 p hp
theorem za3 {k0:List Nat} {z:Option (Nat × List CV)} {F2:Fr} {m2:XM} (hF:Eqv A F) (h:zH.go k0 A m F2 m2 z) {K:Fr→Mem→Prop} (hK:K F2 (er m2)) :
  Tr.go k0 (qT z) (F2.map (·.1)) (m2.map (·.1)) F (er m) K:=by
 unfold zH.go at h;split at h
 ·rename_i h1 h2 h3;obtain ⟨h4,h5⟩:=zaA h;obtain ⟨h6,_⟩:=zaC h5;unfold Tr.go;rw [za2 h6,za1 hF h4];refine ⟨?_,?_,?_,hK⟩
  ·rw [List.all_eq_true] at h1 ⊢;intro id hid;have:=h1 id hid;rw [← Jb] at this;have key:∀ m2:XM,(lk (er m2) id).isSome=true→id∈m2.map (·.1):=by
    intro m2;induction m2 with
    | nil=>intro hh; cases hh
    | cons p m2 ih =>
     obtain ⟨k,b⟩:=p;rw [er,zr];split
     ·rename_i hh; intro _; simp [hh]
     ·intro hh; simp only [List.map_cons,List.mem_cons]; exact .inr (ih hh)
   simpa using key m2 this
  ·have key:∀ l:XM,(∀ p∈l,inBX m2 p.2=true)→(er l).all (fun p=>inB (er m2) p.2)=true:=by
    intro l;induction l with
    | nil=>intro _; rfl
    | cons p l ih =>
     intro hp;simp only [er,List.all_cons,Bool.and_eq_true];exact ⟨zdZ (hp p (by simp)),ih fun q hq=>hp q (by simp [hq])⟩
   exact key m2 (List.all_eq_true.1 h2)
  ·rw [List.all_eq_true] at h3 ⊢;intro p hp;rw [← Jq]; exact h3 p hp
 ·exact h.elim
theorem zcu:∀ {L:List PV} {C:List CV},z8 L=some C→C.length=L.length
 | [],C,h=>by simp only [z8] at h; cases h; rfl
 | x::L,C,h=>by
  simp only [z8] at h;split at h
  ·rename_i hy hk; cases h; simp [zcu hk]
  ·cases h
theorem yU {k0:List Nat} {z:Option Nat} {F2:Fr} {m2:XM} (hF:Eqv A F) (h:zH k0 z A m F2 m2) {K:Fr→Mem→Prop} (hK:K F2 (er m2)) :
  z7 W0 k0 F (er m) K:=by
 unfold zH at h;cases z with
 | none=>exact @z7.of W0 k0 [Tr.mk none (List.map (fun p:Nat × PV=>p.1) F2) (List.map (fun p:Nat × XB=>p.1) m2)] F (er m) K (za3 hF h hK)
 | some id =>
  simp only [] at h;split at h
  ·exact h W0 F K hF hK
  ·refine @z7.of W0 k0 [Tr.mk (some id) (List.map (fun p:Nat × PV=>p.1) F2) (List.map (fun p:Nat × XB=>p.1) m2)] F (er m) K ?_;show Tr.on k0 _ F (er m) K;unfold Tr.on;simp only [];split at h
   ·rename_i h1 h2;refine ⟨h1,?_,?_⟩
    ·have key:∀ m2:XM,lkX m2 id=none→id ∉ m2.map (·.1):=by
      intro m2;induction m2 with
      | nil=>intro _ hh; cases hh
      | cons p m2 ih =>
       obtain ⟨k,b⟩:=p;intro hh;rw [qw,zr] at hh;split at hh
       ·cases hh
       ·rename_i hne;rw [← qw] at hh;simp only [List.map_cons,List.mem_cons,not_or];exact ⟨hne,ih hh⟩
     have:=key m2 h2
     simpa using this
    ·obtain ⟨b,h3,h4⟩:=zs h;split at h4
     ·rename_i L sz e;simp only [zL,h3,Option.map_some,XB.er];refine zq (JZ L) ?_;have:=za3 hF h4 hK;rw [List.length_map]; exact this
     ·rename_i L e;obtain ⟨C,h5,h6⟩:=Q0 h4;simp only [zL,h3,Option.map_some,XB.er];refine zq h5 ?_;have:=za3 hF h6 hK;have hl:=zcu h5;rw [← hl]; exact this
     ·exact h4.elim
   ·exact h.elim
theorem Qh {A F:Fr} (hF:Eqv A F) {B:Prop} (hg:∀ t x,lk F t=some x→qN x):∀ {l:List Nat},goodK A l B→B
 | [],h=>h
 | t::l,h=>by
  simp only [goodK] at h;split at h
  ·rename_i v hv;split at h
   ·exact Qh hF hg (l:=l) h
   ·exact Qh hF hg (l:=l) h
   ·exact Qh hF hg (l:=l) (h (hg t v (by rw [← hF t,← qw]; exact hv)))
  ·exact Qh hF hg (l:=l) h
theorem zgq {k0:List Nat}:∀ {c:XC} {N:Fr→XM→Prop} {E:Nat→Fr→XM→Prop} {R:Fr→XM→Prop} {N':Fr→Mem→Prop} {E':Nat→Fr→Mem→Prop} {R':Fr→Mem→Prop}
  (_:∀ A F m,Eqv A F→N A m→N' F (er m)) (_:∀ i A F m,Eqv A F→E i A m→E' i F (er m)) (_:∀ A F m,Eqv A F→R A m→R' F (er m))
  {A F:Fr} {m:XM},Eqv A F→xwp P W0 k0 c N E R A m→acwp P W0 k0 c.ac N' E' R' F (er m):=by
 intro c;induction c with
 | skip=>intro N E R N' E' R' hN hE hR A F m hF h; exact hN _ _ _ hF h
 | reg q ops =>
  intro N E R N' E' R' hN hE hR A F m hF h;refine YY (n:=[]) ?_ hF (fun _=>rfl) h;intro A F m n hA _ hk hg;have:=Qh hA hg (zbp hk);have:=hN _ _ _ hA this;rw [Zy] at this; exact this
 | seq a b iha ihb =>
  intro N E R N' E' R' hN hE hR A F m hF h;exact iha (fun A F m hA hh=>z7.of (l:=[]) (ihb hN hE hR hA hh)) hE hR hF h
 | cut a b iha ihb =>
  intro N E R N' E' R' hN hE hR A F m hF h;obtain ⟨σ,fr,mm,inv,z,Q,h1,hQ,h2⟩:=h;refine iha (fun A F m hA hh=>?_) hE hR hF h1;obtain ⟨x,hx,hk⟩:=hQ _ _ hh;exact yU hA hk (ihb hN hE hR (fun _=>rfl) (h2 x hx))
 | cnd c a b iha ihb =>
  intro N E R N' E' R' hN hE hR A F m hF h;obtain ⟨v,h1,h2⟩:=zs h;rw [Za hF] at h1;refine zq h1 ?_;split at h2
  ·obtain ⟨h3,h4⟩:=zar h2;exact ⟨fun ht=>iha hN hE hR hF (h3 ht),fun ht=>ihb hN hE hR hF (h4 ht)⟩
  ·exact h2.elim
 | blk id a ih =>
  intro N E R N' E' R' hN hE hR A F m hF h;refine ih hN (fun i A F m hA hh=>?_) hR hF h;split at hh
  ·rename_i hb; rw [if_pos (Nat.eq_of_beq_eq_true hb)]; exact hN _ _ _ hA hh
  ·rename_i hb; rw [if_neg (Nat.ne_of_beq_eq_false hb)]; exact hE _ _ _ _ hA hh
 | loop a ih =>
  intro N E R N' E' R' hN hE hR A F m hF h;obtain ⟨σ,fr,mm,inv,me,z0,z1,Q,⟨x,hx,hk⟩,hQ,h2⟩:=h;refine ⟨fun n F m=>∃ x,inv x∧me x=n∧F=fr x∧m=er (mm x),⟨me x,yU hF hk ⟨x,hx,rfl,rfl,rfl⟩⟩,?_⟩;rintro n F m ⟨x,hx,rfl,rfl,rfl⟩;refine ih (fun A F m hA hh=>?_) hE hR (fun _=>rfl) (h2 x hx);obtain ⟨x',hx',hlt,hk'⟩:=hQ _ _ _ hh;exact ⟨me x',hlt,yU hA hk' ⟨x',hx',rfl,rfl,rfl⟩⟩
 | exit i=>intro N E R N' E' R' hN hE hR A F m hF h; exact hE _ _ _ _ hF h
 | ret=>intro N E R N' E' R' hN hE hR A F m hF h; exact hR _ _ _ hF h
theorem zgy {a:AR} {K:PV→Prop} (hF:Eqv A F) (h:arK A m a K):∃ v,a.ev F (er m)=some v∧K v:=by
 cases a with
 | t n =>
  obtain ⟨v,h1,h2⟩:=zs h;exact ⟨v,by simp only [AR.ev]; rw [← hF n,← qw]; exact h1,h2⟩
 | cell n g k =>
  obtain ⟨v,h1,h2⟩:=zs h;have h1':lk F n=some v:=by rw [← hF n,← qw]; exact h1
  split at h2
  ·rename_i id;obtain ⟨b,h3,h4⟩:=zs h2;split at h4
   ·rename_i cs;cases g with
    | true =>
     obtain ⟨h5,h6⟩:=ZX h4;exact ⟨_,by simp only [AR.ev,h1',zL,h3,Option.map_some,XB.er,if_true,if_pos h5],Qr h6⟩
    | false =>
     obtain ⟨x,h5,h6⟩:=yf h4;exact ⟨x,by simp only [AR.ev,h1',zL,h3,Option.map_some,XB.er,Bool.false_eq_true,if_false]; exact h5,h6⟩
   ·exact h4.elim
  ·exact h2.elim
theorem zai (hF:Eqv A F):∀ {l:List AR} {K:List PV→Prop},arsK A m l K→∃ xs,qV F (er m) l=some xs∧K xs
 | [],_,h=>⟨[],rfl,h⟩
 | a::l,K,h=>by
  obtain ⟨v,h1,h2⟩:=zgy hF h;obtain ⟨r,h3,h4⟩:=zai hF (l:=l) h2;exact ⟨_,by simp [qV,h1,h3],h4⟩
theorem zeP {xs:List PV} (h:YM xs=true):xs.length=1∨xs.all PV.isVal=true:=by
 unfold YM at h;split at h
 ·exact .inl rfl
 ·exact .inr h
def clP:PV→Option CV
 | .tup cs=>(z8 cs).map .tup
 | v=>jT v
theorem zcv {κ:Kap} {m:Mem} {w:World}:∀ {cs:List PV} {l:List CV} {vs:List Value},z8 cs=some l→za (zg κ m w) cs vs→za (RepC w (zf κ m)) l vs
 | [],l,vs,h1,h2=>by
  simp only [z8] at h1; cases h1;cases vs with
  | nil=>trivial
  | cons=>exact h2.elim
 | a::cs,l,vs,h1,h2=>by
  simp only [z8] at h1;split at h1
  ·rename_i y k hy hk;cases h1;cases vs with
   | nil=>exact h2.elim
   | cons v vs=>exact ⟨yO hy (.ofA h2.1),zcv hk h2.2⟩
  ·cases h1
theorem zj5 {κ:Kap} {m:Mem} {w:World} {x:PV} {y:CV} {v:Value} (h:clP x=some y) (hr:Rep κ m w x v):RepC w (zf κ m) y v:=by
 cases x with
 | tup cs =>
  simp only [clP,Option.map_eq_some_iff] at h;obtain ⟨l,h1,rfl⟩:=h;obtain ⟨vs,rfl,h2⟩:=hr;have:=zcv h1 h2;refine .tup this.length fun i x v hx hv=>?_
  obtain ⟨u,hu,hr⟩:=this.get i x hx;rw [hv] at hu; cases hu; exact hr
 | c x=>exact yO (x := .c x) h hr
 | nil=>exact yO (x := .nil) h hr
 | agg cs=>exact yO (x := .agg cs) h hr
 | _=>cases h
end
theorem RepC.rep {κ:Kap} {m:Mem} {w:World} {x:CV} {v:Value} (h:RepC w (zf κ m) x v):Rep κ m w (.c x) v:=by
 cases x<;>exact h
def JI (m:Mem):PV→Option CV
 | .tup cs=>(jJ m cs).map .tup
 | v=>snap m v
theorem znx {m:XM} {v:PV} {K:CV→Prop} (h:snapRK m v K):∃ y,JI (er m) v=some y∧K y:=by
 cases v with
 | tup cs =>
  obtain ⟨l,h1,h2⟩:=QF (cs:=cs) h;exact ⟨_,by simp [JI,h1],h2⟩
 | c x=>exact yj (m:=m) (v := .c x) h
 | nil=>exact yj (m:=m) (v := .nil) h
 | np=>exact yj (m:=m) (v := .np) h
 | ptr a b=>exact yj (m:=m) (v := .ptr a b) h
 | own a b=>exact yj (m:=m) (v := .own a b) h
 | ep a b=>exact yj (m:=m) (v := .ep a b) h
 | eo a b c d=>exact yj (m:=m) (v := .eo a b c d) h
 | sl a b c d=>exact yj (m:=m) (v := .sl a b c d) h
 | fn a b=>exact yj (m:=m) (v := .fn a b) h
 | agg cs=>exact yj (m:=m) (v := .agg cs) h
theorem zfD {κ:Kap} {m:Mem} {w:World} {S:Nat→Prop} (hm:MemOk κ m w) (hS:∀ b,S b→zf κ m b) (hSo:∀ id b,(lk m id).isSome=true→κ id=some b→¬ S b):∀ {cs:List PV} {l:List CV} {vs:List Value},
  jJ m cs=some l→za (zg κ m w) cs vs→za (RepC w S) l vs
 | [],l,vs,h,hv=>by
  simp only [jJ] at h; cases h;cases vs with
  | nil=>trivial
  | cons=>exact hv.elim
 | x::L,C,vs,h,hv=>by
  simp only [jJ] at h;split at h
  ·rename_i y k hy hk;cases h;cases vs with
   | nil=>exact hv.elim
   | cons v vs=>exact ⟨Y1 hm hS hSo (fun _ _ h=>h) hy (.ofA hv.1),zfD hm hS hSo hk hv.2⟩
  ·cases h
theorem zfB {κ:Kap} {m:Mem} {w:World} {S:Nat→Prop} (hm:MemOk κ m w) (hS:∀ b,S b→zf κ m b) (hSo:∀ id b,(lk m id).isSome=true→κ id=some b→¬ S b) {x:PV} {y:CV} {v:Value}
  (h:JI m x=some y) (hr:Rep κ m w x v):RepC w S y v:=by
 have key:snap m x=some y→RepC w S y v:=fun h=>Y1 hm hS hSo (fun _ _ h=>h) h hr
 cases x with
 | tup cs =>
  simp only [JI,Option.map_eq_some_iff] at h;obtain ⟨l,h1,rfl⟩:=h;obtain ⟨vs,rfl,h2⟩:=hr;have:=zfD hm hS hSo h1 h2;refine .tup this.length fun i x v hx hv=>?_
  obtain ⟨u,hu,hr⟩:=this.get i x hx;rw [hv] at hu; cases hu; exact hr
 | _=>exact key h
theorem zl2 {W0:World} {m:Mem} {v:PV} {r:CV} (h:JI m v=some r):z7 W0 [] [(0,v)] m fun F' m'=>onv (lk F' 0) fun x=>clP x=some r∧m'=[]:=by
 intro w0 κ0 m0 N κ a w hk0 hr;have hno:∀ id,lk m0 id=none:=fun id=>by
  cases hl:lk m0 id with
  | none=>rfl
  | some b=>have:=hk0 id (by simp [hl]); simp at this
 have hlive:∀ b,zf κ [] b→κ.S b:=by
  rintro b (hb | ⟨id,hb,_⟩)
  ·exact hb
  ·simp [lk] at hb
 have hmw:=hr.mw;have hrep:=hr.tmps 0 v (by simp [lk]);refine ⟨κ,[(0,.c r)],[],⟨⟨⟨fun id b hb=>by simp [lk] at hb,fun i j b hi=>by simp [lk] at hi,hmw.mem.sb,fun id b hb=>by simp [lk] at hb⟩,fun b hb=>hmw.low b (.inl (hlive b hb)),
  ⟨fun id cs hb=>(by rw [hno] at hb; cases hb),fun id L sz e hb=>(by rw [hno] at hb; cases hb),fun b o u hl hc=>⟨fun hh=>(hmw.pres.cell b o u hl hc).1 (.inl (hlive b hh)),(hmw.pres.cell b o u hl hc).2⟩⟩,hmw.ext,fun id b hb=>by simp [lk] at hb,hmw.hS⟩,
  hr.start,hr.low0,hr.s0,hr.size,hr.defers,fun t x hx=>?_⟩,?_⟩
 ·rw [zr] at hx;split at hx
  ·rename_i ht;subst ht;cases hx;refine ⟨hrep.1,RepC.rep ?_⟩;exact zfB hmw.mem (fun b hb => .inl (hlive b hb)) (fun id b hi hb hs=>hmw.mem.sd id b hi hb (hlive b hs)) h hrep.2
  ·cases hx
 ·exact ⟨show clP (.c r)=some r from rfl,rfl⟩
theorem zdq {A F:Fr} {m:XM} {W0:World} {ars:List AR} {r:CV} (hF:Eqv A F) (h:finC ars r A m):Fin W0 [] ars (fun x m'=>clP x=some r∧m'=[]) F (er m):=by
 obtain ⟨xs,h1,h2⟩:=zai hF h;refine zq h1 ?_;split at h2
 ·rename_i hok;refine ⟨zeP hok,?_⟩;obtain ⟨c,h3,rfl⟩:=znx h2;exact zl2 h3
 ·exact h2.elim
theorem fnX {P:Program} {W0:World} {f:FuncId} {c:XC} {on:List FuncId} {ars:List AR} {n:Nat} {args:List CV} {r:CV} {F:Fr} (hm:P.follows .mixedOrders=true)
  (hc:zh P on f=some (c.ac,ars,n)) (hn:args.length≤n) (hF:argF 0 (args.map .c)=F)
  (h:(∀ x∈args,Good x)→xwp P W0 [] c (finC ars r) (fun _ _ _=>False) (finC ars r) F []):Fn P W0 f args (.c r) []:=by
 subst hF;have:FunC P W0 f (args.map .c) [] fun x m'=>clP x=some r∧m'=[]:=by
  refine funC hm hc (by simpa using hn) fun hg=>?_
  exact zgq (m:=[]) (fun A F m hA=>zdq hA) (fun _ _ _ _ _ h=>h) (fun A F m hA=>zdq hA) (fun _=>rfl) (h fun x hx=>hg (.c x) (List.mem_map_of_mem hx))
 intro κ w vs h1 h2 h3;refine (this κ w vs h1 h2 h3).mono ?_;rintro e w' ⟨v,x,m',κ',rfl,⟨h4,rfl⟩,h5,h6⟩;exact ⟨v,.c r,[],κ',rfl,⟨rfl,rfl⟩,h5,(zj5 h4 h6).rep⟩
theorem zdr {A F:Fr} {m:XM} {W0:World} {k0:List Nat} {ars:List AR} {Φ:PV→XM→Prop} (hF:Eqv A F) (h:finX k0 ars Φ A m):Fin W0 k0 ars (fun x m'=>∃ mx,m'=er mx∧Φ x mx) F (er m):=by
 obtain ⟨xs,h1,h2⟩:=zai hF h;refine zq h1 ?_;split at h2
 ·rename_i hok;refine ⟨zeP hok,?_⟩;obtain ⟨z,r,m2,h3,h4⟩:=h2;refine yU (F:=[(0,retP xs)]) (fun _=>rfl) h3 ?_;exact ⟨m2,rfl,h4⟩
 ·exact h2.elim
theorem funX {P:Program} {W0:World} {f:FuncId} {c:XC} {on:List FuncId} {ars:List AR} {n:Nat} {args:List PV} {m:XM} {Φ:PV→XM→Prop} {F:Fr} {k0:List Nat} (hm:P.follows .mixedOrders=true)
  (hc:zh P on f=some (c.ac,ars,n)) (hn:args.length≤n) (hF:argF 0 args=F) (hk:m.map (·.1)=k0)
  (h:(∀ x∈args,qN x)→xwp P W0 k0 c (finX k0 ars Φ) (fun _ _ _=>False) (finX k0 ars Φ) F m):FunX P W0 f args m Φ:=by
 subst hF hk;have e:(er m).map (·.1)=m.map (·.1):=by
  clear h;induction m with
  | nil=>rfl
  | cons p m ih=>obtain ⟨k,b⟩:=p; simp [er,ih]
 refine funC hm hc hn fun hg=>?_
 rw [e];exact zgq (fun A F m hA=>zdr hA) (fun _ _ _ _ _ h=>h) (fun A F m hA=>zdr hA) (fun _=>rfl) (h hg)

section
variable (s:Nat→Nat)
def ren1:PV→PV
 | .ptr id off => .ptr (s id) off
 | .own id n => .own (s id) n
 | .eo id n i off => .eo (s id) n i off
 | .sl id n lo k => .sl (s id) n lo k
 | .fn g ids => .fn g (ids.map s)
 | x=>x
def renA:PV→PV
 | .agg cs => .agg (cs.map (ren1 s))
 | x=>ren1 s x
def renP:PV→PV
 | .tup cs => .tup (cs.map (renA s))
 | x=>renA s x
def renB:Blk→Blk
 | .box cs => .box (cs.map (ren1 s))
 | .row L sz e => .row (L.map (renA s)) sz e
def jd:Mem→Mem
 | []=>[]
 | (k,b)::l=>(s k,renB s b)::jd l
def renK (κ:Kap):Kap:=⟨fun i=>κ (s i),κ.S⟩
end
section
variable {s:Nat→Nat} (hs:∀ i,s (s i)=i)
include hs
omit hs in
theorem Jx {α:Type} {f:α→α} (h:∀ a,f (f a)=a) (l:List α):l.map (f ∘ f)=l:=by
 have:f ∘ f=id:=by funext a; exact h a
 rw [this,List.map_id]
theorem zfc (x:PV):ren1 s (ren1 s x)=x:=by
 have:s ∘ s=id:=by funext a; exact hs a
 cases x<;>simp [ren1,hs,this]
theorem zbI (x:PV):renA s (renA s x)=x:=by
 have h1:=zfc hs;cases x with
 | agg cs=>simp only [renA,List.map_map]; congr 1; exact Jx h1 cs
 | ptr a b=>exact h1 (.ptr a b)
 | own a b=>exact h1 (.own a b)
 | eo a b c d=>exact h1 (.eo a b c d)
 | sl a b c d=>exact h1 (.sl a b c d)
 | fn a b=>exact h1 (.fn a b)
 | _=>rfl
theorem YU (x:PV):renP s (renP s x)=x:=by
 have h1:=zbI hs;cases x with
 | tup cs=>simp only [renP,List.map_map]; congr 1; exact Jx h1 cs
 | ptr a b=>exact h1 (.ptr a b)
 | own a b=>exact h1 (.own a b)
 | eo a b c d=>exact h1 (.eo a b c d)
 | sl a b c d=>exact h1 (.sl a b c d)
 | fn a b=>exact h1 (.fn a b)
 | agg cs=>exact h1 (.agg cs)
 | _=>rfl
theorem znd (b:Blk):renB s (renB s b)=b:=by
 cases b with
 | box cs=>simp only [renB,List.map_map]; congr 1; exact Jx (zfc hs) cs
 | row L sz e=>simp only [renB,List.map_map]; congr 1; exact Jx (zbI hs) L
theorem JC:∀ m:Mem,jd s (jd s m)=m
 | []=>rfl
 | (k,b)::l=>by simp only [jd,hs,znd hs,JC l]
theorem zne (κ:Kap):renK s (renK s κ)=κ:=by cases κ; simp [renK,hs]
theorem qD {m:Mem} {i:Nat}:lk (jd s m) i=(lk m (s i)).map (renB s):=by
 induction m with
 | nil=>rfl
 | cons p m ih =>
  obtain ⟨k,b⟩:=p;simp only [jd,zr];by_cases h:i=s k
  ·subst h; simp [hs]
  ·rw [if_neg h,if_neg (fun e=>h (by rw [← e,hs])),ih]
theorem Jv {m:Mem} {i:Nat}:lk (jd s m) (s i)=(lk m i).map (renB s):=by rw [qD hs,hs]
omit hs in
theorem zcr {x:PV}:(renA s x).cells=x.cells.map (ren1 s):=by
 cases x with
 | c y=>simp only [renA,ren1,PV.cells,List.map_map]; exact List.map_congr_left fun _ _=>rfl
 | _=>rfl
omit hs in
theorem zbH {sz:Nat} {C:List CV}:(zI sz C).map (renA s)=zI sz C:=by
 refine zdU ?_ fun _=>rfl
 cases sz with
 | zero=>rfl
 | succ n =>
  show PV.agg ((List.replicate (n+1) (PV.tup [])).map (ren1 s))=_;rw [List.map_replicate]; rfl
theorem zaY {L:List PV} {sz:Nat} {C:List CV} (h:L.map (renA s)=zI sz C):L=zI sz C:=by
 have:=congrArg (List.map (renA s)) h;rw [zbH,List.map_map] at this;rw [← this];exact (Jx (zbI hs) L).symm
theorem zbz {κ:Kap} {m:Mem} {b:Nat}:Own (renK s κ) (jd s m) b↔Own κ m b:=by
 constructor
 ·rintro ⟨i,h1,h2⟩;exact ⟨s i,by rw [qD hs] at h1; simpa using h1,h2⟩
 ·rintro ⟨i,h1,h2⟩;exact ⟨s i,by rw [Jv hs]; simpa using h1,by show κ (s (s i))=_; rw [hs]; exact h2⟩
theorem qQ {κ:Kap} {m:Mem}:zf (renK s κ) (jd s m)=zf κ m:=by
 funext b;exact propext (or_congr Iff.rfl (zbz hs))
variable {κ κ' κ0:Kap} {m m' m0:Mem} {w w' w0 W0:World}
theorem zb.ren {x:PV} {v:Value} (h:zb κ m w x v):zb (renK s κ) (jd s m) w (ren1 s x) v:=by
 have hk:∀ i,(renK s κ) (s i)=κ i:=fun i=>by show κ (s (s i))=_; rw [hs]
 cases x with
 | c y =>
  have e:zb (renK s κ) (jd s m) w (.c y) v=zb κ m w (.c y) v:=by cases y<;>simp only [zb,qQ hs]
  show zb (renK s κ) (jd s m) w (.c y) v;rw [e]; exact h
 | nil=>exact h
 | np=>exact h
 | ptr id off =>
  obtain ⟨b,cs,h1,h2,h3⟩:=h;exact ⟨b,cs.map (ren1 s),by rw [Jv hs,h1]; rfl,by rw [hk]; exact h2,h3⟩
 | own id n =>
  obtain ⟨h1,h2,L,sz,e,h3,h4,h5,h6⟩:=h;refine ⟨h1,h2,L.map (renA s),sz,e,by rw [Jv hs,h3]; rfl,by simpa using h4,fun hl=>?_,fun k C hne hC hl=>?_⟩
  ·have:=h5 (by simpa using hl);unfold zX at this ⊢;rw [hk]; exact this
  ·rw [qQ hs];exact h6 (by rw [hk] at k; exact k) C hne (zaY hs hC) hl
 | ep y off =>
  obtain ⟨b,o,vs,h1,h2,h3⟩:=h;refine ⟨b,o,vs,h1,by rw [qQ hs]; exact h2,?_⟩;rw [qQ hs]; exact h3
 | eo id n i off =>
  obtain ⟨h1,L,sz,e,h3,h4,h5⟩:=h;refine ⟨h1,L.map (renA s),sz,e,by rw [Jv hs,h3]; rfl,by simpa using h4,fun hl=>?_⟩;obtain ⟨b,h6,h7⟩:=h5 (by simpa using hl);exact ⟨b,by rw [hk]; exact h6,h7⟩
 | sl id n lo k =>
  obtain ⟨h1,L,sz,e,h3,h4,h5⟩:=h;refine ⟨h1,L.map (renA s),sz,e,by rw [Jv hs,h3]; rfl,by simpa using h4,fun hl ho=>?_⟩;obtain ⟨b,c,h6,h7⟩:=h5 (by simpa using hl) ho;exact ⟨b,c,by rw [hk]; exact h6,h7⟩
 | fn g ids =>
  obtain ⟨bs,h1,h2⟩:=h;refine ⟨bs,h1,za.map_left s (h2.imp fun id b ⟨⟨cs,h3⟩,h4⟩=>⟨⟨cs.map (ren1 s),by rw [Jv hs,h3]; rfl⟩,by rw [hk]; exact h4⟩)⟩
 | agg cs=>exact h.elim
 | tup cs=>exact h.elim
theorem QP:∀ {cs:List PV} {vs:List Value},za (zb κ m w) cs vs→za (zb (renK s κ) (jd s m) w) (cs.map (ren1 s)) vs
 | [],[],_=>trivial
 | _::_,_::_,h=>⟨zb.ren hs h.1,QP h.2⟩
 | [],_::_,h=>h.elim
 | _::_,[],h=>h.elim
theorem zg.ren {x:PV} {v:Value} (h:zg κ m w x v):zg (renK s κ) (jd s m) w (renA s x) v:=by
 cases x with
 | agg cs=>obtain ⟨vs,h1,h2⟩:=h; exact ⟨vs,h1,QP hs h2⟩
 | c y =>
  cases y with
  | agg cs =>
   show RepC w (zf (renK s κ) (jd s m)) (.agg cs) v;rw [qQ hs]; exact h
  | sc y=>exact zb.ren hs (x := .c (.sc y)) h
  | row y=>exact zb.ren hs (x := .c (.row y)) h
  | tup y=>exact (show False from h).elim
 | ptr a b=>exact zb.ren hs (κ:=κ) (m:=m) (w:=w) (v:=v) (x := .ptr a b) h
 | own a b=>exact zb.ren hs (κ:=κ) (m:=m) (w:=w) (v:=v) (x := .own a b) h
 | eo a b c d=>exact zb.ren hs (κ:=κ) (m:=m) (w:=w) (v:=v) (x := .eo a b c d) h
 | sl a b c d=>exact zb.ren hs (κ:=κ) (m:=m) (w:=w) (v:=v) (x := .sl a b c d) h
 | fn a b=>exact zb.ren hs (κ:=κ) (m:=m) (w:=w) (v:=v) (x := .fn a b) h
 | ep a b=>exact zb.ren hs (κ:=κ) (m:=m) (w:=w) (v:=v) (x := .ep a b) h
 | nil=>exact h
 | np=>exact h
 | tup cs=>exact zb.ren hs (κ:=κ) (m:=m) (w:=w) (v:=v) (x := .tup cs) h
theorem zb9:∀ {cs:List PV} {vs:List Value},za (zg κ m w) cs vs→za (zg (renK s κ) (jd s m) w) (cs.map (renA s)) vs
 | [],[],_=>trivial
 | _::_,_::_,h=>⟨zg.ren hs h.1,zb9 h.2⟩
 | [],_::_,h=>h.elim
 | _::_,[],h=>h.elim
theorem Rep.ren {x:PV} {v:Value} (h:Rep κ m w x v):Rep (renK s κ) (jd s m) w (renP s x) v:=by
 cases x with
 | tup cs=>obtain ⟨vs,h1,h2⟩:=h; exact ⟨vs,h1,zb9 hs h2⟩
 | c y =>
  cases y with
  | tup cs =>
   show RepC w (zf (renK s κ) (jd s m)) (.tup cs) v;rw [qQ hs]; exact h
  | sc y=>exact zg.ren hs (x := .c (.sc y)) h
  | row y=>exact zg.ren hs (x := .c (.row y)) h
  | agg y=>exact zg.ren hs (x := .c (.agg y)) h
 | ptr a b=>exact zg.ren hs (κ:=κ) (m:=m) (w:=w) (v:=v) (x := .ptr a b) h
 | own a b=>exact zg.ren hs (κ:=κ) (m:=m) (w:=w) (v:=v) (x := .own a b) h
 | eo a b c d=>exact zg.ren hs (κ:=κ) (m:=m) (w:=w) (v:=v) (x := .eo a b c d) h
 | sl a b c d=>exact zg.ren hs (κ:=κ) (m:=m) (w:=w) (v:=v) (x := .sl a b c d) h
 | fn a b=>exact zg.ren hs (κ:=κ) (m:=m) (w:=w) (v:=v) (x := .fn a b) h
 | ep a b=>exact zg.ren hs (κ:=κ) (m:=m) (w:=w) (v:=v) (x := .ep a b) h
 | agg cs=>exact zg.ren hs (κ:=κ) (m:=m) (w:=w) (v:=v) (x := .agg cs) h
 | nil=>exact h
 | np=>exact h
theorem zb8:∀ {cs:List PV} {vs:List Value},za (Rep κ m w) cs vs→za (Rep (renK s κ) (jd s m) w) (cs.map (renP s)) vs
 | [],[],_=>trivial
 | _::_,_::_,h=>⟨Rep.ren hs h.1,zb8 h.2⟩
 | [],_::_,h=>h.elim
 | _::_,[],h=>h.elim
omit hs in
theorem zdA:∀ {L:List PV},(L.map (renA s)).flatMap PV.cells=(L.flatMap PV.cells).map (ren1 s)
 | []=>rfl
 | x::L=>by simp only [List.map_cons,List.flatMap_cons,List.map_append,zcr,zdA (L:=L)]
theorem jK.ren {id:Nat} {b:Blk} (h:jK κ m w id b):jK (renK s κ) (jd s m) w (s id) (renB s b):=by
 have hk:(renK s κ) (s id)=κ id:=by show κ (s (s id))=_; rw [hs]
 cases b with
 | box cs =>
  obtain ⟨b,vs,e,h1,h2,h3⟩:=h;exact ⟨b,vs,e,by rw [hk]; exact h1,h2,QP hs h3⟩
 | row L sz e =>
  obtain ⟨h1,h2,h3⟩:=h;refine ⟨fun x hx=>?_,h2,?_⟩
  ·obtain ⟨y,hy,rfl⟩:=List.mem_map.1 hx;rw [zcr,List.length_map]; exact h1 y hy
  ·rcases h3 with ⟨h4,h5⟩ | ⟨b,vs,rest,h4,h5,h6⟩
   ·exact .inl ⟨by rw [hk]; exact h4,h5.imp (fun e=>by rw [e]; rfl) fun ⟨C,e⟩=>⟨C,by rw [e,zbH]⟩⟩
   ·exact .inr ⟨b,vs,rest,by rw [hk]; exact h4,h5,by rw [zdA]; exact QP hs h6⟩
theorem MemOk.ren (h:MemOk κ m w):MemOk (renK s κ) (jd s m) w:=by
 refine ⟨fun id b hb=>?_,fun i j b hi hj h1 h2=>?_,h.sb,fun i b hi hb=>h.sd (s i) b (by rw [qD hs] at hi; simpa using hi) hb⟩
 ·rw [qD hs] at hb;obtain ⟨c,h1,rfl⟩:=Option.map_eq_some_iff.1 hb;have:=jK.ren hs (h.blk _ _ h1);rw [hs] at this; exact this
 ·rw [qD hs] at hi hj;have:=h.inj (s i) (s j) b (by simpa using hi) (by simpa using hj) h1 h2;rw [← hs i,this,hs]
theorem Pres.ren (h:Pres κ m w κ' m' w'):Pres (renK s κ) (jd s m) w (renK s κ') (jd s m') w':=by
 refine ⟨fun id cs hb=>?_,fun id L sz e hr=>?_,fun b o v hl hc=>?_⟩
 ·rw [qD hs] at hb;obtain ⟨c,h1,h2⟩:=Option.map_eq_some_iff.1 hb;cases c with
  | row=>cases h2
  | box cs0 =>
   obtain ⟨⟨cs',h3⟩,h4⟩:=h.box _ _ h1;exact ⟨⟨cs'.map (ren1 s),by rw [qD hs,h3]; rfl⟩,h4⟩
 ·rw [qD hs] at hr;obtain ⟨c,h1,h2⟩:=Option.map_eq_some_iff.1 hr;cases c with
  | box=>cases h2
  | row L0 sz0 e0 =>
   simp only [renB,Blk.row.injEq] at h2;obtain ⟨rfl,rfl,rfl⟩:=h2;obtain ⟨L',h3,h4,h5,h6⟩:=h.row _ _ _ _ h1;refine ⟨L'.map (renA s),by rw [qD hs,h3]; rfl,by simpa using h4,fun hl=>h5 (by simpa using hl),fun k C hne hC=>?_⟩;rw [qQ hs];exact (h6 k C hne (zaY hs hC)).imp (fun ⟨e1,e2⟩=>⟨by rw [e1],e2⟩) fun ⟨e1,e2⟩=>⟨by simpa using e1,fun hh v hv=>e2 (by simpa using hh) v (by rw [List.length_map] at hv; exact hv)⟩
 ·rw [qQ hs] at hl ⊢;exact h.cell b o v hl hc
theorem MW.ren (h:MW W0 w0 κ0 m0 κ m w):MW W0 w0 (renK s κ0) (jd s m0) (renK s κ) (jd s m) w:=by
 refine ⟨MemOk.ren hs h.mem,fun b hb=>h.low b (by rw [qQ hs] at hb; exact hb),Pres.ren hs h.pres,⟨h.ext.os,h.ext.tape,h.ext.output,h.ext.size,fun b hb hl=>h.ext.block b hb fun ho=>hl ((zbz hs).2 ho)⟩,fun id b h1 h2=>?_,h.hS⟩;rw [qD hs] at h1;exact (h.new (s id) b (by simpa using h1) h2).imp (zbz hs).2 fun h=>h
theorem FunC.ren {P:Program} {f:FuncId} {args:List PV} {Φ:PV→Mem→Prop} (h:FunC P W0 f args m Φ):FunC P W0 f (args.map (renP s)) (jd s m) (fun r m'=>Φ (renP s r) (jd s m')):=by
 intro κ w vs hB hm hr;have hm':=MW.ren hs hm;rw [JC hs] at hm';have hr':=zb8 hs hr;rw [JC hs,List.map_map,Jx (YU hs)] at hr';refine (h _ w vs hB hm' hr').mono ?_;rintro e w' ⟨v,r,m',κ',rfl,h1,h2,h3⟩;have h2':=MW.ren hs h2;rw [zne hs] at h2';exact ⟨v,renP s r,jd s m',renK s κ',rfl,by show Φ (renP s (renP s r)) (jd s (jd s m')); rw [YU hs,JC hs]; exact h1,h2',Rep.ren hs h3⟩
end
def yY (s:Nat→Nat):XB→XB
 | .box cs => .box (cs.map (ren1 s))
 | .row L sz e => .row L sz e
 | .rowP L e => .rowP (L.map (renA s)) e
 | .gone sz e C => .gone sz e C
def renX (s:Nat→Nat):XM→XM
 | []=>[]
 | (k,b)::l=>(s k,yY s b)::renX s l
theorem JD {s:Nat→Nat}:∀ {m:XM},er (renX s m)=jd s (er m)
 | []=>rfl
 | (k,b)::l=>by
  simp only [renX,er,jd,JD (m:=l)]
  congr 2
  cases b with
  | box cs=>rfl
  | row L sz e=>simp only [yY,XB.er,renB,List.map_map]; congr 1
  | rowP L e=>rfl
  | gone sz e C =>
   simp only [yY,XB.er,renB];rw [zbH]
def sw (a b i:Nat):Nat:=match Nat.beq i a with
 | true=>b
 | false=>match Nat.beq i b with
  | true=>a
  | false=>i
theorem QH (a b i:Nat):sw a b (sw a b i)=i:=by
 have hb:∀ x y:Nat,Nat.beq x y=decide (x=y):=fun x y=>by
  cases h:Nat.beq x y with
  | true=>rw [Nat.eq_of_beq_eq_true h]; simp
  | false=>have:=Nat.ne_of_beq_eq_false h; simp [this]
 unfold sw;simp only [hb];by_cases h1:i=a
 ·subst h1;simp;by_cases h2:b=i
  ·simp [h2]
  ·simp [h2]
 ·by_cases h2:i=b
  ·subst h2; simp [h1]
  ·simp [h1,h2]
def zy (P:Program) (W0:World) (f:FuncId) (vs:List PV) (mp:XM) {α:Type} (ok:α→Prop) (R:α→PV) (M:α→XM):Prop:=FunX P W0 f vs mp fun r mx=>∃ a,ok a∧r=R a∧mx=M a
theorem zy.swp {P:Program} {W0:World} {f:FuncId} {vs:List PV} {mp:XM} {α:Type} {ok:α→Prop} {R:α→PV} {M:α→XM} (h:zy P W0 f vs mp ok R M) (a b:Nat) :
  zy P W0 f (vs.map (renP (sw a b))) (renX (sw a b) mp) ok (fun x=>renP (sw a b) (R x)) (fun x=>renX (sw a b) (M x)):=by
 have:=FunC.ren (s:=sw a b) (QH a b) h;unfold zy FunX;rw [JD];intro κ w vs hB hm hr;refine (this κ w vs hB hm hr).mono ?_;rintro e w' ⟨v,r,m',κ',rfl,⟨mx,h1,x,h2,h3,rfl⟩,h4,h5⟩;refine ⟨v,r,m',κ',rfl,⟨renX (sw a b) (M x),?_,x,h2,?_,rfl⟩,h4,h5⟩
 ·show m'=er (renX (sw a b) (M x));rw [JD,← h1,JC (QH a b)]
 ·show r=renP (sw a b) (R x);rw [← h3,YU (QH a b)]
def subX (m:XM):XM→Prop
 | []=>True
 | (id,b)::l=>(lkX m id=some b)∧subX m l
theorem zf0 {m:XM}:∀ {l:XM},subX m l→∀ id b,lk (er l) id=some b→lk (er m) id=some b
 | [],_,id,b,h=>by cases h
 | (k,x)::l,h,id,b,hl=>by
  rw [er,zr] at hl;split at hl
  ·rename_i e; subst e; cases hl; rw [zL,h.1]; rfl
  ·exact zf0 h.2 id b hl
def inMX (m:XM):Bool:=m.all fun p=>inBX m p.2
theorem Qi {m:XM} (h:inMX m=true):ZH (er m)=true:=by
 have key:∀ l:XM,(∀ p∈l,inBX m p.2=true)→(er l).all (fun p=>inB (er m) p.2)=true:=by
  intro l;induction l with
  | nil=>intro _; rfl
  | cons p l ih =>
   intro hp;simp only [er,List.all_cons,Bool.and_eq_true];exact ⟨zdZ (hp p (by simp)),ih fun q hq=>hp q (by simp [hq])⟩
 exact key m (List.all_eq_true.1 h)
def newX (mp m:XM):XM→Bool
 | []=>true
 | (k,_)::l=>match lkX mp k with
  | some _=>newX mp m l
  | none=>match lkX m k with
   | none=>newX mp m l
   | some _=>false
theorem zeJ {mp m:XM}:∀ {l:XM},newX mp m l=true→∀ id,(lkX l id).isSome=true→(lkX mp id).isSome=true∨lkX m id=none
 | [],_,id,h=>by cases h
 | (k,x)::l,h,id,hl=>by
  rw [lkX] at hl;rw [newX] at h;cases hb:Nat.beq id k with
  | true =>
   have e:=Nat.eq_of_beq_eq_true hb;subst e;cases h1:lkX mp id with
   | some _=>exact .inl rfl
   | none =>
    rw [h1] at h;cases h2:lkX m id with
    | none=>exact .inr rfl
    | some _=>rw [h2] at h; cases h
  | false =>
   rw [hb] at hl;refine zeJ (l:=l) ?_ id hl;split at h
   ·exact h
   ·split at h
    ·exact h
    ·cases h
theorem oW {P:Program} {W0:World} {f:FuncId} {vs vs':List PV} {m mp:XM} {K:PV→XM→Prop} {α:Type} {ok:α→Prop} {R:α→PV} {M:α→XM} (h:zy P W0 f vs' mp ok R M) (hv:vs=vs') (hsub:subX m mp) (h1:inMX mp=true)
  (h2:vs.all (inPX mp)=true) (h0:∃ a,ok a) (k:∀ a,ok a→newX mp m (M a)=true∧K (R a) (ju m (M a))):OpnX P W0 f vs m K:=by
 subst hv;refine ⟨mp,_,zf0 hsub,Qi h1,?_,h,?_,?_⟩
 ·rw [← h2]; congr 1; funext x; exact Jq.symm
 ·obtain ⟨a,ha⟩:=h0; exact ⟨_,_,a,ha,rfl,rfl⟩
 ·rintro r mx ⟨a,ha,rfl,rfl⟩;obtain ⟨h3,h4⟩:=k a ha;exact ⟨zeJ h3,h4⟩
theorem funW {P:Program} {W0:World} {f:FuncId} {c:XC} {on:List FuncId} {ars:List AR} {n:Nat} {args:List PV} {m:XM} {α:Type} {ok:α→Prop} {R:α→PV} {M:α→XM} {F:Fr} {k0:List Nat} (hm:P.follows .mixedOrders=true)
  (hc:zh P on f=some (c.ac,ars,n)) (hn:args.length≤n) (hF:argF 0 args=F) (hk:m.map (·.1)=k0)
  (h:(∀ x∈args,qN x)→xwp P W0 k0 c (finX k0 ars fun r mx=>∃ a,ok a∧r=R a∧mx=M a) (fun _ _ _=>False) (finX k0 ars fun r mx=>∃ a,ok a∧r=R a∧mx=M a) F m):zy P W0 f args m ok R M:=funX hm hc hn hF hk h
theorem Fn.funW {P:Program} {W0:World} {f:FuncId} {args:List CV} {r:CV} (h:Fn P W0 f args (.c r) []):zy P W0 f (args.map .c) [] (fun _:Unit=>True) (fun _ => .c r) (fun _=>[]):=by
 intro κ w vs hB hm hr;refine (h κ w vs hB hm hr).mono ?_;rintro e w' ⟨v,x,m',κ',rfl,⟨rfl,rfl⟩,h3,h4⟩;exact ⟨v,_,_,κ',rfl,⟨[],rfl,(),trivial,rfl,rfl⟩,h3,h4⟩
theorem zy.imp {P:Program} {W0:World} {f:FuncId} {vs:List PV} {mp:XM} {α β:Type} {ok:α→Prop} {R:α→PV} {M:α→XM} {ok':β→Prop} {R':β→PV} {M':β→XM} (h:zy P W0 f vs mp ok R M)
  (g:α→β) (hg:∀ a,ok a→ok' (g a)∧R a=R' (g a)∧M a=M' (g a)):zy P W0 f vs mp ok' R' M':=by
 intro κ w vs hB hm hr;refine (h κ w vs hB hm hr).mono ?_;rintro e w' ⟨v,x,m',κ',rfl,⟨mx,h1,a,h2,rfl,rfl⟩,h3,h4⟩;obtain ⟨g1,g2,g3⟩:=hg a h2;exact ⟨v,_,m',κ',rfl,⟨M a,h1,g a,g1,g2,g3⟩,h3,h4⟩
theorem qB {a b i:Nat} (h1:i≠a) (h2:i≠b):sw a b i=i:=by
 unfold sw;cases h:Nat.beq i a with
 | true=>exact absurd (Nat.eq_of_beq_eq_true h) h1
 | false =>
  cases h':Nat.beq i b with
  | true=>exact absurd (Nat.eq_of_beq_eq_true h') h2
  | false=>rfl
theorem z7.ren {W0:World} {k0:List Nat} {F:Fr} {m:Mem} {K:Fr→Mem→Prop} (a b:Nat) (ha:k0.contains a=false) (hb:k0.contains b=false)
  (hK:K (mapL (renP (sw a b)) F) (jd (sw a b) m)):z7 W0 k0 F m K:=by
 intro w0 κ0 m0 N κ act w hk0 hr;have hs:=QH a b;have hfix:∀ id,(lk m0 id).isSome=true→sw a b id=id:=fun id h=>by
  have:=hk0 id h;refine qB ?_ ?_
  ·rintro rfl; rw [ha] at this; cases this
  ·rintro rfl; rw [hb] at this; cases this
 have hmw:=hr.mw;refine ⟨renK (sw a b) κ,_,_,⟨⟨MemOk.ren hs hmw.mem,fun c hc=>hmw.low c (by rw [qQ hs] at hc; exact hc),⟨fun id cs h=>?_,fun id L sz e h=>?_,fun c o v hl hc=>?_⟩,hmw.ext,fun id c h1 h2=>?_,hmw.hS⟩,hr.start,hr.low0,hr.s0,hr.size,hr.defers,fun t x hx=>?_⟩,hK⟩
 ·obtain ⟨⟨cs',h1⟩,h2⟩:=hmw.pres.box id cs h;have e:=hfix id (by simp [h]);exact ⟨⟨_,by rw [qD hs,e,h1]; rfl⟩,by show κ (sw a b id)=_; rw [e]; exact h2⟩
 ·obtain ⟨L',h1,h2,h3,h4⟩:=hmw.pres.row id L sz e h;have e':=hfix id (by simp [h]);refine ⟨_,by rw [qD hs,e',h1]; rfl,by simpa using h2,fun hl=>?_,fun k C hne hC=>?_⟩
  ·have:=h3 (by simpa using hl);refine ⟨?_,this.2⟩;show κ (sw a b id)=_;rw [e']; exact this.1
  ·have e1:=zaY hs hC;rw [qQ hs];exact (h4 (by rw [← e']; exact k) C hne e1).imp (fun ⟨e2,e3⟩=>⟨hC.trans (e1.symm.trans e2),e3⟩) fun h=>h
 ·rw [qQ hs]; exact hmw.pres.cell c o v hl hc
 ·rw [qD hs] at h1;exact hmw.new (sw a b id) c (by simpa using h1) h2
 ·rw [yV,Option.map_eq_some_iff] at hx;obtain ⟨y,hy,rfl⟩:=hx;obtain ⟨g1,g2⟩:=hr.tmps t y hy;exact ⟨g1,Rep.ren hs g2⟩
theorem zx.ren {k0:List Nat} {z:Option Nat} {A:Fr} {m:XM} {F2:Fr} {m2:XM} (a b:Nat) (ha:k0.contains a=false) (hb:k0.contains b=false)
  (h:zH k0 z (mapL (renP (sw a b)) A) (renX (sw a b) m) F2 m2):zH k0 (some 3) A m F2 m2:=fun W0 F K hA hK=>by
 refine z7.trans (z7.ren a b ha hb (K:=fun F' m'=>z7 W0 k0 F' m' K) ?_) fun _ _ h=>h
 rw [← JD];refine yU (A:=mapL (renP (sw a b)) A) (fun t=>?_) h hK;rw [yV,yV,hA t]
def NR1 (id:Nat) (x y:PV):Prop:=y=x∨(x = .nil∧y = .own id 0)
def NRA (id:Nat) (x y:PV):Prop:=NR1 id x y∨∃ cs ds,x = .agg cs∧y = .agg ds∧za (NR1 id) cs ds
def NRB (id:Nat) (x y:Blk):Prop:=y=x∨∃ cs ds,x = .box cs∧y = .box ds∧za (NR1 id) cs ds
theorem z7.nil {W0:World} {k0:List Nat} {F F2:Fr} {m m2:Mem} {K:Fr→Mem→Prop} (id sz:Nat) (e:TypeId) (hid:lk m id=none) (h0:0 < sz)
  (hF:∀ t x,lk F2 t=some x→∃ y,lk F t=some y∧NRA id y x) (hm:∀ i b,lk m2 i=some b→∃ c,lk m i=some c∧NRB id c b) (hm':∀ i,(lk m i).isSome=true→(lk m2 i).isSome=true)
  (hK:K F2 ((id,.row [] sz e)::m2)):z7 W0 k0 F m K:=by
 intro w0 κ0 m0 N κ act w hk0 hr;have hmw:=hr.mw;have hW:=hr.big;obtain ⟨g1,g2⟩:=hmw.noRow hW hid e h0;have hid2:lk m2 id=none:=by
  cases hh:lk m2 id with
  | none=>rfl
  | some b=>obtain ⟨c,h1,_⟩:=hm id b hh; rw [hid] at h1; cases h1
 have hlk:∀ i,i≠id→lk ((id,Blk.row [] sz e)::m2) i=lk m2 i:=fun i hi=>by rw [zr,if_neg hi]
 have hlk':∀ i,i≠id→lk ((id,Blk.row [] sz e)::m) i=lk m i:=fun i hi=>by rw [zr,if_neg hi]
 have hso:∀ i,(lk ((id,Blk.row [] sz e)::m2) i).isSome=(lk ((id,Blk.row [] sz e)::m) i).isSome:=fun i=>by
  by_cases hi:i=id
  ·subst hi; simp [zr]
  ·rw [hlk i hi,hlk' i hi];cases h1:lk m2 i with
   | some b=>obtain ⟨c,h2,_⟩:=hm i b h1; rw [h2]; rfl
   | none =>
    cases h2:lk m i with
    | none=>rfl
    | some c=>have:=hm' i (by rw [h2]; rfl); rw [h1] at this; cases this
 have hown:∀ b,Own (zp κ id none) ((id,Blk.row [] sz e)::m2) b↔Own (zp κ id none) ((id,Blk.row [] sz e)::m) b:=fun b=>by
  unfold Own; simp only [hso]
 have hlive:zf (zp κ id none) ((id,Blk.row [] sz e)::m2)=zf (zp κ id none) ((id,Blk.row [] sz e)::m):=by
  funext b; unfold zf; rw [hown b]
 have hC:∀ {y:CV} {v:Value},RepC w (zf (zp κ id none) ((id,Blk.row [] sz e)::m)) y v→RepC w (zf (zp κ id none) ((id,Blk.row [] sz e)::m2)) y v:=fun h=>by rw [hlive]; exact h
 have key1:∀ {x y:PV} {v:Value},NR1 id x y→zb (zp κ id none) ((id,Blk.row [] sz e)::m) w x v→zb (zp κ id none) ((id,Blk.row [] sz e)::m2) w y v:=by
  intro x y v hn h;rcases hn with rfl | ⟨rfl,rfl⟩
  ·cases y with
   | c x =>
    cases x with
    | agg=>exact h.elim
    | tup=>exact h.elim
    | sc u=>exact hC (y := .sc u) h
    | row L=>exact hC (y := .row L) h
   | nil=>exact h
   | np=>exact h
   | ptr i off =>
    obtain ⟨b,cs,h1,h2,h3⟩:=h;have hi:i≠id:=by rintro rfl; simp [zr] at h1
    rw [hlk' i hi] at h1;obtain ⟨c,hc⟩:=Option.isSome_iff_exists.1 (hm' i (by rw [h1]; rfl));obtain ⟨c',h4,h5⟩:=hm i c hc;rw [h1] at h4; cases h4;rcases h5 with rfl | ⟨cs',ds,h6,rfl,_⟩
    ·exact ⟨b,cs,by rw [hlk i hi]; exact hc,h2,h3⟩
    ·exact ⟨b,ds,by rw [hlk i hi]; exact hc,h2,h3⟩
   | own i n =>
    obtain ⟨h1,h2,L,s,e',h3,h4,h5⟩:=h;refine ⟨h1,h2,L,s,e',?_,h4,h5.1,fun k C hne hC' hl=>hC (h5.2 k C hne hC' hl)⟩;by_cases hi:i=id
    ·subst hi; simp only [zr,if_true] at h3 ⊢; exact h3
    ·rw [hlk' i hi] at h3;rw [hlk i hi];obtain ⟨c,hc⟩:=Option.isSome_iff_exists.1 (hm' i (by rw [h3]; rfl));obtain ⟨c',h6,h7⟩:=hm i c hc;rw [h3] at h6; cases h6;rcases h7 with rfl | ⟨_,_,h8,_,_⟩
     ·exact hc
     ·cases h8
   | ep x off =>
    obtain ⟨b,o,vs,h1,h2,h3,hp,h4⟩:=h;exact ⟨b,o,vs,h1,by rw [hlive]; exact h2,h3,hp,fun i y u hy hu=>⟨hC (h4 i y u hy hu).1,(h4 i y u hy hu).2⟩⟩
   | eo i n j off =>
    obtain ⟨h1,L,s,e',h3,h4,h5⟩:=h;refine ⟨h1,L,s,e',?_,h4,h5⟩;by_cases hi:i=id
    ·subst hi; simp only [zr,if_true] at h3 ⊢; exact h3
    ·rw [hlk' i hi] at h3;rw [hlk i hi];obtain ⟨c,hc⟩:=Option.isSome_iff_exists.1 (hm' i (by rw [h3]; rfl));obtain ⟨c',h6,h7⟩:=hm i c hc;rw [h3] at h6; cases h6;rcases h7 with rfl | ⟨_,_,h8,_,_⟩
     ·exact hc
     ·cases h8
   | sl i n j off =>
    obtain ⟨h1,L,s,e',h3,h4,h5⟩:=h;refine ⟨h1,L,s,e',?_,h4,h5⟩;by_cases hi:i=id
    ·subst hi; simp only [zr,if_true] at h3 ⊢; exact h3
    ·rw [hlk' i hi] at h3;rw [hlk i hi];obtain ⟨c,hc⟩:=Option.isSome_iff_exists.1 (hm' i (by rw [h3]; rfl));obtain ⟨c',h6,h7⟩:=hm i c hc;rw [h3] at h6; cases h6;rcases h7 with rfl | ⟨_,_,h8,_,_⟩
     ·exact hc
     ·cases h8
   | fn g ids =>
    obtain ⟨bs,h1,h2⟩:=h;refine ⟨bs,h1,h2.imp fun i b ⟨⟨cs,h3⟩,h4⟩=>⟨?_,h4⟩⟩;have hi:i≠id:=by rintro rfl; simp [zr] at h3
    rw [hlk' i hi] at h3;obtain ⟨c,hc⟩:=Option.isSome_iff_exists.1 (hm' i (by rw [h3]; rfl));obtain ⟨c',h5,h6⟩:=hm i c hc;rw [h3] at h5; cases h5;rcases h6 with rfl | ⟨cs',ds,h7,rfl,_⟩
    ·exact ⟨_,by rw [hlk i hi]; exact hc⟩
    ·exact ⟨_,by rw [hlk i hi]; exact hc⟩
   | agg=>exact h.elim
   | tup=>exact h.elim
  ·obtain ⟨o,rfl⟩:=h;refine ⟨⟨_,_,rfl,Nat.zero_le _⟩,Nat.zero_le _,[],sz,e,by simp [zr],Nat.le_refl _,fun _=>?_,.no (Nat.zero_le _)⟩;simp [zX,zp]
 have keyL:∀ {cs ds:List PV} {vs:List Value},za (NR1 id) cs ds→za (zb (zp κ id none) ((id,Blk.row [] sz e)::m) w) cs vs→za (zb (zp κ id none) ((id,Blk.row [] sz e)::m2) w) ds vs:=by
  intro cs;induction cs with
  | nil=>intro ds vs h1 h2; cases ds with | nil=>(cases vs with | nil=>trivial | cons=>exact h2.elim) | cons=>exact h1.elim
  | cons c cs ih =>
   intro ds vs h1 h2;cases ds with
   | nil=>exact h1.elim
   | cons d ds=>cases vs with
    | nil=>exact h2.elim
    | cons v vs=>exact ⟨key1 h1.1 h2.1,ih h1.2 h2.2⟩
 have all_refl:∀ cs:List PV,za (NR1 id) cs cs:=fun cs=>by
  induction cs with
  | nil=>trivial
  | cons c cs ih=>exact ⟨.inl rfl,ih⟩
 have keyA:∀ {x y:PV} {v:Value},NRA id x y→zg (zp κ id none) ((id,Blk.row [] sz e)::m) w x v→zg (zp κ id none) ((id,Blk.row [] sz e)::m2) w y v:=by
  intro x y v hn h;rcases hn with hn | ⟨cs,ds,rfl,rfl,hn⟩
  ·rcases hn with rfl | ⟨rfl,rfl⟩
   ·cases y with
    | agg cs=>obtain ⟨vs,h1,h2⟩:=h; exact ⟨vs,h1,keyL (all_refl cs) h2⟩
    | c x =>
     cases x with
     | agg cs=>exact hC (y := .agg cs) h
     | sc u=>exact key1 (x := .c (.sc u)) (.inl rfl) h
     | row u=>exact key1 (x := .c (.row u)) (.inl rfl) h
     | tup u=>exact h.elim
    | nil=>exact key1 (x := .nil) (.inl rfl) h
    | np=>exact key1 (x := .np) (.inl rfl) h
    | ptr a b=>exact key1 (x := .ptr a b) (.inl rfl) h
    | own a b=>exact key1 (x := .own a b) (.inl rfl) h
    | ep a b=>exact key1 (x := .ep a b) (.inl rfl) h
    | eo a b c d=>exact key1 (x := .eo a b c d) (.inl rfl) h
    | sl a b c d=>exact key1 (x := .sl a b c d) (.inl rfl) h
    | fn a b=>exact key1 (x := .fn a b) (.inl rfl) h
    | tup a=>exact h.elim
   ·exact key1 (x := .nil) (y := .own id 0) (.inr ⟨rfl,rfl⟩) h
  ·obtain ⟨vs,h1,h2⟩:=h;exact ⟨vs,h1,keyL hn h2⟩
 have keyAL:∀ {cs:List PV} {vs:List Value},za (zg (zp κ id none) ((id,Blk.row [] sz e)::m) w) cs vs→za (zg (zp κ id none) ((id,Blk.row [] sz e)::m2) w) cs vs:=fun h=>h.imp fun _ _ h=>keyA (.inl (.inl rfl)) h
 refine ⟨zp κ id none,F2,_,⟨⟨⟨fun i b hb=>?_,fun i j b hi hj=>g1.mem.inj i j b (by rw [← hso]; exact hi) (by rw [← hso]; exact hj),g1.mem.sb,fun i b hi=>g1.mem.sd i b (by rw [← hso]; exact hi)⟩,fun b hb=>g1.low b (by rw [← hlive]; exact hb),
  ⟨fun i cs hb=>?_,fun i L s e' hb=>?_,fun b o v hl hc=>by rw [hlive]; exact g1.pres.cell b o v hl hc⟩,g1.ext,fun i b hi hb=>g1.new i b (by rw [← hso]; exact hi) hb,g1.hS⟩,hr.start,hr.low0,hr.s0,hr.size,hr.defers,fun t x hx=>?_⟩,hK⟩
 ·by_cases hi:i=id
  ·subst hi;simp only [zr,if_true,Option.some.injEq] at hb;subst hb;exact ⟨by simp,h0,.inl ⟨by simp [zp],.inl rfl⟩⟩
  ·rw [hlk i hi] at hb;obtain ⟨c,h1,h2⟩:=hm i b hb;have hB:=g1.mem.blk i c (by rw [hlk' i hi]; exact h1);rcases h2 with rfl | ⟨cs,ds,rfl,rfl,h2⟩
   ·cases b with
    | box cs=>obtain ⟨g,vs,e',q1,q2,q3⟩:=hB; exact ⟨g,vs,e',q1,q2,keyL (all_refl _) q3⟩
    | row L s e' =>
     obtain ⟨q1,q2,q3⟩:=hB;exact ⟨q1,q2,q3.imp (fun h=>h) fun ⟨g,vs,rest,q4,q5,q6⟩=>⟨g,vs,rest,q4,q5,keyL (all_refl _) q6⟩⟩
   ·obtain ⟨g,vs,e',q1,q2,q3⟩:=hB;exact ⟨g,vs,e',q1,q2,keyL h2 q3⟩
 ·obtain ⟨⟨cs',h1⟩,h2⟩:=g1.pres.box i cs hb;by_cases hi:i=id
  ·subst hi; simp [zr] at h1
  ·rw [hlk' i hi] at h1;obtain ⟨c,hc⟩:=Option.isSome_iff_exists.1 (hm' i (by rw [h1]; rfl));obtain ⟨c',h3,h4⟩:=hm i c hc;rw [h1] at h3; cases h3;rcases h4 with rfl | ⟨_,ds,_,rfl,_⟩
   ·exact ⟨⟨_,by rw [hlk i hi]; exact hc⟩,h2⟩
   ·exact ⟨⟨_,by rw [hlk i hi]; exact hc⟩,h2⟩
 ·obtain ⟨L',h1,h2⟩:=g1.pres.row i L s e' hb;refine ⟨L',?_,h2.1,h2.2.1,fun k C hne hC'=>(h2.2.2 k C hne hC').imp (fun h=>h) fun ⟨e1,e2⟩=>⟨e1,fun hh v hv=>hC (e2 hh v hv)⟩⟩;by_cases hi:i=id
  ·subst hi; simp only [zr,if_true] at h1 ⊢; exact h1
  ·rw [hlk' i hi] at h1;rw [hlk i hi];obtain ⟨c,hc⟩:=Option.isSome_iff_exists.1 (hm' i (by rw [h1]; rfl));obtain ⟨c',h3,h4⟩:=hm i c hc;rw [h1] at h3; cases h3;rcases h4 with rfl | ⟨_,_,h5,_,_⟩
   ·exact hc
   ·cases h5
 ·obtain ⟨y,hy,hn⟩:=hF t x hx;obtain ⟨q1,q2⟩:=hr.tmps t y hy;have q2:=Rep.pres g2 q2;refine ⟨q1,?_⟩;rcases hn with hn | ⟨cs,ds,rfl,rfl,hn⟩
  ·rcases hn with rfl | ⟨rfl,rfl⟩
   ·cases x with
    | tup cs=>obtain ⟨vs,h1,h2⟩:=q2; exact ⟨vs,h1,keyAL h2⟩
    | c x =>
     cases x with
     | tup cs=>exact hC (y := .tup cs) q2
     | agg cs=>exact keyA (x := .c (.agg cs)) (.inl (.inl rfl)) q2
     | sc cs=>exact keyA (x := .c (.sc cs)) (.inl (.inl rfl)) q2
     | row cs=>exact keyA (x := .c (.row cs)) (.inl (.inl rfl)) q2
    | nil=>exact keyA (x := .nil) (.inl (.inl rfl)) q2
    | np=>exact keyA (x := .np) (.inl (.inl rfl)) q2
    | ptr a b=>exact keyA (x := .ptr a b) (.inl (.inl rfl)) q2
    | own a b=>exact keyA (x := .own a b) (.inl (.inl rfl)) q2
    | ep a b=>exact keyA (x := .ep a b) (.inl (.inl rfl)) q2
    | eo a b c d=>exact keyA (x := .eo a b c d) (.inl (.inl rfl)) q2
    | sl a b c d=>exact keyA (x := .sl a b c d) (.inl (.inl rfl)) q2
    | fn a b=>exact keyA (x := .fn a b) (.inl (.inl rfl)) q2
    | agg a=>exact keyA (x := .agg a) (.inl (.inl rfl)) q2
   ·exact keyA (x := .nil) (y := .own id 0) (.inl (.inr ⟨rfl,rfl⟩)) q2
  ·exact keyA (x := .agg cs) (y := .agg ds) (.inr ⟨cs,ds,rfl,rfl,hn⟩) q2
theorem zx.trans {k0:List Nat} {z:Option Nat} {A F1 F2:Fr} {m m1 m2:XM} (h1:zx k0 A m F1 m1) (h2:zH k0 z F1 m1 F2 m2):zH k0 (some 3) A m F2 m2:=fun W0 F K hA hK =>
 z7.trans (h1 W0 F (fun F' m'=>F'=F1∧m'=er m1) hA ⟨rfl,rfl⟩) fun F' m' ⟨e1,e2⟩=>by
  subst e1 e2;exact yU (fun _=>rfl) h2 hK
theorem zH.trans {k0:List Nat} {z z':Option Nat} {A F1 F2:Fr} {m m1 m2:XM} (h1:zH k0 z A m F1 m1) (h2:zH k0 z' F1 m1 F2 m2):zH k0 (some 3) A m F2 m2:=fun W0 F K hA hK =>
 z7.trans (yU (K:=fun F' m'=>F'=F1∧m'=er m1) hA h1 ⟨rfl,rfl⟩) fun F' m' ⟨e1,e2⟩=>by
  subst e1 e2;exact yU (fun _=>rfl) h2 hK
theorem zx.nilB {k0:List Nat} {A:Fr} {m:XM} (bx:Nat) (cs cs':List PV) (id:Nat) (e:TypeId) (hb:lkX m bx=some (.box cs)) (hid:lkX m id=none) (hc:za (NR1 id) cs cs') :
  zx k0 A m A ((id,.row [] 1 e)::updX m bx (.box cs')):=fun W0 F K hA hK=>by
 have hb':lk (er m) bx=some (.box cs):=by rw [zL,hb]; rfl
 have hup:er (updX m bx (.box cs'))=upd (er m) bx (.box cs'):=yo;refine z7.nil (F2:=A) (m2:=upd (er m) bx (.box cs')) id 1 e (by rw [zL,hid]; rfl) (by omega) (fun t x hx=>⟨x,by rw [← hA t]; exact hx,.inl (.inl rfl)⟩) (fun i b hi=>?_) (fun i hi=>by rw [Js]; exact hi) ?_
 ·by_cases h:i=bx
  ·subst h;rw [yW hb'] at hi;cases hi;exact ⟨_,hb',.inr ⟨cs,cs',rfl,rfl,hc⟩⟩
  ·rw [Yy h] at hi;exact ⟨b,hi,.inl rfl⟩
 ·have:er ((id,XB.row [] 1 e)::updX m bx (.box cs'))=(id,.row [] 1 e)::upd (er m) bx (.box cs'):=by simp only [er,XB.er,hup]; rfl
  rw [this] at hK; exact hK
theorem nr0 {id:Nat} {x:PV}:NR1 id x x := .inl rfl
theorem nr1 {id:Nat}:NR1 id .nil (.own id 0) := .inr ⟨rfl,rfl⟩
theorem zx.er {k0:List Nat} {A F2:Fr} {m m2 m3:XM} (h:zx k0 A m F2 m2) (e:Go.Proofs.YtmkmldepkponaaaGreatDoor.er m2=Go.Proofs.YtmkmldepkponaaaGreatDoor.er m3):zx k0 A m F2 m3:=fun W0 F K hA hK=>h W0 F K hA (by rw [e]; exact hK)
theorem zH.s {k0:List Nat} {z:Option Nat} {A F2:Fr} {m m2:XM} (h:zH k0 z A m F2 m2):zH k0 (some 3) A m F2 m2:=fun W0 F K hA hK=>yU hA h hK
theorem zmw {m:XM} {i:Nat} (h:lkX m i=none):(m.map (·.1)).contains i=false:=by
 cases hh:(m.map (·.1)).contains i with
 | false=>rfl
 | true =>
  have key:∀ (l:XM) (i:Nat),(l.map (·.1)).contains i=true→lkX l i≠none:=by
   intro l i;induction l with
   | nil=>intro h; cases h
   | cons p l ih =>
    obtain ⟨k,x⟩:=p;intro h;rw [lkX];cases hb:Nat.beq i k with
    | true=>simp
    | false =>
     simp only;refine ih ?_;simp only [List.map_cons,List.contains_cons,Bool.or_eq_true,beq_iff_eq] at h;rcases h with h | h
     ·subst h; simp at hb
     ·exact h
  exact absurd h (key m i hh)
theorem zd4:∀ {m:XM} {i:Nat},(lkX m i).isSome=true→(m.map (·.1)).contains i=true
 | [],i,h=>by cases h
 | (k,x)::l,i,h=>by
  rw [lkX] at h;cases hb:Nat.beq i k with
  | true=>have:=Nat.eq_of_beq_eq_true hb; subst this; simp
  | false=>rw [hb] at h; have:=zd4 (m:=l) h; simp only [List.map_cons,List.contains_cons,this,Bool.or_true]
def PushX (k0:List Nat) (rid id:Nat) (L:List CV) (A:Fr) (m:XM) (F2:Fr) (m3:XM):Prop:=match lkX m3 id,lkX m3 rid with
 | none,none=>match Nat.beq rid id,k0.contains id,k0.all (fun i=>Nat.beq i rid||(lkX m3 i).isSome),m3.all (fun p=>inBX ((rid,.box [])::m3) p.2),F2.all (fun p=>inPX ((rid,.box [])::m3) p.2) with
  | false,false,true,true,true=>zH.eqF A (some (id,L)) F2 (zH.eqM m (some (id,L)) m3 True)
  | _,_,_,_,_=>False
 | _,_=>False
theorem zlT {m m':XM} (h:∀ i,(lkX m i).isSome=(lkX m' i).isSome):(∀ v,inPX m v=inPX m' v)∧∀ b,inBX m b=inBX m' b:=by
 have h1:∀ v,in1X m v=in1X m' v:=fun v=>by cases v<;>simp [in1X,h]
 have h1':in1X m=in1X m':=funext h1;have h2:∀ v,inAX m v=inAX m' v:=fun v=>by
  cases v with
  | agg cs=>simp only [inAX,h1']
  | _=>simp only [inAX,h1']
 have h2':inAX m=inAX m':=funext h2;refine ⟨fun v=>?_,fun b=>?_⟩
 ·cases v with
  | tup cs=>simp only [inPX,h2']
  | _=>simp only [inPX,h2']
 ·cases b with
  | box cs=>simp only [inBX,h1']
  | rowP L e=>simp only [inBX,h1']
  | _=>rfl
theorem zx.push {k0:List Nat} {A F2:Fr} {m m3:XM} {C L:List CV} {n sz:Nat} {e e':TypeId} (rid id:Nat) (hr:lkX m rid=some (.rowP (C.map .c++[.own id n]) e)) (hl:lkX m id=some (.row L sz e')) (hn:L.length=n) (h:PushX k0 rid id L A m F2 m3) :
  zx k0 A m F2 ((rid,.row (C++[.row L]) 1 e)::m3):=fun W0 F K hA hK=>by
 unfold PushX at h;split at h
 case h_2=>exact h.elim
 rename_i hn1 hn2;split at h
 case h_2=>exact h.elim
 rename_i hne hk hk0 hm3 hF2;obtain ⟨f1,h⟩:=zaA h;obtain ⟨f2,_⟩:=zaC h;have eF:=za1 hA f1;have eM:=za2 f2;have hz:qT (some (id,L))=some (id,(L.map PV.c).length,L):=by simp [qT]
 rw [hz] at eF eM;have hrid:rid≠id:=Nat.ne_of_beq_eq_false hne;have eR:mapL (frB (some (id,(L.map PV.c).length,L))) (jB (Go.Proofs.YtmkmldepkponaaaGreatDoor.er m) (rid::m3.map (·.1)))=Go.Proofs.YtmkmldepkponaaaGreatDoor.er ((rid,.row (C++[.row L]) 1 e)::m3):=by
  have e1:lk (Go.Proofs.YtmkmldepkponaaaGreatDoor.er m) rid=some (.row (C.map .c++[.own id n]) 1 e):=by rw [zL,hr]; rfl
  simp only [jB,e1,mapL,List.map_cons] at eM ⊢;rw [eM];simp only [Go.Proofs.YtmkmldepkponaaaGreatDoor.er,XB.er,frB,List.map_append,List.map_map,List.map_cons,List.map_nil];have e2:frA (some (id,(L.map PV.c).length,L)) (.own id n) = .c (.row L):=by simp [frA,fr1,hn]
  have e3:(frA (some (id,(L.map PV.c).length,L))) ∘ PV.c=PV.c:=rfl;rw [e2,e3]
 have dom:∀ i,(lkX ((rid,XB.box [])::m3) i).isSome=(lkX ((rid,XB.row (C++[.row L]) 1 e)::m3) i).isSome:=fun i=>by
  simp only [lkX]; split<;>rfl
 obtain ⟨d1,d2⟩:=zlT dom;refine z7.of (l:=[⟨some id,F2.map (·.1),rid::m3.map (·.1)⟩]) ?_;show Tr.on k0 _ F (Go.Proofs.YtmkmldepkponaaaGreatDoor.er m) K;unfold Tr.on;simp only [];refine ⟨hk,?_,?_⟩
 ·rw [List.contains_cons,zmw hn1];simp [Ne.symm hrid]
 ·simp only [zL,hl,Option.map_some,XB.er];refine zq (JZ L) ?_;unfold Tr.go;rw [eR,eF];refine ⟨?_,?_,?_,hK⟩
  ·rw [List.all_eq_true] at hk0 ⊢;intro i hi;have:=hk0 i hi;rw [Bool.or_eq_true] at this;rw [List.contains_cons];rcases this with h | h
   ·rw [Nat.eq_of_beq_eq_true h]; simp
   ·rw [zd4 h,Bool.or_true]
  ·refine Qi ?_;unfold inMX;rw [List.all_cons];rw [Bool.and_eq_true];refine ⟨rfl,?_⟩;rw [← hm3]
   congr 1
   funext p;exact (d2 p.2).symm
  ·rw [List.all_eq_true] at hF2 ⊢;intro p hp;rw [← Jq,← d1]; exact hF2 p hp
theorem MemOk.gone {κ:Kap} {m:Mem} {w:World} (hm:MemOk κ m w) {id sz:Nat} {C:List CV} {e:TypeId} (hl:lk m id=some (.row (zI sz C) sz e)):κ id=none:=by
 obtain ⟨_,h0,h⟩:=hm.blk id _ hl;rcases h with ⟨h,_⟩ | ⟨b,vs,rest,_,_,h⟩
 ·exact h
 ·exfalso;have hd:yt sz∈zI sz C:=by
   unfold zI ZD;exact List.mem_append_right _ (List.mem_replicate.2 ⟨by omega,rfl⟩)
  have hc:PV.tup []∈(zI sz C).flatMap PV.cells:=by
   refine List.mem_flatMap.2 ⟨_,hd,?_⟩;cases sz with
   | zero=>omega
   | succ n=>exact List.mem_replicate.2 ⟨by omega,rfl⟩
  obtain ⟨i,hi⟩:=List.mem_iff_getElem?.1 hc;obtain ⟨v,_,hv⟩:=h.get i _ hi;exact hv
end Go.Proofs.YtmkmldepkponaaaGreatDoor
