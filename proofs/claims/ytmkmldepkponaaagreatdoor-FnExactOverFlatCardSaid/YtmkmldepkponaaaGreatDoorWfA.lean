/- The texts Ka1, joined; no condition. -/
import Derived.WalkKit

namespace Go.Proofs.YtmkmldepkponaaaGreatDoor
set_option linter.unusedSimpArgs false
set_option linter.unusedVariables false
open Go Go.RowKit
def za {α β:Type} (R:α→β→Prop):List α→List β→Prop
 | [],[]=>True
 | a::l,b::k=>R a b∧za R l k
 | _,_=>False
theorem za.length {α β:Type} {R:α→β→Prop}:∀ {l:List α} {k:List β},za R l k→l.length=k.length
 | [],[],_=>rfl
 | _::_,_::_,h=>by simp [za.length h.2]
 | [],_::_,h=>h.elim
 | _::_,[],h=>h.elim
theorem za.imp {α β:Type} {R S:α→β→Prop} (hi:∀ a b,R a b→S a b):∀ {l:List α} {k:List β},za R l k→za S l k
 | [],[],_=>trivial
 | _::_,_::_,h=>⟨hi _ _ h.1,za.imp hi h.2⟩
 | [],_::_,h=>h.elim
 | _::_,[],h=>h.elim
theorem za.imp_mem {α β:Type} {R S:α→β→Prop}:∀ {l:List α} {k:List β},(∀ a b,a∈l→b∈k→R a b→S a b)→za R l k→za S l k
 | [],[],_,_=>trivial
 | _::_,_::_,hi,h=>⟨hi _ _ (by simp) (by simp) h.1,za.imp_mem (fun a b ha hb=>hi a b (by simp [ha]) (by simp [hb])) h.2⟩
 | [],_::_,_,h=>h.elim
 | _::_,[],_,h=>h.elim
theorem za.get {α β:Type} {R:α→β→Prop}:∀ {l:List α} {k:List β},za R l k→∀ (i:Nat) (a:α),l[i]? = some a→∃ b,k[i]? = some b∧R a b
 | [],[],_,i,a,h=>by simp at h
 | x::l,y::k,h,0,a,ha=>by
  simp at ha; subst ha; exact ⟨y,by simp,h.1⟩
 | x::l,y::k,h,i+1,a,ha=>by
  simp at ha; obtain ⟨b,hb,hr⟩:=za.get h.2 i a ha; exact ⟨b,by simp [hb],hr⟩
 | [],_::_,h,_,_,_=>h.elim
 | _::_,[],h,_,_,_=>h.elim
theorem za.of_get {α β:Type} {R:α→β→Prop}:∀ {l:List α} {k:List β},l.length=k.length→(∀ (i:Nat) (a:α) (b:β),l[i]? = some a→k[i]? = some b→R a b)→za R l k
 | [],[],_,_=>trivial
 | a::l,b::k,hl,h=>⟨h 0 a b rfl rfl,za.of_get (by simpa using hl) fun i x y hx hy=>h (i+1) x y (by simpa using hx) (by simpa using hy)⟩
 | [],_::_,hl,_=>by simp at hl
 | _::_,[],hl,_=>by simp at hl
theorem za.append {α β:Type} {R:α→β→Prop}:∀ {l:List α} {k:List β} {l':List α} {k':List β},za R l k→za R l' k'→za R (l++l') (k++k')
 | [],[],_,_,_,h=>h
 | _::_,_::_,_,_,h,h'=>⟨h.1,za.append h.2 h'⟩
 | [],_::_,_,_,h,_=>h.elim
 | _::_,[],_,_,h,_=>h.elim
theorem za.take {α β:Type} {R:α→β→Prop}:∀ {l:List α} {k:List β} (n:Nat),za R l k→za R (l.take n) (k.take n)
 | _,_,0,_=>by simp [za]
 | [],[],_+1,_=>by simp [za]
 | _::_,_::_,n+1,h=>by simp only [List.take_succ_cons]; exact ⟨h.1,za.take n h.2⟩
 | [],_::_,_+1,h=>h.elim
 | _::_,[],_+1,h=>h.elim
theorem za.drop {α β:Type} {R:α→β→Prop}:∀ {l:List α} {k:List β} (n:Nat),za R l k→za R (l.drop n) (k.drop n)
 | _,_,0,h=>by simpa using h
 | [],[],_+1,_=>by simp [za]
 | _::_,_::_,n+1,h=>by simp only [List.drop_succ_cons]; exact za.drop n h.2
 | [],_::_,_+1,h=>h.elim
 | _::_,[],_+1,h=>h.elim
theorem za.map_left {α β γ:Type} {R:α→β→Prop} (f:γ→α):∀ {l:List γ} {k:List β},za (fun c b=>R (f c) b) l k→za R (l.map f) k
 | [],[],_=>trivial
 | _::_,_::_,h=>⟨h.1,za.map_left f h.2⟩
 | [],_::_,h=>h.elim
 | _::_,[],h=>h.elim
theorem za.of_map_left {α β γ:Type} {R:α→β→Prop} (f:γ→α):∀ {l:List γ} {k:List β},za R (l.map f) k→za (fun c b=>R (f c) b) l k
 | [],[],_=>trivial
 | _::_,_::_,h=>⟨h.1,za.of_map_left f h.2⟩
 | [],_::_,h=>h.elim
 | _::_,[],h=>h.elim
def lk {α:Type}:List (Nat × α)→Nat→Option α
 | [],_=>none
 | (k,x)::l,t=>if t=k then some x else lk l t
theorem zr {α:Type} (k:Nat) (x:α) (l:List (Nat × α)) (t:Nat):lk ((k,x)::l) t=if t=k then some x else lk l t:=rfl
inductive CV where
 | sc (v:Value)
 | row (L:List CV)
 | agg (cs:List CV)
 | tup (cs:List CV)
def CV.cells:CV→List CV
 | .agg cs=>cs
 | x=>[x]
def wfv:Value→Prop
 | .int k n=>k.min≤n∧n≤k.max
 | .string s=>s.size≤maxLen
 | .bool _ | .nilFunc | .func ..=>True
 | _=>False
inductive RepC (w:World) (S:Nat→Prop):CV→Value→Prop where
 | sc {v:Value}:wfv v→RepC w S (.sc v) v
 | agg {cs:List CV} {vs:List Value}:cs.length=vs.length→(∀ (i:Nat) (x:CV) (v:Value),cs[i]? = some x→vs[i]? = some v→RepC w S x v) →
   (∀ v∈vs,v.oneCell'=true)→RepC w S (.agg cs) (.agg vs.toArray)
 | tup {cs:List CV} {vs:List Value}:cs.length=vs.length→(∀ (i:Nat) (x:CV) (v:Value),cs[i]? = some x→vs[i]? = some v→RepC w S x v)→RepC w S (.tup cs) (.tuple vs.toArray)
 | nil {o:Option Addr} {cap:Nat}:cap≤maxLen→RepC w S (.row []) (.slice o 0 cap)
 | row {L:List CV} {b off cap sz:Nat} {vs:List Value}:L≠[]→0 < sz→L.length≤cap→cap≤maxLen→¬ S b→(∀ x∈L,x.cells.length=sz) →
   (L.flatMap CV.cells).length=vs.length→(∀ (i:Nat) (x:CV) (v:Value),(L.flatMap CV.cells)[i]? = some x→vs[i]? = some v→RepC w S x v) →
   (∀ v∈vs,v.oneCell'=true)→(∀ (j:Nat) (v:Value),vs[j]? = some v→w.cell? ⟨b,off+j,none⟩=some v) →
   RepC w S (.row L) (.slice (some ⟨b,off,none⟩) L.length cap)
theorem Qc {L:List CV} {sz:Nat} (h:∀ x∈L,x.cells.length=sz):(L.flatMap CV.cells).length=L.length * sz:=by
 induction L with
 | nil=>simp
 | cons a l ih =>
  simp only [List.flatMap_cons,List.length_append,List.length_cons,h a (by simp),ih (fun x hx=>h x (by simp [hx])),Nat.add_mul];omega
theorem RepC.mono {w w':World} {S S':Nat→Prop} (h:∀ b o v,¬ S b→w.cell? ⟨b,o,none⟩=some v→¬ S' b∧w'.cell? ⟨b,o,none⟩=some v)
  {x:CV} {v:Value} (r:RepC w S x v):RepC w' S' x v:=by
 induction r with
 | sc hv=>exact .sc hv
 | agg hl _ h1 ih=>exact .agg hl ih h1
 | tup hl _ ih=>exact .tup hl ih
 | nil hc=>exact .nil hc
 | @row L b off cap sz vs hne h0 hlc hcm hS hsz hl _ h1 hc ih =>
  have hb:¬ S' b:=by
   cases vs with
   | nil =>
    rw [Qc hsz] at hl;cases L with
    | nil=>exact absurd rfl hne
    | cons a l=>simp only [List.length_cons,Nat.add_mul,List.length_nil] at hl; omega
   | cons v vs=>exact (h b (off+0) v hS (hc 0 v rfl)).1
  exact .row hne h0 hlc hcm hb hsz hl ih h1 fun j v hj=>(h b _ v hS (hc j v hj)).2
theorem zb5 {v:Value} (h:wfv v):v.oneCell'=true:=by cases v<;>first|rfl|exact h.elim
inductive PV where
 | c (x:CV)
 | nil
 | np
 | ptr (id off:Nat)
 | own (id n:Nat)
 | ep (x:CV) (off:Nat)
 | eo (id n i off:Nat)
 | sl (id n lo s:Nat)
 | fn (g:FuncId) (ids:List Nat)
 | agg (cs:List PV)
 | tup (cs:List PV)
inductive Blk where
 | box (cells:List PV)
 | row (L:List PV) (sz:Nat) (e:TypeId)
abbrev Mem:=List (Nat × Blk)
def PV.cells:PV→List PV
 | .c x=>x.cells.map .c
 | .agg cs=>cs
 | y=>[y]
def yt:Nat→PV
 | 0 => .nil
 | n+1 => .agg (List.replicate (n+1) (.tup []))
@[irreducible] def ZD (sz:Nat):List PV:=List.replicate (maxLen+1) (yt sz)
theorem zkb (sz:Nat):(ZD sz).length=maxLen+1:=by unfold ZD; rw [List.length_replicate]
theorem zcD {sz:Nat} {x:PV} (h:x∈ZD sz):x=yt sz:=by unfold ZD at h; exact (List.mem_replicate.1 h).2
def zI (sz:Nat) (C:List CV):List PV:=C.map .c++ZD sz
theorem Jn (sz:Nat) (C:List CV):(zI sz C).length=C.length+maxLen+1:=by unfold zI; rw [List.length_append,List.length_map,zkb]; omega
theorem Jo {sz:Nat} {L:List PV} (h:∃ C,L=zI sz C):maxLen < L.length:=by obtain ⟨C,rfl⟩:=h; rw [Jn]; omega
theorem zlP {sz:Nat} {C:List CV}:([]:List PV)≠zI sz C:=fun h=>by
 have:=congrArg List.length h;rw [Jn] at this;simp at this
theorem zlO {sz:Nat} {C D:List CV} (h:zI sz C=zI sz D):C=D:=by
 unfold zI at h;have:=List.append_cancel_right h;exact (List.map_inj_right (fun _ _ e=>by cases e; rfl)).1 this
theorem zdV {sz:Nat} {C:List CV} {x:PV} (h:x∈zI sz C):(∃ c,x = .c c)∨x=yt sz:=by
 unfold zI at h;rcases List.mem_append.1 h with h | h
 ·obtain ⟨c,_,rfl⟩:=List.mem_map.1 h; exact .inl ⟨c,rfl⟩
 ·exact .inr (zcD h)
theorem zdU {sz:Nat} {C:List CV} {f:PV→PV} (h:f (yt sz)=yt sz) (hc:∀ c,f (.c c) = .c c):(zI sz C).map f=zI sz C:=by
 conv=>rhs; rw [← List.map_id (zI sz C)]
 exact List.map_congr_left fun x hx=>by
  rcases zdV hx with ⟨c,rfl⟩|rfl
  ·exact hc c
  ·exact h
structure Kap where
 f:Nat→Option Nat
 S:Nat→Prop
instance:CoeFun Kap (fun _=>Nat→Option Nat):=⟨Kap.f⟩
def Own (κ:Kap) (m:Mem) (b:Nat):Prop:=∃ id,(lk m id).isSome=true∧κ id=some b
def zf (κ:Kap) (m:Mem) (b:Nat):Prop:=κ.S b∨Own κ m b
def zX (κ:Kap) (w:World) (id n sz:Nat) (v:Value):Prop :=
 match κ id with
 | none=>∃ o,v = .slice o 0 0
 | some b=>∃ cap arr e,v = .slice (some ⟨b,0,none⟩) n cap∧n≤cap∧cap≤maxLen∧w.heap[b]? = some (.cells arr e (0,0))∧arr.size=cap * sz
def JO (κ:Kap) (m:Mem) (w:World) (id n sz:Nat) (L:List PV) (v:Value):Prop:=κ id=none→∀ C,C≠[]→L=zI sz C→n=C.length→RepC w (zf κ m) (.row C) v
theorem JO.no {κ:Kap} {m:Mem} {w:World} {id n sz:Nat} {L:List PV} {v:Value} (h:L.length≤maxLen):JO κ m w id n sz L v:=fun _ C _ e=>by
 have:=Jn sz C;rw [← e] at this;omega
def zb (κ:Kap) (m:Mem) (w:World):PV→Value→Prop
 | .c (.agg _),_ | .c (.tup _),_=>False
 | .c x,v=>RepC w (zf κ m) x v
 | .nil,v=>∃ o,v = .slice o 0 0
 | .np,v=>v = .pointer none
 | .ptr id off,v=>∃ b cs,lk m id=some (.box cs)∧κ id=some b∧v = .pointer (some ⟨b,off,none⟩)
 | .own id n,v=>(∃ a c,v = .slice a n c∧c≤maxLen)∧n≤maxLen∧∃ L sz e,lk m id=some (.row L sz e)∧n≤L.length∧(L.length=n→zX κ w id n sz v)∧JO κ m w id n sz L v
 | .ep x off,v=>∃ (b o:Nat) (vs:List Value),v = .pointer (some ⟨b,o+off,none⟩)∧¬ zf κ m b∧x.cells.length=vs.length∧0 < vs.length ∧
   (∀ (i:Nat) (y:CV) (u:Value),x.cells[i]? = some y→vs[i]? = some u→RepC w (zf κ m) y u∧u.oneCell'=true∧w.cell? ⟨b,o+i,none⟩=some u)
 | .eo id n i off,v=>(∃ a,v = .pointer (some a))∧∃ L sz e,lk m id=some (.row L sz e)∧n≤L.length∧(L.length=n→∃ b,κ id=some b∧v = .pointer (some ⟨b,i * sz+off,none⟩))
 | .sl id n lo s,v=>(∃ a c,v = .slice a (n - lo) c∧n≤maxLen)∧∃ L sz e,lk m id=some (.row L sz e)∧n≤L.length∧(L.length=n→lo < n→∃ b c,κ id=some b∧v = .slice (some ⟨b,lo * s,none⟩) (n - lo) c)
 | .fn g ids,v=>∃ bs:List Nat,v = .func (.func g) #[] (bs.map fun b=>Value.pointer (some ⟨b,0,none⟩)).toArray∧za (fun id b=>(∃ cs,lk m id=some (.box cs))∧κ id=some b) ids bs
 | .agg _,_ | .tup _,_=>False
def zg (κ:Kap) (m:Mem) (w:World):PV→Value→Prop
 | .agg cs,v=>∃ vs:List Value,v = .agg vs.toArray∧za (zb κ m w) cs vs
 | .c (.agg cs),v=>RepC w (zf κ m) (.agg cs) v
 | x,v=>zb κ m w x v
def Rep (κ:Kap) (m:Mem) (w:World):PV→Value→Prop
 | .tup cs,v=>∃ vs:List Value,v = .tuple vs.toArray∧za (zg κ m w) cs vs
 | .c (.tup cs),v=>RepC w (zf κ m) (.tup cs) v
 | x,v=>zg κ m w x v
theorem RepC.one {w:World} {S:Nat→Prop} {x:CV} {v:Value} (h:RepC w S x v) (ha:∀ cs,x ≠ .agg cs) (ht:∀ cs,x ≠ .tup cs):v.oneCell'=true:=by
 cases h with
 | sc hv=>exact zb5 hv
 | agg=>exact absurd rfl (ha _)
 | tup=>exact absurd rfl (ht _)
 | nil=>rfl
 | row=>rfl
theorem zb.one {κ:Kap} {m:Mem} {w:World} {x:PV} {v:Value} (h:zb κ m w x v):v.oneCell'=true:=by
 cases x with
 | c x =>
  cases x with
  | agg=>exact h.elim
  | tup=>exact h.elim
  | sc v=>exact RepC.one h (by simp) (by simp)
  | row L=>exact RepC.one h (by simp) (by simp)
 | nil=>obtain ⟨o,rfl⟩:=h; rfl
 | np=>cases h; rfl
 | ptr id off=>obtain ⟨_,_,_,_,rfl⟩:=h; rfl
 | own id n=>obtain ⟨⟨_,_,rfl,_⟩,_⟩:=h; rfl
 | ep x off=>obtain ⟨_,_,_,rfl,_⟩:=h; rfl
 | eo id n i off=>obtain ⟨⟨_,rfl⟩,_⟩:=h; rfl
 | sl id n lo s=>obtain ⟨⟨_,_,rfl,_⟩,_⟩:=h; rfl
 | fn g ids=>obtain ⟨_,rfl,_⟩:=h; rfl
 | agg=>exact h.elim
 | tup=>exact h.elim
def jK (κ:Kap) (m:Mem) (w:World) (id:Nat):Blk→Prop
 | .box cs=>∃ b vs e,κ id=some b∧w.heap[b]? = some (.cells (List.toArray vs) e (0,0))∧za (zb κ m w) cs vs
 | .row L sz e=>(∀ x∈L,x.cells.length=sz)∧0 < sz∧((κ id=none∧(L=[]∨∃ C,L=zI sz C)) ∨
   ∃ b vs rest,κ id=some b∧w.heap[b]? = some (.cells (List.toArray (vs++rest)) e (0,0))∧za (zb κ m w) (L.flatMap PV.cells) vs)
structure MemOk (κ:Kap) (m:Mem) (w:World):Prop where
 blk:∀ id b,lk m id=some b→jK κ m w id b
 inj:∀ id id' b,(lk m id).isSome=true→(lk m id').isSome=true→κ id=some b→κ id'=some b→id=id'
 sb:∀ b,κ.S b→b < w.heap.size
 sd:∀ id b,(lk m id).isSome=true→κ id=some b→¬ κ.S b
theorem MemOk.live_lt {κ:Kap} {m:Mem} {w:World} (h:MemOk κ m w) {b:Nat} (hb:zf κ m b):b < w.heap.size:=by
 rcases hb with hb | hb
 ·exact h.sb b hb
 obtain ⟨id,hs,hk⟩:=hb;cases hl:lk m id with
 | none=>simp [hl] at hs
 | some x =>
  have hx:=h.blk id x hl;cases x with
  | box cs =>
   obtain ⟨b',vs,e,h1,h2,_⟩:=hx;rw [hk] at h1; cases h1;exact (Array.getElem?_eq_some_iff.1 h2).1
  | row L sz e =>
   rcases hx.2.2 with ⟨h1,_⟩ | ⟨b',vs,rest,h1,h2,_⟩
   ·rw [hk] at h1; cases h1
   ·rw [hk] at h1; cases h1;exact (Array.getElem?_eq_some_iff.1 h2).1
structure Pres (κ:Kap) (m:Mem) (w:World) (κ':Kap) (m':Mem) (w':World):Prop where
 box:∀ id cs,lk m id=some (.box cs)→(∃ cs',lk m' id=some (.box cs'))∧κ' id=κ id
 row:∀ id L sz e,lk m id=some (.row L sz e)→∃ L',lk m' id=some (.row L' sz e)∧L.length≤L'.length ∧
  (L'.length=L.length→κ' id=κ id∧∀ b arr e',κ id=some b→w.heap[b]? = some (.cells arr e' (0,0))→∃ arr',w'.heap[b]? = some (.cells arr' e' (0,0))∧arr'.size=arr.size) ∧
  (κ' id=none→∀ C,C≠[]→L'=zI sz C→(L'=L∧κ id=none)∨(L.length≤C.length∧(L.length=C.length→∀ v,zX κ w id L.length sz v→RepC w' (zf κ' m') (.row C) v)))
 cell:∀ b o v,¬ zf κ m b→w.cell? ⟨b,o,none⟩=some v→¬ zf κ' m' b∧w'.cell? ⟨b,o,none⟩=some v
theorem Pres.refl (κ:Kap) (m:Mem) (w:World):Pres κ m w κ m w :=
 ⟨fun _ cs h=>⟨⟨cs,h⟩,rfl⟩,fun _ L _ _ h=>⟨L,h,Nat.le_refl _,fun _=>⟨rfl,fun _ arr _ _ h=>⟨arr,h,rfl⟩⟩,fun k _ _ _ => .inl ⟨rfl,k⟩⟩,fun _ _ _ hl hc=>⟨hl,hc⟩⟩
theorem RepC.pres {κ κ':Kap} {m m':Mem} {w w':World} (h:Pres κ m w κ' m' w') {x:CV} {v:Value} (r:RepC w (zf κ m) x v):RepC w' (zf κ' m') x v :=
 r.mono fun b o v hl hc=>h.cell b o v hl hc
theorem zX.pres {κ κ':Kap} {w w':World} {id n sz:Nat} {v:Value} (hk:κ' id=κ id)
  (hb:∀ b arr e',κ id=some b→w.heap[b]? = some (.cells arr e' (0,0))→∃ arr',w'.heap[b]? = some (.cells arr' e' (0,0))∧arr'.size=arr.size)
  (h:zX κ w id n sz v):zX κ' w' id n sz v:=by
 unfold zX at *;rw [hk];cases hi:κ id with
 | none=>simpa [hi] using h
 | some b =>
  simp only [hi] at h ⊢;obtain ⟨cap,arr,e,h1,h2,h3,h4,h5⟩:=h;obtain ⟨arr',h6,h7⟩:=hb b arr e hi h4;exact ⟨cap,arr',e,h1,h2,h3,h6,h7.trans h5⟩
theorem Pres.trans {κ κ' κ'':Kap} {m m' m'':Mem} {w w' w'':World} (h:Pres κ m w κ' m' w') (k:Pres κ' m' w' κ'' m'' w''):Pres κ m w κ'' m'' w'':=by
 refine ⟨fun id cs hb=>?_,fun id L sz e hr=>?_,fun b o v hl hc=>?_⟩
 ·obtain ⟨⟨cs',h1⟩,h2⟩:=h.box id cs hb;obtain ⟨⟨cs'',k1⟩,k2⟩:=k.box id cs' h1;exact ⟨⟨cs'',k1⟩,k2.trans h2⟩
 ·obtain ⟨L',h1,h2,h3,hg⟩:=h.row id L sz e hr;obtain ⟨L'',k1,k2,k3,kg⟩:=k.row id L' sz e h1;refine ⟨L'',k1,Nat.le_trans h2 k2,fun hl=>?_,fun k0 C hne hC=>?_⟩
  ·obtain ⟨h4,h5⟩:=h3 (by omega);obtain ⟨k4,k5⟩:=k3 (by omega);refine ⟨k4.trans h4,fun b arr e' hb ha=>?_⟩;obtain ⟨arr',ha',hs⟩:=h5 b arr e' hb ha;obtain ⟨arr'',ha'',hs'⟩:=k5 b arr' e' (h4.trans hb) ha';exact ⟨arr'',ha'',hs'.trans hs⟩
  ·rcases kg k0 C hne hC with ⟨e1,e2⟩ | ⟨e1,e2⟩
   ·rcases hg e2 C hne (e1▸hC) with ⟨g1,g2⟩ | ⟨g1,g2⟩
    ·exact .inl ⟨e1.trans g1,g2⟩
    ·exact .inr ⟨g1,fun hl v hv=>RepC.pres k (g2 hl v hv)⟩
   ·refine .inr ⟨by omega,fun hl v hv=>?_⟩;have hl':L'.length=L.length:=by omega
    obtain ⟨h4,h5⟩:=h3 hl';exact e2 (by omega) v (by rw [hl']; exact zX.pres h4 h5 hv)
 ·obtain ⟨h1,h2⟩:=h.cell b o v hl hc;exact k.cell b o v h1 h2
theorem zb.pres {κ κ':Kap} {m m':Mem} {w w':World} (h:Pres κ m w κ' m' w') {x:PV} {v:Value} (r:zb κ m w x v):zb κ' m' w' x v:=by
 cases x with
 | c x =>
  cases x with
  | agg=>exact r.elim
  | tup=>exact r.elim
  | sc u=>exact RepC.pres h r
  | row L=>exact RepC.pres h r
 | nil=>exact r
 | np=>exact r
 | ptr id off =>
  obtain ⟨b,cs,h1,h2,h3⟩:=r;obtain ⟨⟨cs',h4⟩,h5⟩:=h.box id cs h1;exact ⟨b,cs',h4,h5.trans h2,h3⟩
 | own id n =>
  obtain ⟨hs,hn,L,sz,e,h1,h2,h3,hg⟩:=r;obtain ⟨L',h4,h5,h6,h6'⟩:=h.row id L sz e h1;refine ⟨hs,hn,L',sz,e,h4,Nat.le_trans h2 h5,fun hl=>?_,fun k C hne hC hl=>?_⟩
  ·obtain ⟨h7,h8⟩:=h6 (by omega);exact zX.pres h7 h8 (h3 (by omega))
  ·rcases h6' k C hne hC with ⟨e1,e2⟩ | ⟨e1,e2⟩
   ·exact RepC.pres h (hg e2 C hne (e1▸hC) hl)
   ·have hln:L.length=n:=by omega
    exact e2 (by omega) v (by rw [hln]; exact h3 hln)
 | ep x off =>
  obtain ⟨b,o,vs,h1,h2,h3,hp,h4⟩:=r;obtain ⟨u,us,rfl⟩:∃ u us,vs=u::us:=by
   cases vs with
   | nil=>simp at hp
   | cons u us=>exact ⟨u,us,rfl⟩
  have hx:∃ y ys,x.cells=y::ys:=by
   cases hc:x.cells with
   | nil=>rw [hc] at h3; simp at h3
   | cons y ys=>exact ⟨y,ys,rfl⟩
  obtain ⟨y,ys,hx⟩:=hx;have h0:=h4 0 y u (by rw [hx]; rfl) rfl;refine ⟨b,o,u::us,h1,(h.cell b _ u h2 h0.2.2).1,h3,hp,fun i y' u' hy hu=>?_⟩;obtain ⟨g1,g2,g3⟩:=h4 i y' u' hy hu;exact ⟨RepC.pres h g1,g2,(h.cell b _ u' h2 g3).2⟩
 | eo id n i off =>
  obtain ⟨hs,L,sz,e,h1,h2,h3⟩:=r;obtain ⟨L',h4,h5,h6,_⟩:=h.row id L sz e h1;refine ⟨hs,L',sz,e,h4,Nat.le_trans h2 h5,fun hl=>?_⟩;obtain ⟨h7,h8⟩:=h6 (by omega);obtain ⟨b,h9,h10⟩:=h3 (by omega);exact ⟨b,h7.trans h9,h10⟩
 | sl id n lo s =>
  obtain ⟨hs,L,sz,e,h1,h2,h3⟩:=r;obtain ⟨L',h4,h5,h6,_⟩:=h.row id L sz e h1;refine ⟨hs,L',sz,e,h4,Nat.le_trans h2 h5,fun hl ho=>?_⟩;obtain ⟨h7,h8⟩:=h6 (by omega);obtain ⟨b,c,h9,h10⟩:=h3 (by omega) ho;exact ⟨b,c,h7.trans h9,h10⟩
 | fn g ids =>
  obtain ⟨bs,h1,h2⟩:=r;exact ⟨bs,h1,h2.imp fun id b ⟨⟨cs,h3⟩,h4⟩=>⟨(h.box id cs h3).1,(h.box id cs h3).2.trans h4⟩⟩
 | agg=>exact r.elim
 | tup=>exact r.elim
theorem zg.pres {κ κ':Kap} {m m':Mem} {w w':World} (h:Pres κ m w κ' m' w') {x:PV} {v:Value} (r:zg κ m w x v):zg κ' m' w' x v:=by
 cases x with
 | agg cs=>obtain ⟨vs,h1,h2⟩:=r; exact ⟨vs,h1,h2.imp fun _ _=>zb.pres h⟩
 | c x =>
  cases x with
  | agg cs=>exact RepC.pres h r
  | sc u=>exact zb.pres (x := .c (.sc u)) h r
  | row u=>exact zb.pres (x := .c (.row u)) h r
  | tup u=>exact r.elim
 | nil=>exact zb.pres (x := .nil) h r
 | np=>exact r
 | ptr a b=>exact zb.pres (x := .ptr a b) h r
 | own a b=>exact zb.pres (x := .own a b) h r
 | ep a b=>exact zb.pres (x := .ep a b) h r
 | eo a b c d=>exact zb.pres (x := .eo a b c d) h r
 | sl a b c d=>exact zb.pres (x := .sl a b c d) h r
 | fn a b=>exact zb.pres (x := .fn a b) h r
 | tup a=>exact r.elim
theorem Rep.pres {κ κ':Kap} {m m':Mem} {w w':World} (h:Pres κ m w κ' m' w') {x:PV} {v:Value} (r:Rep κ m w x v):Rep κ' m' w' x v:=by
 cases x with
 | tup cs=>obtain ⟨vs,h1,h2⟩:=r; exact ⟨vs,h1,h2.imp fun _ _=>zg.pres h⟩
 | c x =>
  cases x with
  | tup cs=>exact RepC.pres h r
  | sc u=>exact zg.pres (x := .c (.sc u)) h r
  | row u=>exact zg.pres (x := .c (.row u)) h r
  | agg u=>exact zg.pres (x := .c (.agg u)) h r
 | nil=>exact zg.pres (x := .nil) h r
 | np=>exact r
 | ptr a b=>exact zg.pres (x := .ptr a b) h r
 | own a b=>exact zg.pres (x := .own a b) h r
 | ep a b=>exact zg.pres (x := .ep a b) h r
 | eo a b c d=>exact zg.pres (x := .eo a b c d) h r
 | sl a b c d=>exact zg.pres (x := .sl a b c d) h r
 | fn a b=>exact zg.pres (x := .fn a b) h r
 | agg a=>exact zg.pres (x := .agg a) h r
inductive SK where
 | b
 | i (k:IntKind)
 | s
def SK.ok:SK→Value→Bool
 | .b,.bool _ | .s,.string _=>true
 | .i k,.int k' _=>k==k'
 | _,_=>false
inductive AX where
 | t (n:Nat)
 | k (x:PV)
inductive AOp where
 | mv (x:AX)
 | nck (x:AX)
 | asn (x:AX) (sz:Nat) (e:TypeId)
 | pick (c a b:AX)
 | alloc (zero:List PV)
 | newb (zero:List PV)
 | newr (k:Nat) (e:TypeId) (z:PV)
 | box (x:AX)
 | build (zero:List PV) (parts:List (Nat × Nat × AX))
 | bsl (sz:Nat) (e:TypeId) (parts:List AX)
 | bsl0
 | ld (agg:Bool) (n:Nat) (a:AX)
 | st (n:Nat) (a v:AX)
 | fa (off:Nat) (x:AX)
 | fld (off n:Nat) (agg:Bool) (x:AX)
 | ia (sz:Nat) (x i:AX)
 | idx (x i:AX)
 | sls (x:AX) (lo hi:Option AX)
 | slr (sz:Nat) (x:AX) (lo hi:Option AX)
 | bin (op:BinOp) (x y:AX)
 | bb (neg:Bool) (x y:AX)
 | beq (neg:Bool) (ks:List SK) (x y:AX)
 | un (op:UnOp) (x:AX)
 | conv (k:IntKind) (x:AX)
 | cvs (x:AX)
 | b2s (x:AX)
 | mks (sz bytes:Nat) (e:TypeId) (zero:PV) (n:AX)
 | ext (x:AX) (i:Nat)
 | len (str:Bool) (x:AX)
 | app (fresh:Bool) (sz bytes:Nat) (e:TypeId) (s x:AX)
 | call (f:FuncId) (args:List AX)
 | opn (f:FuncId) (args:List AX)
 | mm (max:Bool) (x y:AX)
 | fnv (f:FuncId) (caps:List AX)
 | callv (f:AX) (args:List AX)
 | opv (f:AX) (args:List AX)
structure AO where
 dst:Option Nat
 op:AOp
 guard:Option (Nat × Bool)
 lo:Bool:=false
 tn:List Nat:=[]
def notIn:List Nat→Nat→Bool
 | [],_=>true
 | t::l,id=>match Nat.ble 1000000 t with
  | true=>match Nat.beq (Nat.sub t 1000000) (Nat.mod id 16) with
   | true=>false
   | false=>notIn l id
  | false=>match Nat.beq t id with
   | true=>false
   | false=>notIn l id
def hiN (tn:List Nat) (id:Nat):Bool:=match Nat.ble 3 id with
 | true=>notIn tn id
 | false=>false
inductive AC where
 | skip
 | reg (seq:Bool) (ops:List AO)
 | seq (a b:AC)
 | cnd (c:AX) (a b:AC)
 | blk (id:Nat) (a:AC)
 | loop (a:AC)
 | exit (id:Nat)
 | ret
abbrev I (n:Int):PV := .c (.sc (.int .i64 n))
abbrev B (b:Bool):PV := .c (.sc (.bool b))
def AX.ev (F:List (Nat × PV)):AX→Option PV
 | .t n=>lk F n
 | .k x=>some x
def onv {α:Type} (o:Option α) (f:α→Prop):Prop :=
 match o with
 | some v=>f v
 | none=>False
def qd:List PV→Option (List CV)
 | []=>some []
 | .c x::l=>(qd l).map (x::·)
 | _=>none
def jm (cs:List PV):PV :=
 match qd cs with
 | some l => .c (.agg l)
 | none => .agg cs
def capL:List PV→Option (List Nat)
 | []=>some []
 | .ptr id 0::l=>(capL l).map (id::·)
 | _=>none
def JX (l:List PV):Option (List Nat):=match l with
 | []=>none
 | l=>capL l
def jw:PV→Option CV
 | .c x=>some x
 | .nil=>some (.row [])
 | _=>none
def jf:List PV→Option (List CV)
 | []=>some []
 | x::l=>match jw x,jf l with
  | some y,some k=>some (y::k)
  | _,_=>none
theorem zj7 (l:List CV):jf (l.map .c)=some l:=by
 induction l with
 | nil=>rfl
 | cons a l ih=>simp [jf,jw,ih]
def jT:PV→Option CV
 | .agg cs=>(jf cs).map .agg
 | x=>jw x
def z8:List PV→Option (List CV)
 | []=>some []
 | x::l=>match jT x,z8 l with
  | some y,some k=>some (y::k)
  | _,_=>none
def clZ (z:PV):PV:=match jT z with
 | some y => .c y
 | none=>z
def yi (m:Mem):PV→Option CV
 | .own id n=>match lk m id with
  | some (.row L _ _)=>if L.length=n then (z8 L).map .row else none
  | _=>none
 | x=>jT x
def qk (m:Mem):List PV→Option (List CV)
 | []=>some []
 | x::l=>match yi m x,qk m l with
  | some y,some k=>some (y::k)
  | _,_=>none
def yG (m:Mem):PV→Option CV
 | .own id n=>match lk m id with
  | some (.row L _ _)=>if L.length=n then (qk m L).map .row else none
  | _=>none
 | x=>jw x
def qG (m:Mem):List PV→Option (List CV)
 | []=>some []
 | x::l=>match yG m x,qG m l with
  | some y,some k=>some (y::k)
  | _,_=>none
def snap (m:Mem):PV→Option CV
 | .own id n=>yG m (.own id n)
 | .agg cs=>(qG m cs).map .agg
 | x=>jT x
def jJ (m:Mem):List PV→Option (List CV)
 | []=>some []
 | x::l=>match snap m x,jJ m l with
  | some y,some k=>some (y::k)
  | _,_=>none
def JS:List PV→Bool
 | []=>false
 | .own ..::_=>true
 | _::l=>JS l
def Zj:List PV→Bool
 | []=>true
 | .own ..::_=>false
 | .agg cs::l=>match JS cs with
  | true=>false
  | false=>Zj l
 | _::l=>Zj l
def Zs:CV→Bool
 | .sc _=>true
 | _=>false
def JE:CV→Bool
 | .agg cs=>cs.all Zs
 | x=>Zs x
def zbL:CV→Bool
 | .tup cs=>cs.all JE
 | x=>JE x
def PV.isVal:PV→Bool
 | .tup _ | .c (.tup _)=>false
 | _=>true
def j6 (cs:List PV) (off:Nat) (vs:List PV):List PV:=cs.take off++vs++cs.drop (off+vs.length)
def yy (ρ:AX→Option PV):List PV→List (Nat × Nat × AX)→Option (List PV)
 | cs,[]=>some cs
 | cs,(off,n,x)::l=>match ρ x with
  | some v=>if v.isVal=true∧v.cells.length=n∧off+n≤cs.length then yy ρ (j6 cs off v.cells) l else none
  | none=>none
def evs (ρ:AX→Option PV):List AX→Option (List PV)
 | []=>some []
 | x::l=>match ρ x,evs ρ l with
  | some v,some k=>some (v::k)
  | _,_=>none
def skOk:List SK→List CV→Bool
 | [],[]=>true
 | k::ks,.sc v::l=>k.ok v&&skOk ks l
 | _,_=>false
def scEq:Value→Value→Bool
 | .int _ a,.int _ b=>a==b
 | .bool a,.bool b=>a==b
 | .string a,.string b=>a.toList==b.toList
 | _,_=>false
def ZT:List CV→List CV→Option Bool
 | [],[]=>some true
 | .sc a::l,.sc b::k=>(ZT l k).map (scEq a b&&·)
 | _,_=>none
def binV (op:BinOp):Value→Value→(PV→Prop)→Prop
 | .int k a,.int k' b,K=>k=k'∧match op with
  | .add=>K (.c (.sc (.int k (k.wrap (a+b)))))
  | .sub=>K (.c (.sc (.int k (k.wrap (a - b)))))
  | .mul=>K (.c (.sc (.int k (k.wrap (a * b)))))
  | .quo=>b≠0∧K (.c (.sc (.int k (k.wrap (a.tdiv b)))))
  | .rem=>b≠0∧(k.min≤a.tmod b∧a.tmod b≤k.max)∧K (.c (.sc (.int k (a.tmod b))))
  | .xor=>K (.c (.sc (.int k (k.wrap (BitVec.ofInt k.bits a ^^^ BitVec.ofInt k.bits b).toNat))))
  | .eql=>K (B (a==b))
  | .neq=>K (B (a != b))
  | .lss=>K (B (decide (a < b)))
  | .leq=>K (B (decide (a≤b)))
  | .gtr=>K (B (decide (a > b)))
  | .geq=>K (B (decide (a≥b)))
  | _=>False
 | .string a,.string b,K=>match op with
  | .add=>a.size+b.size≤maxLen∧K (.c (.sc (.string (a++b))))
  | .eql=>K (B (a.toList==b.toList))
  | .neq=>K (B (!(a.toList==b.toList)))
  | .lss=>K (B (Op.bytesLess a.toList b.toList))
  | .leq=>K (B (Op.bytesLess a.toList b.toList||a.toList==b.toList))
  | .gtr=>K (B (!(Op.bytesLess a.toList b.toList||a.toList==b.toList)))
  | .geq=>K (B (!Op.bytesLess a.toList b.toList))
  | _=>False
 | _,_,_=>False
def yp:List CV→Option (List UInt8)
 | []=>some []
 | .sc (.int .u8 n)::l=>(yp l).map (UInt8.ofNat n.toNat::·)
 | _=>none
def jP (m:Mem) (sz:Nat):PV→(List PV→Prop)→Prop
 | .nil,K=>K []
 | .c (.row L),K=>(∀ x∈L,x.cells.length=sz)∧K (L.map .c)
 | .own id n,K=>match lk m id with
  | some (.row L sz' _)=>L.length=n∧sz'=sz∧K L
  | _=>False
 | _,_=>False
def bnd (ρ:AX→Option PV) (x:Option AX) (dflt:Nat) (K:Nat→Prop):Prop :=
 match x with
 | none=>K dflt
 | some a=>match ρ a with
  | some (.c (.sc (.int _ n)))=>0≤n∧K n.toNat
  | _=>False
section
variable (ρ:AX→Option PV) (d:Nat) (m:Mem)
def zo:AOp→(PV→Mem→Prop)→Prop
 | .mv x,K=>onv (ρ x) fun v=>K v []
 | .nck x,K=>onv (ρ x) fun v=>match v with
  | .ptr id off=>K (.ptr id off) []
  | _=>False
 | .asn x sz e,K=>onv (ρ x) fun v=>match v with
  | .nil=>if (lk m (16 * d)).isNone∧0 < sz then K (.own (16 * d) 0) [(16 * d,.row [] sz e)] else K .nil []
  | v=>K v []
 | .pick c a b,K=>onv (ρ c) fun v=>match v with
  | .c (.sc (.bool t))=>(t=true→onv (ρ a) fun v=>K v [])∧(t=false→onv (ρ b) fun v=>K v [])
  | _=>False
 | .alloc zero,K=>K (.ptr (16 * d) 0) [(16 * d,.box zero)]
 | .box x,K=>onv (ρ x) fun v=>v.isVal=true∧K (.ptr (16 * d) 0) [(16 * d,.box v.cells)]
 | .build zero parts,K=>onv (yy ρ zero parts) fun cs=>K (jm cs) []
 | .bsl sz e parts,K=>onv (evs ρ parts) fun vs=>match z8 vs with
  | some L=>(∀ x∈L,x.cells.length=sz)∧(∀ x∈L,∀ cs,x ≠ .tup cs)∧K (.c (.row L)) []
  | none=>(∀ x∈vs,x.cells.length=sz∧x.isVal=true)∧K (.own (16 * d) vs.length) [(16 * d,.row vs sz e)]
 | .bsl0,K=>K .nil []
 | .ld agg n a,K=>onv (ρ a) fun v=>match v with
  | .ptr id off=>match lk m id with
   | some (.box cs)=>if agg then off+n≤cs.length∧K (jm ((cs.drop off).take n)) [] else onv cs[off]? fun x=>K x []
   | _=>False
  | .ep x off=>if agg then off+n≤x.cells.length∧K (.c (.agg ((x.cells.drop off).take n))) [] else onv x.cells[off]? fun y=>K (.c y) []
  | .eo id n' i off=>match lk m id with
   | some (.row L _ _)=>L.length=n'∧∃ x,L[i]? = some x∧if agg then off+n≤x.cells.length∧K (jm ((x.cells.drop off).take n)) [] else onv x.cells[off]? fun y=>K y []
   | _=>False
  | _=>False
 | .fa off x,K=>onv (ρ x) fun v=>match v with
  | .ptr id o=>K (.ptr id (o+off)) []
  | .ep x o=>K (.ep x (o+off)) []
  | .eo id n i o=>K (.eo id n i (o+off)) []
  | _=>False
 | .fld off n agg x,K=>onv (ρ x) fun v=>match v with
  | .c (.agg cs)=>if agg then off+n≤cs.length∧K (.c (.agg ((cs.drop off).take n))) [] else onv cs[off]? fun y=>K (.c y) []
  | .agg cs=>if agg then off+n≤cs.length∧K (jm ((cs.drop off).take n)) [] else onv cs[off]? fun y=>K y []
  | _=>False
 | .ia sz x i,K=>onv (ρ i) fun iv=>match iv with
  | .c (.sc (.int _ k))=>onv (ρ x) fun v=>match v with
   | .c (.row L)=>0≤k∧∃ y,L[k.toNat]? = some y∧y.cells.length=sz∧K (.ep y 0) []
   | .own id n=>match lk m id with
    | some (.row L sz' _)=>L.length=n∧sz'=sz∧0≤k∧k < n∧K (.eo id n k.toNat 0) []
    | _=>False
   | .sl id n lo s=>match lk m id with
    | some (.row L sz' _)=>L.length=n∧sz'=sz∧s=sz∧0≤k∧lo+k < n∧K (.eo id n (lo+k.toNat) 0) []
    | _=>False
   | _=>False
  | _=>False
 | .idx x i,K=>onv (ρ i) fun iv=>match iv with
  | .c (.sc (.int _ k))=>onv (ρ x) fun v=>match v with
   | .c (.sc (.string s))=>0≤k∧∃ b,s.data.toList[k.toNat]? = some b∧K (.c (.sc (.int .u8 b.toNat))) []
   | _=>False
  | _=>False
 | .sls x lo hi,K=>onv (ρ x) fun v=>match v with
  | .c (.sc (.string s))=>bnd ρ lo 0 fun l=>bnd ρ hi s.size fun h=>l≤h∧h≤s.size∧K (.c (.sc (.string (s.extract l h)))) []
  | _=>False
 | .slr sz x lo hi,K=>onv (ρ x) fun v=>match v with
  | .c (.row L)=>(∀ x∈L,x.cells.length=sz)∧bnd ρ lo 0 fun l=>bnd ρ hi L.length fun h=>l≤h∧h≤L.length∧K (.c (.row ((L.take h).drop l))) []
  | .own id n=>bnd ρ lo 0 fun l=>l≤n∧hi.isNone=true∧K (.sl id n l sz) []
  | _=>False
 | .bin op x y,K=>onv (ρ x) fun v=>onv (ρ y) fun u=>match v,u with
  | .c (.sc a),.c (.sc b)=>binV op a b fun r=>K r []
  | _,_=>False
 | .bb neg x y,K=>onv (ρ x) fun v=>onv (ρ y) fun u=>match v,u with
  | .c (.sc (.bool a)),.c (.sc (.bool b))=>K (B (if neg then !(a==b) else a==b)) []
  | _,_=>False
 | .beq neg ks x y,K=>onv (ρ x) fun v=>onv (ρ y) fun u=>match v,u with
  | .c (.agg a),.c (.agg b)=>skOk ks a=true∧skOk ks b=true∧onv (ZT a b) fun t=>K (B (if neg then !t else t)) []
  | _,_=>False
 | .un op x,K=>onv (ρ x) fun v=>match op,v with
  | .not,.c (.sc (.bool b))=>K (B (!b)) []
  | .neg,.c (.sc (.int k n))=>K (.c (.sc (.int k (k.wrap (0 - n))))) []
  | _,_=>False
 | .conv k x,K=>onv (ρ x) fun v=>match v with
  | .c (.sc (.int _ n))=>K (.c (.sc (.int k (k.wrap n)))) []
  | _=>False
 | .cvs x,K=>onv (ρ x) fun v=>match v with
  | .c (.sc (.string s))=>K (.c (.sc (.string s))) []
  | _=>False
 | .b2s x,K=>onv (ρ x) fun v=>jP m 1 v fun L=>onv (jf L) fun L=>onv (yp L) fun s=>s.length≤maxLen∧K (.c (.sc (.string ⟨s.toArray⟩))) []
 | .mks sz bytes e zero n,K=>onv (ρ n) fun v=>match v with
  | .c (.sc (.int .i64 k))=>0≤k∧k≤maxLen∧bytes * k≤2 ^ 48∧zero.cells.length=sz∧0 < sz∧K (.own (16 * d) k.toNat) [(16 * d,.row (List.replicate k.toNat zero) sz e)]
  | _=>False
 | .ext x i,K=>onv (ρ x) fun v=>match v with
  | .tup vs=>onv vs[i]? fun y=>K y []
  | .c (.tup vs)=>onv vs[i]? fun y=>K (.c y) []
  | _=>False
 | .len str x,K=>onv (ρ x) fun v=>match str,v with
  | false,.nil=>K (I 0) []
  | false,.c (.row L)=>K (I L.length) []
  | true,.c (.sc (.string s))=>K (I s.size) []
  | false,.own _ n=>K (I n) []
  | false,.sl _ n l _=>K (I ((n - l:Nat):Int)) []
  | _,_=>False
 | .app true sz bytes e s x,K=>onv (ρ s) fun v=>match v with
  | .nil=>onv (ρ x) fun u=>jP m sz u fun L=>0 < sz∧L.length≤maxLen∧L.length * bytes≤140737488355328∧K (.own (16 * d) L.length) [(16 * d,.row L sz e)]
  | _=>False
 | .mm mx x y,K=>onv (ρ x) fun v=>onv (ρ y) fun u=>match v,u with
  | .c (.sc (.int k a)),.c (.sc (.int k' b))=>k=k'∧K (.c (.sc (.int k (if mx then (if b > a then b else a) else (if b < a then b else a))))) []
  | _,_=>False
 | .fnv f caps,K=>onv (evs ρ caps) fun vs=>match JX vs with
  | some ids=>K (.fn f ids) []
  | none=>onv (jf vs) fun cs=>(∀ x∈cs,∃ v,x = .sc v) ∧
   K (.c (.sc (.func (.func f) #[] (cs.map fun | .sc v=>v | _=>undef).toArray))) []
 | _,_=>False
def upd:Mem→Nat→Blk→Mem
 | [],_,_=>[]
 | (k,x)::l,id,b=>if k=id then (k,b)::l else (k,x)::upd l id b
def jZ:AOp→(PV→Mem→Prop)→Prop
 | .newb zero,K=>(lk m (16 * d)).isNone∧K (.ptr (16 * d) 0) ((16 * d,.box zero)::m)
 | .newr k e z,K=>(lk m (16 * d)).isNone∧K (.own (16 * d) k) ((16 * d,.row (List.replicate k z) 1 e)::m)
 | .st n a x,K=>onv (ρ a) fun p=>onv (ρ x) fun v=>match p with
  | .ptr id off=>match lk m id with
   | some (.box cs)=>v.isVal=true∧v.cells.length=n∧off+n≤cs.length∧K (.c (.tup [])) (upd m id (.box (j6 cs off v.cells)))
   | _=>False
  | .eo id n' i off=>match lk m id with
   | some (.row L sz e)=>L.length=n'∧∃ y,L[i]? = some y∧v.isVal=true∧v.cells.length=n∧off+n≤y.cells.length ∧
     K (.c (.tup [])) (upd m id (.row (L.set i (if y.cells.length=1 then v else jm (j6 y.cells off v.cells))) sz e))
   | _=>False
  | _=>False
 | .app false sz bytes e s x,K=>onv (ρ s) fun v=>match v with
  | .nil=>onv (ρ x) fun u=>jP m sz u fun L=>0 < sz∧L.length≤maxLen∧L.length * bytes≤140737488355328∧(lk m (16 * d)).isNone∧K (.own (16 * d) L.length) ((16 * d,.row L sz e)::m)
  | .own id n=>match lk m id with
   | some (.row L sz' e')=>L.length=n∧sz'=sz∧e'=e∧onv (ρ x) fun u=>jP m sz u fun L'=>n+L'.length≤maxLen∧(n+L'.length) * bytes≤140737488355328 ∧
     (if id % 16=15 then ∃ C C',z8 L=some C∧z8 L'=some C'∧K (.c (.row (C++C'))) (upd m id (.row (zI sz C) sz e))
     else K (.own id (n+L'.length)) (upd m id (.row (L++L') sz e)))
   | _=>False
  | _=>False
 | _,_=>False
end
def AOp.wr:AOp→Bool
 | .st .. | .app false .. | .opn .. | .opv .. | .newb .. | .newr ..=>true
 | _=>false
def AOp.tch:AOp→Bool
 | .mv _ | .nck _ | .pick .. | .build .. | .fa .. | .fld .. | .idx .. | .sls .. | .bin .. | .bb .. | .beq .. | .un .. | .conv .. | .cvs _ | .ext .. | .len .. | .mm .. | .fnv .. | .slr ..=>false
 | _=>true
def okInt (k:IntKind) (n:Int):Bool:=k.min≤n&&n≤k.max
def kv1:Value→Option PV
 | .slice none 0 0=>some .nil
 | .bool b=>some (.c (.sc (.bool b)))
 | .int k n=>if okInt k n then some (.c (.sc (.int k n))) else none
 | .string s=>if s.size≤1000000 then some (.c (.sc (.string s))) else none
 | .nilFunc=>some (.c (.sc .nilFunc))
 | .pointer none=>some .np
 | _=>none
def kv1s:List Value→Option (List PV)
 | []=>some []
 | v::l=>match kv1 v,kv1s l with
  | some x,some k=>some (x::k)
  | _,_=>none
def kv:Value→Option PV
 | .agg cs=>(kv1s cs.toList).map .agg
 | .tuple vs=>if vs.isEmpty then some (.c (.tup [])) else none
 | v=>kv1 v
def opd:Operand→Option AX
 | .tmp t=>some (.t t)
 | .const v=>(kv v).map .k
 | .func f=>some (.k (.c (.sc (.func (.func f) #[] #[]))))
 | .global _=>none
def opds:List Operand→Option (List AX)
 | []=>some []
 | x::l=>match opd x,opds l with
  | some y,some k=>some (y::k)
  | _,_=>none
def jR (P:Program) (t:TypeId):Option Bool :=
 match P.underlying t with
 | some (.struct _)=>some true
 | some (.array _ _)=>none
 | some _=>some false
 | none=>none
def jr (P:Program) (t:TypeId):Option Nat:=(P.info? t).map (·.size)
def qf (P:Program) (t:TypeId):Option TypeId :=
 match P.underlying t with
 | some (.slice e)=>some e
 | _=>none
def skF (f:TypeId→Option (List SK)) (P:Program):Nat→List Field→Option (List SK)
 | _,[]=>some []
 | off,g::l=>if g.name≠"_"∧g.offset=off then match f g.type,jR P g.type,jr P g.type with
  | some ks,some _,some n=>if n=ks.length then (skF f P (off+n) l).map (ks++·) else none
  | _,_,_=>none else none
def skT (P:Program):Nat→TypeId→Option (List SK)
 | 0,_=>none
 | d+1,t=>match P.underlying t with
  | some .bool=>some [.b]
  | some (.int k)=>some [.i k]
  | some .string=>some [.s]
  | some (.struct fs)=>if P.stoodInHeld t=false then skF (skT P d) P 0 fs.toList else none
  | _=>none
def qK (P:Program) (t:TypeId):Option PV :=
 match P.info? t with
 | some i=>i.zero.bind kv
 | none=>none
def zbF (P:Program) (fs:Array Field):Option (List (Nat × Nat)):=fs.toList.mapM (fun f=>(P.info? f.type).map fun i=>(f.offset,i.size))
def Jg (places:List (Nat × Nat)):List (Nat × Operand)→Option (List (Nat × Nat × AX))
 | []=>some []
 | (i,x)::l=>match places[i]?,opd x,Jg places l with
  | some (off,n),some y,some k=>some ((off,n,y)::k)
  | _,_,_=>none
def Qj:Nat→List (Nat × Operand)→Bool
 | _,[]=>true
 | i,(j,_)::l=>i==j&&Qj (i+1) l
def opt:Option Operand→Option (Option AX)
 | none=>some none
 | some x=>(opd x).map some
def zu (P:Program) (on:List FuncId) (nils:List Tmp) (o:Oper):Option AOp :=
 match o.op with
 | .move x | .assign x=>match opd x with
  | some y=>match o.op,qf P o.type with
   | .assign _,some e=>(jr P e).map fun n => .asn y n e
   | _,_=>some (.mv y)
  | none=>none
 | .nilCheck x=>(opd x).map .nck
 | .pick c a b=>match opd c,opd a,opd b with
  | some c,some a,some b=>some (.pick c a b)
  | _,_,_=>none
 | .alloc t=>match qK P t with
  | some z=>if z.isVal=true then some (if on.contains 999997 then .newb z.cells else .alloc z.cells) else none
  | none=>none
 | .box _ x=>(opd x).map .box
 | .build t parts=>match P.underlying t,qK P t with
  | some (.struct fs),some z=>match zbF P fs with
   | some pl=>if z.isVal=true then (Jg pl parts.toList).map fun ps => .build z.cells ps else none
   | none=>none
  | _,_=>none
 | .buildSlice t n parts=>match qf P t with
  | some e=>match jr P e,opds (parts.toList.map (·.2)),qK P e with
   | some sz,some ps,some _=>if n=0 then (if parts.isEmpty then some .bsl0 else none) else if parts.size=n∧Qj 0 parts.toList∧0 < sz∧n * sz≤1000 then some (.bsl sz e ps) else none
   | _,_,_=>none
  | none=>none
 | .load t a=>match jR P t,jr P t,opd a with
  | some g,some n,some x=>if g∨n=1 then some (.ld g n x) else none
  | _,_,_=>none
 | .store t a v=>match jR P t,jr P t,opd a,opd v with
  | some _,some n,some x,some y=>if 0 < n then some (.st n x y) else none
  | _,_,_,_=>none
 | .fieldAddr s x f=>match P.underlying s,opd x with
  | some (.struct fs),some y=>match fs[f]? with
   | some g=>match jr P g.type with
    | some n=>if 0 < n then some (.fa g.offset y) else none
    | none=>none
   | none=>none
  | _,_=>none
 | .field s x f=>match P.underlying s,opd x with
  | some (.struct fs),some y=>match fs[f]? with
   | some g=>match jR P g.type,jr P g.type with
    | some t,some n=>if t∨n=1 then some (.fld g.offset n t y) else none
    | _,_=>none
   | none=>none
  | _,_=>none
 | .indexAddr t x i=>match qf P t,opd x,opd i with
  | some e,some x,some i=>(jr P e).map fun n => .ia n x i
  | _,_,_=>none
 | .index t x i=>match P.underlying t,opd x,opd i with
  | some .string,some x,some i=>some (.idx x i)
  | _,_,_=>none
 | .slice t x lo hi mx=>match mx,P.underlying t,opd x,opt lo,opt hi with
  | none,some .string,some x,some lo,some hi=>some (.sls x lo hi)
  | none,some (.slice e),some x,some lo,some hi=>match jr P e with
   | some n=>if 0 < n then some (.slr n x lo hi) else none
   | none=>none
  | _,_,_,_,_=>none
 | .binOp op t x y _=>match P.underlying t,opd x,opd y with
  | some (.struct _),some x,some y=>match skT P 5 t with
   | some ks=>if P.eqGuardType P.depth t=false then (match op with | .eql=>some (.beq false ks x y) | .neq=>some (.beq true ks x y) | _=>none) else none
   | none=>none
  | some .bool,some x,some y=>match op with | .eql=>some (.bb false x y) | .neq=>some (.bb true x y) | _=>none
  | some (.int _),some x,some y | some .string,some x,some y=>some (.bin op x y)
  | _,_,_=>none
 | .unOp op _ x=>(opd x).map (.un op)
 | .convert s t x=>match P.underlying s,P.underlying t,opd x with
  | some (.int _),some (.int k),some y=>some (.conv k y)
  | some .string,some .string,some y=>some (.cvs y)
  | some (.slice e),some .string,some y=>match P.underlying e with
   | some (.int .u8)=>some (.b2s y)
   | _=>none
  | _,_,_=>none
 | .makeSlice t l c=>match qf P t,opd l,opd c with
  | some e,some x,some _=>match P.info? e,qK P e with
   | some i,some z=>if sameOpd l c∧0 < i.size∧z.isVal=true then (if on.contains 999996 then newrO i e z x else some (.mks i.size i.bytes e (clZ z) x)) else none
   | _,_=>none
  | _,_,_=>none
 | .extract x i=>(opd x).map fun y => .ext y i
 | .makeFunc (.func f) fst caps=>if fst.isEmpty then (opds caps.toList).map (.fnv f) else none
 | .call c=>match c.callee with
  | .builtin .len=>match c.args.toList,c.argTypes.toList with
   | [x],[t]=>match P.underlying t,opd x with
    | some .string,some y=>some (.len true y)
    | some (.slice _),some y=>some (.len false y)
    | _,_=>none
   | _,_=>none
  | .builtin .append=>match c.args.toList,c.argTypes.toList with
   | [s,x],[t,u]=>if t=u then match qf P t,opd s,opd x with
    | some e,some s',some x'=>match P.info? e with
     | some i=>if 0 < i.size∧(i.zero.map (·.cells.size))=some i.size then some (.app (isNil nils s) i.size i.bytes e s' x') else none
     | none=>none
    | _,_,_=>none else none
   | _,_=>none
  | .builtin .min=>match c.args.toList with
   | [x,y]=>match opd x,opd y with
    | some x,some y=>some (.mm false x y)
    | _,_=>none
   | _=>none
  | .builtin .max=>match c.args.toList with
   | [x,y]=>match opd x,opd y with
    | some x,some y=>some (.mm true x y)
    | _,_=>none
   | _=>none
  | .value (.func f)=>match P.funcs[f]? with
   | some fn=>if fn.body.isSome∧fn.name≠"runtime.NumGoroutine" then (opds c.args.toList).map (if on.contains f then .opn f else .call f) else none
   | none=>none
  | .value f=>match opd f,opds c.args.toList with
   | some f,some xs=>some (if on.contains 999998 then .opv f xs else .callv f xs)
   | _,_=>none
  | _=>none
 | _=>none
where
 sameOpd:Operand→Operand→Bool
  | .tmp a,.tmp b=>a==b
  | .const (.int .i64 a),.const (.int .i64 b)=>a==b
  | _,_=>false
 newrO (i:TypeInfo) (e:TypeId) (z:PV):AX→Option AOp
  | .k (.c (.sc (.int .i64 k)))=>if i.size=1∧0≤k∧k≤1000∧i.bytes≤1000∧(clZ z).cells.length=1 then some (.newr k.toNat e (clZ z)) else none
  | _=>none
 isNil (nils:List Tmp):Operand→Bool
  | .tmp t=>nils.contains t
  | .const (.slice none 0 0)=>true
  | _=>false
def nilsOf (ops:List Oper):List Tmp:=ops.filterMap fun o=>match o.op with
 | .buildSlice _ 0 _=>o.dst
 | _=>none
def AOp.isSt:AOp→Bool
 | .st ..=>true
 | _=>false
def ZC (P:Program) (on:List FuncId) (N:Nat) (ops:Array Oper) (o:Oper):Option AO :=
 match zu P on (nilsOf ops.toList) o with
 | some op=>if (o.dst.all (· < N))=true∧(o.dst.isNone∨op.isSt=false) then match o.guard with
  | none=>some { dst:=o.dst,op:=op,guard:=none }
  | some (j,want)=>match (ops[j]?).bind (·.dst) with
   | some t=>some { dst:=o.dst,op:=op,guard:=some (t,want) }
   | none=>none else none
 | none=>none
def y8 (P:Program) (on:List FuncId) (N:Nat) (ops:Array Oper):List Oper→Option (List AO)
 | []=>some []
 | o::l=>match ZC P on N ops o,y8 P on N ops l with
  | some x,some k=>some (x::k)
  | _,_=>none
def AX.rd:AX→List Nat
 | .t n=>[n]
 | .k _=>[]
def rdO:Option AX→List Nat
 | none=>[]
 | some x=>x.rd
def AOp.rds:AOp→List Nat
 | .mv x | .nck x | .asn x _ _ | .box x | .ld _ _ x | .fa _ x | .fld _ _ _ x | .un _ x | .conv _ x | .cvs x | .b2s x | .mks _ _ _ _ x | .ext x _ | .len _ x=>x.rd
 | .pick c a b=>c.rd++a.rd++b.rd
 | .alloc _ | .newb _ | .newr .. | .bsl0=>[]
 | .build _ ps=>ps.flatMap fun p=>p.2.2.rd
 | .bsl _ _ ps | .call _ ps | .opn _ ps | .fnv _ ps=>ps.flatMap AX.rd
 | .callv f ps | .opv f ps=>f.rd++ps.flatMap AX.rd
 | .st _ a b | .ia _ a b | .idx a b | .bin _ a b | .bb _ a b | .beq _ _ a b | .app _ _ _ _ a b | .mm _ a b=>a.rd++b.rd
 | .sls x lo hi | .slr _ x lo hi=>x.rd++rdO lo++rdO hi
def AO.rds (a:AO):List Nat:=a.op.rds++match a.guard with | some (t,_)=>[t] | none=>[]
def AO.loose (tn:List Nat) (a:AO):AO:=match a.op with
 | .ld g n x=>{ a with op := .ld g n x,lo:=true,tn:=tn }
 | .opn f xs=>{ a with op := .opn f xs,lo:=true,tn:=tn }
 | .ia s x i=>{ a with op := .ia s x i,lo:=true,tn:=tn }
 | .bsl s e ps=>{ a with op := .bsl s e ps,lo:=true,tn:=tn }
 | _=>a
def AO.loose3 (g:Bool) (tn:List Nat) (a:AO):AO:=match a.op with
 | .ld g n x=>{ a with op := .ld g n x,lo:=true,tn:=tn }
 | .opn f xs=>{ a with op := .opn f xs,lo:=true,tn:=tn }
 | .ia s x i=>{ a with op := .ia s x i,lo:=true,tn:=tn }
 | .bsl s e ps=>{ a with op := .bsl s e ps,lo:=true,tn:=tn }
 | .st n x y=>{ a with op := .st n x y,lo:=g,tn:=tn }
 | .app false sz b e x y=>{ a with op := .app false sz b e x y,lo:=true,tn:=tn }
 | _=>a
def AOp.isLd:AOp→Bool
 | .ld ..=>true
 | .ia ..=>true
 | .bsl ..=>true
 | _=>false
def lxp (a b:AO):Bool:=(a.lo&&b.lo)&&((a.tn==b.tn)&&((a.op.isLd&&b.op.wr)||(a.op.wr&&b.op.isLd)))
def isNw (op:AOp):Bool:=match op with
 | .newb _=>true
 | .newr ..=>true
 | _=>false
def nbp (a b:AO):Bool:=match isNw b.op with
 | true=>match b.lo with
  | true=>false
  | false=>match a.op with
   | .opn ..=>true
   | .ld ..=>true
   | _=>false
 | false=>false
def nbn (a b:AO):Bool:=(isNw a.op&&isNw b.op)&&((!a.lo&&!b.lo)&&(a.guard.isNone&&b.guard.isNone))
def tnOf (on:List FuncId):List Nat:=on.filterMap fun f=>if 1000000≤f then some (f - 1000000) else none
def Jr (a b:AO):Bool :=
 (match a.dst with | some d=>!b.rds.contains d&&b.dst != some d | none=>true) &&
 (match b.dst with | some d=>!a.rds.contains d | none=>true) &&
 ((lxp a b||(nbp a b||nbn a b))||(!(a.op.wr&&b.op.tch)&&!(b.op.wr&&a.op.tch)))
def topo (md:Region.Mode) (ops:Array Oper):List Nat→List Nat→Bool
 | done,[]=>(List.range ops.size).all done.contains
 | done,i::l=>((ops[i]?).map (fun o=>o.after.all fun e=>!Region.binds md e||done.contains e.on)).getD false&&topo md ops (i::done) l
def Zq (ops:Array Oper) (aos:List AO):Bool :=
 let b:=Region.before ops
 topo .any ops [] (List.range ops.size) &&
 (List.range ops.size).all fun j=>(List.range j).all fun i =>
  (b.getD j 0).testBit i||match aos[i]?,aos[j]? with
   | some x,some y=>Jr x y
   | _,_=>false
def comp (P:Program) (on:List FuncId) (N:Nat):Code→Option AC
 | .skip=>some .skip
 | .region _ ops draw=>match y8 P on N ops ops.toList with
  | some l=>if draw then (if Zq ops l then some (.reg false l) else if Zq ops (l.map (AO.loose (tnOf on))) then some (.reg false (l.map (AO.loose (tnOf on)))) else if Zq ops (l.map (AO.loose3 false (tnOf on))) then some (.reg false (l.map (AO.loose3 false (tnOf on)))) else if Zq ops (l.map (AO.loose3 true (tnOf on))) then some (.reg false (l.map (AO.loose3 true (tnOf on)))) else none) else some (.reg true l)
  | none=>none
 | .seq a b=>match comp P on N a,comp P on N b with
  | some x,some y=>some (.seq x y)
  | _,_=>none
 | .cond c a b=>match opd c,comp P on N a,comp P on N b with
  | some c,some x,some y=>some (.cnd c x y)
  | _,_,_=>none
 | .block i a=>(comp P on N a).map (.blk i)
 | .loop a=>(comp P on N a).map .loop
 | .exit i=>some (.exit i)
 | .ret=>some .ret
 | _=>none
structure Ext (κ:Kap) (m:Mem) (w w':World):Prop where
 os:w'.os=w.os
 tape:w'.tape=w.tape
 output:w'.output=w.output
 size:w.heap.size≤w'.heap.size
 block:∀ b,b < w.heap.size→¬ Own κ m b→w'.heap[b]? = w.heap[b]?
theorem Ext.refl (κ:Kap) (m:Mem) (w:World):Ext κ m w w:=⟨rfl,rfl,rfl,Nat.le_refl _,fun _ _ _=>rfl⟩
structure MW (W0 w0:World) (κ0:Kap) (m0:Mem) (κ:Kap) (m:Mem) (w:World):Prop where
 mem:MemOk κ m w
 low:∀ b,zf κ m b→W0.heap.size≤b
 pres:Pres κ0 m0 w0 κ m w
 ext:Ext κ0 m0 w0 w
 new:∀ id b,(lk m id).isSome=true→κ id=some b→Own κ0 m0 b∨w0.heap.size≤b
 hS:κ.S=κ0.S
theorem MW.newB {W0 w0 w:World} {κ0 κ:Kap} {m0 m:Mem} (h:MW W0 w0 κ0 m0 κ m w) {b:Nat} (hb:Own κ m b):Own κ0 m0 b∨w0.heap.size≤b:=by
 obtain ⟨id,h1,h2⟩:=hb;exact h.new id b h1 h2
theorem yN {w:World} {b o:Nat} {v:Value} (h:w.cell? ⟨b,o,none⟩=some v):b < w.heap.size:=by
 unfold World.cell? at h;cases hb:w.heap[b]? with
 | none=>simp [hb] at h
 | some x=>exact (Array.getElem?_eq_some_iff.1 hb).1
theorem y5 {w w':World} {b o:Nat} (h:w'.heap[b]? = w.heap[b]?):w'.cell? ⟨b,o,none⟩=w.cell? ⟨b,o,none⟩:=by simp [World.cell?,h]
theorem j8 {α:Type} (n m:List (Nat × α)) (id:Nat):lk (n++m) id=match lk n id with | some x=>some x | none=>lk m id:=by
 induction n with
 | nil=>rfl
 | cons a n ih =>
  obtain ⟨k,x⟩:=a;simp only [List.cons_append,zr];split
  ·rfl
  ·exact ih
theorem Qy {κ:Kap} {m:Mem} {w w':World} (_hm:MemOk κ m w) (h:Below w.heap.size w w'):Pres κ m w κ m w':=by
 refine ⟨fun id cs hb=>⟨⟨cs,hb⟩,rfl⟩,fun id L sz e hr=>⟨L,hr,Nat.le_refl _,fun _=>⟨rfl,fun b arr e' hb ha=>⟨arr,?_,rfl⟩⟩,fun k _ _ _ => .inl ⟨rfl,k⟩⟩,fun b o v hl hc=>⟨hl,?_⟩⟩
 ·rw [h.block b (Array.getElem?_eq_some_iff.1 ha).1]; exact ha
 ·rw [y5 (h.block b (yN hc))]; exact hc
theorem jK.pres {κ:Kap} {m m':Mem} {κ':Kap} {w w':World} (hp:Pres κ m w κ' m' w') {id:Nat} {b:Blk} (h:jK κ m w id b) (hk:κ' id=κ id)
  (hb:∀ g,κ id=some g→w'.heap[g]? = w.heap[g]?):jK κ' m' w' id b:=by
 cases b with
 | box cs =>
  obtain ⟨g,vs,e,h1,h2,h3⟩:=h;exact ⟨g,vs,e,hk.trans h1,(hb g h1).trans h2,h3.imp fun _ _=>zb.pres hp⟩
 | row L sz e =>
  obtain ⟨h0,h00,h⟩:=h;refine ⟨h0,h00,?_⟩;rcases h with ⟨h1,h2⟩ | ⟨g,vs,rest,h1,h2,h3⟩
  ·exact .inl ⟨hk.trans h1,h2⟩
  ·exact .inr ⟨g,vs,rest,hk.trans h1,(hb g h1).trans h2,h3.imp fun _ _=>zb.pres hp⟩
theorem zmi {κ:Kap} {m:Mem} {w w':World} (hm:MemOk κ m w) (h:Below w.heap.size w w'):MemOk κ m w':=by
 refine ⟨fun id b hb=>(hm.blk id b hb).pres (Qy hm h) rfl fun g hg=>h.block g ?_,hm.inj,fun b hb=>Nat.lt_of_lt_of_le (hm.sb b hb) h.size,hm.sd⟩;exact hm.live_lt (.inr ⟨id,by simp [hb],hg⟩)
theorem MW.below {W0 w0:World} {κ0:Kap} {m0:Mem} {κ:Kap} {m:Mem} {w w':World} (hm:MW W0 w0 κ0 m0 κ m w) (h:Below w.heap.size w w') :
  MW W0 w0 κ0 m0 κ m w' :=
 ⟨zmi hm.mem h,hm.low,hm.pres.trans (Qy hm.mem h),
  ⟨h.os.trans hm.ext.os,h.tape.trans hm.ext.tape,h.output.trans hm.ext.output,Nat.le_trans hm.ext.size h.size,
   fun b hb hl=>(h.block b (Nat.lt_of_lt_of_le hb hm.ext.size)).trans (hm.ext.block b hb hl)⟩,hm.new,hm.hS⟩
theorem Z3 (w:World) (o:Obj):Below w.heap.size w (w.alloc o):=(Below.refl _ w).alloc (Nat.le_refl _) o
theorem zcg (w:World):Below w.heap.size w w.drew:=(Below.refl _ w).drew
def zp (κ:Kap) (id:Nat) (b:Option Nat):Kap:=⟨fun i=>if i=id then b else κ i,κ.S⟩
theorem zmX {κ:Kap} {m:Mem} {id:Nat} {x:Blk} {b:Nat} {o:Option Nat} (hid:lk m id=none) :
  Own (zp κ id o) ((id,x)::m) b↔Own κ m b∨o=some b:=by
 constructor
 ·rintro ⟨i,h1,h2⟩;by_cases hi:i=id
  ·subst hi; right; simpa [zp] using h2
  ·left; exact ⟨i,by simpa [zr,hi] using h1,by simpa [zp,hi] using h2⟩
 ·rintro (⟨i,h1,h2⟩ | h)
  ·have hi:i≠id:=by rintro rfl; simp [hid] at h1
   exact ⟨i,by simpa [zr,hi] using h1,by simpa [zp,hi] using h2⟩
  ·exact ⟨id,by simp [zr],by simpa [zp] using h⟩
theorem zej {κ:Kap} {m:Mem} {id:Nat} {x:Blk} {b:Nat} {o:Option Nat} (hid:lk m id=none) :
  zf (zp κ id o) ((id,x)::m) b↔zf κ m b∨o=some b:=by
 unfold zf; rw [zmX hid,or_assoc]; rfl
theorem Qz {κ:Kap} {m:Mem} {w w':World} {id:Nat} {x:Blk} {o:Option Nat} (_hm:MemOk κ m w) (hid:lk m id=none)
  (ho:∀ b,o=some b→w.heap.size≤b) (h:Below w.heap.size w w'):Pres κ m w (zp κ id o) ((id,x)::m) w':=by
 have hne:∀ i y,lk m i=some y→i≠id:=by rintro i y hi rfl; simp [hid] at hi
 refine ⟨fun i cs hb=>?_,fun i L sz e hr=>?_,fun b oo v hl hc=>?_⟩
 ·have:=hne i _ hb;exact ⟨⟨cs,by simpa [zr,this] using hb⟩,by simp [zp,this]⟩
 ·have hi:=hne i _ hr;refine ⟨L,by simpa [zr,hi] using hr,Nat.le_refl _,fun _=>⟨by simp [zp,hi],fun b arr e' hb ha=>⟨arr,?_,rfl⟩⟩,fun k _ _ _ => .inl ⟨rfl,by simpa [zp,hi] using k⟩⟩;rw [h.block b (Array.getElem?_eq_some_iff.1 ha).1]; exact ha
 ·refine ⟨?_,?_⟩
  ·rw [zej hid];rintro (h1 | h1)
   ·exact hl h1
   ·have:=ho b h1; have:=yN hc; omega
  ·rw [y5 (h.block b (yN hc))]; exact hc
theorem mem_cons {κ:Kap} {m:Mem} {w w':World} {id:Nat} {x:Blk} {o:Option Nat} (hm:MemOk κ m w) (hid:lk m id=none)
  (ho:∀ b,o=some b→w.heap.size≤b) (h:Below w.heap.size w w') (hx:jK (zp κ id o) ((id,x)::m) w' id x):MemOk (zp κ id o) ((id,x)::m) w':=by
 have hp:=Qz (x:=x) hm hid ho h;refine ⟨fun i b hb=>?_,fun i j b hi hj h1 h2=>?_,fun b hb=>Nat.lt_of_lt_of_le (hm.sb b hb) h.size,fun i b hi hb=>?_⟩
 ·by_cases hi:i=id
  ·subst hi;simp only [zr,if_true,Option.some.injEq] at hb;subst hb; exact hx
  ·have hb':lk m i=some b:=by simpa [zr,hi] using hb
   exact (hm.blk i b hb').pres hp (by simp [zp,hi]) fun g hg=>h.block g (hm.live_lt (.inr ⟨i,by simp [hb'],hg⟩))
 ·by_cases hi':i=id<;>by_cases hj':j=id
  ·rw [hi',hj']
  ·subst hi';have h3:lk m j≠none:=by simpa [zr,hj',Option.isSome_iff_ne_none] using hj
   have h4:κ j=some b:=by simpa [zp,hj'] using h2
   have h5:o=some b:=by simpa [zp] using h1
   have:=hm.live_lt (.inr ⟨j,by simpa [Option.isSome_iff_ne_none] using h3,h4⟩);have:=ho b h5; omega
  ·subst hj';have h3:lk m i≠none:=by simpa [zr,hi',Option.isSome_iff_ne_none] using hi
   have h4:κ i=some b:=by simpa [zp,hi'] using h1
   have h5:o=some b:=by simpa [zp] using h2
   have:=hm.live_lt (.inr ⟨i,by simpa [Option.isSome_iff_ne_none] using h3,h4⟩);have:=ho b h5; omega
  ·exact hm.inj i j b (by simpa [zr,hi'] using hi) (by simpa [zr,hj'] using hj) (by simpa [zp,hi'] using h1) (by simpa [zp,hj'] using h2)
 ·by_cases hi':i=id
  ·subst hi';have h5:o=some b:=by simpa [zp] using hb
   have h6:=ho b h5;intro hS;have:=hm.sb b hS; omega
  ·exact hm.sd i b (by simpa [zr,hi'] using hi) (by simpa [zp,hi'] using hb)
theorem MW.cons {W0 w0:World} {κ0:Kap} {m0:Mem} {κ:Kap} {m:Mem} {w w':World} {id:Nat} {x:Blk} {o:Option Nat} (hm:MW W0 w0 κ0 m0 κ m w)
  (hW:W0.heap.size≤w.heap.size) (hid:lk m id=none)
  (ho:∀ b,o=some b→w.heap.size≤b) (h:Below w.heap.size w w') (hx:jK (zp κ id o) ((id,x)::m) w' id x) :
  MW W0 w0 κ0 m0 (zp κ id o) ((id,x)::m) w':=by
 refine ⟨mem_cons hm.mem hid ho h hx,fun b hb=>?_,hm.pres.trans (Qz hm.mem hid ho h),(hm.below h).ext,fun i b hi hb=>?_,hm.hS⟩
 ·rcases (zej hid).1 hb with h1 | h1
  ·exact hm.low b h1
  ·have:=ho b h1; omega
 ·by_cases hii:i=id
  ·subst hii;have:=ho b (by simpa [zp] using hb); have:=hm.ext.size; right; omega
  ·exact hm.new i b (by simpa [zr,hii] using hi) (by simpa [zp,hii] using hb)
theorem yB (w:World) {n:Nat} (h:w.heap.size=n) (o:Obj):(w.alloc o).heap[n]? = some o:=by
 subst h;show (w.heap.push o)[w.heap.size]? = some o;exact Array.getElem?_push_size
theorem MW.box {W0 w0:World} {κ0:Kap} {m0:Mem} {κ:Kap} {m:Mem} {w:World} {id:Nat} {cs:List PV} {vs:List Value} (hm:MW W0 w0 κ0 m0 κ m w)
  (hW:W0.heap.size≤w.heap.size) (hid:lk m id=none) (e:TypeId) (hv:za (zb κ m w) cs vs) :
  MW W0 w0 κ0 m0 (zp κ id (some w.heap.size)) ((id,.box cs)::m) (w.alloc (.cells vs.toArray e)) ∧
   Pres κ m w (zp κ id (some w.heap.size)) ((id,.box cs)::m) (w.alloc (.cells vs.toArray e)):=by
 have ho:∀ b,some w.heap.size=some b→w.heap.size≤b:=by rintro b hb; cases hb; exact Nat.le_refl _
 have hp:=Qz (x := .box cs) hm.mem hid ho (Z3 w (.cells vs.toArray e));refine ⟨hm.cons hW hid ho (Z3 w _) ?_,hp⟩;exact ⟨w.heap.size,vs,e,by simp [zp],yB w rfl _,hv.imp fun _ _=>zb.pres hp⟩
theorem MW.newRow {W0 w0:World} {κ0:Kap} {m0:Mem} {κ:Kap} {m:Mem} {w:World} {id:Nat} {L:List PV} {sz:Nat} {vs rest:List Value} (hm:MW W0 w0 κ0 m0 κ m w)
  (hW:W0.heap.size≤w.heap.size) (hid:lk m id=none) (e:TypeId) (hsz:∀ x∈L,x.cells.length=sz) (h0:0 < sz) (hv:za (zb κ m w) (L.flatMap PV.cells) vs)
  {w':World} (hw:w'=w∨w'=w.drew) :
  MW W0 w0 κ0 m0 (zp κ id (some w.heap.size)) ((id,.row L sz e)::m) (w'.alloc (.cells (vs++rest).toArray e)) ∧
   Pres κ m w (zp κ id (some w.heap.size)) ((id,.row L sz e)::m) (w'.alloc (.cells (vs++rest).toArray e)):=by
 have hs:w'.heap.size=w.heap.size:=by rcases hw with rfl|rfl<;>rfl
 have hb:Below w.heap.size w (w'.alloc (.cells (vs++rest).toArray e)):=by
  rcases hw with rfl|rfl
  ·exact Z3 _ _
  ·exact (zcg w).alloc (Nat.le_refl _) _
 have ho:∀ b,some w.heap.size=some b→w.heap.size≤b:=by rintro b hb; cases hb; exact Nat.le_refl _
 have hp:=Qz (x := .row L sz e) hm.mem hid ho hb;refine ⟨hm.cons hW hid ho hb ?_,hp⟩;exact ⟨hsz,h0,.inr ⟨w.heap.size,vs,rest,by simp [zp],yB w' hs _,hv.imp fun _ _=>zb.pres hp⟩⟩
theorem MW.noRow {W0 w0:World} {κ0:Kap} {m0:Mem} {κ:Kap} {m:Mem} {w:World} {id:Nat} {sz:Nat} (hm:MW W0 w0 κ0 m0 κ m w)
  (hW:W0.heap.size≤w.heap.size) (hid:lk m id=none) (e:TypeId) (h0:0 < sz) :
  MW W0 w0 κ0 m0 (zp κ id none) ((id,.row [] sz e)::m) w∧Pres κ m w (zp κ id none) ((id,.row [] sz e)::m) w:=by
 have ho:∀ b,(none:Option Nat)=some b→w.heap.size≤b:=by rintro b hb; cases hb
 refine ⟨hm.cons hW hid ho (Below.refl _ w) ⟨by simp,h0,.inl ⟨by simp [zp],.inl rfl⟩⟩,Qz hm.mem hid ho (Below.refl _ w)⟩
theorem ZK (m:Mem) (id:Nat) (x:Blk) (i:Nat):lk (upd m id x) i=if i=id∧(lk m id).isSome=true then some x else lk m i:=by
 induction m with
 | nil=>simp [upd,lk]
 | cons a m ih =>
  obtain ⟨k,y⟩:=a;by_cases hk:k=id
  ·subst hk;simp only [upd,if_true,zr];by_cases hi:i=k<;>simp [hi]
  ·simp only [upd,if_neg hk,zr,ih];by_cases hi:i=k
   ·subst hi; simp [hk]
   ·by_cases hi':i=id
    ·subst hi'; simp [hi]
    ·simp [hi,hi']
theorem yW {m:Mem} {id:Nat} {x y:Blk} (h:lk m id=some y):lk (upd m id x) id=some x:=by simp [ZK,h]
theorem Yy {m:Mem} {id i:Nat} {x:Blk} (h:i≠id):lk (upd m id x) i=lk m i:=by simp [ZK,h]
theorem Js (m:Mem) (id:Nat) (x:Blk) (i:Nat):(lk (upd m id x) i).isSome=(lk m i).isSome:=by
 rw [ZK]; split
 ·rename_i h; rw [h.1,h.2]; rfl
 ·rfl
theorem MW.turnG {W0 w0:World} {κ0:Kap} {m0:Mem} {κ κ':Kap} {m:Mem} {w w':World} {id:Nat} {x y:Blk} (hm:MW W0 w0 κ0 m0 κ m w)
  (hW:W0.heap.size≤w.heap.size) (hid:lk m id=some y) (hos:w'.os=w.os) (htape:w'.tape=w.tape) (hout:w'.output=w.output) (hsize:w.heap.size≤w'.heap.size)
  (hS:κ'.S=κ.S) (hk:∀ i,i≠id→κ' i=κ i) (hblk:∀ k,k < w.heap.size→κ id≠some k→w'.heap[k]? = w.heap[k]?)
  (hk':κ' id=κ id∨(∃ b,κ' id=some b∧w.heap.size≤b)∨κ' id=none)
  (hbox:∀ cs,y = .box cs→(∃ cs',x = .box cs')∧κ' id=κ id)
  (hrow:∀ L sz e,y = .row L sz e→∃ L',x = .row L' sz e∧L.length≤L'.length ∧
   (L'.length=L.length→κ' id=κ id∧∀ b arr e',κ id=some b→w.heap[b]? = some (.cells arr e' (0,0))→∃ arr',w'.heap[b]? = some (.cells arr' e' (0,0))∧arr'.size=arr.size) ∧
   (κ' id=none→∀ C,C≠[]→L'=zI sz C→(L'=L∧κ id=none)∨(L.length≤C.length∧(L.length=C.length→∀ v,zX κ w id L.length sz v→RepC w' (zf κ' (upd m id x)) (.row C) v))))
  (hx:Pres κ m w κ' (upd m id x) w'→jK κ' (upd m id x) w' id x) :
  MW W0 w0 κ0 m0 κ' (upd m id x) w'∧Pres κ m w κ' (upd m id x) w':=by
 have hown:∀ b,Own κ' (upd m id x) b→Own κ m b∨w.heap.size≤b:=by
  rintro b ⟨i,h1,h2⟩;rw [Js] at h1;by_cases hi:i=id
  ·subst hi;rcases hk' with h3 | ⟨b',h3,h4⟩ | h3
   ·left; exact ⟨i,h1,h3▸h2⟩
   ·right; rw [h3] at h2; cases h2; exact h4
   ·rw [h3] at h2; cases h2
  ·left; exact ⟨i,h1,hk i hi▸h2⟩
 have hlive:∀ b,zf κ' (upd m id x) b→zf κ m b∨w.heap.size≤b:=by
  rintro b (hb | hb)
  ·exact .inl (.inl (hS▸hb))
  ·exact (hown b hb).imp .inr fun h=>h
 have hp:Pres κ m w κ' (upd m id x) w':=by
  refine ⟨fun i cs hb=>?_,fun i L sz e hr=>?_,fun b o v hl hc=>?_⟩
  ·by_cases hi:i=id
   ·subst hi;rw [hid] at hb; cases hb;obtain ⟨⟨cs',h1⟩,h2⟩:=hbox cs rfl;exact ⟨⟨cs',by rw [yW hid,h1]⟩,h2⟩
   ·exact ⟨⟨cs,by rw [Yy hi]; exact hb⟩,hk i hi⟩
  ·by_cases hi:i=id
   ·subst hi;rw [hid] at hr; cases hr;obtain ⟨L',h1,h2,h3⟩:=hrow L sz e rfl;exact ⟨L',by rw [yW hid,h1],h2,h3⟩
   ·refine ⟨L,by rw [Yy hi]; exact hr,Nat.le_refl _,fun _=>⟨hk i hi,fun b arr e' hb ha=>⟨arr,?_,rfl⟩⟩,fun k _ _ _ => .inl ⟨rfl,(hk i hi).symm.trans k⟩⟩;rw [hblk b (Array.getElem?_eq_some_iff.1 ha).1 fun h=>hi (hm.mem.inj i id b (by simp [hr]) (by simp [hid]) hb h)]; exact ha
  ·have hlt:=yN hc;refine ⟨fun h=>?_,?_⟩
   ·rcases hlive b h with h1 | h1
    ·exact hl h1
    ·omega
   ·rw [y5 (hblk b hlt fun h=>hl (.inr ⟨id,by simp [hid],h⟩))]; exact hc
 have hbx:=hx hp;refine ⟨⟨⟨fun i b hb=>?_,fun i j b hi hj h1 h2=>?_,fun b hb=>Nat.lt_of_lt_of_le (hm.mem.sb b (hS▸hb)) hsize,fun i b hi hb=>?_⟩,fun b hb=>?_,hm.pres.trans hp,⟨hos.trans hm.ext.os,htape.trans hm.ext.tape,hout.trans hm.ext.output,Nat.le_trans hm.ext.size hsize,fun b hb hl=>?_⟩,fun i b hi hb=>?_,hS.trans hm.hS⟩,hp⟩
 ·by_cases hi:i=id
  ·subst hi;rw [yW hid] at hb; cases hb; exact hbx
  ·rw [Yy hi] at hb;refine (hm.mem.blk i b hb).pres hp (hk i hi) fun g hg=>hblk g (hm.mem.live_lt (.inr ⟨i,by simp [hb],hg⟩)) fun h=>hi (hm.mem.inj i id g (by simp [hb]) (by simp [hid]) hg h)
 ·rw [Js] at hi hj;by_cases hi':i=id<;>by_cases hj':j=id
  ·rw [hi',hj']
  ·subst hi';rw [hk j hj'] at h2;rcases hk' with h3 | ⟨b',h3,h4⟩ | h3
   ·exact hm.mem.inj i j b hi hj (h3▸h1) h2
   ·rw [h3] at h1; cases h1;have:=hm.mem.live_lt (.inr ⟨j,hj,h2⟩); omega
   ·rw [h3] at h1; cases h1
  ·subst hj';rw [hk i hi'] at h1;rcases hk' with h3 | ⟨b',h3,h4⟩ | h3
   ·exact hm.mem.inj i j b hi hj h1 (h3▸h2)
   ·rw [h3] at h2; cases h2;have:=hm.mem.live_lt (.inr ⟨i,hi,h1⟩); omega
   ·rw [h3] at h2; cases h2
  ·exact hm.mem.inj i j b hi hj (hk i hi'▸h1) (hk j hj'▸h2)
 ·rw [Js] at hi;rw [hS];by_cases hi':i=id
  ·subst hi';rcases hk' with h3 | ⟨b',h3,h4⟩ | h3
   ·exact hm.mem.sd i b hi (h3▸hb)
   ·rw [h3] at hb; cases hb;intro hs;have:=hm.mem.sb _ hs; omega
   ·rw [h3] at hb; cases hb
  ·exact hm.mem.sd i b hi (hk i hi'▸hb)
 ·rcases hlive b hb with h1 | h1
  ·exact hm.low b h1
  ·omega
 ·rw [hblk b (Nat.lt_of_lt_of_le hb hm.ext.size) ?_]
  ·exact hm.ext.block b hb hl
  ·intro h;rcases hm.newB ⟨id,by simp [hid],h⟩ with h1 | h1
   ·exact hl h1
   ·omega
 ·rw [Js] at hi;by_cases hii:i=id
  ·subst hii;rcases hk' with h3 | ⟨b',h3,h4⟩ | h3
   ·exact hm.new i b hi (h3▸hb)
   ·rw [h3] at hb; cases hb;have:=hm.ext.size; right; omega
   ·rw [h3] at hb; cases hb
  ·exact hm.new i b hi (hk i hii▸hb)
theorem MW.turn {W0 w0:World} {κ0:Kap} {m0:Mem} {κ κ':Kap} {m:Mem} {w w':World} {id:Nat} {x y:Blk} (hm:MW W0 w0 κ0 m0 κ m w)
  (hW:W0.heap.size≤w.heap.size) (hid:lk m id=some y) (hos:w'.os=w.os) (htape:w'.tape=w.tape) (hout:w'.output=w.output) (hsize:w.heap.size≤w'.heap.size)
  (hS:κ'.S=κ.S) (hk:∀ i,i≠id→κ' i=κ i) (hblk:∀ k,k < w.heap.size→κ id≠some k→w'.heap[k]? = w.heap[k]?)
  (hk':κ' id=κ id∨∃ b,κ' id=some b∧w.heap.size≤b)
  (hbox:∀ cs,y = .box cs→(∃ cs',x = .box cs')∧κ' id=κ id)
  (hrow:∀ L sz e,y = .row L sz e→∃ L',x = .row L' sz e∧L.length≤L'.length ∧
   (L'.length=L.length→κ' id=κ id∧∀ b arr e',κ id=some b→w.heap[b]? = some (.cells arr e' (0,0))→∃ arr',w'.heap[b]? = some (.cells arr' e' (0,0))∧arr'.size=arr.size))
  (hx:Pres κ m w κ' (upd m id x) w'→jK κ' (upd m id x) w' id x) (hmx:(∀ L sz e,x = .row L sz e→L.length≤maxLen)∨∃ b,κ id=some b) :
  MW W0 w0 κ0 m0 κ' (upd m id x) w'∧Pres κ m w κ' (upd m id x) w':=by
 refine hm.turnG hW hid hos htape hout hsize hS hk hblk (hk'.imp (fun h=>h) .inl) hbox (fun L sz e hy=>?_) hx;obtain ⟨L',e1,e2,e3⟩:=hrow L sz e hy;refine ⟨L',e1,e2,e3,fun k C hne hC=>?_⟩;exfalso;rcases hmx with h | ⟨b,h⟩
 ·have h1:=h L' sz e e1;have:=Jn sz C;rw [← hC] at this;omega
 ·rcases hk' with h3 | ⟨b',h3,_⟩
  ·rw [h3,h] at k; cases k
  ·rw [h3] at k; cases k
theorem qq (b off j:Nat):(⟨b,off,none⟩:Addr).add j=⟨b,off+j,none⟩:=by
 unfold Addr.add; split
 ·rename_i h; subst h; rfl
 ·rfl
theorem zcq {v:Value} (h:v.oneCell'=true):v.cells=#[v]:=by cases v<;>first|rfl|simp [Value.oneCell'] at h
section
variable {κ:Kap} {m:Mem} {w:World}
theorem zb.of_c {x:CV} {v:Value} (h:RepC w (zf κ m) x v) (h1:v.oneCell'=true):zb κ m w (.c x) v:=by
 cases x with
 | sc u=>exact h
 | row L=>exact h
 | agg cs=>cases h; simp [Value.oneCell'] at h1
 | tup cs=>cases h; simp [Value.oneCell'] at h1
theorem zb.to_c {x:CV} {v:Value} (h:zb κ m w (.c x) v):RepC w (zf κ m) x v:=by
 cases x with
 | sc u=>exact h
 | row L=>exact h
 | agg cs=>exact h.elim
 | tup cs=>exact h.elim
theorem zg.of1 {x:PV} {v:Value} (h:zb κ m w x v):zg κ m w x v:=by
 cases x with
 | c x =>
  cases x with
  | agg=>exact h.elim
  | tup=>exact h.elim
  | sc u=>exact h
  | row L=>exact h
 | agg=>exact h.elim
 | tup=>exact h.elim
 | _=>exact h
theorem Rep.ofA {x:PV} {v:Value} (h:zg κ m w x v):Rep κ m w x v:=by
 cases x with
 | c x =>
  cases x with
  | tup=>exact (show False from h).elim
  | agg u=>exact h
  | sc u=>exact h
  | row L=>exact h
 | tup=>exact (show False from h).elim
 | _=>exact h
theorem Rep.of1 {x:PV} {v:Value} (h:zb κ m w x v):Rep κ m w x v := .ofA (.of1 h)
theorem Rep.c {x:CV} {v:Value} (h:Rep κ m w (.c x) v):RepC w (zf κ m) x v:=by
 cases x with
 | tup=>exact h
 | agg u=>exact h
 | sc u=>exact h
 | row L=>exact h
theorem Rep.of_c {x:CV} {v:Value} (h:RepC w (zf κ m) x v):Rep κ m w (.c x) v:=by
 cases x with
 | tup=>exact h
 | agg u=>exact h
 | sc u=>exact h
 | row L=>exact h
theorem Rep.sc {u v:Value} (h:Rep κ m w (.c (.sc u)) v):v=u∧wfv u:=by
 cases (Rep.c h) with
 | sc hv=>exact ⟨rfl,hv⟩
theorem Zr {x:CV} {v:Value} (h:RepC w (zf κ m) x v) (ht:∀ cs,x ≠ .tup cs):za (fun y u=>RepC w (zf κ m) y u∧u.oneCell'=true) x.cells v.cells.toList:=by
 cases h with
 | sc hv=>simp only [CV.cells,zcq (zb5 hv)]; exact ⟨⟨.sc hv,zb5 hv⟩,trivial⟩
 | @agg cs vs hl h1 h2 =>
  simp only [CV.cells,Value.cells];exact za.of_get hl fun i a b ha hb=>⟨h1 i a b ha hb,h2 b (List.mem_of_getElem? hb)⟩
 | tup=>exact absurd rfl (ht _)
 | nil hc=>exact ⟨⟨.nil hc,rfl⟩,trivial⟩
 | row h1 h2 h3 h4 h5 h6 h7 h8 h9 h10=>exact ⟨⟨.row h1 h2 h3 h4 h5 h6 h7 h8 h9 h10,rfl⟩,trivial⟩
theorem za.map_c {cs:List CV} {vs:List Value} (h:za (fun y u=>RepC w (zf κ m) y u∧u.oneCell'=true) cs vs):za (zb κ m w) (cs.map .c) vs :=
 za.map_left PV.c (h.imp fun _ _ hh=>zb.of_c hh.1 hh.2)
theorem za.unmap_c {cs:List CV} {vs:List Value} (h:za (zb κ m w) (cs.map .c) vs):za (fun y u=>RepC w (zf κ m) y u∧u.oneCell'=true) cs vs :=
 (za.of_map_left PV.c h).imp fun _ _ hh=>⟨zb.to_c hh,zb.one hh⟩
theorem zb.cells1 {x:PV} {v:Value} (h:zb κ m w x v):za (zb κ m w) [x] v.cells.toList:=by
 rw [zcq (zb.one h)]; exact ⟨h,trivial⟩
theorem zg.cells {x:PV} {v:Value} (h:zg κ m w x v):za (zb κ m w) x.cells v.cells.toList:=by
 cases x with
 | agg cs=>obtain ⟨vs,rfl,h2⟩:=h; simpa [PV.cells,Value.cells] using h2
 | tup=>exact (show False from h).elim
 | c x =>
  cases x with
  | tup=>exact (show False from h).elim
  | agg cs=>exact za.map_c (Zr (x := .agg cs) h (by simp))
  | sc u=>exact za.map_c (Zr (x := .sc u) h (by simp))
  | row u=>exact za.map_c (Zr (x := .row u) h (by simp))
 | nil=>exact zb.cells1 (x := .nil) h
 | np=>exact zb.cells1 (x := .np) h
 | ptr a b=>exact zb.cells1 (x := .ptr a b) h
 | own a b=>exact zb.cells1 (x := .own a b) h
 | ep a b=>exact zb.cells1 (x := .ep a b) h
 | eo a b c d=>exact zb.cells1 (x := .eo a b c d) h
 | sl a b c d=>exact zb.cells1 (x := .sl a b c d) h
 | fn a b=>exact zb.cells1 (x := .fn a b) h
theorem zg.of_val {x:PV} {v:Value} (h:Rep κ m w x v) (hx:x.isVal=true):zg κ m w x v:=by
 cases x with
 | tup cs=>simp [PV.isVal] at hx
 | c x =>
  cases x with
  | tup cs=>simp [PV.isVal] at hx
  | agg u=>exact h
  | sc u=>exact h
  | row L=>exact h
 | _=>exact h
theorem YW {cs:List CV} {vs:List Value} (h:za (fun y u=>RepC w (zf κ m) y u∧u.oneCell'=true) cs vs):RepC w (zf κ m) (.agg cs) (.agg vs.toArray):=by
 refine .agg h.length (fun i x v hx hv=>?_) fun v hv=>?_
 ·obtain ⟨b,hb,hr,_⟩:=h.get i x hx;rw [hv] at hb; cases hb; exact hr
 ·obtain ⟨i,hi⟩:=List.mem_iff_getElem?.1 hv;have hlt:i < cs.length:=by
   rw [h.length];rcases Nat.lt_or_ge i vs.length with h' | h'
   ·exact h'
   ·simp [List.getElem?_eq_none h'] at hi
  obtain ⟨b,hb,_,h1⟩:=h.get i cs[i] (by simp [hlt]);rw [hi] at hb; cases hb; exact h1
theorem zab {cs:List PV} {l:List CV} (h:qd cs=some l):cs=l.map .c:=by
 induction cs generalizing l with
 | nil=>simp [qd] at h; subst h; rfl
 | cons a cs ih =>
  cases a with
  | c x =>
   simp only [qd,Option.map_eq_some_iff] at h;obtain ⟨k,hk,rfl⟩:=h;simp [ih hk]
  | _=>simp [qd] at h
theorem zg.of_mkAgg {cs:List PV} {vs:List Value} (h:za (zb κ m w) cs vs):zg κ m w (jm cs) (.agg vs.toArray):=by
 unfold jm;cases hs:qd cs with
 | none=>exact ⟨vs,rfl,h⟩
 | some l =>
  obtain rfl:=zab hs;exact YW (za.unmap_c h)
theorem zmG {k:IntKind} {n:Int} (h:okInt k n=true):k.min≤n∧n≤k.max:=by
 simpa [okInt] using h
theorem zee {v:Value} {x:PV} (h:kv1 v=some x):zb κ m w x v:=by
 unfold kv1 at h;split at h
 ·cases h; exact ⟨none,rfl⟩
 ·cases h; exact RepC.sc trivial
 ·split at h
  ·cases h; exact RepC.sc (zmG ‹_›)
  ·cases h
 ·split at h
  ·cases h; exact RepC.sc (by show _≤maxLen; unfold maxLen; omega)
  ·cases h
 ·cases h; exact RepC.sc trivial
 ·cases h; rfl
 ·cases h
theorem zl4 {vs:List Value} {l:List PV} (h:kv1s vs=some l):za (zb κ m w) l vs:=by
 induction vs generalizing l with
 | nil=>simp [kv1s] at h; subst h; trivial
 | cons v vs ih =>
  simp only [kv1s] at h;split at h
  ·rename_i x k hx hk;cases h;exact ⟨zee hx,ih hk⟩
  ·cases h
theorem zef {v:Value} {x:PV} (h:kv v=some x):Rep κ m w x v:=by
 unfold kv at h;split at h
 ·simp only [Option.map_eq_some_iff] at h;obtain ⟨l,hl,rfl⟩:=h;exact ⟨_,by simp,zl4 hl⟩
 ·split at h
  ·cases h;rename_i vs hv;have:vs=#[]:=by simpa using hv
   subst this;exact RepC.tup (cs:=[]) (vs:=[]) rfl (by simp)
  ·cases h
 ·exact .of1 (zee h)
end
def Evs (κ:Kap) (m:Mem) (w:World) (ρ:AX→Option PV) (e:Operand→Value):Prop :=
 ∀ x ax v,opd x=some ax→ρ ax=some v→Rep κ m w v (e x)
theorem zko {κ:Kap} {m:Mem} {w:World} {F:List (Nat × PV)} {a:Act} (h:∀ t x,lk F t=some x→Rep κ m w x (a.tmps.getD t undef)) :
  Evs κ m w (AX.ev F) a.eval:=by
 intro x ax v hx hv;cases x with
 | tmp t=>simp only [opd] at hx; cases hx; exact h t v hv
 | const u =>
  simp only [opd,Option.map_eq_some_iff] at hx;obtain ⟨p,hp,rfl⟩:=hx;simp only [AX.ev] at hv; cases hv;exact zef hp
 | func f=>simp only [opd] at hx; cases hx; simp only [AX.ev] at hv; cases hv; exact RepC.sc trivial
 | global g=>simp [opd] at hx
section
variable (P:Program) (W0 w0:World) (κ0:Kap) (m0:Mem) (κ:Kap) (m:Mem) (w:World)
def zW (e:Operand→Value) (o:Oper) (K:PV→Mem→Prop):Prop :=
 ∃ v w' κ' r news,(execOp e o).run P w = .ok (.value v) w'∧K r news ∧
  ((∀ id,(lk news id).isSome=true→lk m id=none)→MW W0 w0 κ0 m0 κ' (news++m) w'∧Pres κ m w κ' (news++m) w'∧Rep κ' (news++m) w' r v)
end
section
variable {P:Program} {W0 w0:World} {κ0:Kap} {m0:Mem} {κ:Kap} {m:Mem} {w:World} {e:Operand→Value} {o:Oper} {K:PV→Mem→Prop}
theorem zW.same (hm:MW W0 w0 κ0 m0 κ m w) {v:Value} {r:PV} (hr:(execOp e o).run P w = .ok (.value v) w) (hk:K r []) (hv:Rep κ m w r v):zW P W0 w0 κ0 m0 κ m w e o K :=
 ⟨v,w,κ,r,[],hr,hk,fun _=>⟨hm,Pres.refl _ _ _,hv⟩⟩
theorem zW.below (hm:MW W0 w0 κ0 m0 κ m w) {v:Value} {w':World} {r:PV} (hr:(execOp e o).run P w = .ok (.value v) w') (hb:Below w.heap.size w w') (hk:K r [])
  (hv:Pres κ m w κ m w'→Rep κ m w' r v):zW P W0 w0 κ0 m0 κ m w e o K :=
 ⟨v,w',κ,r,[],hr,hk,fun _=>⟨hm.below hb,Qy hm.mem hb,hv (Qy hm.mem hb)⟩⟩
end
section
variable {P:Program} {w:World}
theorem Zt {t:TypeId} {g:Bool} (h:jR P t=some g):(isAgg t).run P w = .ok g w:=by
 unfold jR at h;split at h
 ·rename_i fs hu; cases h; simp [isAgg,run_underlying hu]
 ·cases h
 ·rename_i d h1 h2 hu;cases h;rename_i h3;cases d<;>simp_all [isAgg,run_underlying hu]
 ·cases h
theorem zlW {t:TypeId} {n:Nat} (h:jr P t=some n):∃ i,P.info? t=some i∧i.size=n:=by
 unfold jr at h
 simpa using h
theorem qa {t:TypeId} {n:Nat} (h:jr P t=some n):(sizeOf t).run P w = .ok n w:=by
 obtain ⟨i,hi,rfl⟩:=zlW h;simp [sizeOf,typeInfo,hi]
theorem zbO {t:TypeId} {b off:Nat} {cs:List Value} (ha:jR P t=some true) (hn:jr P t=some cs.length)
  (h:∀ j v,cs[j]? = some v→w.cell? ⟨b,off+j,none⟩=some v):(Instr.loadAt t (.pointer (some ⟨b,off,none⟩))).run P w = .ok (.agg cs.toArray) w:=by
 have hl:=run_loadCells_list (P:=P) w ⟨b,off,none⟩ cs (fun j v hv=>by rw [qq]; exact h j v hv);simp [Instr.loadAt,Instr.sureAddr,loadVar,Zt ha,qa hn,hl]
theorem zbP {t:TypeId} {b off:Nat} {v:Value} (ha:jR P t=some false) (h:w.cell? ⟨b,off,none⟩=some v) :
  (Instr.loadAt t (.pointer (some ⟨b,off,none⟩))).run P w = .ok v w:=by
 simp [Instr.loadAt,Instr.sureAddr,loadVar,Zt ha,h]
theorem j1 {b:Nat} {vs:List Value} {e:TypeId} {f:Nat × Nat} (h:w.heap[b]? = some (.cells vs.toArray e f)) (j:Nat):w.cell? ⟨b,j,none⟩=vs[j]? := by
 simp [World.cell?,h]
theorem zfj {s:TypeId} {fs:Array Field} {f:Nat} {g:Field} {n b off:Nat} (hs:P.underlying s=some (.struct fs)) (hf:fs[f]? = some g) (hg:jr P g.type=some n) (hn:0 < n) :
  (Instr.fieldAt s (.pointer (some ⟨b,off,none⟩)) f).run P w = .ok (.pointer (some ⟨b,off+g.offset,none⟩)) w:=by
 have:¬ n=0:=by omega
 simp [Instr.fieldAt,run_underlying hs,hf,Instr.sureAddr,fieldPlace,qa hg,this,qq]
theorem zbN {t el:TypeId} {n b off len cap:Nat} {k:IntKind} {i:Int} (ht:qf P t=some el) (hn:jr P el=some n) (h0:0≤i) (h1:i < len) :
  (Instr.indexAt t (.slice (some ⟨b,off,none⟩) len cap) (.int k i)).run P w = .ok (.pointer (some ⟨b,off+i.toNat * n,none⟩)) w:=by
 have hu:P.underlying t=some (.slice el):=by
  unfold qf at ht; split at ht
  ·rename_i hu; cases ht; exact hu
  ·cases ht
 simp [Instr.indexAt,asIntOf,run_underlying hu,h0,h1,qa hn,qq]
theorem Q9 {t el:TypeId} (ht:qf P t=some el):P.underlying t=some (.slice el):=by
 unfold qf at ht; split at ht
 ·rename_i hu; cases ht; exact hu
 ·cases ht
end
theorem zak {κ:Kap} {m:Mem} {w:World} {id b:Nat} {cs:List PV} (hm:MemOk κ m w) (hl:lk m id=some (.box cs)) (hk:κ id=some b) :
  ∃ vs e,w.heap[b]? = some (.cells (List.toArray vs) e (0,0))∧za (zb κ m w) cs vs:=by
 obtain ⟨b',vs,e,h1,h2,h3⟩:=hm.blk id _ hl;rw [hk] at h1; cases h1;exact ⟨vs,e,h2,h3⟩
theorem zfg {κ:Kap} {m:Mem} {w:World} {id b:Nat} {L:List PV} {sz:Nat} {e:TypeId} (hm:MemOk κ m w) (hl:lk m id=some (.row L sz e)) (hk:κ id=some b) :
  (∀ x∈L,x.cells.length=sz)∧0 < sz∧∃ vs rest,w.heap[b]? = some (.cells (List.toArray (vs++rest)) e (0,0))∧za (zb κ m w) (L.flatMap PV.cells) vs:=by
 obtain ⟨h1,h2,h3⟩:=hm.blk id _ hl;refine ⟨h1,h2,?_⟩;rcases h3 with ⟨h3,_⟩ | ⟨b',vs,rest,h3,h4,h5⟩
 ·rw [hk] at h3; cases h3
 ·rw [hk] at h3; cases h3;exact ⟨vs,rest,h4,h5⟩
theorem yA {L:List PV} {sz:Nat} (h:∀ x∈L,x.cells.length=sz):(L.flatMap PV.cells).length=L.length * sz:=by
 induction L with
 | nil=>simp
 | cons a l ih =>
  simp only [List.flatMap_cons,List.length_append,List.length_cons,h a (by simp),ih (fun x hx=>h x (by simp [hx])),Nat.add_mul];omega
theorem zaP {α β:Type} {f:α→List β} {L:List α} {sz:Nat} (h:∀ x∈L,(f x).length=sz) {i j:Nat} {x:α} (hx:L[i]? = some x) (hj:j < sz) :
  (L.flatMap f)[i * sz+j]? = (f x)[j]? := by
 induction L generalizing i with
 | nil=>simp at hx
 | cons a l ih =>
  have ha:=h a (by simp);cases i with
  | zero =>
   simp at hx; subst hx;rw [List.flatMap_cons,List.getElem?_append_left (by omega)]
   congr 1; omega
  | succ i =>
   simp at hx;rw [List.flatMap_cons,List.getElem?_append_right (by rw [ha,Nat.add_mul]; omega),ha];have:=ih (fun x hx=>h x (by simp [hx])) hx;rw [← this]; congr 1; rw [Nat.add_mul]; omega
theorem yS {α:Type} (l:List α) (off n j:Nat) (hj:j < n):((l.drop off).take n)[j]? = l[off+j]? := by
 rw [List.getElem?_take,if_pos hj,List.getElem?_drop]
theorem ze {α:Type} {o:Option α} {f:α→Prop} (h:onv o f):∃ v,o=some v∧f v:=by
 cases o with
 | none=>exact h.elim
 | some v=>exact ⟨v,rfl,h⟩
section
variable {P:Program} {W0 w0:World} {κ0:Kap} {m0:Mem} {κ:Kap} {m mr:Mem} {w:World} {e:Operand→Value} {o:Oper} {K:PV→Mem→Prop} {ρ:AX→Option PV} {d:Nat}
theorem zfO (hm:MW W0 w0 κ0 m0 κ m w) (hev:Evs κ m w ρ e) {x:Operand} {ax:AX} (ho:o.op = .move x∨o.op = .assign x) (hx:opd x=some ax) (hs:zo ρ d mr (.mv ax) K) :
  zW P W0 w0 κ0 m0 κ m w e o K:=by
 obtain ⟨v,hv,hk⟩:=ze hs;refine .same hm (v:=e x) ?_ hk (hev _ _ _ hx hv);rcases ho with ho | ho<;>simp [execOp,ho]
theorem znU (hm:MW W0 w0 κ0 m0 κ m w) (hev:Evs κ m w ρ e) {x:Operand} {ax:AX} (ho:o.op = .nilCheck x) (hx:opd x=some ax) (hs:zo ρ d mr (.nck ax) K) :
  zW P W0 w0 κ0 m0 κ m w e o K:=by
 obtain ⟨v,hv,hk⟩:=ze hs;have hr:=hev _ _ _ hx hv;cases v with
 | ptr id off =>
  have hr':=hr;obtain ⟨b,cs,h1,h2,h3⟩:=hr;refine .same hm (v:=e x) ?_ hk hr';simp [execOp,ho,h3]
 | _=>exact (show False from hk).elim
theorem znF (hm:MW W0 w0 κ0 m0 κ m w) (hW:W0.heap.size≤w.heap.size) (hev:Evs κ m w ρ e) {x:Operand} {ax:AX} {sz:Nat} {el:TypeId}
  (ho:o.op = .assign x) (hx:opd x=some ax) (hs:zo ρ d mr (.asn ax sz el) K):zW P W0 w0 κ0 m0 κ m w e o K:=by
 obtain ⟨v,hv,hk⟩:=ze hs;have hr:=hev _ _ _ hx hv;have hrun:(execOp e o).run P w = .ok (.value (e x)) w:=by simp [execOp,ho]
 cases v with
 | nil =>
  simp only [] at hk;split at hk
  ·rename_i hc;refine ⟨e x,w,zp κ (16 * d) none,.own (16 * d) 0,_,hrun,hk,fun hf=>?_⟩;have hid:=hf (16 * d) (by simp [lk]);obtain ⟨h1,h2⟩:=hm.noRow hW hid el hc.2;refine ⟨h1,h2,?_⟩;obtain ⟨oo,ho'⟩:=hr;exact ⟨⟨oo,0,ho',Nat.zero_le _⟩,Nat.zero_le _,[],sz,el,by simp [zr],Nat.le_refl _,fun _=>by simp [zX,zp,ho'],.no (Nat.zero_le _)⟩
  ·exact .same hm hrun hk hr
 | _=>exact .same hm hrun hk hr
theorem znX (hm:MW W0 w0 κ0 m0 κ m w) (hev:Evs κ m w ρ e) {c x y:Operand} {ac ax ay:AX} (ho:o.op = .pick c x y) (hc:opd c=some ac) (hx:opd x=some ax) (hy:opd y=some ay)
  (hs:zo ρ d mr (.pick ac ax ay) K):zW P W0 w0 κ0 m0 κ m w e o K:=by
 obtain ⟨v,hv,hk⟩:=ze hs;have hr:=hev _ _ _ hc hv;cases v with
 | c cx =>
  cases cx with
  | sc u =>
   cases u with
   | bool t =>
    obtain ⟨h1,_⟩:=Rep.sc hr;cases t with
    | true =>
     obtain ⟨u,hu,hk'⟩:=ze (hk.1 rfl);exact .same hm (v:=e x) (by simp [execOp,ho,h1,asBool]) hk' (hev _ _ _ hx hu)
    | false =>
     obtain ⟨u,hu,hk'⟩:=ze (hk.2 rfl);exact .same hm (v:=e y) (by simp [execOp,ho,h1,asBool]) hk' (hev _ _ _ hy hu)
   | _=>exact (show False from hk).elim
  | _=>exact (show False from hk).elim
 | _=>exact (show False from hk).elim
theorem zag {t:TypeId} {z:PV} (h:qK P t=some z):∃ i u,P.info? t=some i∧i.zero=some u∧kv u=some z:=by
 unfold qK at h;split at h
 ·rename_i i hi;cases hz:i.zero with
  | none=>simp [hz] at h
  | some u=>exact ⟨i,u,hi,hz,by simpa [hz] using h⟩
 ·cases h
theorem za4 {v:Value} {x:PV} (h:kv v=some x) (hn:x.isVal=true):za (zb κ m w) x.cells v.cells.toList :=
 (zg.of_val (zef h) hn).cells
theorem zfH (hm:MW W0 w0 κ0 m0 κ m w) (hW:W0.heap.size≤w.heap.size) {t:TypeId} {z:PV} (ho:o.op = .alloc t) (hz:qK P t=some z) (hz':z.isVal=true)
  (hs:zo ρ d mr (.alloc z.cells) K):zW P W0 w0 κ0 m0 κ m w e o K:=by
 obtain ⟨i,u,hi,hu,hk⟩:=zag hz;have hc:=za4 (κ:=κ) (m:=m) (w:=w) hk hz';refine ⟨.pointer (some ⟨w.heap.size,0,none⟩),w.alloc (.cells u.cells t),zp κ (16 * d) (some w.heap.size),.ptr (16 * d) 0,_,?_,hs,fun hf=>?_⟩
 ·simp [execOp,ho,Instr.alloc,zeroValue,typeInfo,hi,hu,newVar,newRow]
 ·have hid:=hf (16 * d) (by simp [lk]);obtain ⟨h1,h2⟩:=hm.box hW hid t hc;simp only [Array.toArray_toList] at h1 h2;exact ⟨h1,h2,w.heap.size,z.cells,by simp [zr],by simp [zp],rfl⟩
theorem znH (hm:MW W0 w0 κ0 m0 κ m w) (hW:W0.heap.size≤w.heap.size) (hev:Evs κ m w ρ e) {t:TypeId} {x:Operand} {ax:AX} (ho:o.op = .box t x) (hx:opd x=some ax)
  (hs:zo ρ d mr (.box ax) K):zW P W0 w0 κ0 m0 κ m w e o K:=by
 obtain ⟨v,hv,hval,hk⟩:=ze hs;have hc:=(zg.of_val (hev _ _ _ hx hv) hval).cells;refine ⟨.pointer (some ⟨w.heap.size,0,none⟩),w.alloc (.cells (e x).cells t),zp κ (16 * d) (some w.heap.size),.ptr (16 * d) 0,_,?_,hk,fun hf=>?_⟩
 ·simp [execOp,ho,Instr.box,newVar,newRow]
 ·have hid:=hf (16 * d) (by simp [lk]);obtain ⟨h1,h2⟩:=hm.box hW hid t hc;simp only [Array.toArray_toList] at h1 h2;exact ⟨h1,h2,w.heap.size,v.cells,by simp [zr],by simp [zp],rfl⟩
theorem znT (hm:MW W0 w0 κ0 m0 κ m w) (hsub:∀ id b,lk mr id=some b→lk m id=some b) (hev:Evs κ m w ρ e) {t:TypeId} {x:Operand} {ax:AX} {g:Bool} {n:Nat}
  (ho:o.op = .load t x) (ha:jR P t=some g) (hn:jr P t=some n) (hx:opd x=some ax) (hs:zo ρ d mr (.ld g n ax) K):zW P W0 w0 κ0 m0 κ m w e o K:=by
 obtain ⟨v,hv,hk⟩:=ze hs;have hr:=hev _ _ _ hx hv;cases v with
 | ptr id off =>
  obtain ⟨b,cs0,h1,h2,h3⟩:=hr;simp only [] at hk;split at hk
  ·rename_i cs hl;have hl':=hsub _ _ hl;obtain ⟨vs,el,hh,hall⟩:=zak hm.mem hl' h2;cases g with
   | true =>
    simp only [if_true] at hk;obtain ⟨hle,hk⟩:=hk;have hA:za (zb κ m w) ((cs.drop off).take n) ((vs.drop off).take n):=(hall.drop off).take n;have hlen:((vs.drop off).take n).length=n:=by rw [← hA.length]; simp; omega
    refine .same hm (v := .agg ((vs.drop off).take n).toArray) ?_ hk (.ofA (zg.of_mkAgg hA));have:=zbO (P:=P) (w:=w) (b:=b) (off:=off) ha (by rw [hlen]; exact hn) (fun j v hj=>by
     have hjn:j < n:=by
      rcases Nat.lt_or_ge j n with h' | h'
      ·exact h'
      ·rw [List.getElem?_eq_none (by omega)] at hj; cases hj
     rw [yS _ _ _ _ hjn] at hj;rw [j1 hh]; exact hj)
    simp [execOp,ho,h3,this]
   | false =>
    obtain ⟨y,hy,hk⟩:=ze (by simpa using hk);obtain ⟨u,hu,hyu⟩:=hall.get off y hy;refine .same hm (v:=u) ?_ hk (.of1 hyu);have:=zbP (P:=P) (w:=w) (b:=b) (off:=off) (v:=u) ha (by rw [j1 hh]; exact hu);simp [execOp,ho,h3,this]
  ·exact hk.elim
 | ep y off =>
  obtain ⟨b,oo,vs,h1,h2,h3,h4,h5⟩:=hr;have hA:za (fun y u=>RepC w (zf κ m) y u∧u.oneCell'=true) y.cells vs:=za.of_get h3 fun i a b' ha' hb'=>⟨(h5 i a b' ha' hb').1,(h5 i a b' ha' hb').2.1⟩
  have hcell:∀ (j:Nat) (u:Value),vs[j]? = some u→w.cell? ⟨b,oo+j,none⟩=some u:=fun j u hu=>by
   have hj:j < vs.length:=by
    rcases Nat.lt_or_ge j vs.length with h' | h'
    ·exact h'
    ·rw [List.getElem?_eq_none h'] at hu; cases hu
   exact (h5 j (y.cells[j]'(by omega)) u (by simp) hu).2.2
  cases g with
  | true =>
   simp only [if_true] at hk;obtain ⟨hle,hk⟩:=hk;have hA':=(hA.drop off).take n;have hlen:((vs.drop off).take n).length=n:=by rw [← hA'.length]; simp; omega
   refine .same hm (v := .agg ((vs.drop off).take n).toArray) ?_ hk (.of_c (YW hA'));have:=zbO (P:=P) (w:=w) (b:=b) (off:=oo+off) ha (by rw [hlen]; exact hn) (fun j v hj=>by
    have hjn:j < n:=by
     rcases Nat.lt_or_ge j n with h' | h'
     ·exact h'
     ·rw [List.getElem?_eq_none (by omega)] at hj; cases hj
    rw [yS _ _ _ _ hjn] at hj;rw [Nat.add_assoc]; exact hcell _ _ hj)
   simp [execOp,ho,h1,this]
  | false =>
   obtain ⟨z,hz,hk⟩:=ze (by simpa using hk);obtain ⟨u,hu,hzu,hone⟩:=hA.get off z hz;refine .same hm (v:=u) ?_ hk (.of_c hzu);have:=zbP (P:=P) (w:=w) (b:=b) (off:=oo+off) (v:=u) ha (hcell off u hu);simp [execOp,ho,h1,this]
 | eo id n' i off =>
  obtain ⟨_,L0,sz0,e0,h1,h2,h3⟩:=hr;simp only [] at hk;split at hk
  ·rename_i L sz el hl;have hl':=hsub _ _ hl;rw [hl'] at h1;injection h1 with h1
   injection h1 with e1 e2 e3
   subst e1 e2 e3;obtain ⟨hlen,y,hy,hk⟩:=hk;obtain ⟨b,hb,hptr⟩:=h3 hlen;obtain ⟨hsz,h0,vs,rest,hh,hall⟩:=zfg hm.mem hl' hb;have hcell:∀ (j:Nat) (c:PV),j < sz→y.cells[j]? = some c→∃ u,w.cell? ⟨b,i * sz+j,none⟩=some u∧zb κ m w c u:=fun j c hj hc=>by
    have h6:=zaP (f:=PV.cells) hsz hy hj;rw [hc] at h6;obtain ⟨u,hu,hcu⟩:=hall.get _ _ h6;refine ⟨u,?_,hcu⟩;rw [j1 hh,List.getElem?_append_left,hu];rcases Nat.lt_or_ge (i * sz+j) vs.length with h' | h'
    ·exact h'
    ·rw [List.getElem?_eq_none h'] at hu; cases hu
   have hyl:=hsz y (List.mem_of_getElem? hy);cases g with
   | true =>
    simp only [if_true] at hk;obtain ⟨hle,hk⟩:=hk;have hvs:(vs.drop (i * sz)).take sz=(vs.drop (i * sz)).take sz:=rfl;have hA:za (zb κ m w) y.cells ((vs.drop (i * sz)).take sz):=by
     have hA1:=(hall.drop (i * sz)).take sz;have:((L.flatMap PV.cells).drop (i * sz)).take sz=y.cells:=by
      apply List.ext_getElem?;intro j;by_cases hj:j < sz
      ·rw [yS _ _ _ _ hj,zaP hsz hy hj]
      ·rw [List.getElem?_take,if_neg hj,List.getElem?_eq_none (by omega)]
     rwa [this] at hA1
    have hA':=(hA.drop off).take n;have hlen':((((vs.drop (i * sz)).take sz).drop off).take n).length=n:=by rw [← hA'.length]; simp; omega
    refine .same hm (v := .agg ((((vs.drop (i * sz)).take sz).drop off).take n).toArray) ?_ hk (.ofA (zg.of_mkAgg hA'));have:=zbO (P:=P) (w:=w) (b:=b) (off:=i * sz+off) ha (by rw [hlen']; exact hn) (fun j v hj=>by
     have hjn:j < n:=by
      rcases Nat.lt_or_ge j n with h' | h'
      ·exact h'
      ·rw [List.getElem?_eq_none (by omega)] at hj; cases hj
     rw [yS _ _ _ _ hjn,yS _ _ _ _ (by omega)] at hj;rw [j1 hh,List.getElem?_append_left,Nat.add_assoc,hj];rcases Nat.lt_or_ge (i * sz+off+j) vs.length with h' | h'
     ·exact h'
     ·rw [List.getElem?_eq_none (by omega)] at hj; cases hj)
    simp [execOp,ho,hptr,this]
   | false =>
    obtain ⟨z,hz,hk⟩:=ze (by simpa using hk);have hoff:off < sz:=by
     rcases Nat.lt_or_ge off sz with h' | h'
     ·exact h'
     ·rw [List.getElem?_eq_none (by omega)] at hz; cases hz
    obtain ⟨u,hu,hzu⟩:=hcell off z hoff hz;refine .same hm (v:=u) ?_ hk (.of1 hzu);have:=zbP (P:=P) (w:=w) (b:=b) (off:=i * sz+off) (v:=u) ha hu;simp [execOp,ho,hptr,this]
  ·exact hk.elim
 | _=>exact (show False from hk).elim
theorem znO (hm:MW W0 w0 κ0 m0 κ m w) (hev:Evs κ m w ρ e) {s:TypeId} {fs:Array Field} {x:Operand} {ax:AX} {f n:Nat} {g:Field}
  (ho:o.op = .fieldAddr s x f) (hu:P.underlying s=some (.struct fs)) (hf:fs[f]? = some g) (hn:jr P g.type=some n) (h0:0 < n) (hx:opd x=some ax)
  (hs:zo ρ d mr (.fa g.offset ax) K):zW P W0 w0 κ0 m0 κ m w e o K:=by
 obtain ⟨v,hv,hk⟩:=ze hs;have hr:=hev _ _ _ hx hv;cases v with
 | ptr id off =>
  obtain ⟨b,cs,h1,h2,h3⟩:=hr;refine .same hm (v := .pointer (some ⟨b,off+g.offset,none⟩)) ?_ hk ⟨b,cs,h1,h2,rfl⟩;simp [execOp,ho,h3,zfj hu hf hn h0]
 | ep y off =>
  obtain ⟨b,oo,vs,h1,h2⟩:=hr;refine .same hm (v := .pointer (some ⟨b,oo+off+g.offset,none⟩)) ?_ hk ⟨b,oo,vs,by rw [Nat.add_assoc],h2⟩;simp [execOp,ho,h1,zfj hu hf hn h0]
 | eo id n' i off =>
  obtain ⟨⟨pa,hp⟩,L,sz,el,h1,h2,h3⟩:=hr;have hrun:(Instr.fieldAt s (.pointer (some pa)) f).run P w = .ok (.pointer (some (pa.add g.offset))) w:=by
   have:¬ n=0:=by omega
   simp [Instr.fieldAt,run_underlying hu,hf,Instr.sureAddr,fieldPlace,qa hn,this]
  refine .same hm (v := .pointer (some (pa.add g.offset))) ?_ hk ⟨⟨_,rfl⟩,L,sz,el,h1,h2,fun hl=>?_⟩
  ·simp [execOp,ho,hp,hrun]
  ·obtain ⟨b,hb,hq⟩:=h3 hl;rw [hp] at hq;cases hq;exact ⟨b,hb,by rw [qq,Nat.add_assoc]⟩
 | _=>exact (show False from hk).elim
theorem znP (hm:MW W0 w0 κ0 m0 κ m w) (hev:Evs κ m w ρ e) {s:TypeId} {fs:Array Field} {x:Operand} {ax:AX} {f n:Nat} {g:Field} {t:Bool}
  (ho:o.op = .field s x f) (hu:P.underlying s=some (.struct fs)) (hf:fs[f]? = some g) (ha:jR P g.type=some t) (hn:jr P g.type=some n) (hx:opd x=some ax)
  (hs:zo ρ d mr (.fld g.offset n t ax) K):zW P W0 w0 κ0 m0 κ m w e o K:=by
 obtain ⟨v,hv,hk⟩:=ze hs;have hr:=hev _ _ _ hx hv;have run1:∀ (vs:List Value),e x = .agg vs.toArray→t=true→(execOp e o).run P w = .ok (.value (.agg ((vs.drop g.offset).take n).toArray)) w:=by
  rintro vs hvs rfl;simp [execOp,ho,Instr.field,run_underlying hu,hf,hvs,asAgg,part,Zt ha,qa hn]
 have run2:∀ (vs:List Value) u,e x = .agg vs.toArray→t=false→vs[g.offset]? = some u→(execOp e o).run P w = .ok (.value u) w:=by
  rintro vs u hvs rfl hu';simp [execOp,ho,Instr.field,run_underlying hu,hf,hvs,asAgg,part,Zt ha,hu']
 cases v with
 | c cx =>
  cases cx with
  | agg cs =>
   have hA:=Zr (Rep.c hr) (by simp);obtain ⟨vs,hvs⟩:∃ vs:List Value,e x = .agg vs.toArray:=by
    generalize e x=vx at hr;cases (Rep.c hr) with
    | agg=>exact ⟨_,rfl⟩
   simp only [CV.cells,hvs,Value.cells] at hA;cases t with
   | true =>
    simp only [if_true] at hk;exact .same hm (run1 vs hvs rfl) hk.2 (.of_c (YW ((hA.drop _).take _)))
   | false =>
    obtain ⟨y,hy,hk⟩:=ze (by simpa using hk);obtain ⟨u,hu',hr',h1⟩:=hA.get _ _ hy;exact .same hm (run2 vs u hvs rfl hu') hk (.of_c hr')
  | _=>exact (show False from hk).elim
 | agg cs =>
  obtain ⟨vs,hvs,hA⟩:=hr;cases t with
  | true =>
   simp only [if_true] at hk;exact .same hm (run1 vs hvs rfl) hk.2 (.ofA (zg.of_mkAgg ((hA.drop _).take _)))
  | false =>
   obtain ⟨y,hy,hk⟩:=ze (by simpa using hk);obtain ⟨u,hu',hr'⟩:=hA.get _ _ hy;exact .same hm (run2 vs u hvs rfl hu') hk (.of1 hr')
 | _=>exact (show False from hk).elim
theorem Rep.int {k:IntKind} {n:Int} {v:Value} (h:Rep κ m w (.c (.sc (.int k n))) v):v = .int k n∧k.min≤n∧n≤k.max:=Rep.sc h
theorem znR (hm:MW W0 w0 κ0 m0 κ m w) (hsub:∀ id b,lk mr id=some b→lk m id=some b) (hev:Evs κ m w ρ e) {t el:TypeId} {x i:Operand} {ax ai:AX} {n:Nat}
  (ho:o.op = .indexAddr t x i) (ht:qf P t=some el) (hn:jr P el=some n) (hx:opd x=some ax) (hi:opd i=some ai)
  (hs:zo ρ d mr (.ia n ax ai) K):zW P W0 w0 κ0 m0 κ m w e o K:=by
 obtain ⟨iv,hiv,hk⟩:=ze hs;have hri:=hev _ _ _ hi hiv;cases iv with
 | c ci =>
  cases ci with
  | sc si =>
   cases si with
   | int k z =>
    obtain ⟨v,hv,hk⟩:=ze hk;have hr:=hev _ _ _ hx hv;obtain ⟨hei,_⟩:=Rep.int hri;cases v with
    | c cx =>
     cases cx with
     | row L =>
      obtain ⟨h0,y,hy,hyl,hkk⟩:=hk;have hlt:z.toNat < L.length:=by
       rcases Nat.lt_or_ge z.toNat L.length with h' | h'
       ·exact h'
       ·rw [List.getElem?_eq_none h'] at hy; cases hy
      generalize hex:e x=vx at hr;cases (Rep.c hr) with
      | nil=>simp at hlt
      | @row _ b off cap sz vs hne hsz0 hlc hcm hS hsz hl hcell h1 hc =>
       have hys:y.cells.length=sz:=hsz y (List.mem_of_getElem? hy);obtain rfl:sz=n:=by omega
       have hrun:=zbN (P:=P) (w:=w) (b:=b) (off:=off) (cap:=cap) (k:=k) ht hn h0 (show z < L.length by omega);refine .same hm (v := .pointer (some ⟨b,off+z.toNat * sz,none⟩)) (by simp [execOp,ho,hex,hei,hrun]) hkk ?_;have hbound:(z.toNat+1) * sz≤L.length * sz:=Nat.mul_le_mul_right _ hlt;rw [Nat.add_mul] at hbound;rw [Qc hsz] at hl;refine ⟨b,off+z.toNat * sz,(vs.drop (z.toNat * sz)).take sz,by rw [Nat.add_zero],hS,?_,?_,fun j c u hcj huj=>?_⟩
       ·simp; omega
       ·simp; omega
       ·have hj:j < sz:=by
         rcases Nat.lt_or_ge j sz with h' | h'
         ·exact h'
         ·rw [List.getElem?_eq_none (by omega)] at hcj; cases hcj
        rw [yS _ _ _ _ hj] at huj;have h6:=zaP (f:=CV.cells) hsz hy hj;rw [hcj] at h6;exact ⟨hcell _ _ _ h6 huj,h1 u (List.mem_of_getElem? huj),by rw [Nat.add_assoc]; exact hc _ _ huj⟩
     | _=>exact (show False from hk).elim
    | own id n' =>
     simp only [] at hk;split at hk
     ·rename_i L sz el' hl;obtain ⟨hlen,rfl,h0,h1,hkk⟩:=hk;obtain ⟨_,hnm,L',sz',e',g1,g2,g3,_⟩:=hr;rw [hsub _ _ hl] at g1;injection g1 with g1
      injection g1 with e1 e2 e3
      subst e1 e2 e3;have hO:=g3 hlen;unfold zX at hO;cases hk2:κ id with
      | none =>
       rw [hk2] at hO;obtain ⟨oo,hO⟩:=hO;rcases (hm.mem.blk id _ (hsub _ _ hl)).2.2 with ⟨_,h3⟩ | ⟨b,_,_,h3,_⟩
       ·have h3:=h3.resolve_right (fun h=>by have:=Jo h; omega);subst h3; simp at hlen; omega
       ·rw [hk2] at h3; cases h3
      | some b =>
       rw [hk2] at hO;obtain ⟨cap,arr,e'',h2,h3,h4,h5,h6⟩:=hO;have hrun:=zbN (P:=P) (w:=w) (b:=b) (off:=0) (cap:=cap) (k:=k) (len:=n') ht hn h0 h1;refine .same hm (v := .pointer (some ⟨b,0+z.toNat * sz,none⟩)) (by simp only [execOp,ho,h2,hei,Sem.run_bind,hrun,Result.andThen_ok,Sem.run_pure]) hkk ?_;exact ⟨⟨_,rfl⟩,L,sz,el',hsub _ _ hl,by omega,fun _=>⟨b,hk2,by simp⟩⟩
     ·exact hk.elim
    | sl id n' lo s =>
     simp only [] at hk;split at hk
     ·rename_i L sz el' hl;obtain ⟨hlen,hz,hs,h0,h1,hkk⟩:=hk;subst hz;subst hs;obtain ⟨_,L',sz',e',g1,g2,g3⟩:=hr;rw [hsub _ _ hl] at g1;injection g1 with g1
      injection g1 with e1 e2 e3
      subst e1 e2 e3;obtain ⟨b,cap,hk2,hv2⟩:=g3 hlen (by omega);have hrun:=zbN (P:=P) (w:=w) (b:=b) (off:=lo * s) (cap:=cap) (k:=k) (len:=n' - lo) ht hn h0 (show z < ((n' - lo:Nat):Int) by omega);refine .same hm (v := .pointer (some ⟨b,lo * s+z.toNat * s,none⟩)) (by simp only [execOp,ho,hv2,hei,Sem.run_bind,hrun,Result.andThen_ok,Sem.run_pure]) hkk ?_;exact ⟨⟨_,rfl⟩,L,s,el',hsub _ _ hl,by omega,fun _=>⟨b,hk2,by simp [Nat.add_mul]⟩⟩
     ·exact hk.elim
    | _=>exact (show False from hk).elim
   | _=>exact (show False from hk).elim
  | _=>exact (show False from hk).elim
 | _=>exact (show False from hk).elim
end
theorem Z0 (k:IntKind) (n:Int):wfv (.int k (k.wrap n)):=by
 show k.min≤k.wrap n∧k.wrap n≤k.max;cases k<;>simp only [IntKind.wrap,IntKind.min,IntKind.max,IntKind.bits,IntKind.signed]<;>constructor<;>simp<;>omega
section
variable {P:Program} {W0 w0:World} {κ0:Kap} {m0:Mem} {κ:Kap} {m mr:Mem} {w:World} {e:Operand→Value} {o:Oper} {K:PV→Mem→Prop} {ρ:AX→Option PV} {d:Nat}
theorem znS (hm:MW W0 w0 κ0 m0 κ m w) (hev:Evs κ m w ρ e) {t:TypeId} {x i:Operand} {ax ai:AX}
  (ho:o.op = .index t x i) (ht:P.underlying t=some .string) (hx:opd x=some ax) (hi:opd i=some ai)
  (hs:zo ρ d mr (.idx ax ai) K):zW P W0 w0 κ0 m0 κ m w e o K:=by
 obtain ⟨iv,hiv,hk⟩:=ze hs;have hri:=hev _ _ _ hi hiv;cases iv with
 | c ci =>
  cases ci with
  | sc si =>
   cases si with
   | int k z =>
    obtain ⟨v,hv,hk⟩:=ze hk;have hr:=hev _ _ _ hx hv;obtain ⟨hei,_⟩:=Rep.int hri;cases v with
    | c cx =>
     cases cx with
     | sc sx =>
      cases sx with
      | string s =>
       obtain ⟨h0,b,hb,hk⟩:=hk;obtain ⟨hex,_⟩:=Rep.sc hr;have hlt:z.toNat < s.size:=by
        rcases Nat.lt_or_ge z.toNat s.size with h' | h'
        ·exact h'
        ·rw [List.getElem?_eq_none (by simpa using h')] at hb; cases hb
       have hb':s[z.toNat]=b:=by
        have:s.data.toList[z.toNat]? = some s[z.toNat]:=by
         rw [List.getElem?_eq_getElem (by simpa using hlt)]; rfl
        rw [this] at hb; exact Option.some.inj hb
       refine .same hm (v := .int .u8 b.toNat) ?_ hk (.of_c (.sc ?_))
       ·simp [execOp,ho,Instr.index,hei,hex,asIntOf,run_underlying ht,h0,hlt,hb']
       ·have:=b.toNat_lt; simp [wfv,IntKind.min,IntKind.max,IntKind.signed,IntKind.bits]; omega
      | _=>exact (show False from hk).elim
     | _=>exact (show False from hk).elim
    | _=>exact (show False from hk).elim
   | _=>exact (show False from hk).elim
  | _=>exact (show False from hk).elim
 | _=>exact (show False from hk).elim
theorem Z4 {lo:Option Operand} {al:Option AX} (hev:Evs κ m w ρ e) (hlo:opt lo=some al) {dflt:Nat} {K:Nat→Prop} (h:bnd ρ al dflt K) :
  (lo=none∧K dflt)∨∃ x k n,lo=some x∧e x = .int k n∧0≤n∧K n.toNat:=by
 cases lo with
 | none=>simp only [opt] at hlo; cases hlo; exact .inl ⟨rfl,h⟩
 | some x =>
  simp only [opt,Option.map_eq_some_iff] at hlo;obtain ⟨ax,hax,rfl⟩:=hlo;simp only [bnd] at h;right;split at h
  ·rename_i k n hv;obtain ⟨he,_⟩:=Rep.int (hev _ _ _ hax hv);exact ⟨x,k,n,rfl,he,h.1,h.2⟩
  ·exact h.elim
theorem znZ (hm:MW W0 w0 κ0 m0 κ m w) (hev:Evs κ m w ρ e) {t:TypeId} {x:Operand} {lo hi:Option Operand} {ax:AX} {al ah:Option AX}
  (ho:o.op = .slice t x lo hi none) (ht:P.underlying t=some .string) (hx:opd x=some ax) (hlo:opt lo=some al) (hhi:opt hi=some ah)
  (hs:zo ρ d mr (.sls ax al ah) K):zW P W0 w0 κ0 m0 κ m w e o K:=by
 obtain ⟨v,hv,hk⟩:=ze hs;have hr:=hev _ _ _ hx hv;cases v with
 | c cx =>
  cases cx with
  | sc sx =>
   cases sx with
   | string s =>
    obtain ⟨hex,hsz⟩:=Rep.sc hr;have hsz':s.size≤maxLen:=hsz;have key:∀ l h:Nat,l≤h→h≤s.size→wfv (.string (s.extract l h)):=by
     intro l h h1 h2;show (s.extract l h).size≤maxLen;rw [ByteArray.size_extract]; omega
    rcases Z4 hev hlo hk with ⟨rfl,hk⟩ | ⟨xl,kl,nl,rfl,hel,hl0,hk⟩<;>rcases Z4 hev hhi hk with ⟨rfl,hk⟩ | ⟨xh,kh,nh,rfl,heh,hh0,hk⟩
    ·refine .same hm (v := .string (s.extract 0 s.size)) ?_ hk.2.2 (.of_c (.sc (key _ _ hk.1 hk.2.1)));simp [execOp,ho,Instr.sliceAt,Instr.slice,Instr.sliceBounds,run_underlying ht,hex]
    ·have h1:nh≤s.size:=by omega
     refine .same hm (v := .string (s.extract 0 nh.toNat)) ?_ hk.2.2 (.of_c (.sc (key _ _ hk.1 hk.2.1)));simp [execOp,ho,Instr.sliceAt,Instr.slice,Instr.sliceBounds,Instr.sliceBound,asIntOf,run_underlying ht,hex,heh,hh0,h1]
    ·have h1:nl≤s.size:=by omega
     refine .same hm (v := .string (s.extract nl.toNat s.size)) ?_ hk.2.2 (.of_c (.sc (key _ _ hk.1 hk.2.1)));simp [execOp,ho,Instr.sliceAt,Instr.slice,Instr.sliceBounds,Instr.sliceBound,asIntOf,run_underlying ht,hex,hel,hl0,h1]
    ·have h1:nh≤s.size:=by omega
     have h2:nl≤(nh.toNat:Int):=by omega
     refine .same hm (v := .string (s.extract nl.toNat nh.toNat)) ?_ hk.2.2 (.of_c (.sc (key _ _ hk.1 hk.2.1)));have h2':nl≤max nh 0:=by omega
     simp [execOp,ho,Instr.sliceAt,Instr.slice,Instr.sliceBounds,Instr.sliceBound,asIntOf,run_underlying ht,hex,heh,hh0,h1,hel,hl0,h2']
   | _=>exact (show False from hk).elim
  | _=>exact (show False from hk).elim
 | _=>exact (show False from hk).elim
theorem zn1 (hm:MW W0 w0 κ0 m0 κ m w) (hev:Evs κ m w ρ e) {op:UnOp} {t:TypeId} {x:Operand} {ax:AX} (ho:o.op = .unOp op t x) (hx:opd x=some ax)
  (hs:zo ρ d mr (.un op ax) K):zW P W0 w0 κ0 m0 κ m w e o K:=by
 obtain ⟨v,hv,hk⟩:=ze hs;have hr:=hev _ _ _ hx hv;split at hk
 ·obtain ⟨h1,_⟩:=Rep.sc hr;exact .same hm (by simp [execOp,ho,Op.unary,h1]) hk (.of_c (.sc trivial))
 ·rename_i k n;obtain ⟨h1,_⟩:=Rep.sc hr;exact .same hm (v := .int k (k.wrap (0 - n))) (by simp [execOp,ho,Op.unary,Op.intArith,h1]) hk (.of_c (.sc (Z0 _ _)))
 ·exact hk.elim
theorem znL (hm:MW W0 w0 κ0 m0 κ m w) (hev:Evs κ m w ρ e) {s t:TypeId} {k k':IntKind} {x:Operand} {ax:AX} (ho:o.op = .convert s t x) (h1:P.underlying s=some (.int k')) (h2:P.underlying t=some (.int k)) (hx:opd x=some ax)
  (hs:zo ρ d mr (.conv k ax) K):zW P W0 w0 κ0 m0 κ m w e o K:=by
 obtain ⟨v,hv,hk⟩:=ze hs;have hr:=hev _ _ _ hx hv;split at hk
 ·rename_i k0 n;obtain ⟨h3,_⟩:=Rep.sc hr;exact .same hm (v := .int k (k.wrap n)) (by simp [execOp,ho,convert,run_underlying h1,run_underlying h2,h3,Conv.intToInt]) hk (.of_c (.sc (Z0 _ _)))
 ·exact hk.elim
theorem znM (hm:MW W0 w0 κ0 m0 κ m w) (hev:Evs κ m w ρ e) {s t:TypeId} {x:Operand} {ax:AX} (ho:o.op = .convert s t x) (h1:P.underlying s=some .string) (h2:P.underlying t=some .string) (hx:opd x=some ax)
  (hs:zo ρ d mr (.cvs ax) K):zW P W0 w0 κ0 m0 κ m w e o K:=by
 obtain ⟨v,hv,hk⟩:=ze hs;have hr:=hev _ _ _ hx hv;split at hk
 ·rename_i s';obtain ⟨h3,_⟩:=Rep.sc hr;exact .same hm (v:=e x) (by simp [execOp,ho,convert,run_underlying h1,run_underlying h2,h3]) hk hr
 ·exact hk.elim
theorem znN (hm:MW W0 w0 κ0 m0 κ m w) (hev:Evs κ m w ρ e) {x:Operand} {ax:AX} {i:Nat} (ho:o.op = .extract x i) (hx:opd x=some ax)
  (hs:zo ρ d mr (.ext ax i) K):zW P W0 w0 κ0 m0 κ m w e o K:=by
 obtain ⟨v,hv,hk⟩:=ze hs;have hr:=hev _ _ _ hx hv;split at hk
 ·rename_i vs;obtain ⟨y,hy,hk⟩:=ze hk;obtain ⟨us,hus,hall⟩:=hr;obtain ⟨u,hu,hyu⟩:=hall.get _ _ hy;exact .same hm (v:=u) (by simp [execOp,ho,Instr.extract,hus,hu]) hk (.ofA hyu)
 ·rename_i vs;obtain ⟨y,hy,hk⟩:=ze hk;generalize hex:e x=vx at hr;cases (Rep.c hr) with
  | @tup _ us hl hall =>
   have hlt:i < us.length:=by
    rw [← hl];rcases Nat.lt_or_ge i vs.length with h' | h'
    ·exact h'
    ·rw [List.getElem?_eq_none h'] at hy; cases hy
   have hu:us[i]? = some us[i]:=List.getElem?_eq_getElem hlt;exact .same hm (v:=us[i]) (by simp [execOp,ho,Instr.extract,hex,hu]) hk (.of_c (hall _ _ _ hy hu))
 ·exact hk.elim
theorem zfL (hm:MW W0 w0 κ0 m0 κ m w) (hev:Evs κ m w ρ e) {c:Call} {t:TypeId} {x:Operand} {ax:AX} {str:Bool} (ho:o.op = .call c) (hb:c.callee = .builtin .len) (ha:c.args.toList=[x]) (hat:c.argTypes.toList=[t])
  (ht:(str=true∧P.underlying t=some .string)∨(str=false∧∃ el,P.underlying t=some (.slice el))) (hx:opd x=some ax)
  (hs:zo ρ d mr (.len str ax) K):zW P W0 w0 κ0 m0 κ m w e o K:=by
 obtain ⟨v,hv,hk⟩:=ze hs;have hr:=hev _ _ _ hx hv;have ha':c.args=#[x]:=by rw [← Array.toArray_toList (xs:=c.args),ha]
 have hat':c.argTypes=#[t]:=by rw [← Array.toArray_toList (xs:=c.argTypes),hat]
 have hmax:(maxLen:Int)=9223372036854775807:=by unfold maxLen; omega
 have hwf:∀ n:Nat,n≤maxLen→wfv (.int .i64 (n:Int)):=fun n hn=>by
  show IntKind.min .i64≤(n:Int)∧(n:Int)≤IntKind.max .i64;have:(n:Int)≤maxLen:=by omega
  simp only [IntKind.min,IntKind.max,IntKind.bits,IntKind.signed];constructor<;>simp<;>omega
 rcases ht with ⟨rfl,hel⟩ | ⟨rfl,el,hel⟩
 ·have hstr:∀ s,e x = .string s→(execOp e o).run P w = .ok (.value (.int .i64 s.size)) w:=by
   rintro s hex;simp [execOp,ho,resolve,hb,ha',hat',invoke,builtin,Builtin.len_,run_underlying hel,hex,goInt]
  cases v with
  | c cx =>
   cases cx with
   | sc u =>
    cases u with
    | string s =>
     obtain ⟨h3,h4⟩:=Rep.sc hr;exact .same hm (hstr _ h3) hk (.of_c (.sc (hwf _ h4)))
    | _=>exact (show False from hk).elim
   | _=>exact (show False from hk).elim
  | _=>exact (show False from hk).elim
 ·have hsl:∀ (a:Option Addr) (n cap:Nat),e x = .slice a n cap→(execOp e o).run P w = .ok (.value (.int .i64 n)) w:=by
   rintro a n cap hex;simp [execOp,ho,resolve,hb,ha',hat',invoke,builtin,Builtin.len_,run_underlying hel,hex,goInt]
  cases v with
  | nil =>
   obtain ⟨oo,h3⟩:=hr;exact .same hm (hsl _ _ _ h3) hk (.of_c (.sc (hwf 0 (Nat.zero_le _))))
  | c cx =>
   cases cx with
   | row L =>
    generalize hex:e x=vx at hr;cases (Rep.c hr) with
    | nil hc=>exact .same hm (hsl _ _ _ hex) hk (.of_c (.sc (hwf 0 (Nat.zero_le _))))
    | row hne h0 hlc hcm=>exact .same hm (hsl _ _ _ hex) hk (.of_c (.sc (hwf _ (Nat.le_trans hlc hcm))))
   | _=>exact (show False from hk).elim
  | own id n =>
   obtain ⟨⟨a,cap,h3,_⟩,hn,_⟩:=hr;exact .same hm (hsl _ _ _ h3) hk (.of_c (.sc (hwf _ hn)))
  | sl id n lo s =>
   obtain ⟨⟨a,cap,h3,hn⟩,_⟩:=hr;exact .same hm (hsl _ _ _ h3) hk (.of_c (.sc (hwf _ (Nat.le_trans (Nat.sub_le _ _) hn))))
  | _=>exact (show False from hk).elim
theorem zno {op:BinOp} {t:TypeId} {a b:Value} {K:PV→Prop} (h:binV op a b K) :
  ∃ u,(binOp op t a b).run P w = .ok u w∧wfv u∧K (.c (.sc u)):=by
 unfold binV at h;split at h
 ·rename_i k x k' y;obtain ⟨rfl,h⟩:=h;cases op<;>simp only [] at h<;>try exact h.elim
  ·exact ⟨.int _ _,by simp [binOp,Op.intArith],Z0 _ _,h⟩
  ·exact ⟨.int _ _,by simp [binOp,Op.intArith],Z0 _ _,h⟩
  ·exact ⟨.int _ _,by simp [binOp,Op.intArith],Z0 _ _,h⟩
  ·exact ⟨.int _ _,by simp [binOp,Op.intDiv,h.1],Z0 _ _,h.2⟩
  ·exact ⟨.int _ _,by simp [binOp,Op.intDiv,h.1],h.2.1,h.2.2⟩
  ·exact ⟨.int _ _,by simp [binOp,Op.intBits],Z0 _ _,h⟩
  all_goals exact ⟨.bool _,by simp [binOp,Op.intCmp],trivial,h⟩
 ·rename_i x y;cases op<;>simp only [] at h<;>try exact h.elim
  ·obtain ⟨h1,h⟩:=h;have h2:¬ (((x.size+y.size:Nat):Int) > IntKind.i64.max):=by
    have:x.size+y.size≤9223372036854775807:=by unfold maxLen at h1; omega
    simp only [IntKind.max,IntKind.bits,IntKind.signed]; simp; omega
   refine ⟨.string (x++y),by simp only [binOp,Op.stringOp,if_neg h2]; rfl,?_,h⟩;show (x++y).size≤maxLen;rw [ByteArray.size_append]; exact h1
  all_goals exact ⟨.bool _,by simp [binOp,Op.stringOp],trivial,h⟩
 ·exact h.elim
theorem zfK (hm:MW W0 w0 κ0 m0 κ m w) (hev:Evs κ m w ρ e) {op:BinOp} {t t':TypeId} {x y:Operand} {ax ay:AX} (ho:o.op = .binOp op t x y t') (hx:opd x=some ax) (hy:opd y=some ay)
  (hs:zo ρ d mr (.bin op ax ay) K):zW P W0 w0 κ0 m0 κ m w e o K:=by
 obtain ⟨v,hv,hk⟩:=ze hs;obtain ⟨u,hu,hk⟩:=ze hk;have hr:=hev _ _ _ hx hv;have hr':=hev _ _ _ hy hu;cases v with
 | c cv =>
  cases cv with
  | sc a =>
   cases u with
   | c cu =>
    cases cu with
    | sc b =>
     obtain ⟨h1,hwa⟩:=Rep.sc hr;obtain ⟨h2,_⟩:=Rep.sc hr';obtain ⟨r,h3,h4,h5⟩:=zno (P:=P) (w:=w) (t:=t) hk;refine .same hm (v:=r) ?_ h5 (.of_c (.sc h4));have hg:(eqGuard op t x y a b).run P w = .ok () w:=by
      cases a<;>first|exact hwa.elim|simp [eqGuard]
     simp [execOp,ho,h1,h2,hg,h3]
    | _=>exact (show False from hk).elim
   | _=>exact (show False from hk).elim
  | _=>cases u<;>exact (show False from hk).elim
 | _=>cases u<;>exact (show False from hk).elim
theorem zfI (hm:MW W0 w0 κ0 m0 κ m w) (hev:Evs κ m w ρ e) {neg:Bool} {t t':TypeId} {x y:Operand} {ax ay:AX} (ho:o.op = .binOp (if neg then .neq else .eql) t x y t') (ht:P.underlying t=some .bool) (hx:opd x=some ax) (hy:opd y=some ay)
  (hs:zo ρ d mr (.bb neg ax ay) K):zW P W0 w0 κ0 m0 κ m w e o K:=by
 obtain ⟨v,hv,hk0⟩:=ze hs;obtain ⟨u,hu,hk⟩:=ze hk0;clear hk0 hs;have hr:=hev _ _ _ hx hv;have hr':=hev _ _ _ hy hu;split at hk
 ·rename_i a b;obtain ⟨h1,_⟩:=Rep.sc hr;obtain ⟨h2,_⟩:=Rep.sc hr';refine .same hm (v := .bool (if neg then !(a==b) else a==b)) ?_ hk (.of_c (.sc trivial));have h5:(Op.equal t (.bool a) (.bool b)).run P w = .ok (a==b) w:=run_equalIn_bool' w 9999 t a b ht;have h6:binOp .eql t (.bool a) (.bool b)=(do pure (.bool (← Op.equal t (.bool a) (.bool b)))):=rfl;have h7:binOp .neq t (.bool a) (.bool b)=(do pure (.bool (!(← Op.equal t (.bool a) (.bool b))))):=rfl;cases neg<;>simp [execOp,ho,h1,h2,eqGuard,h5,h6,h7]
 ·exact hk.elim
theorem zfN (hm:MW W0 w0 κ0 m0 κ m w) (hev:Evs κ m w ρ e) {mx:Bool} {c:Call} {x y:Operand} {ax ay:AX} (ho:o.op = .call c) (hb:c.callee = .builtin (if mx then .max else .min)) (ha:c.args.toList=[x,y])
  (hx:opd x=some ax) (hy:opd y=some ay) (hs:zo ρ d mr (.mm mx ax ay) K):zW P W0 w0 κ0 m0 κ m w e o K:=by
 obtain ⟨v,hv,hk0⟩:=ze hs;obtain ⟨u,hu,hk⟩:=ze hk0;clear hk0 hs;have hr:=hev _ _ _ hx hv;have hr':=hev _ _ _ hy hu;have ha':c.args=#[x,y]:=by rw [← Array.toArray_toList (xs:=c.args),ha]
 split at hk
 ·rename_i k a k' b;obtain ⟨rfl,hk⟩:=hk;obtain ⟨h1,h3⟩:=Rep.sc hr;obtain ⟨h2,h4⟩:=Rep.sc hr';refine .same hm (v := .int k (if mx then (if b > a then b else a) else (if b < a then b else a))) ?_ hk (.of_c (.sc ?_))
  ·cases mx<;>simp [execOp,ho,resolve,hb,ha',invoke,builtin,Builtin.min_,Builtin.max_,Builtin.min2,Builtin.max2,h1,h2]
  ·show _∧_;have h3':k.min≤a∧a≤k.max:=h3;have h4':k.min≤b∧b≤k.max:=h4;cases mx<;>simp<;>split<;>assumption
 ·exact hk.elim
theorem znQ (hm:MW W0 w0 κ0 m0 κ m w) (hev:Evs κ m w ρ e) {f:FuncId} {fst caps:Array Operand} {cs:List AX} (ho:o.op = .makeFunc (.func f) fst caps) (hf:fst=#[]) (hx:opds caps.toList=some cs)
  (hs:zo ρ d mr (.fnv f cs) K):zW P W0 w0 κ0 m0 κ m w e o K:=by
 obtain ⟨vs,hvs,hk⟩:=ze hs;split at hk
 ·rename_i ids hids;have hL:capL vs=some ids:=by
   unfold JX at hids;split at hids
   ·cases hids
   ·exact hids
  have key:∀ (l:List Operand) (cs:List AX) (vs:List PV) (ids:List Nat),opds l=some cs→evs ρ cs=some vs→capL vs=some ids →
    ∃ bs:List Nat,l.map e=bs.map (fun b=>Value.pointer (some ⟨b,0,none⟩))∧za (fun id b=>(∃ cs,lk m id=some (.box cs))∧κ id=some b) ids bs:=by
   intro l;induction l with
   | nil =>
    intro cs vs ids h1 h2 h3;simp only [opds] at h1; cases h1;simp only [evs] at h2; cases h2;simp only [capL] at h3; cases h3;exact ⟨[],rfl,trivial⟩
   | cons x l ih =>
    intro cs vs ids h1 h2 h3;simp only [opds] at h1;split at h1
    ·rename_i y k hy hk';cases h1;simp only [evs] at h2;split at h2
     ·rename_i v k2 hv hk2;cases h2;unfold capL at h3;split at h3
      ·rename_i heq; cases heq
      ·rename_i id l' heq;cases heq;rw [Option.map_eq_some_iff] at h3;obtain ⟨ids',h4,rfl⟩:=h3;obtain ⟨bs,g1,g2⟩:=ih _ _ _ hk' hk2 h4;obtain ⟨b,cs',r1,r2,r3⟩:=(show zb κ m w (.ptr id 0) (e x) from hev _ _ _ hy hv);exact ⟨b::bs,by simp only [List.map_cons,g1,r3],⟨⟨cs',r1⟩,r2⟩,g2⟩
      ·cases h3
     ·cases h2
    ·cases h1
  subst hf;obtain ⟨bs,g1,g2⟩:=key caps.toList cs vs ids hx hvs hL;refine .same hm (v := .func (.func f) #[] (caps.map e)) (by simp [execOp,ho,Instr.makeFunc]) hk ⟨bs,?_,g2⟩;rw [← g1,← Array.toList_map,Array.toArray_toList]
 obtain ⟨ys,hys,hall,hk⟩:=ze hk;have key:∀ (l:List Operand) (cs:List AX) (vs:List PV) (ys:List CV),opds l=some cs→evs ρ cs=some vs→jf vs=some ys→(∀ x∈ys,∃ v,x = .sc v)→l.map e=ys.map fun | .sc v=>v | _=>undef:=by
  intro l;induction l with
  | nil =>
   intro cs vs ys h1 h2 h3 _;simp only [opds] at h1; cases h1;simp only [evs] at h2; cases h2;simp only [jf] at h3; cases h3; rfl
  | cons x l ih =>
   intro cs vs ys h1 h2 h3 h4;simp only [opds] at h1;split at h1
   ·rename_i y k hy hk';cases h1;simp only [evs] at h2;split at h2
    ·rename_i v k2 hv hk2;cases h2;simp only [jf] at h3;split at h3
     ·rename_i z k3 hz hk3;cases h3;have:=ih _ _ _ hk' hk2 hk3 fun x hx=>h4 x (by simp [hx])
      obtain ⟨u,rfl⟩:=h4 z (by simp);have hr:=hev _ _ _ hy hv;cases v with
      | c cv =>
       simp only [jw] at hz; cases hz;obtain ⟨h5,_⟩:=Rep.sc hr;simp [this,h5]
      | nil=>simp [jw] at hz
      | _=>simp [jw] at hz
     ·cases h3
    ·cases h2
   ·cases h1
 subst hf;refine .same hm (v := .func (.func f) #[] (caps.map e)) (by simp [execOp,ho,Instr.makeFunc]) hk (.of_c ?_);have:=key caps.toList cs vs ys hx hvs hys hall;have h2:caps.map e=(ys.map fun | .sc v=>v | _=>undef).toArray:=by
  rw [← this,← Array.toList_map,Array.toArray_toList]
 rw [h2]; exact .sc trivial
theorem yO {x:PV} {y:CV} {v:Value} (h:jT x=some y) (hr:Rep κ m w x v):RepC w (zf κ m) y v:=by
 cases x with
 | c cx=>have h':some cx=some y:=h; cases h'; exact Rep.c hr
 | nil =>
  have h':some (CV.row [])=some y:=h; cases h';obtain ⟨oo,rfl⟩:=hr;exact .nil (Nat.zero_le _)
 | agg cs =>
  simp only [jT,Option.map_eq_some_iff] at h;obtain ⟨l,hl,rfl⟩:=h;obtain ⟨vs,rfl,hall⟩:=hr;refine YW ?_;have:∀ (cs:List PV) (l:List CV) (vs:List Value),jf cs=some l→za (zb κ m w) cs vs→za (fun y u=>RepC w (zf κ m) y u∧u.oneCell'=true) l vs:=by
   intro cs;induction cs with
   | nil =>
    intro l vs h1 h2;simp only [jf] at h1; cases h1;cases vs with
    | nil=>trivial
    | cons=>exact h2.elim
   | cons a cs ih =>
    intro l vs h1 h2;simp only [jf] at h1;split at h1
    ·rename_i y k hy hk;cases h1;cases vs with
     | nil=>exact h2.elim
     | cons v vs =>
      refine ⟨⟨?_,zb.one h2.1⟩,ih _ _ hk h2.2⟩;cases a with
      | c ca=>simp only [jw] at hy; cases hy; exact zb.to_c h2.1
      | nil =>
       simp only [jw] at hy; cases hy;obtain ⟨oo,rfl⟩:=h2.1;exact .nil (Nat.zero_le _)
      | _=>simp [jw] at hy
    ·cases h1
  exact this _ _ _ hl hall
 | _=>exact absurd (show none=some y from h) (by simp)
theorem znq {t:TypeId} {z:PV} (h:qK P t=some z):∃ u,(zeroValue t).run P w = .ok u w∧kv u=some z:=by
 obtain ⟨i,u,hi,hu,hk⟩:=zag h;exact ⟨u,by simp [zeroValue,typeInfo,hi,hu],hk⟩
end
section
variable {P:Program} {W0 w0:World} {κ0:Kap} {m0:Mem} {κ:Kap} {m mr:Mem} {w:World} {e:Operand→Value} {o:Oper} {K:PV→Mem→Prop} {ρ:AX→Option PV} {d:Nat}
theorem Yb (hm:MemOk κ m w) (hsub:∀ id b,lk mr id=some b→lk m id=some b) {sz:Nat} (h0:0 < sz) {v:PV} {u:Value} {Q:List PV→Prop} (h:jP mr sz v Q) (hr:Rep κ m w v u) :
  ∃ L,Q L∧(∀ x∈L,x.cells.length=sz)∧((L=[]∧∃ o c,u = .slice o 0 c) ∨
   ∃ b off c vs,0 < L.length∧u = .slice (some ⟨b,off,none⟩) L.length c∧za (zb κ m w) (L.flatMap PV.cells) vs∧(∀ (j:Nat) (x:Value),vs[j]? = some x→w.cell? ⟨b,off+j,none⟩=some x)):=by
 cases v with
 | nil =>
  obtain ⟨oo,rfl⟩:=hr;exact ⟨[],h,by simp,.inl ⟨rfl,oo,0,rfl⟩⟩
 | c cx =>
  cases cx with
  | row L =>
   obtain ⟨h1,h2⟩:=h;refine ⟨L.map .c,h2,?_,?_⟩
   ·intro x hx;obtain ⟨y,hy,rfl⟩:=List.mem_map.1 hx;simp [PV.cells,h1 y hy]
   ·cases (Rep.c hr) with
    | nil hc=>exact .inl ⟨rfl,_,_,rfl⟩
    | @row _ b off cap sz' vs hne hsz0 hlc hcm hS hsz hl hcell hone hc =>
     refine .inr ⟨b,off,cap,vs,?_,by simp,?_,hc⟩
     ·cases L with
      | nil=>exact absurd rfl hne
      | cons=>simp
     ·have hA:za (fun y u=>RepC w (zf κ m) y u∧u.oneCell'=true) (L.flatMap CV.cells) vs :=
       za.of_get hl fun i a b ha hb=>⟨hcell i a b ha hb,hone b (List.mem_of_getElem? hb)⟩
      have:=za.map_c hA;have h5:(L.map PV.c).flatMap PV.cells=(L.flatMap CV.cells).map PV.c:=by
       rw [List.flatMap_map,List.map_flatMap]; rfl
      rw [h5]; exact this
  | _=>exact h.elim
 | own id n =>
  simp only [jP] at h;split at h
  ·rename_i L sz' el hl;obtain ⟨hlen,rfl,h⟩:=h;have hl':=hsub _ _ hl;obtain ⟨⟨a,c,hu,_⟩,hn,L',sz'',e',g1,g2,g3,_⟩:=hr;rw [hl'] at g1;injection g1 with g1
   injection g1 with e1 e2 e3
   subst e1 e2 e3;have hO:=g3 hlen;have hblk:=hm.blk id _ hl';refine ⟨L,h,hblk.1,?_⟩;unfold zX at hO;rcases hblk.2.2 with ⟨hk,hL⟩ | ⟨b,vs,rest,hk,hh,hall⟩
   ·have hL:=hL.resolve_right (fun h=>by have:=Jo h; omega);subst hL;simp only [List.length_nil] at hlen;subst hlen;exact .inl ⟨rfl,_,_,hu⟩
   ·rw [hk] at hO;obtain ⟨cap,arr,e'',h1,h2,h3,h4,h5⟩:=hO;rcases Nat.eq_zero_or_pos L.length with hz | hz
    ·left;refine ⟨List.eq_nil_of_length_eq_zero hz,some ⟨b,0,none⟩,cap,?_⟩;rw [h1]; congr 1; omega
    ·right;refine ⟨b,0,cap,vs,hz,by rw [h1,hlen],hall,fun j x hj=>?_⟩;rw [j1 hh,Nat.zero_add,List.getElem?_append_left,hj];rcases Nat.lt_or_ge j vs.length with h' | h'
     ·exact h'
     ·rw [List.getElem?_eq_none h'] at hj; cases hj
  ·exact h.elim
 | _=>exact h.elim
theorem QR {cs:List PV} {vs:List Value} (h:za (zb κ m w) cs vs):∀ u∈vs,u.oneCell'=true:=by
 intro u hu;obtain ⟨i,hi⟩:=List.mem_iff_getElem?.1 hu;have hlt:i < cs.length:=by
  rw [h.length];rcases Nat.lt_or_ge i vs.length with h' | h'
  ·exact h'
  ·simp [List.getElem?_eq_none h'] at hi
 obtain ⟨b,hb,hr⟩:=h.get i cs[i] (by simp [hlt]);rw [hi] at hb; cases hb; exact zb.one hr
structure AppT (P:Program) (t el:TypeId) (sz bytes:Nat):Prop where
 ht:P.underlying t=some (.slice el)
 info:∃ i z,P.info? el=some i∧i.zero=some z∧z.cells.size=sz∧i.size=sz∧i.bytes=bytes
 pos:0 < sz
theorem qA {c:Call} {s x:Operand} {t:TypeId} (ho:o.op = .call c) (hb:c.callee = .builtin .append) (ha:c.args.toList=[s,x]) (hat:c.argTypes.toList=[t,t]) {v:Value} {w':World}
  (h:(Builtin.append_ #[t,t] o.type #[e s,e x]).run P w = .ok v w'):(execOp e o).run P w = .ok (.value v) w':=by
 have ha':c.args=#[s,x]:=by rw [← Array.toArray_toList (xs:=c.args),ha]
 have hat':c.argTypes=#[t,t]:=by rw [← Array.toArray_toList (xs:=c.argTypes),hat]
 simp [execOp,ho,resolve,hb,ha',hat',invoke,builtin,h]
theorem JF {t el:TypeId} {sz bytes ty:Nat} (hT:AppT P t el sz bytes) {b:Option Addr} {n cap:Nat} {o':Option Addr} {c:Nat} (hn:n≤cap) :
  (Builtin.append_ #[t,t] ty #[.slice b n cap,.slice o' 0 c]).run P w = .ok (.slice b n cap) w:=by
 obtain ⟨i,z,hi,hz,_,hs,_⟩:=hT.info;have hf:(Builtin.firstCells i.size 0 (.slice o' 0 c)).run P w = .ok #[] w:=by
  cases o'<;>simp [Builtin.firstCells,loadCells,loadCellsFrom]
 cases b<;>simp [Builtin.append_,run_underlying hT.ht,sizeOf,typeInfo,hi,Builtin.lenOf,hn,hf,storeCells]
theorem zbM {t el:TypeId} {sz bytes ty:Nat} (hT:AppT P t el sz bytes) {oo:Option Addr} {a:Addr} {k c:Nat} {vs:List Value} (hl:vs.length=k * sz)
  (hv:∀ j x,vs[j]? = some x→w.cell? (a.add j)=some x) (h0:0 < k) (hm:k≤maxLen) (hby:k * bytes≤140737488355328) :
  ∃ cap rest,k≤cap∧cap≤maxLen∧(vs++rest).length=cap * sz ∧
   (Builtin.append_ #[t,t] ty #[.slice oo 0 0,.slice (some a) k c]).run P w = .ok (.slice (some ⟨w.heap.size,0,none⟩) k cap) (w.drew.alloc (.cells (List.toArray (vs++rest)) el)):=by
 obtain ⟨i,z,hi,hz,hzs,hs,hb⟩:=hT.info;subst hs hb;have hm':(k:Int)≤9223372036854775807:=by unfold maxLen at hm; omega
 refine ⟨grownCap w k 0 el,(Builtin.zeroCells z.cells (grownCap w k 0 el - k)).toList,grownCap_ge w k 0 el,grownCap_le_maxLen w k 0 el hm,?_,?_⟩
 ·simp only [List.length_append,hl,Array.length_toList,size_zeroCells,hzs,← Nat.add_mul]
  congr 1
  have:=grownCap_ge w k 0 el;omega
 ·cases oo with
  | none =>
   have:=run_append_nil (P:=P) w t ty el i z hT.ht hi hz a k c vs hl hv h0 hm' (by omega);rw [this]; congr 3;rw [← Array.toArray_toList (xs:=vs.toArray++_)]; simp
  | some b =>
   have:=run_append_grow (P:=P) w t ty el i z hT.ht hi hz b 0 0 [] (by simp) (by simp) a k c vs hl hv (by omega) (by omega) (by
    refine growslice_fits (by omega) ?_;rw [Nat.zero_add]; exact hby)
   simp only [Nat.zero_add] at this;rw [this]; congr 3;rw [← Array.toArray_toList (xs:=#[]++vs.toArray++_)]; simp
theorem znE (hm:MW W0 w0 κ0 m0 κ m w) (hW:W0.heap.size≤w.heap.size) (hsub:∀ id b,lk mr id=some b→lk m id=some b) (hev:Evs κ m w ρ e) {c:Call} {s x:Operand} {as ax:AX} {t el:TypeId} {sz bytes:Nat}
  (hT:AppT P t el sz bytes) (ho:o.op = .call c) (hb:c.callee = .builtin .append) (ha:c.args.toList=[s,x]) (hat:c.argTypes.toList=[t,t]) (hs:opd s=some as) (hx:opd x=some ax)
  (hst:zo ρ d mr (.app true sz bytes el as ax) K):zW P W0 w0 κ0 m0 κ m w e o K:=by
 obtain ⟨v,hv,hk⟩:=ze hst;clear hst;have hr:=hev _ _ _ hs hv;cases v with
 | nil =>
  obtain ⟨oo,hes⟩:=hr;obtain ⟨u,hu,hk⟩:=ze hk;obtain ⟨L,⟨_,hmax,hby,hK⟩,hsz,hc⟩:=Yb hm.mem hsub hT.pos hk (hev _ _ _ hx hu);rcases hc with ⟨rfl,o',c',hex⟩ | ⟨b,off,c',vs,hpos,hex,hall,hcell⟩
  ·refine ⟨.slice oo 0 0,w,zp κ (16 * d) none,_,_,qA ho hb ha hat (by rw [hes,hex]; exact JF hT (Nat.le_refl _)),hK,fun hf=>?_⟩;have hid:=hf (16 * d) (by simp [lk]);obtain ⟨h1,h2⟩:=hm.noRow hW hid el hT.pos;exact ⟨h1,h2,⟨oo,0,rfl,Nat.zero_le _⟩,Nat.zero_le _,[],sz,el,by simp [zr],Nat.le_refl _,fun _=>by simp [zX,zp],.no (Nat.zero_le _)⟩
  ·have hl:vs.length=L.length * sz:=by rw [← hall.length,yA hsz]
   obtain ⟨cap,rest,h1,h2,h3,hrun⟩:=zbM (w:=w) (ty:=o.type) (oo:=oo) (c:=c') hT hl (fun j y hj=>by rw [qq]; exact hcell j y hj) hpos hmax hby;refine ⟨_,_,zp κ (16 * d) (some w.heap.size),_,_,qA ho hb ha hat (by rw [hes,hex]; exact hrun),hK,fun hf=>?_⟩;have hid:=hf (16 * d) (by simp [lk]);obtain ⟨g1,g2⟩:=hm.newRow (rest:=rest) hW hid el hsz hT.pos hall (.inr rfl);refine ⟨g1,g2,⟨_,_,rfl,h2⟩,hmax,L,sz,el,by simp [zr],Nat.le_refl _,fun _=>?_,.no hmax⟩;simp only [zX,zp,if_true];exact ⟨cap,_,el,rfl,h1,h2,yB _ rfl _,by simpa using h3⟩
 | _=>exact (show False from hk).elim
theorem Jc (hev:Evs κ m w ρ e):∀ {l:List Operand} {as:List AX} {vs:List PV},opds l=some as→evs ρ as=some vs→za (Rep κ m w) vs (l.map e)
 | [],as,vs,h1,h2=>by simp only [opds] at h1; cases h1; simp only [evs] at h2; cases h2; trivial
 | x::l,as,vs,h1,h2=>by
  simp only [opds] at h1;split at h1
  ·rename_i y k hy hk;cases h1;simp only [evs] at h2;split at h2
   ·rename_i v k2 hv hk2;cases h2;exact ⟨hev _ _ _ hy hv,Jc hev hk hk2⟩
   ·cases h2
  ·cases h1
theorem zcw:∀ {vs:List PV} {L:List CV} {us:List Value},z8 vs=some L→za (Rep κ m w) vs us→za (RepC w (zf κ m)) L us
 | [],L,us,h1,h2=>by
  simp only [z8] at h1; cases h1;cases us with
  | nil=>trivial
  | cons=>exact h2.elim
 | x::l,L,us,h1,h2=>by
  simp only [z8] at h1;split at h1
  ·rename_i y k hy hk;cases h1;cases us with
   | nil=>exact h2.elim
   | cons u us=>exact ⟨yO hy h2.1,zcw hk h2.2⟩
  ·cases h1
theorem zdN (off:Nat):∀ (vs:List Value) (s:Nat) (arr:Array Value),off+s+vs.length≤arr.size →
  ((vs.zipIdx s).foldl (fun (cs:Array Value) (cj:Value × Nat)=>cs.setIfInBounds (off+cj.2) cj.1) arr).toList=arr.toList.take (off+s)++vs++arr.toList.drop (off+s+vs.length)
 | [],s,arr,_=>by simp
 | v::vs,s,arr,h=>by
  simp only [List.zipIdx_cons,List.foldl_cons,List.length_cons] at h ⊢;rw [zdN off vs (s+1) _ (by simp; omega)];have h1:(arr.setIfInBounds (off+s) v).toList=arr.toList.set (off+s) v:=by simp
  rw [h1];have hlt:off+s < arr.toList.length:=by simp; omega
  obtain ⟨A,b,C,hl,hA⟩:∃ A b C,arr.toList=A++b::C∧A.length=off+s :=
   ⟨arr.toList.take (off+s),arr.toList[off+s],arr.toList.drop (off+s+1),by rw [← List.drop_eq_getElem_cons hlt,List.take_append_drop],by simp; omega⟩
  rw [hl,← hA];have e1:(A++b::C).set A.length v=A++v::C:=by simp
  have e2:off+(s+1)=A.length+1:=by omega
  rw [e1,e2];have e3:(A++v::C).take (A.length+1)=A++[v]:=by rw [List.take_length_add_append]; simp
  have e4:(A++v::C).drop (A.length+1+vs.length)=C.drop vs.length:=by
   rw [show A.length+1+vs.length=A.length+(1+vs.length) by omega,List.drop_length_add_append,Nat.add_comm 1,List.drop_succ_cons]
  have e5:(A++b::C).drop (A.length+(vs.length+1))=C.drop vs.length:=by rw [List.drop_length_add_append,List.drop_succ_cons]
  have e6:(A++b::C).take A.length=A:=by simp
  rw [e3,e4,e5,e6]; simp
theorem zdn (arr:Array Value) (off:Nat) (v:Value) (h:off+v.cells.size≤arr.size) :
  (v.cells.zipIdx.foldl (fun (cs:Array Value) (cj:Value × Nat)=>cs.setIfInBounds (off+cj.2) cj.1) arr).toList=arr.toList.take off++v.cells.toList++arr.toList.drop (off+v.cells.size):=by
 have:=zdN off v.cells.toList 0 arr (by simpa using h);simp only [Nat.add_zero,Array.length_toList] at this;rw [← this,← Array.foldl_toList,Array.toList_zipIdx]
theorem zbS {cs vs:List PV} {arr:Array Value} {us:List Value} {off:Nat} (h:za (zb κ m w) cs arr.toList) (hv:za (zb κ m w) vs us) :
  za (zb κ m w) (j6 cs off vs) (arr.toList.take off++us++arr.toList.drop (off+us.length)):=by
 unfold j6;rw [← hv.length];exact ((h.take off).append hv).append (h.drop _)
theorem zdo (hev:Evs κ m w ρ e) {places:List (Nat × Nat)}:∀ {parts:List (Nat × Operand)} {ps:List (Nat × Nat × AX)} {cs cs':List PV} {arr:Array Value},
  Jg places parts=some ps→yy ρ cs ps=some cs'→za (zb κ m w) cs arr.toList →
  ∃ arr',Instr.fill (fun x=>places[x]?) arr (parts.map fun (i,x)=>(i,e x))=some arr'∧za (zb κ m w) cs' arr'.toList
 | [],ps,cs,cs',arr,h1,h2,h3=>by
  simp only [Jg] at h1; cases h1;simp only [yy] at h2; cases h2;exact ⟨arr,rfl,h3⟩
 | (i,x)::parts,ps,cs,cs',arr,h1,h2,h3=>by
  simp only [Jg] at h1;split at h1
  ·rename_i off n y k hp hx hk;cases h1;simp only [yy] at h2;split at h2
   ·rename_i v hv;split at h2
    ·rename_i hc;have hr:=(zg.of_val (hev _ _ _ hx hv) hc.1).cells;have hlen:(e x).cells.size=n:=by have:=hr.length; simp at this; omega
     have hsz:cs.length=arr.size:=by simpa using h3.length
     have hle:off+(e x).cells.size≤arr.size:=by omega
     have:=zdo hev (arr:=((e x).cells.zipIdx.foldl (fun (cs:Array Value) (cj:Value × Nat)=>cs.setIfInBounds (off+cj.2) cj.1) arr)) hk h2 (by
      rw [zdn _ _ _ hle];have:=zbS (off:=off) h3 hr
      simpa using this)
     obtain ⟨arr',h4,h5⟩:=this;refine ⟨arr',?_,h5⟩;simp only [List.map_cons,Instr.fill,hp,hlen];rw [if_neg (by simp; omega)];exact h4
    ·cases h2
   ·cases h2
  ·cases h1
theorem znK (hm:MW W0 w0 κ0 m0 κ m w) (hev:Evs κ m w ρ e) {t:TypeId} {parts:Array (Nat × Operand)} {fs:Array Field} {z:PV} {pl:List (Nat × Nat)} {ps:List (Nat × Nat × AX)}
  (ho:o.op = .build t parts) (hu:P.underlying t=some (.struct fs)) (hz:qK P t=some z) (hz':z.isVal=true) (hpl:zbF P fs=some pl) (hps:Jg pl parts.toList=some ps)
  (hs:zo ρ d mr (.build z.cells ps) K):zW P W0 w0 κ0 m0 κ m w e o K:=by
 obtain ⟨cs,hcs,hk⟩:=ze hs;obtain ⟨i,u,hi,hiz,hkv⟩:=zag hz;obtain ⟨arr',h1,h2⟩:=zdo hev (arr:=u.cells) hps hcs (za4 hkv hz');have hb:P.built t (parts.map fun (i,x)=>(i,e x)).toList=some arr':=by
  unfold Program.built;unfold zbF at hpl;simp only [hi,hu,hiz,hpl];rw [Array.toList_map]
  simpa using h1
 refine .same hm (v := .agg arr') ?_ hk ?_
 ·have:=run_build w t _ _ hb;simp only [execOp,ho,Sem.run_bind,this,Result.andThen_ok]; rfl
 ·have:=zg.of_mkAgg h2;simp only [Array.toArray_toList] at this;exact .ofA this
end
section
variable {P:Program} {W0 w0:World} {κ0:Kap} {m0:Mem} {κ:Kap} {m mr:Mem} {w:World} {e:Operand→Value} {o:Oper} {K:PV→Mem→Prop} {ρ:AX→Option PV} {d:Nat}
theorem znJ (hm:MW W0 w0 κ0 m0 κ m w) {t el:TypeId} {parts:Array (Nat × Operand)} {sz:Nat} (ho:o.op = .buildSlice t 0 parts) (ht:qf P t=some el) (hn:jr P el=some sz) (hp:parts=#[])
  (hs:zo ρ d mr .bsl0 K):zW P W0 w0 κ0 m0 κ m w e o K:=by
 subst hp;refine .below hm (v := .slice (some ⟨w.heap.size,0,none⟩) 0 0) (w':=w.alloc (.cells #[] el)) ?_ (Z3 _ _) hs fun _=>⟨_,rfl⟩
 simp [execOp,ho,Instr.buildSlice,run_underlying (Q9 ht),qa hn,Instr.fill,newRow,Array.range_zero']
theorem zdm {sz:Nat}:∀ (vs:List Value) (k:Nat) (arr:Array Value),(∀ v∈vs,v.cells.size=sz)→arr.size=(k+vs.length) * sz →
  Instr.fill (fun i=>some (i * sz,sz)) arr (vs.zipIdx k |>.map fun (v,i)=>(i,v))=some (List.toArray (arr.toList.take (k * sz)++vs.flatMap fun v=>v.cells.toList))
 | [],k,arr,_,hs=>by
  simp only [List.zipIdx_nil,List.map_nil,Instr.fill,List.flatMap_nil,List.append_nil];rw [List.take_of_length_le (by simp at hs ⊢; omega),Array.toArray_toList]
 | v::vs,k,arr,hv,hs=>by
  have h1:=hv v (by simp);have h2:k * sz+sz≤arr.size:=by
   rw [hs]; simp only [List.length_cons];rw [show k * sz+sz=(k+1) * sz by rw [Nat.add_mul]; omega];exact Nat.mul_le_mul_right _ (by omega)
  simp only [List.zipIdx_cons,List.map_cons,Instr.fill,h1];rw [if_neg (by simp; omega)];have hf:=zdn arr (k * sz) v (by omega);rw [h1] at hf;generalize hg:(v.cells.zipIdx.foldl (fun (cs:Array Value) (cj:Value × Nat)=>cs.setIfInBounds (k * sz+cj.2) cj.1) arr)=arr' at hf;have hsz:arr'.size=arr.size:=by
   have:=congrArg List.length hf;simp at this; omega
  have:=zdm vs (k+1) arr' (fun u hu=>hv u (by simp [hu])) (by rw [hsz,hs]; simp only [List.length_cons]; congr 1; omega);refine (Eq.trans ?_ this).trans ?_
  ·rw [← hg]
  ·rw [hf]
   congr 2
   rw [List.flatMap_cons,← List.append_assoc]
   congr 1
   have e1:(k+1) * sz=(arr.toList.take (k * sz)++v.cells.toList).length:=by simp [h1,Nat.add_mul]; omega
   rw [e1,List.take_left]
theorem zd1:∀ (k:Nat) (l:List (Nat × Operand)),Qj k l=true→l.map (fun (i,x)=>(i,e x))=((l.map fun p=>e p.2).zipIdx k).map fun (v,i)=>(i,v)
 | _,[],_=>rfl
 | k,(j,x)::l,h=>by
  simp only [Qj,Bool.and_eq_true,beq_iff_eq] at h;obtain ⟨rfl,h⟩:=h;simp [zd1 (k+1) l h]
theorem zdx:∀ {L:List CV} {us:List Value},(∀ x∈L,∀ cs,x ≠ .tup cs)→za (RepC w (zf κ m)) L us →
  za (fun y u=>RepC w (zf κ m) y u∧u.oneCell'=true) (L.flatMap CV.cells) (us.flatMap fun v=>v.cells.toList)
 | [],[],_,_=>trivial
 | x::L,u::us,ht,h=>by
  simp only [List.flatMap_cons];exact (Zr h.1 (ht x (by simp))).append (zdx (fun y hy=>ht y (by simp [hy])) h.2)
 | [],_::_,_,h=>h.elim
 | _::_,[],_,h=>h.elim
theorem zdy:∀ {L:List PV} {us:List Value},(∀ x∈L,x.isVal=true)→za (Rep κ m w) L us →
  za (zb κ m w) (L.flatMap PV.cells) (us.flatMap fun v=>v.cells.toList)
 | [],[],_,_=>trivial
 | x::L,u::us,ht,h=>by
  simp only [List.flatMap_cons];exact (zg.cells (zg.of_val h.1 (ht x (by simp)))).append (zdy (fun y hy=>ht y (by simp [hy])) h.2)
 | [],_::_,_,h=>h.elim
 | _::_,[],_,h=>h.elim
theorem znI (hm:MW W0 w0 κ0 m0 κ m w) (hW:W0.heap.size≤w.heap.size) (hev:Evs κ m w ρ e) {t el:TypeId} {parts:Array (Nat × Operand)} {sz n:Nat} {ps:List AX} {z:PV} (ho:o.op = .buildSlice t n parts) (ht:qf P t=some el) (hn:jr P el=some sz)
  (hz:qK P el=some z) (hps:opds (parts.toList.map (·.2))=some ps) (hn0:n≠0) (hpn:parts.size=n) (hord:Qj 0 parts.toList=true) (h0:0 < sz) (hsmall:n * sz≤1000)
  (hs:zo ρ d mr (.bsl sz el ps) K):zW P W0 w0 κ0 m0 κ m w e o K:=by
 obtain ⟨vs,hvs,hk⟩:=ze hs;have hr:=Jc hev hps hvs;obtain ⟨u,hu,hkv⟩:=znq (P:=P) (w:=w) hz;generalize hus:(parts.toList.map (·.2)).map e=us at hr;have hul:us.length=n:=by rw [← hus]; simp [hpn]
 have hparts:(parts.map fun (i,x)=>(i,e x)).toList=(us.zipIdx 0).map fun (v,i)=>(i,v):=by
  rw [Array.toList_map,zd1 0 _ hord,← hus,List.map_map]; rfl
 have hrun:(∀ v∈us,v.cells.size=sz)→(execOp e o).run P w = .ok (.value (.slice (some ⟨w.heap.size,0,none⟩) n n)) (w.alloc (.cells (List.toArray (us.flatMap fun v=>v.cells.toList)) el)):=fun hsz=>by
  have hfill:=zdm (sz:=sz) us 0 ((Array.range (n * sz)).map fun i=>u.cells[i % u.cells.size]!) hsz (by simp [hul]);have hne:¬ (n * sz=0):=by
   intro h; rcases Nat.mul_eq_zero.1 h with h | h<;>omega
  have hns:¬ (n * sz > 2 ^ 24):=by omega
  simp only [Nat.zero_mul,List.take_zero,List.nil_append] at hfill;simp only [execOp,ho,Instr.buildSlice,Sem.run_bind,run_underlying (Q9 ht),Result.andThen_ok,qa hn,if_neg hns,if_neg hne,hu,Sem.run_pure,hparts,hfill,newRow,run_newObj];rfl
 split at hk
 ·rename_i L hL;obtain ⟨hlen,htup,hk⟩:=hk;have hc:=zcw hL hr;have hLl:L.length=n:=by rw [hc.length,hul]
  have hsz:∀ v∈us,v.cells.size=sz:=by
   intro v hv;obtain ⟨i,hi⟩:=List.mem_iff_getElem?.1 hv;have hlt:i < L.length:=by
    rw [hc.length];rcases Nat.lt_or_ge i us.length with h' | h'
    ·exact h'
    ·simp [List.getElem?_eq_none h'] at hi
   obtain ⟨b,hb,hrb⟩:=hc.get i L[i] (by simp [hlt]);rw [hi] at hb; cases hb;have:=(Zr hrb (htup _ (List.getElem_mem hlt))).length;rw [hlen _ (List.getElem_mem hlt)] at this
   simpa using this.symm
  have hflat:=zdx (fun x hx=>htup x hx) hc;refine .below hm (v := .slice (some ⟨w.heap.size,0,none⟩) n n) (w':=w.alloc (.cells (List.toArray (us.flatMap fun v=>v.cells.toList)) el)) (hrun hsz) (Z3 _ _) hk fun hp=>?_
  refine .of_c ?_;have hsome:L≠[]:=by rintro rfl; simp at hLl; omega
  have hA:=hflat.imp fun _ _ hh=>(⟨RepC.pres hp hh.1,hh.2⟩:RepC _ _ _ _∧_)
  have:RepC (w.alloc (.cells (List.toArray (us.flatMap fun v=>v.cells.toList)) el)) (zf κ m) (.row L) (.slice (some ⟨w.heap.size,0,none⟩) L.length n):=by
   refine .row (sz:=sz) (vs:=us.flatMap fun v=>v.cells.toList) hsome h0 (by omega) (by unfold maxLen; have:n≤n * sz:=Nat.le_mul_of_pos_right n h0; omega) ?_ hlen hA.length (fun i x v hx hv=>?_) (fun v hv=>?_) (fun j v hj=>?_)
   ·intro hl; have:=hm.mem.live_lt hl; omega
   ·obtain ⟨b,hb,hrb,_⟩:=hA.get i x hx;rw [hv] at hb; cases hb; exact hrb
   ·exact QR (za.map_c hA) v hv
   ·rw [j1 (yB w rfl _),Nat.zero_add]; exact hj
  rw [hLl] at this; exact this
 ·obtain ⟨hval,hk⟩:=hk;have hlv:vs.length=n:=by rw [hr.length,hul]
  have hsz:∀ v∈us,v.cells.size=sz:=by
   intro v hv;obtain ⟨i,hi⟩:=List.mem_iff_getElem?.1 hv;have hlt:i < vs.length:=by
    rw [hr.length];rcases Nat.lt_or_ge i us.length with h' | h'
    ·exact h'
    ·simp [List.getElem?_eq_none h'] at hi
   obtain ⟨b,hb,hrb⟩:=hr.get i vs[i] (by simp [hlt]);rw [hi] at hb; cases hb;have hv':=hval _ (List.getElem_mem hlt);have:=(zg.cells (zg.of_val hrb hv'.2)).length;rw [hv'.1] at this
   simpa using this.symm
  have hall:=zdy (fun x hx=>(hval x hx).2) hr;have hle:n≤n * sz:=Nat.le_mul_of_pos_right n h0;refine ⟨.slice (some ⟨w.heap.size,0,none⟩) n n,w.alloc (.cells (List.toArray (us.flatMap fun v=>v.cells.toList)) el),zp κ (16 * d) (some w.heap.size),_,_,hrun hsz,hk,fun hf=>?_⟩;have hid:=hf (16 * d) (by simp [lk]);obtain ⟨g1,g2⟩:=hm.newRow (rest:=[]) hW hid el (fun x hx=>(hval x hx).1) h0 hall (.inl rfl);rw [List.append_nil] at g1 g2;refine ⟨g1,g2,⟨⟨_,_,by rw [hlv],by unfold maxLen; omega⟩,by unfold maxLen; omega,_,sz,el,by simp [zr]; rfl,by simp,fun _=>?_,fun h=>by simp [zp] at h⟩⟩;simp only [zX,zp,if_true];exact ⟨n,_,el,by rw [hlv],by omega,by unfold maxLen; omega,yB _ rfl _,by have h:=hall.length; rw [yA fun x hx=>(hval x hx).1] at h; rw [hlv] at h; simpa using h.symm⟩
theorem zlr {α β:Type} (f:α→List β) (x:α) (n:Nat):(List.replicate n x).flatMap f=(List.replicate n (f x)).flatten:=by
 induction n with
 | zero=>rfl
 | succ n ih=>simp [List.replicate_succ,ih]
theorem zmg (z:Array Value) (n:Nat):(madeCells z (n * z.size)).toList=(List.replicate n z.toList).flatten:=by
 unfold madeCells;induction n with
 | zero=>simp
 | succ n ih =>
  have e1:(Array.range ((n+1) * z.size)).toList=(Array.range (n * z.size)).toList++(List.range z.size).map (n * z.size+·):=by
   rw [Array.toList_range,Array.toList_range,Nat.add_mul,Nat.one_mul,List.range_add]
  rw [Array.toList_map,e1,List.map_append,← Array.toList_map,ih,List.replicate_succ',List.flatten_append]
  congr 1
  simp only [List.flatten_cons,List.flatten_nil,List.append_nil,List.map_map];apply List.ext_getElem
  ·simp
  ·intro i h1 h2;have hi:i < z.size:=by simpa using h1
   simp only [List.getElem_map,List.getElem_range,Function.comp];have:(n * z.size+i) % z.size=i:=by rw [Nat.mul_comm,Nat.mul_add_mod,Nat.mod_eq_of_lt hi]
   rw [this];simp [hi]
theorem za.rep {α β:Type} {R:α→β→Prop} {a:List α} {b:List β} (h:za R a b):∀ n,za R (List.replicate n a).flatten (List.replicate n b).flatten
 | 0=>trivial
 | n+1=>by simp only [List.replicate_succ,List.flatten_cons]; exact h.append (h.rep n)
theorem zan:∀ {cs:List PV} {l:List CV} {us:List Value},jf cs=some l→za (zb κ m w) cs us→za (zb κ m w) (l.map .c) us
 | [],l,us,h,hu=>by
  simp only [jf] at h; cases h; exact hu
 | a::cs,l,us,h,hu=>by
  simp only [jf] at h;split at h
  ·rename_i y k hy hk;cases h;cases us with
   | nil=>exact hu.elim
   | cons u us =>
    refine ⟨?_,zan hk hu.2⟩;cases a with
    | c ca=>simp only [jw] at hy; cases hy; exact hu.1
    | nil =>
     simp only [jw] at hy; cases hy;obtain ⟨oo,rfl⟩:=hu.1;exact RepC.nil (Nat.zero_le _)
    | _=>simp [jw] at hy
  ·cases h
theorem zj6 {z:PV} {us:List Value} (h:za (zb κ m w) z.cells us):za (zb κ m w) (clZ z).cells us:=by
 cases z with
 | c x=>exact h
 | nil=>exact zan (cs:=[.nil]) (l:=[.row []]) rfl h
 | agg cs =>
  unfold clZ;simp only [jT];cases hl:jf cs with
  | none=>exact h
  | some l=>exact zan hl h
 | _=>exact h
theorem zfM (hm:MW W0 w0 κ0 m0 κ m w) (hW:W0.heap.size≤w.heap.size) (hev:Evs κ m w ρ e) {t el:TypeId} {l c:Operand} {al:AX} {z:PV} {i:TypeInfo}
  (ho:o.op = .makeSlice t l c) (ht:qf P t=some el) (hi:P.info? el=some i) (hz:qK P el=some z) (hz':z.isVal=true) (hpos:0 < i.size) (hl:opd l=some al) (hsame:e l=e c)
  (hs:zo ρ d mr (.mks i.size i.bytes el (clZ z) al) K):zW P W0 w0 κ0 m0 κ m w e o K:=by
 obtain ⟨v,hv,hk⟩:=ze hs;have hr:=hev _ _ _ hl hv;clear hs;split at hk
 ·rename_i k;obtain ⟨hk0,hkm,hkb,hzs,_,hk⟩:=hk;obtain ⟨hel,_⟩:=Rep.sc hr;obtain ⟨i',u,hi',hu,hkv⟩:=zag hz;rw [hi] at hi'; cases hi';have hA:=za4 (κ:=κ) (m:=m) (w:=w) hkv hz';have hA:=zj6 hA;have hus:u.cells.size=i.size:=by have:=hA.length; simp at this; omega
  have hkm':k≤9223372036854775807:=by unfold maxLen at hkm; omega
  have hrun:=run_make (P:=P) w t el i u (Q9 ht) hi hu .i64 .i64 k k hk0 (Int.le_refl _) (by omega) hkm';refine ⟨.slice (some ⟨w.heap.size,0,none⟩) k.toNat k.toNat,w.alloc (.cells (madeCells u.cells (k.toNat * i.size)) el),zp κ (16 * d) (some w.heap.size),_,_,?_,hk,fun hf=>?_⟩
  ·have hec:e c = .int .i64 k:=hsame▸hel;simp only [execOp,ho,hel,hec,Sem.run_bind,hrun,Result.andThen_ok]; rfl
  ·have hid:=hf (16 * d) (by simp [lk]);have hlist:madeCells u.cells (k.toNat * i.size)=List.toArray ((List.replicate k.toNat u.cells.toList).flatten++[]):=by
    rw [List.append_nil,← hus,← zmg,Array.toArray_toList]
   have hall:za (zb κ m w) ((List.replicate k.toNat (clZ z)).flatMap PV.cells) (List.replicate k.toNat u.cells.toList).flatten:=by
    rw [zlr]; exact hA.rep _
   obtain ⟨g1,g2⟩:=hm.newRow (rest:=[]) hW hid el (fun x hx=>by rw [(List.mem_replicate.1 hx).2]; exact hzs) hpos hall (.inl rfl);rw [← hlist] at g1 g2;refine ⟨g1,g2,⟨_,_,rfl,by omega⟩,by omega,_,i.size,el,by simp [zr]; rfl,by simp,fun _=>?_,fun h=>by simp [zp] at h⟩;simp only [zX,zp,if_true];exact ⟨k.toNat,_,el,rfl,Nat.le_refl _,by omega,yB _ rfl _,size_madeCells _ _⟩
 ·exact hk.elim
theorem znY (hm:MW W0 w0 κ0 m0 κ m w) (hev:Evs κ m w ρ e) {t el:TypeId} {x:Operand} {lo hi:Option Operand} {ax:AX} {al ah:Option AX} {sz:Nat}
  (ho:o.op = .slice t x lo hi none) (ht:P.underlying t=some (.slice el)) (hn:jr P el=some sz) (hx:opd x=some ax) (hlo:opt lo=some al) (hhi:opt hi=some ah)
  (hs:zo ρ d mr (.slr sz ax al ah) K):zW P W0 w0 κ0 m0 κ m w e o K:=by
 obtain ⟨v,hv,hk⟩:=ze hs;have hr:=hev _ _ _ hx hv;clear hs;cases v with
 | c cx =>
  cases cx with
  | row L =>
   obtain ⟨hcells,hk⟩:=hk;generalize hex:e x=vx at hr;have key:∀ (a:Option Addr) (cap l h:Nat),vx = .slice a L.length cap→L.length≤cap→cap≤maxLen→l≤h→h≤L.length →
     RepC w (zf κ m) (.row ((L.take h).drop l)) (.slice (if cap=l then a else a.map (·.add (l * sz))) (h - l) (cap - l)):=by
    rintro a cap l h rfl hc1 hc2 h1 h2;generalize hval:(Value.slice a L.length cap)=vv at hr;by_cases hlh:l=h
    ·subst hlh;rw [show (L.take l).drop l=[] from List.drop_eq_nil_of_le (by simp; omega),Nat.sub_self];exact .nil (by omega)
    ·cases (Rep.c hr) with
     | nil=>simp at h2; omega
     | @row _ b off cap' sz' vs hne hsz0 hlc hcm hS hsz hl hcell hone hc =>
      cases hval;have hszeq:sz'=sz:=by
       cases L with
       | nil=>exact absurd rfl hne
       | cons y L=>rw [← hsz y (by simp),hcells y (by simp)]
      subst hszeq;have hcap:¬ cap=l:=by omega
      rw [if_neg hcap];have hlen:((L.take h).drop l).length=h - l:=by simp; omega
      have hsub:((L.take h).drop l).flatMap CV.cells=((L.flatMap CV.cells).drop (l * sz')).take ((h - l) * sz'):=by
       have e1:L=L.take l++((L.take h).drop l++L.drop h):=by
        rw [← List.append_assoc,show L.take l=(L.take h).take l by rw [List.take_take]; congr 1; omega,List.take_append_drop,List.take_append_drop]
       have f1:((L.take l).flatMap CV.cells).length=l * sz':=by
        rw [Qc (fun x hx=>hsz x (List.mem_of_mem_take hx))]; simp; congr 1; omega
       have f2:(((L.take h).drop l).flatMap CV.cells).length=(h - l) * sz':=by
        rw [Qc (fun x hx=>hsz x (List.mem_of_mem_take (List.mem_of_mem_drop hx))),hlen]
       conv=>rhs; rw [e1]
       rw [List.flatMap_append,List.flatMap_append,← f1,List.drop_left,← f2,List.take_left]
      have hvl:(h - l) * sz'+l * sz'≤vs.length:=by
       rw [← hl,Qc hsz,← Nat.add_mul]; exact Nat.mul_le_mul_right _ (by omega)
      have:=RepC.row (w:=w) (S:=zf κ m) (L:=(L.take h).drop l) (b:=b) (off:=off+l * sz') (cap:=cap - l) (sz:=sz') (vs:=(vs.drop (l * sz')).take ((h - l) * sz'))
       (by intro hh; rw [hh] at hlen; simp at hlen; omega) hsz0 (by omega) (by omega) hS (fun x hx=>hsz x (List.mem_of_mem_take (List.mem_of_mem_drop hx)))
       (by rw [hsub]; simp [hl]) (fun i y u hy hu=>by
        have hi:i < (h - l) * sz':=by
         rcases Nat.lt_or_ge i ((h - l) * sz') with h' | h'
         ·exact h'
         ·rw [List.getElem?_eq_none (by simp; omega)] at hu; cases hu
        rw [hsub,yS _ _ _ _ hi] at hy;rw [yS _ _ _ _ hi] at hu;exact hcell _ _ _ hy hu)
       (fun u hu=>hone u (List.mem_of_mem_drop (List.mem_of_mem_take hu)))
       (fun j u hj=>by
        have hi:j < (h - l) * sz':=by
         rcases Nat.lt_or_ge j ((h - l) * sz') with h' | h'
         ·exact h'
         ·rw [List.getElem?_eq_none (by simp; omega)] at hj; cases hj
        rw [yS _ _ _ _ hi] at hj;rw [Nat.add_assoc]; exact hc _ _ hj)
      rw [hlen] at this
      simpa [qq] using this
   obtain ⟨a,cap,hvx,hc1,hc2⟩:∃ a cap,vx = .slice a L.length cap∧L.length≤cap∧cap≤maxLen:=by
    cases (Rep.c hr) with
    | nil hc=>exact ⟨_,_,rfl,Nat.zero_le _,hc⟩
    | row h1 h2 h3 h4=>exact ⟨_,_,rfl,h3,h4⟩
   rcases Z4 hev hlo hk with ⟨rfl,hk⟩ | ⟨xl,kl,nl,rfl,hel,hl0,hk⟩<;>rcases Z4 hev hhi hk with ⟨rfl,hk⟩ | ⟨xh,kh,nh,rfl,heh,hh0,hk⟩
   ·refine .same hm (v := .slice (if cap=0 then a else a.map (·.add (0 * sz))) (L.length - 0) (cap - 0)) ?_ hk.2.2 (.of_c (key a cap _ _ hvx hc1 hc2 hk.1 hk.2.1));simp [execOp,ho,Instr.sliceAt,Instr.slice,Instr.sliceBounds,run_underlying ht,hex,hvx,qa hn]
   ·have h1:nh≤cap:=by omega
    refine .same hm (v := .slice (if cap=0 then a else a.map (·.add (0 * sz))) (nh.toNat - 0) (cap - 0)) ?_ hk.2.2 (.of_c (key a cap _ _ hvx hc1 hc2 hk.1 hk.2.1));simp [execOp,ho,Instr.sliceAt,Instr.slice,Instr.sliceBounds,Instr.sliceBound,asIntOf,run_underlying ht,hex,hvx,heh,hh0,h1,qa hn]
   ·have h1:nl≤(L.length:Int):=by omega
    refine .same hm (v := .slice (if cap=nl.toNat then a else a.map (·.add (nl.toNat * sz))) (L.length - nl.toNat) (cap - nl.toNat)) ?_ hk.2.2 (.of_c (key a cap _ _ hvx hc1 hc2 hk.1 hk.2.1));simp [execOp,ho,Instr.sliceAt,Instr.slice,Instr.sliceBounds,Instr.sliceBound,asIntOf,run_underlying ht,hex,hvx,hel,hl0,h1,qa hn]
   ·have h1:nh≤cap:=by omega
    have h2':nl≤max nh 0:=by omega
    refine .same hm (v := .slice (if cap=nl.toNat then a else a.map (·.add (nl.toNat * sz))) (nh.toNat - nl.toNat) (cap - nl.toNat)) ?_ hk.2.2 (.of_c (key a cap _ _ hvx hc1 hc2 hk.1 hk.2.1));simp [execOp,ho,Instr.sliceAt,Instr.slice,Instr.sliceBounds,Instr.sliceBound,asIntOf,run_underlying ht,hex,hvx,heh,hh0,h1,hel,hl0,h2',qa hn]
  | _=>exact (show False from hk).elim
 | own id n =>
  obtain ⟨⟨a,cap,hex,hcm⟩,hnm,L',sz',e',g1,g2,g3,_⟩:=hr;have key:∀ l,l≤n→Rep κ m w (.sl id n l sz) (.slice (if cap=l then a else a.map (·.add (l * sz))) (n - l) (cap - l)):=by
   intro l hl;refine ⟨⟨_,_,rfl,hnm⟩,L',sz',e',g1,g2,fun hL hlt=>?_⟩;have hO:=g3 hL;unfold zX at hO;cases hk2:κ id with
   | none =>
    rw [hk2] at hO;obtain ⟨o,hO⟩:=hO;rw [hex] at hO;cases hO;omega
   | some b =>
    rw [hk2] at hO;obtain ⟨cap',arr,e'',h2,h3,_⟩:=hO;rw [hex] at h2;cases h2;exact ⟨b,cap - l,rfl,by rw [if_neg (by omega)]; simp [qq]⟩
  have hno:hi=none:=by
   cases hi with
   | none=>rfl
   | some y =>
    exfalso;simp only [opt,Option.map_eq_some_iff] at hhi;obtain ⟨ay,_,rfl⟩:=hhi;rcases Z4 hev hlo hk with ⟨_,_,h,_⟩ | ⟨_,_,_,_,_,_,_,h,_⟩<;>cases h
  subst hno;rcases Z4 hev hlo hk with ⟨rfl,h1,_,hkk⟩ | ⟨xl,kl,nl,rfl,hel,hl0,h1,_,hkk⟩
  ·refine .same hm (v := .slice (if cap=0 then a else a.map (·.add (0 * sz))) (n - 0) (cap - 0)) ?_ hkk (key 0 h1);simp [execOp,ho,Instr.sliceAt,Instr.slice,Instr.sliceBounds,run_underlying ht,hex,qa hn]
  ·have h1':nl≤(n:Int):=by omega
   refine .same hm (v := .slice (if cap=nl.toNat then a else a.map (·.add (nl.toNat * sz))) (n - nl.toNat) (cap - nl.toNat)) ?_ hkk (key _ h1);simp [execOp,ho,Instr.sliceAt,Instr.slice,Instr.sliceBounds,Instr.sliceBound,asIntOf,run_underlying ht,hex,hel,hl0,h1',qa hn]
 | _=>exact (show False from hk).elim
end
def js:List SK→List Value→Bool
 | [],[]=>true
 | k::ks,v::l=>k.ok v&&js ks l
 | _,_=>false
def eqV:List Value→List Value→Bool
 | a::l,b::k=>scEq a b&&eqV l k
 | _,_=>true
theorem JG:∀ {ks:List SK} {l:List Value},js ks l=true→l.length=ks.length
 | [],[],_=>rfl
 | _::ks,_::l,h=>by simp only [js,Bool.and_eq_true] at h; simp [JG h.2]
 | [],_::_,h=>by simp [js] at h
 | _::_,[],h=>by simp [js] at h
theorem zbQ:∀ {ks ks':List SK} {l:List Value},js (ks++ks') l=true→js ks (l.take ks.length)=true∧js ks' (l.drop ks.length)=true
 | [],_,l,h=>by simpa [js] using h
 | k::ks,ks',v::l,h=>by
  simp only [List.cons_append,js,Bool.and_eq_true] at h;obtain ⟨h1,h2⟩:=zbQ h.2;simp [js,h.1,h1,h2]
 | _::_,_,[],h=>by simp [js] at h
theorem zcO:∀ {a b a' b':List Value},a.length=b.length→eqV (a++a') (b++b')=(eqV a b&&eqV a' b')
 | [],[],_,_,_=>by simp [eqV]
 | x::a,y::b,a',b',h=>by simp only [List.cons_append,eqV]; rw [zcO (by simpa using h),Bool.and_assoc]
 | [],_::_,_,_,h=>by simp at h
 | _::_,[],_,_,h=>by simp at h
section
variable {P:Program} {w:World}
def ZU (agg:Bool) (v:Value) (l:List Value):Prop:=if agg then v = .agg l.toArray else l=[v]
theorem zfk {t:TypeId} {g:Bool} {n off:Nat} {xs:List Value} (ha:jR P t=some g) (hn:jr P t=some n) (h1:off+n≤xs.length) (hg:g=false→n=1) :
  ∃ v,(part t xs.toArray off).run P w = .ok v w∧ZU g v ((xs.drop off).take n):=by
 cases g with
 | true=>exact ⟨.agg ((xs.drop off).take n).toArray,by simp [part,Zt ha,qa hn],rfl⟩
 | false =>
  obtain rfl:=hg rfl;have hlt:off < xs.length:=by omega
  refine ⟨xs[off],by simp [part,Zt ha,hlt],?_⟩;show (xs.drop off).take 1=[xs[off]];rw [List.drop_eq_getElem_cons hlt]; rfl
theorem znp:∀ (d:Nat) (t:TypeId) (ks:List SK),skT P d t=some ks→∀ (g:Bool),jR P t=some g→∀ (D:Nat),d≤D→∀ (x y:Value) (xs ys:List Value),ZU g x xs→ZU g y ys →
  js ks xs=true→js ks ys=true→(Op.equalIn D t x y).run P w = .ok (eqV xs ys) w:=by
 intro d;induction d with
 | zero=>intro t ks h; simp [skT] at h
 | succ d ih =>
  intro t ks h g hg D hD x y xs ys hx hy hkx hky;obtain ⟨D,rfl⟩:∃ E,D=E+1:=⟨D - 1,by omega⟩;simp only [skT] at h;split at h
  ·rename_i hu;cases h;have:g=false:=by simp [jR,hu] at hg; exact hg
   subst this;simp only [ZU,Bool.false_eq_true,if_false] at hx hy;subst hx hy;cases x<;>simp [js,SK.ok] at hkx;cases y<;>simp [js,SK.ok] at hky;rw [run_equalIn_bool' w D t _ _ hu]; simp [eqV,scEq]
  ·rename_i k hu;cases h;have:g=false:=by simp [jR,hu] at hg; exact hg
   subst this;simp only [ZU,Bool.false_eq_true,if_false] at hx hy;subst hx hy;cases x<;>simp [js,SK.ok] at hkx;cases y<;>simp [js,SK.ok] at hky;subst hkx hky;rw [run_equalIn_int w D t _ _ _ _ hu]; simp [eqV,scEq]
  ·rename_i hu;cases h;have:g=false:=by simp [jR,hu] at hg; exact hg
   subst this;simp only [ZU,Bool.false_eq_true,if_false] at hx hy;subst hx hy;cases x<;>simp [js,SK.ok] at hkx;cases y<;>simp [js,SK.ok] at hky;rw [run_equalIn_string w D t _ _ hu]; simp [eqV,scEq]
  ·rename_i fs hu;split at h
   ·rename_i hp;have:g=true:=by simp [jR,hu] at hg; exact hg
    subst this;simp only [ZU,if_true] at hx hy;subst hx hy;have hf:P.fieldsOf t=fs:=by simp [Program.fieldsOf,hu]
    rw [run_equalIn_struct w D t _ _ (by rw [hf]; exact hu) hp,hf];have key:∀ (l:List Field) (off:Nat) (ks:List SK),skF (skT P d) P off l=some ks→off≤xs.length→off≤ys.length→js ks (xs.drop off)=true→js ks (ys.drop off)=true →
      (Op.eqFields D xs.toArray ys.toArray l).run P w = .ok (eqV (xs.drop off) (ys.drop off)) w:=by
     intro l;induction l with
     | nil =>
      intro off ks h h1 h2 h3 h4;simp only [skF] at h; cases h;have:=JG h3; have:=JG h4;have e1:xs.drop off=[]:=List.eq_nil_of_length_eq_zero (by simpa using JG h3);rw [e1]; simp [Op.eqFields,eqV]
     | cons f l ihl =>
      intro off ks h h1 h2 h3 h4;simp only [skF] at h;split at h
      ·rename_i hfn;split at h
       ·rename_i ks1 ga n hk1 hga hn;split at h
        ·rename_i hnl;simp only [Option.map_eq_some_iff] at h;obtain ⟨ks2,hk2,rfl⟩:=h;obtain ⟨a1,a2⟩:=zbQ h3;obtain ⟨b1,b2⟩:=zbQ h4;rw [← hnl] at a1 a2 b1 b2;have lx:=JG a1;have ly:=JG b1;simp only [List.length_take,List.length_drop] at lx ly;have hone:ga=false→n=1:=by
          rintro rfl;rw [hnl];cases d with
          | zero=>simp [skT] at hk1
          | succ d =>
           simp only [skT] at hk1;split at hk1<;>first|(cases hk1; done)|(cases hk1; rfl)|(rename_i hu'; simp [jR,hu'] at hga)
         obtain ⟨va,ra,sa⟩:=zfk (P:=P) (w:=w) (xs:=xs) hga hn (off:=off) (by omega) hone;obtain ⟨vb,rb,sb⟩:=zfk (P:=P) (w:=w) (xs:=ys) hga hn (off:=off) (by omega) hone;have he:=ih f.type ks1 hk1 ga hga D (by omega) va vb _ _ sa sb a1 b1;have hr:=ihl (off+n) ks2 hk2 (by omega) (by omega) (by simpa [List.drop_drop] using a2) (by simpa [List.drop_drop] using b2);have e1:eqV (xs.drop off) (ys.drop off)=(eqV ((xs.drop off).take n) ((ys.drop off).take n)&&eqV (xs.drop (off+n)) (ys.drop (off+n))):=by
          rw [← zcO (by simp; omega),← List.drop_drop,← List.drop_drop,List.take_append_drop,List.take_append_drop]
         rw [e1];simp only [Op.eqFields,if_pos hfn.1,hfn.2,Sem.run_bind,ra,rb,he,Result.andThen_ok,Sem.run_ite,Sem.run_pure,hr];cases eqV ((xs.drop off).take n) ((ys.drop off).take n)<;>simp
        ·cases h
       ·cases h
      ·cases h
    have:=key fs.toList 0 ks h (Nat.zero_le _) (Nat.zero_le _) (by simpa using hkx) (by simpa using hky)
    simpa using this
   ·cases h
  ·cases h
theorem zfo {κ:Kap} {m:Mem}:∀ {ks:List SK} {a b:List CV} {us vs:List Value} {t:Bool},skOk ks a=true→skOk ks b=true→ZT a b=some t →
  za (fun y u=>RepC w (zf κ m) y u∧u.oneCell'=true) a us→za (fun y u=>RepC w (zf κ m) y u∧u.oneCell'=true) b vs→js ks us=true∧js ks vs=true∧eqV us vs=t
 | [],[],[],[],[],t,_,_,h,_,_=>by simp only [ZT] at h; cases h; exact ⟨rfl,rfl,rfl⟩
 | k::ks,.sc a::l,.sc b::l',u::us,v::vs,t,h1,h2,h,ha,hb=>by
  simp only [skOk,Bool.and_eq_true] at h1 h2;simp only [ZT,Option.map_eq_some_iff] at h;obtain ⟨t',ht',rfl⟩:=h;obtain ⟨g1,g2,g3⟩:=zfo h1.2 h2.2 ht' ha.2 hb.2;obtain rfl:=(Rep.sc (Rep.of_c ha.1.1)).1;obtain rfl:=(Rep.sc (Rep.of_c hb.1.1)).1;exact ⟨by simp [js,h1.1,g1],by simp [js,h2.1,g2],by simp [eqV,g3]⟩
 | [],_::_,_,_,_,_,h,_,_,_,_=>by simp [skOk] at h
 | [],[],_::_,_,_,_,_,h,_,_,_=>by simp [skOk] at h
 | _::_,[],_,_,_,_,h,_,_,_,_=>by simp [skOk] at h
 | _::_,_::_,[],_,_,_,_,h,_,_,_=>by simp [skOk] at h
 | _::_,.row _::_,_,_,_,_,h,_,_,_,_=>by simp [skOk] at h
 | _::_,.agg _::_,_,_,_,_,h,_,_,_,_=>by simp [skOk] at h
 | _::_,.tup _::_,_,_,_,_,h,_,_,_,_=>by simp [skOk] at h
 | _::_,.sc _::_,.row _::_,_,_,_,_,h,_,_,_=>by simp [skOk] at h
 | _::_,.sc _::_,.agg _::_,_,_,_,_,h,_,_,_=>by simp [skOk] at h
 | _::_,.sc _::_,.tup _::_,_,_,_,_,h,_,_,_=>by simp [skOk] at h
 | _,[],_,_::_,_,_,_,_,_,h,_=>h.elim
 | _,_::_,_,[],_,_,_,_,_,h,_=>h.elim
 | _,_,[],_,_::_,_,_,_,_,_,h=>h.elim
 | _,_,_::_,_,[],_,_,_,_,_,h=>h.elim
variable {W0 w0:World} {κ0:Kap} {m0:Mem} {κ:Kap} {m mr:Mem} {e:Operand→Value} {o:Oper} {K:PV→Mem→Prop} {ρ:AX→Option PV} {d:Nat}
theorem zfJ (hm:MW W0 w0 κ0 m0 κ m w) (hev:Evs κ m w ρ e) {neg:Bool} {t t':TypeId} {x y:Operand} {ax ay:AX} {ks:List SK} {fs:Array Field} (ho:o.op = .binOp (if neg then .neq else .eql) t x y t')
  (ht:P.underlying t=some (.struct fs)) (hks:skT P 5 t=some ks) (hg:P.eqGuardType P.depth t=false) (hx:opd x=some ax) (hy:opd y=some ay)
  (hs:zo ρ d mr (.beq neg ks ax ay) K):zW P W0 w0 κ0 m0 κ m w e o K:=by
 obtain ⟨v,hv,hk0⟩:=ze hs;obtain ⟨u,hu,hk⟩:=ze hk0;have hr:=hev _ _ _ hx hv;have hr':=hev _ _ _ hy hu;clear hk0 hs;split at hk
 ·rename_i a b;obtain ⟨h1,h2,hk⟩:=hk;obtain ⟨r,hr3,hk⟩:=ze hk;have hA:=Zr (Rep.c hr) (by simp);have hB:=Zr (Rep.c hr') (by simp);obtain ⟨us,hus⟩:∃ us:List Value,e x = .agg us.toArray:=by
   generalize e x=vx at hr;cases (Rep.c hr) with
   | agg=>exact ⟨_,rfl⟩
  obtain ⟨vs,hvs⟩:∃ us:List Value,e y = .agg us.toArray:=by
   generalize e y=vx at hr';cases (Rep.c hr') with
   | agg=>exact ⟨_,rfl⟩
  simp only [CV.cells,hus,hvs,Value.cells] at hA hB;obtain ⟨g1,g2,g3⟩:=zfo h1 h2 hr3 hA hB;have hagg:jR P t=some true:=by simp [jR,ht]
  have hrun:=znp (P:=P) (w:=w) 5 t ks hks true hagg 10000 (by omega) (.agg us.toArray) (.agg vs.toArray) us vs rfl rfl g1 g2;rw [g3] at hrun;refine .same hm (v := .bool (if neg then !r else r)) ?_ hk (.of_c (.sc trivial));cases neg
  ·simp only [execOp,ho,hus,hvs,Sem.run_bind,Bool.false_eq_true,if_false,run_eqGuard_agg w .eql t x y _ _ hg,Result.andThen_ok,run_eql_struct,hrun]; rfl
  ·simp only [execOp,ho,hus,hvs,Sem.run_bind,if_true,run_eqGuard_agg w .neq t x y _ _ hg,Result.andThen_ok,run_neq_struct,hrun]; rfl
 ·exact hk.elim
end
section
variable {P:Program} {W0 w0:World} {κ0:Kap} {m0:Mem} {κ:Kap} {m mr:Mem} {w:World} {e:Operand→Value} {o:Oper} {K:PV→Mem→Prop} {ρ:AX→Option PV} {d:Nat}
theorem zoo {n:Int} (h0:0≤n) (h1:n≤255):((UInt8.ofNat n.toNat).toNat:Int)=n:=by
 simp; omega
theorem zcl:∀ {L:List PV} {C:List CV} {bs:List UInt8} {vs:List Value},jf L=some C→yp C=some bs→za (zb κ m w) (L.flatMap PV.cells) vs→vs=bs.map fun b=>Value.int .u8 (b.toNat:Int)
 | [],C,bs,vs,h1,h2,h3=>by
  simp only [jf] at h1; cases h1;simp only [yp] at h2; cases h2;cases vs with
  | nil=>rfl
  | cons=>exact h3.elim
 | x::L,C,bs,vs,h1,h2,h3=>by
  simp only [jf] at h1;split at h1
  ·rename_i y k hy hk;cases h1;cases y with
   | sc u =>
    cases u with
    | int kk n =>
     cases kk<;>simp only [yp,Option.map_eq_some_iff] at h2<;>try (simp at h2; done)
     obtain ⟨bs',hb,rfl⟩:=h2;cases x with
     | c cx =>
      simp only [jw,Option.some.injEq] at hy;subst hy;simp only [List.flatMap_cons,PV.cells,CV.cells,List.map_cons,List.map_nil,List.singleton_append] at h3;cases vs with
      | nil=>exact h3.elim
      | cons v vs =>
       obtain ⟨h4,h5⟩:=Rep.sc (Rep.of_c (zb.to_c h3.1));have:=zcl hk hb h3.2;rw [this,h4,List.map_cons,zoo]
       ·exact h5.1
       ·exact h5.2
     | _=>simp [jw] at hy
    | _=>simp [yp] at h2
   | _=>simp [yp] at h2
  ·cases h1
theorem znG (hm:MW W0 w0 κ0 m0 κ m w) (hsub:∀ id b,lk mr id=some b→lk m id=some b) (hev:Evs κ m w ρ e) {s t el:TypeId} {x:Operand} {ax:AX} (ho:o.op = .convert s t x) (h1:P.underlying s=some (.slice el)) (h1':P.underlying el=some (.int .u8)) (h2:P.underlying t=some .string) (hx:opd x=some ax)
  (hs:zo ρ d mr (.b2s ax) K):zW P W0 w0 κ0 m0 κ m w e o K:=by
 obtain ⟨v,hv,hk⟩:=ze hs;obtain ⟨L,hL,hsz,hc⟩:=Yb hm.mem hsub (by omega) hk (hev _ _ _ hx hv);obtain ⟨C,hC,hL⟩:=ze hL;obtain ⟨bs,hbs,hlen,hK⟩:=ze hL;have hw:wfv (.string ⟨bs.toArray⟩):=by show ByteArray.size _≤maxLen; simpa [ByteArray.size] using hlen
 rcases hc with ⟨rfl,o',c',hex⟩ | ⟨b,off,c',vs,hpos,hex,hall,hcell⟩
 ·simp only [jf] at hC; cases hC;simp only [yp] at hbs; cases hbs;refine .same hm (v := .string ⟨#[]⟩) ?_ hK (.of_c (.sc hw));cases o' with
  | none => 
   have:=run_convert_bytes_nil (P:=P) w s el h1 h1' 0 c' t h2;simp only [execOp,ho,hex,Sem.run_bind,this,Result.andThen_ok]; rfl
  | some a =>
   have:=run_convert_bytes_back (P:=P) w s t el a c' [] h1 h1' h2 (by simp);simp only [List.length_nil] at this;simp only [execOp,ho,hex,Sem.run_bind,this,Result.andThen_ok]; rfl
 ·have hvs:=zcl hC hbs hall;have hlb:bs.length=L.length:=by
   have:=yA hsz;rw [hall.length,hvs] at this; simpa using this
  refine .same hm (v := .string ⟨bs.toArray⟩) ?_ hK (.of_c (.sc hw));have:=run_convert_bytes_back (P:=P) w s t el ⟨b,off,none⟩ c' bs h1 h1' h2 (fun j hj=>by
   rw [qq]; exact hcell j _ (by rw [hvs]; simp [hj]))
  rw [hlb] at this;simp only [execOp,ho,hex,Sem.run_bind,this,Result.andThen_ok]; rfl
def y4 (P:Program) (W0 w0:World) (κ0:Kap) (m0:Mem) (κ:Kap) (m:Mem) (w:World) (e:Operand→Value) (o:Oper) (K:PV→Mem→Prop):Prop :=
 ∃ n v w' κ' r m',(execOp e o).run P w = .ok n w'∧(n = .value v∨(n = .skip∧v=undef∧∃ t a x,o.op = .store t a x))∧K r m'∧MW W0 w0 κ0 m0 κ' m' w'∧Pres κ m w κ' m' w'∧(n = .value v→Rep κ' m' w' r v)
theorem zfl {t:TypeId} {n b off:Nat} {cur:Array Value} {el:TypeId} {v:Value} (hn:jr P t=some n) (hv:v.cells.size=n) (hb:w.heap[b]? = some (.cells cur el (0,0))) (hle:off+n≤cur.size) (h1:∀ u∈v.cells.toList,u.oneCell'=true) :
  (Instr.storeAt t (.pointer (some ⟨b,off,none⟩)) v).run P w = .ok () (w.setRow b (cur.toList.take off++v.cells.toList++cur.toList.drop (off+n)).toArray):=by
 have:=run_storeCells_at P b off el v.cells.toList 0 cur w hb (by simp; omega) h1;simp only [Nat.add_zero,Array.length_toList,hv] at this;simp [Instr.storeAt,Instr.sureAddr,storeVar,qa hn,hv,this]
theorem Yt (w:World) (b:Nat) (cs:Array Value):(w.setRow b cs).heap.size=w.heap.size:=by simp [World.setRow]
theorem zn0 (hm:MW W0 w0 κ0 m0 κ m w) (hW:W0.heap.size≤w.heap.size) (hev:Evs κ m w ρ e) {t:TypeId} {a x:Operand} {aa ax:AX} {n:Nat} (ho:o.op = .store t a x) (hn:jr P t=some n) (h0:0 < n) (ha:opd a=some aa) (hx:opd x=some ax)
  (hs:jZ ρ d m (.st n aa ax) K):y4 P W0 w0 κ0 m0 κ m w e o K:=by
 obtain ⟨p,hp,hk⟩:=ze hs;obtain ⟨v,hv,hk⟩:=ze hk;clear hs;have hrp:=hev _ _ _ ha hp;have hrv:=hev _ _ _ hx hv;cases p with
 | ptr id off =>
  simp only [] at hk;split at hk
  ·rename_i cs hl;obtain ⟨hval,hvn,hle,hk⟩:=hk;obtain ⟨b,cs0,g1,g2,g3⟩:=hrp;have hc:=(zg.of_val hrv hval).cells;obtain ⟨vs,el,hh,hall⟩:=zak hm.mem hl g2;have hvc:(e x).cells.size=n:=by have:=hc.length; simp at this; omega
   have hcs:cs.length=vs.length:=hall.length;have hrun:=zfl (P:=P) (w:=w) (b:=b) (off:=off) hn hvc hh (by simp; omega) (QR hc);refine ⟨.skip,undef,w.setRow b (vs.toArray.toList.take off++(e x).cells.toList++vs.toArray.toList.drop (off+n)).toArray,κ,_,_,?_,.inr ⟨rfl,rfl,_,_,_,ho⟩,hk,?_⟩
   ·simp only [execOp,ho,g3,Sem.run_bind,hrun,Result.andThen_ok]; rfl
   ·have:=hm.turn (κ':=κ) (w':=w.setRow b (vs.toArray.toList.take off++(e x).cells.toList++vs.toArray.toList.drop (off+n)).toArray) (x := .box (j6 cs off v.cells)) hW hl rfl rfl rfl (by rw [Yt]; exact Nat.le_refl _) rfl
     (fun _ _=>rfl) (fun k _ hne=>setRow_other w b k _ (fun h=>hne (h▸g2))) (.inl rfl) (fun _ _=>⟨⟨_,rfl⟩,rfl⟩) (fun _ _ _ h=>by cases h) (fun hpr=>by
      refine ⟨b,_,el,g2,setRow_heap w b _ _ _ _ hh,?_⟩;have:=(zbS (arr:=vs.toArray) (off:=off) hall hc);rw [show (e x).cells.toList.length=n by simpa using hvc] at this;exact this.imp fun _ _=>zb.pres hpr) (.inr ⟨b,g2⟩)
    exact ⟨this.1,this.2,fun h=>by cases h⟩
  ·exact hk.elim
 | eo id n' i off =>
  simp only [] at hk;split at hk
  ·rename_i L sz el hl;obtain ⟨hlen,y,hy,hval,hvn,hle,hk⟩:=hk;obtain ⟨_,L0,sz0,e0,g1,g2,g3⟩:=hrp;rw [hl] at g1;injection g1 with g1
   injection g1 with e1 e2 e3
   subst e1 e2 e3;obtain ⟨b,g4,g5⟩:=g3 hlen;have hc:=(zg.of_val hrv hval).cells;obtain ⟨hsz,hpos,vs,rest,hh,hall⟩:=zfg hm.mem hl g4;have hvc:(e x).cells.size=n:=by have:=hc.length; simp at this; omega
   have hys:y.cells.length=sz:=hsz y (List.mem_of_getElem? hy);have hi:i < L.length:=by
    rcases Nat.lt_or_ge i L.length with h' | h'
    ·exact h'
    ·rw [List.getElem?_eq_none h'] at hy; cases hy
   have hvl:vs.length=L.length * sz:=by rw [← hall.length,yA hsz]
   have hbd:(i+1) * sz≤vs.length:=by rw [hvl]; exact Nat.mul_le_mul_right _ hi
   have hbd':i * sz+off+n≤vs.length:=by rw [Nat.add_mul] at hbd; omega
   have hrun:=zfl (P:=P) (w:=w) (b:=b) (off:=i * sz+off) hn hvc hh (by simp; omega) (QR hc);generalize hnew:(if y.cells.length=1 then v else jm (j6 y.cells off v.cells))=y' at hk;have hy'c:y'.cells=j6 y.cells off v.cells:=by
    rw [← hnew];split
    ·rename_i h1;have:off=0∧n=1:=by omega
     obtain ⟨rfl,rfl⟩:=this;unfold j6;rw [hvn,List.take_zero,List.drop_of_length_le (by omega)]; simp
    ·unfold jm;split
     ·rename_i l hl'; rw [PV.cells,CV.cells,zab hl']
     ·rfl
   have hy'l:y'.cells.length=sz:=by rw [hy'c]; unfold j6; simp; omega
   refine ⟨.skip,undef,w.setRow b ((vs++rest).toArray.toList.take (i * sz+off)++(e x).cells.toList++(vs++rest).toArray.toList.drop (i * sz+off+n)).toArray,κ,_,_,?_,.inr ⟨rfl,rfl,_,_,_,ho⟩,hk,?_⟩
   ·simp only [execOp,ho,g5,Sem.run_bind,hrun,Result.andThen_ok]; rfl
   ·have hlist:(vs++rest).toArray.toList.take (i * sz+off)++(e x).cells.toList++(vs++rest).toArray.toList.drop (i * sz+off+n) =
      (vs.take (i * sz+off)++(e x).cells.toList++vs.drop (i * sz+off+n))++rest:=by
     simp only [List.append_assoc];rw [List.take_append_of_le_length (by omega),List.drop_append_of_le_length (by omega)]
    have hflat:(L.set i y').flatMap PV.cells=j6 (L.flatMap PV.cells) (i * sz+off) v.cells:=by
     obtain ⟨A,z,B,hL,hA⟩:∃ A z B,L=A++z::B∧A.length=i :=
      ⟨L.take i,L[i],L.drop (i+1),by rw [← List.drop_eq_getElem_cons hi,List.take_append_drop],by simp; omega⟩
     subst hA;rw [hL] at hy ⊢;simp at hy;subst hy;have hAl:(A.flatMap PV.cells).length=A.length * sz:=yA fun x hx=>hsz x (by rw [hL]; simp [hx])
     rw [List.set_append_right _ _ (Nat.le_refl _)];simp only [Nat.sub_self,List.set_cons_zero,List.flatMap_append,List.flatMap_cons];rw [hy'c];unfold j6;rw [← hAl,List.take_length_add_append,show (A.flatMap PV.cells).length+off+v.cells.length=(A.flatMap PV.cells).length+(off+v.cells.length) by omega,List.drop_length_add_append,
      List.take_append_of_le_length (by omega),List.drop_append_of_le_length (by omega)]
     simp only [List.append_assoc]
    have:=hm.turn (κ':=κ) (w':=w.setRow b ((vs++rest).toArray.toList.take (i * sz+off)++(e x).cells.toList++(vs++rest).toArray.toList.drop (i * sz+off+n)).toArray) (x := .row (L.set i y') sz el) hW hl rfl rfl rfl (by rw [Yt]; exact Nat.le_refl _) rfl
     (fun _ _=>rfl) (fun k _ hne=>setRow_other w b k _ (fun h=>hne (h▸g4))) (.inl rfl) (fun _ h=>by cases h)
     (fun L1 sz1 e1 h=>by
      cases h;refine ⟨_,rfl,by simp,fun _=>⟨rfl,fun b' arr e' hb' harr=>?_⟩⟩;rw [g4] at hb'; cases hb';rw [hh] at harr; cases harr;refine ⟨_,setRow_heap w b _ _ _ _ hh,?_⟩;simp; omega) (fun hpr=>by
      refine ⟨fun z hz=>?_,hpos,.inr ⟨b,_,rest,g4,by rw [← hlist]; exact setRow_heap w b _ _ _ _ hh,?_⟩⟩
      ·rcases List.mem_or_eq_of_mem_set hz with h | h
       ·exact hsz z h
       ·rw [h]; exact hy'l
      ·rw [hflat];have:=(zbS (arr:=vs.toArray) (off:=i * sz+off) hall hc);rw [show (e x).cells.toList.length=n by simpa using hvc] at this;exact this.imp fun _ _=>zb.pres hpr) (.inr ⟨b,g4⟩)
    exact ⟨this.1,this.2,fun h=>by cases h⟩
  ·exact hk.elim
 | _=>exact (show False from hk).elim
theorem zap:∀ {cs:List PV} {l:List CV} {vs:List Value},jf cs=some l→za (zb κ m w) cs vs→za (fun y u=>RepC w (zf κ m) y u∧u.oneCell'=true) l vs
 | [],l,vs,h1,h2=>by
  simp only [jf] at h1; cases h1;cases vs with
  | nil=>trivial
  | cons=>exact h2.elim
 | a::cs,l,vs,h1,h2=>by
  simp only [jf] at h1;split at h1
  ·rename_i y k hy hk;cases h1;cases vs with
   | nil=>exact h2.elim
   | cons v vs =>
    refine ⟨⟨?_,zb.one h2.1⟩,zap hk h2.2⟩;cases a with
    | c ca=>simp only [jw] at hy; cases hy; exact zb.to_c h2.1
    | nil =>
     simp only [jw] at hy; cases hy;obtain ⟨oo,rfl⟩:=h2.1;exact .nil (Nat.zero_le _)
    | _=>simp [jw] at hy
  ·cases h1
theorem zcs {x:PV} {y:CV} {us:List Value} (h:jT x=some y) (hr:za (zb κ m w) x.cells us):za (fun y u=>RepC w (zf κ m) y u∧u.oneCell'=true) y.cells us:=by
 cases x with
 | c cx=>have h':some cx=some y:=h; cases h'; exact za.unmap_c hr
 | nil =>
  have h':some (CV.row [])=some y:=h; cases h';exact zap (cs:=[.nil]) rfl hr
 | agg cs =>
  simp only [jT,Option.map_eq_some_iff] at h;obtain ⟨l,hl,rfl⟩:=h;exact zap hl hr
 | _=>exact absurd (show none=some y from h) (by simp)
theorem QQ {α β:Type} {R:α→β→Prop}:∀ {a b:List α} {us:List β},za R (a++b) us→∃ u v,us=u++v∧za R a u∧za R b v
 | [],b,us,h=>⟨[],us,rfl,trivial,h⟩
 | x::a,b,[],h=>h.elim
 | x::a,b,u::us,h=>by
  obtain ⟨p,q,h1,h2,h3⟩:=QQ h.2;exact ⟨u::p,q,by rw [h1]; rfl,⟨h.1,h2⟩,h3⟩
theorem yP:∀ {L:List PV} {C:List CV} {vs:List Value},z8 L=some C→za (zb κ m w) (L.flatMap PV.cells) vs →
  za (fun y u=>RepC w (zf κ m) y u∧u.oneCell'=true) (C.flatMap CV.cells) vs
 | [],C,vs,h,hv=>by
  simp only [z8] at h; cases h;cases vs with
  | nil=>trivial
  | cons=>exact hv.elim
 | x::L,C,vs,h,hv=>by
  simp only [z8] at h;split at h
  ·rename_i y k hy hk;cases h;simp only [List.flatMap_cons] at hv ⊢;obtain ⟨u,v,rfl,h1,h2⟩:=QQ hv;exact (zcs hy h1).append (yP hk h2)
  ·cases h
theorem zcx:∀ {cs:List PV} {l:List CV},jf cs=some l→l.length=cs.length
 | [],l,h=>by simp only [jf] at h; cases h; rfl
 | a::cs,l,h=>by
  simp only [jf] at h;split at h
  ·rename_i hy hk; cases h; simp [zcx hk]
  ·cases h
theorem QZ {x:PV} {y:CV} (h:jT x=some y):y.cells.length=x.cells.length:=by
 cases x with
 | c cx=>have h':some cx=some y:=h; cases h'; simp [PV.cells]
 | nil=>have h':some (CV.row [])=some y:=h; cases h'; rfl
 | agg cs =>
  simp only [jT,Option.map_eq_some_iff] at h;obtain ⟨l,hl,rfl⟩:=h;simp [CV.cells,PV.cells,zcx hl]
 | _=>exact absurd (show none=some y from h) (by simp)
theorem yr:∀ {L:List PV} {C:List CV} {sz:Nat},z8 L=some C→(∀ x∈L,x.cells.length=sz)→C.length=L.length∧∀ x∈C,x.cells.length=sz
 | [],C,sz,h,_=>by simp only [z8] at h; cases h; simp
 | x::L,C,sz,h,hs=>by
  simp only [z8] at h;split at h
  ·rename_i y k hy hk;cases h;obtain ⟨h1,h2⟩:=yr hk fun z hz=>hs z (by simp [hz])
   refine ⟨by simp [h1],fun z hz=>?_⟩;rcases List.mem_cons.1 hz with rfl | hz
   ·rw [QZ hy]; exact hs x (by simp)
   ·exact h2 z hz
  ·cases h
theorem QC {w:World} {S:Nat→Prop} {D:List CV} {us:List Value} {b cap sz:Nat} (hpos:0 < sz) (hcap:D.length≤cap) (hmx:cap≤maxLen) (hb:¬ S b) (hs:∀ x∈D,x.cells.length=sz)
  (h:za (fun y u=>RepC w S y u∧u.oneCell'=true) (D.flatMap CV.cells) us) (hc:∀ (j:Nat) (u:Value),us[j]? = some u→w.cell? ⟨b,j,none⟩=some u):RepC w S (.row D) (.slice (some ⟨b,0,none⟩) D.length cap):=by
 by_cases hne:D=[]
 ·subst hne; exact .nil hmx
 refine .row hne hpos hcap hmx hb hs h.length (fun i x u hx hu=>?_) (fun u hu=>?_) fun j u hj=>by rw [Nat.zero_add]; exact hc j u hj
 ·obtain ⟨b',hb',hr,_⟩:=h.get i x hx;rw [hu] at hb'; cases hb'; exact hr
 ·obtain ⟨i,hi⟩:=List.mem_iff_getElem?.1 hu;have hlt:i < (D.flatMap CV.cells).length:=by
   rw [h.length];rcases Nat.lt_or_ge i us.length with h' | h'
   ·exact h'
   ·simp [List.getElem?_eq_none h'] at hi
  obtain ⟨b',hb',_,ho⟩:=h.get i (D.flatMap CV.cells)[i] (by simp [hlt]);rw [hi] at hb'; cases hb'; exact ho
theorem MW.giv (hm:MW W0 w0 κ0 m0 κ m w) (hW:W0.heap.size≤w.heap.size) {w':World} {id sz:Nat} {L:List PV} {e:TypeId} {C:List CV} (hl:lk m id=some (.row L sz e)) (hmx:L.length≤maxLen) (hC:z8 L=some C)
  (hos:w'.os=w.os) (htape:w'.tape=w.tape) (hout:w'.output=w.output) (hsize:w.heap.size≤w'.heap.size) (hblk:∀ k,k < w.heap.size→κ id≠some k→w'.heap[k]? = w.heap[k]?)
  (hcell:∀ b vs rest,κ id=some b→w.heap[b]? = some (.cells (List.toArray (vs++rest)) e (0,0))→∀ (j:Nat) (u:Value),j < L.length * sz→vs[j]? = some u→w'.cell? ⟨b,j,none⟩=some u) :
  (MW W0 w0 κ0 m0 (zp κ id none) (upd m id (.row (zI sz C) sz e)) w'∧Pres κ m w (zp κ id none) (upd m id (.row (zI sz C) sz e)) w') ∧
   (∀ b,zf (zp κ id none) (upd m id (.row (zI sz C) sz e)) b→zf κ m b∧κ id≠some b) ∧
   ∀ {y:CV} {u:Value},RepC w (zf κ m) y u→RepC w' (zf (zp κ id none) (upd m id (.row (zI sz C) sz e))) y u:=by
 obtain ⟨hsz,hpos,hb⟩:=hm.mem.blk id _ hl;obtain ⟨c1,c2⟩:=yr hC hsz;have hlive:∀ b,zf (zp κ id none) (upd m id (.row (zI sz C) sz e)) b→zf κ m b∧κ id≠some b:=by
  rintro b (hs | ⟨i,h1,h2⟩)
  ·exact ⟨.inl hs,fun h=>hm.mem.sd id b (by simp [hl]) h hs⟩
  ·have hi:i≠id:=by rintro rfl; simp [zp] at h2
   rw [Js] at h1;have h2':κ i=some b:=by simpa [zp,hi] using h2
   exact ⟨.inr ⟨i,h1,h2'⟩,fun h=>hi (hm.mem.inj i id b h1 (by simp [hl]) h2' h)⟩
 have hrep:∀ {y:CV} {u:Value},RepC w (zf κ m) y u→RepC w' (zf (zp κ id none) (upd m id (.row (zI sz C) sz e))) y u:=fun h=>h.mono fun b0 o v hb0 hc0 =>
  ⟨fun hl'=>hb0 (hlive b0 hl').1,by rw [y5 (hblk b0 (yN hc0) fun e=>hb0 (.inr ⟨id,by simp [hl],e⟩))]; exact hc0⟩
 refine ⟨hm.turnG hW hl hos htape hout hsize rfl (fun i hi=>by simp [zp,hi]) hblk (.inr (.inr (by simp [zp]))) (fun _ h=>by cases h) (fun L1 sz1 e1 h=>?_) (fun _=>?_),hlive,hrep⟩
 ·cases h;refine ⟨_,rfl,by rw [Jn]; omega,fun hh=>by rw [Jn] at hh; omega,fun _ D hne hD => .inr ?_⟩;have:=zlO hD;subst this;refine ⟨by omega,fun _ v hv=>?_⟩;unfold zX at hv;rcases hb with ⟨hk,hL⟩ | ⟨b,vs,rest,hk,hh,hall⟩
  ·have hL:=hL.resolve_right (fun h=>by have:=Jo h; omega);subst hL;exact absurd (List.eq_nil_of_length_eq_zero c1) hne
  ·rw [hk] at hv;obtain ⟨cap,arr,e',h1,h2,h3,h4,h5⟩:=hv;rw [h1,← c1];refine QC hpos (by omega) h3 (fun h=>(hlive b h).2 hk) c2 ((yP hC hall).imp fun _ _ hh=>⟨hrep hh.1,hh.2⟩) fun j u hj=>?_
   refine hcell b vs rest hk hh j u ?_ hj;have:=hall.length;rw [yA hsz] at this;rcases Nat.lt_or_ge j vs.length with h' | h'
   ·omega
   ·simp [List.getElem?_eq_none h'] at hj
 ·refine ⟨fun x hx=>?_,hpos,.inl ⟨by simp [zp],.inr ⟨C,rfl⟩⟩⟩;unfold zI at hx;rcases List.mem_append.1 hx with hx | hx
  ·obtain ⟨c,hc,rfl⟩:=List.mem_map.1 hx
   simpa [PV.cells] using c2 c hc
  ·rw [zcD hx];cases sz with
   | zero=>omega
   | succ n=>simp [yt,PV.cells]
theorem zdw (L L':List PV):(L++L').flatMap PV.cells=L.flatMap PV.cells++L'.flatMap PV.cells:=List.flatMap_append
theorem znD (hm:MW W0 w0 κ0 m0 κ m w) (hW:W0.heap.size≤w.heap.size) (hev:Evs κ m w ρ e) {c:Call} {s x:Operand} {as ax:AX} {t el:TypeId} {sz bytes:Nat}
  (hT:AppT P t el sz bytes) (ho:o.op = .call c) (hb:c.callee = .builtin .append) (ha:c.args.toList=[s,x]) (hat:c.argTypes.toList=[t,t]) (hs:opd s=some as) (hx:opd x=some ax)
  (hst:jZ ρ d m (.app false sz bytes el as ax) K):y4 P W0 w0 κ0 m0 κ m w e o K:=by
 obtain ⟨v,hv,hk⟩:=ze hst;clear hst;have hr:=hev _ _ _ hs hv;cases v with
 | nil =>
  obtain ⟨oo,hes⟩:=hr;obtain ⟨u,hu,hk⟩:=ze hk;obtain ⟨L,⟨_,hmax,hby,hid,hK⟩,hsz,hc⟩:=Yb hm.mem (fun _ _ h=>h) hT.pos hk (hev _ _ _ hx hu);have hid':lk m (16 * d)=none:=by simpa using hid
  rcases hc with ⟨rfl,o',c',hex⟩ | ⟨b,off,c',vs,hpos,hex,hall,hcell⟩
  ·obtain ⟨h1,h2⟩:=hm.noRow hW hid' el hT.pos;exact ⟨_,.slice oo 0 0,w,zp κ (16 * d) none,_,_,qA ho hb ha hat (by rw [hes,hex]; exact JF hT (Nat.le_refl _)),.inl rfl,hK,h1,h2,
    fun _=>⟨⟨oo,0,rfl,Nat.zero_le _⟩,Nat.zero_le _,[],sz,el,by simp [zr],Nat.le_refl _,fun _=>by simp [zX,zp],JO.no (Nat.zero_le _)⟩⟩
  ·have hl:vs.length=L.length * sz:=by rw [← hall.length,yA hsz]
   obtain ⟨cap,rest,h1,h2,h3,hrun⟩:=zbM (w:=w) (ty:=o.type) (oo:=oo) (c:=c') hT hl (fun j y hj=>by rw [qq]; exact hcell j y hj) hpos hmax hby;obtain ⟨g1,g2⟩:=hm.newRow (rest:=rest) hW hid' el hsz hT.pos hall (.inr rfl);refine ⟨_,_,_,zp κ (16 * d) (some w.heap.size),_,_,qA ho hb ha hat (by rw [hes,hex]; exact hrun),.inl rfl,hK,g1,g2,fun _=>?_⟩;refine ⟨⟨_,_,rfl,h2⟩,hmax,L,sz,el,by simp [zr],Nat.le_refl _,fun _=>?_,.no hmax⟩;simp only [zX,zp,if_true];exact ⟨cap,_,el,rfl,h1,h2,yB _ rfl _,by simpa using h3⟩
 | own id n =>
  simp only [] at hk;split at hk
  ·rename_i L sz' el' hl;obtain ⟨hlen,rfl,rfl,hk⟩:=hk;obtain ⟨u,hu,hk⟩:=ze hk;obtain ⟨⟨a0,c0,hsl,_⟩,hnm,L1,sz1,e1,g1,g2,g3,_⟩:=hr;rw [hl] at g1;injection g1 with g1
   injection g1 with e1 e2 e3
   subst e1 e2 e3;have hO:=g3 hlen;obtain ⟨L',⟨hmax,hby,hK⟩,hsz',hc⟩:=Yb hm.mem (fun _ _ h=>h) hT.pos hk (hev _ _ _ hx hu);obtain ⟨hsz,hpos,hblk⟩:=hm.mem.blk id _ hl;have hszA:∀ y∈L++L',y.cells.length=sz':=fun y hy=>(List.mem_append.1 hy).elim (hsz y) (hsz' y)
   unfold zX at hO;rcases hblk with ⟨hkn,hL⟩ | ⟨b,vs,rest,hkb,hh,hall⟩
   ·
    have hL:=hL.resolve_right (fun h=>by have:=Jo h; omega);subst hL;simp only [List.length_nil] at hlen;subst hlen;rw [hkn] at hO;obtain ⟨oo,hO⟩:=hO;rcases hc with ⟨rfl,o',c',hex⟩ | ⟨b,off,c',vs,hp,hex,hall,hcell⟩
    ·have hmw:=hm.turn (κ':=κ) (w':=w) (x := .row ([]++[]) sz' el') hW hl rfl rfl rfl (Nat.le_refl _) rfl (fun _ _=>rfl) (fun _ _ _=>rfl) (.inl rfl) (fun _ h=>by cases h)
      (fun L1 sz1 e1 h=>by cases h; exact ⟨_,rfl,by simp,fun _=>⟨rfl,fun b' arr e' hb' _=>by rw [hkn] at hb'; cases hb'⟩⟩) (fun _=>⟨by simp,hpos,.inl ⟨hkn,.inl rfl⟩⟩) (.inl fun _ _ _ h=>by cases h; exact Nat.zero_le _)
     by_cases hg:id % 16=15
     ·rw [if_pos hg] at hK;obtain ⟨C,C',hC,hC',hK⟩:=hK;obtain ⟨⟨g1,g2⟩,_,_⟩:=hm.giv hW hl (Nat.zero_le _) hC rfl rfl rfl (Nat.le_refl _) (fun _ _ _=>rfl) (fun b' _ _ hb'=>by rw [hkn] at hb'; cases hb');cases hC; cases hC';exact ⟨_,.slice oo 0 0,w,_,_,_,qA ho hb ha hat (by rw [hO,hex]; exact JF hT (Nat.le_refl _)),.inl rfl,hK,g1,g2,fun _=>RepC.nil (Nat.zero_le _)⟩
     rw [if_neg hg] at hK;exact ⟨_,.slice oo 0 0,w,κ,_,_,qA ho hb ha hat (by rw [hO,hex]; exact JF hT (Nat.le_refl _)),.inl rfl,hK,hmw.1,hmw.2,
      fun _=>⟨⟨oo,0,rfl,Nat.zero_le _⟩,Nat.zero_le _,_,sz',el',yW hl,by simp,fun _=>by simp [zX,hkn],.no (Nat.zero_le _)⟩⟩
    ·have hlv:vs.length=L'.length * sz':=by rw [← hall.length,yA hsz']
     obtain ⟨cap,rest,h1,h2,h3,hrun⟩:=zbM (w:=w) (ty:=o.type) (oo:=oo) (c:=c') hT hlv (fun j y hj=>by rw [qq]; exact hcell j y hj) hp (by omega) (by simpa using hby);have hheap:=yB w.drew (show w.drew.heap.size=w.heap.size from rfl) (.cells (List.toArray (vs++rest)) el');have hmw:=hm.turn (κ':=zp κ id (some w.heap.size)) (w':=w.drew.alloc (.cells (List.toArray (vs++rest)) el')) (x := .row ([]++L') sz' el') hW hl rfl rfl rfl (by simp) rfl
      (fun i hi=>by simp [zp,hi]) (fun k hk _=>Below.heap_alloc w.drew _ k hk) (.inr ⟨_,by simp [zp],Nat.le_refl _⟩) (fun _ h=>by cases h)
      (fun L1 sz1 e1 h=>by cases h; exact ⟨_,rfl,by simp,fun hl=>by simp at hl; simp [hl] at hp⟩)
      (fun hpr=>⟨hszA,hpos,.inr ⟨w.heap.size,vs,rest,by simp [zp],hheap,by simpa using hall.imp fun _ _=>zb.pres hpr⟩⟩) (.inl fun _ _ _ h=>by cases h; simpa using hmax)
     by_cases hg:id % 16=15
     ·rw [if_pos hg] at hK;obtain ⟨C,C',hC,hC',hK⟩:=hK;obtain ⟨⟨g1,g2⟩,hlv',hrp⟩:=hm.giv hW (w':=w.drew.alloc (.cells (List.toArray (vs++rest)) el')) hl (Nat.zero_le _) hC rfl rfl rfl (by simp) (fun k hk _=>Below.heap_alloc w.drew _ k hk) (fun b' _ _ hb'=>by rw [hkn] at hb'; cases hb');obtain ⟨c1,c2⟩:=yr hC' hsz';cases hC;refine ⟨_,_,_,_,_,_,qA ho hb ha hat (by rw [hO,hex]; exact hrun),.inl rfl,hK,g1,g2,fun _=>?_⟩;show RepC _ _ (.row ([]++C')) _;rw [List.nil_append,← c1];refine QC hpos (by omega) h2 (fun h=>?_) c2 ((yP hC' hall).imp fun _ _ hh=>⟨hrp hh.1,hh.2⟩) fun j u hj=>?_
      ·have:=hm.mem.live_lt (hlv' _ h).1; omega
      ·rw [j1 hheap,List.getElem?_append_left,hj];rcases Nat.lt_or_ge j vs.length with h' | h'
       ·exact h'
       ·simp [List.getElem?_eq_none h'] at hj
     rw [if_neg hg] at hK;refine ⟨_,_,_,_,_,_,qA ho hb ha hat (by rw [hO,hex]; exact hrun),.inl rfl,hK,hmw.1,hmw.2,fun _=>?_⟩;refine ⟨⟨_,_,by rw [Nat.zero_add],h2⟩,by omega,_,sz',el',yW hl,by simp,fun _=>?_,.no (by simpa using hmax)⟩;simp only [zX,zp,if_true];exact ⟨cap,_,el',by rw [Nat.zero_add],by omega,h2,hheap,by simpa using h3⟩
   ·rw [hkb] at hO;obtain ⟨cap,arr,eX,o1,o2,o3,o4,o5⟩:=hO;rw [hh] at o4; cases o4;have hvl:vs.length=n * sz':=by rw [← hall.length,yA hsz,hlen]
    have hml:maxLen=9223372036854775807:=by unfold maxLen; rfl
    have hold:∀ (vs0 rest0:List Value),w.heap[b]? = some (.cells (List.toArray (vs0++rest0)) el' (0,0))→∀ (j:Nat) (u:Value),j < L.length * sz'→vs0[j]? = some u→vs[j]? = some u:=by
     intro vs0 rest0 h0 j u hj hu;rw [hh] at h0;have e0:vs++rest=vs0++rest0:=by
      have:=Option.some.inj h0;injection this with this
      exact List.toArray_inj this
     have e1:(vs++rest)[j]? = some u:=by
      rw [e0,List.getElem?_append_left,hu];rcases Nat.lt_or_ge j vs0.length with h' | h'
      ·exact h'
      ·simp [List.getElem?_eq_none h'] at hu
     rwa [List.getElem?_append_left (by rw [hvl,← hlen]; exact hj)] at e1
    rcases hc with ⟨rfl,o',c',hex⟩ | ⟨b',off,c',vs',hp,hex,hall',hcell⟩
    ·
     have hmw:=hm.turn (κ':=κ) (w':=w) (x := .row (L++[]) sz' el') hW hl rfl rfl rfl (Nat.le_refl _) rfl (fun _ _=>rfl) (fun _ _ _=>rfl) (.inl rfl) (fun _ h=>by cases h)
      (fun L1 sz1 e1 h=>by cases h; exact ⟨_,rfl,by simp,fun _=>⟨rfl,fun b' arr e' hb' ha=>⟨arr,ha,rfl⟩⟩⟩)
      (fun hpr=>⟨by simpa using hsz,hpos,.inr ⟨b,vs,rest,hkb,hh,by simpa using hall.imp fun _ _=>zb.pres hpr⟩⟩) (.inr ⟨b,hkb⟩)
     by_cases hg:id % 16=15
     ·rw [if_pos hg] at hK;obtain ⟨C,C',hC,hC',hK⟩:=hK;obtain ⟨⟨g1,g2⟩,hlv',hrp⟩:=hm.giv hW (w':=w) hl (by omega) hC rfl rfl rfl (Nat.le_refl _) (fun _ _ _=>rfl) (fun b' vs0 rest0 hb' h0 j u hj hu=>by
       rw [hkb] at hb'; cases hb';rw [j1 h0,List.getElem?_append_left,hu];rcases Nat.lt_or_ge j vs0.length with h' | h'
       ·exact h'
       ·simp [List.getElem?_eq_none h'] at hu)
      obtain ⟨c1,c2⟩:=yr hC hsz;cases hC';refine ⟨_,_,w,_,_,_,qA ho hb ha hat (by rw [o1,hex]; exact JF hT o2),.inl rfl,hK,g1,g2,fun _=>?_⟩;show RepC _ _ (.row (C++[])) _;rw [List.append_nil,show n=C.length by omega];refine QC hpos (by omega) o3 (fun h=>(hlv' b h).2 hkb) c2 ((yP hC hall).imp fun _ _ hh=>⟨hrp hh.1,hh.2⟩) fun j u hj=>?_
      rw [j1 hh,List.getElem?_append_left,hj];rcases Nat.lt_or_ge j vs.length with h' | h'
      ·exact h'
      ·simp [List.getElem?_eq_none h'] at hj
     rw [if_neg hg] at hK;refine ⟨_,_,w,κ,_,_,qA ho hb ha hat (by rw [o1,hex]; exact JF hT o2),.inl rfl,hK,hmw.1,hmw.2,fun _=>?_⟩;refine ⟨⟨_,_,rfl,o3⟩,by omega,_,sz',el',yW hl,by simp; omega,fun _=>?_,.no (by simp; omega)⟩;simp only [zX,hkb,List.length_nil,Nat.add_zero];exact ⟨cap,_,el',rfl,o2,o3,hh,o5⟩
    ·have hlv:vs'.length=L'.length * sz':=by rw [← hall'.length,yA hsz']
     obtain ⟨ti,z,hi,hz,hzs,hs',hbb⟩:=hT.info;have o5':vs.length+rest.length=cap * sz':=by simpa using o5
     by_cases hroom:n+L'.length≤cap
     ·
      have hmulr:n * sz'+L'.length * sz'≤cap * sz':=by rw [← Nat.add_mul]; exact Nat.mul_le_mul_right _ hroom
      have hrun:=run_append_room (P:=P) w t o.type el' ti hT.ht hi b n cap _ hh ⟨b',off,none⟩ L'.length c' vs' (by rw [hlv,hs']) (fun j y hj=>by rw [qq]; exact hcell j y hj) (QR hall') hroom
       (by rw [hs',hlv]; simp; omega)
      rw [hs'] at hrun;have hlist:(vs++rest).toArray.toList.take (n * sz')++vs'++(vs++rest).toArray.toList.drop (n * sz'+vs'.length)=(vs++vs')++rest.drop vs'.length:=by
       simp only [List.append_assoc];rw [← hvl,List.take_left,List.drop_length_add_append]
      rw [hlist] at hrun;have hheap:=setRow_heap w b _ (List.toArray ((vs++vs')++rest.drop vs'.length)) _ _ hh;have hmw:=hm.turn (κ':=κ) (w':=w.setRow b (List.toArray ((vs++vs')++rest.drop vs'.length))) (x := .row (L++L') sz' el') hW hl rfl rfl rfl (by rw [Yt]; exact Nat.le_refl _) rfl (fun _ _=>rfl)
       (fun k _ hne=>setRow_other w b k _ (fun h=>hne (h▸hkb))) (.inl rfl) (fun _ h=>by cases h)
       (fun L1 sz1 e1 h=>by
        cases h;refine ⟨_,rfl,by simp,fun _=>⟨rfl,fun b1 arr1 e1 hb1 ha1=>?_⟩⟩;rw [hkb] at hb1; cases hb1;rw [hh] at ha1; cases ha1;exact ⟨_,hheap,by simp; omega⟩)
       (fun hpr=>⟨hszA,hpos,.inr ⟨b,vs++vs',rest.drop vs'.length,hkb,hheap,by rw [zdw]; exact (hall.append hall').imp fun _ _=>zb.pres hpr⟩⟩) (.inr ⟨b,hkb⟩)
      by_cases hg:id % 16=15
      ·rw [if_pos hg] at hK;obtain ⟨C,C',hC,hC',hK⟩:=hK;obtain ⟨⟨g1,g2⟩,hlv',hrp⟩:=hm.giv hW (w':=w.setRow b (List.toArray ((vs++vs')++rest.drop vs'.length))) hl (by omega) hC rfl rfl rfl (by rw [Yt]; exact Nat.le_refl _) (fun k _ hne=>setRow_other w b k _ (fun h=>hne (h▸hkb))) (fun b1 vs0 rest0 hb1 h0 j u hj hu=>by
        rw [hkb] at hb1; cases hb1;have hu':=hold vs0 rest0 h0 j u hj hu;rw [j1 hheap,List.append_assoc,List.getElem?_append_left (by rw [hvl,← hlen]; exact hj)]; exact hu')
       obtain ⟨c1,c2⟩:=yr hC hsz;obtain ⟨c3,c4⟩:=yr hC' hsz';refine ⟨_,_,_,_,_,_,qA ho hb ha hat (by rw [o1,hex]; exact hrun),.inl rfl,hK,g1,g2,fun _=>?_⟩;show RepC _ _ (.row (C++C')) _;rw [show n+L'.length=(C++C').length by rw [List.length_append]; omega];refine QC (us:=vs++vs') hpos (by rw [List.length_append]; omega) o3 (fun h=>(hlv' b h).2 hkb) (fun z hz=>(List.mem_append.1 hz).elim (c2 z) (c4 z)) ?_ fun j u hj=>?_
       ·rw [List.flatMap_append];exact ((yP hC hall).append (yP hC' hall')).imp fun _ _ hh=>⟨hrp hh.1,hh.2⟩
       ·rw [j1 hheap,List.getElem?_append_left,hj];rcases Nat.lt_or_ge j (vs++vs').length with h' | h'
        ·exact h'
        ·rw [List.getElem?_eq_none h'] at hj; cases hj
      rw [if_neg hg] at hK;refine ⟨_,_,_,κ,_,_,qA ho hb ha hat (by rw [o1,hex]; exact hrun),.inl rfl,hK,hmw.1,hmw.2,fun _=>?_⟩;refine ⟨⟨_,_,rfl,o3⟩,hmax,_,sz',el',yW hl,by simp; omega,fun _=>?_,.no (by simp; omega)⟩;simp only [zX,hkb];exact ⟨cap,_,el',rfl,hroom,o3,hheap,by simp; omega⟩
     ·
      subst hbb;have hge:=grownCap_ge w (n+L'.length) cap el';have hle:=grownCap_le_maxLen w (n+L'.length) cap el' hmax;have hrun:=run_append_grow (P:=P) w t o.type el' ti z hT.ht hi hz ⟨b,0,none⟩ n cap vs (by rw [hvl,hs'])
       (fun j y hj=>by
        rw [qq,j1 hh,Nat.zero_add,List.getElem?_append_left,hj];rcases Nat.lt_or_ge j vs.length with h' | h'
        ·exact h'
        ·rw [List.getElem?_eq_none h'] at hj; cases hj)
       ⟨b',off,none⟩ L'.length c' vs' (by rw [hlv,hs']) (fun j y hj=>by rw [qq]; exact hcell j y hj) (by omega) (by omega) (growslice_fits (by omega) hby)
      generalize hcap:grownCap w (n+L'.length) cap el'=cap' at hrun hge hle;generalize hrest:(Builtin.zeroCells z.cells (cap' - (n+L'.length))).toList=rest';have harr:vs.toArray++vs'.toArray++Builtin.zeroCells z.cells (cap' - (n+L'.length))=List.toArray ((vs++vs')++rest'):=by
       rw [← hrest,← Array.toArray_toList (xs:=vs.toArray++vs'.toArray++_)]; simp
      rw [harr] at hrun;have hrl:rest'.length=(cap' - (n+L'.length)) * sz':=by rw [← hrest,Array.length_toList,size_zeroCells,hzs]
      have htot:((vs++vs')++rest').length=cap' * sz':=by
       simp only [List.length_append,hvl,hlv,hrl,← Nat.add_mul]; congr 1; omega
      have hheap:=yB w.drew (show w.drew.heap.size=w.heap.size from rfl) (.cells (List.toArray ((vs++vs')++rest')) el');have hmw:=hm.turn (κ':=zp κ id (some w.heap.size)) (w':=w.drew.alloc (.cells (List.toArray ((vs++vs')++rest')) el')) (x := .row (L++L') sz' el') hW hl rfl rfl rfl (by simp) rfl
       (fun i hi=>by simp [zp,hi]) (fun k hk _=>Below.heap_alloc w.drew _ k hk) (.inr ⟨_,by simp [zp],Nat.le_refl _⟩) (fun _ h=>by cases h)
       (fun L1 sz1 e1 h=>by cases h; exact ⟨_,rfl,by simp,fun hl=>by simp at hl; simp [hl] at hp⟩)
       (fun hpr=>⟨hszA,hpos,.inr ⟨w.heap.size,vs++vs',rest',by simp [zp],hheap,by rw [zdw]; exact (hall.append hall').imp fun _ _=>zb.pres hpr⟩⟩) (.inr ⟨b,hkb⟩)
      by_cases hg:id % 16=15
      ·rw [if_pos hg] at hK;obtain ⟨C,C',hC,hC',hK⟩:=hK;obtain ⟨⟨g1,g2⟩,hlv',hrp⟩:=hm.giv hW (w':=w.drew.alloc (.cells (List.toArray ((vs++vs')++rest')) el')) hl (by omega) hC rfl rfl rfl (by simp) (fun k hk _=>Below.heap_alloc w.drew _ k hk) (fun b1 vs0 rest0 hb1 h0 j u hj hu=>by
        rw [hkb] at hb1; cases hb1;have hu':=hold vs0 rest0 h0 j u hj hu;rw [y5 (Below.heap_alloc w.drew _ b (Array.getElem?_eq_some_iff.1 hh).1)]; rw [show w.drew.cell? ⟨b,j,none⟩=w.cell? ⟨b,j,none⟩ from rfl,j1 hh,List.getElem?_append_left (by rw [hvl,← hlen]; exact hj)]; exact hu')
       obtain ⟨c1,c2⟩:=yr hC hsz;obtain ⟨c3,c4⟩:=yr hC' hsz';refine ⟨_,_,_,_,_,_,qA ho hb ha hat (by rw [o1,hex]; exact hrun),.inl rfl,hK,g1,g2,fun _=>?_⟩;show RepC _ _ (.row (C++C')) _;rw [show n+L'.length=(C++C').length by rw [List.length_append]; omega];refine QC (us:=vs++vs') hpos (by rw [List.length_append]; omega) hle (fun h=>by have:=hm.mem.live_lt (hlv' _ h).1; omega) (fun z hz=>(List.mem_append.1 hz).elim (c2 z) (c4 z)) ?_ fun j u hj=>?_
       ·rw [List.flatMap_append];exact ((yP hC hall).append (yP hC' hall')).imp fun _ _ hh=>⟨hrp hh.1,hh.2⟩
       ·rw [j1 hheap,List.getElem?_append_left,hj];rcases Nat.lt_or_ge j (vs++vs').length with h' | h'
        ·exact h'
        ·rw [List.getElem?_eq_none h'] at hj; cases hj
      rw [if_neg hg] at hK;refine ⟨_,_,_,_,_,_,qA ho hb ha hat (by rw [o1,hex]; exact hrun),.inl rfl,hK,hmw.1,hmw.2,fun _=>?_⟩;refine ⟨⟨_,_,rfl,hle⟩,hmax,_,sz',el',yW hl,by simp; omega,fun _=>?_,.no (by simp; omega)⟩;simp only [zX,zp,if_true];exact ⟨cap',_,el',rfl,hge,hle,hheap,by simpa using htot⟩
  ·exact hk.elim
 | _=>exact (show False from hk).elim
end
section
variable {P:Program} {W0 w0:World} {κ0:Kap} {m0:Mem} {κ:Kap} {m mr:Mem} {w:World} {e:Operand→Value} {o:Oper} {K:PV→Mem→Prop} {ρ:AX→Option PV} {d:Nat}
theorem zcd {t el:TypeId} {i:TypeInfo} (ht:qf P t=some el) (hi:P.info? el=some i) (h0:0 < i.size) (hz:(i.zero.map (·.cells.size))=some i.size):AppT P t el i.size i.bytes:=by
 refine ⟨Q9 ht,?_,h0⟩;cases h:i.zero with
 | none=>simp [h] at hz
 | some z=>exact ⟨i,z,hi,h,by simpa [h] using hz,rfl,rfl⟩
theorem zfn {l c:Operand} (h:zu.sameOpd l c=true):e l=e c:=by
 unfold zu.sameOpd at h;split at h
 ·simp at h; subst h; rfl
 ·simp at h; subst h; rfl
 ·cases h
set_option maxHeartbeats 1600000 in
theorem zn7 {on:List FuncId} {nils:List Tmp} {op:AOp} (hm:MW W0 w0 κ0 m0 κ m w) (hW:W0.heap.size≤w.heap.size) (hsub:∀ id b,lk mr id=some b→lk m id=some b) (hev:Evs κ m w ρ e)
  (hc:zu P on nils o=some op) (hs:zo ρ d mr op K):zW P W0 w0 κ0 m0 κ m w e o K:=by
 cases ho:o.op with
 | move x =>
  simp only [zu,ho] at hc;split at hc
  ·cases hc; exact zfO hm hev (.inl ho) ‹_› hs
  ·cases hc
 | assign x =>
  simp only [zu,ho] at hc;split at hc
  ·split at hc
   ·simp only [Option.map_eq_some_iff] at hc;obtain ⟨n,hn,rfl⟩:=hc;exact znF hm hW hev ho ‹_› hs
   ·cases hc; exact zfO hm hev (.inr ho) ‹_› hs
  ·cases hc
 | nilCheck x =>
  simp only [zu,ho,Option.map_eq_some_iff] at hc;obtain ⟨y,hy,rfl⟩:=hc;exact znU hm hev ho hy hs
 | pick c a b =>
  simp only [zu,ho] at hc;split at hc
  ·cases hc; exact znX hm hev ho ‹_› ‹_› ‹_› hs
  ·cases hc
 | alloc t =>
  simp only [zu,ho] at hc;split at hc
  ·split at hc
   ·split at hc
    ·cases hc; exact hs.elim
    ·cases hc; exact zfH hm hW ho ‹_› ‹_› hs
   ·cases hc
  ·cases hc
 | box t x =>
  simp only [zu,ho,Option.map_eq_some_iff] at hc;obtain ⟨y,hy,rfl⟩:=hc;exact znH hm hW hev ho hy hs
 | build t parts =>
  simp only [zu,ho] at hc;split at hc
  ·split at hc
   ·split at hc
    ·simp only [Option.map_eq_some_iff] at hc;obtain ⟨ps,hps,rfl⟩:=hc;exact znK hm hev ho ‹_› ‹_› ‹_› ‹_› hps hs
    ·cases hc
   ·cases hc
  ·cases hc
 | buildSlice t n parts =>
  simp only [zu,ho] at hc;split at hc
  ·split at hc
   ·split at hc
    ·rename_i hn;split at hc
     ·rename_i hp;cases hc;subst hn;exact znJ hm ho ‹_› ‹_› (by simpa using hp) hs
     ·cases hc
    ·split at hc
     ·rename_i hcond;cases hc;exact znI hm hW hev ho ‹_› ‹_› ‹_› ‹_› ‹_› hcond.1 hcond.2.1 hcond.2.2.1 hcond.2.2.2 hs
     ·cases hc
   ·cases hc
  ·cases hc
 | load t a =>
  simp only [zu,ho] at hc;split at hc
  ·split at hc
   ·cases hc; exact znT hm hsub hev ho ‹_› ‹_› ‹_› hs
   ·cases hc
  ·cases hc
 | store t a v =>
  simp only [zu,ho] at hc;split at hc
  ·split at hc
   ·cases hc; exact hs.elim
   ·cases hc
  ·cases hc
 | fieldAddr s x f =>
  simp only [zu,ho] at hc;split at hc
  ·split at hc
   ·split at hc
    ·split at hc
     ·cases hc; exact znO hm hev ho ‹_› ‹_› ‹_› ‹_› ‹_› hs
     ·cases hc
    ·cases hc
   ·cases hc
  ·cases hc
 | field s x f =>
  simp only [zu,ho] at hc;split at hc
  ·split at hc
   ·split at hc
    ·split at hc
     ·cases hc; exact znP hm hev ho ‹_› ‹_› ‹_› ‹_› ‹_› hs
     ·cases hc
    ·cases hc
   ·cases hc
  ·cases hc
 | indexAddr t x i =>
  simp only [zu,ho] at hc;split at hc
  ·simp only [Option.map_eq_some_iff] at hc;obtain ⟨n,hn,rfl⟩:=hc;exact znR hm hsub hev ho ‹_› hn ‹_› ‹_› hs
  ·cases hc
 | index t x i =>
  simp only [zu,ho] at hc;split at hc
  ·cases hc; exact znS hm hev ho ‹_› ‹_› ‹_› hs
  ·cases hc
 | slice t x lo hi mx =>
  simp only [zu,ho] at hc;split at hc
  ·cases hc; exact znZ hm hev ho ‹_› ‹_› ‹_› ‹_› hs
  ·split at hc
   ·split at hc
    ·cases hc; exact znY hm hev ho ‹_› ‹_› ‹_› ‹_› ‹_› hs
    ·cases hc
   ·cases hc
  ·cases hc
 | binOp bop t x y t' =>
  simp only [zu,ho] at hc;split at hc
  ·split at hc
   ·split at hc
    ·split at hc
     ·cases hc; exact zfJ (neg:=false) hm hev ho ‹_› ‹_› ‹_› ‹_› ‹_› hs
     ·cases hc; exact zfJ (neg:=true) hm hev ho ‹_› ‹_› ‹_› ‹_› ‹_› hs
     ·cases hc
    ·cases hc
   ·cases hc
  ·split at hc
   ·cases hc; exact zfI (neg:=false) hm hev ho ‹_› ‹_› ‹_› hs
   ·cases hc; exact zfI (neg:=true) hm hev ho ‹_› ‹_› ‹_› hs
   ·cases hc
  ·cases hc; exact zfK hm hev ho ‹_› ‹_› hs
  ·cases hc; exact zfK hm hev ho ‹_› ‹_› hs
  ·cases hc
 | unOp uop t x =>
  simp only [zu,ho,Option.map_eq_some_iff] at hc;obtain ⟨y,hy,rfl⟩:=hc;exact zn1 hm hev ho hy hs
 | convert s t x =>
  simp only [zu,ho] at hc;split at hc
  ·cases hc; exact znL hm hev ho ‹_› ‹_› ‹_› hs
  ·cases hc; exact znM hm hev ho ‹_› ‹_› ‹_› hs
  ·split at hc
   ·cases hc; exact znG hm hsub hev ho ‹_› ‹_› ‹_› ‹_› hs
   ·cases hc
  ·cases hc
 | makeSlice t l c =>
  simp only [zu,ho] at hc;split at hc
  ·split at hc
   ·split at hc
    ·rename_i hcond;split at hc
     ·unfold zu.newrO at hc;split at hc
      ·split at hc
       ·cases hc; exact hs.elim
       ·cases hc
      ·cases hc
     ·cases hc;exact zfM hm hW hev ho ‹_› ‹_› ‹_› hcond.2.2 hcond.2.1 ‹_› (zfn hcond.1) hs
    ·cases hc
   ·cases hc
  ·cases hc
 | extract x i =>
  simp only [zu,ho,Option.map_eq_some_iff] at hc;obtain ⟨y,hy,rfl⟩:=hc;exact znN hm hev ho hy hs
 | makeFunc fn fst caps =>
  cases fn with
  | func f =>
   simp only [zu,ho] at hc;split at hc
   ·simp only [Option.map_eq_some_iff] at hc;obtain ⟨cs,hcs,rfl⟩:=hc;exact znQ hm hev ho (by simpa using ‹fst.isEmpty=true›) hcs hs
   ·cases hc
  | _=>simp only [zu,ho] at hc; cases hc
 | call c =>
  simp only [zu,ho] at hc;split at hc
  ·split at hc
   ·split at hc
    ·cases hc; exact zfL hm hev ho ‹_› ‹_› ‹_› (.inl ⟨rfl,‹_›⟩) ‹_› hs
    ·cases hc; exact zfL hm hev ho ‹_› ‹_› ‹_› (.inr ⟨rfl,_,‹_›⟩) ‹_› hs
    ·cases hc
   ·cases hc
  ·split at hc
   ·split at hc
    ·rename_i htu;subst htu;split at hc
     ·split at hc
      ·split at hc
       ·rename_i hcond;cases hc;revert hs;generalize zu.isNil nils _=fr;intro hs;cases fr with
        | true=>exact znE hm hW hsub hev (zcd ‹_› ‹_› hcond.1 hcond.2) ho ‹_› ‹_› ‹_› ‹_› ‹_› hs
        | false=>exact hs.elim
       ·cases hc
      ·cases hc
     ·cases hc
    ·cases hc
   ·cases hc
  ·split at hc
   ·split at hc
    ·cases hc; exact zfN (mx:=false) hm hev ho ‹_› ‹_› ‹_› ‹_› hs
    ·cases hc
   ·cases hc
  ·split at hc
   ·split at hc
    ·cases hc; exact zfN (mx:=true) hm hev ho ‹_› ‹_› ‹_› ‹_› hs
    ·cases hc
   ·cases hc
  ·split at hc
   ·split at hc
    ·simp only [Option.map_eq_some_iff] at hc;obtain ⟨as,has,rfl⟩:=hc;split at hs<;>exact hs.elim
    ·cases hc
   ·cases hc
  ·split at hc
   ·cases hc;split at hs<;>exact hs.elim
   ·cases hc
  ·cases hc
 | _=>simp only [zu,ho] at hc; cases hc
end
def zk (l:List Nat) (F G:List (Nat × PV)):Prop:=∀ t∈l,lk F t=lk G t
section
variable {F G:List (Nat × PV)}
theorem zF {x:AX} (h:zk x.rd F G):AX.ev F x=AX.ev G x:=by
 cases x with
 | t n=>exact h n (by simp [AX.rd])
 | k x=>rfl
theorem zk.left {l k:List Nat} (h:zk (l++k) F G):zk l F G:=fun t ht=>h t (by simp [ht])
theorem zk.right {l k:List Nat} (h:zk (l++k) F G):zk k F G:=fun t ht=>h t (by simp [ht])
theorem yv:∀ {l:List AX},zk (l.flatMap AX.rd) F G→evs (AX.ev F) l=evs (AX.ev G) l
 | [],_=>rfl
 | x::l,h=>by
  simp only [List.flatMap_cons] at h;simp only [evs,zF h.left,yv h.right]
theorem zdl:∀ {l:List (Nat × Nat × AX)} {cs:List PV},zk (l.flatMap fun p=>p.2.2.rd) F G→yy (AX.ev F) cs l=yy (AX.ev G) cs l
 | [],_,_=>rfl
 | (off,n,x)::l,cs,h=>by
  simp only [List.flatMap_cons] at h;simp only [yy,zF h.left];split
  ·split
   ·exact zdl h.right
   ·rfl
  ·rfl
theorem QT {x:Option AX} {n:Nat} {K:Nat→Prop} (h:zk (rdO x) F G):bnd (AX.ev F) x n K=bnd (AX.ev G) x n K:=by
 cases x with
 | none=>rfl
 | some x=>simp only [bnd,zF (x:=x) h]
theorem zbU {op:AOp} {d:Nat} {m:Mem} {K:PV→Mem→Prop} (h:zk op.rds F G):zo (AX.ev F) d m op K=zo (AX.ev G) d m op K:=by
 cases op with
 | mv x=>simp only [zo,zF (x:=x) h]
 | nck x=>simp only [zo,zF (x:=x) h]
 | asn x=>simp only [zo,zF (x:=x) h]
 | pick c a b=>simp only [zo,zF h.left.left,zF h.left.right,zF h.right]
 | alloc=>rfl
 | newb=>rfl
 | newr=>rfl
 | box x=>simp only [zo,zF (x:=x) h]
 | build z ps=>simp only [zo,zdl h]
 | bsl sz e ps=>simp only [zo,yv h]
 | bsl0=>rfl
 | ld g n x=>simp only [zo,zF (x:=x) h]
 | st=>rfl
 | fa o x=>simp only [zo,zF (x:=x) h]
 | fld o n g x=>simp only [zo,zF (x:=x) h]
 | ia s x i=>simp only [zo,zF h.left,zF h.right]
 | idx x i=>simp only [zo,zF h.left,zF h.right]
 | sls x lo hi=>simp only [zo,zF h.left.left,QT h.left.right,QT h.right]
 | slr s x lo hi=>simp only [zo,zF h.left.left,QT h.left.right,QT h.right]
 | bin o x y=>simp only [zo,zF h.left,zF h.right]
 | bb o x y=>simp only [zo,zF h.left,zF h.right]
 | beq o ks x y=>simp only [zo,zF h.left,zF h.right]
 | un o x=>simp only [zo,zF (x:=x) h]
 | conv k x=>simp only [zo,zF (x:=x) h]
 | cvs x=>simp only [zo,zF (x:=x) h]
 | b2s x=>simp only [zo,zF (x:=x) h]
 | mks s b e z x=>simp only [zo,zF (x:=x) h]
 | ext x i=>simp only [zo,zF (x:=x) h]
 | len s x=>simp only [zo,zF (x:=x) h]
 | app f s b e x y =>
  cases f with
  | true=>simp only [zo,zF h.left,zF h.right]
  | false=>rfl
 | call=>rfl
 | opn=>rfl
 | mm o x y=>simp only [zo,zF h.left,zF h.right]
 | fnv f ps=>simp only [zo,yv h]
 | callv=>rfl
 | opv=>rfl
theorem Y6 {op:AOp} {d:Nat} {m:Mem} {K:PV→Mem→Prop} (h:zk op.rds F G):jZ (AX.ev F) d m op K=jZ (AX.ev G) d m op K:=by
 cases op with
 | st n a x=>simp only [jZ,zF h.left,zF h.right]
 | app f s b e x y =>
  cases f with
  | true=>rfl
  | false=>simp only [jZ,zF h.left,zF h.right]
 | _=>rfl
end
theorem zn {α:Type} {o:Option α} {v:α} {f:α→Prop} (h:o=some v) (hf:f v):onv o f:=by rw [h]; exact hf
theorem y9 {m:Mem} {sz:Nat} {v:PV} {K:List PV→Prop} (h:jP m sz v K):∃ L,K L∧∀ K':List PV→Prop,K' L→jP m sz v K':=by
 cases v with
 | nil=>exact ⟨[],h,fun _ h=>h⟩
 | c x =>
  cases x with
  | row L=>exact ⟨_,h.2,fun _ h'=>⟨h.1,h'⟩⟩
  | _=>exact h.elim
 | own id n =>
  simp only [jP] at h;split at h
  ·rename_i L sz' e hl;exact ⟨L,h.2.2,fun K' h'=>by simp only [jP,hl]; exact ⟨h.1,h.2.1,h'⟩⟩
  ·exact h.elim
 | _=>exact h.elim
theorem JV {ρ:AX→Option PV} {x:Option AX} {n:Nat} {K:Nat→Prop} (h:bnd ρ x n K):∃ l,K l∧∀ K':Nat→Prop,K' l→bnd ρ x n K':=by
 cases x with
 | none=>exact ⟨n,h,fun _ h=>h⟩
 | some x =>
  simp only [bnd] at h;split at h
  ·rename_i k z hz;exact ⟨_,h.2,fun K' h'=>by simp only [bnd,hz]; exact ⟨h.1,h'⟩⟩
  ·exact h.elim
theorem zgB {op:BinOp} {a b:Value} {K:PV→Prop} (h:binV op a b K):∃ r,K r∧∀ K':PV→Prop,K' r→binV op a b K':=by
 unfold binV at h ⊢;split at h
 ·obtain ⟨rfl,h⟩:=h;cases op<;>simp only [] at h ⊢<;>first|exact h.elim|exact ⟨_,h,fun _ h'=>⟨trivial,h'⟩⟩|exact ⟨_,h.2,fun _ h'=>⟨trivial,h.1,h'⟩⟩|exact ⟨_,h.2.2,fun _ h'=>⟨trivial,h.1,h.2.1,h'⟩⟩
 ·cases op<;>simp only [] at h ⊢<;>first|exact h.elim|exact ⟨_,h,fun _ h'=>h'⟩|exact ⟨_,h.2,fun _ h'=>⟨h.1,h'⟩⟩
 ·exact h.elim
theorem zfY {ρ:AX→Option PV} {op:AOp} {d:Nat} {m:Mem} {K:PV→Mem→Prop} (h:zo ρ d m op K) :
  ∃ r n,K r n∧(∀ id,(lk n id).isSome=true→id=16 * d)∧∀ K':PV→Mem→Prop,K' r n→zo ρ d m op K':=by
 have hnil:∀ id,(lk ([]:Mem) id).isSome=true→id=16 * d:=by simp [lk]
 have hone:∀ b:Blk,∀ id,(lk [(16 * d,b)] id).isSome=true→id=16 * d:=by intro b id h; by_cases hi:id=16 * d<;>simp [lk,hi] at h ⊢
 cases op with
 | mv x=>obtain ⟨v,hv,hk⟩:=ze h; exact ⟨_,_,hk,hnil,fun K' h'=>zn hv h'⟩
 | nck x =>
  obtain ⟨v,hv,hk⟩:=ze h;cases v<;>first|exact (show False from hk).elim|exact ⟨_,_,hk,hnil,fun K' h'=>zn hv h'⟩
 | asn x sz e =>
  obtain ⟨v,hv,hk⟩:=ze h;cases v with
  | nil =>
   simp only [] at hk;split at hk
   ·rename_i hc; exact ⟨_,_,hk,hone _,fun K' h'=>zn hv (by simp only []; rw [if_pos hc]; exact h')⟩
   ·rename_i hc; exact ⟨_,_,hk,hnil,fun K' h'=>zn hv (by simp only []; rw [if_neg hc]; exact h')⟩
  | _=>exact ⟨_,_,hk,hnil,fun K' h'=>zn hv h'⟩
 | pick c a b =>
  obtain ⟨v,hv,hk⟩:=ze h;split at hk
  ·rename_i t;cases t with
   | true =>
    obtain ⟨u,hu,hk'⟩:=ze (hk.1 rfl);exact ⟨_,_,hk',hnil,fun K' h'=>by
     refine zn hv ?_;show (_→_)∧(_→_);exact ⟨fun _=>(zn hu h'),fun hh=>absurd hh (by simp)⟩⟩
   | false =>
    obtain ⟨u,hu,hk'⟩:=ze (hk.2 rfl);exact ⟨_,_,hk',hnil,fun K' h'=>by
     refine zn hv ?_;show (_→_)∧(_→_);exact ⟨fun hh=>absurd hh (by simp),fun _=>(zn hu h')⟩⟩
  ·exact hk.elim
 | alloc z=>exact ⟨_,_,h,hone _,fun _ h=>h⟩
 | newb=>exact h.elim
 | newr=>exact h.elim
 | box x=>obtain ⟨v,hv,hval,hk⟩:=ze h; exact ⟨_,_,hk,hone _,fun K' h'=>zn hv ⟨hval,h'⟩⟩
 | build z ps=>obtain ⟨v,hv,hk⟩:=ze h; exact ⟨_,_,hk,hnil,fun K' h'=>zn hv h'⟩
 | bsl sz e ps =>
  obtain ⟨v,hv,hk⟩:=ze h;split at hk
  ·rename_i L hL;obtain ⟨h1,h2,hk⟩:=hk;exact ⟨_,_,hk,hnil,fun K' h'=>zn hv (by simp only [hL]; exact ⟨h1,h2,h'⟩)⟩
  ·rename_i hL;obtain ⟨h1,hk⟩:=hk;exact ⟨_,_,hk,hone _,fun K' h'=>zn hv (by simp only [hL]; exact ⟨h1,h'⟩)⟩
 | bsl0=>exact ⟨_,_,h,hnil,fun _ h=>h⟩
 | ld g n x =>
  obtain ⟨v,hv,hk⟩:=ze h;cases v with
  | ptr id off =>
   simp only [] at hk;split at hk
   ·rename_i cs hl;cases g with
    | true=>simp only [if_true] at hk; exact ⟨_,_,hk.2,hnil,fun K' h'=>zn hv (by simp only [hl,if_true]; exact ⟨hk.1,h'⟩)⟩
    | false =>
     simp only [Bool.false_eq_true,if_false] at hk;obtain ⟨u,hu,hk⟩:=ze hk;exact ⟨_,_,hk,hnil,fun K' h'=>zn hv (by simp only [hl,Bool.false_eq_true,if_false]; exact zn hu h')⟩
   ·exact hk.elim
  | ep y off =>
   cases g with
   | true=>simp only [if_true] at hk; exact ⟨_,_,hk.2,hnil,fun K' h'=>zn hv (by simp only [if_true]; exact ⟨hk.1,h'⟩)⟩
   | false =>
    simp only [Bool.false_eq_true,if_false] at hk;obtain ⟨u,hu,hk⟩:=ze hk;exact ⟨_,_,hk,hnil,fun K' h'=>zn hv (by simp only [Bool.false_eq_true,if_false]; exact zn hu h')⟩
  | eo id n' i off =>
   simp only [] at hk;split at hk
   ·rename_i L sz e hl;obtain ⟨h1,y,hy,hk⟩:=hk;cases g with
    | true=>simp only [if_true] at hk; exact ⟨_,_,hk.2,hnil,fun K' h'=>zn hv (by simp only [hl,if_true]; exact ⟨h1,y,hy,hk.1,h'⟩)⟩
    | false =>
     simp only [Bool.false_eq_true,if_false] at hk;obtain ⟨u,hu,hk⟩:=ze hk;exact ⟨_,_,hk,hnil,fun K' h'=>zn hv (by simp only [hl,Bool.false_eq_true,if_false]; exact ⟨h1,y,hy,zn hu h'⟩)⟩
   ·exact hk.elim
  | _=>exact (show False from hk).elim
 | st=>exact h.elim
 | fa o x =>
  obtain ⟨v,hv,hk⟩:=ze h;cases v<;>first|exact (show False from hk).elim|exact ⟨_,_,hk,hnil,fun K' h'=>zn hv h'⟩
 | fld o n g x =>
  obtain ⟨v,hv,hk⟩:=ze h;cases v with
  | c cx =>
   cases cx with
   | agg cs =>
    cases g with
    | true=>simp only [if_true] at hk; exact ⟨_,_,hk.2,hnil,fun K' h'=>zn hv (by simp only [if_true]; exact ⟨hk.1,h'⟩)⟩
    | false =>
     simp only [Bool.false_eq_true,if_false] at hk;obtain ⟨u,hu,hk⟩:=ze hk;exact ⟨_,_,hk,hnil,fun K' h'=>zn hv (by simp only [Bool.false_eq_true,if_false]; exact zn hu h')⟩
   | _=>exact (show False from hk).elim
  | agg cs =>
   cases g with
   | true=>simp only [if_true] at hk; exact ⟨_,_,hk.2,hnil,fun K' h'=>zn hv (by simp only [if_true]; exact ⟨hk.1,h'⟩)⟩
   | false =>
    simp only [Bool.false_eq_true,if_false] at hk;obtain ⟨u,hu,hk⟩:=ze hk;exact ⟨_,_,hk,hnil,fun K' h'=>zn hv (by simp only [Bool.false_eq_true,if_false]; exact zn hu h')⟩
  | _=>exact (show False from hk).elim
 | ia s x i =>
  obtain ⟨iv,hiv,hk⟩:=ze h;split at hk
  ·rename_i kk z;obtain ⟨v,hv,hk⟩:=ze hk;split at hk
   ·obtain ⟨h0,y,hy,hyl,hk⟩:=hk;exact ⟨_,_,hk,hnil,fun K' h'=>zn hiv (zn hv ⟨h0,y,hy,hyl,h'⟩)⟩
   ·split at hk
    ·rename_i hl;obtain ⟨h1,h2,h3,h4,hk⟩:=hk;exact ⟨_,_,hk,hnil,fun K' h'=>zn hiv (zn hv (by simp only [hl]; exact ⟨h1,h2,h3,h4,h'⟩))⟩
    ·exact hk.elim
   ·split at hk
    ·rename_i hl;obtain ⟨h1,h2,h3,h4,h5,hk⟩:=hk;exact ⟨_,_,hk,hnil,fun K' h'=>zn hiv (zn hv (by simp only [hl]; exact ⟨h1,h2,h3,h4,h5,h'⟩))⟩
    ·exact hk.elim
   ·exact hk.elim
  ·exact hk.elim
 | idx x i =>
  obtain ⟨iv,hiv,hk⟩:=ze h;split at hk
  ·obtain ⟨v,hv,hk⟩:=ze hk;split at hk
   ·obtain ⟨h0,y,hy,hk⟩:=hk;exact ⟨_,_,hk,hnil,fun K' h'=>zn hiv (zn hv ⟨h0,y,hy,h'⟩)⟩
   ·exact hk.elim
  ·exact hk.elim
 | sls x lo hi =>
  obtain ⟨v,hv,hk⟩:=ze h;split at hk
  ·obtain ⟨l,hk,h1⟩:=JV hk;obtain ⟨u,hk,h2⟩:=JV hk;exact ⟨_,_,hk.2.2,hnil,fun K' h'=>zn hv (h1 _ (h2 _ ⟨hk.1,hk.2.1,h'⟩))⟩
  ·exact hk.elim
 | slr s x lo hi =>
  obtain ⟨v,hv,hk⟩:=ze h;split at hk
  ·obtain ⟨h0,hk⟩:=hk;obtain ⟨l,hk,h1⟩:=JV hk;obtain ⟨u,hk,h2⟩:=JV hk;exact ⟨_,_,hk.2.2,hnil,fun K' h'=>zn hv ⟨h0,h1 _ (h2 _ ⟨hk.1,hk.2.1,h'⟩)⟩⟩
  ·obtain ⟨l,hk,h1⟩:=JV hk;exact ⟨_,_,hk.2.2,hnil,fun K' h'=>zn hv (h1 _ ⟨hk.1,hk.2.1,h'⟩)⟩
  ·exact hk.elim
 | bin o x y =>
  obtain ⟨v,hv,hk⟩:=ze h;obtain ⟨u,hu,hk⟩:=ze hk;split at hk
  ·obtain ⟨r,hk,h1⟩:=zgB hk;exact ⟨_,_,hk,hnil,fun K' h'=>zn hv (zn hu (h1 _ h'))⟩
  ·exact hk.elim
 | bb o x y =>
  obtain ⟨v,hv,hk⟩:=ze h;obtain ⟨u,hu,hk⟩:=ze hk;split at hk
  ·exact ⟨_,_,hk,hnil,fun K' h'=>zn hv (zn hu h')⟩
  ·exact hk.elim
 | beq o ks x y =>
  obtain ⟨v,hv,hk⟩:=ze h;obtain ⟨u,hu,hk⟩:=ze hk;split at hk
  ·obtain ⟨h1,h2,hk⟩:=hk;obtain ⟨t,ht,hk⟩:=ze hk;exact ⟨_,_,hk,hnil,fun K' h'=>zn hv (zn hu ⟨h1,h2,zn ht h'⟩)⟩
  ·exact hk.elim
 | un o x =>
  obtain ⟨v,hv,hk⟩:=ze h;split at hk
  ·exact ⟨_,_,hk,hnil,fun K' h'=>zn hv h'⟩
  ·exact ⟨_,_,hk,hnil,fun K' h'=>zn hv h'⟩
  ·exact hk.elim
 | conv k x =>
  obtain ⟨v,hv,hk⟩:=ze h;split at hk
  ·exact ⟨_,_,hk,hnil,fun K' h'=>zn hv h'⟩
  ·exact hk.elim
 | cvs x =>
  obtain ⟨v,hv,hk⟩:=ze h;split at hk
  ·exact ⟨_,_,hk,hnil,fun K' h'=>zn hv h'⟩
  ·exact hk.elim
 | b2s x =>
  obtain ⟨v,hv,hk⟩:=ze h;obtain ⟨L,hk,h1⟩:=y9 hk;obtain ⟨C,hC,hk⟩:=ze hk;obtain ⟨bs,hb,h2,hk⟩:=ze hk;exact ⟨_,_,hk,hnil,fun K' h'=>zn hv (h1 _ (zn hC (zn hb ⟨h2,h'⟩)))⟩
 | mks s b e z x =>
  obtain ⟨v,hv,hk⟩:=ze h;split at hk
  ·obtain ⟨h1,h2,h3,h4,h5,hk⟩:=hk;exact ⟨_,_,hk,hone _,fun K' h'=>zn hv ⟨h1,h2,h3,h4,h5,h'⟩⟩
  ·exact hk.elim
 | ext x i =>
  obtain ⟨v,hv,hk⟩:=ze h;split at hk
  ·obtain ⟨y,hy,hk⟩:=ze hk; exact ⟨_,_,hk,hnil,fun K' h'=>zn hv (zn hy h')⟩
  ·obtain ⟨y,hy,hk⟩:=ze hk; exact ⟨_,_,hk,hnil,fun K' h'=>zn hv (zn hy h')⟩
  ·exact hk.elim
 | len s x =>
  obtain ⟨v,hv,hk⟩:=ze h;split at hk
  ·exact ⟨_,_,hk,hnil,fun K' h'=>zn hv h'⟩
  ·exact ⟨_,_,hk,hnil,fun K' h'=>zn hv h'⟩
  ·exact ⟨_,_,hk,hnil,fun K' h'=>zn hv h'⟩
  ·exact ⟨_,_,hk,hnil,fun K' h'=>zn hv h'⟩
  ·exact ⟨_,_,hk,hnil,fun K' h'=>zn hv h'⟩
  ·exact hk.elim
 | app f s b e x y =>
  cases f with
  | true =>
   obtain ⟨v,hv,hk⟩:=ze h;split at hk
   ·obtain ⟨u,hu,hk⟩:=ze hk;obtain ⟨L,⟨h1,h2,h3,hk⟩,h4⟩:=y9 hk;exact ⟨_,_,hk,hone _,fun K' h'=>zn hv (zn hu (h4 _ ⟨h1,h2,h3,h'⟩))⟩
   ·exact hk.elim
  | false=>exact h.elim
 | call=>exact h.elim
 | opn=>exact h.elim
 | mm o x y =>
  obtain ⟨v,hv,hk⟩:=ze h;obtain ⟨u,hu,hk⟩:=ze hk;split at hk
  ·exact ⟨_,_,hk.2,hnil,fun K' h'=>zn hv (zn hu ⟨hk.1,h'⟩)⟩
  ·exact hk.elim
 | fnv f ps =>
  obtain ⟨v,hv,hk⟩:=ze h;cases hc:JX v with
  | some ids =>
   simp only [hc] at hk;exact ⟨_,_,hk,hnil,fun K' h'=>zn hv (by simp only [hc]; exact h')⟩
  | none =>
   simp only [hc] at hk;obtain ⟨u,hu,h1,hk⟩:=ze hk;exact ⟨_,_,hk,hnil,fun K' h'=>zn hv (by simp only [hc]; exact zn hu ⟨h1,h'⟩)⟩
 | callv=>exact h.elim
 | opv=>exact h.elim
def FunC (P:Program) (W0:World) (f:FuncId) (args:List PV) (m:Mem) (Φ:PV→Mem→Prop):Prop :=
 ∀ (κ:Kap) (w:World) (vs:Array Value),Below W0.heap.size W0 w→MW W0 w κ m κ m w→za (Rep κ m w) args vs.toList →
  Calls P f vs w fun e w'=>∃ v r m' κ',e = .returned v∧Φ r m'∧MW W0 w κ m κ' m' w'∧Rep κ' m' w' r v
def Fn (P:Program) (W0:World) (f:FuncId) (args:List CV) (r:PV) (news:Mem):Prop:=FunC P W0 f (args.map .c) [] fun x m'=>x=r∧m'=news
def rl1:PV→Bool
 | .c x=>Zs x
 | .nil | .np | .ptr ..=>true
 | _=>false
def rlA:PV→Bool
 | .agg cs=>cs.all rl1
 | .c x=>JE x
 | x=>rl1 x
def rlP:PV→Bool
 | .tup cs=>cs.all rlA
 | .c x=>zbL x
 | x=>rlA x
def rlB:Blk→Bool
 | .box cs=>cs.all rl1
 | .row L _ _=>(L.flatMap PV.cells).all rl1
def rlM:Mem→Bool
 | []=>true
 | _=>false
def in1 (m:Mem):PV→Bool
 | .ptr id _ | .own id _ | .eo id .. | .sl id ..=>(lk m id).isSome
 | .fn _ ids=>ids.all fun id=>(lk m id).isSome
 | _=>true
def inA (m:Mem):PV→Bool
 | .agg cs=>cs.all (in1 m)
 | x=>in1 m x
def inP (m:Mem):PV→Bool
 | .tup cs=>cs.all (inA m)
 | x=>inA m x
def inB (m:Mem):Blk→Bool
 | .box cs=>cs.all (in1 m)
 | .row L _ _=>(L.flatMap PV.cells).all (in1 m)
def ZH (m:Mem):Bool:=m.all fun p=>inB m p.2
section
variable (P:Program) (W0:World)
def JW (f:FuncId) (vs:List PV) (m:Mem) (K:PV→Mem→Prop):Prop :=
 onv (jJ m vs) fun cs=>∃ r news,Fn P W0 f cs r news∧(Zj vs=true∨(rlP r=true∧rlM news=true))∧K r news
def merge (m:Mem):Mem→Mem
 | []=>m
 | (id,b)::l=>if (lk m id).isSome then upd (merge m l) id b else (id,b)::merge m l
def Zp (f:FuncId) (vs:List PV) (m:Mem) (K:PV→Mem→Prop):Prop :=
 ∃ mp Φ,(∀ id b,lk mp id=some b→lk m id=some b)∧ZH mp=true∧vs.all (inP mp)=true∧FunC P W0 f vs mp Φ∧(∃ r m',Φ r m') ∧
  ∀ r m',Φ r m'→(∀ id,(lk m' id).isSome=true→(lk mp id).isSome=true∨lk m id=none)∧K r (merge m m')
def yq (P:Program) (g:FuncId):Bool:=match P.funcs[g]? with
 | some fn=>fn.body.isSome&&fn.name != "runtime.NumGoroutine"
 | none=>false
def Y4 (ρ:AX→Option PV) (d:Nat) (m:Mem) (op:AOp) (K:PV→Mem→Prop):Prop :=
 match op with
 | .call f args=>onv (evs ρ args) fun vs=>JW P W0 f vs m K
 | .callv f args=>onv (ρ f) fun v=>match v with
  | .c (.sc (.func (.func g) fst caps))=>fst=#[]∧onv (evs ρ args) fun vs=>yq P g=true∧(∀ u∈caps.toList,wfv u)∧JW P W0 g (vs++caps.toList.map fun u => .c (.sc u)) m K
  | _=>False
 | op=>zo ρ d m op K
def JL (ρ:AX→Option PV) (d:Nat) (m:Mem) (op:AOp) (K:PV→Mem→Prop):Prop :=
 match op with
 | .opn f args=>onv (evs ρ args) fun vs=>Zp P W0 f vs m K
 | .opv f args=>onv (ρ f) fun v=>match v with
  | .fn g ids=>yq P g=true∧onv (evs ρ args) fun vs=>Zp P W0 g (vs++ids.map fun i => .ptr i 0) m K
  | _=>False
 | op=>jZ ρ d m op K
structure RS where
 F:List (Nat × PV)
 m:Mem
 n:Mem
def zl (F:List (Nat × PV)):Option Nat→PV→List (Nat × PV)
 | some d,r=>(d,r)::F
 | none,_=>F
def j4 (news m:Mem):Bool:=news.all fun p=>(lk m p.1).isNone
def go (seq:Bool) (o:AO) (s:RS) (K:RS→Prop):Prop :=
 if o.op.wr then JL P W0 (AX.ev s.F) (o.dst.getD 0) (s.n++s.m) o.op fun r m'=>K ⟨zl s.F o.dst r,m',[]⟩
 else Y4 P W0 (AX.ev s.F) (o.dst.getD 0) s.m o.op fun r news=>j4 news (s.n++s.m)=true∧(o.dst.isSome=true∨news=[])∧K (if seq then ⟨zl s.F o.dst r,news++(s.n++s.m),[]⟩ else ⟨zl s.F o.dst r,s.m,news++s.n⟩)
def skS (s:RS) (o:AO):RS:=⟨zl s.F o.dst (.c (.tup [])),s.m,s.n⟩
def ldOk (F:List (Nat × PV)) (o:AO):Prop:=match o.op with
 | .ld _ _ a=>match AX.ev F a with
  | some (.ptr id _)=>hiN o.tn id=true
  | some (.eo id _ _ _)=>hiN o.tn id=true
  | _=>True
 | .ia _ x _=>match AX.ev F x with
  | some (.own id _)=>hiN o.tn id=true
  | some (.sl id _ _ _)=>hiN o.tn id=true
  | _=>True
 | .bsl _ _ ps=>match evs (AX.ev F) ps with
  | some vs=>(z8 vs).isSome=true
  | none=>True
 | _=>True
def kpOk (o:AO) (s s':RS):Prop:=o.op.wr=true→∀ id,hiN o.tn id=true→lk s'.m id=lk s.m id
def goL (seq:Bool) (o:AO) (s:RS) (K:RS→Prop):Prop:=(o.lo=true→ldOk s.F o)∧go P W0 seq o s fun s'=>(o.lo=true→kpOk o s s')∧K s'
def zZ (seq:Bool) (o:AO) (s:RS) (K:RS→Prop):Prop :=
 match o.guard with
 | none=>goL P W0 seq o s K
 | some (g,want)=>onv (lk s.F g) fun v=>match v with
  | .c (.sc (.bool b))=>(b=want→goL P W0 seq o s K)∧(b=!want→K (skS s o))
  | .c (.tup [])=>K (skS s o)
  | _=>False
def runR (seq:Bool):List AO→RS→(RS→Prop)→Prop
 | [],s,K=>K s
 | o::l,s,K=>zZ P W0 seq o s fun s'=>runR seq l s' K
end
theorem Jk {news m:Mem} (h:j4 news m=true):∀ id,(lk news id).isSome=true→lk m id=none:=by
 intro id hid;induction news with
 | nil=>simp [lk] at hid
 | cons a l ih =>
  obtain ⟨k,b⟩:=a;simp only [j4,List.all_cons,Bool.and_eq_true] at h;by_cases hk:id=k
  ·subst hk; simpa using h.1
  ·simp only [zr,if_neg hk] at hid; exact ih h.2 hid
theorem MW.start {W0 w:World} {κ:Kap} {m:Mem} (hm:MemOk κ m w) (hl:∀ b,zf κ m b→W0.heap.size≤b):MW W0 w κ m κ m w :=
 ⟨hm,hl,Pres.refl _ _ _,Ext.refl _ _ _,fun _ _ h1 h2 => .inl ⟨_,h1,h2⟩,rfl⟩
structure Rel (W0 w0:World) (κ0:Kap) (m0:Mem) (N:Nat) (κ:Kap) (F:List (Nat × PV)) (m:Mem) (a:Act) (w:World):Prop where
 mw:MW W0 w0 κ0 m0 κ m w
 start:Below W0.heap.size W0 w0
 low0:∀ b,Own κ0 m0 b→W0.heap.size≤b
 s0:∀ b,κ0.S b→b < w0.heap.size
 size:a.tmps.size=N
 defers:a.defers=[]
 tmps:∀ t x,lk F t=some x→t < N∧Rep κ m w x (a.tmps.getD t undef)
section
variable {P:Program} {W0 w0:World} {κ0:Kap} {m0:Mem} {N:Nat} {κ κ':Kap} {F:List (Nat × PV)} {m m' mr:Mem} {a:Act} {w w':World} {e:Operand→Value} {o:Oper} {ρ:AX→Option PV} {d:Nat}
theorem Rel.big (h:Rel W0 w0 κ0 m0 N κ F m a w):W0.heap.size≤w.heap.size:=Nat.le_trans h.start.size h.mw.ext.size
theorem Rel.below (h:Rel W0 w0 κ0 m0 N κ F m a w):Below W0.heap.size W0 w:=by
 have e:=h.mw.ext;refine h.start.trans ⟨e.os,e.tape,e.output,e.size,fun k hk=>e.block k (Nat.lt_of_lt_of_le hk h.start.size) fun ho=>?_⟩;have:=h.low0 k ho;omega
theorem Rel.evs (h:Rel W0 w0 κ0 m0 N κ F m a w):Evs κ m w (AX.ev F) a.eval:=zko fun t x hx=>(h.tmps t x hx).2
theorem zlE (xs:Array Value) (d t:Nat) (v:Value) (hd:d < xs.size):(xs.setIfInBounds d v).getD t undef=if t=d then v else xs.getD t undef:=by
 simp only [Array.getD_eq_getD_getElem?,Array.getElem?_setIfInBounds];by_cases h:d=t
 ·subst h; simp [hd]
 ·rw [if_neg h,if_neg (fun hh=>h hh.symm)]
theorem Rel.put (h:Rel W0 w0 κ0 m0 N κ F m a w) (hm:MW W0 w0 κ0 m0 κ' m' w') (hp:Pres κ m w κ' m' w') {r:PV} {v:Value} {dst:Option Nat} (hd:dst.all (· < N)=true)
  (hv:Rep κ' m' w' r v∨dst=none):Rel W0 w0 κ0 m0 N κ' (zl F dst r) m' (a.put dst v) w':=by
 refine ⟨hm,h.start,h.low0,h.s0,?_,?_,fun t x hx=>?_⟩
 ·cases dst<;>simp [Act.put,h.size]
 ·cases dst<;>exact h.defers
 ·cases dst with
  | none=>exact ⟨(h.tmps t x hx).1,Rep.pres hp (h.tmps t x hx).2⟩
  | some d =>
   have hdN:d < N:=by simpa using hd
   simp only [zl,zr] at hx;simp only [Act.put];rw [zlE _ _ _ _ (by rw [h.size]; exact hdN)];split at hx
   ·rename_i ht;subst ht;cases hx;rw [if_pos rfl];exact ⟨hdN,hv.resolve_right (by simp)⟩
   ·rename_i ht;rw [if_neg ht];exact ⟨(h.tmps t x hx).1,Rep.pres hp (h.tmps t x hx).2⟩
theorem zby (hm:MemOk κ m w) {S:Nat→Prop} {id n sz:Nat} {L:List PV} {el:TypeId} {C:List CV} {v:Value} (hl:lk m id=some (.row L sz el)) (hlen:L.length=n) (hCl:C.length=L.length) (hCs:∀ x∈C,x.cells.length=sz)
  (hcs:∀ vs,za (zb κ m w) (L.flatMap PV.cells) vs→za (fun y u=>RepC w S y u∧u.oneCell'=true) (C.flatMap CV.cells) vs)
  (hSb:∀ b,κ id=some b→¬ S b) (hr:Rep κ m w (.own id n) v):RepC w S (.row C) v:=by
 obtain ⟨_,hmax,L0,sz0,e0,g1,g2,g3,_⟩:=hr;rw [hl] at g1;injection g1 with g1
 injection g1 with e1 e2 e3
 subst e1 e2 e3;have hO:=g3 hlen;obtain ⟨hsz,hpos,hblk⟩:=hm.blk id _ hl;unfold zX at hO;rcases hblk with ⟨hkn,hL⟩ | ⟨b,vs,rest,hkb,hh,hall⟩
 ·have hL:=hL.resolve_right (fun h=>by have:=Jo h; omega);subst hL;rw [hkn] at hO;obtain ⟨o,rfl⟩:=hO;have hC:C=[]:=List.eq_nil_of_length_eq_zero hCl;subst hC;exact .nil (Nat.zero_le _)
 ·rw [hkb] at hO;obtain ⟨cap,arr,e,h1,h2,h3,h4,h5⟩:=hO;by_cases hne:C=[]
  ·subst hne;have:n=0:=by simp at hCl; omega
   subst this;rw [h1]; exact .nil h3
  ·have hcs:=hcs vs hall;rw [h1,show n=C.length by omega];refine .row hne hpos (by omega) h3 (hSb b hkb) hCs hcs.length (fun i x u hx hu=>?_) (fun u hu=>?_) fun j u hj=>?_
   ·obtain ⟨b',hb',hr,_⟩:=hcs.get i x hx;rw [hu] at hb'; cases hb'; exact hr
   ·obtain ⟨i,hi⟩:=List.mem_iff_getElem?.1 hu;have hlt:i < (C.flatMap CV.cells).length:=by
     rw [hcs.length];rcases Nat.lt_or_ge i vs.length with h' | h'
     ·exact h'
     ·simp [List.getElem?_eq_none h'] at hi
    obtain ⟨b',hb',_,ho⟩:=hcs.get i (C.flatMap CV.cells)[i] (by simp [hlt]);rw [hi] at hb'; cases hb'; exact ho
   ·have hjl:j < vs.length:=by
     rcases Nat.lt_or_ge j vs.length with h' | h'
     ·exact h'
     ·simp [List.getElem?_eq_none h'] at hj
    have hj':(vs++rest)[j]? = some u:=by rw [List.getElem?_append_left hjl]; exact hj
    simp [World.cell?,hh,hj']
theorem ZB {S:Nat→Prop} (hS:∀ b,S b→zf κ m b) {x:PV} {y:CV} {v:Value} (h:jT x=some y) (hr:Rep κ m w x v):RepC w S y v :=
 (yO h hr).mono fun _ _ _ hb hc=>⟨fun h=>hb (hS _ h),hc⟩
theorem zao {S:Nat→Prop} (hS:∀ b,S b→zf κ m b) {x:PV} {y:CV} {us:List Value} (h:jT x=some y) (hr:za (zb κ m w) x.cells us):za (fun y u=>RepC w S y u∧u.oneCell'=true) y.cells us :=
 (zcs h hr).imp fun _ _ hh=>⟨hh.1.mono fun _ _ _ hb hc=>⟨fun h=>hb (hS _ h),hc⟩,hh.2⟩
theorem zct {S:Nat→Prop} (hS:∀ b,S b→zf κ m b) {L:List PV} {C:List CV} {vs:List Value} (h:z8 L=some C) (hr:za (zb κ m w) (L.flatMap PV.cells) vs) :
  za (fun y u=>RepC w S y u∧u.oneCell'=true) (C.flatMap CV.cells) vs :=
 (yP h hr).imp fun _ _ hh=>⟨hh.1.mono fun _ _ _ hb hc=>⟨fun h=>hb (hS _ h),hc⟩,hh.2⟩
section
variable {S:Nat→Prop}
theorem zmW (hm:MemOk κ m w) (hS:∀ b,S b→zf κ m b) (hSo:∀ id b,(lk m id).isSome=true→κ id=some b→¬ S b) {id n sz:Nat} {L:List PV} {el:TypeId} {C:List CV} {v:Value} (hl:lk m id=some (.row L sz el)) (hlen:L.length=n)
  (hC:z8 L=some C) (hr:Rep κ m w (.own id n) v):RepC w S (.row C) v:=by
 obtain ⟨h1,h2⟩:=yr hC (hm.blk id _ hl).1;exact zby hm hl hlen h1 h2 (fun _ h=>zct hS hC h) (fun b hb=>hSo id b (by simp [hl]) hb) hr
theorem znv (hm:MemOk κ m w) (hS:∀ b,S b→zf κ m b) (hSo:∀ id b,(lk m id).isSome=true→κ id=some b→¬ S b) (hsub:∀ id b,lk mr id=some b→lk m id=some b) {x:PV} {y:CV} {v:Value}
  (h:yi mr x=some y) (hr:Rep κ m w x v):RepC w S y v:=by
 cases x with
 | own id n =>
  simp only [yi] at h;split at h
  ·rename_i L sz el hl;split at h
   ·rename_i hlen;simp only [Option.map_eq_some_iff] at h;obtain ⟨C,hC,rfl⟩:=h;exact zmW hm hS hSo (hsub _ _ hl) hlen hC hr
   ·cases h
  ·cases h
 | c cx=>exact ZB hS (x := .c cx) h hr
 | nil=>exact ZB hS (x := .nil) h hr
 | agg cs=>exact ZB hS (x := .agg cs) h hr
 | _=>exact absurd (show none=some y from h) (by simp)
theorem zfr {id n:Nat} {y:CV} (h:yi mr (.own id n)=some y):∃ C,y = .row C:=by
 simp only [yi] at h;split at h
 ·split at h
  ·simp only [Option.map_eq_some_iff] at h;obtain ⟨C,_,rfl⟩:=h;exact ⟨C,rfl⟩
  ·cases h
 ·cases h
theorem zfA:∀ {L:List PV} {C:List CV} {sz:Nat},qk mr L=some C→(∀ x∈L,x.cells.length=sz)→C.length=L.length∧∀ x∈C,x.cells.length=sz
 | [],C,sz,h,_=>by simp only [qk] at h; cases h; simp
 | x::L,C,sz,h,hs=>by
  simp only [qk] at h;split at h
  ·rename_i y k hy hk;cases h;obtain ⟨h1,h2⟩:=zfA hk fun z hz=>hs z (by simp [hz])
   refine ⟨by simp [h1],fun z hz=>?_⟩;rcases List.mem_cons.1 hz with rfl | hz
   ·have hx:=hs x (by simp);cases x with
    | own id n=>obtain ⟨C,rfl⟩:=zfr hy; simpa [PV.cells,CV.cells] using hx
    | c cx=>rw [QZ (x := .c cx) hy]; exact hx
    | nil=>rw [QZ (x := .nil) hy]; exact hx
    | agg cs=>rw [QZ (x := .agg cs) hy]; exact hx
    | _=>exact absurd (show none=some _ from hy) (by simp)
   ·exact h2 z hz
  ·cases h
theorem zfy (hm:MemOk κ m w) (hS:∀ b,S b→zf κ m b) (hSo:∀ id b,(lk m id).isSome=true→κ id=some b→¬ S b) (hsub:∀ id b,lk mr id=some b→lk m id=some b):∀ {L:List PV} {C:List CV} {vs:List Value},qk mr L=some C →
  za (zb κ m w) (L.flatMap PV.cells) vs→za (fun y u=>RepC w S y u∧u.oneCell'=true) (C.flatMap CV.cells) vs
 | [],C,vs,h,hv=>by
  simp only [qk] at h; cases h;cases vs with
  | nil=>trivial
  | cons=>exact hv.elim
 | x::L,C,vs,h,hv=>by
  simp only [qk] at h;split at h
  ·rename_i y k hy hk;cases h;simp only [List.flatMap_cons] at hv ⊢;obtain ⟨u,v,rfl,h1,h2⟩:=QQ hv;refine za.append ?_ (zfy hm hS hSo hsub hk h2);cases x with
   | own id n =>
    obtain ⟨C,rfl⟩:=zfr hy
    match u,h1 with
    | [u],h1=>exact ⟨⟨znv hm hS hSo hsub hy (Rep.of1 h1.1),zb.one h1.1⟩,trivial⟩
    | [],h1=>exact h1.elim
    | _::_::_,h1=>exact h1.2.elim
   | c cx=>exact zao hS (x := .c cx) hy h1
   | nil=>exact zao hS (x := .nil) hy h1
   | agg cs=>exact zao hS (x := .agg cs) hy h1
   | _=>exact absurd (show none=some _ from hy) (by simp)
  ·cases h
theorem zft (hm:MemOk κ m w) (hS:∀ b,S b→zf κ m b) (hSo:∀ id b,(lk m id).isSome=true→κ id=some b→¬ S b) (hsub:∀ id b,lk mr id=some b→lk m id=some b) {x:PV} {y:CV} {v:Value}
  (h:yG mr x=some y) (hr:zb κ m w x v):RepC w S y v:=by
 cases x with
 | own id n =>
  simp only [yG] at h;split at h
  ·rename_i L sz el hl;split at h
   ·rename_i hlen;simp only [Option.map_eq_some_iff] at h;obtain ⟨C,hC,rfl⟩:=h;have hl':=hsub _ _ hl;obtain ⟨h1,h2⟩:=zfA hC (hm.blk id _ hl').1;exact zby hm hl' hlen h1 h2 (fun _ h=>zfy hm hS hSo hsub hC h) (fun b hb=>hSo id b (by simp [hl']) hb) (Rep.of1 hr)
   ·cases h
  ·cases h
 | c cx=>exact ZB hS (x := .c cx) h (Rep.of1 hr)
 | nil=>exact ZB hS (x := .nil) h (Rep.of1 hr)
 | _=>exact absurd (show none=some y from h) (by simp)
theorem zfw (hm:MemOk κ m w) (hS:∀ b,S b→zf κ m b) (hSo:∀ id b,(lk m id).isSome=true→κ id=some b→¬ S b) (hsub:∀ id b,lk mr id=some b→lk m id=some b):∀ {cs:List PV} {l:List CV} {vs:List Value},
  qG mr cs=some l→za (zb κ m w) cs vs→za (fun y u=>RepC w S y u∧u.oneCell'=true) l vs
 | [],l,vs,h,hv=>by
  simp only [qG] at h; cases h;cases vs with
  | nil=>trivial
  | cons=>exact hv.elim
 | x::L,C,vs,h,hv=>by
  simp only [qG] at h;split at h
  ·rename_i y k hy hk;cases h;cases vs with
   | nil=>exact hv.elim
   | cons v vs=>exact ⟨⟨zft hm hS hSo hsub hy hv.1,zb.one hv.1⟩,zfw hm hS hSo hsub hk hv.2⟩
  ·cases h
theorem Y1 (hm:MemOk κ m w) (hS:∀ b,S b→zf κ m b) (hSo:∀ id b,(lk m id).isSome=true→κ id=some b→¬ S b) (hsub:∀ id b,lk mr id=some b→lk m id=some b) {x:PV} {y:CV} {v:Value}
  (h:snap mr x=some y) (hr:Rep κ m w x v):RepC w S y v:=by
 cases x with
 | own id n=>exact zft hm hS hSo hsub (x := .own id n) h hr
 | agg cs =>
  simp only [snap,Option.map_eq_some_iff] at h;obtain ⟨l,hl,rfl⟩:=h;obtain ⟨vs,rfl,h2⟩:=hr;have:=zfw hm hS hSo hsub hl h2;refine .agg this.length (fun i x v hx hv=>?_) fun v hv=>?_
  ·obtain ⟨u,hu,hr⟩:=this.get i x hx;rw [hv] at hu; cases hu; exact hr.1
  ·obtain ⟨i,hi⟩:=List.mem_iff_getElem?.1 hv;have hlt:i < l.length:=by
    rw [this.length];rcases Nat.lt_or_ge i vs.length with h' | h'
    ·exact h'
    ·simp [List.getElem?_eq_none h'] at hi
   obtain ⟨u,hu,hr⟩:=this.get i l[i] (by simp [hlt]);rw [hi] at hu; cases hu; exact hr.2
 | c cx=>exact ZB hS (x := .c cx) h hr
 | nil=>exact ZB hS (x := .nil) h hr
 | _=>exact absurd (show none=some y from h) (by simp)
end
theorem znz (hm:MemOk κ m w) (hsub:∀ id b,lk mr id=some b→lk m id=some b) {x:PV} {y:CV} {v:Value} (h:snap mr x=some y) (hr:Rep κ m w x v):RepC w (fun _=>False) y v :=
 Y1 hm (fun _ h=>h.elim) (fun _ _ _ _ h=>h) hsub h hr
theorem zfv:∀ {cs:List PV} {l:List CV},JS cs=false→qG mr cs=some l→jf cs=some l
 | [],l,_,h=>by simp only [qG] at h; cases h; rfl
 | x::cs,l,h0,h=>by
  simp only [qG] at h;split at h
  ·rename_i y k hy hk;cases h;have h1:JS cs=false∧jw x=some y:=by
    cases x with
    | own=>cases h0
    | _=>exact ⟨h0,hy⟩
   simp [jf,h1.2,zfv h1.1 hk]
  ·cases h
def isOwnA:PV→Bool
 | .own ..=>true
 | .agg cs=>JS cs
 | _=>false
theorem znA {x:PV} {y:CV} {v:Value} (h:snap mr x=some y) (hx:isOwnA x=false) (hr:Rep κ m w x v):RepC w (zf κ m) y v:=by
 cases x with
 | own id n=>cases hx
 | c cx=>exact yO (x := .c cx) h hr
 | nil=>exact yO (x := .nil) h hr
 | agg cs =>
  simp only [snap,Option.map_eq_some_iff] at h;obtain ⟨l,hl,rfl⟩:=h;exact yO (x := .agg cs) (by simp [jT,zfv hx hl]) hr
 | _=>exact absurd (show none=some y from h) (by simp)
end
end Go.Proofs.YtmkmldepkponaaaGreatDoor
