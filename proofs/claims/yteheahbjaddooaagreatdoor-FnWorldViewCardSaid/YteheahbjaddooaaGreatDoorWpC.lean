/- The texts Am1, Zj, Pa1, Pa2, Pa3, Qa1, Qa2, Qa3, Qa4, Qa5, Qa6, Pa4, Qa7, Qa8, Qa9, Pa5, Pa6, Qb1, Pa7, Bm1, Pb1, Pb2, Pb3, Pb8, Pb9, joined; no condition. -/
import Derived.Test.YteheahbjaddooaaGreatDoorWpB
import Derived.JoinedOf
import Derived.JoinedCond
import Derived.Test.YteheahbjaddooaaGreatDoorProg

namespace Go.Proofs.YteheahbjaddooaaGreatDoor
set_option linter.unusedSimpArgs false
set_option linter.unusedVariables false
open Go Go.RowKit
abbrev AO.mv (d s:Nat):AO:=⟨some d,.mv (.t s),none,false,[]⟩
abbrev AO.ex (d:Nat) (o:AOp):AO:=⟨some d,o,none,false,[]⟩
abbrev AO.nu (o:AOp):AO:=⟨none,o,none,false,[]⟩
abbrev AO.gt (d:Nat) (o:AOp) (g:Nat):AO:=⟨some d,o,some (g,true),false,[]⟩
instance (n:Nat):OfNat AX n:=⟨.t n⟩
abbrev sE:PV := .c (.sc (.string ⟨#[]⟩))
abbrev AO.l1 (d n:Nat) (a:AX):AO:=⟨some d,.ld false n a,none,false,[]⟩
abbrev AO.l2 (d n:Nat) (a:AX):AO:=⟨some d,.ld true n a,none,false,[]⟩
abbrev AO.b1 (d:Nat) (o:BinOp) (x y:AX):AO:=⟨some d,.bin o x y,none,false,[]⟩
abbrev AO.f1 (d k:Nat) (x:AX):AO:=⟨some d,.fa k x,none,false,[]⟩
abbrev AO.c1 (d f:Nat) (xs:List AX):AO:=⟨some d,.call f xs,none,false,[]⟩
abbrev AO.n1 (d:Nat) (x:AX):AO:=⟨some d,.len false x,none,false,[]⟩
abbrev AO.e1 (d:Nat) (x:AX) (i:Nat):AO:=⟨some d,.ext x i,none,false,[]⟩
abbrev AO.a1 (d:Nat) (x:AX) (z e:Nat):AO:=⟨some d,.asn x z e,none,false,[]⟩
abbrev AO.i1 (d s:Nat) (x i:AX):AO:=⟨some d,.ia s x i,none,false,[]⟩
abbrev AO.s1 (n:Nat) (a v:AX):AO:=⟨none,.st n a v,none,false,[]⟩
abbrev AO.o1 (d f:Nat) (xs:List AX):AO:=⟨some d,.opn f xs,none,false,[]⟩
abbrev AO.m1 (d:Nat) (x:AX):AO:=⟨some d,.mv x,none,false,[]⟩
abbrev AO.gf (d:Nat) (o:AOp) (g:Nat):AO:=⟨some d,o,some (g,false),false,[]⟩
abbrev AO.exl (d:Nat) (o:AOp):AO:=⟨some d,o,none,true,[]⟩
abbrev AO.exo (tn:List Nat) (d:Nat) (o:AOp):AO:=⟨some d,o,none,true,tn⟩
abbrev AO.nuo (tn:List Nat) (o:AOp):AO:=⟨none,o,none,true,tn⟩
abbrev AX.i (n:Int):AX := .k (.c (.sc (.int .i64 n)))
abbrev AX.u (n:Int):AX := .k (.c (.sc (.int .u8 n)))
abbrev AX.y:AX := .k (.c (.sc (.bool true)))
abbrev AX.n:AX := .k (.c (.sc (.bool false)))
abbrev AX.s (l:Str):AX := .k (.c (.sc (.string ⟨⟨l⟩⟩)))
abbrev XC.s (a b:XC):XC := .seq a b
abbrev XC.r (l:List AO):XC := .reg true l
abbrev XC.d (l:List AO):XC := .reg false l
class BP (b:Bool) (p n:outParam Prop):Prop where
 t:b=true→p
 f:b=false→n
instance (priority:=low) (b:Bool):BP b (b=true) (b=false):=⟨id,id⟩
instance (a b:Int):BP (ltI a b) (a < b) (b≤a):=⟨zjX.1,zjW.1⟩
instance (a b:Int):BP (leI a b) (a≤b) (b < a):=⟨zjy.1,zjx.1⟩
instance (a b:Int):BP (eqI a b) (a=b) (a≠b):=⟨zR.1,zQ.1⟩
instance (a b:Str):BP (eqS a b) (a=b) (a≠b):=⟨zT.1,zef.1⟩
instance (a b:Bool):BP (eqB a b) (a=b) (a≠b):=⟨zO.1,zeb.1⟩
instance (p:Prop) [Decidable p]:BP (decide p) p (¬ p):=⟨of_decide_eq_true,of_decide_eq_false⟩
instance (b:Bool) (p n:Prop) [h:BP b p n]:BP (!b) n p:=⟨fun e=>h.f (by simpa using e),fun e=>h.t (by simpa using e)⟩
theorem cP {b:Bool} {p n A B:Prop} [h:BP b p n] (h1:p→A) (h2:n→B):cndX b A B:=zdp (fun e=>h1 (h.t e)) fun e=>h2 (h.f e)
theorem oB {p A:Prop} (h:p) (k:A):Ob p A:=⟨h,k⟩
section
variable {α β:Type} {f:α→β} {L:List α}
theorem lM {K:Nat→Prop} (h:K L.length):LenX (L.map f) K:=⟨_,by simp,h⟩
theorem lmp:(L.map f).length=L.length:=List.length_map _
theorem lA {K:Nat→Prop} (h:K L.length):LenX L K:=⟨_,rfl,h⟩
theorem aM {k:Int} {j:Nat} {K:β→Prop} (hk:k=(j:Int)) (hj:j < L.length) (h:K (f L[j])):AtX k (L.map f) K:=⟨j,hk,f L[j],by simp [hj],h⟩
theorem aA {k:Int} {j:Nat} {K:α→Prop} (hk:k=(j:Int)) (hj:j < L.length) (h:K L[j]):AtX k L K:=⟨j,hk,L[j],by simp [hj],h⟩
theorem nC {j:Nat} {K:Nat→Prop} (h:K j):NatX (j:Int) K:=⟨j,rfl,h⟩
theorem nE {k:Int} {j:Nat} {K:Nat→Prop} (e:k=(j:Int)) (h:K j):NatX k K:=⟨j,e,h⟩
theorem sLo {k:Int} (l:Nat) {K:List α→Prop} (e:k=(l:Int)) (hl:l≤L.length) (h:K (L.drop l)):SubX L (some k) none K :=
 ⟨l,L.length,e,rfl,hl,Nat.le_refl _,by simpa using h⟩
theorem sHi {k:Int} (l:Nat) {K:List α→Prop} (e:k=(l:Int)) (hl:l≤L.length) (h:K (L.take l)):SubX L none (some k) K :=
 ⟨0,l,rfl,e,Nat.zero_le _,hl,by simpa using h⟩
theorem sBo {i k:Int} (l r:Nat) {K:List α→Prop} (e:i=(l:Int)) (e':k=(r:Int)) (hl:l≤r) (hr:r≤L.length) (h:K ((L.take r).drop l)):SubX L (some i) (some k) K :=
 ⟨l,r,e,e',hl,hr,h⟩
theorem sLoM {k:Int} (l:Nat) {K:List β→Prop} (e:k=(l:Int)) (hl:l≤L.length) (h:K ((L.drop l).map f)):SubX (L.map f) (some k) none K :=
 sLo l e (by simpa using hl) (by simpa [List.map_drop] using h)
theorem sHiM {k:Int} (l:Nat) {K:List β→Prop} (e:k=(l:Int)) (hl:l≤L.length) (h:K ((L.take l).map f)):SubX (L.map f) none (some k) K :=
 sHi l e (by simpa using hl) (by simpa [List.map_take] using h)
end
theorem zM {α:Type} {f:α→CV} {L:List α} {sz:Nat} (h:∀ a,(f a).cells.length=sz):AllSz sz (L.map f):=fun x hx=>by
 obtain ⟨a,_,rfl⟩:=List.mem_map.1 hx; exact h a
theorem zN {sz:Nat}:AllSz sz []:=fun _ h=>by cases h
theorem zC {sz:Nat} {x:CV} {L:List CV} (h:x.cells.length=sz) (hl:AllSz sz L):AllSz sz (x::L):=fun y hy=>by
 rcases List.mem_cons.1 hy with rfl | hy
 ·exact h
 ·exact hl y hy
theorem oA {p A:Prop} (k:A) (h:p:=by first | omega | rfl | exact zM fun _=>rfl | exact lmp | exact zC rfl zN | exact ⟨by omega,by omega⟩ | exact congrArg I (by omega)):Ob p A:=⟨h,k⟩
theorem lF {α:Type} {x:α} {K:Nat→Prop} (h:K 1):LenX [x] K:=⟨1,rfl,h⟩
structure Hid (Q:Prop):Prop where
 out:Q
theorem dr {P Q:Prop} (q:Q) (h:Hid Q→P:=by intro q; (conv=>whnf); (repeat ((first | refine oA ?_ | refine lM ?_ | refine lF ?_ | refine lA ?_ | refine aM rfl (by omega) ?_ | refine aA rfl (by omega) ?_ | refine aA (j:=0) rfl (by omega) ?_ | refine nC ?_); conv=>whnf)); exact q.out):P:=h ⟨q⟩
theorem dI {P Q:Prop} (h:Q):P→Q:=fun _=>h
theorem dEr {P Q:Prop} (q:Q) (h:Hid Q→P:=by intro q; (conv=>whnf); (repeat ((first | refine oA ?_ | refine lM ?_ | refine lF ?_ | refine lA ?_ | refine aM rfl (by omega) ?_ | refine aA rfl (by omega) ?_ | refine aA (j:=0) rfl (by omega) ?_ | refine nC ?_ | refine dI ?_); conv=>whnf)); exact q.out):P:=h ⟨q⟩
theorem dz {P:Prop} (h:P:=by (conv=>whnf); (repeat ((first | refine oA ?_ | refine lM ?_ | refine lF ?_ | refine lA ?_ | refine aM rfl (by omega) ?_ | refine aA rfl (by omega) ?_ | refine aA (j:=0) rfl (by omega) ?_ | refine nC ?_ | refine dI ?_); conv=>whnf))):P:=h
theorem c0 {P:Program} {W0:World} {f:FuncId} {cs:List CV} {r:PV} {own:Bool} {K:PV→XM→Prop} (hf:Fn P W0 f cs r []) (ho:(own||rlP r)=true) (k:K r []):CallX P W0 f cs own K :=
 ⟨r,[],hf,by cases own with | true=>exact .inl rfl | false=>exact .inr ⟨ho,rfl⟩,k⟩
theorem lp {k0:List Nat} {body:(Fr→XM→Prop)→Fr→XM→Prop} {F:Fr} {m:XM} {σ:Type} (fr:σ→Fr) (mm:σ→XM) (inv:σ→Prop) (me:σ→Nat) (x0:σ) (h0:inv x0) (hk:KeepX k0 none F m (fr x0) (mm x0))
  (hb:∀ x,inv x→body (fun F' m'=>∃ x',inv x'∧me x' < me x∧KeepX k0 none F' m' (fr x') (mm x')) (fr x) (mm x)):LoopX k0 body F m :=
 ⟨σ,fr,mm,inv,me,none,none,_,⟨x0,h0,hk⟩,fun _ _ _ h=>h,hb⟩
theorem lp2 {k0:List Nat} {body:(Fr→XM→Prop)→Fr→XM→Prop} {F:Fr} {m:XM} {α β:Type} (fr:α→β→Fr) (mm:α→β→XM) (inv:α→β→Prop) (me:α→β→Nat) (a0:α) (b0:β) (h0:inv a0 b0) (hk:KeepX k0 none F m (fr a0 b0) (mm a0 b0))
  (hb:∀ a b,inv a b→body (fun F' m'=>∃ a' b',inv a' b'∧me a' b' < me a b∧KeepX k0 none F' m' (fr a' b') (mm a' b')) (fr a b) (mm a b)):LoopX k0 body F m :=
 ⟨α × β,fun x=>fr x.1 x.2,fun x=>mm x.1 x.2,fun x=>inv x.1 x.2,fun x=>me x.1 x.2,none,none,fun x F' m'=>∃ a' b',inv a' b'∧me a' b' < me x.1 x.2∧KeepX k0 none F' m' (fr a' b') (mm a' b'),
  ⟨(a0,b0),h0,hk⟩,fun _ _ _ ⟨a,b,h⟩=>⟨(a,b),h⟩,fun x h=>hb x.1 x.2 h⟩
theorem lp3 {k0:List Nat} {body:(Fr→XM→Prop)→Fr→XM→Prop} {F:Fr} {m:XM} {α β γ:Type} (fr:α→β→γ→Fr) (mm:α→β→γ→XM) (inv:α→β→γ→Prop) (me:α→β→γ→Nat) (a0:α) (b0:β) (c0:γ) (h0:inv a0 b0 c0) (hk:KeepX k0 none F m (fr a0 b0 c0) (mm a0 b0 c0))
  (hb:∀ a b c,inv a b c→body (fun F' m'=>∃ a' b' c',inv a' b' c'∧me a' b' c' < me a b c∧KeepX k0 none F' m' (fr a' b' c') (mm a' b' c')) (fr a b c) (mm a b c)):LoopX k0 body F m :=
 ⟨α × β × γ,fun x=>fr x.1 x.2.1 x.2.2,fun x=>mm x.1 x.2.1 x.2.2,fun x=>inv x.1 x.2.1 x.2.2,fun x=>me x.1 x.2.1 x.2.2,none,none,fun x F' m'=>∃ a' b' c',inv a' b' c'∧me a' b' c' < me x.1 x.2.1 x.2.2∧KeepX k0 none F' m' (fr a' b' c') (mm a' b' c'),
  ⟨(a0,b0,c0),h0,hk⟩,fun _ _ _ ⟨a,b,c,h⟩=>⟨(a,b,c),h⟩,fun x h=>hb x.1 x.2.1 x.2.2 h⟩
theorem lz {k0:List Nat} {body:(Fr→XM→Prop)→Fr→XM→Prop} {F:Fr} {m:XM} {σ:Type} (z:Nat) (fr:σ→Fr) (mm:σ→XM) (inv:σ→Prop) (me:σ→Nat) (x0:σ) (h0:inv x0) (hk:KeepX k0 (some z) F m (fr x0) (mm x0))
  (hb:∀ x,inv x→body (fun F' m'=>∃ x',inv x'∧me x' < me x∧KeepX k0 none F' m' (fr x') (mm x')) (fr x) (mm x)):LoopX k0 body F m :=
 ⟨σ,fr,mm,inv,me,some z,none,_,⟨x0,h0,hk⟩,fun _ _ _ h=>h,hb⟩
theorem lz2 {k0:List Nat} {body:(Fr→XM→Prop)→Fr→XM→Prop} {F:Fr} {m:XM} {α β:Type} (z:Nat) (fr:α→β→Fr) (mm:α→β→XM) (inv:α→β→Prop) (me:α→β→Nat) (a0:α) (b0:β) (h0:inv a0 b0) (hk:KeepX k0 (some z) F m (fr a0 b0) (mm a0 b0))
  (hb:∀ a b,inv a b→body (fun F' m'=>∃ a' b',inv a' b'∧me a' b' < me a b∧KeepX k0 none F' m' (fr a' b') (mm a' b')) (fr a b) (mm a b)):LoopX k0 body F m :=
 ⟨α × β,fun x=>fr x.1 x.2,fun x=>mm x.1 x.2,fun x=>inv x.1 x.2,fun x=>me x.1 x.2,some z,none,fun x F' m'=>∃ a' b',inv a' b'∧me a' b' < me x.1 x.2∧KeepX k0 none F' m' (fr a' b') (mm a' b'),
  ⟨(a0,b0),h0,hk⟩,fun _ _ _ ⟨a,b,h⟩=>⟨(a,b),h⟩,fun x h=>hb x.1 x.2 h⟩
theorem cutp {k0:List Nat} {a:(Fr→XM→Prop)→Fr→XM→Prop} {b:Fr→XM→Prop} {F:Fr} {m:XM} {σ:Type} (fr:σ→Fr) (mm:σ→XM) (inv:σ→Prop)
  (ha:a (fun F' m'=>∃ x,inv x∧KeepX k0 none F' m' (fr x) (mm x)) F m) (hb:∀ x,inv x→b (fr x) (mm x)):CutX k0 a b F m:=⟨σ,fr,mm,inv,none,_,ha,fun _ _ h=>h,hb⟩
theorem cutz {k0:List Nat} {a:(Fr→XM→Prop)→Fr→XM→Prop} {b:Fr→XM→Prop} {F:Fr} {m:XM} {σ:Type} (z:Nat) (fr:σ→Fr) (mm:σ→XM) (inv:σ→Prop)
  (ha:a (fun F' m'=>∃ x,inv x∧KeepX k0 (some z) F' m' (fr x) (mm x)) F m) (hb:∀ x,inv x→b (fr x) (mm x)):CutX k0 a b F m:=⟨σ,fr,mm,inv,some z,_,ha,fun _ _ h=>h,hb⟩
theorem goodRow {α:Type} {f:α→CV} {L:List α} (h:Good (.row (L.map f))):L.length≤9223372036854775807:=by
 cases h with
 | row h _=>simpa [maxLen] using h
theorem goodRow' {α:Type} {f:α→CV} {L:List α} (h:Good (.row (L.map f))):∀ a∈L,∀ y∈(f a).cells,Good y:=by
 cases h with
 | row _ h=>exact fun a ha=>h _ (List.mem_map_of_mem ha)
theorem goodAgg {cs:List CV} (h:Good (.agg cs)):∀ x∈cs,Good x:=by
 cases h with
 | agg h=>exact h
theorem goodS {s:Str} (h:Good (CS s)):s.length≤9223372036854775807:=by
 cases h with
 | sc h=>simpa [wfv,maxLen,ByteArray.size] using h
theorem goodI {n:Int} (h:Good (CI n)) : -9223372036854775808≤n∧n≤9223372036854775807:=by
 cases h with
 | sc h=>exact h
structure Ent where
 path:Str
 dir:Bool
 data:Str
deriving DecidableEq
structure Op where
 kind:Int
 path:Str
 dest:Str
 data:Str
deriving DecidableEq
structure Mark where
 path:Str
 kind:Int
 data:Str
deriving DecidableEq
structure Over where
 base:List Ent
 layers:List (List Mark)
 upper:List Mark
deriving DecidableEq
structure Lease where
 who:Int
 path:Str
 num:Int
 til:Int
deriving DecidableEq
structure Hold where
 path:Str
 has:Bool
 ent:Ent
 num:Int
 til:Int
deriving DecidableEq
structure Msg where
 kind:Int
 who:Int
 hold:Hold
deriving DecidableEq
structure Wld where
 over:Over
 clock:Int
 count:Int
 leases:List Lease
 holds:List (List Hold)
 floors:List Int
 net:List Msg
 waits:Bool
 op:Op
deriving DecidableEq
def eEnt (e:Ent):CV := .agg [CS e.path,CB e.dir,CS e.data]
def eOp (o:Op):CV := .agg [CI o.kind,CS o.path,CS o.dest,CS o.data]
def eMark (m:Mark):CV := .agg [CS m.path,CI m.kind,CS m.data]
def eEnts (t:List Ent):CV := .row (t.map eEnt)
def eMarks (l:List Mark):CV := .row (l.map eMark)
def eMarkss (l:List (List Mark)):CV := .row (l.map eMarks)
def eOver (o:Over):CV := .agg [eEnts o.base,eMarkss o.layers,eMarks o.upper]
def eLease (l:Lease):CV := .agg [CI l.who,CS l.path,CI l.num,CI l.til]
def eHold (h:Hold):CV := .agg [CS h.path,CB h.has,CS h.ent.path,CB h.ent.dir,CS h.ent.data,CI h.num,CI h.til]
def eMsg (m:Msg):CV := .agg [CI m.kind,CI m.who,CS m.hold.path,CB m.hold.has,CS m.hold.ent.path,CB m.hold.ent.dir,CS m.hold.ent.data,CI m.hold.num,CI m.hold.til]
def eLeases (l:List Lease):CV := .row (l.map eLease)
def eHolds (l:List Hold):CV := .row (l.map eHold)
def eHoldss (l:List (List Hold)):CV := .row (l.map eHolds)
def eInts (l:List Int):CV := .row (l.map CI)
def eMsgs (l:List Msg):CV := .row (l.map eMsg)
def eStrs (l:List Str):CV := .row (l.map CS)
def eCode (l:Str):CV := .row (l.map fun b=>CU b.toNat)
def eWld (w:Wld):CV := .agg [eEnts w.over.base,eMarkss w.over.layers,eMarks w.over.upper,CI w.clock,CI w.count,eLeases w.leases,eHoldss w.holds,eInts w.floors,eMsgs w.net,CB w.waits,
 CI w.op.kind,CS w.op.path,CS w.op.dest,CS w.op.data]
theorem dT {p:Prop} [Decidable p] (h:p):CB true=CB (decide p):=by rw [decide_eq_true h]
theorem dF {p:Prop} [Decidable p] (h:¬ p):CB false=CB (decide p):=by rw [decide_eq_false h]
theorem bT {b:Bool} (h:b=true):CB true=CB b:=by rw [h]
theorem bF {b:Bool} (h:b=false):CB false=CB b:=by rw [h]
theorem bqEnt (a b:Ent):(eqS a.path b.path&&(eqB a.dir b.dir&&(eqS a.data b.data&&true)))=decide (a=b):=by
 cases a; cases b; rw [Bool.eq_iff_iff]; simp [zS,zL]
theorem bqMark (a b:Mark):(eqS a.path b.path&&(eqI a.kind b.kind&&(eqS a.data b.data&&true)))=decide (a=b):=by
 cases a; cases b; rw [Bool.eq_iff_iff]; simp [zS,zP]
theorem bqOp (a b:Op):(eqI a.kind b.kind&&(eqS a.path b.path&&(eqS a.dest b.dest&&(eqS a.data b.data&&true))))=decide (a=b):=by
 cases a; cases b; rw [Bool.eq_iff_iff]; simp [zS,zP]
theorem bqLease (a b:Lease):(eqI a.who b.who&&(eqS a.path b.path&&(eqI a.num b.num&&(eqI a.til b.til&&true))))=decide (a=b):=by
 cases a; cases b; rw [Bool.eq_iff_iff]; simp [zS,zP]
theorem bqHold (a b:Hold):(eqS a.path b.path&&(eqB a.has b.has&&(eqS a.ent.path b.ent.path&&(eqB a.ent.dir b.ent.dir&&(eqS a.ent.data b.ent.data&&(eqI a.num b.num&&(eqI a.til b.til&&true)))))))=decide (a=b):=by
 obtain ⟨_,_,⟨_,_,_⟩,_,_⟩:=a; obtain ⟨_,_,⟨_,_,_⟩,_,_⟩:=b; rw [Bool.eq_iff_iff]; simp [zS,zP,zL,and_assoc]
theorem bqMsg (a b:Msg):(eqI a.kind b.kind&&(eqI a.who b.who&&(eqS a.hold.path b.hold.path&&(eqB a.hold.has b.hold.has&&(eqS a.hold.ent.path b.hold.ent.path&&(eqB a.hold.ent.dir b.hold.ent.dir&&(eqS a.hold.ent.data b.hold.ent.data&&(eqI a.hold.num b.hold.num&&(eqI a.hold.til b.hold.til&&true)))))))))=decide (a=b):=by
 obtain ⟨_,_,⟨_,_,⟨_,_,_⟩,_,_⟩⟩:=a; obtain ⟨_,_,⟨_,_,⟨_,_,_⟩,_,_⟩⟩:=b; rw [Bool.eq_iff_iff]; simp [zS,zP,zL,and_assoc]
theorem y5 {α:Type} {a b:List α} {k:Nat} (ha:k < a.length) (hb:k < b.length) (h:a.take k=b.take k) (he:a[k]=b[k]):a.take (k+1)=b.take (k+1):=by
 rw [List.take_succ_eq_append_getElem ha,List.take_succ_eq_append_getElem hb,h,he]
theorem zU {α:Type} {a b:List α} (hl:a.length=b.length) (h:a.take a.length=b.take a.length):a=b:=by
 rw [List.take_length,hl,List.take_length] at h; exact h
theorem ya {α:Type} {a b:List α} {k:Nat} (ha:k < a.length) (hb:k < b.length) (he:a[k]≠b[k]):a≠b:=by rintro rfl; exact he rfl
theorem yb {α:Type} {a b:List α} (h:a.length≠b.length):a≠b:=by rintro rfl; exact h rfl
theorem tmn {α:Type} {f:α→CV} {t:List α} {k n e:Nat} (h:k < t.length):XB.row ((t.take k).map f++[f t[k]]) n e = .row ((t.take (k+1)).map f) n e:=by
 rw [List.take_succ_eq_append_getElem h,List.map_append]; rfl

theorem zjg {P:Program} {f:FuncId} {fn:Func} {s:ChangeSpec} {c:OpenClaim}
  (h1:(c.wf (OpenSpec.ofChange s))=true)
  (h2:(laidOutB P)=true)
  (h3:(mapsRowed P)=true)
  (h4:(fn.params.all (P.readableRec ·))=true)
  (h5:(namedTie P c.named s.vars)=true)
  (h6:((c.stops==[]))=true)
  (h7:((P.stops==[]))=true)
  (h8:((c.knobs==[]))=true)
  (h9:((P.stopKnobs==[]))=true)
  (h10:((c.inPlace==P.inPlace f))=true)
  (h11:((c.unfollowed==P.unfollowed f))=true)
  (h12:((c.recurses==P.recurses f))=true)
  (h13:((c.named==P.varsNamed f))=true)
  (h14:((c.maps==(fn.params.toList++s.plain.varTypes P).any (P.mapsRec ·)))=true)
  (h15:((c.ifaces==(fn.params.toList++s.plain.varTypes P).any (P.ifacesRec ·)))=true)
  (h16:((c.mapsOut==P.mapsAmong fn.resultTypes.toList))=true)
  (h17:((c.loops==(fn.params.toList++s.plain.varTypes P).any (P.loopsFrom ·)))=true)
  (h18:((c.wideKeys==(fn.params.toList++s.plain.varTypes P++fn.resultTypes.toList).any (P.wideKeysFrom ·)))=true)
  (h19:(s.vars.all (P.varReadable ·))=true)
  (h20:(fn.resultTypes.all (fun t=>P.readableRec t&&decide (t < P.types.size)))=true)
  (h21:((c.ifacesOut==fn.resultTypes.toList.any (P.ifacesRec ·)))=true)
  (h22:((c.loopsOut==fn.resultTypes.toList.any (P.loopsFrom ·)))=true)
  (h23:((c.plainKeys==P.plainKeys))=true)
  (h24:(c.shortTexts.isNone)=true)
  (h25:(P.stopsHeard)=true)
  (h26:(P.mayEnter)=true)
  (h27:((c.lifted==P.liftsFinal))=true)
  (h28:((P.make==some c.make))=true)
  (h29:(c.kinds==[])=true)
  (h30:((c.pinned==c.pinnedBy))=true)
  (h31:((c.veiled==(fn.params.toList++s.plain.varTypes P++fn.resultTypes.toList).any (P.veiledRec ·)))=true)
  (h32:(c.veiledFits P fn.params.toList (fn.params.toList++s.plain.varTypes P++fn.resultTypes.toList))=true)
  (h0:c.domain.isEmpty=true):joinedFacts P f fn s c=true:=by
 unfold joinedFacts
 rw [h0,if_pos rfl]
 rw [h1,h2,h3,h4,h5,h6,h7,h8,h9,h10,h11,h12,h13,h14,h15,h16,h17,h18,h19,h20,h21,h22,h23,h24,h25,h26,h27,h28,h29,h30,h31,h32]
 rfl

def cut (c:UInt8):Str→List Str
 | []=>[[]]
 | b::t=>if b=c then []::cut c t else match cut c t with
  | []=>[[b]]
  | h::r=>(b::h)::r
theorem zdB (c:UInt8):∀ s,cut c s≠[]
 | []=>by simp [cut]
 | b::t=>by
  unfold cut
  split
  ·simp
  ·split<;>simp
theorem zdC {c:UInt8}:∀ {s:Str},c ∉ s→cut c s=[s]
 | [],_=>rfl
 | b::t,h=>by
  simp only [List.mem_cons,not_or] at h
  unfold cut
  rw [if_neg (fun e=>h.1 e.symm),zdC h.2]
theorem zdy {c:UInt8}:∀ {a:Str} (b:Str),c ∉ a→cut c (a++c::b)=a::cut c b
 | [],b,_=>by simp [cut]
 | x::a,b,h=>by
  simp only [List.mem_cons,not_or] at h
  rw [List.cons_append,cut,if_neg (fun e=>h.1 e.symm),zdy b h.2]
def jn (ns:List Str):Str:=ns.flatMap (47::·)
theorem zi8:∀ (s:Str),jn (cut 47 s)=47::s
 | []=>rfl
 | b::t=>by
  have ih:=zi8 t
  unfold cut
  split
  ·rename_i hb; subst hb; simp only [jn,List.flatMap_cons] at ih ⊢; rw [ih]; rfl
  ·split
   ·rename_i hc; exact absurd hc (zdB _ _)
   ·rename_i x r hc
    rw [hc] at ih
    simp only [jn,List.flatMap_cons,List.cons_append,List.cons.injEq,true_and] at ih ⊢
    rw [ih]
theorem zdz:∀ {n:Str} {ns:List Str},(∀ x∈n::ns,(47:UInt8) ∉ x)→cut 47 (n++jn ns)=n::ns
 | n,[],h=>by simp [jn]; exact zdC (h n (by simp))
 | n,m::ns,h=>by
  have:jn (m::ns)=47::(m++jn ns):=rfl
  rw [this,zdy _ (h n (by simp)),zdz fun x hx=>h x (by simp at hx ⊢; exact .inr hx)]
def lower (b:UInt8):Bool:=97≤b.toNat&&b.toNat≤122
def nameOk (n:Str):Bool:=n.all lower&&(1≤n.length&&n.length≤3)
theorem zkw {n:Str} (h:nameOk n=true):(47:UInt8) ∉ n:=by
 intro hm
 simp only [nameOk,Bool.and_eq_true,List.all_eq_true] at h
 have:=h.1 _ hm
 simp [lower] at this
def names (s:Str):List Str:=if s.length < 2∨s.head? ≠ some 47 then [] else cut 47 s.tail
def pOk (s:Str):Bool:=s.length≤12&&((names s).all nameOk&&(1≤(names s).length&&(names s).length≤3))
theorem zlv {s:Str}:pOk s=true↔∃ ns:List Str,(1≤ns.length∧ns.length≤3)∧(∀ n∈ns,nameOk n=true)∧s=jn ns:=by
 constructor
 ·intro h
  simp only [pOk,Bool.and_eq_true,decide_eq_true_eq,List.all_eq_true] at h
  obtain ⟨_,h1,h2,h3⟩:=h
  refine ⟨names s,⟨h2,h3⟩,h1,?_⟩
  unfold names at h2 ⊢
  split at h2
  ·simp at h2
  ·rename_i hc
   rw [if_neg hc,zi8]
   cases s with
   | nil=>simp at hc
   | cons b t=>simp at hc; simp [hc.2]
 ·rintro ⟨ns,⟨h1,h2⟩,h3,rfl⟩
  cases ns with
  | nil=>simp at h1
  | cons n ns =>
   have hno:∀ x∈n::ns,(47:UInt8) ∉ x:=fun x hx=>zkw (h3 x hx)
   have e:jn (n::ns)=47::(n++jn ns):=rfl
   have hlen:∀ (ns:List Str),(∀ n∈ns,nameOk n=true)→(jn ns).length≤4 * ns.length:=by
    intro ns
    induction ns with
    | nil=>intro _; simp [jn]
    | cons a l ih =>
     intro h
     have:=ih fun n hn=>h n (by simp [hn])
     have ha:=h a (by simp)
     simp only [nameOk,Bool.and_eq_true,decide_eq_true_eq] at ha
     have e:jn (a::l)=47::(a++jn l):=rfl
     rw [e]; simp; omega
   have hn:=h3 n (by simp)
   simp only [nameOk,Bool.and_eq_true,decide_eq_true_eq] at hn
   have hnm:names (jn (n::ns))=n::ns:=by
    unfold names
    rw [e]
    rw [if_neg (by simp; omega)]
    exact zdz hno
   simp only [pOk,Bool.and_eq_true,decide_eq_true_eq,List.all_eq_true,hnm]
   have:=hlen _ h3
   exact ⟨by omega,h3,h1,h2⟩
theorem zkx {ns:List Str} (h1:1≤ns.length) (h3:∀ n∈ns,nameOk n=true):names (jn ns)=ns:=by
 cases ns with
 | nil=>simp at h1
 | cons n ns =>
  have hno:∀ x∈n::ns,(47:UInt8) ∉ x:=fun x hx=>zkw (h3 x hx)
  have e:jn (n::ns)=47::(n++jn ns):=rfl
  have hn:=h3 n (by simp)
  simp only [nameOk,Bool.and_eq_true,decide_eq_true_eq] at hn
  unfold names
  rw [e,if_neg (by simp; omega)]
  exact zdz hno
theorem zi7 (a b:List Str):jn (a++b)=jn a++jn b:=by simp [jn]
theorem yr {s:Str} (h:pOk s=true):(1≤(names s).length∧(names s).length≤3)∧(∀ n∈names s,nameOk n=true)∧s=jn (names s):=by
 obtain ⟨ns,h1,h2,rfl⟩:=zlv.1 h
 rw [zkx h1.1 h2]
 exact ⟨h1,h2,rfl⟩
theorem yq {s:Str} (h:pOk s=true):2≤s.length∧s.length≤12∧s.head? = some 47:=by
 have h12:s.length≤12:=by simp only [pOk,Bool.and_eq_true,decide_eq_true_eq] at h; exact h.1
 obtain ⟨⟨h1,_⟩,_,_⟩:=yr h
 unfold names at h1
 split at h1
 ·simp at h1
 ·rename_i hc; simp only [not_or,Nat.not_lt,ne_eq,Classical.not_not] at hc; exact ⟨hc.1,h12,hc.2⟩
def pUp (s:Str):Str:=if pOk s then (if (names s).length=1 then [47] else jn (names s).dropLast) else []
def pName (s:Str):Str:=if pOk s then (names s).getLast?.getD [] else []
def und (s d:Str):Bool:=d==[47]||(d++[47]).isPrefixOf s
def pMove (s f t:Str):Option Str:=if (pOk s&&pOk f&&pOk t)=true then (if (s != f&&!und s f)=true then some s else if pOk (t++s.drop f.length)=true then some (t++s.drop f.length) else none) else none
def eOpt:Option Str→CV
 | none => .tup [CS [],CB false]
 | some s => .tup [CS s,CB true]
theorem yt {s:Str} (h:pOk s=true):∃ a l,s=a++47::l∧(47:UInt8) ∉ l∧a=jn (names s).dropLast∧(names s).getLast? = some l∧nameOk l=true∧(a=[]↔(names s).length=1)∧pName s=l∧pUp s=(if a=[] then [47] else a):=by
 obtain ⟨⟨h1,h2⟩,h3,h4⟩:=yr h
 obtain ⟨l,hl⟩:∃ l,(names s).getLast? = some l:=by
  cases hn:names s with
  | nil=>rw [hn] at h1; simp at h1
  | cons x r=>exact ⟨_,List.getLast?_eq_some_getLast (by simp)⟩
 have hsp:names s=(names s).dropLast++[l]:=by
  obtain ⟨hne,e⟩:=List.getLast?_eq_some_iff.1 hl
  rw [e]; simp
 have hlm:l∈names s:=by rw [hsp]; simp
 have ha:(jn (names s).dropLast=[]↔(names s).length=1):=by
  cases hd:(names s).dropLast with
  | nil =>
   have:(names s).length=1:=by rw [hsp,hd]; rfl
   simp [jn,this]
  | cons x r =>
   have:(names s).length=r.length+2:=by rw [hsp,hd]; simp
   simp [jn,this]
 refine ⟨jn (names s).dropLast,l,?_,zkw (h3 l hlm),rfl,hl,h3 l hlm,ha,?_,?_⟩
 ·have e:jn (names s)=jn (names s).dropLast++jn [l]:=by rw [← zi7,← hsp]
  rw [h4.symm] at e
  simpa [jn] using e
 ·simp [pName,h,hl]
 ·unfold pUp
  rw [if_pos h]
  by_cases hc:(names s).length=1
  ·rw [if_pos hc,if_pos (ha.2 hc)]
  ·rw [if_neg hc,if_neg (fun e=>hc (ha.1 e))]
theorem y4 {α:Type} {q:α→Bool} {l:List α} {k:Nat} (h:k < l.length) (h1:(l.take k).all q=true) (h2:q l[k]=true):(l.take (k+1)).all q=true:=by
 rw [List.take_succ_eq_append_getElem h,List.all_append,h1]; simp [h2]
theorem zf {α:Type} {q:α→Bool} {l:List α} {k:Nat} (h:k < l.length) (h2:q l[k]=false):l.all q=false:=by
 rw [List.all_eq_false]; exact ⟨l[k],List.getElem_mem h,by simp [h2]⟩

theorem qO (b:Str):ltS [] b=!b.isEmpty:=by rw [qK]; cases b<;>rfl
theorem zjZ (x:UInt8) (a:Str):ltS (x::a) []=false:=by rw [qK]; rfl
theorem qJ (x y:UInt8) (a b:Str):ltS (x::a) (y::b)=(x < y||(x==y&&ltS a b)):=by rw [qK,qK]; rfl
theorem qM:∀ (a:Str),ltS a a=false
 | []=>by rw [qO]; rfl
 | x::a=>by rw [qJ,qM a]; simp
theorem qP:∀ {a b c:Str},ltS a b=true→ltS b c=true→ltS a c=true
 | [],b,[],h1,h2=>by cases b with
  | nil=>rw [qM] at h1; cases h1
  | cons y b=>rw [zjZ] at h2; cases h2
 | [],_,z::c,_,_=>by rw [qO]; rfl
 | x::a,[],c,h1,_=>by rw [zjZ] at h1; cases h1
 | x::a,y::b,[],_,h2=>by rw [zjZ] at h2; cases h2
 | x::a,y::b,z::c,h1,h2=>by
  rw [qJ] at h1 h2 ⊢
  simp only [Bool.or_eq_true,Bool.and_eq_true,decide_eq_true_eq,beq_iff_eq] at h1 h2 ⊢
  simp only [UInt8.lt_iff_toNat_lt] at h1 h2 ⊢
  rcases h1 with h1 | ⟨rfl,h1⟩<;>rcases h2 with h2 | ⟨rfl,h2⟩
  ·left; omega
  ·left; exact h1
  ·left; exact h2
  ·right; exact ⟨rfl,qP h1 h2⟩
theorem zj1:∀ (a b:Str),a=b∨ltS a b=true∨ltS b a=true
 | [],[] => .inl rfl
 | [],y::b=>by rw [qO]; simp
 | x::a,[]=>by rw [qO (x::a)]; simp
 | x::a,y::b=>by
  rw [qJ,qJ]
  rcases zj1 a b with h | h | h
  ·subst h
   simp only [Bool.or_eq_true,decide_eq_true_eq,Bool.and_eq_true,beq_iff_eq,UInt8.lt_iff_toNat_lt]
   rcases Nat.lt_trichotomy x.toNat y.toNat with h | h | h
   ·right; left; left; exact h
   ·left; rw [UInt8.toNat_inj.1 h]
   ·right; right; left; exact h
  ·simp only [Bool.or_eq_true,decide_eq_true_eq,Bool.and_eq_true,beq_iff_eq,UInt8.lt_iff_toNat_lt]
   rcases Nat.lt_trichotomy x.toNat y.toNat with h' | h' | h'
   ·right; left; left; exact h'
   ·right; left; right; exact ⟨UInt8.toNat_inj.1 h',h⟩
   ·right; right; left; exact h'
  ·simp only [Bool.or_eq_true,decide_eq_true_eq,Bool.and_eq_true,beq_iff_eq,UInt8.lt_iff_toNat_lt]
   rcases Nat.lt_trichotomy x.toNat y.toNat with h' | h' | h'
   ·right; left; left; exact h'
   ·right; right; right; exact ⟨(UInt8.toNat_inj.1 h').symm,h⟩
   ·right; right; left; exact h'
theorem qI {a b:Str} (h:ltS a b=true):ltS b a=false:=by
 cases h':ltS b a with
 | false=>rfl
 | true=>have:=qP h h'; rw [qM] at this; cases this
theorem qN {a b:Str} (h:ltS a b=true):a≠b:=by rintro rfl; rw [qM] at h; cases h
theorem qL {a b:Str} (h:ltS a b=false):a=b∨ltS b a=true:=by
 rcases zj1 a b with h' | h' | h'
 ·exact .inl h'
 ·rw [h] at h'; cases h'
 ·exact .inr h'
theorem zjY (a:Str) (x:UInt8) (r:Str):ltS a (a++x::r)=true:=by
 induction a with
 | nil=>rw [qO]; rfl
 | cons y a ih=>rw [List.cons_append,qJ,ih]; simp
def alnum (b:UInt8):Bool:=lower b||(48≤b.toNat&&b.toNat≤57)
def dataOk (s:Str):Bool:=s.all alnum&&s.length≤6
def find (t:List Ent) (p:Str):Option Ent:=t.find? fun e=>e.path==p
def idx (t:List Ent) (p:Str):Int:=match t.findIdx? (fun e=>e.path==p) with
 | some i=>i
 | none => -1
def rootE:Ent:=⟨[47],true,[]⟩
def noE:Ent:=⟨[],false,[]⟩
def get (t:List Ent) (p:Str):Option Ent:=if p=[47] then some rootE else find t p
def isDir (t:List Ent) (p:Str):Bool:=match get t p with
 | some e=>e.dir
 | none=>false
def eEntO:Option Ent→CV
 | none => .tup [eEnt noE,CB false]
 | some e => .tup [eEnt e,CB true]
theorem ziN (t:List Ent) (p:Str):(idx t p = -1∧find t p=none∧∀ e∈t,e.path≠p)∨∃ j,∃ h:j < t.length,idx t p=(j:Int)∧find t p=some t[j]∧t[j].path=p∧∀ i (h':i < t.length),i < j→t[i].path≠p:=by
 unfold idx find
 cases hf:t.findIdx? (fun e=>e.path==p) with
 | none =>
  left
  have hn:=List.findIdx?_eq_none_iff.1 hf
  refine ⟨rfl,List.find?_eq_none.2 fun e he=>by simpa using hn e he,fun e he=>by simpa using hn e he⟩
 | some j =>
  right
  obtain ⟨h,h1,h2⟩:=List.findIdx?_eq_some_iff_getElem.1 hf
  refine ⟨j,h,rfl,?_,by simpa using h1,fun i h' hi=>by simpa using h2 i hi⟩
  rw [List.find?_eq_some_iff_getElem]
  exact ⟨h1,j,h,rfl,fun i hi=>by simpa using h2 i hi⟩
theorem ziO {t:List Ent} {p:Str} {k:Nat} (h:k < t.length) (hp:t[k].path=p) (hn:∀ i (h':i < t.length),i < k→t[i].path≠p):idx t p=(k:Int):=by
 rcases ziN t p with ⟨_,_,h3⟩ | ⟨j,hj,h1,_,h2,h3⟩
 ·exact absurd hp (h3 _ (List.getElem_mem h))
 ·rcases Nat.lt_trichotomy j k with h' | h' | h'
  ·exact absurd h2 (hn j hj h')
  ·rw [h1,h']
  ·exact absurd hp (h3 k h h')
theorem ziP {t:List Ent} {p:Str} (hn:∀ i (h':i < t.length),t[i].path≠p):idx t p = -1:=by
 rcases ziN t p with ⟨h,_⟩ | ⟨j,hj,_,_,h2,_⟩
 ·exact h
 ·exact absurd h2 (hn j hj)
theorem jL {t:List Ent} {p:Str} {e:Ent} (h:find t p=some e):e.path=p∧e∈t:=by
 unfold find at h
 exact ⟨by simpa using List.find?_some h,List.mem_of_find?_eq_some h⟩
def ok1 (pre:List Ent) (e:Ent):Bool:=pOk e.path&&(dataOk e.data&&(!(e.dir&&e.data != [])&&((match pre.getLast? with
 | none=>true
 | some l=>ltS l.path e.path)&&isDir pre (pUp e.path))))
def okA:List Ent→List Ent→Bool
 | _,[]=>true
 | pre,e::r=>ok1 pre e&&okA (pre++[e]) r
def tOk (t:List Ent):Bool:=t.length≤16&&okA [] t
theorem zkS:∀ {r pre:List Ent},okA pre r=true↔∀ j (h:j < r.length),ok1 (pre++r.take j) r[j]=true
 | [],pre=>by simp [okA]
 | e::r,pre=>by
  rw [okA,Bool.and_eq_true,zkS (r:=r)]
  constructor
  ·rintro ⟨h1,h2⟩ j hj
   cases j with
   | zero=>rw [List.take_zero,List.append_nil]; exact h1
   | succ j=>have:=h2 j (by simpa using hj); simpa using this
  ·intro h
   refine ⟨by have:=h 0 (by simp); rw [List.take_zero,List.append_nil] at this; exact this,fun j hj=>?_⟩
   have:=h (j+1) (by simpa using hj)
   simpa using this
theorem okA0 {t:List Ent}:okA [] t=true↔∀ j (h:j < t.length),ok1 (t.take j) t[j]=true:=by
 rw [zkS]; simp

theorem zoG {α:Type} {q:α→Bool}:∀ {t:List α} {k:Nat},(t.take k).all q=true→(∀ h:k < t.length,q t[k]=false)→t.takeWhile q=t.take k∧t.dropWhile q=t.drop k
 | [],_,_,_=>by simp
 | x::t,0,_,h2=>by
  have:=h2 (by simp)
  simp only [List.getElem_cons_zero] at this
  simp [this]
 | x::t,k+1,h1,h2=>by
  simp only [List.take_succ_cons,List.all_cons,Bool.and_eq_true] at h1
  have:=zoG (t:=t) (k:=k) h1.2 fun h=>by have:=h2 (by simpa using h); simpa using this
  simp [h1.1,this.1,this.2]
def putG {α:Type} (key:α→Str) (t:List α) (e:α):List α :=
 t.takeWhile (fun x=>ltS (key x) (key e))++e::(match t.dropWhile (fun x=>ltS (key x) (key e)) with
  | []=>[]
  | x::r=>if key x=key e then r else x::r)
abbrev put:=putG Ent.path
abbrev lput:=putG Mark.path
theorem yz {α:Type} {key:α→Str} {t:List α} {e:α}:(putG key t e).length≤t.length+1:=by
 have h:=congrArg List.length (List.takeWhile_append_dropWhile (p:=fun x=>ltS (key x) (key e)) (l:=t))
 rw [List.length_append] at h
 unfold putG
 rw [List.length_append,List.length_cons]
 split
 ·simp; omega
 ·rename_i hc
  rw [hc] at h
  split<;>simp at h ⊢<;>omega
theorem zlK {α:Type} {key:α→Str} {t:List α} {e:α} {k:Nat} (hk:¬ k < t.length) (h1:(t.take k).all (fun x=>ltS (key x) (key e))=true):putG key t e=t.take k++[e]:=by
 obtain ⟨e1,e2⟩:=zoG h1 fun h=>absurd h hk
 unfold putG
 rw [e1,e2,List.drop_of_length_le (by omega)]
theorem zlM {α:Type} {key:α→Str} {t:List α} {e:α} {k:Nat} (hk:k < t.length) (h1:(t.take k).all (fun x=>ltS (key x) (key e))=true) (h2:ltS (key t[k]) (key e)=false) (h3:key t[k]≠key e):putG key t e=t.take k++e::t.drop k:=by
 obtain ⟨e1,e2⟩:=zoG h1 fun _=>h2
 unfold putG
 rw [e1,e2,List.drop_eq_getElem_cons hk]
 simp only [if_neg h3]
theorem zlH {α:Type} {key:α→Str} {t:List α} {e:α} {k:Nat} (hk:k < t.length) (h1:(t.take k).all (fun x=>ltS (key x) (key e))=true) (h2:ltS (key t[k]) (key e)=false) (h3:key t[k]=key e):putG key t e=t.take k++e::t.drop (k+1):=by
 obtain ⟨e1,e2⟩:=zoG h1 fun _=>h2
 unfold putG
 rw [e1,e2,List.drop_eq_getElem_cons hk]
 simp only [if_pos h3]
def both (a b:List Ent):List Ent:=b.foldl put a
def tudP (a b:List Ent) (e:Ent):Bool:=decide (get a e.path≠get b e.path)
def turned (a b:List Ent):List Str:=((both a b).filter (tudP a b)).map (·.path)
def mfind (l:List Mark) (p:Str):Option Mark:=l.find? fun m=>m.path==p
def midx (l:List Mark) (p:Str):Int:=match l.findIdx? (fun m=>m.path==p) with
 | some i=>i
 | none => -1
theorem zkn (t:List Mark) (p:Str):(midx t p = -1∧mfind t p=none∧∀ e∈t,e.path≠p)∨∃ j,∃ h:j < t.length,midx t p=(j:Int)∧mfind t p=some t[j]∧t[j].path=p∧∀ i (h':i < t.length),i < j→t[i].path≠p:=by
 unfold midx mfind
 cases hf:t.findIdx? (fun e=>e.path==p) with
 | none =>
  left
  have hn:=List.findIdx?_eq_none_iff.1 hf
  refine ⟨rfl,List.find?_eq_none.2 fun e he=>by simpa using hn e he,fun e he=>by simpa using hn e he⟩
 | some j =>
  right
  obtain ⟨h,h1,h2⟩:=List.findIdx?_eq_some_iff_getElem.1 hf
  refine ⟨j,h,rfl,?_,by simpa using h1,fun i h' hi=>by simpa using h2 i hi⟩
  rw [List.find?_eq_some_iff_getElem]
  exact ⟨h1,j,h,rfl,fun i hi=>by simpa using h2 i hi⟩
theorem zko {t:List Mark} {p:Str} {k:Nat} (h:k < t.length) (hp:t[k].path=p) (hn:∀ i (h':i < t.length),i < k→t[i].path≠p):midx t p=(k:Int):=by
 rcases zkn t p with ⟨_,_,h3⟩ | ⟨j,hj,h1,_,h2,h3⟩
 ·exact absurd hp (h3 _ (List.getElem_mem h))
 ·rcases Nat.lt_trichotomy j k with h' | h' | h'
  ·exact absurd h2 (hn j hj h')
  ·rw [h1,h']
  ·exact absurd hp (h3 k h h')
theorem zkp {t:List Mark} {p:Str} (hn:∀ i (h':i < t.length),t[i].path≠p):midx t p = -1:=by
 rcases zkn t p with ⟨h,_⟩ | ⟨j,hj,_,_,h2,_⟩
 ·exact h
 ·exact absurd h2 (hn j hj)
theorem qW {t:List Mark} {p:Str} {e:Mark} (h:mfind t p=some e):e.path=p∧e∈t:=by
 unfold mfind at h
 exact ⟨by simpa using List.find?_some h,List.mem_of_find?_eq_some h⟩
def kind (l:List Mark) (p:Str):Int:=match mfind l p with
 | some m=>m.kind
 | none=>0
def bare (l:List Mark) (p:Str):Bool:=l.any fun m=>m.kind==4&&und p m.path
def inD (l:List Mark) (p:Str):Bool:=pUp p==[47]||(kind l (pUp p)==2||kind l (pUp p)==4)
def hidP (p:Str) (m:Mark):Bool:=(m.path==p&&m.kind != 2)||(m.kind != 2&&und p m.path)
def hides (l:List Mark) (p:Str):Bool:=l.any (hidP p)
def mlast (pre:List Mark) (p:Str):Bool:=match pre.getLast? with
 | none=>true
 | some l=>ltS l.path p
def mok1 (pre:List Mark) (m:Mark):Bool:=(decide (1≤m.kind)&&decide (m.kind≤4))&&(pOk m.path&&(dataOk m.data&&(!(m.kind != 1&&m.data != [])&&(mlast pre m.path&&(inD pre m.path&&!(decide (2 < m.kind)&&bare pre m.path))))))
def mokA:List Mark→List Mark→Bool
 | _,[]=>true
 | pre,e::r=>mok1 pre e&&mokA (pre++[e]) r
def lOk (l:List Mark):Bool:=l.length≤32&&mokA [] l
theorem zkr:∀ {r pre:List Mark},mokA pre r=true↔∀ j (h:j < r.length),mok1 (pre++r.take j) r[j]=true
 | [],pre=>by simp [mokA]
 | e::r,pre=>by
  rw [mokA,Bool.and_eq_true,zkr (r:=r)]
  constructor
  ·rintro ⟨h1,h2⟩ j hj
   cases j with
   | zero=>rw [List.take_zero,List.append_nil]; exact h1
   | succ j=>have:=h2 j (by simpa using hj); simpa using this
  ·intro h
   refine ⟨by have:=h 0 (by simp); rw [List.take_zero,List.append_nil] at this; exact this,fun j hj=>?_⟩
   have:=h (j+1) (by simpa using hj)
   simpa using this
theorem mokA0 {t:List Mark}:mokA [] t=true↔∀ j (h:j < t.length),mok1 (t.take j) t[j]=true:=by
 rw [zkr]; simp
def onP (out:List Ent) (m:Mark):List Ent:=if m.kind=1 then put out ⟨m.path,false,m.data⟩ else if m.kind=2∨m.kind=4 then put out ⟨m.path,true,[]⟩ else out
def onRaw (l:List Mark) (t:List Ent):List Ent:=l.foldl onP (t.filter fun e=>!hides l e.path)
def lOn (l:List Mark) (t:List Ent):Option (List Ent):=if (lOk l&&tOk t)=true then (if (onRaw l t).length≤16 then some (onRaw l t) else none) else none
def eEntsO:Option (List Ent)→CV
 | none => .tup [eEnts [],CB false]
 | some t => .tup [eEnts t,CB true]
theorem zd1 (o:Option (List Ent)):eEntsO o = .tup [eEnts (o.getD []),CB o.isSome]:=by cases o<;>rfl
def upsN:Nat→Str→List Str
 | 0,_=>[]
 | n+1,p=>if pUp p=[47] then [] else pUp p::upsN n (pUp p)
def upsP (l:List Mark) (u:Str):List Mark:=if kind l u=0 then lput l ⟨u,2,[]⟩ else l
def ups (l:List Mark) (p:Str):List Mark:=(upsN 3 p).foldl upsP l
def difM (to:List Ent) (p:Str):Option Mark:=match get to p with
 | some e=>some ⟨p,if e.dir=true then 2 else 1,e.data⟩
 | none=>if isDir to (pUp p)=true then some ⟨p,3,[]⟩ else none
def difP (to:List Ent) (out:List Mark) (p:Str):List Mark:=match difM to p with
 | some m=>ups (lput out m) p
 | none=>out
def diff (a b:List Ent):List Mark:=(turned a b).foldl (difP b) []
def lowerA:List (List Mark)→List Ent→Option (List Ent)
 | [],t=>some t
 | l::r,t=>match lOn l t with
  | some t'=>lowerA r t'
  | none=>none
def lower4 (o:Over):Option (List Ent):=if tOk o.base=true∧o.layers.length≤4 then lowerA o.layers o.base else none
def view4 (o:Over):Option (List Ent):=match lower4 o with
 | some t=>lOn o.upper t
 | none=>none
def oOk (o:Over):Bool:=match lower4 o,view4 o with
 | some t,some x=>decide (o.upper=diff t x)
 | _,_=>false
theorem zJ (o:Option Ent):eEntO o = .tup [eEnt (o.getD noE),CB o.isSome]:=by cases o<;>rfl
theorem zm5 {α:Type} {a b:Option α} {d:α}:a=b↔a.isSome=b.isSome∧a.getD d=b.getD d:=by cases a<;>cases b<;>simp
theorem jV {α β:Type} {f:β→α→β} {z:β} {l:List α} {k:Nat} (h:k < l.length):(l.take (k+1)).foldl f z=f ((l.take k).foldl f z) l[k]:=by
 rw [List.take_succ_eq_append_getElem h,List.foldl_append]; rfl
theorem jI {α:Type} {q:α→Bool} {l:List α} {k:Nat} (h:k < l.length) (hq:q l[k]=true):(l.take (k+1)).filter q=(l.take k).filter q++[l[k]]:=by
 rw [List.take_succ_eq_append_getElem h,List.filter_append]; simp [hq]
theorem jH {α:Type} {q:α→Bool} {l:List α} {k:Nat} (h:k < l.length) (hq:q l[k]=false):(l.take (k+1)).filter q=(l.take k).filter q:=by
 rw [List.take_succ_eq_append_getElem h,List.filter_append]; simp [hq]
theorem zg8 {α:Type} {q:α→Bool} {l:List α} {k:Nat}:((l.take k).filter q).length≤l.length:=by
 have h1:=List.length_filter_le q (l.take k)
 have h2:=List.length_take_le' k l
 omega
theorem jW {α:Type} {key:α→Str}:∀ (l:List α) (t:List α),(l.foldl (putG key) t).length≤t.length+l.length
 | [],t=>by simp
 | e::l,t=>by
  have h:=jW (key:=key) l (putG key t e)
  have h2:=yz (key:=key) (t:=t) (e:=e)
  simp only [List.foldl_cons,List.length_cons]
  omega
theorem zhU {α:Type} {key:α→Str} (l:List α) (t:List α) (k:Nat):((l.take k).foldl (putG key) t).length≤t.length+l.length:=by
 have h:=jW (key:=key) (l.take k) t
 have h2:=List.length_take_le' k l
 omega
theorem yu {p:Str} (h:pOk p=true) (h2:pUp p≠[47]):pOk (pUp p)=true∧names (pUp p)=(names p).dropLast∧(names (pUp p)).length+1=(names p).length:=by
 obtain ⟨⟨h1,h3⟩,h4,_⟩:=yr h
 have hl:(names p).length≠1:=by
  intro e; unfold pUp at h2; rw [if_pos h,if_pos e] at h2; exact h2 rfl
 have e:pUp p=jn (names p).dropLast:=by unfold pUp; rw [if_pos h,if_neg hl]
 have hd:∀ n∈(names p).dropLast,nameOk n=true:=fun n hn=>h4 n (List.dropLast_subset _ hn)
 have hdl:(names p).dropLast.length+1=(names p).length:=by rw [List.length_dropLast]; omega
 have hn:names (pUp p)=(names p).dropLast:=by rw [e]; exact zkx (by omega) hd
 exact ⟨zlv.2 ⟨_,⟨by omega,by omega⟩,hd,e⟩,hn,by rw [hn]; exact hdl⟩
theorem zkd {α:Type} {key:α→Str} {t:List α} {e x:α} (h:x∈putG key t e):x=e∨x∈t:=by
 have hs:=List.takeWhile_append_dropWhile (p:=fun x=>ltS (key x) (key e)) (l:=t)
 unfold putG at h
 rw [List.mem_append,List.mem_cons] at h
 rw [← hs,List.mem_append]
 rcases h with h | h | h
 ·exact .inr (.inl h)
 ·exact .inl h
 ·split at h
  ·cases h
  ·rename_i hc
   rw [hc]
   split at h
   ·exact .inr (.inr (by simp [h]))
   ·exact .inr (.inr h)
theorem zj7 {α:Type} {key:α→Str}:∀ {l:List α} {t:List α} {x:α},x∈l.foldl (putG key) t→x∈l∨x∈t
 | [],_,_,h => .inr h
 | e::l,t,x,h=>by
  rcases zj7 (l:=l) h with h | h
  ·exact .inl (by simp [h])
  ·rcases zkd h with rfl | h
   ·exact .inl (by simp)
   ·exact .inr h
theorem yZ {t:List Ent} (h:tOk t=true):t.length≤16∧∀ j (h:j < t.length),ok1 (t.take j) t[j]=true:=by
 simp only [tOk,Bool.and_eq_true,decide_eq_true_eq] at h
 exact ⟨h.1,okA0.1 h.2⟩
theorem zob {t:List Ent} (h:tOk t=true) {e:Ent} (he:e∈t):pOk e.path=true:=by
 obtain ⟨j,hj,rfl⟩:=List.mem_iff_getElem.1 he
 have:=(yZ h).2 j hj
 simp only [ok1,Bool.and_eq_true] at this
 exact this.1
theorem zoC {a b:List Ent} (ha:tOk a=true) (hb:tOk b=true) {p:Str} (h:p∈turned a b):pOk p=true:=by
 obtain ⟨e,he,rfl⟩:=List.mem_map.1 h
 rcases zj7 (List.mem_filter.1 he).1 with h | h
 ·exact zob hb h
 ·exact zob ha h
theorem zoB {a b:List Ent}:(turned a b).length≤a.length+b.length:=by
 unfold turned
 rw [List.length_map]
 have h1:=List.length_filter_le (tudP a b) (both a b)
 have h2:=jW (key:=Ent.path) b a
 have h3:(both a b).length≤a.length+b.length:=h2
 omega
theorem zoR:∀ (n:Nat) (p:Str),(upsN n p).length≤n
 | 0,_=>by simp [upsN]
 | n+1,p=>by
  unfold upsN
  split
  ·simp
  ·have:=zoR n (pUp p); simp; omega
theorem zoU {l:List Mark} {u:Str}:(upsP l u).length≤l.length+1:=by
 unfold upsP
 split
 ·exact yz
 ·omega
theorem zhV:∀ (us:List Str) (l:List Mark),(us.foldl upsP l).length≤l.length+us.length
 | [],l=>by simp
 | u::us,l=>by
  have h:=zhV us (upsP l u)
  have h2:=zoU (l:=l) (u:=u)
  simp only [List.foldl_cons,List.length_cons]
  omega
theorem zoW {l:List Mark} {p:Str}:(ups l p).length≤l.length+3:=by
 have h:=zhV (upsN 3 p) l
 have h2:=zoR 3 p
 unfold ups
 omega
theorem zdQ {b:List Ent} {out:List Mark} {p:Str}:(difP b out p).length≤out.length+4:=by
 unfold difP
 split
 ·rename_i m _
  have h:=zoW (l:=lput out m) (p:=p)
  have h2:(lput out m).length≤out.length+1:=yz
  omega
 ·omega
theorem zhQ {b:List Ent}:∀ (ps:List Str) (out:List Mark),(ps.foldl (difP b) out).length≤out.length+4 * ps.length
 | [],l=>by simp
 | u::us,l=>by
  have h:=zhQ (b:=b) us (difP b l u)
  have h2:=zdQ (b:=b) (out:=l) (p:=u)
  simp only [List.foldl_cons,List.length_cons]
  omega
theorem zk2 {out:List Ent} {m:Mark}:(onP out m).length≤out.length+1:=by
 unfold onP
 split
 ·exact yz
 ·split
  ·exact yz
  ·omega
theorem zhR:∀ (l:List Mark) (out:List Ent),(l.foldl onP out).length≤out.length+l.length
 | [],out=>by simp
 | m::l,out=>by
  have h:=zhR l (onP out m)
  have h2:=zk2 (out:=out) (m:=m)
  simp only [List.foldl_cons,List.length_cons]
  omega
theorem qp {l:List Mark} {t t':List Ent} (h:lOn l t=some t'):t'.length≤16∧lOk l=true∧tOk t=true∧t'=onRaw l t:=by
 unfold lOn at h
 split at h
 ·rename_i hc
  simp only [Bool.and_eq_true] at hc
  split at h
  ·cases h; exact ⟨by assumption,hc.1,hc.2,rfl⟩
  ·cases h
 ·cases h

section
variable {α:Type} {key:α→Str}
def Srt (key:α→Str) (l:List α):Prop:=l.Pairwise fun a b=>ltS (key a) (key b)=true
def fnd (key:α→Str) (l:List α) (p:Str):Option α:=l.find? fun e=>key e==p
theorem zhK {p:Str}:fnd key [] p=none:=rfl
theorem jP {x:α} {l:List α} {p:Str}:fnd key (x::l) p=if key x=p then some x else fnd key l p:=by
 unfold fnd
 rw [List.find?_cons]
 by_cases h:key x=p
 ·simp [h]
 ·have e:(key x==p)=false:=by simpa using h
  rw [e,if_neg h]
theorem jU {l:List α} {p:Str} {e:α} (h:fnd key l p=some e):key e=p∧e∈l:=by
 unfold fnd at h
 exact ⟨by simpa using List.find?_some h,List.mem_of_find?_eq_some h⟩
theorem jS {l:List α} {p:Str}:fnd key l p=none↔∀ e∈l,key e≠p:=by
 unfold fnd; simp
theorem jR {l:List α} (hs:Srt key l) {e:α} (h:e∈l):fnd key l (key e)=some e:=by
 induction l with
 | nil=>cases h
 | cons x l ih =>
  rw [jP]
  unfold Srt at hs
  rw [List.pairwise_cons] at hs
  rcases List.mem_cons.1 h with rfl | h
  ·simp
  ·rw [if_neg (qN (hs.1 e h)),ih hs.2 h]
theorem jQ {l:List α} (hs:Srt key l) {e:α}:e∈l↔fnd key l (key e)=some e:=⟨jR hs,fun h=>(jU h).2⟩
theorem zhD {a b:List α} {p:Str}:fnd key (a++b) p=(fnd key a p).or (fnd key b p):=by
 unfold fnd; rw [List.find?_append]
theorem yN {a b:List α} (ha:Srt key a) (hb:Srt key b) (h:∀ p,fnd key a p=fnd key b p):a=b:=by
 induction a generalizing b with
 | nil =>
  cases b with
  | nil=>rfl
  | cons y b=>have:=h (key y); rw [jP,if_pos rfl,zhK] at this; cases this
 | cons x a ih =>
  cases b with
  | nil=>have:=h (key x); rw [jP,if_pos rfl,zhK] at this; cases this
  | cons y b =>
   unfold Srt at ha hb
   rw [List.pairwise_cons] at ha hb
   have hxy:key x=key y:=by
    apply Classical.byContradiction; intro hne
    have h1:=h (key x)
    rw [jP,if_pos rfl,jP,if_neg (fun e=>hne e.symm)] at h1
    have h2:=h (key y)
    rw [jP,if_neg hne,jP,if_pos rfl] at h2
    have l1:=hb.1 x (jU h1.symm).2
    have l2:=ha.1 y (jU h2).2
    rw [qI l1] at l2; cases l2
   have e:x=y:=by
    have:=h (key x)
    rw [jP,if_pos rfl,jP,if_pos hxy.symm] at this
    exact Option.some.inj this
   subst e
   rw [ih ha.2 hb.2 fun p=>?_]
   have:=h p
   rw [jP,jP] at this
   by_cases hp:key x=p
   ·subst hp
    rw [jS.2 fun e he=>(qN (ha.1 e he)).symm,jS.2 fun e he=>(qN (hb.1 e he)).symm]
   ·rwa [if_neg hp,if_neg hp] at this
theorem yO {l:List α} (hs:Srt key l) (q:α→Bool):Srt key (l.filter q):=List.Pairwise.filter _ hs
theorem zhE {l:List α} (hs:Srt key l) {q:α→Bool} {p:Str}:fnd key (l.filter q) p=(fnd key l p).filter q:=by
 cases h:fnd key l p with
 | none =>
  rw [jS] at h
  exact jS.2 fun e he=>h e (List.mem_filter.1 he).1
 | some e =>
  obtain ⟨h1,h2⟩:=jU h
  subst h1
  rw [Option.filter]
  split
  ·rename_i hq
   exact jR (yO hs q) (List.mem_filter.2 ⟨h2,hq⟩)
  ·rename_i hq
   refine jS.2 fun x hx e'=>?_
   have hx':=List.mem_filter.1 hx
   have:=jR hs hx'.1
   rw [e',h] at this
   cases this
   exact hq hx'.2
theorem zlN {e:α}:putG key [] e=[e]:=rfl
theorem zlJ {x:α} {t:List α} {e:α}:putG key (x::t) e=if ltS (key x) (key e)=true then x::putG key t e else if key x=key e then e::t else e::x::t:=by
 unfold putG
 by_cases h:ltS (key x) (key e)=true
 ·simp [h]
 ·simp [h]
  split<;>rfl
theorem yT {t:List α} {e:α} (hs:Srt key t):Srt key (putG key t e):=by
 induction t with
 | nil=>rw [zlN]; exact List.pairwise_singleton _ _
 | cons x t ih =>
  unfold Srt at hs
  rw [List.pairwise_cons] at hs
  rw [zlJ]
  by_cases h:ltS (key x) (key e)=true
  ·rw [if_pos h]
   refine List.pairwise_cons.2 ⟨fun y hy=>?_,ih hs.2⟩
   rcases zkd hy with rfl | hy
   ·exact h
   ·exact hs.1 y hy
  ·rw [if_neg h]
   by_cases h2:key x=key e
   ·rw [if_pos h2]
    exact List.pairwise_cons.2 ⟨fun y hy=>by rw [← h2]; exact hs.1 y hy,hs.2⟩
   ·rw [if_neg h2]
    have h3:ltS (key e) (key x)=true:=by
     rcases qL (by simpa using h) with h3 | h3
     ·exact absurd h3 h2
     ·exact h3
    refine List.pairwise_cons.2 ⟨fun y hy=>?_,List.pairwise_cons.2 hs⟩
    rcases List.mem_cons.1 hy with rfl | hy
    ·exact h3
    ·exact qP h3 (hs.1 y hy)
theorem jT {t:List α} {e:α} {p:Str}:fnd key (putG key t e) p=if key e=p then some e else fnd key t p:=by
 induction t with
 | nil=>rw [zlN,jP]
 | cons x t ih =>
  rw [zlJ]
  by_cases h:ltS (key x) (key e)=true
  ·rw [if_pos h,jP,ih,jP]
   by_cases hx:key x=p
   ·rw [if_pos hx,if_pos hx,if_neg fun e'=>qN h (hx.trans e'.symm)]
   ·rw [if_neg hx,if_neg hx]
  ·rw [if_neg h]
   by_cases h2:key x=key e
   ·rw [if_pos h2,jP,jP]
    by_cases hx:key e=p
    ·rw [if_pos hx,if_pos hx]
    ·rw [if_neg hx,if_neg hx,if_neg (by rw [h2]; exact hx)]
   ·rw [if_neg h2,jP]
theorem zhT:∀ {l:List α} {t:List α},Srt key t→Srt key (l.foldl (putG key) t)
 | [],_,h=>h
 | _::l,_,h=>zhT (l:=l) (yT h)
theorem yQ {t:List α}:Srt key t↔∀ j (h:j+1 < t.length),ltS (key t[j]) (key t[j+1])=true:=by
 constructor
 ·intro hs j h
  exact List.pairwise_iff_getElem.1 hs j (j+1) (by omega) h (by omega)
 ·intro h
  refine List.pairwise_iff_getElem.2 fun i j hi hj hij=>?_
  obtain ⟨d,rfl⟩:∃ d,j=i+1+d:=⟨j - i - 1,by omega⟩
  induction d with
  | zero=>exact h i hj
  | succ d ih=>exact qP (ih (by omega) (by omega)) (h (i+1+d) hj)
theorem zhM {t:List α} (hs:Srt key t) {j:Nat} (h:j < t.length) {u:Str} (hu:ltS u (key t[j])=true):fnd key (t.take j) u=fnd key t u:=by
 have e:fnd key t u=(fnd key (t.take j) u).or (fnd key (t.drop j) u):=by rw [← zhD,List.take_append_drop]
 have e2:fnd key (t.drop j) u=none:=by
  rw [jS]
  intro e he hek
  obtain ⟨i,hi,rfl⟩:=List.mem_iff_getElem.1 he
  rw [List.getElem_drop] at hek
  rw [List.length_drop] at hi
  by_cases h0:i=0
  ·subst h0
   simp only [Nat.add_zero] at hek
   rw [hek] at hu
   rw [qM] at hu; cases hu
  ·have:=List.pairwise_iff_getElem.1 hs j (j+i) h (by omega) (by omega)
   rw [hek] at this
   rw [qI this] at hu; cases hu
 rw [e,e2]; simp
theorem ZB {t:List α} (hs:Srt key t) {j:Nat} (h:j < t.length) {q:α→Bool} (hq:∀ e∈t,q e=true→ltS (key e) (key t[j])=true):(t.take j).any q=t.any q:=by
 have e:t.any q=((t.take j).any q||(t.drop j).any q):=by rw [← List.any_append,List.take_append_drop]
 have e2:(t.drop j).any q=false:=by
  rw [List.any_eq_false]
  intro x hx hqx
  have hlt:=hq x (List.mem_of_mem_drop hx) hqx
  obtain ⟨i,hi,rfl⟩:=List.mem_iff_getElem.1 hx
  rw [List.getElem_drop] at hlt
  rw [List.length_drop] at hi
  by_cases h0:i=0
  ·subst h0
   simp only [Nat.add_zero] at hlt
   rw [qM] at hlt; cases hlt
  ·have:=List.pairwise_iff_getElem.1 hs j (j+i) h (by omega) (by omega)
   rw [qI this] at hlt; cases hlt
 rw [e,e2]; simp
end

theorem zoN {p:Str} (h:pOk p=true) (hu:pUp p≠[47]):ltS (pUp p) p=true:=by
 obtain ⟨a,l,e,_,_,_,_,_,_,hup⟩:=yt h
 by_cases ha:a=[]
 ·rw [if_pos ha] at hup; exact absurd hup hu
 ·rw [if_neg ha] at hup
  rw [hup]
  conv=>lhs; arg 2; rw [e]
  exact zjY a 47 l
theorem zoK {p d:Str} (h:und p d=true) (hd:d≠[47]):ltS d p=true:=by
 unfold und at h
 simp only [Bool.or_eq_true,beq_iff_eq,List.isPrefixOf_iff_prefix] at h
 rcases h with h | ⟨r,h⟩
 ·exact absurd h hd
 ·rw [← h,List.append_assoc]; exact zjY d 47 r
theorem yh {p:Str} (h:pOk p=true):p≠[47]:=by rintro rfl; have:=(yq h).1; simp at this
def eok (e:Ent):Bool:=pOk e.path&&(dataOk e.data&&!(e.dir&&e.data != []))
theorem y0 {t:List Ent}:tOk t=true↔t.length≤16∧Srt Ent.path t∧(∀ e∈t,eok e=true)∧∀ e∈t,isDir t (pUp e.path)=true:=by
 have key:∀ {j} (h:j < t.length),Srt Ent.path t→pOk t[j].path=true→isDir (t.take j) (pUp t[j].path)=isDir t (pUp t[j].path):=by
  intro j h hs hp
  unfold isDir get
  by_cases hu:pUp t[j].path=[47]
  ·rw [if_pos hu,if_pos hu]
  ·rw [if_neg hu,if_neg hu]
   have:find (t.take j) (pUp t[j].path)=find t (pUp t[j].path):=zhM hs h (zoN hp hu)
   rw [this]
 constructor
 ·intro h
  obtain ⟨h1,h2⟩:=yZ h
  have hs:Srt Ent.path t:=yQ.2 fun j hj=>by
   have:=h2 (j+1) hj
   simp only [ok1,Bool.and_eq_true] at this
   have:=this.2.2.2.1
   have hl:(t.take (j+1)).getLast? = some t[j]:=by
    rw [List.getLast?_take,if_neg (by omega),List.getElem?_eq_getElem (by omega)]; rfl
   rw [hl] at this
   exact this
  refine ⟨h1,hs,fun e he=>?_,fun e he=>?_⟩
  ·obtain ⟨j,hj,rfl⟩:=List.mem_iff_getElem.1 he
   have:=h2 j hj
   simp only [ok1,Bool.and_eq_true] at this
   simp only [eok,Bool.and_eq_true]
   exact ⟨this.1,this.2.1,this.2.2.1⟩
  ·obtain ⟨j,hj,rfl⟩:=List.mem_iff_getElem.1 he
   have:=h2 j hj
   simp only [ok1,Bool.and_eq_true] at this
   rw [← key hj hs this.1]
   exact this.2.2.2.2
 ·rintro ⟨h1,hs,h3,h4⟩
  simp only [tOk,Bool.and_eq_true,decide_eq_true_eq]
  refine ⟨h1,okA0.2 fun j hj=>?_⟩
  have he:=h3 _ (List.getElem_mem hj)
  simp only [eok,Bool.and_eq_true] at he
  simp only [ok1,Bool.and_eq_true]
  refine ⟨he.1,he.2.1,he.2.2,?_,by rw [key hj hs he.1]; exact h4 _ (List.getElem_mem hj)⟩
  cases j with
  | zero=>rfl
  | succ j =>
   have hl:(t.take (j+1)).getLast? = some t[j]:=by
    rw [List.getLast?_take,if_neg (by omega),List.getElem?_eq_getElem (by omega)]; rfl
   rw [hl]
   exact yQ.1 hs j hj
def mok (m:Mark):Bool:=(decide (1≤m.kind)&&decide (m.kind≤4))&&(pOk m.path&&(dataOk m.data&&!(m.kind != 1&&m.data != [])))
theorem qZ {m:Mark} (h:mok m=true):pOk m.path=true:=by
 simp only [mok,Bool.and_eq_true] at h; exact h.2.1
theorem qo {l:List Mark}:lOk l=true↔l.length≤32∧Srt Mark.path l∧(∀ m∈l,mok m=true)∧(∀ m∈l,inD l m.path=true)∧∀ m∈l,2 < m.kind→bare l m.path=false:=by
 have k1:∀ {j} (h:j < l.length),Srt Mark.path l→pOk l[j].path=true→inD (l.take j) l[j].path=inD l l[j].path:=by
  intro j h hs hp
  unfold inD kind
  by_cases hu:pUp l[j].path=[47]
  ·simp [hu]
  ·have:mfind (l.take j) (pUp l[j].path)=mfind l (pUp l[j].path):=zhM hs h (zoN hp hu)
   rw [this]
 have k2:∀ {j} (h:j < l.length),Srt Mark.path l→(∀ m∈l,mok m=true)→bare (l.take j) l[j].path=bare l l[j].path:=by
  intro j h hs hm
  refine ZB hs h fun m hmem hq=>?_
  simp only [Bool.and_eq_true] at hq
  exact zoK hq.2 (yh (qZ (hm m hmem)))
 constructor
 ·intro h
  simp only [lOk,Bool.and_eq_true,decide_eq_true_eq] at h
  have h2:=mokA0.1 h.2
  have hs:Srt Mark.path l:=yQ.2 fun j hj=>by
   have:=h2 (j+1) hj
   simp only [mok1,Bool.and_eq_true] at this
   have:=this.2.2.2.2.1
   have hl:(l.take (j+1)).getLast? = some l[j]:=by
    rw [List.getLast?_take,if_neg (by omega),List.getElem?_eq_getElem (by omega)]; rfl
   rw [mlast,hl] at this
   exact this
  have hm:∀ m∈l,mok m=true:=fun m hm=>by
   obtain ⟨j,hj,rfl⟩:=List.mem_iff_getElem.1 hm
   have:=h2 j hj
   simp only [mok1,Bool.and_eq_true] at this
   simp only [mok,Bool.and_eq_true]
   exact ⟨this.1,this.2.1,this.2.2.1,this.2.2.2.1⟩
  refine ⟨h.1,hs,hm,fun m he=>?_,fun m he hk=>?_⟩
  ·obtain ⟨j,hj,rfl⟩:=List.mem_iff_getElem.1 he
   have:=h2 j hj
   simp only [mok1,Bool.and_eq_true] at this
   rw [← k1 hj hs this.2.1]
   exact this.2.2.2.2.2.1
  ·obtain ⟨j,hj,rfl⟩:=List.mem_iff_getElem.1 he
   have:=h2 j hj
   simp only [mok1,Bool.and_eq_true] at this
   have:=this.2.2.2.2.2.2
   rw [k2 hj hs hm] at this
   simpa [hk] using this
 ·rintro ⟨h1,hs,h3,h4,h5⟩
  simp only [lOk,Bool.and_eq_true,decide_eq_true_eq]
  refine ⟨h1,mokA0.2 fun j hj=>?_⟩
  have he:=h3 _ (List.getElem_mem hj)
  simp only [mok,Bool.and_eq_true] at he
  simp only [mok1,Bool.and_eq_true]
  refine ⟨he.1,he.2.1,he.2.2.1,he.2.2.2,?_,by rw [k1 hj hs he.2.1]; exact h4 _ (List.getElem_mem hj),?_⟩
  ·unfold mlast
   cases j with
   | zero=>rfl
   | succ j =>
    have hl:(l.take (j+1)).getLast? = some l[j]:=by
     rw [List.getLast?_take,if_neg (by omega),List.getElem?_eq_getElem (by omega)]; rfl
    rw [hl]
    exact yQ.1 hs j hj
  ·rw [k2 hj hs h3]
   by_cases hk:2 < l[j].kind
   ·rw [h5 _ (List.getElem_mem hj) hk]; simp
   ·simp [hk]
theorem Zc {p u d:Str} (hd:d≠[47]) (hu:u≠[47]) (h1:und p u=true) (h2:und u d=true):und p d=true:=by
 unfold und at h1 h2 ⊢
 simp only [Bool.or_eq_true,beq_iff_eq,List.isPrefixOf_iff_prefix] at h1 h2 ⊢
 rcases h1 with h1 | ⟨r,h1⟩
 ·exact absurd h1 hu
 rcases h2 with h2 | ⟨s,h2⟩
 ·exact absurd h2 hd
 right
 exact ⟨s++[47]++r,by rw [← h1,← h2]; simp⟩
theorem Zd {p:Str} (h:pOk p=true):und p (pUp p)=true:=by
 obtain ⟨a,l,e,_,_,_,_,_,_,hup⟩:=yt h
 unfold und
 by_cases ha:a=[]
 ·rw [if_pos ha] at hup; simp [hup]
 ·rw [if_neg ha] at hup
  simp only [Bool.or_eq_true,List.isPrefixOf_iff_prefix]
  right
  exact ⟨l,by rw [hup]; (conv=>rhs; rw [e]); simp⟩
theorem zoI {p d:Str} (h:pOk p=true) (hd:pOk d=true) (hu:und p d=true):pUp p=d∨(pUp p≠[47]∧pOk (pUp p)=true∧und (pUp p) d=true):=by
 have hdr:=yh hd
 unfold und at hu
 simp only [Bool.or_eq_true,beq_iff_eq,List.isPrefixOf_iff_prefix] at hu
 rcases hu with hu | ⟨r,hu⟩
 ·exact absurd hu hdr
 obtain ⟨a,l,e,hl,_,_,_,_,_,hup⟩:=yt h
 have e2:d++47::r=a++47::l:=by rw [← e,← hu]; simp
 have hda:d=a∨∃ s,a=d++47::s:=by
  rcases List.append_eq_append_iff.1 e2 with ⟨s,h1,h2⟩ | ⟨s,h1,h2⟩
  ·cases s with
   | nil=>left; rw [h1]; simp
   | cons x s =>
    rw [List.cons_append,List.cons.injEq] at h2
    obtain ⟨rfl,h2⟩:=h2
    exact .inr ⟨s,h1⟩
  ·cases s with
   | nil=>left; rw [h1]; simp
   | cons x s =>
    rw [List.cons_append,List.cons.injEq] at h2
    obtain ⟨rfl,h2⟩:=h2
    exact absurd (by rw [h2]; simp) hl
 have ha:a≠[]:=by
  rintro rfl
  rcases hda with h1 | ⟨s,h1⟩
  ·subst h1; have:=(yq hd).1; simp at this
  ·simp at h1
 rw [if_neg ha] at hup
 rcases hda with rfl | ⟨s,hs⟩
 ·exact .inl hup
 ·right
  have hne:pUp p≠[47]:=by
   rw [hup,hs]
   have h1:=(yq hd).1
   intro e; have:=congrArg List.length e; simp at this; omega
  refine ⟨hne,(yu h hne).1,?_⟩
  unfold und
  simp only [Bool.or_eq_true,List.isPrefixOf_iff_prefix]
  right
  exact ⟨s,by rw [hup,hs]; simp⟩
theorem j7 {t:List Ent} {p:Str} (h:pOk p=true):get t p=find t p:=by
 unfold get; rw [if_neg (yh h)]
theorem zi4 {t:List Ent}:isDir t [47]=true:=rfl

def onEnt (m:Mark):Option Ent:=if m.kind=1 then some ⟨m.path,false,m.data⟩ else if m.kind=2∨m.kind=4 then some ⟨m.path,true,[]⟩ else none
theorem zk1 (out:List Ent) (m:Mark):onP out m=match onEnt m with
 | some e=>put out e
 | none=>out:=by
 unfold onP onEnt
 by_cases h1:m.kind=1
 ·rw [if_pos h1,if_pos h1]
 ·rw [if_neg h1,if_neg h1]
  by_cases h2:m.kind=2∨m.kind=4
  ·rw [if_pos h2,if_pos h2]
  ·rw [if_neg h2,if_neg h2]
theorem yi {m:Mark} {e:Ent} (h:onEnt m=some e):e.path=m.path:=by
 unfold onEnt at h
 split at h
 ·cases h; rfl
 ·split at h
  ·cases h; rfl
  ·cases h
theorem znN {out:List Ent} {m:Mark} (h:Srt Ent.path out):Srt Ent.path (onP out m):=by
 rw [zk1]
 split
 ·exact yT h
 ·exact h
theorem zhL {out:List Ent} {m:Mark} {p:Str}:find (onP out m) p=if m.path=p then (onEnt m).or (find out p) else find out p:=by
 rw [zk1]
 cases h:onEnt m with
 | none=>simp
 | some e =>
  have:find (put out e) p=if e.path=p then some e else find out p:=jT
  simp only [this,yi h,Option.some_or]
theorem znJ:∀ {l:List Mark} {out:List Ent},Srt Ent.path out→Srt Ent.path (l.foldl onP out)
 | [],_,h=>h
 | _::l,_,h=>znJ (l:=l) (znN h)
theorem zhH:∀ {l:List Mark} {out:List Ent} {p:Str},Srt Mark.path l→find (l.foldl onP out) p=match mfind l p with
  | some m=>(onEnt m).or (find out p)
  | none=>find out p
 | [],_,_,_=>rfl
 | m::l,out,p,hs=>by
  unfold Srt at hs
  rw [List.pairwise_cons] at hs
  rw [List.foldl_cons,zhH (l:=l) hs.2,zhL]
  have e:mfind (m::l) p=if m.path=p then some m else mfind l p:=jP (key:=Mark.path)
  rw [e]
  by_cases h:m.path=p
  ·have h2:mfind l p=none:=jS.2 fun x hx=>by rw [← h]; exact (qN (hs.1 x hx)).symm
   rw [if_pos h,h2,if_pos h]
  ·rw [if_neg h,if_neg h]
theorem yS {l:List Mark} {t:List Ent} (ht:Srt Ent.path t):Srt Ent.path (onRaw l t):=znJ (yO ht _)
theorem yj {l:List Mark} {t:List Ent} (hs:Srt Mark.path l) (ht:Srt Ent.path t) (p:Str):find (onRaw l t) p=match mfind l p with
  | some m=>onEnt m
  | none=>if hides l p=true then none else find t p:=by
 have hf:find (t.filter fun e=>!hides l e.path) p=if hides l p=true then none else find t p:=by
  have h:find (t.filter fun e=>!hides l e.path) p=(find t p).filter fun e=>!hides l e.path:=zhE ht
  rw [h]
  cases hp:find t p with
  | none=>simp
  | some e =>
   have:=(jL hp).1
   rw [Option.filter,this]
   cases hides l p<;>rfl
 unfold onRaw
 rw [zhH hs,hf]
 cases h:mfind l p with
 | none=>rfl
 | some m =>
  simp only
  obtain ⟨h1,h2⟩:=qW h
  cases ho:onEnt m with
  | some e=>rfl
  | none =>
   have hk:m.kind≠2:=by
    intro e; unfold onEnt at ho; rw [if_neg (by omega),if_pos (.inl e)] at ho; cases ho
   have:hides l p=true:=by
    unfold hides
    rw [List.any_eq_true]
    exact ⟨m,h2,by simp [hidP,h1,hk]⟩
   rw [if_pos this]; rfl
theorem zk8 {l:List Mark} {t:List Ent} (hl:lOk l=true) (ht:Srt Ent.path t) (p:Str):find (onRaw l t) p=match mfind l p with
  | some m=>onEnt m
  | none=>if hides l p=true then none else find t p:=yj (qo.1 hl).2.1 ht p
theorem zkb {l:List Mark} {t:List Ent} (hl:lOk l=true) (ht:Srt Ent.path t) {e:Ent}:e∈onRaw l t↔(∃ m∈l,onEnt m=some e)∨(mfind l e.path=none∧hides l e.path=false∧e∈t):=by
 obtain ⟨_,hs,hm,_⟩:=qo.1 hl
 have h:e∈onRaw l t↔find (onRaw l t) e.path=some e:=jQ (yS ht)
 rw [h,zk8 hl ht]
 cases hf:mfind l e.path with
 | some m =>
  obtain ⟨h1,h2⟩:=qW hf
  simp only [reduceCtorEq,false_and,or_false]
  constructor
  ·exact fun h=>⟨m,h2,h⟩
  ·rintro ⟨m',hm',h'⟩
   have:=yi h'
   have h3:mfind l m'.path=some m':=jR hs hm'
   rw [← this,hf] at h3
   cases h3; exact h'
 | none =>
  have hn:∀ m∈l,m.path≠e.path:=jS.1 hf
  simp only [true_and]
  constructor
  ·intro h
   right
   cases hh:hides l e.path with
   | true=>rw [hh] at h; simp at h
   | false=>rw [hh] at h; simp at h; exact ⟨rfl,(jL h).2⟩
  ·rintro (⟨m,hm',h'⟩ | ⟨h1,h2⟩)
   ·exact absurd (yi h').symm (hn m hm')
   ·rw [h1]; simp; exact jR ht h2
theorem zkZ {m:Mark} {e:Ent} (h:mok m=true) (ho:onEnt m=some e):eok e=true:=by
 simp only [mok,Bool.and_eq_true,Bool.not_eq_true',Bool.and_eq_false_iff] at h
 unfold onEnt at ho
 split at ho
 ·cases ho; simp [eok,h.2.1,h.2.2.1]
 ·split at ho
  ·cases ho; simp [eok,h.2.1]; rfl
  ·cases ho
theorem zlb {l:List Mark} {t:List Ent} (hl:lOk l=true) (ht:tOk t=true):Srt Ent.path (onRaw l t)∧(∀ e∈onRaw l t,eok e=true)∧∀ e∈onRaw l t,isDir (onRaw l t) (pUp e.path)=true:=by
 obtain ⟨_,hs,hm,hin,hb⟩:=qo.1 hl
 obtain ⟨_,ts,te,tu⟩:=y0.1 ht
 refine ⟨yS ts,fun e he=>?_,fun e he=>?_⟩
 ·rcases (zkb hl ts).1 he with ⟨m,h1,h2⟩ | ⟨_,_,h3⟩
  ·exact zkZ (hm m h1) h2
  ·exact te e h3
 ·have hd:∀ m∈l,m.kind=2∨m.kind=4→isDir (onRaw l t) m.path=true:=by
   intro m hmem hk
   have hp:=qZ (hm m hmem)
   have h3:mfind l m.path=some m:=jR hs hmem
   unfold isDir
   rw [j7 hp,zk8 hl ts,h3]
   simp only [onEnt]
   rw [if_neg (by omega),if_pos hk]
  rcases (zkb hl ts).1 he with ⟨m,h1,h2⟩ | ⟨h1,h2,h3⟩
  ·rw [yi h2]
   have:=hin m h1
   unfold inD at this
   simp only [Bool.or_eq_true,beq_iff_eq] at this
   rcases this with h | h
   ·rw [h]; rfl
   ·unfold kind at h
    cases hf:mfind l (pUp m.path) with
    | none=>rw [hf] at h; simp at h
    | some m' =>
     rw [hf] at h
     obtain ⟨g1,g2⟩:=qW hf
     rw [← g1]
     exact hd m' g2 h
  ·have hep:=te e h3
   simp only [eok,Bool.and_eq_true] at hep
   have hpe:=hep.1
   have htu:=tu e h3
   by_cases hr:pUp e.path=[47]
   ·rw [hr]; rfl
   have hup:=(yu hpe hr).1
   have hnot:∀ m∈l,hidP e.path m=false:=by
    intro m hmem
    unfold hides at h2
    rw [List.any_eq_false] at h2
    simpa using h2 m hmem
   cases hf:mfind l (pUp e.path) with
   | some m =>
    obtain ⟨g1,g2⟩:=qW hf
    rw [← g1]
    refine hd m g2 ?_
    have:=hnot m g2
    unfold hidP at this
    have hu:und e.path m.path=true:=by rw [g1]; exact Zd hpe
    simp [hu] at this
    exact .inl this.2
   | none =>
    have hh:hides l (pUp e.path)=false:=by
     unfold hides
     rw [List.any_eq_false]
     intro m hmem hc
     have h0:=hnot m hmem
     have hmr:=yh (qZ (hm m hmem))
     unfold hidP at hc h0
     simp only [Bool.or_eq_true,Bool.and_eq_true,beq_iff_eq,bne_iff_ne] at hc
     rcases hc with ⟨c1,_⟩ | ⟨c1,c2⟩
     ·exact jS.1 hf m hmem c1
     ·have:=Zc hmr hr (Zd hpe) c2
      simp [this,c1] at h0
    unfold isDir at htu ⊢
    rw [j7 hup] at htu ⊢
    rw [zk8 hl ts,hf]
    simp only [hh,Bool.false_eq_true,if_false]
    exact htu
theorem qq {l:List Mark} {t t':List Ent} (h:lOn l t=some t'):tOk t'=true:=by
 obtain ⟨h1,h2,h3,rfl⟩:=qp h
 exact y0.2 ⟨h1,zlb h2 h3⟩
theorem qH:∀ {a b:List (List Mark)} {t:List Ent},lowerA (a++b) t=match lowerA a t with
  | some t'=>lowerA b t'
  | none=>none
 | [],_,_=>rfl
 | l::a,b,t=>by
  rw [List.cons_append,lowerA,lowerA]
  cases lOn l t with
  | none=>rfl
  | some t'=>exact qH (a:=a)
theorem zjT:∀ {a:List (List Mark)} {t t':List Ent},tOk t=true→lowerA a t=some t'→tOk t'=true
 | [],t,t',h,h2=>by cases h2; exact h
 | l::a,t,t',h,h2=>by
  rw [lowerA] at h2
  cases h3:lOn l t with
  | none=>rw [h3] at h2; cases h2
  | some x=>rw [h3] at h2; exact zjT (a:=a) (qq h3) h2
theorem zjR {o:Over} {t:List Ent} (h:lower4 o=some t):tOk t=true:=by
 unfold lower4 at h
 split at h
 ·rename_i hc; exact zjT hc.1 h
 ·cases h
theorem Zh {o:Over} {t:List Ent} (h:view4 o=some t):tOk t=true:=by
 unfold view4 at h
 split at h
 ·exact qq h
 ·cases h
def topN (all:List (List Mark)) (p:Str):Nat→Nat
 | 0=>0
 | k+1=>if kind (all.getD k []) p≠0 then k+1 else topN all p k
def allL (o:Over):List (List Mark):=o.layers++[o.upper]
def oGet (o:Over) (p:Str):Option (Ent × Int):=if oOk o=true then (match view4 o with
 | some t=>match get t p with
  | some e=>some (e,(topN (allL o) p (allL o).length:Int))
  | none=>none
 | none=>none) else none
theorem zkH {o:Over} (h:oOk o=true):∃ t x,lower4 o=some t∧view4 o=some x∧o.upper=diff t x:=by
 unfold oOk at h
 split at h
 ·rename_i t x h1 h2; exact ⟨t,x,h1,h2,by simpa using h⟩
 ·cases h

section
variable {α:Type} {key:α→Str}
theorem znM {a b:List α} (ha:Srt key a) (hb:Srt key b) (h:∀ e,e∈a↔e∈b):a=b:=by
 refine yN ha hb fun p=>?_
 cases ha':fnd key a p with
 | some e =>
  obtain ⟨h1,h2⟩:=jU ha'
  have:=jR hb ((h e).1 h2)
  rw [h1] at this; exact this.symm
 | none =>
  refine (jS.2 fun e he hk=>?_).symm
  exact jS.1 ha' e ((h e).2 he) hk
theorem zhI:∀ {l t:List α} {p:Str},Srt key l→fnd key (l.foldl (putG key) t) p=(fnd key l p).or (fnd key t p)
 | [],t,p,_=>by simp [zhK]
 | e::l,t,p,hs=>by
  unfold Srt at hs
  rw [List.pairwise_cons] at hs
  rw [List.foldl_cons,zhI (l:=l) hs.2,jT,jP]
  by_cases h:key e=p
  ·have h2:fnd key l p=none:=jS.2 fun x hx=>by rw [← h]; exact (qN (hs.1 x hx)).symm
   rw [if_pos h,if_pos h,h2]; rfl
  ·rw [if_neg h,if_neg h]
theorem znL {f:α→α} (hf:∀ x,key (f x)=key x) {l:List α} (hs:Srt key l):Srt key (l.map f):=by
 unfold Srt at hs ⊢
 rw [List.pairwise_map]
 exact hs.imp fun h=>by rw [hf,hf]; exact h
theorem zhJ {f:α→α} (hf:∀ x,key (f x)=key x):∀ {l:List α} {p:Str},fnd key (l.map f) p=(fnd key l p).map f
 | [],_=>rfl
 | x::l,p=>by
  rw [List.map_cons,jP,jP,hf,zhJ hf (l:=l)]
  split<;>rfl
theorem znI {f:α→Option α} (hf:∀ x y,f x=some y→key y=key x) {l:List α} (hs:Srt key l):Srt key (l.filterMap f):=by
 induction l with
 | nil=>exact List.Pairwise.nil
 | cons x l ih =>
  unfold Srt at hs
  rw [List.pairwise_cons] at hs
  rw [List.filterMap_cons]
  split
  ·exact ih hs.2
  ·rename_i y hy
   refine List.pairwise_cons.2 ⟨fun z hz=>?_,ih hs.2⟩
   obtain ⟨u,hu,hz⟩:=List.mem_filterMap.1 hz
   rw [hf _ _ hy,hf _ _ hz]; exact hs.1 u hu
theorem zhG {f:α→Option α} (hf:∀ x y,f x=some y→key y=key x) {l:List α} (hs:Srt key l) {p:Str}:fnd key (l.filterMap f) p=(fnd key l p).bind f:=by
 cases h:fnd key l p with
 | none =>
  rw [jS] at h
  refine jS.2 fun e he hk=>?_
  obtain ⟨u,hu,he⟩:=List.mem_filterMap.1 he
  exact h u hu (by rw [← hf _ _ he,hk])
 | some e =>
  obtain ⟨h1,h2⟩:=jU h
  simp only [Option.bind_some]
  cases hy:f e with
  | some y =>
   have:=jR (znI hf hs) (List.mem_filterMap.2 ⟨e,h2,hy⟩)
   rw [hf _ _ hy,h1] at this; exact this
  | none =>
   refine jS.2 fun z hz hk=>?_
   obtain ⟨u,hu,hz⟩:=List.mem_filterMap.1 hz
   have:fnd key l (key u)=some u:=jR hs hu
   rw [← hf _ _ hz,hk,h] at this
   cases this
   rw [hy] at hz; cases hz
end
structure LG (l:List Mark):Prop where
 srt:Srt Mark.path l
 ok:∀ m∈l,mok m=true
theorem LG.of {l:List Mark} (h:lOk l=true):LG l:=by obtain ⟨_,hs,hm,_⟩:=qo.1 h; exact ⟨hs,hm⟩
theorem LG.path {l:List Mark} (h:LG l) {m:Mark} (hm:m∈l):pOk m.path=true:=qZ (h.ok m hm)
theorem LG.root {l:List Mark} (h:LG l) {m:Mark} (hm:m∈l):m.path≠[47]:=yh (h.path hm)
theorem LG.at {l:List Mark} (h:LG l) {m:Mark} (hm:m∈l):mfind l m.path=some m:=jR h.srt hm
theorem qY {m:Mark} (h:mok m=true):1≤m.kind∧m.kind≤4:=by
 simp only [mok,Bool.and_eq_true,decide_eq_true_eq] at h; exact h.1
theorem zks {m:Mark} (h:mok m=true) (hk:m.kind≠1):m.data=[]:=by
 simp only [mok,Bool.and_eq_true,Bool.not_eq_true',Bool.and_eq_false_iff] at h
 have:=h.2.2.2
 simp [hk] at this; exact this
theorem zkt {m:Mark} (h:mok m=true) {k:Int} (h1:2≤k) (h2:k≤4) (hk:m.kind≠1):mok { m with kind:=k }=true:=by
 have hd:=zks h hk
 have hp:=qZ h
 simp only [mok,Bool.and_eq_true] at h ⊢
 refine ⟨⟨by simp; omega,by simpa using h2⟩,hp,h.2.2.1,by simp [hd]⟩
theorem LG.kind0 {l:List Mark} (h:LG l) {p:Str}:kind l p=0↔mfind l p=none:=by
 unfold kind
 cases hf:mfind l p with
 | none=>simp
 | some m =>
  have:=qY (h.ok m (qW hf).2)
  simp; omega
theorem zjo {l:List Mark} {p:Str} {m:Mark} (h:mfind l p=some m):kind l p=m.kind:=by unfold kind; rw [h]
theorem qi {l:List Mark} {p:Str} {m:Mark} (hm:m∈l) (hk:m.kind≠2) (h:m.path=p∨und p m.path=true):hides l p=true:=by
 unfold hides; rw [List.any_eq_true]
 refine ⟨m,hm,?_⟩
 unfold hidP
 rcases h with h | h
 ·simp [h,hk]
 ·simp [h,hk]
theorem yf {l:List Mark} {p:Str} (h:hides l p=true):∃ m∈l,m.kind≠2∧(m.path=p∨und p m.path=true):=by
 unfold hides at h; rw [List.any_eq_true] at h
 obtain ⟨m,hm,h⟩:=h
 unfold hidP at h
 simp only [Bool.or_eq_true,Bool.and_eq_true,beq_iff_eq,bne_iff_ne] at h
 rcases h with ⟨h1,h2⟩ | ⟨h1,h2⟩
 ·exact ⟨m,hm,h2,.inl h1⟩
 ·exact ⟨m,hm,h1,.inr h2⟩
theorem LG.hides_und {l:List Mark} (h:LG l) {p d:Str} (hd:d≠[47]) (hu:und p d=true) (hh:hides l d=true):hides l p=true:=by
 obtain ⟨m,hm,hk,h1⟩:=yf hh
 refine qi hm hk (.inr ?_)
 rcases h1 with h1 | h1
 ·rw [h1]; exact hu
 ·exact Zc (h.root hm) hd hu h1
theorem ye {l:List Mark} {p:Str} (h:bare l p=true):∃ m∈l,m.kind=4∧und p m.path=true:=by
 unfold bare at h; rw [List.any_eq_true] at h
 obtain ⟨m,hm,h⟩:=h
 simp only [Bool.and_eq_true,beq_iff_eq] at h
 exact ⟨m,hm,h.1,h.2⟩
theorem zi {l:List Mark} {p:Str} {m:Mark} (hm:m∈l) (hk:m.kind=4) (h:und p m.path=true):bare l p=true:=by
 unfold bare; rw [List.any_eq_true]
 exact ⟨m,hm,by simp [hk,h]⟩
theorem ZN {l:List Mark} {p:Str} (h:bare l p=true):hides l p=true:=by
 obtain ⟨m,hm,hk,hu⟩:=ye h
 exact qi hm (by omega) (.inr hu)
theorem LG.bare_und {l:List Mark} (h:LG l) {p d:Str} (hd:d≠[47]) (hu:und p d=true) (hh:bare l d=true):bare l p=true:=by
 obtain ⟨m,hm,hk,h1⟩:=ye hh
 exact zi hm hk (Zc (h.root hm) hd hu h1)
theorem zoJ {p d:Str} (h:und p d=true) (hd:d≠[47]):d.length < p.length:=by
 unfold und at h
 simp only [Bool.or_eq_true,beq_iff_eq,List.isPrefixOf_iff_prefix] at h
 rcases h with h | h
 ·exact absurd h hd
 ·have:=h.length_le; simp at this; omega
theorem LG.bare_top {l:List Mark} (h:LG l):∀ (n:Nat) {p:Str},p.length≤n→bare l p=true→∃ m∈l,m.kind=4∧und p m.path=true∧bare l m.path=false
 | 0,p,hn,hb=>by
  obtain ⟨m,hm,hk,hu⟩:=ye hb
  have:=zoJ hu (h.root hm); omega
 | n+1,p,hn,hb=>by
  obtain ⟨m,hm,hk,hu⟩:=ye hb
  cases hb2:bare l m.path with
  | false=>exact ⟨m,hm,hk,hu,hb2⟩
  | true =>
   have:=zoJ hu (h.root hm)
   obtain ⟨m',h1,h2,h3,h4⟩:=h.bare_top n (p:=m.path) (by omega) hb2
   exact ⟨m',h1,h2,Zc (h.root h1) (h.root hm) hu h3,h4⟩
def tidyP (l:List Mark) (m:Mark):Option Mark:=if bare l m.path=true then (if m.kind=3 then none else some (if m.kind=4 then { m with kind:=2 } else m)) else some m
def tidyL (l:List Mark):List Mark:=l.filterMap (tidyP l)
theorem zom {l:List Mark} (x y:Mark) (h:tidyP l x=some y):y.path=x.path:=by
 unfold tidyP at h
 split at h
 ·split at h
  ·cases h
  ·cases h; split<;>rfl
 ·cases h; rfl
theorem zor {l:List Mark} {m:Mark} (h:bare l m.path=false):tidyP l m=some m:=by unfold tidyP; simp [h]
theorem zon {l:List Mark} (h:LG l) {p:Str}:mfind (tidyL l) p=(mfind l p).bind (tidyP l):=zhG zom h.srt
theorem qU {l:List Mark} {m:Mark}:m∈tidyL l↔∃ x∈l,tidyP l x=some m:=List.mem_filterMap
theorem zoq {l:List Mark} {m:Mark} (hm:m∈l) (h:bare l m.path=false):m∈tidyL l:=qU.2 ⟨m,hm,zor h⟩
theorem zol {l:List Mark} {x y:Mark} (h:tidyP l x=some y):y=x∨(x.kind=4∧y={ x with kind:=2 }):=by
 unfold tidyP at h
 split at h
 ·split at h
  ·cases h
  ·split at h
   ·cases h; exact .inr ⟨by assumption,rfl⟩
   ·cases h; exact .inl rfl
 ·cases h; exact .inl rfl
theorem LG.tidy {l:List Mark} (h:LG l):LG (tidyL l):=by
 refine ⟨znI zom h.srt,fun m hm=>?_⟩
 obtain ⟨x,hx,e⟩:=qU.1 hm
 rcases zol e with rfl | ⟨hk,rfl⟩
 ·exact h.ok _ hx
 ·exact zkt (h.ok x hx) (by omega) (by omega) (by omega)
theorem LG.tidy_bare {l:List Mark} (h:LG l) {p:Str}:bare (tidyL l) p=bare l p:=by
 rw [Bool.eq_iff_iff]
 constructor
 ·intro hb
  obtain ⟨m,hm,hk,hu⟩:=ye hb
  obtain ⟨x,hx,e⟩:=qU.1 hm
  rcases zol e with rfl | ⟨_,rfl⟩
  ·exact zi hx hk hu
  ·simp at hk
 ·intro hb
  obtain ⟨m,hm,hk,hu,hn⟩:=h.bare_top p.length (Nat.le_refl _) hb
  exact zi (zoq hm hn) hk hu
theorem LG.tidy_hides {l:List Mark} (h:LG l) {p:Str}:hides (tidyL l) p=hides l p:=by
 rw [Bool.eq_iff_iff]
 constructor
 ·intro hb
  obtain ⟨m,hm,hk,hu⟩:=yf hb
  obtain ⟨x,hx,e⟩:=qU.1 hm
  rcases zol e with rfl | ⟨_,rfl⟩
  ·exact qi hx hk hu
  ·simp at hk
 ·intro hb
  obtain ⟨m,hm,hk,hu⟩:=yf hb
  cases hb2:bare l m.path with
  | false=>exact qi (zoq hm hb2) hk hu
  | true =>
   have:bare l p=true:=by
    rcases hu with hu | hu
    ·rw [← hu]; exact hb2
    ·exact h.bare_und (h.root hm) hu hb2
   exact ZN (by rw [h.tidy_bare]; exact this)
theorem zlc {l:List Mark} {t:List Ent} (h:LG l) (ht:Srt Ent.path t):onRaw (tidyL l) t=onRaw l t:=by
 refine yN (yS ht) (yS ht) fun p=>?_
 show find _ p=find _ p
 rw [yj h.tidy.srt ht,yj h.srt ht,zon h,h.tidy_hides]
 cases hf:mfind l p with
 | none=>rfl
 | some m =>
  obtain ⟨h1,h2⟩:=qW hf
  simp only [Option.bind_some]
  unfold tidyP
  by_cases hb:bare l m.path=true
  ·rw [if_pos hb]
   have hh:hides l p=true:=ZN (by rw [← h1]; exact hb)
   by_cases h3:m.kind=3
   ·rw [if_pos h3,hh]
    simp [onEnt,h3]
   ·rw [if_neg h3]
    by_cases h4:m.kind=4
    ·rw [if_pos h4]; simp [onEnt,h4]
    ·rw [if_neg h4]
  ·rw [if_neg hb]
def bothK (a b:Int):Int:=if a=2∧b≠0∧b≠2 then 4 else a
def joinM (b:List Mark) (m:Mark):Mark:={ m with kind:=bothK m.kind (kind b m.path) }
def joinB (a:List Mark) (m:Mark):Bool:=!hides a m.path&&kind a m.path==0
def join0 (a b:List Mark):List Mark:=(a.map (joinM b)).foldl lput ((b.filter (joinB a)).foldl lput [])
def joinL (a b:List Mark):List Mark:=tidyL (join0 a b)
theorem Z0 {a b:Int} (h:a≠2):bothK a b=a:=by unfold bothK; rw [if_neg (by simp [h])]
theorem ZZ {a b:Int}:bothK a b=2∨bothK a b=4↔a=2∨a=4:=by
 unfold bothK
 split
 ·omega
 ·exact Iff.rfl
theorem zi9 {a b:List Mark} (ha:LG a) (hb:LG b) {p:Str}:mfind (join0 a b) p=match mfind a p with
  | some m=>some (joinM b m)
  | none=>if hides a p=true then none else mfind b p:=by
 have h1:fnd Mark.path (join0 a b) p=(fnd Mark.path (a.map (joinM b)) p).or (fnd Mark.path ((b.filter (joinB a)).foldl lput []) p):=zhI (znL (f:=joinM b) (fun _=>rfl) ha.srt)
 have h2:fnd Mark.path ((b.filter (joinB a)).foldl lput []) p=(fnd Mark.path (b.filter (joinB a)) p).or (fnd Mark.path [] p):=zhI (yO hb.srt _)
 have h3:fnd Mark.path (b.filter (joinB a)) p=(mfind b p).filter (joinB a):=zhE hb.srt
 have h4:fnd Mark.path (a.map (joinM b)) p=(mfind a p).map (joinM b):=zhJ (f:=joinM b) (fun _=>rfl)
 show fnd Mark.path (join0 a b) p=_
 rw [h1,h2,h3,h4,zhK]
 cases hf:mfind a p with
 | some m=>rfl
 | none =>
  have hk:=ha.kind0.2 hf
  cases hg:mfind b p with
  | none=>simp
  | some m =>
   have hp:=(qW hg).1
   simp [Option.filter,joinB,hp,hk]
   cases hides a p<;>rfl
theorem zja {a b:List Mark}:Srt Mark.path (join0 a b):=zhT (zhT List.Pairwise.nil)
theorem qS {a b:List Mark} (ha:LG a) (hb:LG b) {m:Mark}:m∈join0 a b↔(∃ x∈a,m=joinM b x)∨(m∈b∧mfind a m.path=none∧hides a m.path=false):=by
 have h:m∈join0 a b↔mfind (join0 a b) m.path=some m:=jQ zja
 rw [h,zi9 ha hb]
 cases hf:mfind a m.path with
 | some x =>
  obtain ⟨h1,h2⟩:=qW hf
  simp only [Option.some.injEq,reduceCtorEq,false_and,and_false,or_false]
  constructor
  ·rintro rfl; exact ⟨x,h2,rfl⟩
  ·rintro ⟨y,hy,rfl⟩
   have:mfind a y.path=some y:=ha.at hy
   have e:(joinM b y).path=y.path:=rfl
   rw [e,this] at hf; cases hf; rfl
 | none =>
  simp only [true_and]
  have hn:¬ ∃ x∈a,m=joinM b x:=by
   rintro ⟨y,hy,rfl⟩
   have:mfind a y.path=some y:=ha.at hy
   have e:(joinM b y).path=y.path:=rfl
   rw [e,this] at hf; cases hf
  cases hh:hides a m.path with
  | true=>simp [hn]
  | false =>
   simp only [Bool.false_eq_true,if_false,hn,and_true,false_or]
   exact (jQ hb.srt).symm
theorem qm {a b:List Mark} (ha:LG a) (hb:LG b):LG (join0 a b):=by
 refine ⟨zja,fun m hm=>?_⟩
 rcases (qS ha hb).1 hm with ⟨x,hx,rfl⟩ | ⟨h,_⟩
 ·have ho:=ha.ok x hx
  by_cases hk:x.kind=2
  ·refine zkt ho ?_ ?_ (by omega)<;>(unfold bothK; split<;>omega)
  ·have:joinM b x=x:=by unfold joinM; rw [Z0 hk]
   rw [this]; exact ho
 ·exact hb.ok m h
theorem zk0 {b:List Mark} {m:Mark}:onEnt (joinM b m)=onEnt m:=by
 unfold onEnt joinM bothK
 by_cases h:m.kind=2∧kind b m.path≠0∧kind b m.path≠2
 ·simp [h,h.1]
 ·simp only [if_neg h]
theorem zla {a b:List Mark} {t:List Ent} (ha:LG a) (hb:LG b) (ht:Srt Ent.path t):onRaw (join0 a b) t=onRaw a (onRaw b t):=by
 refine yN (yS ht) (yS (yS ht)) fun p=>?_
 show find _ p=find _ p
 have hj:=qm ha hb
 rw [yj hj.srt ht,yj ha.srt (yS ht),yj hb.srt ht,zi9 ha hb]
 cases hf:mfind a p with
 | some m=>exact zk0
 | none =>
  have hne:∀ {m},m∈a→m.path≠p:=fun {m} hm e=>by have:=ha.at hm; rw [e,hf] at this; cases this
  cases hh:hides a p with
  | true =>
   obtain ⟨m,hm,hk,hu⟩:=yf hh
   have hu:und p m.path=true:=hu.resolve_left (hne hm)
   have:hides (join0 a b) p=true:=by
    refine qi (m:=joinM b m) ((qS ha hb).2 (.inl ⟨m,hm,rfl⟩)) ?_ (.inr hu)
    show bothK m.kind _≠2
    rw [Z0 hk]; exact hk
   simp [this]
  | false =>
   simp only [Bool.false_eq_true,if_false]
   cases hg:mfind b p with
   | some m=>rfl
   | none =>
    have hnb:∀ {m},m∈b→m.path≠p:=fun {m} hm e=>by have:=hb.at hm; rw [e,hg] at this; cases this
    have key:hides (join0 a b) p=hides b p:=by
     rw [Bool.eq_iff_iff]
     constructor
     ·intro h
      obtain ⟨m,hm,hk,hu⟩:=yf h
      rcases (qS ha hb).1 hm with ⟨x,hx,rfl⟩ | ⟨h1,_⟩
      ·have hu:und p x.path=true:=hu.resolve_left (fun e=>hne hx e)
       have hx2:x.kind=2:=by
        apply Classical.byContradiction; intro hn
        have:=qi hx hn (.inr hu); rw [hh] at this; cases this
       have hkb:kind b x.path≠0∧kind b x.path≠2:=by
        apply Classical.byContradiction; intro hn
        apply hk
        show bothK x.kind _=2
        unfold bothK; rw [if_neg (fun e=>hn e.2)]; exact hx2
       unfold kind at hkb
       cases hy:mfind b x.path with
       | none=>rw [hy] at hkb; exact absurd rfl hkb.1
       | some y =>
        rw [hy] at hkb
        obtain ⟨g1,g2⟩:=qW hy
        exact qi g2 hkb.2 (.inr (by rw [g1]; exact hu))
      ·exact qi h1 hk (.inr (hu.resolve_left (hnb h1)))
     ·intro h
      obtain ⟨m,hm,hk,hu⟩:=yf h
      have hu:und p m.path=true:=hu.resolve_left (hnb hm)
      cases hy:mfind a m.path with
      | some x =>
       obtain ⟨g1,g2⟩:=qW hy
       have hx2:x.kind=2:=by
        apply Classical.byContradiction; intro hn
        have:=qi g2 hn (.inr (by rw [g1]; exact hu)); rw [hh] at this; cases this
       refine qi (m:=joinM b x) ((qS ha hb).2 (.inl ⟨x,g2,rfl⟩)) ?_ (.inr (by show und p x.path=true; rw [g1]; exact hu))
       show bothK x.kind (kind b x.path)≠2
       have e:kind b x.path=m.kind:=by rw [g1]; exact zjo (hb.at hm)
       have:=qY (hb.ok m hm)
       unfold bothK; rw [if_pos ⟨hx2,by omega,by omega⟩]; omega
      | none =>
       have hn:hides a m.path=false:=by
        cases hz:hides a m.path with
        | false=>rfl
        | true=>have:=ha.hides_und (hb.root hm) hu hz; rw [hh] at this; cases this
       exact qi ((qS ha hb).2 (.inr ⟨hm,hy,hn⟩)) hk (.inr hu)
    rw [key]
theorem zk9 {a b:List Mark} {t:List Ent} (ha:LG a) (hb:LG b) (ht:Srt Ent.path t):onRaw (joinL a b) t=onRaw a (onRaw b t):=by
 unfold joinL; rw [zlc (qm ha hb) ht,zla ha hb ht]
theorem zjb {a b:List Mark} (ha:LG a) (hb:LG b):LG (joinL a b):=(qm ha hb).tidy
theorem qj {l:List Mark} {p:Str}:inD l p=true↔pUp p=[47]∨∃ m,mfind l (pUp p)=some m∧(m.kind=2∨m.kind=4):=by
 unfold inD kind
 cases h:mfind l (pUp p) with
 | none=>simp
 | some m=>simp
theorem zjc {a b:List Mark} (ha:lOk a=true) (hb:lOk b=true) (hl:(joinL a b).length≤32):lOk (joinL a b)=true:=by
 have ga:=LG.of ha
 have gb:=LG.of hb
 have g0:=qm ga gb
 have gj:=zjb ga gb
 obtain ⟨_,_,_,ia,_⟩:=qo.1 ha
 obtain ⟨_,_,_,ib,_⟩:=qo.1 hb
 refine qo.2 ⟨hl,gj.srt,gj.ok,fun m hm=>?_,fun m hm hk=>?_⟩
 ·obtain ⟨x,hx,e⟩:=qU.1 hm
  have hp:=zom _ _ e
  have hxp:=g0.path hx
  rw [qj,hp]
  by_cases hr:pUp x.path=[47]
  ·exact .inl hr
  right
  have hup:=(yu hxp hr).1
  have key:∃ y,mfind (join0 a b) (pUp x.path)=some y∧(y.kind=2∨y.kind=4):=by
   rw [zi9 ga gb]
   rcases (qS ga gb).1 hx with ⟨z,hz,e2⟩ | ⟨h1,h2,h3⟩
   ·have hzp:x.path=z.path:=by rw [e2]; rfl
    rw [hzp] at hr hup ⊢
    rcases qj.1 (ia z hz) with h | ⟨y,hy,hk⟩
    ·exact absurd h hr
    ·rw [hy]; exact ⟨_,rfl,ZZ.2 hk⟩
   ·rcases qj.1 (ib x h1) with h | ⟨y,hy,hk⟩
    ·exact absurd h hr
    ·cases hz:mfind a (pUp x.path) with
     | some z =>
      obtain ⟨q1,q2⟩:=qW hz
      have:z.kind=2:=by
       apply Classical.byContradiction; intro hn
       have:=qi (p:=x.path) q2 hn (.inr (by rw [q1]; exact Zd hxp))
       rw [h3] at this; cases this
      exact ⟨_,rfl,ZZ.2 (.inl this)⟩
     | none =>
      have:hides a (pUp x.path)=false:=by
       cases hq:hides a (pUp x.path) with
       | false=>rfl
       | true=>have:=ga.hides_und hr (Zd hxp) hq; rw [h3] at this; cases this
      simp only [this,Bool.false_eq_true,if_false]
      exact ⟨y,hy,hk⟩
  obtain ⟨y,hy,hk⟩:=key
  unfold joinL
  rw [zon g0,hy]
  simp only [Option.bind_some]
  unfold tidyP
  split
  ·rw [if_neg (by omega)]
   refine ⟨_,rfl,?_⟩
   split
   ·exact .inl rfl
   ·exact hk
  ·exact ⟨_,rfl,hk⟩
 ·unfold joinL
  rw [g0.tidy_bare]
  obtain ⟨x,hx,e⟩:=qU.1 hm
  have hp:=zom _ _ e
  have hmk:=qY (gj.ok m hm)
  rw [hp]
  cases hb:bare (join0 a b) x.path with
  | false=>rfl
  | true =>
   unfold tidyP at e
   rw [if_pos hb] at e
   split at e
   ·cases e
   ·cases e
    split at hk
    ·simp at hk
    ·split at hmk
     ·omega
     ·omega
def lJoin (a b:List Mark):Option (List Mark):=if (lOk a&&lOk b)=true then (if (joinL a b).length≤32 then some (joinL a b) else none) else none
def eMarksO:Option (List Mark)→CV
 | none => .tup [eMarks [],CB false]
 | some t => .tup [eMarks t,CB true]
theorem zjt {a b j:List Mark} (h:lJoin a b=some j):lOk a=true∧lOk b=true∧j=joinL a b∧lOk j=true:=by
 unfold lJoin at h
 split at h
 ·rename_i hc
  simp only [Bool.and_eq_true] at hc
  split at h
  ·cases h; exact ⟨hc.1,hc.2,rfl,zjc hc.1 hc.2 (by assumption)⟩
  ·cases h
 ·cases h
def tidyF (out:List Mark) (m:Mark):List Mark:=if bare out m.path=true then (if m.kind=3 then out else out++[if m.kind=4 then { m with kind:=2 } else m]) else out++[m]
theorem zhA {α β:Type} {f:α→Option β} {l:List α} {k:Nat} (h:k < l.length):(l.take (k+1)).filterMap f=(l.take k).filterMap f++(f l[k]).toList:=by
 rw [List.take_succ_eq_append_getElem h,List.filterMap_append]
 cases hf:f l[k]<;>simp [hf]
theorem zoo {l:List Mark} (h:LG l):∀ {k:Nat},k≤l.length→(l.take k).foldl tidyF []=(l.take k).filterMap (tidyP l)
 | 0,_=>by simp
 | k+1,hk=>by
  have hk':k < l.length:=by omega
  rw [jV hk',zoo h (by omega),zhA hk']
  have hm:l[k]∈l:=List.getElem_mem hk'
  have e:bare ((l.take k).filterMap (tidyP l)) l[k].path=bare l l[k].path:=by
   rw [Bool.eq_iff_iff]
   constructor
   ·intro hb
    obtain ⟨m,hm',hk4,hu⟩:=ye hb
    obtain ⟨x,hx,e⟩:=List.mem_filterMap.1 hm'
    rcases zol e with rfl | ⟨_,rfl⟩
    ·exact zi (List.mem_of_mem_take hx) hk4 hu
    ·simp at hk4
   ·intro hb
    obtain ⟨m,hm',hk4,hu,hn⟩:=h.bare_top _ (Nat.le_refl _) hb
    have hlt:=zoK hu (h.root hm')
    refine zi (m:=m) (List.mem_filterMap.2 ⟨m,?_,zor hn⟩) hk4 hu
    have h1:=zhM h.srt hk' hlt
    have h2:fnd Mark.path l m.path=some m:=jR h.srt hm'
    rw [h2] at h1
    exact (jU h1).2
  rw [tidyF,e]
  unfold tidyP
  split
  ·split
   ·simp
   ·simp
  ·simp
theorem zop {l:List Mark} (h:LG l):l.foldl tidyF []=tidyL l:=by
 have:=zoo h (Nat.le_refl l.length)
 rw [List.take_length] at this; exact this

theorem zkD {α:Type} [DecidableEq α]:∀ {l k:List α},l.Nodup→(∀ x∈l,x∈k)→l.length≤k.length
 | [],_,_,_=>by simp
 | x::l,k,hn,h=>by
  rw [List.nodup_cons] at hn
  have hx:=h x (by simp)
  have ih:=zkD (l:=l) (k:=k.erase x) hn.2 fun y hy=>by
   refine (List.mem_erase_of_ne ?_).2 (h y (by simp [hy]))
   rintro rfl; exact hn.1 hy
  rw [List.length_erase_of_mem hx] at ih
  have:=List.length_pos_of_mem hx
  simp; omega
theorem yR {α:Type} {key:α→Str} {l:List α} (hs:Srt key l):(l.map key).Nodup:=by
 unfold List.Nodup
 rw [List.pairwise_map]
 exact hs.imp fun h=>qN h
structure TG (t:List Ent):Prop where
 len:t.length≤16
 srt:Srt Ent.path t
 ok:∀ e∈t,eok e=true
 up:∀ e∈t,isDir t (pUp e.path)=true
theorem TG.of {t:List Ent} (h:tOk t=true):TG t:=by obtain ⟨a,b,c,d⟩:=y0.1 h; exact ⟨a,b,c,d⟩
theorem TG.path {t:List Ent} (h:TG t) {e:Ent} (he:e∈t):pOk e.path=true:=by
 have:=h.ok e he; simp only [eok,Bool.and_eq_true] at this; exact this.1
theorem TG.data {t:List Ent} (h:TG t) {e:Ent} (he:e∈t) (hd:e.dir=true):e.data=[]:=by
 have:=h.ok e he; simp only [eok,Bool.and_eq_true,hd,Bool.true_and] at this
 simpa using this.2.2
theorem TG.datOk {t:List Ent} (h:TG t) {e:Ent} (he:e∈t):dataOk e.data=true:=by
 have:=h.ok e he; simp only [eok,Bool.and_eq_true] at this; exact this.2.1
theorem TG.at {t:List Ent} (h:TG t) {e:Ent} (he:e∈t):find t e.path=some e:=jR h.srt he
theorem TG.find_ok {t:List Ent} (h:TG t) {p:Str} {e:Ent} (hf:find t p=some e):pOk p=true:=by
 obtain ⟨h1,h2⟩:=jL hf; rw [← h1]; exact h.path h2
theorem TG.isDir_ent {t:List Ent} (h:TG t) {p:Str} (hp:pOk p=true) (hd:isDir t p=true):find t p=some ⟨p,true,[]⟩:=by
 unfold isDir at hd
 rw [j7 hp] at hd
 cases hf:find t p with
 | none=>rw [hf] at hd; cases hd
 | some e =>
  rw [hf] at hd
  obtain ⟨h1,h2⟩:=jL hf
  have:=h.data h2 hd
  obtain ⟨a,b,c⟩:=e
  simp at h1 hd this
  rw [h1,hd,this]
theorem TG.anc {t:List Ent} (h:TG t):∀ (n:Nat) {p d:Str},(names p).length≤n→pOk p=true→pOk d=true→und p d=true→isDir t (pUp p)=true→find t d=some ⟨d,true,[]⟩
 | 0,p,d,hn,hp,_,_,_=>by have:=(yr hp).1.1; omega
 | n+1,p,d,hn,hp,hd,hu,hf=>by
  rcases zoI hp hd hu with h1 | ⟨h1,h2,h3⟩
  ·rw [h1] at hf; exact h.isDir_ent hd hf
  ·have hup:=(yu hp h1).2.2
   refine h.anc n (by omega) h2 hd h3 ?_
   have:=h.isDir_ent h2 hf
   exact h.up _ (jL this).2
theorem TG.anc' {t:List Ent} (h:TG t) {p d:Str} {e:Ent} (hf:find t p=some e) (hd:pOk d=true) (hu:und p d=true):find t d=some ⟨d,true,[]⟩:=by
 have hp:=h.find_ok hf
 refine h.anc _ (Nat.le_refl _) hp hd hu ?_
 obtain ⟨h1,h2⟩:=jL hf
 have:=h.up e h2
 rw [h1] at this; exact this
abbrev SrtS (l:List Str):Prop:=Srt (fun s:Str=>s) l
theorem zhc {a b:List Ent} (ha:TG a) (hb:TG b) {p:Str}:find (both a b) p=(find b p).or (find a p):=zhI hb.srt
theorem Z1 {a b:List Ent} (ha:TG a):Srt Ent.path (both a b):=zhT ha.srt
theorem zoD {a b:List Ent} (ha:TG a):SrtS (turned a b):=by
 have:=yO (Z1 (b:=b) ha) (tudP a b)
 unfold Srt at this
 unfold turned
 show List.Pairwise _ _
 rw [List.pairwise_map]; exact this
theorem qV {a b:List Ent} (ha:TG a) (hb:TG b) {p:Str}:p∈turned a b↔find a p≠find b p:=by
 have hok:∀ {q},(∃ e,find a q=some e)∨(∃ e,find b q=some e)→pOk q=true:=by
  rintro q (⟨e,h⟩ | ⟨e,h⟩)
  ·exact ha.find_ok h
  ·exact hb.find_ok h
 unfold turned
 rw [List.mem_map]
 constructor
 ·rintro ⟨e,he,rfl⟩
  obtain ⟨h1,h2⟩:=List.mem_filter.1 he
  have:find (both a b) e.path=some e:=jR (Z1 ha) h1
  rw [zhc ha hb] at this
  have hp:pOk e.path=true:=by
   refine hok ?_
   cases hb':find b e.path with
   | some x=>exact .inr ⟨x,rfl⟩
   | none=>rw [hb'] at this; exact .inl ⟨e,by simpa using this⟩
  simp only [tudP,decide_eq_true_eq,j7 hp] at h2
  exact h2
 ·intro h
  cases hf:find (both a b) p with
  | none =>
   rw [zhc ha hb] at hf
   cases hb':find b p with
   | some x=>rw [hb'] at hf; cases hf
   | none=>rw [hb'] at hf h; simp at hf; rw [hf] at h; exact absurd rfl h
  | some e =>
   obtain ⟨h1,h2⟩:=jL hf
   refine ⟨e,List.mem_filter.2 ⟨h2,?_⟩,h1⟩
   rw [zhc ha hb] at hf
   have hp:pOk p=true:=by
    refine hok ?_
    cases hb':find b p with
    | some x=>exact .inr ⟨x,rfl⟩
    | none=>rw [hb'] at hf; exact .inl ⟨e,by simpa using hf⟩
   simp only [tudP,decide_eq_true_eq,h1,j7 hp]
   exact h
theorem zoT:∀ (n:Nat) {p u:Str},pOk p=true→u∈upsN n p→pOk u=true∧und p u=true∧(pUp u=[47]∨(names p).length≤n→pUp u=[47]∨pUp u∈upsN n p)
 | 0,p,u,_,h=>by simp [upsN] at h
 | n+1,p,u,hp,h=>by
  unfold upsN at h ⊢
  split at h
  ·simp at h
  ·rename_i hr
   rw [if_neg hr]
   obtain ⟨q1,q2,q3⟩:=yu hp hr
   rcases List.mem_cons.1 h with rfl | h
   ·refine ⟨q1,Zd hp,fun hh=>?_⟩
    by_cases hr2:pUp (pUp p)=[47]
    ·exact .inl hr2
    ·rcases hh with hh | hh
     ·exact .inl hh
     ·right
      have hn1:=(yr q1).1.1
      cases n with
      | zero=>omega
      | succ n=>refine List.mem_cons_of_mem _ ?_; unfold upsN; rw [if_neg hr2]; simp
   ·obtain ⟨h1,h2,h3⟩:=zoT n q1 h
    refine ⟨h1,Zc (yh h1) hr (Zd hp) h2,fun hh=>?_⟩
    rcases h3 (hh.imp id fun hh=>by omega) with h4 | h4
    ·exact .inl h4
    ·exact .inr (List.mem_cons_of_mem _ h4)
def DS (b:List Ent) (ps:List Str) (x:Mark):Prop:=(∃ p∈ps,difM b p=some x)∨∃ p∈ps,(difM b p).isSome=true∧∃ u∈upsN 3 p,x=⟨u,2,[]⟩
theorem zG {b:List Ent} {p:Str} {x:Mark} (h:difM b p=some x):x.path=p:=by
 unfold difM at h
 split at h
 ·cases h; rfl
 ·split at h
  ·cases h; rfl
  ·cases h
theorem zdP {b:List Ent} (hb:TG b) {p:Str} (hp:pOk p=true) (h:(difM b p).isSome=true):isDir b (pUp p)=true:=by
 unfold difM at h
 rw [j7 hp] at h
 cases hf:find b p with
 | none =>
  rw [hf] at h; simp only at h
  split at h
  ·assumption
  ·cases h
 | some e =>
  obtain ⟨h1,h2⟩:=jL hf
  have:=hb.up e h2
  rw [h1] at this; exact this
theorem zdO {b:List Ent} {p:Str} (hp:pOk p=true) (h:find b p=some ⟨p,true,[]⟩):difM b p=some ⟨p,2,[]⟩:=by
 unfold difM; rw [j7 hp,h]; rfl
theorem zoV {b:List Ent} (hb:TG b) {p u:Str} (hp:pOk p=true) (h:(difM b p).isSome=true) (hu:u∈upsN 3 p):pOk u=true∧und p u=true∧find b u=some ⟨u,true,[]⟩:=by
 obtain ⟨h1,h2,_⟩:=zoT 3 hp hu
 exact ⟨h1,h2,hb.anc _ (Nat.le_refl _) hp h1 h2 (zdP hb hp h)⟩
theorem DS.one {b:List Ent} (hb:TG b) {ps:List Str} (hps:∀ p∈ps,pOk p=true) {x y:Mark} (hx:DS b ps x) (hy:DS b ps y) (h:x.path=y.path):x=y:=by
 have key:∀ {z},DS b ps z→pOk z.path=true∧((∃ p∈ps,difM b p=some z∧z.path=p)∨(z=⟨z.path,2,[]⟩∧find b z.path=some ⟨z.path,true,[]⟩)):=by
  rintro z (⟨p,hp,e⟩ | ⟨p,hp,hs,u,hu,rfl⟩)
  ·have:=zG e
   exact ⟨by rw [this]; exact hps p hp,.inl ⟨p,hp,e,this⟩⟩
  ·have:=zoV hb (hps p hp) hs hu
   exact ⟨this.1,.inr ⟨rfl,this.2.2⟩⟩
 obtain ⟨hxp,hx⟩:=key hx
 obtain ⟨_,hy⟩:=key hy
 rcases hx with ⟨p,hp,e,e1⟩ | ⟨e,e1⟩<;>rcases hy with ⟨q,hq,f,f1⟩ | ⟨f,f1⟩
 ·have:p=q:=by rw [← e1,← f1,h]
  subst this; rw [e] at f; cases f; rfl
 ·rw [← h] at f1 f
  rw [← e1] at e
  rw [zdO hxp f1] at e; exact (Option.some.inj e).symm.trans f.symm
 ·rw [h] at e1 e hxp
  rw [← f1] at f
  rw [zdO hxp e1] at f; exact e.trans (Option.some.inj f)
 ·rw [e,f,h]
theorem zkc {α:Type} {key:α→Str} {t:List α} {e x:α} (hs:Srt key t) (h:∀ y∈t,key y=key e→y=e):x∈putG key t e↔x∈t∨x=e:=by
 have h1:x∈putG key t e↔fnd key (putG key t e) (key x)=some x:=jQ (yT hs)
 rw [h1,jT]
 by_cases hk:key e=key x
 ·rw [if_pos hk]
  constructor
  ·intro e'; cases e'; exact .inr rfl
  ·rintro (hx | rfl)
   ·rw [h x hx hk.symm]
   ·rfl
 ·rw [if_neg hk]
  constructor
  ·intro e'; exact .inl (jU e').2
  ·rintro (hx | rfl)
   ·exact jR hs hx
   ·exact absurd rfl hk
theorem zkg {l:List Mark} {u:Str} {x:Mark} (hs:Srt Mark.path l) (h:∀ y∈l,y.path=u→y=⟨u,2,[]⟩):x∈upsP l u↔x∈l∨x=⟨u,2,[]⟩:=by
 unfold upsP
 split
 ·exact zkc hs h
 ·rename_i hk
  unfold kind at hk
  cases hf:mfind l u with
  | none=>rw [hf] at hk; simp at hk
  | some m =>
   obtain ⟨h1,h2⟩:=qW hf
   have:=h m h2 h1
   constructor
   ·exact .inl
   ·rintro (h | rfl)
    ·exact h
    ·rw [← this]; exact h2
theorem znO {l:List Mark} {u:Str} (hs:Srt Mark.path l):Srt Mark.path (upsP l u):=by
 unfold upsP; split
 ·exact yT hs
 ·exact hs
theorem znK:∀ {us:List Str} {l:List Mark},Srt Mark.path l→Srt Mark.path (us.foldl upsP l)
 | [],_,h=>h
 | _::us,_,h=>znK (us:=us) (znO h)
theorem zj8:∀ {us:List Str} {l:List Mark} {x:Mark},Srt Mark.path l→(∀ u∈us,∀ y∈l,y.path=u→y=⟨u,2,[]⟩)→(x∈us.foldl upsP l↔x∈l∨∃ u∈us,x=⟨u,2,[]⟩)
 | [],l,x,_,_=>by simp
 | u::us,l,x,hs,h=>by
  have hm:=fun x=>zkg (x:=x) hs (h u (by simp))
  rw [List.foldl_cons,zj8 (us:=us) (znO hs) fun v hv y hy e=>?_,hm]
  ·simp only [List.mem_cons,exists_eq_or_imp,or_assoc]
  ·rcases (hm y).1 hy with hy | rfl
   ·exact h v (by simp [hv]) y hy e
   ·simp at e; rw [e]
theorem znH {b:List Ent} {out:List Mark} {p:Str} (hs:Srt Mark.path out):Srt Mark.path (difP b out p):=by
 unfold difP
 split
 ·exact znK (yT hs)
 ·exact hs
theorem zj6 {b:List Ent} (hb:TG b) {all:List Str} (hall:∀ p∈all,pOk p=true):∀ {ps:List Str} {out:List Mark},(∀ p∈ps,p∈all)→Srt Mark.path out→(∀ x∈out,DS b all x) →
  Srt Mark.path (ps.foldl (difP b) out)∧∀ x,x∈ps.foldl (difP b) out↔x∈out∨DS b ps x
 | [],out,_,hs,_=>⟨hs,fun x=>by simp [DS]⟩
 | p::ps,out,hps,hs,hout=>by
  have hp:=hps p (by simp)
  have step:Srt Mark.path (difP b out p)∧∀ x,x∈difP b out p↔x∈out∨DS b [p] x:=by
   refine ⟨znH hs,fun x=>?_⟩
   unfold difP
   cases hd:difM b p with
   | none=>simp [DS,hd]
   | some m =>
    have hm:DS b all m := .inl ⟨p,hp,hd⟩
    have hsome:(difM b p).isSome=true:=by rw [hd]; rfl
    have h1:=fun x=>zkc (x:=x) hs fun y hy e=>(hout y hy).one hb hall hm e
    have h2:x∈ups (lput out m) p↔x∈lput out m∨∃ u∈upsN 3 p,x=⟨u,2,[]⟩:=by
     refine zj8 (yT hs) fun u hu y hy e=>?_
     have hU:DS b all ⟨u,2,[]⟩ := .inr ⟨p,hp,hsome,u,hu,rfl⟩
     rcases (h1 y).1 hy with hy | rfl
     ·exact (hout y hy).one hb hall hU e
     ·exact hm.one hb hall hU e
    simp only
    rw [h2,h1]
    simp only [DS,List.mem_singleton,exists_eq_left,hd,Option.isSome_some,Option.some.injEq,true_and,or_assoc]
    constructor
    ·rintro (h | h | h)
     ·exact .inl h
     ·exact .inr (.inl h.symm)
     ·exact .inr (.inr h)
    ·rintro (h | h | h)
     ·exact .inl h
     ·exact .inr (.inl h.symm)
     ·exact .inr (.inr h)
  have hout2:∀ x∈difP b out p,DS b all x:=fun x hx=>by
   rcases (step.2 x).1 hx with hx | hx
   ·exact hout x hx
   ·rcases hx with ⟨q,hq,e⟩ | ⟨q,hq,e⟩
    ·simp at hq; subst hq; exact .inl ⟨q,hp,e⟩
    ·simp at hq; subst hq; exact .inr ⟨q,hp,e⟩
  obtain ⟨r1,r2⟩:=zj6 hb hall (ps:=ps) (fun q hq=>hps q (by simp [hq])) step.1 hout2
  refine ⟨r1,fun x=>?_⟩
  rw [List.foldl_cons,r2,step.2]
  simp only [DS,List.mem_cons,exists_eq_or_imp,List.not_mem_nil,false_and,exists_false,or_false,exists_eq_left]
  constructor
  ·rintro ((h | h | h) | h | h)
   ·exact .inl h
   ·exact .inr (.inl (.inl h))
   ·exact .inr (.inr (.inl h))
   ·exact .inr (.inl (.inr h))
   ·exact .inr (.inr (.inr h))
  ·rintro (h | (h | h) | h | h)
   ·exact .inl (.inl h)
   ·exact .inl (.inr (.inl h))
   ·exact .inr (.inl h)
   ·exact .inl (.inr (.inr h))
   ·exact .inr (.inr h)
theorem Za {a b:List Ent} (ha:TG a) (hb:TG b) {p:Str} (h:p∈turned a b):pOk p=true:=by
 have:=(qV ha hb).1 h
 cases ha':find a p with
 | some e=>exact ha.find_ok ha'
 | none =>
  cases hb':find b p with
  | some e=>exact hb.find_ok hb'
  | none=>rw [ha',hb'] at this; exact absurd rfl this
theorem zdV {a b:List Ent} (ha:TG a) (hb:TG b):Srt Mark.path (diff a b) :=
 (zj6 hb (fun _ h=>Za ha hb h) (fun _ h=>h) List.Pairwise.nil (fun _ h=>by cases h)).1
theorem qR {a b:List Ent} (ha:TG a) (hb:TG b) {x:Mark}:x∈diff a b↔DS b (turned a b) x:=by
 have:=(zj6 hb (all:=turned a b) (fun _ h=>Za ha hb h) (fun _ h=>h) (out:=[]) List.Pairwise.nil (fun _ h=>by cases h)).2 x
 unfold diff; rw [this]; simp
theorem zH {a b:List Ent} (ha:TG a) (hb:TG b) {x:Mark} (h:x∈diff a b):pOk x.path=true ∧
  ((∃ e,find b x.path=some e∧x=⟨x.path,if e.dir=true then 2 else 1,e.data⟩)∨(find b x.path=none∧isDir b (pUp x.path)=true∧x=⟨x.path,3,[]⟩∧∃ e,find a x.path=some e)):=by
 rcases (qR ha hb).1 h with ⟨p,hp,e⟩ | ⟨p,hp,hs,u,hu,rfl⟩
 ·have hpo:=Za ha hb hp
  have hx:=zG e
  rw [hx]
  refine ⟨hpo,?_⟩
  have ht:=(qV ha hb).1 hp
  unfold difM at e
  rw [j7 hpo] at e
  cases hf:find b p with
  | some y=>rw [hf] at e; cases e; exact .inl ⟨y,rfl,rfl⟩
  | none =>
   rw [hf] at e
   simp only at e
   split at e
   ·cases e
    refine .inr ⟨rfl,by assumption,rfl,?_⟩
    cases ha':find a p with
    | some y=>exact ⟨y,rfl⟩
    | none=>rw [ha',hf] at ht; exact absurd rfl ht
   ·cases e
 ·have:=zoV hb (Za ha hb hp) hs hu
  exact ⟨this.1,.inl ⟨_,this.2.2,rfl⟩⟩
theorem zdT {a b:List Ent} (ha:TG a) (hb:TG b):lOk (diff a b)=true:=by
 have hs:=zdV ha hb
 have hm:∀ m∈diff a b,mok m=true:=fun m hm=>by
  obtain ⟨hp,h | h⟩:=zH ha hb hm
  ·obtain ⟨e,h1,h2⟩:=h
   have he:=(jL h1).2
   have hd:=hb.datOk he
   rw [h2]
   simp only [mok,hp,hd]
   cases hdir:e.dir with
   | true=>simp [hb.data he hdir]
   | false=>simp
  ·rw [h.2.2.1]
   simp only [mok,hp]; rfl
 refine qo.2 ⟨?_,hs,hm,fun m hm=>?_,fun m hm hk=>?_⟩
 ·have h1:((diff a b).map Mark.path).length≤(a.map Ent.path++b.map Ent.path).length:=by
   refine zkD (yR hs) fun p hp=>?_
   obtain ⟨m,hm,rfl⟩:=List.mem_map.1 hp
   obtain ⟨_,h | h⟩:=zH ha hb hm
   ·obtain ⟨e,h1,_⟩:=h
    obtain ⟨h2,h3⟩:=jL h1
    exact List.mem_append.2 (.inr (List.mem_map.2 ⟨e,h3,h2⟩))
   ·obtain ⟨_,_,_,e,h1⟩:=h
    obtain ⟨h2,h3⟩:=jL h1
    exact List.mem_append.2 (.inl (List.mem_map.2 ⟨e,h3,h2⟩))
  have:=ha.len
  have:=hb.len
  simp at h1; omega
 ·rw [qj]
  have key:pUp m.path=[47]∨(⟨pUp m.path,2,[]⟩:Mark)∈diff a b:=by
   rcases (qR ha hb).1 hm with ⟨p,hp,e⟩ | ⟨p,hp,hsm,u,hu,rfl⟩
   ·rw [zG e]
    by_cases hr:pUp p=[47]
    ·exact .inl hr
    ·refine .inr ((qR ha hb).2 (.inr ⟨p,hp,by rw [e]; rfl,pUp p,?_,rfl⟩))
     unfold upsN; rw [if_neg hr]; simp
   ·have hpo:=Za ha hb hp
    rcases (zoT 3 hpo hu).2.2 (.inr (yr hpo).1.2) with h | h
    ·exact .inl h
    ·exact .inr ((qR ha hb).2 (.inr ⟨p,hp,hsm,_,h,rfl⟩))
  rcases key with h | h
  ·exact .inl h
  ·exact .inr ⟨_,jR hs h,.inl rfl⟩
 ·cases hb':bare (diff a b) m.path with
  | false=>rfl
  | true =>
   obtain ⟨x,hx,hk4,_⟩:=ye hb'
   obtain ⟨_,h | h⟩:=zH ha hb hx
   ·obtain ⟨e,_,h2⟩:=h
    rw [h2] at hk4
    simp only at hk4
    split at hk4<;>omega
   ·rw [h.2.2.1] at hk4; simp at hk4
theorem zk7 {a b:List Ent} (ha:TG a) (hb:TG b):onRaw (diff a b) a=b:=by
 have hs:=zdV ha hb
 have hD:LG (diff a b):=LG.of (zdT ha hb)
 refine yN (yS ha.srt) hb.srt fun p=>?_
 show find _ p=find b p
 rw [yj hs ha.srt]
 cases hf:mfind (diff a b) p with
 | some m =>
  obtain ⟨h1,h2⟩:=qW hf
  simp only
  obtain ⟨_,h | h⟩:=zH ha hb h2
  ·obtain ⟨e,h3,h4⟩:=h
   rw [h1] at h3
   rw [h3,h4]
   obtain ⟨g1,g2⟩:=jL h3
   obtain ⟨ep,ed,edat⟩:=e
   simp only at g1 h4 ⊢
   cases ed with
   | true=>have:=hb.data g2 rfl; simp at this; simp [onEnt,h1,g1,this]
   | false=>simp [onEnt,h1,g1]
  ·rw [h1] at h
   rw [h.1,h.2.2.1]; rfl
 | none =>
  simp only
  by_cases hh:hides (diff a b) p=true
  ·rw [if_pos hh]
   obtain ⟨m,hm,hk,hu⟩:=yf hh
   have hne:m.path≠p:=fun e=>by
    have h2:mfind (diff a b) m.path=some m:=jR hs hm
    rw [e,hf] at h2; cases h2
   have hu:=hu.resolve_left hne
   cases hfb:find b p with
   | none=>rfl
   | some e =>
    obtain ⟨hpm,h⟩:=zH ha hb hm
    have hd:=hb.anc' hfb hpm hu
    rcases h with ⟨y,h1,h2⟩ | h
    ·rw [hd] at h1; cases h1
     rw [h2] at hk; simp at hk
    ·rw [hd] at h; cases h.1
  ·rw [if_neg hh]
   apply Classical.byContradiction; intro hne
   have up:∀ (n:Nat) {q:Str},(names q).length≤n→pOk q=true→(∃ e,find a q=some e)→find b q=none→hides (diff a b) q=true:=by
    intro n
    induction n with
    | zero=>intro q hn hq; have:=(yr hq).1.1; omega
    | succ n ih =>
     rintro q hn hq ⟨e,h1⟩ h2
     have ht:q∈turned a b:=(qV ha hb).2 (by rw [h1,h2]; simp)
     cases hd:isDir b (pUp q) with
     | true =>
      have:difM b q=some ⟨q,3,[]⟩:=by unfold difM; rw [j7 hq,h2]; simp only [hd,if_true]
      exact qi ((qR ha hb).2 (.inl ⟨q,ht,this⟩)) (by simp) (.inl rfl)
     | false =>
      have hr:pUp q≠[47]:=by intro e'; rw [e'] at hd; cases hd
      obtain ⟨u1,_,u3⟩:=yu hq hr
      obtain ⟨g1,g2⟩:=jL h1
      have hda:=ha.up e g2
      rw [g1] at hda
      have hfa:=ha.isDir_ent u1 hda
      refine hD.hides_und hr (Zd hq) ?_
      cases hfb:find b (pUp q) with
      | none=>exact ih (by omega) u1 ⟨_,hfa⟩ hfb
      | some y =>
       have hyd:y.dir=false:=by
        unfold isDir at hd; rw [j7 u1,hfb] at hd; exact hd
       have ht2:pUp q∈turned a b:=(qV ha hb).2 (by rw [hfa,hfb]; intro e'; cases e'; cases hyd)
       have:difM b (pUp q)=some ⟨pUp q,1,y.data⟩:=by unfold difM; rw [j7 u1,hfb]; simp [hyd]
       exact qi ((qR ha hb).2 (.inl ⟨_,ht2,this⟩)) (by simp) (.inl rfl)
   have ht:p∈turned a b:=(qV ha hb).2 hne
   have hp:=Za ha hb ht
   cases hfb:find b p with
   | some e =>
    have:difM b p=some ⟨p,if e.dir=true then 2 else 1,e.data⟩:=by unfold difM; rw [j7 hp,hfb]
    have h2:mfind (diff a b) p=some _:=jR (key:=Mark.path) hs ((qR ha hb).2 (.inl ⟨p,ht,this⟩))
    rw [hf] at h2; cases h2
   | none =>
    cases hfa:find a p with
    | none=>rw [hfa,hfb] at hne; exact hne rfl
    | some e=>exact hh (up _ (Nat.le_refl _) hp ⟨e,hfa⟩ hfb)
theorem zju {a b:List Ent} (ha:tOk a=true) (hb:tOk b=true):lOn (diff a b) a=some b:=by
 have ga:=TG.of ha
 have gb:=TG.of hb
 unfold lOn
 rw [if_pos (by simp [zdT ga gb,ha]),zk7 ga gb,if_pos gb.len]

def Sorts {α:Type} (key:α→Str) (X S:List α):Prop:=S.Perm X∧S.Pairwise fun a b=>ltS (key b) (key a)=false
theorem Sorts.eq {α:Type} {key:α→Str} {X S Y:List α} (h:Sorts key X S) (hn:(X.map key).Nodup) (hY:Srt key Y) (hm:∀ e,e∈X↔e∈Y):S=Y:=by
 have hn2:(S.map key).Nodup:=(h.1.map key).nodup_iff.2 hn
 refine znM ?_ hY fun e=>by rw [← hm]; exact h.1.mem_iff
 unfold List.Nodup at hn2
 rw [List.pairwise_map] at hn2
 refine (h.2.and hn2).imp fun ⟨h1,h2⟩=>?_
 rcases qL h1 with h3 | h3
 ·exact absurd h3.symm h2
 ·exact h3
theorem Sorts.len {α:Type} {key:α→Str} {X S:List α} (h:Sorts key X S):S.length=X.length:=h.1.length_eq
def mergeT:List Ent→List Ent→List Str
 | [],[]=>[]
 | x::a,[]=>x.path::mergeT a []
 | [],y::b=>y.path::mergeT [] b
 | x::a,y::b=>if ltS x.path y.path=true then x.path::mergeT a (y::b) else if ltS y.path x.path=true then y.path::mergeT (x::a) b else if x=y then mergeT a b else x.path::mergeT a b
termination_by a b=>a.length+b.length
theorem yP {α:Type} {key:α→Str} {x:α} {l:List α} (hs:Srt key (x::l)) {p:Str} {e:α} (h:fnd key l p=some e):ltS (key x) p=true:=by
 unfold Srt at hs
 rw [List.pairwise_cons] at hs
 obtain ⟨h1,h2⟩:=jU h
 rw [← h1]; exact hs.1 e h2
theorem yU {α:Type} {key:α→Str} {x:α} {l:List α} (hs:Srt key (x::l)):Srt key l:=by
 unfold Srt at hs; rw [List.pairwise_cons] at hs; exact hs.2
theorem jJ {x:Ent} {l:List Ent} {p:Str}:find (x::l) p=if x.path=p then some x else find l p:=jP
theorem zhb {l:List Ent} {y:Ent} (hs:Srt Ent.path (y::l)) {p:Str} (h:ltS p y.path=true):find (y::l) p=none:=by
 refine jS.2 fun e he hk=>?_
 rcases List.mem_cons.1 he with rfl | he
 ·rw [hk,qM] at h; cases h
 ·unfold Srt at hs
  rw [List.pairwise_cons] at hs
  have:=qP h (hs.1 e he)
  rw [hk,qM] at this; cases this
theorem zhd {l:List Ent} {y:Ent} (hs:Srt Ent.path (y::l)):find l y.path=none:=by
 unfold Srt at hs
 rw [List.pairwise_cons] at hs
 exact jS.2 fun e he=>(qN (hs.1 e he)).symm
theorem zkl:∀ (n:Nat) {a b:List Ent},a.length+b.length≤n→Srt Ent.path a→Srt Ent.path b→SrtS (mergeT a b)∧∀ p,p∈mergeT a b↔find a p≠find b p:=by
 intro n
 induction n with
 | zero =>
  intro a b hl _ _
  cases a with
  | cons=>simp at hl
  | nil=>cases b with
   | cons=>simp at hl
   | nil=>exact ⟨by rw [mergeT]; exact List.Pairwise.nil,fun p=>by rw [mergeT]; simp⟩
 | succ n ih =>
  intro a b hl ha hb
  have hcons:∀ {x:Ent} {a b:List Ent} {p0:Str},(SrtS (mergeT a b)∧∀ p,p∈mergeT a b↔find a p≠find b p)→(∀ p,(∃ e,find a p=some e)→ltS x.path p=true)→(∀ p,(∃ e,find b p=some e)→ltS x.path p=true) →
    SrtS (x.path::mergeT a b):=by
   rintro x a b _ ⟨h1,h2⟩ h3 h4
   refine List.pairwise_cons.2 ⟨fun p hp=>?_,h1⟩
   have:=(h2 p).1 hp
   cases hfa:find a p with
   | some e=>exact h3 p ⟨e,hfa⟩
   | none =>
    cases hfb:find b p with
    | some e=>exact h4 p ⟨e,hfb⟩
    | none=>rw [hfa,hfb] at this; exact absurd rfl this
  cases a with
  | nil =>
   cases b with
   | nil=>exact ⟨by rw [mergeT]; exact List.Pairwise.nil,fun p=>by rw [mergeT]; simp⟩
   | cons y b =>
    have h:=ih (a:=[]) (b:=b) (by simp at hl ⊢; omega) ha (yU hb)
    rw [mergeT]
    refine ⟨hcons (p0:=[]) h (fun p ⟨e,he⟩=>by cases he) (fun p ⟨e,he⟩=>yP hb he),fun p=>?_⟩
    rw [List.mem_cons,h.2,jJ]
    by_cases hp:y.path=p
    ·rw [if_pos hp]; simp [hp,find]
    ·rw [if_neg hp]; exact or_iff_right fun e=>hp (Eq.symm e)
  | cons x a =>
   cases b with
   | nil =>
    have h:=ih (a:=a) (b:=[]) (by simp at hl ⊢; omega) (yU ha) hb
    rw [mergeT]
    refine ⟨hcons (p0:=[]) h (fun p ⟨e,he⟩=>yP ha he) (fun p ⟨e,he⟩=>by cases he),fun p=>?_⟩
    rw [List.mem_cons,h.2,jJ]
    by_cases hp:x.path=p
    ·rw [if_pos hp]; simp [hp,find]
    ·rw [if_neg hp]; exact or_iff_right fun e=>hp (Eq.symm e)
   | cons y b =>
    rw [mergeT]
    by_cases h1:ltS x.path y.path=true
    ·rw [if_pos h1]
     have h:=ih (a:=a) (b:=y::b) (by simp at hl ⊢; omega) (yU ha) hb
     refine ⟨hcons (p0:=[]) h (fun p ⟨e,he⟩=>yP ha he) (fun p ⟨e,he⟩=>?_),fun p=>?_⟩
     ·rw [jJ] at he
      split at he
      ·rename_i hy; rw [← hy]; exact h1
      ·exact qP h1 (yP hb he)
     ·rw [List.mem_cons,h.2,jJ (x:=x)]
      by_cases hp:x.path=p
      ·rw [if_pos hp,zhb hb (by rw [← hp]; exact h1)]; simp [hp]
      ·rw [if_neg hp]; exact or_iff_right fun e=>hp (Eq.symm e)
    ·rw [if_neg h1]
     by_cases h2:ltS y.path x.path=true
     ·rw [if_pos h2]
      have h:=ih (a:=x::a) (b:=b) (by simp at hl ⊢; omega) ha (yU hb)
      refine ⟨hcons (p0:=[]) h (fun p ⟨e,he⟩=>?_) (fun p ⟨e,he⟩=>yP hb he),fun p=>?_⟩
      ·rw [jJ] at he
       split at he
       ·rename_i hy; rw [← hy]; exact h2
       ·exact qP h2 (yP ha he)
      ·rw [List.mem_cons,h.2,jJ (x:=y)]
       by_cases hp:y.path=p
       ·rw [if_pos hp,zhb ha (by rw [← hp]; exact h2)]; simp [hp]
       ·rw [if_neg hp]; exact or_iff_right fun e=>hp (Eq.symm e)
     ·rw [if_neg h2]
      have he:x.path=y.path:=by
       rcases qL (by simpa using h1:ltS x.path y.path=false) with h3 | h3
       ·exact h3
       ·exact absurd h3 h2
      have h:=ih (a:=a) (b:=b) (by simp at hl ⊢; omega) (yU ha) (yU hb)
      have hfa:=zhd ha
      have hfb:=zhd hb
      by_cases hxy:x=y
      ·rw [if_pos hxy]
       refine ⟨h.1,fun p=>?_⟩
       rw [h.2,jJ,jJ,← he,hxy]
       by_cases hp:y.path=p
       ·rw [if_pos hp,if_pos hp,← hp,hfb,← he,hfa]; simp
       ·rw [if_neg hp,if_neg hp]
      ·rw [if_neg hxy]
       refine ⟨hcons (p0:=[]) h (fun p ⟨e,h'⟩=>yP ha h') (fun p ⟨e,h'⟩=>by rw [he]; exact yP hb h'),fun p=>?_⟩
       rw [List.mem_cons,h.2,jJ,jJ,← he]
       by_cases hp:x.path=p
       ·rw [if_pos hp,if_pos hp]; simp [hp,hxy]
       ·rw [if_neg hp,if_neg hp]; exact or_iff_right fun e=>hp (Eq.symm e)
theorem zkm {a b:List Ent} (ha:TG a) (hb:TG b):mergeT a b=turned a b:=by
 obtain ⟨h1,h2⟩:=zkl _ (Nat.le_refl _) ha.srt hb.srt
 exact znM h1 (zoD ha) fun p=>by rw [h2,qV ha hb]
def addUp (l:List Mark) (u:Str):List Mark:=if (mfind l u).isSome=true then l else l++[⟨u,2,[]⟩]
theorem zj4 {l:List Mark} {u:Str} {x:Mark} (h:∀ y∈l,y.path=u→y=⟨u,2,[]⟩):x∈addUp l u↔x∈l∨x=⟨u,2,[]⟩:=by
 unfold addUp
 split
 ·rename_i hs
  obtain ⟨m,hm⟩:=Option.isSome_iff_exists.1 hs
  obtain ⟨h1,h2⟩:=qW hm
  have:=h m h2 h1
  constructor
  ·exact .inl
  ·rintro (h | rfl)
   ·exact h
   ·rw [← this]; exact h2
 ·simp
theorem zkC {l:List Mark} {u:Str} (h:(l.map Mark.path).Nodup):((addUp l u).map Mark.path).Nodup:=by
 unfold addUp
 split
 ·exact h
 ·rename_i hs
  have:mfind l u=none:=by cases hm:mfind l u with
   | none=>rfl
   | some m=>rw [hm] at hs; exact absurd rfl hs
  rw [List.map_append,List.nodup_append]
  refine ⟨h,by simp,fun p hp q hq=>?_⟩
  simp at hq
  subst hq
  obtain ⟨m,hm,rfl⟩:=List.mem_map.1 hp
  exact jS.1 this m hm
theorem zhN:∀ {us:List Str} {l:List Mark},(l.map Mark.path).Nodup→(∀ u∈us,∀ y∈l,y.path=u→y=⟨u,2,[]⟩) →
  ((us.foldl addUp l).map Mark.path).Nodup∧∀ x,x∈us.foldl addUp l↔x∈l∨∃ u∈us,x=⟨u,2,[]⟩
 | [],l,hn,_=>⟨hn,fun x=>by simp⟩
 | u::us,l,hn,h=>by
  have hm:=fun x=>zj4 (x:=x) (h u (by simp))
  obtain ⟨h1,h2⟩:=zhN (us:=us) (zkC (u:=u) hn) fun v hv y hy e=>by
   rcases (hm y).1 hy with hy | rfl
   ·exact h v (by simp [hv]) y hy e
   ·simp at e; rw [e]
  refine ⟨h1,fun x=>?_⟩
  rw [List.foldl_cons,h2,hm]
  simp only [List.mem_cons,exists_eq_or_imp,or_assoc]
def addUps (l:List Mark) (m:Mark):List Mark:=(upsN 3 m.path).foldl addUp l
def difX (a b:List Ent):List Mark:=((turned a b).filterMap (difM b)).foldl addUps ((turned a b).filterMap (difM b))
theorem zhP {b:List Ent} (hb:TG b) {all:List Str} (hall:∀ p∈all,pOk p=true):∀ {ms:List Mark} {l:List Mark},(∀ m∈ms,∃ p∈all,difM b p=some m)→(l.map Mark.path).Nodup→(∀ x∈l,DS b all x) →
  ((ms.foldl addUps l).map Mark.path).Nodup∧∀ x,x∈ms.foldl addUps l↔x∈l∨∃ m∈ms,∃ u∈upsN 3 m.path,x=⟨u,2,[]⟩
 | [],l,_,hn,_=>⟨hn,fun x=>by simp⟩
 | m::ms,l,hms,hn,hl=>by
  obtain ⟨p,hp,hd⟩:=hms m (by simp)
  have hpm:=zG hd
  have hU:∀ u∈upsN 3 m.path,DS b all ⟨u,2,[]⟩:=fun u hu => .inr ⟨p,hp,by rw [hd]; rfl,u,by rw [← hpm]; exact hu,rfl⟩
  obtain ⟨h1,h2⟩:=zhN (us:=upsN 3 m.path) hn fun u hu y hy e=>(hl y hy).one hb hall (hU u hu) e
  obtain ⟨h3,h4⟩:=zhP hb hall (ms:=ms) (l:=addUps l m) (fun x hx=>hms x (by simp [hx])) h1 fun x hx=>by
   rcases (h2 x).1 hx with hx | ⟨u,hu,rfl⟩
   ·exact hl x hx
   ·exact hU u hu
  refine ⟨h3,fun x=>?_⟩
  rw [List.foldl_cons,h4]
  have:x∈addUps l m↔x∈l∨∃ u∈upsN 3 m.path,x=⟨u,2,[]⟩:=h2 x
  rw [this]
  simp only [List.mem_cons,exists_eq_or_imp,or_assoc]
theorem zdS {a b:List Ent} (ha:TG a) (hb:TG b):((difX a b).map Mark.path).Nodup∧∀ x,x∈difX a b↔x∈diff a b:=by
 have hall:∀ p∈turned a b,pOk p=true:=fun _ h=>Za ha hb h
 have hmem:∀ m,m∈(turned a b).filterMap (difM b)↔∃ p∈turned a b,difM b p=some m:=fun m=>List.mem_filterMap
 have hn:(((turned a b).filterMap (difM b)).map Mark.path).Nodup:=by
  have hs:=zoD (b:=b) ha
  unfold List.Nodup
  rw [List.pairwise_map,List.pairwise_filterMap]
  refine List.Pairwise.imp (fun {p q} h m hm m' hm'=>?_) hs
  rw [zG hm,zG hm']; exact qN h
 obtain ⟨h1,h2⟩:=zhP hb hall (ms:=(turned a b).filterMap (difM b)) (fun m hm=>(hmem m).1 hm) hn fun x hx => .inl ((hmem x).1 hx)
 refine ⟨h1,fun x=>?_⟩
 have e:x∈difX a b↔_:=h2 x
 rw [e,qR ha hb,hmem]
 unfold DS
 refine or_congr Iff.rfl ?_
 constructor
 ·rintro ⟨m,hm,u,hu,rfl⟩
  obtain ⟨p,hp,hd⟩:=(hmem m).1 hm
  exact ⟨p,hp,by rw [hd]; rfl,u,by rw [← zG hd]; exact hu,rfl⟩
 ·rintro ⟨p,hp,hs,u,hu,rfl⟩
  obtain ⟨m,hm⟩:=Option.isSome_iff_exists.1 hs
  exact ⟨m,(hmem m).2 ⟨p,hp,hm⟩,u,by rw [zG hm]; exact hu,rfl⟩
theorem zdR {a b:List Ent} (ha:TG a) (hb:TG b) {S:List Mark} (h:Sorts Mark.path (difX a b) S):S=diff a b :=
 h.eq (zdS ha hb).1 (zdV ha hb) (zdS ha hb).2
def onX (l:List Mark) (t:List Ent):List Ent:=(t.filter fun e=>!(mfind l e.path).isSome&&!hides l e.path)++l.filterMap onEnt
theorem zk4 {l:List Mark} {t:List Ent} (hl:lOk l=true) (ht:Srt Ent.path t) (e:Ent):e∈onX l t↔e∈onRaw l t:=by
 rw [zkb hl ht]
 unfold onX
 rw [List.mem_append,List.mem_filterMap,List.mem_filter]
 constructor
 ·rintro (⟨h1,h2⟩ | h)
  ·simp only [Bool.and_eq_true,Bool.not_eq_true',Option.isSome_eq_false_iff,Option.isNone_iff_eq_none] at h2
   exact .inr ⟨h2.1,h2.2,h1⟩
  ·exact .inl h
 ·rintro (h | ⟨h1,h2,h3⟩)
  ·exact .inr h
  ·exact .inl ⟨h3,by simp [h1,h2]⟩
theorem zk5 {l:List Mark} {t:List Ent} (hl:Srt Mark.path l) (ht:Srt Ent.path t):((onX l t).map Ent.path).Nodup:=by
 unfold onX
 rw [List.map_append,List.nodup_append]
 refine ⟨yR (yO ht _),?_,fun p hp q hq=>?_⟩
 ·unfold List.Nodup
  rw [List.pairwise_map,List.pairwise_filterMap]
  refine List.Pairwise.imp (fun {x y} h e he f hf=>?_) hl
  rw [yi he,yi hf]; exact qN h
 ·rintro rfl
  obtain ⟨e,he,rfl⟩:=List.mem_map.1 hp
  obtain ⟨f,hf,hq⟩:=List.mem_map.1 hq
  obtain ⟨m,hm,hf⟩:=List.mem_filterMap.1 hf
  have h2:=(List.mem_filter.1 he).2
  have h3:mfind l m.path=some m:=jR hl hm
  rw [← hq,yi hf,h3] at h2
  simp at h2
theorem zk6 {l:List Mark} {t S:List Ent} (hl:lOk l=true) (ht:Srt Ent.path t) (h:Sorts Ent.path (onX l t) S):S=onRaw l t :=
 h.eq (zk5 (qo.1 hl).2.1 ht) (yS ht) (zk4 hl ht)
theorem zk3 {l:List Mark} {t:List Ent} (hl:lOk l=true) (ht:Srt Ent.path t):(onX l t).length=(onRaw l t).length:=by
 have h1:∀ {α:Type} {key:α→Str} {a b:List α},(a.map key).Nodup→(∀ e,e∈a→e∈b)→[DecidableEq α]→a.length≤b.length:=by
  intro α key a b hn h _
  refine zkD ?_ h
  unfold List.Nodup at hn ⊢
  rw [List.pairwise_map] at hn
  exact hn.imp fun h e=>h (by rw [e])
 have ha:=h1 (key:=Ent.path) (zk5 (qo.1 hl).2.1 ht) (fun e he=>(zk4 hl ht e).1 he)
 have hb:=h1 (key:=Ent.path) (yR (yS (l:=l) ht)) (fun e he=>(zk4 hl ht e).2 he)
 omega
def upC2 (t:List Ent) (p:Str):Int:=if pUp p=[47] then 0 else match find t (pUp p) with
 | none=>2
 | some e=>if e.dir=true then 0 else 3
theorem Ze {t:List Ent} {p:Str}:upC2 t p=0↔isDir t (pUp p)=true:=by
 unfold upC2 isDir get
 by_cases h:pUp p=[47]
 ·rw [if_pos h,if_pos h]; simp [rootE]
 ·rw [if_neg h,if_neg h]
  cases find t (pUp p) with
  | none=>simp
  | some e=>cases e.dir<;>simp

def opOkB (op:Op):Bool:=(decide (1≤op.kind)&&decide (op.kind≤5))&&(pOk op.path&&(if op.kind=5 then pOk op.dest&&op.data==[] else op.dest==[]&&(dataOk op.data&&(op.kind==2||op.data==[]))))
def kids (t:List Ent) (p:Str):List Str:=(t.filter fun e=>pUp e.path==p).map fun e=>pName e.path
def upC (t:List Ent) (p:Str):Int:=match get t (pUp p) with
 | none=>2
 | some e=>if e.dir=true then 0 else 3
def newC (t:List Ent) (p:Str):Int:=if upC t p≠0 then upC t p else if (get t p).isSome=true then 4 else if 16≤t.length then 8 else 0
def putC (t:List Ent) (p:Str):Int:=if newC t p=4 then (if ((get t p).getD noE).dir=true then 5 else 0) else newC t p
def offC (t:List Ent) (op:Op):Int:=match get t op.path with
 | none=>2
 | some e=>if op.kind=3∧e.dir=true then 5 else if op.kind=4∧e.dir=false then 3 else if 0 < (kids t op.path).length then 6 else 0
def movC (t:List Ent) (op:Op):Int:=if (get t op.path).isSome=false then 2 else if upC t op.dest≠0 then upC t op.dest else if (get t op.dest).isSome=true then 4 else if und op.dest op.path=true then 7 else
 if t.all (fun e=>(pMove e.path op.path op.dest).isSome)=true then 0 else 8
def codeT (t:List Ent) (op:Op):Int:=if op.kind=1 then newC t op.path else if op.kind=2 then putC t op.path else if op.kind=5 then movC t op else offC t op
def offT (t:List Ent) (p:Str):List Ent:=t.filter fun e=>e.path != p
def movE (f to:Str) (e:Ent):Ent:={ e with path:=(pMove e.path f to).getD [] }
def movT (t:List Ent) (f to:Str):List Ent:=t.foldl (fun out e=>put out (movE f to e)) []
def doT (t:List Ent) (op:Op):List Ent:=if op.kind=1 then put t ⟨op.path,true,[]⟩ else if op.kind=2 then put t ⟨op.path,false,op.data⟩ else if op.kind=5 then movT t op.path op.dest else offT t op.path
def treeDo (t:List Ent) (op:Op):List Ent × Int:=if tOk t=true then (if opOkB op=true then (if codeT t op=0 then (doT t op,0) else (t,codeT t op)) else (t,1)) else ([],1)
def eTD (x:List Ent × Int):CV := .tup [eEnts x.1,CI x.2]
theorem zd3 (o:Option Str):eOpt o = .tup [CS (o.getD []),CB o.isSome]:=by cases o<;>rfl
theorem zkv {f to:Str}:∀ {t out:List Ent},(t.foldl (fun out e=>put out (movE f to e)) out).length≤out.length+t.length
 | [],out=>by simp
 | e::t,out=>by
  have h:=zkv (f:=f) (to:=to) (t:=t) (out:=put out (movE f to e))
  have h2:(put out (movE f to e)).length≤out.length+1:=yz
  simp only [List.foldl_cons,List.length_cons]
  omega
theorem zdW {t:List Ent} {op:Op}:(doT t op).length≤t.length+1:=by
 unfold doT
 split
 ·exact yz
 ·split
  ·exact yz
  ·split
   ·have:=zkv (f:=op.path) (to:=op.dest) (t:=t) (out:=[])
    unfold movT; simp at this; omega
   ·have:=List.length_filter_le (fun e:Ent=>e.path != op.path) t
    unfold offT; omega
theorem zow {t:List Ent} {op:Op}:(treeDo t op).1.length≤17:=by
 unfold treeDo
 split
 ·rename_i h
  have:=(yZ h).1
  have h2:=zdW (t:=t) (op:=op)
  split
  ·split<;>(simp only; omega)
  ·simp only; omega
 ·simp

theorem zoM {t:List Ent} {p:Str}:upC2 t p=upC t p:=by
 unfold upC2 upC get
 by_cases h:pUp p=[47]
 ·rw [if_pos h,if_pos h]<;>rfl
 ·rw [if_neg h,if_neg h]<;>rfl
theorem Zf {t:List Ent} {p:Str}:upC t p=0↔isDir t (pUp p)=true:=by rw [← zoM]; exact Ze
theorem yp {op:Op} (h:opOkB op=true):pOk op.path=true:=by
 simp only [opOkB,Bool.and_eq_true] at h; exact h.2.1
theorem zle {op:Op} (h:opOkB op=true):1≤op.kind∧op.kind≤5:=by
 simp only [opOkB,Bool.and_eq_true,decide_eq_true_eq] at h; exact h.1
theorem op_5 {op:Op} (h:opOkB op=true) (k:op.kind=5):pOk op.dest=true∧op.data=[]:=by
 simp only [opOkB,Bool.and_eq_true,k,if_true] at h
 exact ⟨h.2.2.1,by simpa using h.2.2.2⟩
theorem zlf {op:Op} (h:opOkB op=true) (k:op.kind≠5):op.dest=[]∧dataOk op.data=true∧(op.kind=2∨op.data=[]):=by
 simp only [opOkB,Bool.and_eq_true,if_neg k] at h
 exact ⟨by simpa using h.2.2.1,h.2.2.2.1,by simpa using h.2.2.2.2⟩
theorem qT {α:Type} {key:α→Str} {t:List α} {e x:α} (hs:Srt key t):x∈putG key t e↔x=e∨(x∈t∧key x≠key e):=by
 rw [jQ (yT hs),jT]
 by_cases h:key e=key x
 ·rw [if_pos h]
  constructor
  ·intro h2; exact .inl (Option.some.inj h2).symm
  ·rintro (rfl | h2)
   ·rfl
   ·exact absurd h.symm h2.2
 ·rw [if_neg h,← jQ hs]
  constructor
  ·intro h2; exact .inr ⟨h2,fun e=>h e.symm⟩
  ·rintro (rfl | h2)
   ·exact absurd rfl h
   ·exact h2.1
theorem new0 {t:List Ent} {p:Str} (hp:pOk p=true):newC t p=0↔isDir t (pUp p)=true∧find t p=none∧t.length < 16:=by
 unfold newC
 rw [j7 hp]
 by_cases h:upC t p=0
 ·rw [if_neg (by simp [h])]
  have h':=Zf.1 h
  cases hf:find t p with
  | some e=>simp
  | none =>
   simp only [Option.isSome_none,Bool.false_eq_true,if_false]
   by_cases hl:16≤t.length
   ·rw [if_pos hl]; simp; omega
   ·rw [if_neg hl]; simp [h']; omega
 ·rw [if_pos h]
  constructor
  ·intro e; exact absurd e h
  ·rintro ⟨e,_⟩; exact absurd (Zf.2 e) h
theorem new4 {t:List Ent} {p:Str} (hp:pOk p=true) (h:newC t p=4):isDir t (pUp p)=true∧∃ e,find t p=some e:=by
 unfold newC at h
 rw [j7 hp] at h
 split at h
 ·rename_i h1
  unfold upC at h
  split at h
  ·cases h
  ·split at h<;>cases h
 ·rename_i h1
  refine ⟨Zf.1 (by simpa using h1),?_⟩
  split at h
  ·rename_i h2; exact Option.isSome_iff_exists.1 h2
  ·split at h<;>cases h
theorem put0 {t:List Ent} {p:Str} (hp:pOk p=true) (h:putC t p=0):isDir t (pUp p)=true∧((find t p=none∧t.length < 16)∨∃ e,find t p=some e∧e.dir=false):=by
 unfold putC at h
 rw [j7 hp] at h
 split at h
 ·rename_i h1
  obtain ⟨h2,e,h3⟩:=new4 hp h1
  refine ⟨h2,.inr ⟨e,h3,?_⟩⟩
  rw [h3] at h
  simp only [Option.getD_some] at h
  split at h
  ·cases h
  ·rename_i h4; simpa using h4
 ·have:=(new0 hp).1 h
  exact ⟨this.1,.inl this.2⟩
theorem zjn {t:List Ent} (h:TG t) {p:Str} (hp:pOk p=true) (hn:isDir t p=false):kids t p=[]:=by
 unfold kids
 rw [List.map_eq_nil_iff,List.filter_eq_nil_iff]
 intro e he hk
 have:=h.up e he
 rw [beq_iff_eq.1 hk,hn] at this
 cases this
theorem off0 {t:List Ent} {op:Op} (ht:TG t) (hp:pOk op.path=true) (hk:op.kind=3∨op.kind=4):offC t op=0↔∃ e,find t op.path=some e∧e.dir=(op.kind==4)∧kids t op.path=[]:=by
 unfold offC
 rw [j7 hp]
 cases hf:find t op.path with
 | none=>simp
 | some e =>
  simp only [Option.some.injEq,exists_eq_left']
  have key:(if 0 < (kids t op.path).length then (6:Int) else 0)=0↔kids t op.path=[]:=by
   cases kids t op.path<;>simp
  rcases hk with hk | hk
  ·by_cases hd:e.dir=true
   ·simp [hk,hd]
   ·simp only [Bool.not_eq_true] at hd
    rw [if_neg (by simp [hd]),if_neg (by simp [hk]),key]
    simp [hk,hd]
  ·by_cases hd:e.dir=true
   ·rw [if_neg (by simp [hk]),if_neg (by simp [hd]),key]
    simp [hk,hd]
   ·simp only [Bool.not_eq_true] at hd
    rw [if_neg (by simp [hk]),if_pos ⟨hk,hd⟩]
    simp [hk,hd]
theorem mov0 {t:List Ent} {op:Op} (hp:pOk op.path=true) (hq:pOk op.dest=true):movC t op=0↔(∃ e,find t op.path=some e)∧isDir t (pUp op.dest)=true∧find t op.dest=none∧und op.dest op.path=false∧∀ e∈t,(pMove e.path op.path op.dest).isSome=true:=by
 unfold movC
 rw [j7 hp,j7 hq]
 cases hf:find t op.path with
 | none=>simp
 | some e =>
  simp only [Option.isSome_some,Bool.true_eq_false,if_false,Option.some.injEq,exists_eq',true_and]
  by_cases h1:upC t op.dest=0
  ·rw [if_neg (by simp [h1])]
   have h1':=Zf.1 h1
   cases hf2:find t op.dest with
   | some e=>simp
   | none =>
    simp only [Option.isSome_none,Bool.false_eq_true,if_false]
    by_cases h2:und op.dest op.path=true
    ·rw [if_pos h2]; simp [h2]
    ·rw [if_neg h2]
     simp only [Bool.not_eq_true] at h2
     by_cases h3:t.all (fun e=>(pMove e.path op.path op.dest).isSome)=true
     ·rw [if_pos h3]; simp only [h1',h2,true_and,true_iff]; exact List.all_eq_true.1 h3
     ·rw [if_neg h3]
      constructor
      ·intro h; cases h
      ·rintro ⟨_,_,_,h⟩; exact absurd (List.all_eq_true.2 h) h3
  ·rw [if_pos h1]
   constructor
   ·intro h; exact absurd h h1
   ·rintro ⟨h,_⟩; exact absurd (Zf.2 h) h1
theorem last47 {a a' l l':Str} (h:a++47::l=a'++47::l') (h1:(47:UInt8) ∉ l) (h2:(47:UInt8) ∉ l'):a=a'∧l=l':=by
 rcases List.append_eq_append_iff.1 h with ⟨c,h3,h4⟩ | ⟨c,h3,h4⟩
 ·cases c with
  | nil=>simp at h3 h4; exact ⟨h3.symm,h4⟩
  | cons x c =>
   simp only [List.cons_append,List.cons.injEq] at h4
   exact absurd (by rw [h4.2]; simp) h1
 ·cases c with
  | nil=>simp at h3 h4; exact ⟨h3,h4.symm⟩
  | cons x c =>
   simp only [List.cons_append,List.cons.injEq] at h4
   exact absurd (by rw [h4.2]; simp) h2
theorem zlw {s a l:Str} (h:pOk s=true) (e:s=a++47::l) (hl:(47:UInt8) ∉ l) (ha:a≠[]):pUp s=a:=by
 obtain ⟨a',l',h1,h2,_,_,_,_,_,h6⟩:=yt h
 obtain ⟨rfl,rfl⟩:=last47 (e.symm.trans h1) hl h2
 rw [h6,if_neg ha]
theorem zoL {s d:Str} (hd:d≠[47]) (h:und s d=true):∃ r,s=d++47::r:=by
 unfold und at h
 simp only [Bool.or_eq_true,beq_iff_eq,hd,false_or,List.isPrefixOf_iff_prefix] at h
 obtain ⟨r,h⟩:=h
 exact ⟨r,by rw [← h]; simp⟩
theorem znG {d r:Str}:und (d++47::r) d=true:=by
 unfold und
 simp only [Bool.or_eq_true,List.isPrefixOf_iff_prefix]
 exact .inr ⟨r,by simp⟩
def blw (s f:Str):Bool:=s==f||und s f
theorem zl {s f:Str} (hf:f≠[47]) (h:blw s f=true):∃ r,s=f++r∧(r=[]∨∃ q,r=47::q):=by
 unfold blw at h
 simp only [Bool.or_eq_true,beq_iff_eq] at h
 rcases h with rfl | h
 ·exact ⟨[],by simp,.inl rfl⟩
 ·obtain ⟨r,h⟩:=zoL hf h
  exact ⟨47::r,h,.inr ⟨r,rfl⟩⟩
theorem znF {f r:Str} (h:r=[]∨∃ q,r=47::q):blw (f++r) f=true:=by
 unfold blw
 rcases h with rfl | ⟨q,rfl⟩
 ·simp
 ·rw [znG]; simp
theorem zlt {s f to:Str} (h:blw s f=true) (hm:(pMove s f to).isSome=true):pMove s f to=some (to++s.drop f.length)∧pOk (to++s.drop f.length)=true:=by
 unfold pMove at hm ⊢
 by_cases h1:(pOk s&&pOk f&&pOk to)=true
 ·rw [if_pos h1] at hm ⊢
  have h2:¬ (s != f&&!und s f)=true:=by
   unfold blw at h
   by_cases hs:s=f
   ·simp [hs]
   ·simp [hs] at h; simp [h]
  rw [if_neg h2] at hm ⊢
  by_cases h3:pOk (to++s.drop f.length)=true
  ·rw [if_pos h3]; exact ⟨rfl,h3⟩
  ·rw [if_neg h3] at hm; cases hm
 ·rw [if_neg h1] at hm; cases hm
theorem zlu {s f to:Str} (hs:pOk s=true) (hf:pOk f=true) (ht:pOk to=true) (h:blw s f=false):pMove s f to=some s:=by
 unfold pMove
 rw [if_pos (by simp [hs,hf,ht]),if_pos]
 unfold blw at h
 simpa using h
structure MV (t:List Ent) (f to:Str):Prop where
 tg:TG t
 pf:pOk f=true
 pt:pOk to=true
 frm:∃ e,find t f=some e
 up:isDir t (pUp to)=true
 free:find t to=none
 nun:und to f=false
 all:∀ e∈t,(pMove e.path f to).isSome=true
theorem MV.of {t:List Ent} {op:Op} (ht:TG t) (ho:opOkB op=true) (hk:op.kind=5) (h:movC t op=0):MV t op.path op.dest:=by
 have hp:=yp ho
 have hq:=(op_5 ho hk).1
 obtain ⟨a,b,c,d,e⟩:=(mov0 hp hq).1 h
 exact ⟨ht,hp,hq,a,b,c,d,e⟩
section
variable {t:List Ent} {f to:Str}
theorem MV.fr (h:MV t f to):f≠[47]:=yh h.pf
theorem MV.at (h:MV t f to) {e:Ent} (he:e∈t) (hb:blw e.path f=true):(movE f to e).path=to++e.path.drop f.length∧pOk (to++e.path.drop f.length)=true:=by
 obtain ⟨h1,h2⟩:=zlt hb (h.all e he)
 exact ⟨by unfold movE; rw [h1]; rfl,h2⟩
theorem MV.stay (h:MV t f to) {e:Ent} (he:e∈t) (hb:blw e.path f=false):movE f to e=e:=by
 unfold movE; rw [zlu (h.tg.path he) h.pf h.pt hb]; rfl
theorem MV.clear (h:MV t f to) {e:Ent} (he:e∈t):blw e.path to=false:=by
 cases hb:blw e.path to with
 | false=>rfl
 | true =>
  unfold blw at hb
  simp only [Bool.or_eq_true,beq_iff_eq] at hb
  have hf:=h.free
  rcases hb with hb | hb
  ·rw [← hb,h.tg.at he] at hf; cases hf
  ·rw [h.tg.anc' (h.tg.at he) h.pt hb] at hf; cases hf
theorem MV.blw_to (h:MV t f to) {e:Ent} (he:e∈t):blw (movE f to e).path to=blw e.path f:=by
 cases hb:blw e.path f with
 | true =>
  rw [(h.at he hb).1]
  obtain ⟨r,h1,h2⟩:=zl h.fr hb
  rw [h1,List.drop_left]
  exact znF h2
 | false=>rw [h.stay he hb]; exact h.clear he
theorem MV.inv (h:MV t f to) {e:Ent} (he:e∈t):movE to f (movE f to e)=e:=by
 cases hb:blw e.path f with
 | true =>
  obtain ⟨h1,h2⟩:=h.at he hb
  have hb2:=h.blw_to he
  rw [hb,h1] at hb2
  obtain ⟨r,h3,h4⟩:=zl h.fr hb
  have hd:f++(to++e.path.drop f.length).drop to.length=e.path:=by rw [List.drop_left,h3,List.drop_left]
  have hm:pMove (to++e.path.drop f.length) to f=some e.path:=by
   unfold pMove
   rw [if_pos (by simp [h2,h.pf,h.pt]),if_neg,hd,if_pos (h.tg.path he)]
   unfold blw at hb2
   simp only [Bool.or_eq_true,beq_iff_eq] at hb2
   rcases hb2 with hb2 | hb2
   ·simp [hb2]
   ·simp [hb2]
  unfold movE at h1 ⊢
  simp only at h1
  simp only [h1,hm]
  rfl
 | false =>
  rw [h.stay he hb]
  unfold movE
  rw [zlu (h.tg.path he) h.pt h.pf (h.clear he)]
  rfl
theorem MV.inj (h:MV t f to) {x y:Ent} (hx:x∈t) (hy:y∈t) (e:(movE f to x).path=(movE f to y).path):x.path=y.path:=by
 have hb:blw x.path f=blw y.path f:=by rw [← h.blw_to hx,← h.blw_to hy,e]
 cases hb2:blw x.path f with
 | true =>
  rw [(h.at hx hb2).1,(h.at hy (hb▸hb2)).1] at e
  have e':=List.append_cancel_left e
  obtain ⟨r,h1,_⟩:=zl h.fr hb2
  obtain ⟨q,h3,_⟩:=zl h.fr (hb▸hb2)
  rw [h1,h3,List.drop_left,List.drop_left] at e'
  rw [h1,h3,e']
 | false=>rw [h.stay hx hb2,h.stay hy (hb▸hb2)] at e; exact e
theorem MV.nodup (h:MV t f to):((t.map (movE f to)).map Ent.path).Nodup:=by
 have hn:=yR h.tg.srt
 rw [List.map_map]
 unfold List.Nodup at hn ⊢
 rw [List.pairwise_map] at hn ⊢
 exact hn.imp_of_mem fun hx hy hne e=>hne (h.inj hx hy e)
end
theorem zhS {α:Type} {key:α→Str}:∀ {l t:List α},Srt key t→((t++l).map key).Nodup→Srt key (l.foldl (putG key) t)∧∀ x,x∈l.foldl (putG key) t↔x∈t∨x∈l
 | [],t,hs,_=>⟨hs,by simp⟩
 | e::l,t,hs,hn=>by
  have hk:∀ y∈t,key y≠key e:=fun y hy he=>by
   rw [List.map_append] at hn
   have:=(List.nodup_append.1 hn).2.2 (key y) (List.mem_map_of_mem hy) (key e) (by simp)
   exact this he
  have hm:∀ x,x∈putG key t e↔x=e∨x∈t:=fun x=>by
   rw [qT hs]
   constructor
   ·rintro (h | h)
    ·exact .inl h
    ·exact .inr h.1
   ·rintro (h | h)
    ·exact .inl h
    ·exact .inr ⟨h,hk x h⟩
  have hn2:((putG key t e++l).map key).Nodup:=by
   have hp:((putG key t e).map key).Nodup:=yR (yT hs)
   rw [List.map_append] at hn ⊢
   rw [List.nodup_append] at hn ⊢
   obtain ⟨h1,h2,h3⟩:=hn
   rw [List.map_cons,List.nodup_cons] at h2
   refine ⟨hp,h2.2,?_⟩
   intro a ha b hb
   obtain ⟨x,hx,rfl⟩:=List.mem_map.1 ha
   rcases (hm x).1 hx with rfl | hx
   ·rintro rfl; exact h2.1 hb
   ·exact h3 _ (List.mem_map_of_mem hx) b (by simp; exact .inr (by simpa using hb))
  obtain ⟨h1,h2⟩:=zhS (yT hs) hn2
  refine ⟨h1,fun x=>?_⟩
  rw [List.foldl_cons,h2,hm]
  simp only [List.mem_cons]
  constructor
  ·rintro ((h | h) | h)
   ·exact .inr (.inl h)
   ·exact .inl h
   ·exact .inr (.inr h)
  ·rintro (h | h | h)
   ·exact .inl (.inr h)
   ·exact .inl (.inl h)
   ·exact .inr h
theorem zku (t:List Ent) (f to:Str):movT t f to=(t.map (movE f to)).foldl put []:=by
 unfold movT; rw [List.foldl_map]
theorem MV.spec {t:List Ent} {f to:Str} (h:MV t f to):Srt Ent.path (movT t f to)∧∀ x,x∈movT t f to↔∃ e∈t,movE f to e=x:=by
 obtain ⟨h1,h2⟩:=zhS (key:=Ent.path) (l:=t.map (movE f to)) (t:=[]) List.Pairwise.nil (by simpa using h.nodup)
 rw [zku]
 exact ⟨h1,fun x=>by rw [h2]; simp⟩
theorem zi1 {t:List Ent} (hs:Srt Ent.path t) {p:Str} {e:Ent} (hp:pOk p=true) (he:e∈t) (h1:e.path=p) (h2:e.dir=true):isDir t p=true:=by
 unfold isDir
 have:find t p=some e:=by rw [← h1]; exact jR hs he
 rw [j7 hp,this]; exact h2
theorem MV.ok {t:List Ent} {f to:Str} (h:MV t f to):TG (movT t f to):=by
 obtain ⟨h1,h2⟩:=h.spec
 have up:∀ {u:Str} {d:Ent},pOk u=true→d∈t→(movE f to d).path=u→d.dir=true→isDir (movT t f to) u=true:=fun hu hd hp hdir=>zi1 h1 hu ((h2 _).2 ⟨_,hd,rfl⟩) hp hdir
 refine ⟨?_,h1,?_,?_⟩
 ·have:(movT t f to).length≤(t.map (movE f to)).length:=by
   rw [zku]; exact Nat.le_trans (jW _ _) (by simp)
  have hl:=h.tg.len
  rw [List.length_map] at this
  omega
 ·intro x hx
  obtain ⟨e,he,rfl⟩:=(h2 x).1 hx
  have hk:=h.tg.ok e he
  simp only [eok,Bool.and_eq_true] at hk ⊢
  refine ⟨?_,hk.2⟩
  cases hb:blw e.path f with
  | true=>obtain ⟨q1,q2⟩:=h.at he hb; rw [q1]; exact q2
  | false=>rw [h.stay he hb]; exact hk.1
 ·intro x hx
  obtain ⟨e,he,rfl⟩:=(h2 x).1 hx
  have hpe:=h.tg.path he
  cases hb:blw e.path f with
  | false =>
   rw [h.stay he hb]
   by_cases hr:pUp e.path=[47]
   ·rw [hr]; exact zi4
   obtain ⟨q1,_⟩:=yu hpe hr
   have hd:=h.tg.isDir_ent q1 (h.tg.up e he)
   obtain ⟨d1,d2⟩:=jL hd
   have hb2:blw (pUp e.path) f=false:=by
    cases hb3:blw (pUp e.path) f with
    | false=>rfl
    | true =>
     exfalso
     have:und e.path f=true:=by
      unfold blw at hb3
      simp only [Bool.or_eq_true,beq_iff_eq] at hb3
      rcases hb3 with hb3 | hb3
      ·rw [← hb3]; exact Zd hpe
      ·exact Zc h.fr hr (Zd hpe) hb3
     unfold blw at hb
     simp [this] at hb
   refine up q1 d2 ?_ rfl
   rw [h.stay d2 hb2]
  | true =>
   obtain ⟨q1,q2⟩:=h.at he hb
   rw [q1]
   unfold blw at hb
   simp only [Bool.or_eq_true,beq_iff_eq] at hb
   rcases hb with hb | hb
   ·rw [hb]
    simp only [List.drop_length,List.append_nil]
    by_cases hr:pUp to=[47]
    ·rw [hr]; exact zi4
    obtain ⟨g1,_⟩:=yu h.pt hr
    have hd:=h.tg.isDir_ent g1 h.up
    obtain ⟨d1,d2⟩:=jL hd
    have hb2:blw (pUp to) f=false:=by
     cases hb3:blw (pUp to) f with
     | false=>rfl
     | true =>
      exfalso
      have:und to f=true:=by
       unfold blw at hb3
       simp only [Bool.or_eq_true,beq_iff_eq] at hb3
       rcases hb3 with hb3 | hb3
       ·rw [← hb3]; exact Zd h.pt
       ·exact Zc h.fr hr (Zd h.pt) hb3
      rw [h.nun] at this; cases this
    refine up g1 d2 ?_ rfl
    rw [h.stay d2 hb2]
   ·have hu:pUp e.path=f∨(pUp e.path≠[47]∧pOk (pUp e.path)=true∧und (pUp e.path) f=true):=zoI hpe h.pf hb
    have hr:pUp e.path≠[47]:=by
     rcases hu with hu | hu
     ·rw [hu]; exact h.fr
     ·exact hu.1
    obtain ⟨g1,_⟩:=yu hpe hr
    have hd:=h.tg.isDir_ent g1 (h.tg.up e he)
    obtain ⟨d1,d2⟩:=jL hd
    have hb2:blw (pUp e.path) f=true:=by
     unfold blw
     rcases hu with hu | hu
     ·simp [hu]
     ·simp [hu.2.2]
    obtain ⟨r,r1,r2⟩:=zl h.fr hb2
    obtain ⟨a,l,a1,a2,_,_,_,_,_,a6⟩:=yt hpe
    have ha:a≠[]:=by rintro rfl; rw [if_pos rfl] at a6; exact hr a6
    rw [if_neg ha] at a6
    obtain ⟨z1,z2⟩:=h.at (e:=⟨pUp e.path,true,[]⟩) d2 hb2
    have hh:e.path.drop f.length=r++47::l:=by
     rw [a1,← a6,r1,List.append_assoc,List.drop_left]
    have hz:(pUp e.path).drop f.length=r:=by rw [r1,List.drop_left]
    simp only at z1 z2
    rw [hz] at z1 z2
    have:pUp (to++e.path.drop f.length)=to++r:=by
     refine zlw q2 (l:=l) (by rw [hh,List.append_assoc]) a2 ?_
     intro e0
     rw [e0] at z2
     exact absurd z2 (by decide)
    rw [this]
    exact up z2 d2 z1 rfl
theorem zlO {t:List Ent} {n:Ent} (ht:TG t) (hn:eok n=true) (hup:isDir t (pUp n.path)=true) (hd:find t n.path=none∧t.length < 16∨∃ e,find t n.path=some e∧e.dir=false):TG (put t n):=by
 have hp:pOk n.path=true:=by simp only [eok,Bool.and_eq_true] at hn; exact hn.1
 have hs:=yT (e:=n) ht.srt
 refine ⟨?_,hs,?_,?_⟩
 ·rcases hd with ⟨_,h⟩ | ⟨e,h1,_⟩
  ·have:=yz (key:=Ent.path) (t:=t) (e:=n); show (putG Ent.path t n).length≤16; omega
  ·have:(put t n).length≤t.length:=by
    have hn:=yR hs
    have:=zkD (l:=(put t n).map Ent.path) (k:=t.map Ent.path) hn fun x hx=>by
     obtain ⟨y,hy,rfl⟩:=List.mem_map.1 hx
     rcases (qT ht.srt).1 hy with rfl | hy
     ·obtain ⟨q1,q2⟩:=jL h1
      rw [← q1]; exact List.mem_map_of_mem q2
     ·exact List.mem_map_of_mem hy.1
    simpa using this
   exact Nat.le_trans this ht.len
 ·intro x hx
  rcases (qT ht.srt).1 hx with rfl | hx
  ·exact hn
  ·exact ht.ok x hx.1
 ·have key:∀ {u:Str},isDir t u=true→isDir (put t n) u=true:=fun {u} hu=>by
   unfold isDir get at hu ⊢
   by_cases hr:u=[47]
   ·rw [if_pos hr]; rfl
   rw [if_neg hr] at hu ⊢
   have e:find (put t n) u=if n.path=u then some n else find t u:=jT
   rw [e]
   by_cases hnu:n.path=u
   ·subst hnu
    exfalso
    rcases hd with ⟨h1,_⟩ | ⟨e,h1,h2⟩
    ·rw [h1] at hu; cases hu
    ·rw [h1] at hu; simp [h2] at hu
   ·rw [if_neg hnu]; exact hu
  intro x hx
  rcases (qT ht.srt).1 hx with rfl | hx
  ·exact key hup
  ·exact key (ht.up x hx.1)
theorem jK {t:List Ent} (hs:Srt Ent.path t) {p q:Str}:find (offT t p) q=if q=p then none else find t q:=by
 unfold offT
 have:=zhE (key:=Ent.path) hs (q:=fun e=>e.path != p) (p:=q)
 show fnd Ent.path _ q=_
 rw [this]
 by_cases h:q=p
 ·subst h
  rw [if_pos rfl]
  cases hf:fnd Ent.path t q with
  | none=>rfl
  | some e=>simp [Option.filter,(jU hf).1]
 ·rw [if_neg h]
  show _=fnd Ent.path t q
  cases hf:fnd Ent.path t q with
  | none=>rfl
  | some e=>simp [Option.filter,(jU hf).1,h]
theorem zkQ {t:List Ent} (ht:TG t) {p:Str} (hp:pOk p=true) (hk:kids t p=[]):TG (offT t p):=by
 have hs:Srt Ent.path (offT t p):=yO ht.srt _
 refine ⟨Nat.le_trans (List.length_filter_le _ _) ht.len,hs,fun e he=>ht.ok e (List.mem_filter.1 he).1,fun e he=>?_⟩
 have he':=(List.mem_filter.1 he).1
 have hu:=ht.up e he'
 unfold isDir get at hu ⊢
 by_cases hr:pUp e.path=[47]
 ·rw [if_pos hr]; rfl
 rw [if_neg hr] at hu ⊢
 rw [jK ht.srt,if_neg ?_]
 ·exact hu
 ·intro h
  have:e.path∈(t.filter fun e=>pUp e.path==p).map Ent.path:=List.mem_map_of_mem (List.mem_filter.2 ⟨he',by simp [h]⟩)
  unfold kids at hk
  rw [List.map_eq_nil_iff] at hk
  rw [hk] at this; cases this
theorem zdX {t:List Ent} {op:Op} (ht:TG t) (ho:opOkB op=true) (hc:codeT t op=0):TG (doT t op):=by
 have hp:=yp ho
 unfold codeT at hc
 unfold doT
 by_cases h1:op.kind=1
 ·rw [if_pos h1] at hc ⊢
  obtain ⟨a,b,c⟩:=(new0 hp).1 hc
  exact zlO ht (by simp [eok,hp]; decide) a (.inl ⟨b,c⟩)
 rw [if_neg h1] at hc ⊢
 by_cases h2:op.kind=2
 ·rw [if_pos h2] at hc ⊢
  obtain ⟨a,b⟩:=put0 hp hc
  exact zlO ht (by simp [eok,hp,(zlf ho (by omega)).2.1]) a b
 rw [if_neg h2] at hc ⊢
 by_cases h5:op.kind=5
 ·rw [if_pos h5] at hc ⊢
  exact (MV.of ht ho h5 hc).ok
 rw [if_neg h5] at hc ⊢
 have hk:=zle ho
 obtain ⟨e,_,_,h⟩:=(off0 ht hp (by omega)).1 hc
 exact zkQ ht hp h
theorem TG.tOk {t:List Ent} (h:TG t):tOk t=true:=y0.2 ⟨h.len,h.srt,h.ok,h.up⟩
theorem y7 {t:List Ent} {op:Op} (ht:tOk t=true) (hc:(treeDo t op).2=0):opOkB op=true∧codeT t op=0∧(treeDo t op).1=doT t op∧Go.Proofs.YteheahbjaddooaaGreatDoor.tOk (doT t op)=true:=by
 unfold treeDo at hc ⊢
 rw [if_pos ht] at hc ⊢
 by_cases ho:opOkB op=true
 ·rw [if_pos ho] at hc ⊢
  by_cases h0:codeT t op=0
  ·rw [if_pos h0]
   exact ⟨ho,h0,rfl,(zdX (TG.of ht) ho h0).tOk⟩
  ·rw [if_neg h0] at hc; exact absurd hc h0
 ·rw [if_neg ho] at hc; cases hc
def movC2 (t:List Ent) (op:Op):Int:=if (find t op.path).isSome=false then 2 else if upC t op.dest≠0 then upC t op.dest else if (find t op.dest).isSome=true then 4 else if und op.dest op.path=true then 7 else
 if t.all (fun e=>(pMove e.path op.path op.dest).isSome)=true then 0 else 8
theorem zjm {t:List Ent} (ht:TG t) {p:Str} (hp:pOk p=true):kids t p≠[]↔∃ e∈t,und e.path p=true:=by
 have h1:kids t p≠[]↔∃ e∈t,pUp e.path=p:=by
  unfold kids
  rw [ne_eq,List.map_eq_nil_iff,List.filter_eq_nil_iff]
  simp
 rw [h1]
 constructor
 ·rintro ⟨e,he,h⟩
  refine ⟨e,he,?_⟩
  rw [← h]; exact Zd (ht.path he)
 ·rintro ⟨e,he,h⟩
  have key:∀ (n:Nat) {e:Ent},(names e.path).length≤n→e∈t→und e.path p=true→∃ e∈t,pUp e.path=p:=by
   intro n
   induction n with
   | zero=>intro e hn he _; have:=(yr (ht.path he)).1.1; omega
   | succ n ih =>
    intro e hn he hu
    rcases zoI (ht.path he) hp hu with h | ⟨h2,h3,h4⟩
    ·exact ⟨e,he,h⟩
    ·have hd:=ht.isDir_ent h3 (ht.up e he)
     have:=(yu (ht.path he) h2).2.2
     exact ih (e:=⟨pUp e.path,true,[]⟩) (by simp only; omega) (jL hd).2 h4
  exact key _ (Nat.le_refl _) he h
def doX (t:List Ent) (op:Op):List Ent:=if op.kind=5 then t.map (movE op.path op.dest) else if op.kind=1∨op.kind=2 then (t.filter fun e=>e.path != op.path)++[⟨op.path,op.kind==1,op.data⟩] else t.filter fun e=>e.path != op.path
theorem zdY {t S:List Ent} {op:Op} (ht:TG t) (ho:opOkB op=true) (hc:codeT t op=0) (h:Sorts Ent.path (doX t op) S):S=doT t op:=by
 have hg:=zdX ht ho hc
 have hp:=yp ho
 have put_case:∀ n:Ent,n.path=op.path→doX t op=(t.filter fun e=>e.path != op.path)++[n]→doT t op=put t n→S=doT t op:=fun n hn e1 e2=>by
  rw [e1] at h
  rw [e2] at hg ⊢
  refine h.eq ?_ hg.srt fun e=>?_
  ·rw [List.map_append,List.nodup_append]
   refine ⟨?_,by simp,?_⟩
   ·exact yR (yO ht.srt _)
   ·intro a ha b hb
    obtain ⟨x,hx,rfl⟩:=List.mem_map.1 ha
    have:=(List.mem_filter.1 hx).2
    simp only [List.map_cons,List.map_nil,List.mem_singleton] at hb
    rw [hb,hn]
    simpa using this
  ·rw [qT ht.srt,List.mem_append,List.mem_filter,List.mem_singleton,hn]
   simp only [bne_iff_ne,ne_eq]
   constructor
   ·rintro (h | h)
    ·exact .inr h
    ·exact .inl h
   ·rintro (h | h)
    ·exact .inr h
    ·exact .inl h
 by_cases h1:op.kind=1
 ·have hd:=(zlf ho (by omega)).2.2
  refine put_case ⟨op.path,true,[]⟩ rfl ?_ (by unfold doT; rw [if_pos h1])
  unfold doX
  rw [if_neg (by omega),if_pos (.inl h1)]
  rcases hd with hd | hd
  ·omega
  ·rw [hd,h1]; rfl
 by_cases h2:op.kind=2
 ·refine put_case ⟨op.path,false,op.data⟩ rfl ?_ (by unfold doT; rw [if_neg h1,if_pos h2])
  unfold doX
  rw [if_neg (by omega),if_pos (.inr h2),h2]; rfl
 by_cases h5:op.kind=5
 ·have hv:=MV.of ht ho h5 (by unfold codeT at hc; rw [if_neg h1,if_neg h2,if_pos h5] at hc; exact hc)
  have e1:doX t op=t.map (movE op.path op.dest):=by unfold doX; rw [if_pos h5]
  have e2:doT t op=movT t op.path op.dest:=by unfold doT; rw [if_neg h1,if_neg h2,if_pos h5]
  rw [e1] at h
  rw [e2]
  obtain ⟨q1,q2⟩:=hv.spec
  refine h.eq hv.nodup q1 fun e=>?_
  rw [q2]; simp
 ·have e1:doX t op=offT t op.path:=by unfold doX; rw [if_neg h5,if_neg (by omega)]; rfl
  have e2:doT t op=offT t op.path:=by unfold doT; rw [if_neg h1,if_neg h2,if_neg h5]
  rw [e1] at h
  rw [e2] at hg ⊢
  exact h.eq (yR hg.srt) hg.srt fun e=>Iff.rfl

def backOp (op:Op) (e:Option Ent):Op :=
 if op.kind=5 then ⟨5,op.dest,op.path,[]⟩
 else if op.kind=4 then ⟨1,op.path,[],[]⟩
 else if op.kind=3∨(op.kind=2∧e.isSome=true) then ⟨2,op.path,[],(e.getD noE).data⟩
 else if op.kind=2 then ⟨3,op.path,[],[]⟩
 else ⟨4,op.path,[],[]⟩
theorem y6 {t t':List Ent} {op:Op} (ht:tOk t=true) (ho:opOkB op=true) (hc:codeT t op=0) (hd:doT t op=t'):treeDo t op=(t',0):=by
 unfold treeDo; rw [if_pos ht,if_pos ho,if_pos hc,hd]
theorem zkX {k:Int} {p:Str} (hp:pOk p=true) (hk:k=1∨k=3∨k=4):opOkB ⟨k,p,[],[]⟩=true:=by
 rcases hk with rfl | rfl | rfl<;>simp [opOkB,hp]<;>decide
theorem zkY {p d:Str} (hp:pOk p=true) (hd:dataOk d=true):opOkB ⟨2,p,[],d⟩=true:=by
 simp [opOkB,hp,hd]
theorem zkW {f to:Str} (hf:pOk f=true) (ht:pOk to=true):opOkB ⟨5,f,to,[]⟩=true:=by
 simp [opOkB,hf,ht]
theorem zoO {p:Str} (h:pOk p=true):pUp p≠p:=by
 by_cases hr:pUp p=[47]
 ·rw [hr]; exact fun e=>yh h e.symm
 ·intro e; have:=zoN h hr; rw [e,qM] at this; cases this
theorem zi3 {t:List Ent} {n:Ent} {u:Str} (hu:isDir t u=true) (h:n.path≠u):isDir (put t n) u=true:=by
 unfold isDir get at hu ⊢
 by_cases hr:u=[47]
 ·rw [if_pos hr]; rfl
 rw [if_neg hr] at hu ⊢
 have e:find (put t n) u=if n.path=u then some n else find t u:=jT
 rw [e,if_neg h]; exact hu
theorem zi2 {t:List Ent} (hs:Srt Ent.path t) {p u:Str} (hu:isDir t u=true) (h:u≠p):isDir (offT t p) u=true:=by
 unfold isDir get at hu ⊢
 by_cases hr:u=[47]
 ·rw [if_pos hr]; rfl
 rw [if_neg hr] at hu ⊢
 rw [jK hs,if_neg h]; exact hu
theorem zkR {t:List Ent} (hs:Srt Ent.path t) {n:Ent} (h:find t n.path=none):offT (put t n) n.path=t:=by
 refine yN (yO (yT hs) _) hs fun p=>?_
 show find (offT (put t n) n.path) p=find t p
 rw [jK (yT hs)]
 by_cases hp:p=n.path
 ·rw [if_pos hp,hp,h]
 ·rw [if_neg hp]
  have e:find (put t n) p=if n.path=p then some n else find t p:=jT
  rw [e,if_neg (fun e=>hp e.symm)]
theorem zlI {t t':List Ent} (hs:Srt Ent.path t) (hs':Srt Ent.path t') {n:Ent} (h:find t n.path=some n) (hf:∀ p,p≠n.path→find t' p=find t p):put t' n=t:=by
 refine yN (yT hs') hs fun p=>?_
 have e:find (put t' n) p=if n.path=p then some n else find t' p:=jT
 show find (put t' n) p=find t p
 rw [e]
 by_cases hp:n.path=p
 ·rw [if_pos hp,← hp,h]
 ·rw [if_neg hp,hf p fun e=>hp e.symm]
theorem zkP {t:List Ent} {p:Str} {e:Ent} (h:find t p=some e):(offT t p).length < t.length:=by
 obtain ⟨h1,h2⟩:=jL h
 exact List.length_filter_lt_length_iff_exists.2 ⟨e,h2,by simp [h1]⟩
theorem ZL {t:List Ent} {op:Op} (ht:TG t) (ho:opOkB op=true) (hc:codeT t op=0):treeDo (doT t op) (backOp op (find t op.path))=(t,0):=by
 have hp:=yp ho
 have hg:=zdX ht ho hc
 have hk:=zle ho
 have hgk:=hg.tOk
 unfold codeT at hc
 unfold doT at hg hgk ⊢
 by_cases h1:op.kind=1
 ·rw [if_pos h1] at hc hg hgk ⊢
  obtain ⟨a,b,c⟩:=(new0 hp).1 hc
  have eb:backOp op (find t op.path)=⟨4,op.path,[],[]⟩:=by
   unfold backOp; rw [if_neg (by omega),if_neg (by omega),if_neg (by omega),if_neg (by omega)]
  rw [eb]
  refine y6 hgk (zkX hp (by omega)) ?_ ?_
  ·unfold codeT
   rw [if_neg (by simp),if_neg (by simp),if_neg (by simp)]
   refine (off0 (op:=⟨4,op.path,[],[]⟩) hg hp (.inr rfl)).2 ⟨⟨op.path,true,[]⟩,?_,rfl,?_⟩
   ·exact (jT (key:=Ent.path)).trans (if_pos rfl)
   ·cases hkd:kids (put t ⟨op.path,true,[]⟩) op.path with
    | nil=>rfl
    | cons x l =>
     exfalso
     have hne:kids (put t ⟨op.path,true,[]⟩) op.path≠[]:=by rw [hkd]; simp
     unfold kids at hne
     rw [ne_eq,List.map_eq_nil_iff,List.filter_eq_nil_iff] at hne
     refine hne fun e he hh=>?_
     rcases (qT ht.srt).1 he with rfl | he
     ·exact zoO hp (beq_iff_eq.1 hh)
     ·have:=ht.up e he.1
      rw [beq_iff_eq.1 hh] at this
      rw [ht.isDir_ent hp this] at b; cases b
  ·unfold doT
   rw [if_neg (by simp),if_neg (by simp),if_neg (by simp)]
   exact zkR ht.srt (n:=⟨op.path,true,[]⟩) b
 rw [if_neg h1] at hc hg hgk ⊢
 by_cases h2:op.kind=2
 ·rw [if_pos h2] at hc hg hgk ⊢
  obtain ⟨a,b⟩:=put0 hp hc
  have hup:isDir (put t ⟨op.path,false,op.data⟩) (pUp op.path)=true:=zi3 a fun e=>zoO hp e.symm
  have hf:find (put t ⟨op.path,false,op.data⟩) op.path=some ⟨op.path,false,op.data⟩:=(jT (key:=Ent.path)).trans (if_pos rfl)
  rcases b with ⟨b,c⟩ | ⟨e,b,c⟩
  ·have eb:backOp op (find t op.path)=⟨3,op.path,[],[]⟩:=by
    unfold backOp; rw [if_neg (by omega),if_neg (by omega),if_neg (by rw [b]; simp; omega),if_pos h2]
   rw [eb]
   refine y6 hgk (zkX hp (by omega)) ?_ ?_
   ·unfold codeT
    rw [if_neg (by simp),if_neg (by simp),if_neg (by simp)]
    refine (off0 (op:=⟨3,op.path,[],[]⟩) hg hp (.inl rfl)).2 ⟨_,hf,rfl,zjn hg hp ?_⟩
    unfold isDir; rw [j7 hp,hf]
   ·unfold doT
    rw [if_neg (by simp),if_neg (by simp),if_neg (by simp)]
    exact zkR ht.srt (n:=⟨op.path,false,op.data⟩) b
  ·have eb:backOp op (find t op.path)=⟨2,op.path,[],e.data⟩:=by
    unfold backOp; rw [if_neg (by omega),if_neg (by omega),if_pos (by rw [b]; exact .inr ⟨h2,rfl⟩),b]; rfl
   rw [eb]
   obtain ⟨e1,e2⟩:=jL b
   have hn:find t op.path=some ⟨op.path,false,e.data⟩:=by rw [b,← e1,← c]
   refine y6 hgk (zkY hp (ht.datOk e2)) ?_ ?_
   ·unfold codeT
    rw [if_neg (by simp),if_pos rfl]
    show putC (put t ⟨op.path,false,op.data⟩) op.path=0
    have h4:newC (put t ⟨op.path,false,op.data⟩) op.path=4:=by
     unfold newC
     rw [if_neg (by simp [Zf.2 hup]),j7 hp,hf]; rfl
    unfold putC
    rw [if_pos h4,j7 hp,hf]; rfl
   ·unfold doT
    rw [if_neg (by simp),if_pos rfl]
    refine zlI ht.srt hg.srt (n:=⟨op.path,false,e.data⟩) hn fun p hpn=>?_
    exact (jT (key:=Ent.path)).trans (if_neg fun e=>hpn e.symm)
 rw [if_neg h2] at hc hg hgk ⊢
 by_cases h5:op.kind=5
 ·rw [if_pos h5] at hc hg hgk ⊢
  have hv:=MV.of ht ho h5 hc
  have eb:backOp op (find t op.path)=⟨5,op.dest,op.path,[]⟩:=by unfold backOp; rw [if_pos h5]
  rw [eb]
  obtain ⟨q1,q2⟩:=hv.spec
  have hsame:∀ {e:Ent},e∈movT t op.path op.dest→∃ x∈t,movE op.path op.dest x=e∧movE op.dest op.path e=x:=fun he=>by
   obtain ⟨x,hx,rfl⟩:=(q2 _).1 he
   exact ⟨x,hx,rfl,hv.inv hx⟩
  obtain ⟨ef,hef⟩:=hv.frm
  obtain ⟨f1,f2⟩:=jL hef
  have hto:(movE op.path op.dest ef).path=op.dest:=by
   have:=(hv.at f2 (by unfold blw; simp [f1])).1
   rw [this,f1]; simp
  have hm0:movC (movT t op.path op.dest) ⟨5,op.dest,op.path,[]⟩=0:=by
   refine (mov0 (op:=⟨5,op.dest,op.path,[]⟩) hv.pt hp).2 ⟨⟨movE op.path op.dest ef,?_⟩,?_,?_,?_,?_⟩
   ·have:=jR q1 ((q2 _).2 ⟨ef,f2,rfl⟩)
    rw [hto] at this; exact this
   ·by_cases hr:pUp op.path=[47]
    ·show isDir _ (pUp op.path)=true
     rw [hr]; exact zi4
    obtain ⟨u1,_⟩:=yu hp hr
    have hup:=ht.up ef f2
    rw [f1] at hup
    obtain ⟨d1,d2⟩:=jL (ht.isDir_ent u1 hup)
    have hb:blw (pUp op.path) op.path=false:=by
     cases hb:blw (pUp op.path) op.path with
     | false=>rfl
     | true =>
      unfold blw at hb
      simp only [Bool.or_eq_true,beq_iff_eq] at hb
      rcases hb with hb | hb
      ·exact absurd hb (zoO hp)
      ·have h1:=zoK hb hv.fr
       have h2:=zoN hp hr
       rw [qI h1] at h2; cases h2
    refine zi1 q1 u1 ((q2 _).2 ⟨_,d2,rfl⟩) ?_ rfl
    rw [hv.stay d2 hb]
   ·show find (movT t op.path op.dest) op.path=none
    cases hfn:find (movT t op.path op.dest) op.path with
    | none=>rfl
    | some y =>
     exfalso
     obtain ⟨y1,y2⟩:=jL hfn
     obtain ⟨x,hx,h3,_⟩:=hsame y2
     rw [← h3] at y1
     cases hb:blw x.path op.path with
     | true =>
      have:=hv.blw_to hx
      rw [hb,y1] at this
      have hc2:=hv.clear f2
      rw [f1,this] at hc2; cases hc2
     | false =>
      rw [hv.stay hx hb] at y1
      unfold blw at hb
      simp [y1] at hb
   ·show und op.path op.dest=false
    have:=hv.clear f2
    unfold blw at this
    rw [f1] at this
    simp only [Bool.or_eq_false_iff] at this
    exact this.2
   ·intro e he
    obtain ⟨x,hx,h3,h4⟩:=hsame he
    show (pMove e.path op.dest op.path).isSome=true
    cases hm:pMove e.path op.dest op.path with
    | some _=>rfl
    | none =>
     exfalso
     unfold movE at h4
     rw [hm] at h4
     have:=ht.path hx
     rw [← h4] at this
     exact absurd this (by simp [pOk,names])
  refine y6 hgk (zkW hv.pt hp) ?_ ?_
  ·unfold codeT
   rw [if_neg (by simp),if_neg (by simp),if_pos rfl]
   exact hm0
  ·unfold doT
   rw [if_neg (by simp),if_neg (by simp),if_pos rfl]
   have hv2:=MV.of (op:=⟨5,op.dest,op.path,[]⟩) hv.ok (zkW hv.pt hp) rfl hm0
   obtain ⟨z1,z2⟩:=hv2.spec
   refine znM z1 ht.srt fun e=>?_
   show e∈movT (movT t op.path op.dest) op.dest op.path↔_
   rw [z2]
   constructor
   ·rintro ⟨y,hy,rfl⟩
    obtain ⟨x,hx,_,h4⟩:=hsame hy
    show movE op.dest op.path y∈t
    rw [h4]; exact hx
   ·intro he
    exact ⟨movE op.path op.dest e,(q2 _).2 ⟨e,he,rfl⟩,hv.inv he⟩
 rw [if_neg h5] at hc hg hgk ⊢
 obtain ⟨e,b,c,d⟩:=(off0 ht hp (by omega)).1 hc
 obtain ⟨e1,e2⟩:=jL b
 have hup:isDir (offT t op.path) (pUp op.path)=true:=by
  have:=ht.up e e2
  rw [e1] at this
  exact zi2 ht.srt this (zoO hp)
 have hnone:find (offT t op.path) op.path=none:=by rw [jK ht.srt,if_pos rfl]
 have hl:=zkP b
 have hlt:=ht.len
 have hnew:newC (offT t op.path) op.path=0:=(new0 hp).2 ⟨hup,hnone,by omega⟩
 by_cases h4:op.kind=4
 ·have eb:backOp op (find t op.path)=⟨1,op.path,[],[]⟩:=by unfold backOp; rw [if_neg (by omega),if_pos h4]
  rw [eb]
  refine y6 hgk (zkX hp (by omega)) ?_ ?_
  ·unfold codeT; rw [if_pos rfl]; exact hnew
  ·unfold doT
   rw [if_pos rfl]
   have hd:isDir t op.path=true:=by
    unfold isDir
    rw [j7 hp,b]
    show e.dir=true
    rw [c,h4]; rfl
   refine zlI ht.srt hg.srt (n:=⟨op.path,true,[]⟩) (ht.isDir_ent hp hd) fun p hpn=>?_
   rw [jK ht.srt,if_neg hpn]
 ·have h3:op.kind=3:=by omega
  have eb:backOp op (find t op.path)=⟨2,op.path,[],e.data⟩:=by unfold backOp; rw [if_neg (by omega),if_neg h4,if_pos (.inl h3),b]; rfl
  rw [eb]
  have hn:find t op.path=some ⟨op.path,false,e.data⟩:=by
   rw [b,← e1]
   have:e.dir=false:=by rw [c,h3]; rfl
   rw [← this]
  refine y6 hgk (zkY hp (ht.datOk e2)) ?_ ?_
  ·unfold codeT
   rw [if_neg (by simp),if_pos rfl]
   show putC (offT t op.path) op.path=0
   unfold putC
   rw [if_neg (by rw [hnew]; decide),hnew]
  ·unfold doT
   rw [if_neg (by simp),if_pos rfl]
   refine zlI ht.srt hg.srt (n:=⟨op.path,false,e.data⟩) hn fun p hpn=>?_
   rw [jK ht.srt,if_neg hpn]

theorem zjS:∀ {a:List (List Mark)} {t t':List Ent},lowerA a t=some t'→∀ l∈a,lOk l=true
 | [],_,_,_,l,hl=>by cases hl
 | x::a,t,t',h,l,hl=>by
  rw [lowerA] at h
  cases h1:lOn x t with
  | none=>rw [h1] at h; cases h
  | some y =>
   rw [h1] at h
   rcases List.mem_cons.1 hl with rfl | hl
   ·exact (qp h1).2.1
   ·exact zjS h l hl
theorem zjQ {o:Over} {t:List Ent} (h:lower4 o=some t):tOk o.base=true∧o.layers.length≤4∧lowerA o.layers o.base=some t:=by
 unfold lower4 at h
 split at h
 ·rename_i hc; exact ⟨hc.1,hc.2,h⟩
 ·cases h
theorem zkG {o:Over} (h:oOk o=true):(∀ l∈o.layers,lOk l=true)∧lOk o.upper=true:=by
 obtain ⟨t,x,h1,h2,_⟩:=zkH h
 refine ⟨zjS (zjQ h1).2.2,?_⟩
 unfold view4 at h2
 rw [h1] at h2
 exact (qp h2).2.1
theorem zjf {a b j:List Mark} {t x:List Ent} (hj:lJoin a b=some j) (hx:lOn b t=some x):lOn j t=lOn a x:=by
 obtain ⟨h1,h2,rfl,h4⟩:=zjt hj
 obtain ⟨h5,_,h6,rfl⟩:=qp hx
 have h7:=qq hx
 unfold lOn
 rw [if_pos (show (lOk (joinL a b)&&tOk t)=true by simp [h4,h6]),if_pos (show (lOk a&&tOk (onRaw b t))=true by simp [h1,h7]),zk9 (LG.of h1) (LG.of h2) (TG.of h6).srt]

def noO:Over:=⟨[],[],[]⟩
def lowG (o:Over):List Ent:=(lower4 o).getD []
def vwG (o:Over):List Ent:=(view4 o).getD []
def oDo (o:Over) (op:Op):Over × Int :=
 if oOk o=true then (if (treeDo (vwG o) op).2=0 then (⟨o.base,o.layers,diff (lowG o) (treeDo (vwG o) op).1⟩,0) else (o,(treeDo (vwG o) op).2)) else (noO,1)
def oPush (o:Over):Over × Bool:=if oOk o=true then (if 4≤o.layers.length then (o,false) else (⟨o.base,o.layers++[o.upper],[]⟩,true)) else (noO,false)
def oDrop (o:Over):Over:=if oOk o=true then ⟨o.base,o.layers,[]⟩ else noO
def flatA:List Mark→List (List Mark)→Option (List Mark)
 | one,[]=>some one
 | one,l::r=>match lJoin l one with
  | some j=>flatA j r
  | none=>none
def flatO (o:Over):Option (List Mark):=match o.layers with
 | a::b::r=>flatA a (b::r)
 | _=>none
def oFlat (o:Over):Over × Bool:=if oOk o=true then (match flatO o with
 | some j=>(⟨o.base,[j],o.upper⟩,true)
 | none=>(o,false)) else (noO,false)
def eOC (x:Over × Int):CV := .tup [eOver x.1,CI x.2]
def eOB (x:Over × Bool):CV := .tup [eOver x.1,CB x.2]
structure OG (o:Over) (t x:List Ent):Prop where
 ok:oOk o=true
 low:lower4 o=some t
 vw:view4 o=some x
 up:o.upper=diff t x
 gt:tOk t=true
 gx:tOk x=true
theorem OG.of {o:Over} (h:oOk o=true):∃ t x,OG o t x:=by
 obtain ⟨t,x,h1,h2,h3⟩:=zkH h
 exact ⟨t,x,h,h1,h2,h3,zjR h1,Zh h2⟩
theorem OG.lowG {o:Over} {t x:List Ent} (h:OG o t x):lowG o=t:=by unfold Go.Proofs.YteheahbjaddooaaGreatDoor.lowG; rw [h.low]; rfl
theorem OG.vwG {o:Over} {t x:List Ent} (h:OG o t x):vwG o=x:=by unfold Go.Proofs.YteheahbjaddooaaGreatDoor.vwG; rw [h.vw]; rfl
theorem OG.mk' {o:Over} {t x:List Ent} (h1:lower4 o=some t) (h2:view4 o=some x) (h3:o.upper=diff t x):OG o t x :=
 ⟨by unfold oOk; rw [h1,h2]; simp [h3],h1,h2,h3,zjR h1,Zh h2⟩
theorem OG.turn {o:Over} {t y:List Ent} (h:lower4 o=some t) (hy:tOk y=true):OG ⟨o.base,o.layers,diff t y⟩ t y:=by
 have h1:lower4 ⟨o.base,o.layers,diff t y⟩=some t:=h
 refine OG.mk' h1 ?_ rfl
 unfold view4
 rw [h1]
 exact zju (zjR h) hy
theorem zdU {t:List Ent} (h:tOk t=true):diff t t=[]:=by
 have:turned t t=[]:=by
  cases hx:turned t t with
  | nil=>rfl
  | cons p l =>
   have:=(qV (TG.of h) (TG.of h) (p:=p)).1 (by rw [hx]; simp)
   exact absurd rfl this
 unfold diff; rw [this]; rfl
theorem zjv {t:List Ent} (h:tOk t=true):lOn [] t=some t:=by
 have:=zju h h
 rwa [zdU h] at this
theorem OG.lay {o:Over} {t x:List Ent} (h:OG o t x):o.layers.length≤4∧lowerA o.layers o.base=some t∧tOk o.base=true:=by
 obtain ⟨a,b,c⟩:=zjQ h.low; exact ⟨b,c,a⟩
theorem OG.on {o:Over} {t x:List Ent} (h:OG o t x):lOn o.upper t=some x:=by
 have:=h.vw; unfold view4 at this; rw [h.low] at this; exact this
theorem zox {x:List Ent} {op:Op} (hx:tOk x=true) (h:(treeDo x op).2≠0):(treeDo x op).1=x:=by
 unfold treeDo at h ⊢
 rw [if_pos hx] at h ⊢
 split
 ·rename_i h1
  rw [if_pos h1] at h
  split
  ·rename_i h2; rw [if_pos h2] at h; exact absurd rfl h
  ·rfl
 ·rfl
theorem OG.doEq {o:Over} {t x:List Ent} (h:OG o t x) (op:Op):oDo o op=if (treeDo x op).2=0 then (⟨o.base,o.layers,diff t (treeDo x op).1⟩,0) else (o,(treeDo x op).2):=by
 unfold oDo; rw [if_pos h.ok,h.vwG,h.lowG]
theorem OG.do {o:Over} {t x:List Ent} (h:OG o t x) (op:Op):OG (oDo o op).1 t (treeDo x op).1∧(oDo o op).2=(treeDo x op).2∧(oDo o op).1.base=o.base∧(oDo o op).1.layers=o.layers∧((treeDo x op).2≠0→(oDo o op).1=o):=by
 unfold oDo
 rw [if_pos h.ok,h.vwG,h.lowG]
 by_cases hc:(treeDo x op).2=0
 ·rw [if_pos hc]
  obtain ⟨_,_,h3,h4⟩:=y7 h.gx hc
  refine ⟨?_,hc.symm,rfl,rfl,fun e=>absurd hc e⟩
  rw [h3]
  exact OG.turn h.low h4
 ·rw [if_neg hc]
  refine ⟨?_,rfl,rfl,rfl,fun _=>rfl⟩
  rw [zox h.gx hc]; exact h
theorem OG.push {o:Over} {t x:List Ent} (h:OG o t x) (hl:¬ 4≤o.layers.length):oPush o=(⟨o.base,o.layers++[o.upper],[]⟩,true)∧OG ⟨o.base,o.layers++[o.upper],[]⟩ x x:=by
 refine ⟨by unfold oPush; rw [if_pos h.ok,if_neg hl],?_⟩
 have h1:lower4 ⟨o.base,o.layers++[o.upper],[]⟩=some x:=by
  unfold lower4
  simp only
  rw [if_pos ⟨h.lay.2.2,by simp; omega⟩,qH,h.lay.2.1]
  show lowerA [o.upper] t=some x
  rw [lowerA,h.on]; rfl
 refine OG.mk' h1 ?_ (zdU h.gx).symm
 unfold view4
 rw [h1]
 exact zjv h.gx
theorem OG.push_no {o:Over} {t x:List Ent} (h:OG o t x) (hl:4≤o.layers.length):oPush o=(o,false)∧o.layers.length=4 :=
 ⟨by unfold oPush; rw [if_pos h.ok,if_pos hl],by have:=h.lay.1; omega⟩
theorem OG.drop {o:Over} {t x:List Ent} (h:OG o t x):oDrop o=⟨o.base,o.layers,[]⟩∧OG ⟨o.base,o.layers,[]⟩ t t:=by
 refine ⟨by unfold oDrop; rw [if_pos h.ok],?_⟩
 have:=OG.turn h.low h.gt
 rwa [zdU h.gt] at this
theorem zhl {base:List Ent}:∀ {ls:List (List Mark)} {one j:List Mark} {y t:List Ent},flatA one ls=some j→lOn one base=some y→lowerA ls y=some t→lOn j base=some t
 | [],one,j,y,t,h1,h2,h3=>by
  rw [flatA] at h1; rw [lowerA] at h3; cases h1; cases h3; exact h2
 | l::r,one,j,y,t,h1,h2,h3=>by
  rw [flatA] at h1
  rw [lowerA] at h3
  cases hj:lJoin l one with
  | none=>rw [hj] at h1; cases h1
  | some j' =>
   rw [hj] at h1
   have:=zjf hj h2
   cases hz:lOn l y with
   | none=>rw [hz] at h3; cases h3
   | some z =>
    rw [hz] at h3 this
    exact zhl h1 this h3
theorem OG.flat {o:Over} {t x:List Ent} (h:OG o t x) {j:List Mark} (hj:flatO o=some j):oFlat o=(⟨o.base,[j],o.upper⟩,true)∧OG ⟨o.base,[j],o.upper⟩ t x∧lOk j=true:=by
 refine ⟨by unfold oFlat; rw [if_pos h.ok,hj],?_⟩
 unfold flatO at hj
 split at hj
 ·rename_i a b r hl
  have hlow:=h.lay.2.1
  rw [hl,lowerA] at hlow
  cases hy:lOn a o.base with
  | none=>rw [hy] at hlow; cases hlow
  | some y =>
   rw [hy] at hlow
   have ho:=zhl hj hy hlow
   have h1:lower4 ⟨o.base,[j],o.upper⟩=some t:=by
    unfold lower4
    rw [if_pos ⟨h.lay.2.2,by simp⟩,lowerA,ho]; rfl
   refine ⟨OG.mk' h1 ?_ h.up,(qp ho).2.1⟩
   unfold view4
   rw [h1]
   exact h.on
 ·cases hj
theorem lay0 {l:List Mark} {t t':List Ent} {p:Str} {e:Ent} (h:lOn l t=some t') (hk:kind l p=0) (hf:find t' p=some e):find t p=some e:=by
 obtain ⟨_,h1,h2,rfl⟩:=qp h
 rw [yj (LG.of h1).srt (TG.of h2).srt,(LG.of h1).kind0.1 hk] at hf
 simp only at hf
 split at hf
 ·cases hf
 ·exact hf
theorem lays0 {p:Str} {e:Ent}:∀ {ls:List (List Mark)} {b t:List Ent},lowerA ls b=some t→(∀ l∈ls,kind l p=0)→find t p=some e→find b p=some e
 | [],b,t,h,_,hf=>by rw [lowerA] at h; cases h; exact hf
 | l::r,b,t,h,hk,hf=>by
  rw [lowerA] at h
  cases hz:lOn l b with
  | none=>rw [hz] at h; cases h
  | some z=>rw [hz] at h; exact lay0 hz (hk l (by simp)) (lays0 h (fun l hl=>hk l (by simp [hl])) hf)
theorem zos {all:List (List Mark)} {p:Str}:∀ {k:Nat},topN all p k=0→∀ j,j < k→kind (all.getD j []) p=0
 | 0,_,j,hj=>by omega
 | k+1,h,j,hj=>by
  rw [topN] at h
  split at h
  ·omega
  ·rename_i h1
   by_cases hjk:j=k
   ·subst hjk; simpa using h1
   ·exact zos h j (by omega)
theorem zot {all:List (List Mark)} {p:Str} {k:Nat} (h:topN all p (k+1)≠k+1):kind (all.getD k []) p=0:=by
 rw [topN] at h
 split at h
 ·exact absurd rfl h
 ·rename_i h1; simpa using h1
theorem OG.from {o:Over} {t x:List Ent} (h:OG o t x) {p:Str} {e:Ent} (hg:get x p=some e):(topN (allL o) p (allL o).length=0→get o.base p=some e)∧(topN (allL o) p (allL o).length≠o.layers.length+1→get t p=some e):=by
 have hal:(allL o).length=o.layers.length+1:=by simp [allL]
 unfold get at hg ⊢
 by_cases hp:p=[47]
 ·rw [if_pos hp] at hg; rw [if_pos hp,if_pos hp]; exact ⟨fun _=>hg,fun _=>hg⟩
 rw [if_neg hp] at hg
 rw [if_neg hp,if_neg hp]
 have hup:kind o.upper p=0→find t p=some e:=fun hk=>lay0 h.on hk hg
 have hgu:(allL o).getD o.layers.length []=o.upper:=by unfold allL; simp [List.getD]
 refine ⟨fun h0=>?_,fun hn=>?_⟩
 ·have hall:=zos h0
  refine lays0 h.lay.2.1 (fun l hl=>?_) (hup ?_)
  ·obtain ⟨j,hj,rfl⟩:=List.mem_iff_getElem.1 hl
   have:=hall j (by omega)
   have e1:(allL o).getD j []=o.layers[j]:=by unfold allL; simp [List.getD,List.getElem?_append_left hj,hj]
   rwa [e1] at this
  ·have:=hall o.layers.length (by omega)
   rwa [hgu] at this
 ·rw [hal] at hn
  have:=zot hn
  rw [hgu] at this
  exact hup this
theorem OG.get {o:Over} {t x:List Ent} (h:OG o t x) (p:Str):oGet o p=(Go.Proofs.YteheahbjaddooaaGreatDoor.get x p).map fun e=>(e,(topN (allL o) p (allL o).length:Int)):=by
 unfold oGet
 rw [if_pos h.ok,h.vw]
 simp only
 cases Go.Proofs.YteheahbjaddooaaGreatDoor.get x p<;>rfl
theorem OG.back {o:Over} {t x:List Ent} (h:OG o t x) {op:Op} (hc:(oDo o op).2=0):oDo (oDo o op).1 (backOp op ((oGet o op.path).map (·.1)))=(o,0):=by
 obtain ⟨h1,h2,h3,h4,_⟩:=h.do op
 have hc':=hc
 rw [h2] at hc'
 obtain ⟨g1,g2,g3,g4⟩:=y7 h.gx hc'
 rw [g3] at h1
 have hb:=ZL (TG.of h.gx) g1 g2
 have e:(oGet o op.path).map (·.1)=find x op.path:=by
  rw [h.get,j7 (yp g1)]
  cases find x op.path<;>rfl
 rw [e]
 generalize backOp op (find x op.path)=b at *
 rw [h1.doEq,hb,if_pos rfl,h3,h4,← h.up]
structure OS (o:Over):Prop where
 b:o.base.length≤17
 n:o.layers.length≤4
 l:∀ l∈o.layers,l.length≤32
 u:o.upper.length≤32
theorem OS.no:OS noO:=⟨by simp [noO],by simp [noO],by simp [noO],by simp [noO]⟩
theorem OG.os {o:Over} {t x:List Ent} (h:OG o t x):OS o:=by
 obtain ⟨h1,h2⟩:=zkG h.ok
 have hb:=(TG.of h.lay.2.2).len
 exact ⟨by omega,h.lay.1,fun l hl=>(qo.1 (h1 l hl)).1,(qo.1 h2).1⟩
theorem OS.ok {o:Over} (h:oOk o=true):OS o:=by obtain ⟨t,x,h⟩:=OG.of h; exact h.os
theorem OS.do {o:Over} (op:Op):OS (oDo o op).1:=by
 by_cases h:oOk o=true
 ·obtain ⟨t,x,h⟩:=OG.of h; exact (h.do op).1.os
 ·unfold oDo; rw [if_neg h]; exact OS.no
theorem OS.push {o:Over}:OS (oPush o).1:=by
 by_cases h:oOk o=true
 ·obtain ⟨t,x,h⟩:=OG.of h
  by_cases hl:4≤o.layers.length
  ·rw [(h.push_no hl).1]; exact h.os
  ·rw [(h.push hl).1]; exact (h.push hl).2.os
 ·unfold oPush; rw [if_neg h]; exact OS.no
theorem OS.flat {o:Over}:OS (oFlat o).1:=by
 by_cases h:oOk o=true
 ·obtain ⟨t,x,h⟩:=OG.of h
  cases hj:flatO o with
  | some j=>rw [(h.flat hj).1]; exact (h.flat hj).2.1.os
  | none=>unfold oFlat; rw [if_pos h.ok,hj]; exact h.os
 ·unfold oFlat; rw [if_neg h]; exact OS.no

structure Ev where
 kind:Int
 who:Int
 path:Str
 op:Op
 pos:Int
deriving DecidableEq
def eEv (e:Ev):CV := .agg [CI e.kind,CI e.who,CS e.path,CI e.op.kind,CS e.op.path,CS e.op.dest,CS e.op.data,CI e.pos]
def eEvs (l:List Ev):CV := .row (l.map eEv)
noncomputable def tb (p:Prop):Bool:=@decide p (Classical.propDecidable p)
theorem tb_t {p:Prop} (h:p):tb p=true:=@decide_eq_true p (Classical.propDecidable p) h
theorem tb_f {p:Prop} (h:¬ p):tb p=false:=@decide_eq_false p (Classical.propDecidable p) h
theorem tb_i {p:Prop}:tb p=true↔p:=⟨fun h=>@of_decide_eq_true p (Classical.propDecidable p) h,tb_t⟩
theorem tb_n {p:Prop}:tb p=false↔¬ p:=⟨fun h hp=>(by rw [tb_t hp] at h; cases h),tb_f⟩
theorem tb_c {p q:Prop} (h:p↔q):tb p=tb q:=by rw [propext h]
theorem pT {p:Prop} (h:p):CB true=CB (tb p):=by rw [tb_t h]
theorem pF {p:Prop} (h:¬ p):CB false=CB (tb p):=by rw [tb_f h]
instance (p:Prop):BP (tb p) p (¬ p):=⟨tb_i.1,tb_n.1⟩
def noOp:Op:=⟨0,[],[],[]⟩
def noW:Wld:=⟨noO,0,0,[],[],[],[],false,noOp⟩
def noH:Hold:=⟨[],false,noE,0,0⟩
def noMs:Msg:=⟨0,0,noH⟩
def isW (n:Int):Prop:=0≤n∧n < 3
def hdW (w:Wld) (who:Int):List Hold:=w.holds.getD who.toNat []
def flW (w:Wld) (who:Int):Int:=w.floors.getD who.toNat 0
def lfind (l:List Lease) (who:Int) (p:Str):Option Lease:=l.find? fun x=>x.who==who&&x.path==p
def So (w:Wld) (t:List Ent) (who:Int) (h:Hold):Prop :=
 w.clock < h.til→∃ l,lfind w.leases who h.path=some l∧(get t h.path).isSome=h.has∧(get t h.path).getD noE=h.ent∧w.clock < l.til∧h.num≤l.num∧h.til≤l.til
def LsG (w:Wld) (l:Lease):Prop:=isW l.who∧pOk l.path=true∧1≤l.num∧l.num≤w.count∧l.til≤w.clock+5
def LsD (a b:Lease):Prop:=¬ (a.who=b.who∧a.path=b.path)
structure LsOk (w:Wld):Prop where
 g:∀ l∈w.leases,LsG w l
 d:w.leases.Pairwise LsD
def WtOk (w:Wld) (t:List Ent):Prop:=(w.waits=false→w.op=noOp)∧(w.waits=true→(treeDo t w.op).2=0)
def HdG (w:Wld) (t:List Ent) (who:Int) (h:Hold):Prop:=pOk h.path=true∧0≤h.num∧h.num≤w.count∧So w t who h
structure HdOk (w:Wld) (t:List Ent) (who:Int):Prop where
 g:∀ h∈hdW w who,HdG w t who h
 d:(hdW w who).Pairwise fun a b=>a.path≠b.path
def plainH (h:Hold):Hold:=⟨h.path,false,noE,h.num,0⟩
def Given (w:Wld) (m:Msg):Prop:=m.hold.num≤flW w m.who∧∀ h∈hdW w m.who,h.path=m.hold.path→m.hold.num < h.num
structure MsOk (w:Wld) (t:List Ent) (m:Msg):Prop where
 who:isW m.who
 path:pOk m.hold.path=true
 num:0≤m.hold.num∧m.hold.num≤w.count
 kind:1≤m.kind∧m.kind≤4
 grant:m.kind=2→m.hold.num≤flW w m.who∨So w t m.who m.hold
 plain:m.kind≠2→m.hold=plainH m.hold
 back:m.kind=4→Given w m
structure PlW (w:Wld):Prop where
 ck:0≤w.clock∧w.clock≤10000
 ct:0≤w.count∧w.count≤10000
 hl:w.holds.length=3
 fl:w.floors.length=3
 nl:w.net.length≤12
 fr:∀ f∈w.floors,0≤f∧f≤w.count
structure WG (w:Wld):Prop where
 ov:oOk w.over=true
 pl:PlW w
 ls:LsOk w
 wt:WtOk w (vwG w.over)
 hd:∀ i:Nat,i < 3→HdOk w (vwG w.over) i
 ms:∀ m∈w.net,MsOk w (vwG w.over) m
def sendW (w:Wld) (m:Msg):Wld:=if w.net.length < 12 then { w with net:=w.net++[m] } else w
def rclM (n:Int) (l:Lease):Msg:=⟨3,l.who,⟨l.path,false,noE,n,0⟩⟩
def recallW (w:Wld) (b:List Lease):Wld:=b.foldl (fun w l=>sendW w (rclM w.count l)) w
def turnsW (w:Wld) (op:Op):List Str:=if (treeDo (vwG w.over) op).2=0 then turned (vwG w.over) (treeDo (vwG w.over) op).1 else []
def barsW (w:Wld) (op:Op):List Lease:=w.leases.filter fun l=>decide (w.clock < l.til)&&(turnsW w op).contains l.path
def writeW (w:Wld) (op:Op):Wld × Int :=
 if w.waits=true then (w,21) else if (treeDo (vwG w.over) op).2≠0 then (w,(treeDo (vwG w.over) op).2)
 else if barsW w op≠[] then (recallW { w with waits:=true,op:=op } (barsW w op),20)
 else ({ w with over:=(oDo w.over op).1 },0)
def tryW (w:Wld):Wld × Int :=
 if w.waits=false then (w,22) else if barsW w w.op≠[] then (recallW w (barsW w w.op),20)
 else ({ w with over:=(oDo w.over w.op).1,waits:=false,op:=noOp },0)
def tickC (w:Wld):Int:=if w.clock < 10000 then w.clock+1 else w.clock
def tickW (w:Wld):Wld:={ w with clock:=tickC w,leases:=w.leases.filter fun l=>decide (tickC w < l.til) }
def offL (l:List Lease) (who:Int) (p:Str) (num:Int):List Lease:=l.filter fun x=>!(x.who==who&&(x.path==p&&decide (x.num≤num)))
def grantW (w:Wld) (who:Int) (p:Str):Wld :=
 if (w.waits=true∧p∈turnsW w w.op)∨10000≤w.count then w else
 sendW { w with count:=w.count+1,leases:=offL w.leases who p (w.count+1)++[⟨who,p,w.count+1,w.clock+5⟩] }
  ⟨2,who,⟨p,(get (vwG w.over) p).isSome,(get (vwG w.over) p).getD noE,w.count+1,w.clock+5⟩⟩
def takeH (l:List Hold) (h:Hold):List Hold:=if l.any (fun x=>x.path==h.path&&decide (h.num≤x.num))=true then l else (l.filter fun x=>x.path != h.path)++[h]
def leaveH (l:List Hold) (p:Str) (num:Int):List Hold:=l.filter fun x=>!(x.path==p&&decide (x.num≤num))
def maxI (a b:Int):Int:=if b < a then a else b
def comeW (w:Wld) (m:Msg):Wld :=
 if m.kind=1 then grantW w m.who m.hold.path
 else if m.kind=2 then (if w.clock < m.hold.til∧flW w m.who < m.hold.num then { w with holds:=w.holds.set m.who.toNat (takeH (hdW w m.who) m.hold) } else w)
 else if m.kind=3 then sendW { w with holds:=w.holds.set m.who.toNat (leaveH (hdW w m.who) m.hold.path m.hold.num),floors:=w.floors.set m.who.toNat (maxI (flW w m.who) m.hold.num) } ⟨4,m.who,m.hold⟩
 else if m.kind=4 then { w with leases:=offL w.leases m.who m.hold.path m.hold.num }
 else w
def netW (w:Wld) (ev:Ev):Wld × Int :=
 if ev.pos < 0∨(w.net.length:Int)≤ev.pos then (w,22)
 else if ev.kind=7 then (sendW w (w.net.getD ev.pos.toNat noMs),0)
 else if ev.kind=5 then (comeW { w with net:=w.net.eraseIdx ev.pos.toNat } (w.net.getD ev.pos.toNat noMs),0)
 else ({ w with net:=w.net.eraseIdx ev.pos.toNat },0)
open Classical in
noncomputable def evW (w:Wld) (ev:Ev):Wld × Int :=
 if ev.kind=1 then (if isW ev.who∧pOk ev.path=true then (sendW w ⟨1,ev.who,⟨ev.path,false,noE,0,0⟩⟩,0) else (w,1))
 else if ev.kind=2 then writeW w ev.op
 else if ev.kind=3 then tryW w
 else if ev.kind=4 then (tickW w,0)
 else if 5≤ev.kind∧ev.kind≤7 then netW w ev
 else (w,1)
open Classical in
noncomputable def wDo (w:Wld) (ev:Ev):Wld × Int:=if WG w then evW w ev else (noW,1)
def newW (o:Over):Wld:=⟨o,0,0,[],[[],[],[]],[0,0,0],[],false,noOp⟩
open Classical in
noncomputable def wRead (w:Wld) (who:Int) (p:Str):Option (Ent × Bool) :=
 if WG w∧isW who then ((hdW w who).find? fun h=>h.path==p&&decide (w.clock < h.til)).map fun h=>(h.ent,h.has) else none
noncomputable def playA (w:Wld):List Ev→Wld × List Int
 | []=>(w,[])
 | e::r=>((playA (evW w e).1 r).1,(evW w e).2::(playA (evW w e).1 r).2)
open Classical in
noncomputable def wPlay (o:Over) (evs:List Ev):Wld × List Int:=if oOk o=true∧evs.length≤80 then playA (newW o) evs else (noW,[])

theorem zjG {l:List Lease} {who:Int} {p:Str} {x:Lease} (h:lfind l who p=some x):x.who=who∧x.path=p∧x∈l:=by
 unfold lfind at h
 have h1:=List.find?_some h
 simp only [Bool.and_eq_true,beq_iff_eq] at h1
 exact ⟨h1.1,h1.2,List.mem_of_find?_eq_some h⟩
theorem zjF {l:List Lease} {who:Int} {p:Str} (h:∀ x∈l,¬ (x.who=who∧x.path=p)):lfind l who p=none:=by
 unfold lfind
 rw [List.find?_eq_none]
 intro x hx
 simpa using h x hx
theorem zjE {who:Int} {p:Str} {x:Lease} {q:Lease→Bool}:∀ {l:List Lease},lfind l who p=some x→q x=true→lfind (l.filter q) who p=some x
 | [],h,_=>by cases h
 | y::l,h,hq=>by
  unfold lfind at h ⊢
  rw [List.find?_cons] at h
  cases hy:(y.who==who&&y.path==p) with
  | true =>
   rw [hy] at h
   cases h
   rw [List.filter_cons,if_pos hq,List.find?_cons,hy]
  | false =>
   rw [hy] at h
   have ih:=zjE (l:=l) (q:=q) h hq
   rw [List.filter_cons]
   split
   ·rw [List.find?_cons,hy]; exact ih
   ·exact ih
theorem zjD {a b:List Lease} {who:Int} {p:Str}:lfind (a++b) who p=(lfind a who p).or (lfind b who p):=by
 unfold lfind; rw [List.find?_append]
theorem So.to {w w':Wld} {t t':List Ent} {who:Int} {h:Hold} (hs:So w t who h) (hc:w.clock≤w'.clock) (ht:get t' h.path=get t h.path)
  (hl:∀ l,lfind w.leases who h.path=some l→w'.clock < h.til→w.clock < l.til→h.num≤l.num→h.til≤l.til→∃ l',lfind w'.leases who h.path=some l'∧w'.clock < l'.til∧h.num≤l'.num∧h.til≤l'.til):So w' t' who h:=by
 intro ha
 obtain ⟨l,h1,h2,h3,h4,h5,h6⟩:=hs (by omega)
 obtain ⟨l',g1,g2,g3,g4⟩:=hl l h1 ha h4 h5 h6
 exact ⟨l',g1,by rw [ht]; exact h2,by rw [ht]; exact h3,g2,g3,g4⟩
section
variable {w:Wld}
theorem WG.og (h:WG w):∃ t,OG w.over t (vwG w.over):=by
 obtain ⟨t,x,hx⟩:=OG.of h.ov
 exact ⟨t,by rw [hx.vwG]; exact hx⟩
theorem WG.gx (h:WG w):tOk (vwG w.over)=true:=by obtain ⟨t,ht⟩:=h.og; exact ht.gx
theorem WG.net (h:WG w) {n:List Msg} (hl:n.length≤12) (hn:∀ m∈n,MsOk w (vwG w.over) m):WG { w with net:=n } :=
  ⟨h.ov,⟨h.pl.ck,h.pl.ct,h.pl.hl,h.pl.fl,hl,h.pl.fr⟩,⟨h.ls.g,h.ls.d⟩,h.wt,fun i hi=>⟨(h.hd i hi).g,(h.hd i hi).d⟩,
   fun m hm=>⟨(hn m hm).who,(hn m hm).path,(hn m hm).num,(hn m hm).kind,(hn m hm).grant,(hn m hm).plain,(hn m hm).back⟩⟩
theorem WG.send (h:WG w) {m:Msg} (hm:MsOk w (vwG w.over) m):WG (sendW w m):=by
 unfold sendW
 split
 ·rename_i hl
  refine h.net (by simp; omega) fun x hx=>?_
  rcases List.mem_append.1 hx with hx | hx
  ·exact h.ms x hx
  ·rw [List.mem_singleton.1 hx]; exact hm
 ·exact h
theorem yJ {m:Msg}:(sendW w m).over=w.over∧(sendW w m).clock=w.clock∧(sendW w m).count=w.count∧(sendW w m).leases=w.leases∧(sendW w m).holds=w.holds∧(sendW w m).floors=w.floors∧(sendW w m).waits=w.waits∧(sendW w m).op=w.op:=by
 unfold sendW; split<;>exact ⟨rfl,rfl,rfl,rfl,rfl,rfl,rfl,rfl⟩
theorem zlQ (h:WG w) {l:Lease} (h1:isW l.who) (h2:pOk l.path=true):MsOk w (vwG w.over) (rclM w.count l) :=
 ⟨h1,h2,⟨h.pl.ct.1,Int.le_refl _⟩,by simp [rclM],fun e=>absurd e (by simp [rclM]),fun _=>rfl,fun e=>absurd e (by simp [rclM])⟩
theorem WG.recall:∀ {b:List Lease} {w:Wld},WG w→(∀ l∈b,isW l.who∧pOk l.path=true)→WG (recallW w b)
 | [],_,h,_=>h
 | l::b,w,h,hb=>by
  have h1:=zlQ h (hb l (by simp)).1 (hb l (by simp)).2
  exact WG.recall (b:=b) (h.send h1) fun l hl=>hb l (by simp [hl])
theorem yB:∀ {b:List Lease} {w:Wld},(recallW w b).over=w.over∧(recallW w b).clock=w.clock∧(recallW w b).count=w.count∧(recallW w b).leases=w.leases∧(recallW w b).holds=w.holds∧(recallW w b).floors=w.floors∧(recallW w b).waits=w.waits∧(recallW w b).op=w.op
 | [],_=>⟨rfl,rfl,rfl,rfl,rfl,rfl,rfl,rfl⟩
 | l::b,w=>by
  have ih:=yB (b:=b) (w:=sendW w (rclM w.count l))
  have h:=@yJ w (rclM w.count l)
  obtain ⟨a1,a2,a3,a4,a5,a6,a7,a8⟩:=h
  rw [a1,a2,a3,a4,a5,a6,a7,a8] at ih
  exact ih
theorem zj {op:Op} {l:Lease}:l∈barsW w op↔l∈w.leases∧w.clock < l.til∧l.path∈turnsW w op:=by
 unfold barsW; simp
theorem WG.bars (h:WG w) {op:Op}:∀ l∈barsW w op,isW l.who∧pOk l.path=true:=fun l hl =>
 have:=h.ls.g l (zj.1 hl).1
 ⟨this.1,this.2.1⟩
theorem zoE {op:Op} (hc:(treeDo (vwG w.over) op).2=0):turnsW w op=turned (vwG w.over) (treeDo (vwG w.over) op).1:=by unfold turnsW; rw [if_pos hc]
theorem WG.over (h:WG w) {op:Op} (hc:(treeDo (vwG w.over) op).2=0) (hb:barsW w op=[]):WG { w with over:=(oDo w.over op).1,waits:=false,op:=noOp }:=by
 obtain ⟨t,ht⟩:=h.og
 obtain ⟨h1,_⟩:=ht.do op
 have hv:vwG (oDo w.over op).1=(treeDo (vwG w.over) op).1:=h1.vwG
 have hs:∀ {who:Int} {x:Hold},pOk x.path=true→So w (vwG w.over) who x→So { w with over:=(oDo w.over op).1,waits:=false,op:=noOp } (treeDo (vwG w.over) op).1 who x:=fun {who x} hp hs=>by
  intro ha
  obtain ⟨l,g1,g2,g3,g4,g5,g6⟩:=hs ha
  obtain ⟨e1,e2,e3⟩:=zjG g1
  have hn:x.path ∉ turned (vwG w.over) (treeDo (vwG w.over) op).1:=fun hin=>by
   have:l∈barsW w op:=zj.2 ⟨e3,g4,by rw [zoE hc,e2]; exact hin⟩
   rw [hb] at this; cases this
  have hf:find (vwG w.over) x.path=find (treeDo (vwG w.over) op).1 x.path:=by
   refine Classical.byContradiction fun hne=>hn ?_
   exact (qV (TG.of ht.gx) (TG.of h1.gx)).2 hne
  rw [j7 hp,hf,← j7 hp] at g2 g3
  exact ⟨l,g1,g2,g3,g4,g5,g6⟩
 refine ⟨h1.ok,⟨h.pl.ck,h.pl.ct,h.pl.hl,h.pl.fl,h.pl.nl,h.pl.fr⟩,⟨h.ls.g,h.ls.d⟩,⟨fun _=>rfl,fun e=>by cases e⟩,fun i hi=>⟨fun x hx=>?_,(h.hd i hi).d⟩,fun m hm=>?_⟩
 ·obtain ⟨a,b,c,d⟩:=(h.hd i hi).g x hx
  rw [hv]
  exact ⟨a,b,c,hs a d⟩
 ·have hm':=h.ms m hm
  rw [hv]
  exact ⟨hm'.who,hm'.path,hm'.num,hm'.kind,fun e=>(hm'.grant e).imp id (hs hm'.path),hm'.plain,hm'.back⟩
theorem ziH {w:Wld} {k:Int} {L:List Hold} {f:List Int} {n:List Msg} {i:Nat} (hk:isW k) (hl:w.holds.length=3):hdW { w with holds:=w.holds.set k.toNat L,floors:=f,net:=n } i=if (i:Int)=k then L else hdW w i:=by
 unfold hdW
 have:=hk.1; have:=hk.2
 have e:((i:Int)).toNat=i:=by simp
 simp only [e,List.getD,List.getElem?_set]
 by_cases h:(i:Int)=k
 ·rw [if_pos h,if_pos (by omega),if_pos (by omega)]; rfl
 ·rw [if_neg h,if_neg (by omega)]
theorem ql {k:Int} (h:isW k):∃ i:Nat,i < 3∧k=(i:Int):=⟨k.toNat,by have:=h.1; have:=h.2; omega,by have:=h.1; omega⟩
theorem zhi {w:Wld} {k:Int} {v:Int} {L:List (List Hold)} {n:List Msg} {i:Nat} (hk:isW k) (hl:w.floors.length=3):flW { w with holds:=L,floors:=w.floors.set k.toNat v,net:=n } i=if (i:Int)=k then v else flW w i:=by
 unfold flW
 have:=hk.1; have:=hk.2
 have e:((i:Int)).toNat=i:=by simp
 simp only [e,List.getD,List.getElem?_set]
 by_cases h:(i:Int)=k
 ·rw [if_pos h,if_pos (by omega),if_pos (by omega)]; rfl
 ·rw [if_neg h,if_neg (by omega)]
theorem zhh {w:Wld} {k:Int} (hk:isW k) (hl:w.floors.length=3):flW w k∈w.floors:=by
 unfold flW
 have:=hk.1; have:=hk.2
 have h:k.toNat < w.floors.length:=by omega
 simp only [List.getD,List.getElem?_eq_getElem h,Option.getD_some]
 exact List.getElem_mem h
theorem zoj:w.clock≤tickC w∧tickC w≤w.clock+1:=by unfold tickC; split<;>omega
theorem WG.tick (h:WG w):WG (tickW w):=by
 have hc:=@zoj w
 have hm:tickC w≤10000:=by have:=h.pl.ck; unfold tickC; split<;>omega
 have hs:∀ {who:Int} {x:Hold},So w (vwG w.over) who x→So (tickW w) (vwG w.over) who x:=fun {who x} hs =>
  hs.to hc.1 rfl fun l h1 h2 h3 h4 h5=>⟨l,zjE h1 (decide_eq_true (show tickC w < l.til by have:tickC w < x.til:=h2; omega)),by have:tickC w < x.til:=h2; show tickC w < l.til; omega,h4,h5⟩
 refine ⟨h.ov,⟨⟨by have:=h.pl.ck; show 0≤tickC w; omega,hm⟩,h.pl.ct,h.pl.hl,h.pl.fl,h.pl.nl,h.pl.fr⟩,⟨fun l hl=>?_,h.ls.d.filter _⟩,h.wt,fun i hi=>⟨fun x hx=>?_,(h.hd i hi).d⟩,fun m hm=>?_⟩
 ·obtain ⟨a,b,c,d,e⟩:=h.ls.g l (List.mem_filter.1 hl).1
  exact ⟨a,b,c,d,by show l.til≤tickC w+5; omega⟩
 ·obtain ⟨a,b,c,d⟩:=(h.hd i hi).g x hx
  exact ⟨a,b,c,hs d⟩
 ·have hm':=h.ms m hm
  exact ⟨hm'.who,hm'.path,hm'.num,hm'.kind,fun e=>(hm'.grant e).imp id hs,hm'.plain,hm'.back⟩
theorem yg {l:List Lease} {who num:Int} {p:Str} {x:Lease}:x∈offL l who p num↔x∈l∧¬ (x.who=who∧x.path=p∧x.num≤num):=by
 unfold offL; simp only [List.mem_filter,Bool.not_eq_true',Bool.and_eq_false_imp,Bool.and_eq_true,beq_iff_eq,decide_eq_false_iff_not]
 constructor
 ·rintro ⟨h1,h2⟩
  refine ⟨h1,fun ⟨a,b,c⟩=>?_⟩
  have:=h2 a
  simp [b] at this; omega
 ·rintro ⟨h1,h2⟩
  refine ⟨h1,fun a=>?_⟩
  by_cases b:x.path=p
  ·simp [b]; have:¬ x.num≤num:=fun c=>h2 ⟨a,b,c⟩; omega
  ·simp [b]
theorem zkO {l:List Lease} {who num:Int} {p:Str} {who':Int} {q:Str} {x:Lease} (h:lfind l who' q=some x) (hx:¬ (who'=who∧q=p∧x.num≤num)):lfind (offL l who p num) who' q=some x:=by
 refine zjE h ?_
 obtain ⟨h1,h2,h3⟩:=zjG h
 have:=yg (l:=l) (who:=who) (num:=num) (p:=p) (x:=x)
 have h4:x∈offL l who p num:=this.2 ⟨h3,by rw [h1,h2]; exact hx⟩
 exact (List.mem_filter.1 h4).2
def grantM (w:Wld) (who:Int) (p:Str):Msg:=⟨2,who,⟨p,(get (vwG w.over) p).isSome,(get (vwG w.over) p).getD noE,w.count+1,w.clock+5⟩⟩
def grantL (w:Wld) (who:Int) (p:Str):Wld:={ w with count:=w.count+1,leases:=offL w.leases who p (w.count+1)++[⟨who,p,w.count+1,w.clock+5⟩] }
theorem ziA (h:WG w) {who:Int} {p:Str}:lfind (grantL w who p).leases who p=some ⟨who,p,w.count+1,w.clock+5⟩:=by
 unfold grantL
 rw [zjD,zjF fun x hx=>?_]
 ·unfold lfind; simp
 ·rintro ⟨h1,h2⟩
  obtain ⟨h3,h4⟩:=yg.1 hx
  have:=(h.ls.g x h3).2.2.2.1
  exact h4 ⟨h1,h2,by omega⟩
theorem WG.grantL (h:WG w) {who:Int} {p:Str} (hw:isW who) (hp:pOk p=true) (hc:w.count < 10000):WG (grantL w who p)∧MsOk (Go.Proofs.YteheahbjaddooaaGreatDoor.grantL w who p) (vwG w.over) (grantM w who p):=by
 have hf:=ziA h (who:=who) (p:=p)
 have hct:=h.pl.ct
 have hs:∀ {who':Int} {x:Hold},So w (vwG w.over) who' x→So (Go.Proofs.YteheahbjaddooaaGreatDoor.grantL w who p) (vwG w.over) who' x:=fun {who' x} hs =>
  hs.to (Int.le_refl _) rfl fun l h1 h2 h3 h4 h5=>by
   obtain ⟨e1,e2,e3⟩:=zjG h1
   have hl:=h.ls.g l e3
   by_cases hk:who'=who∧x.path=p
   ·rw [hk.1,hk.2,hf]
    have hl1:=hl.2.2.2.1
    have hl2:=hl.2.2.2.2
    exact ⟨_,rfl,by show w.clock < w.clock+5; omega,by show x.num≤w.count+1; omega,by show x.til≤w.clock+5; omega⟩
   ·refine ⟨l,?_,h3,h4,h5⟩
    show lfind (offL w.leases who p (w.count+1)++_) who' x.path=some l
    rw [zjD,zkO h1 fun hh=>hk ⟨hh.1,hh.2.1⟩]; rfl
 refine ⟨⟨h.ov,⟨h.pl.ck,⟨by show 0≤w.count+1; omega,by show w.count+1≤10000; omega⟩,h.pl.hl,h.pl.fl,h.pl.nl,fun f hf=>?_⟩,⟨fun l hl=>?_,?_⟩,h.wt,fun i hi=>⟨fun x hx=>?_,(h.hd i hi).d⟩,fun m hm=>?_⟩,?_⟩
 ·obtain ⟨a,b⟩:=h.pl.fr f hf
  exact ⟨a,by show f≤w.count+1; omega⟩
 ·rcases List.mem_append.1 hl with hl | hl
  ·obtain ⟨a,b,c,d,e⟩:=h.ls.g l (yg.1 hl).1
   exact ⟨a,b,c,by show l.num≤w.count+1; omega,e⟩
  ·rw [List.mem_singleton.1 hl]
   exact ⟨hw,hp,by show 1≤w.count+1; omega,Int.le_refl _,Int.le_refl _⟩
 ·refine List.pairwise_append.2 ⟨h.ls.d.filter _,by simp,fun a ha b hb=>?_⟩
  rw [List.mem_singleton.1 hb]
  rintro ⟨e1,e2⟩
  obtain ⟨h3,h4⟩:=yg.1 ha
  have:=(h.ls.g a h3).2.2.2.1
  exact h4 ⟨e1,e2,by omega⟩
 ·obtain ⟨a,b,c,d⟩:=(h.hd i hi).g x hx
  exact ⟨a,b,by show x.num≤w.count+1; omega,hs d⟩
 ·have hm':=h.ms m hm
  have:=hm'.num
  exact ⟨hm'.who,hm'.path,⟨this.1,by show m.hold.num≤w.count+1; omega⟩,hm'.kind,fun e=>(hm'.grant e).imp id hs,hm'.plain,hm'.back⟩
 ·refine ⟨hw,hp,⟨by show 0≤w.count+1; omega,Int.le_refl _⟩,by simp [grantM],fun _ => .inr fun _=>?_,fun e=>absurd rfl e,fun e=>absurd e (by simp [grantM])⟩
  exact ⟨_,hf,rfl,rfl,by show w.clock < w.clock+5; omega,Int.le_refl _,Int.le_refl _⟩
theorem ziC {who:Int} {p:Str}:grantW w who p=if (w.waits=true∧p∈turnsW w w.op)∨10000≤w.count then w else sendW (grantL w who p) (grantM w who p):=rfl
theorem zke {l:List Hold} {h x:Hold} (hx:x∈takeH l h):x∈l∨x=h:=by
 unfold takeH at hx
 split at hx
 ·exact .inl hx
 ·rcases List.mem_append.1 hx with hx | hx
  ·exact .inl (List.mem_filter.1 hx).1
  ·exact .inr (List.mem_singleton.1 hx)
theorem zog {l:List Hold} {h:Hold} (hp:l.Pairwise fun a b=>a.path≠b.path):(takeH l h).Pairwise fun a b=>a.path≠b.path:=by
 unfold takeH
 split
 ·exact hp
 ·refine List.pairwise_append.2 ⟨hp.filter _,by simp,fun a ha b hb=>?_⟩
  rw [List.mem_singleton.1 hb]
  simpa using (List.mem_filter.1 ha).2
theorem WG.take (h:WG w) {m:Msg} (hm:MsOk w (vwG w.over) m) (hk:m.kind=2) (hf:flW w m.who < m.hold.num):WG { w with holds:=w.holds.set m.who.toNat (takeH (hdW w m.who) m.hold) }:=by
 have e:=@ziH w m.who (takeH (hdW w m.who) m.hold) w.floors w.net
 obtain ⟨j,hj,hjw⟩:=ql hm.who
 have hso:So w (vwG w.over) m.who m.hold:=by
  rcases hm.grant hk with h1 | h1
  ·omega
  ·exact h1
 refine ⟨h.ov,⟨h.pl.ck,h.pl.ct,by simp [h.pl.hl],h.pl.fl,h.pl.nl,h.pl.fr⟩,⟨h.ls.g,h.ls.d⟩,h.wt,fun i hi=>?_,fun x hx=>?_⟩
 ·have e':=@e i hm.who h.pl.hl
  by_cases hik:(i:Int)=m.who
  ·rw [if_pos hik] at e'
   refine ⟨fun x hx=>?_,?_⟩
   ·rw [e'] at hx
    rcases zke hx with hx | rfl
    ·rw [hjw] at hx
     have:=(h.hd j hj).g x hx
     rw [hik,hjw]
     exact this
    ·rw [hik]
     exact ⟨hm.path,hm.num.1,hm.num.2,hso⟩
   ·rw [e',hjw]
    exact zog (h.hd j hj).d
  ·rw [if_neg hik] at e'
   exact ⟨fun x hx=>by rw [e'] at hx; exact (h.hd i hi).g x hx,by rw [e']; exact (h.hd i hi).d⟩
 ·have hx':=h.ms x hx
  refine ⟨hx'.who,hx'.path,hx'.num,hx'.kind,hx'.grant,hx'.plain,fun e4=>?_⟩
  obtain ⟨b1,b2⟩:=hx'.back e4
  obtain ⟨i,hi,hiw⟩:=ql hx'.who
  refine ⟨b1,fun y hy hyp=>?_⟩
  have e':=@e i hm.who h.pl.hl
  rw [hiw] at hy
  rw [e'] at hy
  by_cases hik:(i:Int)=m.who
  ·rw [if_pos hik] at hy
   rcases zke hy with hy | rfl
   ·exact b2 y (by rw [hiw,hik]; exact hy) hyp
   ·rw [hiw,hik] at b1; omega
  ·rw [if_neg hik] at hy
   exact b2 y (by rw [hiw]; exact hy) hyp
theorem zka {l:List Hold} {p:Str} {n:Int} {x:Hold}:x∈leaveH l p n↔x∈l∧(x.path=p→n < x.num):=by
 unfold leaveH
 simp only [List.mem_filter,Bool.not_eq_true',Bool.and_eq_false_imp,beq_iff_eq,decide_eq_false_iff_not,Int.not_le]
theorem WG.leave (h:WG w) {m:Msg} (hm:MsOk w (vwG w.over) m) (hk:m.kind=3):WG (comeW w m):=by
 unfold comeW
 rw [if_neg (by omega),if_neg (by omega),if_pos hk]
 have e:=@ziH w m.who (leaveH (hdW w m.who) m.hold.path m.hold.num) (w.floors.set m.who.toNat (maxI (flW w m.who) m.hold.num)) w.net
 have ef:=@zhi w m.who (maxI (flW w m.who) m.hold.num) (w.holds.set m.who.toNat (leaveH (hdW w m.who) m.hold.path m.hold.num)) w.net
 obtain ⟨j,hj,hjw⟩:=ql hm.who
 have hmx:∀ a b:Int,a≤maxI a b∧b≤maxI a b∧(maxI a b=a∨maxI a b=b):=fun a b=>by unfold maxI; split<;>omega
 have hfm:=h.pl.fr _ (zhh hm.who h.pl.fl)
 have hge:∀ i:Nat,flW w i≤flW { w with holds:=w.holds.set m.who.toNat (leaveH (hdW w m.who) m.hold.path m.hold.num),floors:=w.floors.set m.who.toNat (maxI (flW w m.who) m.hold.num) } i:=fun i=>by
  rw [@ef i hm.who h.pl.fl]
  split
  ·rename_i hi; rw [hi]; exact (hmx _ _).1
  ·exact Int.le_refl _
 have hsub:∀ i:Nat,∀ x∈hdW { w with holds:=w.holds.set m.who.toNat (leaveH (hdW w m.who) m.hold.path m.hold.num),floors:=w.floors.set m.who.toNat (maxI (flW w m.who) m.hold.num) } i,x∈hdW w i:=fun i x hx=>by
  rw [@e i hm.who h.pl.hl] at hx
  split at hx
  ·rename_i hi; rw [hi]; exact (zka.1 hx).1
  ·exact hx
 have hnew:WG { w with holds:=w.holds.set m.who.toNat (leaveH (hdW w m.who) m.hold.path m.hold.num),floors:=w.floors.set m.who.toNat (maxI (flW w m.who) m.hold.num) }:=by
  refine ⟨h.ov,⟨h.pl.ck,h.pl.ct,by simp [h.pl.hl],by simp [h.pl.fl],h.pl.nl,fun f hf=>?_⟩,⟨h.ls.g,h.ls.d⟩,h.wt,fun i hi=>⟨fun x hx=>(h.hd i hi).g x (hsub i x hx),?_⟩,fun x hx=>?_⟩
  ·rcases List.mem_or_eq_of_mem_set hf with hf | rfl
   ·exact h.pl.fr f hf
   ·have:=hm.num
    rcases (hmx (flW w m.who) m.hold.num).2.2 with e1 | e1
    ·rw [e1]; exact hfm
    ·rw [e1]; exact this
  ·rw [@e i hm.who h.pl.hl]
   split
   ·rename_i hik; rw [← hik]; exact (h.hd i hi).d.filter _
   ·exact (h.hd i hi).d
  ·have hx':=h.ms x hx
   obtain ⟨i,hi,hiw⟩:=ql hx'.who
   refine ⟨hx'.who,hx'.path,hx'.num,hx'.kind,fun e2=>(hx'.grant e2).imp (fun hh=>?_) id,hx'.plain,fun e4=>?_⟩
   ·have:=hge i; rw [hiw] at hh ⊢; omega
   ·obtain ⟨b1,b2⟩:=hx'.back e4
    refine ⟨?_,fun y hy hyp=>?_⟩
    ·have:=hge i; rw [hiw] at b1 ⊢; omega
    ·rw [hiw] at hy; exact b2 y (by rw [hiw]; exact hsub i y hy) hyp
 refine hnew.send ⟨hm.who,hm.path,hm.num,by simp,fun e=>absurd e (by simp),fun _=>hm.plain (by omega),fun _=>⟨?_,fun y hy hyp=>?_⟩⟩
 ·show m.hold.num≤flW _ m.who
  have e2:=@ef j hm.who h.pl.fl
  rw [if_pos hjw.symm,← hjw] at e2
  rw [e2]
  exact (hmx _ _).2.1
 ·show m.hold.num < y.num
  have hy':y∈hdW { w with holds:=w.holds.set m.who.toNat (leaveH (hdW w m.who) m.hold.path m.hold.num),floors:=w.floors.set m.who.toNat (maxI (flW w m.who) m.hold.num) } m.who:=hy
  have e2:=@e j hm.who h.pl.hl
  rw [if_pos hjw.symm,← hjw] at e2
  rw [e2] at hy'
  exact (zka.1 hy').2 hyp
theorem WG.give (h:WG w) {m:Msg} (hm:MsOk w (vwG w.over) m) (hk:m.kind=4):WG { w with leases:=offL w.leases m.who m.hold.path m.hold.num }:=by
 obtain ⟨b1,b2⟩:=hm.back hk
 have hs:∀ {who:Int} {x:Hold},(who=m.who→x.path=m.hold.path→m.hold.num < x.num)→So w (vwG w.over) who x→So { w with leases:=offL w.leases m.who m.hold.path m.hold.num } (vwG w.over) who x:=fun {who x} hn hs =>
  hs.to (Int.le_refl _) rfl fun l h1 h2 h3 h4 h5=>⟨l,zkO h1 fun ⟨e1,e2,e3⟩=>by have:=hn e1 e2; omega,h3,h4,h5⟩
 refine ⟨h.ov,⟨h.pl.ck,h.pl.ct,h.pl.hl,h.pl.fl,h.pl.nl,h.pl.fr⟩,⟨fun l hl=>h.ls.g l (yg.1 hl).1,h.ls.d.filter _⟩,h.wt,fun i hi=>⟨fun x hx=>?_,(h.hd i hi).d⟩,fun x hx=>?_⟩
 ·obtain ⟨a,b,c,d⟩:=(h.hd i hi).g x hx
  exact ⟨a,b,c,hs (fun e1 e2=>b2 x (by rw [← e1]; exact hx) e2) d⟩
 ·have hx':=h.ms x hx
  refine ⟨hx'.who,hx'.path,hx'.num,hx'.kind,fun e2=>?_,hx'.plain,hx'.back⟩
  by_cases hf:x.hold.num≤flW w x.who
  ·exact .inl hf
  ·refine .inr (hs (fun e1 _=>?_) ((hx'.grant e2).resolve_left hf))
   rw [e1] at hf; omega
theorem WG.come (h:WG w) {m:Msg} (hm:MsOk w (vwG w.over) m):WG (comeW w m):=by
 by_cases h3:m.kind=3
 ·exact h.leave hm h3
 unfold comeW
 by_cases h1:m.kind=1
 ·rw [if_pos h1,ziC]
  split
  ·exact h
  ·rename_i hc
   obtain ⟨g1,g2⟩:=h.grantL hm.who hm.path (by omega)
   exact g1.send g2
 rw [if_neg h1]
 by_cases h2:m.kind=2
 ·rw [if_pos h2]
  split
  ·rename_i hc; exact h.take hm h2 hc.2
  ·exact h
 rw [if_neg h2,if_neg h3]
 by_cases h4:m.kind=4
 ·rw [if_pos h4]; exact h.give hm h4
 ·rw [if_neg h4]; exact h
theorem WG.lose (h:WG w) (k:Nat):WG { w with net:=w.net.eraseIdx k } :=
 h.net (Nat.le_trans (by rw [List.length_eraseIdx]; split<;>omega) h.pl.nl) fun m hm=>h.ms m (List.mem_of_mem_eraseIdx hm)
theorem zid {k:Nat} (h:k < w.net.length):w.net.getD k noMs∈w.net:=by
 simp only [List.getD,List.getElem?_eq_getElem h,Option.getD_some]; exact List.getElem_mem h
theorem WG.netW (h:WG w) (ev:Ev):WG (netW w ev).1:=by
 unfold Go.Proofs.YteheahbjaddooaaGreatDoor.netW
 split
 ·exact h
 ·rename_i hp
  have hm:=h.ms _ (zid (w:=w) (k:=ev.pos.toNat) (by omega))
  split
  ·exact h.send hm
  ·split
   ·exact (h.lose _).come ⟨hm.who,hm.path,hm.num,hm.kind,hm.grant,hm.plain,hm.back⟩
   ·exact h.lose _
theorem WG.wait (h:WG w) {op:Op} (hc:(treeDo (vwG w.over) op).2=0):WG { w with waits:=true,op:=op } :=
  ⟨h.ov,⟨h.pl.ck,h.pl.ct,h.pl.hl,h.pl.fl,h.pl.nl,h.pl.fr⟩,⟨h.ls.g,h.ls.d⟩,⟨fun e=>(by cases e),fun _=>hc⟩,fun i hi=>⟨(h.hd i hi).g,(h.hd i hi).d⟩,
   fun m hm=>⟨(h.ms m hm).who,(h.ms m hm).path,(h.ms m hm).num,(h.ms m hm).kind,(h.ms m hm).grant,(h.ms m hm).plain,(h.ms m hm).back⟩⟩
theorem WG.idle (h:WG w) (hw:w.waits=false) {o:Over}:({ w with over:=o }:Wld)={ w with over:=o,waits:=false,op:=noOp }:=by
 have:=h.wt.1 hw
 cases w; simp at *; exact ⟨hw,this⟩
theorem WG.write (h:WG w) (op:Op):WG (writeW w op).1:=by
 unfold writeW
 by_cases hw:w.waits=true
 ·rw [if_pos hw]; exact h
 rw [if_neg hw]
 by_cases hc:(treeDo (vwG w.over) op).2=0
 ·rw [if_neg (by simp [hc])]
  by_cases hb:barsW w op=[]
  ·rw [if_neg (by simp [hb])]
   simp only
   rw [h.idle (by simpa using hw)]
   exact h.over hc hb
  ·rw [if_pos hb]
   exact (h.wait hc).recall h.bars
 ·rw [if_pos hc]; exact h
theorem WG.try (h:WG w):WG (tryW w).1:=by
 unfold tryW
 by_cases hw:w.waits=false
 ·rw [if_pos hw]; exact h
 rw [if_neg hw]
 by_cases hb:barsW w w.op=[]
 ·rw [if_neg (by simp [hb])]
  exact h.over (h.wt.2 (by simpa using hw)) hb
 ·rw [if_pos hb]
  exact h.recall h.bars
theorem WG.ev (h:WG w) (ev:Ev):WG (evW w ev).1:=by
 unfold evW
 split
 ·split
  ·rename_i hh
   exact h.send ⟨hh.1,hh.2,⟨by show (0:Int)≤0; omega,h.pl.ct.1⟩,by simp,fun e=>absurd e (by simp),fun _=>rfl,fun e=>absurd e (by simp)⟩
  ·exact h
 ·split
  ·exact h.write _
  ·split
   ·exact h.try
   ·split
    ·exact h.tick
    ·split
     ·exact h.netW _
     ·exact h
end
theorem WG.new {o:Over} (h:oOk o=true):WG (newW o):=by
 refine ⟨h,⟨by simp [newW],by simp [newW],rfl,rfl,by simp [newW],fun f hf=>?_⟩,⟨fun l hl=>(by cases hl),List.Pairwise.nil⟩,⟨fun _=>rfl,fun e=>(by cases e)⟩,fun i hi=>?_,fun m hm=>by cases hm⟩
 ·have:f=0:=by simpa [newW] using hf
  rw [this]; simp [newW]
 ·have e:hdW (newW o) i=[]:=by
   have:i=0∨i=1∨i=2:=by omega
   rcases this with rfl | rfl | rfl<;>rfl
  exact ⟨fun x hx=>(by rw [e] at hx; cases hx),by rw [e]; exact List.Pairwise.nil⟩
theorem zo5 {w:Wld} (h:WG w) (ev:Ev):wDo w ev=evW w ev:=by unfold wDo; rw [if_pos h]
theorem WG.do {w:Wld} (h:WG w) (ev:Ev):WG (wDo w ev).1:=by rw [zo5 h]; exact h.ev ev
theorem WG.play:∀ {l:List Ev} {w:Wld},WG w→WG (playA w l).1
 | [],_,h=>h
 | e::l,w,h=>WG.play (l:=l) (h.ev e)

def gIdx {α:Type} (q:α→Bool) (l:List α):Int:=match l.findIdx? q with
 | some i=>i
 | none => -1
theorem j0 {α:Type} (q:α→Bool) (l:List α):(gIdx q l = -1∧l.find? q=none∧∀ e∈l,q e=false)∨∃ j,∃ h:j < l.length,gIdx q l=(j:Int)∧l.find? q=some l[j]∧q l[j]=true∧∀ i (h':i < l.length),i < j→q l[i]=false:=by
 unfold gIdx
 cases hf:l.findIdx? q with
 | none =>
  left
  have hn:=List.findIdx?_eq_none_iff.1 hf
  exact ⟨rfl,List.find?_eq_none.2 fun e he=>by simp [hn e he],hn⟩
 | some j =>
  right
  obtain ⟨h,h1,h2⟩:=List.findIdx?_eq_some_iff_getElem.1 hf
  refine ⟨j,h,rfl,?_,h1,fun i h' hi=>by simpa using h2 i hi⟩
  rw [List.find?_eq_some_iff_getElem]
  exact ⟨h1,j,h,rfl,fun i hi=>by simpa using h2 i hi⟩
theorem zia {α:Type} {q:α→Bool} {l:List α} {k:Nat} (h:k < l.length) (hp:q l[k]=true) (hn:∀ i (h':i < l.length),i < k→q l[i]=false):gIdx q l=(k:Int):=by
 rcases j0 q l with ⟨_,_,h3⟩ | ⟨j,hj,h1,_,h2,h3⟩
 ·rw [h3 _ (List.getElem_mem h)] at hp; cases hp
 ·rcases Nat.lt_trichotomy j k with h' | h' | h'
  ·rw [hn j hj h'] at h2; cases h2
  ·rw [h1,h']
  ·rw [h3 k h h'] at hp; cases hp
theorem zic {α:Type} {q:α→Bool} {l:List α} (hn:∀ e∈l,q e=false):gIdx q l = -1:=by
 rcases j0 q l with ⟨h,_⟩ | ⟨j,hj,_,_,h2,_⟩
 ·exact h
 ·rw [hn _ (List.getElem_mem hj)] at h2; cases h2
theorem firsts {α:Type} {R:α→α→Bool} (hr:∀ a,R a a=true) {l:List α}:(∀ i (h:i < l.length),gIdx (R l[i]) l=(i:Int))↔l.Pairwise fun a b=>R b a=false:=by
 rw [List.pairwise_iff_getElem]
 constructor
 ·intro h i j hi hj hij
  rcases j0 (R l[j]) l with ⟨h1,_⟩ | ⟨k,hk,h1,_,_,h3⟩
  ·rw [h j hj] at h1; omega
  ·rw [h j hj] at h1
   exact h3 i hi (by omega)
 ·intro h i hi
  exact zia hi (hr _) fun k hk hki=>h k i hk hi hki
def hKey (a b:Hold):Bool:=b.path==a.path
def lKey (a b:Lease):Bool:=b.who==a.who&&b.path==a.path
def hAt (l:List Hold) (p:Str):Int:=gIdx (fun h=>h.path==p) l
def lAt (l:List Lease) (who:Int) (p:Str):Int:=gIdx (fun x=>x.who==who&&x.path==p) l
structure NtOk (w:Wld) (m:Msg):Prop where
 kind:1≤m.kind∧m.kind≤4
 who:isW m.who
 path:pOk m.hold.path=true
 num:0≤m.hold.num∧m.hold.num≤w.count
 plain:m.kind≠2→m.hold=plainH m.hold
structure HsOk (w:Wld) (l:List Hold):Prop where
 g:∀ h∈l,pOk h.path=true∧0≤h.num∧h.num≤w.count
 d:l.Pairwise fun a b=>a.path≠b.path
def Counts (w:Wld) (m:Msg):Prop:=m.kind=2∧w.clock < m.hold.til∧flW w m.who < m.hold.num
def HeldOk (w:Wld) (t:List Ent):Prop:=(∀ i:Nat,i < 3→∀ h∈hdW w i,So w t i h)∧∀ m∈w.net,Counts w m→So w t m.who m.hold
def BackOk (w:Wld):Prop:=∀ m∈w.net,m.kind=4→Given w m
structure PG (w:Wld):Prop where
 ov:oOk w.over=true
 ck:0≤w.clock∧w.clock≤10000
 ct:0≤w.count∧w.count≤10000
 hl:w.holds.length=3
 fl:w.floors.length=3
 fr:∀ f∈w.floors,0≤f∧f≤w.count
 nl:w.net.length≤12
 nt:∀ m∈w.net,NtOk w m
 ls:LsOk w
 hs:∀ l∈w.holds,HsOk w l
 wt:WtOk w (vwG w.over)
 he:HeldOk w (vwG w.over)
 bk:BackOk w
theorem zj9 {w:Wld} (hl:w.holds.length=3) {l:List Hold}:l∈w.holds↔∃ i:Nat,i < 3∧hdW w i=l:=by
 have e:∀ i:Nat,hdW w i=w.holds.getD i []:=fun i=>by unfold hdW; simp
 constructor
 ·intro h
  obtain ⟨i,hi,rfl⟩:=List.mem_iff_getElem.1 h
  exact ⟨i,by omega,by rw [e]; simp [List.getD,hi]⟩
 ·rintro ⟨i,hi,rfl⟩
  have hi':i < w.holds.length:=by omega
  rw [e]
  simp only [List.getD,List.getElem?_eq_getElem hi',Option.getD_some]
  exact List.getElem_mem hi'
theorem zlx {w:Wld}:WG w↔PG w:=by
 constructor
 ·intro h
  refine ⟨h.ov,h.pl.ck,h.pl.ct,h.pl.hl,h.pl.fl,h.pl.fr,h.pl.nl,fun m hm=>?_,h.ls,fun l hl=>?_,h.wt,⟨fun i hi x hx=>((h.hd i hi).g x hx).2.2.2,fun m hm hc=>?_⟩,fun m hm=>(h.ms m hm).back⟩
  ·have:=h.ms m hm; exact ⟨this.kind,this.who,this.path,this.num,this.plain⟩
  ·obtain ⟨i,hi,rfl⟩:=(zj9 h.pl.hl).1 hl
   exact ⟨fun x hx=>by have:=(h.hd i hi).g x hx; exact ⟨this.1,this.2.1,this.2.2.1⟩,(h.hd i hi).d⟩
  ·rcases (h.ms m hm).grant hc.1 with h1 | h1
   ·have:=hc.2.2; omega
   ·exact h1
 ·intro h
  refine ⟨h.ov,⟨h.ck,h.ct,h.hl,h.fl,h.nl,h.fr⟩,h.ls,h.wt,fun i hi=>?_,fun m hm=>?_⟩
  ·have:=h.hs _ ((zj9 h.hl).2 ⟨i,hi,rfl⟩)
   exact ⟨fun x hx=>⟨(this.g x hx).1,(this.g x hx).2.1,(this.g x hx).2.2,h.he.1 i hi x hx⟩,this.d⟩
  ·have:=h.nt m hm
   refine ⟨this.who,this.path,this.num,this.kind,fun hk=>?_,this.plain,h.bk m hm⟩
   by_cases hn:m.hold.num≤flW w m.who
   ·exact .inl hn
   ·by_cases hc:w.clock < m.hold.til
    ·exact .inr (h.he.2 m hm ⟨hk,hc,by omega⟩)
    ·exact .inr fun hh=>absurd hh hc
theorem zig {l:List Hold} (hd:l.Pairwise fun a b=>a.path≠b.path) {p:Str} {n:Int}:(∀ h∈l,h.path=p→n < h.num)↔∀ j (hj:j < l.length),hAt l p=(j:Int)→n < l[j].num:=by
 unfold hAt
 constructor
 ·intro h j hj hi
  rcases j0 (fun h:Hold=>h.path==p) l with ⟨h1,_⟩ | ⟨k,hk,h1,_,h2,_⟩
  ·omega
  ·have:j=k:=by omega
   subst this
   exact h _ (List.getElem_mem hj) (by simpa using h2)
 ·intro h x hx hp
  obtain ⟨k,hk,rfl⟩:=List.mem_iff_getElem.1 hx
  refine h k hk (zia hk (by simpa using hp) fun i hi hik=>?_)
  have:=(List.pairwise_iff_getElem.1 hd) i k hi hk hik
  rw [hp] at this
  simpa using this
theorem qu {l:List Lease} {who:Int} {p:Str}:(lAt l who p = -1∧lfind l who p=none)∨∃ j,∃ h:j < l.length,lAt l who p=(j:Int)∧lfind l who p=some l[j]:=by
 unfold lAt lfind
 rcases j0 (fun x:Lease=>x.who==who&&x.path==p) l with ⟨h1,h2,_⟩ | ⟨j,hj,h1,h2,_⟩
 ·exact .inl ⟨h1,h2⟩
 ·exact .inr ⟨j,hj,h1,h2⟩
theorem zej {α:Type} {q:α→Bool}:∀ {l:List α} {k:Nat} (h:k < l.length),q l[k]=true→(∀ i (h':i < l.length),i≠k→q l[i]=false)→l.eraseIdx k=l.filter fun a=>!q a
 | [],_,h,_,_=>by simp at h
 | a::l,0,_,h1,h2=>by
  rw [List.eraseIdx_cons_zero,List.filter_cons,if_neg (by simpa using h1)]
  refine (List.filter_eq_self.2 fun x hx=>?_).symm
  obtain ⟨i,hi,rfl⟩:=List.mem_iff_getElem.1 hx
  have:=h2 (i+1) (by simpa using hi) (by omega)
  simpa using this
 | a::l,k+1,h,h1,h2=>by
  have h0:q a=false:=h2 0 (by simp) (by omega)
  rw [List.eraseIdx_cons_succ,List.filter_cons,if_pos (by simp [h0])]
  congr 1
  exact zej (by simpa using h) (by simpa using h1) fun i h' hi=>by
   have:=h2 (i+1) (by simpa using h') (by omega)
   simpa using this
theorem zkN {l:List Lease} (hd:l.Pairwise LsD) {who n:Int} {p:Str}:offL l who p n=match lfind l who p with
  | some x=>if x.num≤n then l.eraseIdx (lAt l who p).toNat else l
  | none=>l:=by
 rcases @qu l who p with ⟨h1,h2⟩ | ⟨j,hj,h1,h2⟩
 ·rw [h2]
  simp only
  unfold offL
  refine List.filter_eq_self.2 fun x hx=>?_
  have:=List.find?_eq_none.1 h2 x hx
  simp only [Bool.and_eq_true,beq_iff_eq,not_and] at this
  by_cases hw:x.who=who
  ·simp [hw,this hw]
  ·simp [hw]
 ·rw [h2,h1]
  simp only
  obtain ⟨k1,k2,_⟩:=zjG h2
  have hu:∀ i (h':i < l.length),i≠j→¬ (l[i].who=who∧l[i].path=p):=fun i h' hi hh=>by
   rcases Nat.lt_or_ge i j with h3 | h3
   ·exact (List.pairwise_iff_getElem.1 hd) i j h' hj h3 ⟨by rw [hh.1,k1],by rw [hh.2,k2]⟩
   ·exact (List.pairwise_iff_getElem.1 hd) j i hj h' (by omega) ⟨by rw [hh.1,k1],by rw [hh.2,k2]⟩
  unfold offL
  by_cases hn:l[j].num≤n
  ·rw [if_pos hn]
   refine (zej (q:=fun x:Lease=>x.who==who&&(x.path==p&&decide (x.num≤n))) hj (by simp [k1,k2,hn]) fun i h' hi=>?_).symm
   have:=hu i h' hi
   by_cases hw:l[i].who=who
   ·have hp:l[i].path≠p:=fun hp=>this ⟨hw,hp⟩
    simp [hw,hp]
   ·simp [hw]
  ·rw [if_neg hn]
   refine List.filter_eq_self.2 fun x hx=>?_
   obtain ⟨i,hi,rfl⟩:=List.mem_iff_getElem.1 hx
   by_cases hij:i=j
   ·subst hij; simp [hn]
   ·have:=hu i hi hij
    by_cases hw:l[i].who=who
    ·have hp:l[i].path≠p:=fun hp=>this ⟨hw,hp⟩
     simp [hw,hp]
    ·simp [hw]
theorem qe (l:List Hold) (p:Str):(hAt l p = -1∧∀ e∈l,e.path≠p)∨∃ j,∃ h:j < l.length,hAt l p=(j:Int)∧l[j].path=p∧∀ i (h':i < l.length),i < j→l[i].path≠p:=by
 unfold hAt
 rcases j0 (fun h:Hold=>h.path==p) l with ⟨h1,_,h2⟩ | ⟨j,hj,h1,_,h2,h3⟩
 ·exact .inl ⟨h1,fun e he=>by simpa using h2 e he⟩
 ·exact .inr ⟨j,hj,h1,by simpa using h2,fun i h' hi=>by simpa using h3 i h' hi⟩
theorem ziL {l:List Hold} (hd:l.Pairwise fun a b=>a.path≠b.path) {j:Nat} (hj:j < l.length):∀ i (h':i < l.length),i≠j→l[i].path≠l[j].path:=fun i h' hi=>by
 rcases Nat.lt_or_ge i j with h3 | h3
 ·exact (List.pairwise_iff_getElem.1 hd) i j h' hj h3
 ·exact fun e=>(List.pairwise_iff_getElem.1 hd) j i hj h' (by omega) e.symm
theorem zjC {l:List Hold} (hd:l.Pairwise fun a b=>a.path≠b.path) {p:Str} {n:Int}:(∀ j (hj:j < l.length),hAt l p=(j:Int)→l[j].num≤n→leaveH l p n=l.eraseIdx j)∧((∀ j (hj:j < l.length),hAt l p=(j:Int)→n < l[j].num)→leaveH l p n=l):=by
 constructor
 ·intro j hj hi hn
  rcases qe l p with ⟨h1,_⟩ | ⟨k,hk,h1,h2,_⟩
  ·omega
  ·have:j=k:=by omega
   subst this
   unfold leaveH
   refine (zej (q:=fun x:Hold=>x.path==p&&decide (x.num≤n)) hj (by simp [h2,hn]) fun i h' hi=>?_).symm
   have:=ziL hd hj i h' hi
   rw [h2] at this
   simp [this]
 ·intro h
  unfold leaveH
  refine List.filter_eq_self.2 fun x hx=>?_
  obtain ⟨i,hi,rfl⟩:=List.mem_iff_getElem.1 hx
  by_cases hp:l[i].path=p
  ·have:=(zig hd (p:=p) (n:=n)).2 h _ (List.getElem_mem hi) hp
   simp [hp]; omega
  ·simp [hp]
theorem zof {l:List Hold} (hd:l.Pairwise fun a b=>a.path≠b.path) {h:Hold}:(∀ j (hj:j < l.length),hAt l h.path=(j:Int)→h.num≤l[j].num→takeH l h=l)∧(∀ j (hj:j < l.length),hAt l h.path=(j:Int)→l[j].num < h.num→takeH l h=l.eraseIdx j++[h])∧(hAt l h.path = -1→takeH l h=l++[h]):=by
 have key:∀ j (hj:j < l.length),hAt l h.path=(j:Int)→l[j].path=h.path:=fun j hj hi=>by
  rcases qe l h.path with ⟨h1,_⟩ | ⟨k,hk,h1,h2,_⟩
  ·omega
  ·have:j=k:=by omega
   subst this; exact h2
 refine ⟨fun j hj hi hn=>?_,fun j hj hi hn=>?_,fun hi=>?_⟩
 ·unfold takeH
  rw [if_pos]
  simp only [List.any_eq_true,Bool.and_eq_true,beq_iff_eq,decide_eq_true_eq]
  exact ⟨_,List.getElem_mem hj,key j hj hi,hn⟩
 ·have hp:=key j hj hi
  unfold takeH
  rw [if_neg]
  ·congr 1
   refine (zej (q:=fun x:Hold=>x.path==h.path) hj (by simp [hp]) fun i h' hi'=>?_).symm
   have:=ziL hd hj i h' hi'
   rw [hp] at this
   simpa using this
  ·simp only [List.any_eq_true,Bool.and_eq_true,beq_iff_eq,decide_eq_true_eq,not_exists,not_and]
   intro x hx hxp
   obtain ⟨i,hi2,rfl⟩:=List.mem_iff_getElem.1 hx
   by_cases hij:i=j
   ·subst hij; omega
   ·have:=ziL hd hj i hi2 hij
    rw [hp] at this
    exact absurd hxp this
 ·rcases qe l h.path with ⟨_,h2⟩ | ⟨k,hk,h1,_⟩
  ·unfold takeH
   rw [if_neg]
   ·congr 1
    exact List.filter_eq_self.2 fun x hx=>by simpa using h2 x hx
   ·simp only [List.any_eq_true,Bool.and_eq_true,beq_iff_eq,decide_eq_true_eq,not_exists,not_and]
    intro x hx hxp
    exact absurd hxp (h2 x hx)
  ·omega

theorem mixed:Tryz.prog.follows .mixedOrders=true:=by kernel_rfl

def zal:XC:=(.s (.r [.ex 4 (.asn (.k .nil) 1 9)]) (.s (.r [.ex 8 .bsl0,.a1 5 8 1 9]) (.s (.r [.m1 6 (.i 0)]) (.s (.s (.r [.m1 7 (.i 0)]) (.blk 0 (.loop (.s (.s (.r [.mv 9 7,.mv 10 0,.ex 11 (.len true 10),.b1 12 .leq 9 11]) (.cnd 12 .skip (.exit 0))) (.s (.blk 1 (.s (.r [.mv 15 7,.mv 16 0,.ex 17 (.len true 16),.b1 18 .eql 15 17,.mv 19 18,.gf 20 (.mv 0) 19,.gf 21 (.mv 7) 19,.gf 22 (.idx 20 21) 19,.gf 23 (.mv 1) 19,.gf 24 (.bin .eql 22 23) 19,.ex 25 (.pick 19 .y 24)]) (.cnd 25 (.s (.r [.mv 26 5,.mv 27 0,.mv 28 6,.mv 29 7,.ex 30 (.sls 27 (.some 28) (.some 29)),.ex 31 (.bsl 1 9 [30]),.ex 32 (.app false 1 16 9 26 31),.a1 5 32 1 9]) (.r [.mv 33 7,.b1 34 .add 33 (.i 1),.mv 6 34])) .skip))) (.r [.mv 13 7,.b1 14 .add 13 (.i 1),.mv 7 14])))))) (.s (.r [.mv 35 5,.a1 4 35 1 9]) .ret)))))
theorem zam:compF Tryz.prog [] 198=some (zal.ac,[(.t 4)],36):=by kernel_rfl
theorem zfs (W0:World) (s:Str) (c:UInt8) (hs:s.length≤1000000):Fn Tryz.prog W0 198 [CS s,CU c.toNat] (.c (eStrs (cut c s))) []:=by
 refine fnX (c:=zal) mixed zam (by simp) rfl fun hg=>?_
 refine dr ?_
 refine lp3 (fun (out:List Str) (fr k:Nat)=>[(0,.c (CS s)),(1,.c (CU c.toNat)),(5,.own 80 out.length),(6,I fr),(7,I k)]) (fun out _ _=>[(80,.row (out.map CS) 1 9)])
  (fun out fr k=>fr≤k∧k≤s.length+1∧(k≤s.length→c ∉ (s.take k).drop fr∧out++cut c (s.drop fr)=cut c s)∧(k=s.length+1→out=cut c s)∧out.length≤k) (fun _ _ k=>s.length+1 - k) [] 0 0 ⟨by simp,by simp,by simp,by simp,by simp⟩ ?_ ?_
 ·refine dr ?_
  trivial
 rintro out fr k ⟨h1,h2,h3,h4,h5⟩
 refine dr ?_
 refine cP ?_ ?_<;>intro h6
 ·obtain ⟨h7,h8⟩:=h3 (by omega)
  refine dr ?_
  refine cP ?_ ?_<;>intro h9
  ·have hk:k=s.length:=by omega
   refine dr ?_
   repeat (refine sBo fr k rfl rfl (by omega) (by omega) ?_; first | refine dr ?_ | exact dz)
   refine ⟨out++[(s.take k).drop fr],k+1,k+1,⟨by omega,by omega,by omega,fun _=>?_,by simp; omega⟩,by omega,?_⟩
   ·rw [← h8,zdC (s:=s.drop fr)]
    ·rw [hk,List.take_length]
    ·rw [hk,List.take_length] at h7; exact h7
   ·refine dr ?_
    repeat (refine oB (by simp) ?_; first | refine dr ?_ | exact dz)
    trivial
  ·have hk:k < s.length:=by omega
   refine dr ?_
   refine cP ?_ ?_<;>intro h10
   ·have e:s[k]=c:=by
     have:s[k].toNat=c.toNat:=by omega
     exact UInt8.toNat_inj.1 this
    refine dr ?_
    repeat (refine sBo fr k rfl rfl (by omega) (by omega) ?_; first | refine dr ?_ | exact dz)
    refine ⟨out++[(s.take k).drop fr],k+1,k+1,⟨by omega,by omega,fun h=>⟨?_,?_⟩,fun h=>by omega,by simp; omega⟩,by omega,?_⟩
    ·rw [List.drop_of_length_le (by simp; omega)]; simp
    ·have e2:s.drop fr=(s.take k).drop fr++c::s.drop (k+1):=by
      rw [← e,← List.drop_eq_getElem_cons hk]
      have:s.drop fr=(s.take k++s.drop k).drop fr:=by rw [List.take_append_drop]
      rw [this,List.drop_append_of_le_length (by simp; omega)]
     rw [e2,zdy _ h7] at h8
     rw [← h8]; simp
    ·refine dr ?_
     repeat (refine oB (by simp) ?_; first | refine dr ?_ | exact dz)
     trivial
   ·have e:s[k]≠c:=by
     intro e; rw [e] at h10; exact h10 rfl
    refine dr ?_
    refine ⟨out,fr,k+1,⟨by omega,by omega,fun h=>⟨?_,h8⟩,fun h=>?_,by omega⟩,by omega,?_⟩
    ·rw [List.take_succ_eq_append_getElem hk,List.drop_append_of_le_length (by simp; omega)]
     simp only [List.mem_append,not_or,List.mem_singleton]
     exact ⟨h7,fun h=>e h.symm⟩
    ·omega
    ·refine dr ?_
     trivial
 ·have hk:k=s.length+1:=by omega
  refine dr ?_
  repeat (refine oB (by simp) ?_; first | refine dr ?_ | exact dz)
  rw [h4 hk]; rfl
def zat:XC:=(.s (.r [.ex 2 (.asn (.k .nil) 1 9)]) (.s (.s (.r [.mv 3 0,.ex 4 (.len true 3),.b1 5 .lss 4 (.i 2),.mv 6 5,.gf 7 (.mv 0) 6,.gf 8 (.idx 7 (.i 0)) 6,.gf 9 (.bin .neq 8 (.u 47)) 6,.ex 10 (.pick 6 .y 9)]) (.cnd 10 (.s (.r [.ex 11 .bsl0,.a1 2 11 1 9]) .ret) .skip)) (.s (.r [.mv 12 0,.ex 13 (.sls 12 (.some (.i 1)) .none),.c1 14 198 [13,(.u 47)],.a1 2 14 1 9]) .ret)))
theorem zau:compF Tryz.prog [] 163=some (zat.ac,[(.t 2)],15):=by kernel_rfl
theorem zfx (W0:World) (s:Str) (hs:s.length≤1000000):Fn Tryz.prog W0 163 [CS s] (.c (eStrs (names s))) []:=by
 refine fnX (c:=zat) mixed zau (by simp) rfl fun hg=>?_
 refine dr ?_
 refine cP ?_ ?_<;>intro h1
 ·refine dr ?_
  repeat (refine oB (by simp) ?_; first | refine dr ?_ | exact dz)
  rw [names,if_pos (.inl (by omega))]; rfl
 ·have hl:2≤s.length:=by omega
  refine dr ?_
  refine cP ?_ ?_<;>intro h2
  ·refine dr ?_
   repeat (refine oB (by simp) ?_; first | refine dr ?_ | exact dz)
   have hc:s.head? ≠ some 47:=by
    cases s with
    | nil=>simp at hl
    | cons b t =>
     show some b≠some 47
     intro e; cases e; exact h2 rfl
   have e:names s=[]:=by rw [names,if_pos (.inr hc)]
   exact congrArg eStrs e.symm
  ·have e:s.head? = some 47:=by
    cases s with
    | nil=>simp at hl
    | cons b t =>
     have:b.toNat=47:=by simp at h2; omega
     simp; exact UInt8.toNat_inj.1 (by simpa using this)
   refine dr ?_
   repeat ((first | refine sLo 1 rfl (by omega) ?_ | refine c0 (zfs W0 _ 47 (by simp; omega)) rfl ?_); first | refine dr ?_ | exact dz)
   intro hg1
   refine dr ?_
   repeat (refine oB (by simp) ?_; first | refine dr ?_ | exact dz)
   rw [names,if_neg (by simp [e]; omega),← List.drop_one]
def zar:XC:=(.s (.r [.m1 2 .n]) (.s (.s (.r [.m1 3 (.i 0)]) (.blk 0 (.loop (.s (.s (.r [.mv 4 3,.mv 5 0,.ex 6 (.len true 5),.b1 7 .lss 4 6]) (.cnd 7 .skip (.exit 0))) (.s (.blk 1 (.s (.r [.mv 10 0,.mv 11 3,.ex 12 (.idx 10 11),.b1 13 .lss 12 (.u 97),.mv 14 13,.gf 15 (.mv 0) 14,.gf 16 (.mv 3) 14,.gf 17 (.idx 15 16) 14,.gf 18 (.bin .gtr 17 (.u 122)) 14,.ex 19 (.pick 14 .y 18)]) (.cnd 19 (.s (.r [.m1 2 .n]) .ret) .skip))) (.r [.mv 8 3,.b1 9 .add 8 (.i 1),.mv 3 9])))))) (.s (.r [.mv 20 0,.ex 21 (.len true 20),.b1 22 .geq 21 (.i 1),.mv 23 22,.gt 24 (.mv 0) 23,.gt 25 (.len true 24) 23,.gt 26 (.bin .leq 25 (.i 3)) 23,.ex 27 (.pick 23 26 .n),.mv 2 27]) .ret)))
theorem zas:compF Tryz.prog [] 164=some (zar.ac,[(.t 2)],28):=by kernel_rfl
theorem zfw (W0:World) (s:Str):Fn Tryz.prog W0 164 [CS s] (.c (CB (nameOk s))) []:=by
 refine fnX (c:=zar) mixed zas (by simp) rfl fun hg=>?_
 have g1:=goodS (hg _ (by simp:CS s∈_))
 refine dr ?_
 refine lp (σ:=Nat) (fun k=>[(0,.c (CS s)),(3,I k)]) (fun _=>[]) (fun k=>k≤s.length∧(s.take k).all lower=true) (fun k=>s.length - k) 0 ⟨by simp,by simp⟩ ?_ ?_
 ·refine dr ?_
  trivial
 rintro k ⟨hk,ha⟩
 refine dr ?_
 refine cP ?_ ?_<;>intro h1
 ·have hk':k < s.length:=by omega
  have no:lower s[k]=false→CB false=CB (nameOk s):=fun h=>bF (by rw [nameOk,zf hk' h]; rfl)
  refine dr ?_
  refine cP ?_ ?_<;>intro h2
  ·refine dr ?_
   exact no (by simp [lower]; omega)
  ·refine dr ?_
   refine cP ?_ ?_<;>intro h3
   ·refine dr ?_
    exact no (by simp [lower]; omega)
   ·refine dr ?_
    refine ⟨k+1,⟨by omega,y4 hk' ha (by simp [lower]; omega)⟩,by omega,?_⟩
    refine dr ?_
    trivial
 ·have:k=s.length:=by omega
  subst this
  rw [List.take_length] at ha
  refine dr ?_
  refine cP ?_ ?_<;>intro h2
  ·refine dr ?_
   refine congrArg CB ?_
   rw [nameOk,ha,qs,Bool.eq_iff_iff]; simp; omega
  ·refine dr ?_
   exact bF (by rw [nameOk,ha]; simp; omega)
def Y9:XC:=(.s (.r [.m1 2 .n]) (.s (.s (.r [.mv 5 0,.ex 6 (.len true 5),.b1 7 .gtr 6 (.i 12)]) (.cnd 7 (.s (.r [.m1 2 .n]) .ret) .skip)) (.s (.r [.mv 8 0,.c1 9 163 [8],.a1 3 9 1 9]) (.s (.s (.r [.m1 4 (.i 0)]) (.blk 0 (.loop (.s (.s (.r [.mv 10 4,.mv 11 3,.n1 12 11,.b1 13 .lss 10 12]) (.cnd 13 .skip (.exit 0))) (.s (.blk 1 (.s (.r [.mv 16 3,.mv 17 4,.i1 18 1 16 17,.l1 19 1 18,.c1 20 164 [19],.ex 21 (.un .not 20)]) (.cnd 21 (.s (.r [.m1 2 .n]) .ret) .skip))) (.r [.mv 14 4,.b1 15 .add 14 (.i 1),.mv 4 15])))))) (.s (.r [.mv 22 3,.n1 23 22,.b1 24 .geq 23 (.i 1),.mv 25 24,.gt 26 (.mv 3) 25,.gt 27 (.len false 26) 25,.gt 28 (.bin .leq 27 (.i 3)) 25,.ex 29 (.pick 25 28 .n),.mv 2 29]) .ret)))))
theorem zaa:compF Tryz.prog [] 106=some (Y9.ac,[(.t 2)],30):=by kernel_rfl
theorem jC (W0:World) (s:Str):Fn Tryz.prog W0 106 [CS s] (.c (CB (pOk s))) []:=by
 refine fnX (c:=Y9) mixed zaa (by simp) rfl fun hg=>?_
 refine dr ?_
 refine cP ?_ ?_<;>intro h1
 ·refine dr ?_
  exact bF (by simp [pOk]; omega)
 refine dr ?_
 repeat (refine c0 (zfx W0 s (by omega)) rfl ?_; first | refine dr ?_ | exact dz)
 intro hg1
 have g1:=goodRow hg1
 refine dr ?_
 refine lp (σ:=Nat) (fun k=>[(3,.c (eStrs (names s))),(4,I k)]) (fun _=>[]) (fun k=>k≤(names s).length∧((names s).take k).all nameOk=true) (fun k=>(names s).length - k) 0 ⟨by simp,by simp⟩ ?_ ?_
 ·refine dr ?_
  trivial
 rintro k ⟨hk,ha⟩
 refine dr ?_
 refine cP ?_ ?_<;>intro h2
 ·refine dr ?_
  repeat (refine c0 (zfw W0 _) rfl ?_; first | refine dr ?_ | exact dz)
  refine cP ?_ ?_<;>intro h3
  ·refine dr ?_
   exact bF (by rw [pOk,zf (by omega) h3]; simp)
  ·refine dr ?_
   refine ⟨k+1,⟨by omega,y4 (by omega) ha h3⟩,by omega,?_⟩
   refine dr ?_
   trivial
 ·have:k=(names s).length:=by omega
  subst this
  rw [List.take_length] at ha
  refine dr ?_
  refine cP ?_ ?_<;>intro h3
  ·refine dr ?_
   refine congrArg CB ?_
   rw [pOk,ha,qs,Bool.eq_iff_iff]; simp; omega
  ·refine dr ?_
   exact bF (by rw [pOk,ha]; simp; omega)
def zax:XC:=(.s (.r [.m1 2 (.i 0)]) (.s (.r [.mv 4 0,.ex 5 (.len true 4),.b1 6 .sub 5 (.i 1),.mv 3 6]) (.s (.blk 0 (.loop (.s (.s (.r [.mv 7 3,.b1 8 .gtr 7 (.i 0),.mv 9 8,.gt 10 (.mv 0) 9,.gt 11 (.mv 3) 9,.gt 12 (.idx 10 11) 9,.gt 13 (.bin .neq 12 (.u 47)) 9,.ex 14 (.pick 9 13 .n)]) (.cnd 14 .skip (.exit 0))) (.blk 1 (.r [.mv 15 3,.b1 16 .sub 15 (.i 1),.mv 3 16]))))) (.s (.r [.mv 17 3,.mv 2 17]) .ret))))
theorem zay:compF Tryz.prog [] 180=some (zax.ac,[(.t 2)],18):=by kernel_rfl
theorem zfz (W0:World) (a l:Str) (hl:(47:UInt8) ∉ l) (h12:(a++47::l).length≤12):Fn Tryz.prog W0 180 [CS (a++47::l)] (.c (CI a.length)) []:=by
 have hlen:(a++47::l).length=a.length+l.length+1:=by simp; omega
 have h47:∀ (h:a.length < (a++47::l).length),(a++47::l)[a.length]=47:=fun h=>by simp
 have hno:∀ k (h:k < (a++47::l).length),a.length < k→(a++47::l)[k]≠47:=fun k h hk e=>by
  have hm:(a++47::l)[k]? = some 47:=by rw [List.getElem?_eq_getElem h,e]
  rw [List.getElem?_append_right (by omega),show k - a.length=(k - a.length - 1)+1 by omega,List.getElem?_cons_succ] at hm
  exact hl (List.mem_of_getElem? hm)
 generalize a++47::l=s at *
 refine fnX (c:=zax) mixed zay (by simp) rfl fun hg=>?_
 refine dr ?_
 refine lp (σ:=Nat) (fun k=>[(0,.c (CS s)),(3,I k)]) (fun _=>[]) (fun k=>a.length≤k∧k < s.length) (fun k=>k) (s.length - 1) ⟨by omega,by omega⟩ ?_ ?_
 ·refine dr ?_
  trivial
 rintro k ⟨h1,h2⟩
 refine dr ?_
 refine cP ?_ ?_<;>intro h3
 ·refine dr ?_
  refine cP ?_ ?_<;>intro h4
  ·have hk:a.length < k:=by
    rcases Nat.lt_or_ge a.length k with h | h
    ·exact h
    ·have e:k=a.length:=by omega
     subst e
     rw [h47 h2] at h4
     simp at h4
   refine dr ?_
   refine ⟨k - 1,⟨by omega,by omega⟩,by omega,?_⟩
   refine dr ?_
   trivial
  ·have hk:k=a.length:=by
    have h4':s[k]=47:=by
     have:s[k].toNat=47:=by omega
     exact UInt8.toNat_inj.1 (by simpa using this)
    rcases Nat.lt_or_ge a.length k with h | h
    ·exact absurd h4' (hno k h2 h)
    ·omega
   refine dr ?_
   rw [hk]
 ·refine dr ?_
  have:k=a.length:=by omega
  rw [this]
def zab:XC:=(.s (.r [.ex 2 (.mv (.s []))]) (.s (.s (.r [.mv 4 0,.c1 5 106 [4],.ex 6 (.un .not 5)]) (.cnd 6 (.s (.r [.ex 2 (.mv (.s []))]) .ret) .skip)) (.s (.r [.mv 7 0,.c1 8 180 [7],.mv 3 8]) (.s (.s (.r [.mv 9 3,.b1 10 .eql 9 (.i 0)]) (.cnd 10 (.s (.r [.ex 2 (.mv (.s [47]))]) .ret) .skip)) (.s (.r [.mv 11 0,.mv 12 3,.ex 13 (.sls 11 .none (.some 12)),.mv 2 13]) .ret)))))
theorem zac:compF Tryz.prog [] 123=some (zab.ac,[(.t 2)],14):=by kernel_rfl
theorem jD (W0:World) (s:Str):Fn Tryz.prog W0 123 [CS s] (.c (CS (pUp s))) []:=by
 refine fnX (c:=zab) mixed zac (by simp) rfl fun hg=>?_
 refine dr ?_
 repeat (refine c0 (jC W0 s) rfl ?_; first | refine dr ?_ | exact dz)
 refine cP ?_ ?_<;>intro h1
 ·refine dr ?_
  rw [show pUp s=[] by rw [pUp,h1]; rfl]
 obtain ⟨a,l,e,hl,_,_,_,_,_,hu⟩:=yt h1
 have h12:=(yq h1).2.1
 rw [hu]
 clear hu
 subst e
 refine dr ?_
 repeat (refine c0 (zfz W0 a l hl h12) rfl ?_; first | refine dr ?_ | exact dz)
 intro hg1
 refine dr ?_
 refine cP ?_ ?_<;>intro h2
 ·refine dr ?_
  have:a=[]:=List.length_eq_zero_iff.1 (by omega)
  rw [if_pos this]
 ·refine dr ?_
  repeat (refine sHi a.length rfl (by simp) ?_; first | refine dr ?_ | exact dz)
  rw [if_neg (fun e=>h2 (by simp [e])),List.take_left]
def Y7:XC:=(.s (.r [.ex 2 (.mv (.s []))]) (.s (.s (.r [.mv 3 0,.c1 4 106 [3],.ex 5 (.un .not 4)]) (.cnd 5 (.s (.r [.ex 2 (.mv (.s []))]) .ret) .skip)) (.s (.r [.mv 6 0,.mv 7 0,.c1 8 180 [7],.b1 9 .add 8 (.i 1),.ex 10 (.sls 6 (.some 9) .none),.mv 2 10]) .ret)))
theorem Y8:compF Tryz.prog [] 257=some (Y7.ac,[(.t 2)],11):=by kernel_rfl
theorem zgU (W0:World) (s:Str):Fn Tryz.prog W0 257 [CS s] (.c (CS (pName s))) []:=by
 refine fnX (c:=Y7) mixed Y8 (by simp) rfl fun hg=>?_
 refine dr ?_
 repeat (refine c0 (jC W0 s) rfl ?_; first | refine dr ?_ | exact dz)
 refine cP ?_ ?_<;>intro h1
 ·refine dr ?_
  rw [show pName s=[] by rw [pName,h1]; rfl]
 obtain ⟨a,l,e,hl,_,_,_,_,hn,_⟩:=yt h1
 have h12:=(yq h1).2.1
 rw [hn]
 clear hn
 subst e
 have hlen:(a++47::l).length=a.length+l.length+1:=by rw [List.length_append,List.length_cons]; omega
 refine dr ?_
 repeat ((first | refine c0 (zfz W0 a l hl h12) rfl ?_ | refine sLo (a.length+1) rfl (by omega) ?_); first | refine dr ?_ | exact dz)
 intro hg1
 refine dr ?_
 have e2:a++47::l=(a++[47])++l:=by simp
 rw [e2,List.drop_left' (by simp)]
def zaz:XC:=(.s (.r [.m1 4 .n]) (.s (.s (.r [.mv 5 1,.ex 6 (.bin .eql 5 (.s [47]))]) (.cnd 6 (.s (.r [.m1 4 .y]) .ret) .skip)) (.s (.r [.mv 7 0,.ex 8 (.len true 7),.mv 9 1,.ex 10 (.len true 9),.b1 11 .gtr 8 10,.mv 12 11,.gt 13 (.mv 0) 12,.gt 14 (.mv 1) 12,.gt 15 (.len true 14) 12,.gt 16 (.sls 13 .none (.some 15)) 12,.gt 17 (.mv 1) 12,.gt 18 (.bin .eql 16 17) 12,.ex 19 (.pick 12 18 .n),.mv 20 19,.gt 21 (.mv 0) 20,.gt 22 (.mv 1) 20,.gt 23 (.len true 22) 20,.gt 24 (.idx 21 23) 20,.gt 25 (.bin .eql 24 (.u 47)) 20,.ex 26 (.pick 20 25 .n),.mv 4 26]) .ret)))
theorem zaA:compF Tryz.prog [] 235=some (zaz.ac,[(.t 4)],27):=by kernel_rfl
theorem zfA (W0:World) (s d:Str):Fn Tryz.prog W0 235 [CS s,CS d] (.c (CB (und s d))) []:=by
 refine fnX (c:=zaz) mixed zaA (by simp) rfl fun hg=>?_
 refine dr ?_
 refine cP ?_ ?_<;>intro h1
 ·refine dr ?_
  exact bT (by simp [und,h1])
 have hnd:und s d=(d++[47]).isPrefixOf s:=by simp [und,h1]
 rw [hnd]
 refine dr ?_
 refine cP ?_ ?_<;>intro h2
 rotate_left
 ·refine dr ?_
  refine bF ?_
  rw [Bool.eq_false_iff]
  intro h
  have:=(List.isPrefixOf_iff_prefix.1 h).length_le
  simp at this; omega
 refine dr ?_
 repeat (refine sHi d.length rfl (by omega) ?_; first | refine dr ?_ | exact dz)
 refine cP ?_ ?_<;>intro h3
 rotate_left
 ·refine dr ?_
  refine bF ?_
  rw [Bool.eq_false_iff]
  intro h
  obtain ⟨r,hr⟩:=List.isPrefixOf_iff_prefix.1 h
  apply h3
  rw [← hr,List.append_assoc,List.take_left]
 refine dr ?_
 have hs:s=d++s[d.length]::s.drop (d.length+1):=by
  rw [← List.drop_eq_getElem_cons (by omega)]
  conv=>lhs; rw [← List.take_append_drop d.length s,h3]
 refine congrArg CB ?_
 rw [zP,Bool.eq_iff_iff,List.isPrefixOf_iff_prefix]
 simp only [beq_iff_eq]
 constructor
 ·intro h
  have e:s[d.length]=47:=by
   have:s[d.length].toNat=47:=by omega
   exact UInt8.toNat_inj.1 (by simpa using this)
  rw [e] at hs
  exact ⟨s.drop (d.length+1),by rw [hs]; simp⟩
 ·rintro ⟨r,hr⟩
  have:s[d.length]? = some 47:=by rw [← hr]; simp
  have e:s[d.length]=47:=by
   rw [List.getElem?_eq_getElem (by omega)] at this; exact Option.some.inj this
  rw [e]; rfl
def Y5:XC:=(.s (.r [.ex 6 (.mv (.s [])),.m1 7 .n]) (.s (.s (.r [.mv 9 0,.c1 10 106 [9],.ex 11 (.un .not 10),.mv 12 11,.gf 13 (.mv 1) 12,.gf 14 (.call 106 [13]) 12,.gf 15 (.un .not 14) 12,.ex 16 (.pick 12 .y 15),.mv 17 16,.gf 18 (.mv 2) 17,.gf 19 (.call 106 [18]) 17,.gf 20 (.un .not 19) 17,.ex 21 (.pick 17 .y 20)]) (.cnd 21 (.s (.r [.ex 6 (.mv (.s [])),.m1 7 .n]) .ret) .skip)) (.s (.s (.r [.mv 22 0,.mv 23 1,.b1 24 .neq 22 23,.mv 25 24,.gt 26 (.mv 0) 25,.gt 27 (.mv 1) 25,.gt 28 (.call 235 [26,27]) 25,.gt 29 (.un .not 28) 25,.ex 30 (.pick 25 29 .n)]) (.cnd 30 (.s (.r [.mv 31 0,.mv 6 31,.m1 7 .y]) .ret) .skip)) (.s (.r [.mv 32 2,.mv 33 0,.mv 34 1,.ex 35 (.len true 34),.ex 36 (.sls 33 (.some 35) .none),.b1 37 .add 32 36,.mv 8 37]) (.s (.s (.r [.mv 38 8,.c1 39 106 [38],.ex 40 (.un .not 39)]) (.cnd 40 (.s (.r [.ex 6 (.mv (.s [])),.m1 7 .n]) .ret) .skip)) (.s (.r [.mv 41 8,.mv 6 41,.m1 7 .y]) .ret))))))
theorem Y6:compF Tryz.prog [] 236=some (Y5.ac,[(.t 6),(.t 7)],42):=by kernel_rfl
theorem zgT (W0:World) (s f t:Str):Fn Tryz.prog W0 236 [CS s,CS f,CS t] (.c (eOpt (pMove s f t))) []:=by
 refine fnX (c:=Y5) mixed Y6 (by simp) rfl fun hg=>?_
 refine dr ?_
 repeat (refine c0 (jC W0 s) rfl ?_; first | refine dr ?_ | exact dz)
 refine cP ?_ ?_<;>intro h1
 ·refine dr ?_
  simp [pMove,h1,eOpt]
 refine dr ?_
 repeat (refine c0 (jC W0 f) rfl ?_; first | refine dr ?_ | exact dz)
 refine cP ?_ ?_<;>intro h2
 ·refine dr ?_
  simp [pMove,h2,eOpt]
 refine dr ?_
 repeat (refine c0 (jC W0 t) rfl ?_; first | refine dr ?_ | exact dz)
 refine cP ?_ ?_<;>intro h3
 ·refine dr ?_
  simp [pMove,h3,eOpt]
 have l1:=(yq h1).2.1
 have l3:=(yq h3).2.1
 have hm:pMove s f t=if (s != f&&!und s f)=true then some s else if pOk (t++s.drop f.length)=true then some (t++s.drop f.length) else none:=by rw [pMove,if_pos (by simp [h1,h2,h3])]
 have fin:f.length≤s.length→((s != f&&!und s f)=false)→True:=fun _ _=>trivial
 refine dr ?_
 refine cP ?_ ?_<;>intro h4
 ·refine dr ?_
  repeat (refine c0 (zfA W0 s f) rfl ?_; first | refine dr ?_ | exact dz)
  refine cP ?_ ?_<;>intro h5
  ·refine dr ?_
   rw [hm,if_pos (by simp [h4,h5])]; rfl
  ·have hle:f.length≤s.length:=by
    simp only [und,Bool.or_eq_true,beq_iff_eq] at h5
    rcases h5 with h5 | h5
    ·have:=yq h2; rw [h5] at this; simp at this
    ·have:=(List.isPrefixOf_iff_prefix.1 h5).length_le
     simp at this; omega
   rw [hm,if_neg (by simp [h5])]
   refine dr ?_
   repeat ((first | refine sLo f.length rfl hle ?_ | refine oB (by simp; omega) ?_ | refine c0 (jC W0 _) rfl ?_); first | refine dr ?_ | exact dz)
   refine cP ?_ ?_<;>intro h6
   ·refine dr ?_
    rw [if_neg (by rw [h6]; simp)]; rfl
   ·refine dr ?_
    rw [if_pos h6]; rfl
 ·subst h4
  rw [hm,if_neg (by simp)]
  refine dr ?_
  repeat ((first | refine sLo s.length rfl (Nat.le_refl _) ?_ | refine oB (by simp; omega) ?_ | refine c0 (jC W0 _) rfl ?_); first | refine dr ?_ | exact dz)
  refine cP ?_ ?_<;>intro h6
  ·refine dr ?_
   rw [if_neg (by rw [h6]; simp)]; rfl
  ·refine dr ?_
   rw [if_pos h6]; rfl

def zaF:XC:=(.s (.r [.m1 2 .n]) (.s (.s (.r [.m1 3 (.i 0)]) (.blk 0 (.loop (.s (.s (.r [.mv 4 3,.mv 5 0,.ex 6 (.len true 5),.b1 7 .lss 4 6]) (.cnd 7 .skip (.exit 0))) (.s (.blk 1 (.s (.r [.mv 10 0,.mv 11 3,.ex 12 (.idx 10 11),.b1 13 .lss 12 (.u 97),.mv 14 13,.gf 15 (.mv 0) 14,.gf 16 (.mv 3) 14,.gf 17 (.idx 15 16) 14,.gf 18 (.bin .gtr 17 (.u 122)) 14,.ex 19 (.pick 14 .y 18),.mv 20 19,.gt 21 (.mv 0) 20,.gt 22 (.mv 3) 20,.gt 23 (.idx 21 22) 20,.gt 24 (.bin .lss 23 (.u 48)) 20,.gt 25 (.mv 24) 20,.gf 26 (.mv 0) 25,.gf 27 (.mv 3) 25,.gf 28 (.idx 26 27) 25,.gf 29 (.bin .gtr 28 (.u 57)) 25,.gt 30 (.pick 25 .y 29) 20,.ex 31 (.pick 20 30 .n)]) (.cnd 31 (.s (.r [.m1 2 .n]) .ret) .skip))) (.r [.mv 8 3,.b1 9 .add 8 (.i 1),.mv 3 9])))))) (.s (.r [.mv 32 0,.ex 33 (.len true 32),.b1 34 .leq 33 (.i 6),.mv 2 34]) .ret)))
theorem zaG:compF Tryz.prog [] 177=some (zaF.ac,[(.t 2)],35):=by kernel_rfl
theorem zfD (W0:World) (s:Str):Fn Tryz.prog W0 177 [CS s] (.c (CB (dataOk s))) []:=by
 refine fnX (c:=zaF) mixed zaG (by simp) rfl fun hg=>?_
 have g1:=goodS (hg _ (by simp:CS s∈_))
 refine dr ?_
 refine lp (σ:=Nat) (fun k=>[(0,.c (CS s)),(3,I k)]) (fun _=>[]) (fun k=>k≤s.length∧(s.take k).all alnum=true) (fun k=>s.length - k) 0 ⟨by simp,by simp⟩ ?_ ?_
 ·refine dr ?_
  trivial
 rintro k ⟨hk,ha⟩
 refine dr ?_
 refine cP ?_ ?_<;>intro h1
 ·have hk':k < s.length:=by omega
  have no:alnum s[k]=false→CB false=CB (dataOk s):=fun h=>bF (by rw [dataOk,zf hk' h]; rfl)
  have yes:alnum s[k]=true→∃ x',(x'≤s.length∧(s.take x').all alnum=true)∧x'=k+1:=fun h=>⟨k+1,⟨by omega,y4 hk' ha h⟩,rfl⟩
  refine dr ?_
  refine cP ?_ ?_<;>intro h2
  ·refine dr ?_
   refine cP ?_ ?_<;>intro h3
   ·refine dr ?_
    exact no (by simp [alnum,lower]; omega)
   ·refine dr ?_
    refine cP ?_ ?_<;>intro h4
    ·refine dr ?_
     exact no (by simp [alnum,lower]; omega)
    ·refine dr ?_
     refine ⟨k+1,⟨by omega,y4 hk' ha (by simp [alnum,lower]; omega)⟩,by omega,?_⟩
     refine dr ?_
     trivial
  ·refine dr ?_
   refine cP ?_ ?_<;>intro h3
   ·refine dr ?_
    refine cP ?_ ?_<;>intro h4
    ·refine dr ?_
     exact no (by simp [alnum,lower]; omega)
    ·refine dr ?_
     refine cP ?_ ?_<;>intro h5
     ·refine dr ?_
      exact no (by simp [alnum,lower]; omega)
     ·refine dr ?_
      refine ⟨k+1,⟨by omega,y4 hk' ha (by simp [alnum,lower]; omega)⟩,by omega,?_⟩
      refine dr ?_
      trivial
   ·refine dr ?_
    refine ⟨k+1,⟨by omega,y4 hk' ha (by simp [alnum,lower]; omega)⟩,by omega,?_⟩
    refine dr ?_
    trivial
 ·have:k=s.length:=by omega
  subst this
  rw [List.take_length] at ha
  refine dr ?_
  refine congrArg CB ?_
  rw [dataOk,ha,qs,Bool.eq_iff_iff]; simp; omega
def zaL:XC:=(.s (.r [.m1 4 (.i 0)]) (.s (.s (.r [.m1 5 (.i 0)]) (.blk 0 (.loop (.s (.s (.r [.mv 6 5,.mv 7 0,.n1 8 7,.b1 9 .lss 6 8]) (.cnd 9 .skip (.exit 0))) (.s (.blk 1 (.s (.r [.mv 12 0,.mv 13 5,.i1 14 3 12 13,.f1 15 0 14,.l1 16 1 15,.mv 17 1,.b1 18 .eql 16 17]) (.cnd 18 (.s (.r [.mv 19 5,.mv 4 19]) .ret) .skip))) (.r [.mv 10 5,.b1 11 .add 10 (.i 1),.mv 5 11])))))) (.s (.r [.ex 4 (.mv (.k (.c (.sc (.int .i64 (.negSucc 0))))))]) .ret)))
theorem zaM:compF Tryz.prog [] 179=some (zaL.ac,[(.t 4)],20):=by kernel_rfl
theorem zfF (W0:World) (t:List Ent) (p:Str):Fn Tryz.prog W0 179 [eEnts t,CS p] (.c (CI (idx t p))) []:=by
 refine fnX (c:=zaL) mixed zaM (by simp) rfl fun hg=>?_
 have g1:=goodRow (hg _ (by simp:eEnts t∈_))
 refine dr ?_
 refine lp (σ:=Nat) (fun k=>[(0,.c (eEnts t)),(1,.c (CS p)),(5,I k)]) (fun _=>[]) (fun k=>k≤t.length∧∀ i (h':i < t.length),i < k→t[i].path≠p) (fun k=>t.length - k) 0 ⟨by simp,by simp⟩ ?_ ?_
 ·refine dr ?_
  trivial
 rintro k ⟨hk,ha⟩
 refine dr ?_
 refine cP ?_ ?_<;>intro h1
 ·refine dr ?_
  refine cP ?_ ?_<;>intro h2
  ·refine dr ?_
   rw [ziO (by omega) h2 ha]
  ·refine dr ?_
   refine ⟨k+1,⟨by omega,fun i h' hi=>?_⟩,by omega,?_⟩
   ·by_cases e:i=k
    ·subst e; exact h2
    ·exact ha i h' (by omega)
   ·refine dr ?_
    trivial
 ·refine dr ?_
  rw [ziP fun i h'=>ha i h' (by omega)]; rfl
def zaH:XC:=(.s (.r [.m1 4 .n]) (.s (.s (.r [.mv 6 1,.ex 7 (.bin .eql 6 (.s [47]))]) (.cnd 7 (.s (.r [.m1 4 .y]) .ret) .skip)) (.s (.r [.mv 8 0,.mv 9 1,.c1 10 179 [8,9],.mv 5 10]) (.s (.r [.mv 11 5,.b1 12 .geq 11 (.i 0),.mv 13 12,.gt 14 (.mv 0) 13,.gt 15 (.mv 5) 13,.gt 16 (.ia 3 14 15) 13,.gt 17 (.fa 1 16) 13,.gt 18 (.ld false 1 17) 13,.ex 19 (.pick 13 18 .n),.mv 4 19]) .ret))))
theorem zaI:compF Tryz.prog [] 122=some (zaH.ac,[(.t 4)],20):=by kernel_rfl
theorem jo (W0:World) (t:List Ent) (p:Str):Fn Tryz.prog W0 122 [eEnts t,CS p] (.c (CB (isDir t p))) []:=by
 refine fnX (c:=zaH) mixed zaI (by simp) rfl fun hg=>?_
 refine dr ?_
 refine cP ?_ ?_<;>intro h1
 ·refine dr ?_
  exact bT (by simp [isDir,get,h1,rootE])
 refine dr ?_
 repeat (refine c0 (zfF W0 t p) rfl ?_; first | refine dr ?_ | exact dz)
 intro hg1
 have hd:isDir t p=match find t p with | some e=>e.dir | none=>false:=by unfold isDir get; rw [if_neg h1]; try (cases find t p<;>rfl)
 rw [hd]
 rcases ziN t p with ⟨e1,e2,_⟩ | ⟨j,hj,e1,e2,_⟩
 ·rw [e1,e2]
  refine dr ?_
  refine cP ?_ ?_<;>intro h2
  ·omega
  ·exact dz
 ·rw [e1,e2]
  refine dr ?_
  refine cP ?_ ?_<;>intro h2
  ·exact dz
  ·omega
def zaN:XC:=(.s (.r [.ex 4 (.alloc [sE,(B false),sE]),.m1 5 .n]) (.s (.s (.r [.mv 7 1,.ex 8 (.bin .eql 7 (.s [47]))]) (.cnd 8 (.s (.r [.ex 9 (.build [sE,(B false),sE] [(0,(1,(.s [47]))),(1,(1,.y))]),.s1 3 4 9,.m1 5 .y]) .ret) .skip)) (.s (.r [.mv 10 0,.mv 11 1,.c1 12 179 [10,11],.mv 6 12]) (.s (.s (.r [.mv 13 6,.b1 14 .lss 13 (.i 0)]) (.cnd 14 (.s (.r [.ex 15 (.build [sE,(B false),sE] []),.s1 3 4 15,.m1 5 .n]) .ret) .skip)) (.s (.r [.mv 16 0,.mv 17 6,.i1 18 3 16 17,.l2 19 3 18,.s1 3 4 19,.m1 5 .y]) .ret)))))
theorem zaO:compF Tryz.prog [] 121=some (zaN.ac,[(.cell 4 true 3),(.t 5)],20):=by kernel_rfl
theorem jp (W0:World) (t:List Ent) (p:Str):Fn Tryz.prog W0 121 [eEnts t,CS p] (.c (eEntO (get t p))) []:=by
 refine fnX (c:=zaN) mixed zaO (by simp) rfl fun hg=>?_
 refine dr ?_
 refine cP ?_ ?_<;>intro h1
 ·refine dr ?_
  rw [get,if_pos h1]; rfl
 rw [get,if_neg h1]
 refine dr ?_
 repeat (refine c0 (zfF W0 t p) rfl ?_; first | refine dr ?_ | exact dz)
 intro hg1
 rcases ziN t p with ⟨e1,e2,_⟩ | ⟨j,hj,e1,e2,_⟩
 ·rw [e1,e2]
  refine dr ?_
  refine cP ?_ ?_<;>intro h2
  ·refine dr ?_
   rfl
  ·omega
 ·rw [e1,e2]
  refine dr ?_
  refine cP ?_ ?_<;>intro h2
  ·omega
  ·refine dr ?_
   rfl
def zaf:XC:=(.s (.r [.m1 2 .n]) (.s (.s (.r [.mv 5 0,.n1 6 5,.b1 7 .gtr 6 (.i 16)]) (.cnd 7 (.s (.r [.m1 2 .n]) .ret) .skip)) (.s (.s (.r [.m1 3 (.i 0)]) (.blk 0 (.loop (.s (.s (.r [.mv 8 3,.mv 9 0,.n1 10 9,.b1 11 .lss 8 10]) (.cnd 11 .skip (.exit 0))) (.s (.blk 1 (.s (.r [.mv 14 0,.mv 15 3,.i1 16 3 14 15,.l2 17 3 16,.ex 4 (.alloc [sE,(B false),sE]),.s1 3 4 17]) (.s (.d [.f1 18 0 4,.l1 19 1 18,.c1 20 106 [19],.ex 21 (.un .not 20),.mv 22 21,.gf 23 (.fa 2 4) 22,.gf 24 (.ld false 1 23) 22,.gf 25 (.call 177 [24]) 22,.gf 26 (.un .not 25) 22,.ex 27 (.pick 22 .y 26),.mv 28 27,.gf 29 (.fa 1 4) 28,.gf 30 (.ld false 1 29) 28,.gf 31 (.mv 30) 28,.gt 32 (.fa 2 4) 31,.gt 33 (.ld false 1 32) 31,.gt 34 (.bin .neq 33 (.s [])) 31,.gf 35 (.pick 31 34 .n) 28,.ex 36 (.pick 28 .y 35),.mv 37 36,.gf 38 (.mv 3) 37,.gf 39 (.bin .gtr 38 (.i 0)) 37,.gf 40 (.mv 39) 37,.gt 41 (.mv 0) 40,.gt 42 (.mv 3) 40,.gt 43 (.bin .sub 42 (.i 1)) 40,.gt 44 (.ia 3 41 43) 40,.gt 45 (.fa 0 44) 40,.gt 46 (.ld false 1 45) 40,.gt 47 (.fa 0 4) 40,.gt 48 (.ld false 1 47) 40,.gt 49 (.bin .geq 46 48) 40,.gf 50 (.pick 40 49 .n) 37,.ex 51 (.pick 37 .y 50),.mv 52 51,.gf 53 (.mv 0) 52,.gf 54 (.mv 3) 52,.gf 55 (.slr 3 53 .none (.some 54)) 52,.gf 56 (.fa 0 4) 52,.gf 57 (.ld false 1 56) 52,.gf 58 (.call 123 [57]) 52,.gf 59 (.call 122 [55,58]) 52,.gf 60 (.un .not 59) 52,.ex 61 (.pick 52 .y 60)]) (.cnd 61 (.s (.r [.m1 2 .n]) .ret) .skip)))) (.r [.mv 12 3,.b1 13 .add 12 (.i 1),.mv 3 13])))))) (.s (.r [.m1 2 .y]) .ret))))
theorem zag:compF Tryz.prog [] 119=some (zaf.ac,[(.t 2)],62):=by kernel_rfl
theorem zgV (W0:World) (t:List Ent):Fn Tryz.prog W0 119 [eEnts t] (.c (CB (tOk t))) []:=by
 refine fnX (c:=zaf) mixed zag (by simp) rfl fun hg=>?_
 have g1:=goodRow (hg _ (by simp:eEnts t∈_))
 refine dr ?_
 refine cP ?_ ?_<;>intro h1
 ·refine dr ?_
  exact bF (by rw [tOk,Bool.and_eq_false_iff]; left; simp; omega)
 have hT:tOk t=okA [] t:=by rw [tOk]; simp; omega
 rw [hT]
 refine dr ?_
 refine lp (σ:=Nat) (fun k=>[(0,.c (eEnts t)),(3,I k)]) (fun _=>[]) (fun k=>k≤t.length∧∀ j (h:j < t.length),j < k→ok1 (t.take j) t[j]=true) (fun k=>t.length - k) 0 ⟨by simp,by simp⟩ ?_ ?_
 ·refine dr ?_
  trivial
 rintro k ⟨hk,ha⟩
 refine dr ?_
 refine cP ?_ ?_<;>intro h2
 rotate_left
 ·refine dr ?_
  exact bT (okA0.2 fun j h=>ha j h (by omega))
 have hk':k < t.length:=by omega
 have no:ok1 (t.take k) t[k]=false→CB false=CB (okA [] t):=fun h=>bF (by
  rw [Bool.eq_false_iff]; intro e
  have:=okA0.1 e k hk'
  rw [h] at this; cases this)
 refine dr ?_
 repeat (refine c0 (jC W0 _) rfl ?_; first | refine dr ?_ | exact dz)
 refine cP ?_ ?_<;>intro h3
 ·refine dr ?_
  exact no (by simp [ok1,h3])
 refine dr ?_
 repeat (refine c0 (zfD W0 _) rfl ?_; first | refine dr ?_ | exact dz)
 refine cP ?_ ?_<;>intro h4
 ·refine dr ?_
  exact no (by simp [ok1,h4])
 refine dr ?_
 refine cP ?_ ?_<;>intro h5
 ·refine dr ?_
  refine cP ?_ ?_<;>intro h6
  ·refine dr ?_
   exact no (by simp [ok1,h5,h6])
  ·have h56:(!(t[k].dir&&t[k].data != []))=true:=by simp [h6]
   clear h5 h6
   refine dr ?_
   refine cP ?_ ?_<;>intro h7
   ·have hl:(t.take k).getLast? = some t[k - 1]:=by
     rw [List.getLast?_take,if_neg (by omega),List.getElem?_eq_getElem (by omega)]
     rfl
    refine dr ?_
    repeat (refine aM (j:=k - 1) (by omega) (by omega) ?_; first | refine dr ?_ | exact dz)
    cases h8:ltS t[k - 1].path t[k].path
    ·refine dr ?_
     exact no (by simp [ok1,hl,h8])
    ·refine dEr ?_
     repeat ((first | refine sHiM k rfl (by omega) ?_ | refine c0 (jD W0 _) rfl ?_ | refine c0 (jo W0 (t.take k) _) rfl ?_); first | refine dEr ?_ | exact dz)
     refine cP ?_ ?_<;>intro h9
     ·refine dr ?_
      exact no (by simp [ok1,h9])
     ·refine dr ?_
      refine ⟨k+1,⟨by omega,fun j h hj=>?_⟩,by omega,?_⟩
      ·by_cases e:j=k
       ·subst e; rw [ok1,h3,h4,h56,h9,hl]; simp [h8]
       ·exact ha j h (by omega)
      ·refine dr ?_
       trivial
   ·have hk0:k=0:=by omega
    subst hk0
    refine dEr ?_
    repeat ((first | refine sHiM 0 rfl (by omega) ?_ | refine c0 (jD W0 _) rfl ?_ | refine c0 (jo W0 (t.take 0) _) rfl ?_); first | refine dEr ?_ | exact dz)
    refine cP ?_ ?_<;>intro h9
    ·refine dr ?_
     exact no (by simp only [ok1,h9,Bool.and_false])
    ·refine dr ?_
     refine ⟨1,⟨by omega,fun j h hj=>?_⟩,by omega,?_⟩
     ·have e:j=0:=by omega
      subst e
      rw [ok1,h3,h4,h56,h9]; rfl
     ·refine dr ?_
      trivial
 ·have h56:(!(t[k].dir&&t[k].data != []))=true:=by simp [h5]
  clear h5
  refine dr ?_
  refine cP ?_ ?_<;>intro h7
  ·have hl:(t.take k).getLast? = some t[k - 1]:=by
    rw [List.getLast?_take,if_neg (by omega),List.getElem?_eq_getElem (by omega)]
    rfl
   refine dr ?_
   repeat (refine aM (j:=k - 1) (by omega) (by omega) ?_; first | refine dr ?_ | exact dz)
   cases h8:ltS t[k - 1].path t[k].path
   ·refine dr ?_
    exact no (by simp [ok1,hl,h8])
   ·refine dEr ?_
    repeat ((first | refine sHiM k rfl (by omega) ?_ | refine c0 (jD W0 _) rfl ?_ | refine c0 (jo W0 (t.take k) _) rfl ?_); first | refine dEr ?_ | exact dz)
    refine cP ?_ ?_<;>intro h9
    ·refine dr ?_
     exact no (by simp [ok1,h9])
    ·refine dr ?_
     refine ⟨k+1,⟨by omega,fun j h hj=>?_⟩,by omega,?_⟩
     ·by_cases e:j=k
      ·subst e; rw [ok1,h3,h4,h56,h9,hl]; simp [h8]
      ·exact ha j h (by omega)
     ·refine dr ?_
      trivial
  ·have hk0:k=0:=by omega
   subst hk0
   refine dEr ?_
   repeat ((first | refine sHiM 0 rfl (by omega) ?_ | refine c0 (jD W0 _) rfl ?_ | refine c0 (jo W0 (t.take 0) _) rfl ?_); first | refine dEr ?_ | exact dz)
   refine cP ?_ ?_<;>intro h9
   ·refine dr ?_
    exact no (by simp only [ok1,h9,Bool.and_false])
   ·refine dr ?_
    refine ⟨1,⟨by omega,fun j h hj=>?_⟩,by omega,?_⟩
    ·have e:j=0:=by omega
     subst e
     rw [ok1,h3,h4,h56,h9]; rfl
    ·refine dr ?_
     trivial

def za3:XC:=(.s (.r [.ex 3 (.box 1),.ex 4 (.asn (.k .nil) 3 39)]) (.s (.r [.ex 7 .bsl0,.a1 5 7 3 39]) (.s (.r [.m1 6 (.i 0)]) (.s (.blk 0 (.loop (.s (.s (.d [.mv 8 6,.mv 9 0,.n1 10 9,.b1 11 .lss 8 10,.mv 12 11,.gt 13 (.mv 0) 12,.gt 14 (.mv 6) 12,.gt 15 (.ia 3 13 14) 12,.gt 16 (.fa 0 15) 12,.gt 17 (.ld false 1 16) 12,.gt 18 (.fa 0 3) 12,.gt 19 (.ld false 1 18) 12,.gt 20 (.bin .lss 17 19) 12,.ex 21 (.pick 12 20 .n)]) (.cnd 21 .skip (.exit 0))) (.blk 1 (.s (.r [.mv 22 5,.mv 23 0,.mv 24 6,.i1 25 3 23 24,.l2 26 3 25,.ex 27 (.bsl 3 39 [26]),.ex 28 (.app false 3 40 39 22 27),.a1 5 28 3 39]) (.r [.mv 29 6,.b1 30 .add 29 (.i 1),.mv 6 30])))))) (.s (.r [.mv 31 5,.l2 32 3 3,.ex 33 (.bsl 3 39 [32]),.ex 34 (.app false 3 40 39 31 33),.a1 5 34 3 39]) (.s (.s (.d [.mv 35 6,.mv 36 0,.n1 37 36,.b1 38 .lss 35 37,.mv 39 38,.gt 40 (.mv 0) 39,.gt 41 (.mv 6) 39,.gt 42 (.ia 3 40 41) 39,.gt 43 (.fa 0 42) 39,.gt 44 (.ld false 1 43) 39,.gt 45 (.fa 0 3) 39,.gt 46 (.ld false 1 45) 39,.gt 47 (.bin .eql 44 46) 39,.ex 48 (.pick 39 47 .n)]) (.cnd 48 (.r [.mv 49 6,.b1 50 .add 49 (.i 1),.mv 6 50]) .skip)) (.s (.r [.mv 51 5,.mv 52 0,.mv 53 6,.ex 54 (.slr 3 52 (.some 53) .none),.ex 55 (.app false 3 40 39 51 54),.a1 4 55 3 39]) .ret)))))))
theorem za6:compF Tryz.prog [] 178=some (za3.ac,[(.t 4)],56):=by kernel_rfl
theorem jq (W0:World) (t:List Ent) (e:Ent) (ht:t.length≤1000000):Fn Tryz.prog W0 178 [eEnts t,eEnt e] (.c (eEnts (put t e))) []:=by
 refine fnX (c:=za3) mixed za6 (by simp) rfl fun hg=>?_
 refine dr ?_
 refine lp (σ:=Nat) (fun k=>[(0,.c (eEnts t)),(3,.ptr 48 0),(5,.own 80 k),(6,I k)]) (fun k=>[(48,.box [.c (CS e.path),(.c (CB e.dir)),.c (CS e.data)]),(80,.row ((t.take k).map eEnt) 3 39)]) (fun k=>k≤t.length∧(t.take k).all (fun x=>ltS x.path e.path)=true) (fun k=>t.length - k) 0 ⟨by simp,by simp⟩ ?_ ?_
 ·refine dr ?_
  trivial
 rintro k ⟨hk,ha⟩
 refine dr ?_
 refine cP ?_ ?_<;>intro h1
 ·have hk':k < t.length:=by omega
  refine dr ?_
  refine cP ?_ ?_<;>intro h2
  ·refine dr ?_
   repeat ((first | refine oB (by simp; omega) ?_ | refine oB (by simp) ?_); first | refine dr ?_ | exact dz)
   refine ⟨k+1,⟨by omega,y4 hk' ha h2⟩,by omega,?_⟩
   refine dr ?_
   repeat ((first | refine oB (by simp; omega) ?_ | refine oB (tmn hk') ?_); first | refine dr ?_ | exact dz)
   trivial
  ·refine dr ?_
   repeat ((first | refine oB (by simp; omega) ?_ | refine oB (by simp) ?_); first | refine dr ?_ | exact dz)
   refine cP ?_ ?_<;>intro h3
   rotate_left
   ·omega
   refine dr ?_
   refine cP ?_ ?_<;>intro h4
   ·refine dr ?_
    repeat ((first | refine sLoM (k+1) (by omega) (by omega) ?_ | refine oB (by simp; omega) ?_ | refine oB (by simp) ?_); first | refine dr ?_ | exact dz)
    show _=eEnts (putG _ t e)
    rw [zlH hk' ha h2 h4]; simp [eEnts]; rfl
   ·refine dr ?_
    repeat ((first | refine sLoM k (by omega) (by omega) ?_ | refine oB (by simp; omega) ?_ | refine oB (by simp) ?_); first | refine dr ?_ | exact dz)
    show _=eEnts (putG _ t e)
    rw [zlM hk' ha h2 h4]; simp [eEnts]; rfl
 ·refine dr ?_
  repeat ((first | refine oB (by simp; omega) ?_ | refine oB (by simp) ?_); first | refine dr ?_ | exact dz)
  refine cP ?_ ?_<;>intro h3
  ·omega
  refine dr ?_
  repeat ((first | refine sLoM k (by omega) (by omega) ?_ | refine oB (by simp; omega) ?_ | refine oB (by simp) ?_); first | refine dr ?_ | exact dz)
  show _=eEnts (putG _ t e)
  rw [zlK (by omega) ha]
  have:k=t.length:=by omega
  simp [eEnts,this]; rfl
def zbB:XC:=(.s (.r [.ex 3 (.box 1),.ex 4 (.asn (.k .nil) 3 133)]) (.s (.r [.ex 7 .bsl0,.a1 5 7 3 133]) (.s (.r [.m1 6 (.i 0)]) (.s (.blk 0 (.loop (.s (.s (.d [.mv 8 6,.mv 9 0,.n1 10 9,.b1 11 .lss 8 10,.mv 12 11,.gt 13 (.mv 0) 12,.gt 14 (.mv 6) 12,.gt 15 (.ia 3 13 14) 12,.gt 16 (.fa 0 15) 12,.gt 17 (.ld false 1 16) 12,.gt 18 (.fa 0 3) 12,.gt 19 (.ld false 1 18) 12,.gt 20 (.bin .lss 17 19) 12,.ex 21 (.pick 12 20 .n)]) (.cnd 21 .skip (.exit 0))) (.blk 1 (.s (.r [.mv 22 5,.mv 23 0,.mv 24 6,.i1 25 3 23 24,.l2 26 3 25,.ex 27 (.bsl 3 133 [26]),.ex 28 (.app false 3 40 133 22 27),.a1 5 28 3 133]) (.r [.mv 29 6,.b1 30 .add 29 (.i 1),.mv 6 30])))))) (.s (.r [.mv 31 5,.l2 32 3 3,.ex 33 (.bsl 3 133 [32]),.ex 34 (.app false 3 40 133 31 33),.a1 5 34 3 133]) (.s (.s (.d [.mv 35 6,.mv 36 0,.n1 37 36,.b1 38 .lss 35 37,.mv 39 38,.gt 40 (.mv 0) 39,.gt 41 (.mv 6) 39,.gt 42 (.ia 3 40 41) 39,.gt 43 (.fa 0 42) 39,.gt 44 (.ld false 1 43) 39,.gt 45 (.fa 0 3) 39,.gt 46 (.ld false 1 45) 39,.gt 47 (.bin .eql 44 46) 39,.ex 48 (.pick 39 47 .n)]) (.cnd 48 (.r [.mv 49 6,.b1 50 .add 49 (.i 1),.mv 6 50]) .skip)) (.s (.r [.mv 51 5,.mv 52 0,.mv 53 6,.ex 54 (.slr 3 52 (.some 53) .none),.ex 55 (.app false 3 40 133 51 54),.a1 4 55 3 133]) .ret)))))))
theorem zbC:compF Tryz.prog [] 125=some (zbB.ac,[(.t 4)],56):=by kernel_rfl
theorem jt (W0:World) (t:List Mark) (e:Mark) (ht:t.length≤1000000):Fn Tryz.prog W0 125 [eMarks t,eMark e] (.c (eMarks (lput t e))) []:=by
 refine fnX (c:=zbB) mixed zbC (by simp) rfl fun hg=>?_
 refine dr ?_
 refine lp (σ:=Nat) (fun k=>[(0,.c (eMarks t)),(3,.ptr 48 0),(5,.own 80 k),(6,I k)]) (fun k=>[(48,.box [.c (CS e.path),(I e.kind),.c (CS e.data)]),(80,.row ((t.take k).map eMark) 3 133)]) (fun k=>k≤t.length∧(t.take k).all (fun x=>ltS x.path e.path)=true) (fun k=>t.length - k) 0 ⟨by simp,by simp⟩ ?_ ?_
 ·refine dr ?_
  trivial
 rintro k ⟨hk,ha⟩
 refine dr ?_
 refine cP ?_ ?_<;>intro h1
 ·have hk':k < t.length:=by omega
  refine dr ?_
  refine cP ?_ ?_<;>intro h2
  ·refine dr ?_
   repeat ((first | refine oB (by simp; omega) ?_ | refine oB (by simp) ?_); first | refine dr ?_ | exact dz)
   refine ⟨k+1,⟨by omega,y4 hk' ha h2⟩,by omega,?_⟩
   refine dr ?_
   repeat ((first | refine oB (by simp; omega) ?_ | refine oB (tmn hk') ?_); first | refine dr ?_ | exact dz)
   trivial
  ·refine dr ?_
   repeat ((first | refine oB (by simp; omega) ?_ | refine oB (by simp) ?_); first | refine dr ?_ | exact dz)
   refine cP ?_ ?_<;>intro h3
   rotate_left
   ·omega
   refine dr ?_
   refine cP ?_ ?_<;>intro h4
   ·refine dr ?_
    repeat ((first | refine sLoM (k+1) (by omega) (by omega) ?_ | refine oB (by simp; omega) ?_ | refine oB (by simp) ?_); first | refine dr ?_ | exact dz)
    show _=eMarks (putG _ t e)
    rw [zlH hk' ha h2 h4]; simp [eMarks]; rfl
   ·refine dr ?_
    repeat ((first | refine sLoM k (by omega) (by omega) ?_ | refine oB (by simp; omega) ?_ | refine oB (by simp) ?_); first | refine dr ?_ | exact dz)
    show _=eMarks (putG _ t e)
    rw [zlM hk' ha h2 h4]; simp [eMarks]; rfl
 ·refine dr ?_
  repeat ((first | refine oB (by simp; omega) ?_ | refine oB (by simp) ?_); first | refine dr ?_ | exact dz)
  refine cP ?_ ?_<;>intro h3
  ·omega
  refine dr ?_
  repeat ((first | refine sLoM k (by omega) (by omega) ?_ | refine oB (by simp; omega) ?_ | refine oB (by simp) ?_); first | refine dr ?_ | exact dz)
  show _=eMarks (putG _ t e)
  rw [zlK (by omega) ha]
  have:k=t.length:=by omega
  simp [eMarks,this]; rfl
def zbb:XC:=(.s (.r [.ex 4 (.asn (.k .nil) 1 9)]) (.s (.r [.mv 13 0,.a1 5 13 3 39]) (.s (.s (.r [.m1 6 (.i 0)]) (.blk 0 (.loop (.s (.s (.r [.mv 14 6,.mv 15 1,.n1 16 15,.b1 17 .lss 14 16]) (.cnd 17 .skip (.exit 0))) (.s (.blk 1 (.r [.mv 20 5,.mv 21 1,.mv 22 6,.i1 23 3 21 22,.l2 24 3 23,.c1 25 178 [20,24],.a1 5 25 3 39])) (.r [.mv 18 6,.b1 19 .add 18 (.i 1),.mv 6 19])))))) (.s (.r [.ex 26 .bsl0,.a1 7 26 1 9]) (.s (.s (.r [.m1 8 (.i 0)]) (.blk 2 (.loop (.s (.s (.r [.mv 27 8,.mv 28 5,.n1 29 28,.b1 30 .lss 27 29]) (.cnd 30 .skip (.exit 2))) (.s (.blk 3 (.s (.r [.mv 34 0,.mv 35 5,.mv 36 8,.i1 37 3 35 36,.f1 38 0 37,.l1 39 1 38,.c1 40 121 [34,39],.mv 33 40,.e1 41 33 0,.e1 42 33 1,.ex 9 (.alloc [sE,(B false),sE]),.s1 3 9 41,.mv 10 42]) (.s (.r [.mv 44 1,.mv 45 5,.mv 46 8,.i1 47 3 45 46,.f1 48 0 47,.l1 49 1 48,.c1 50 121 [44,49],.mv 43 50,.e1 51 43 0,.e1 52 43 1,.ex 11 (.alloc [sE,(B false),sE]),.s1 3 11 51,.mv 12 52]) (.s (.r [.mv 53 10,.mv 54 12,.ex 55 (.bb true 53 54),.mv 56 55,.gf 57 (.ld true 3 9) 56,.gf 58 (.ld true 3 11) 56,.gf 59 (.beq true [.s,.b,.s] 57 58) 56,.ex 60 (.pick 56 .y 59)]) (.cnd 60 (.r [.mv 61 7,.mv 62 5,.mv 63 8,.i1 64 3 62 63,.f1 65 0 64,.l1 66 1 65,.ex 67 (.bsl 1 9 [66]),.ex 68 (.app false 1 16 9 61 67),.a1 7 68 1 9]) .skip))))) (.r [.mv 31 8,.b1 32 .add 31 (.i 1),.mv 8 32])))))) (.s (.r [.mv 69 7,.a1 4 69 1 9]) .ret))))))
theorem zbc:compF Tryz.prog [] 120=some (zbb.ac,[(.t 4)],70):=by kernel_rfl
theorem zfQ (W0:World) (a b:List Ent) (ht:a.length+b.length≤1000000):Fn Tryz.prog W0 120 [eEnts a,eEnts b] (.c (eStrs (turned a b))) []:=by
 refine fnX (c:=zbb) mixed zbc (by simp) rfl fun hg=>?_
 refine dr ?_
 refine lp (σ:=Nat) (fun k=>[(0,.c (eEnts a)),(1,.c (eEnts b)),(5,.c (eEnts ((b.take k).foldl put a))),(6,I k)]) (fun _=>[]) (fun k=>k≤b.length) (fun k=>b.length - k) 0 (by simp) ?_ ?_
 ·refine dr ?_
  trivial
 intro k hk
 have hlk:((b.take k).foldl put a).length≤a.length+b.length:=zhU b a k
 refine dr ?_
 refine cP ?_ ?_<;>intro h1
 ·have hk':k < b.length:=by omega
  refine dr ?_
  repeat (refine c0 (jq W0 _ _ (by omega)) rfl ?_; first | refine dr ?_ | exact dz)
  intro hg1
  refine dr ?_
  refine ⟨k+1,by omega,by omega,?_⟩
  refine dr ?_
  repeat (refine oB (by rw [jV hk']) ?_; first | refine dr ?_ | exact dz)
  trivial
 have hkl:k=b.length:=by omega
 subst hkl
 rw [List.take_length] at hlk ⊢
 have hB:b.foldl put a=both a b:=rfl
 rw [hB] at hlk ⊢
 generalize hBB:both a b=B at *
 refine dr ?_
 refine lp (σ:=Nat) (fun k=>[(0,.c (eEnts a)),(1,.c (eEnts b)),(5,.c (eEnts B)),(8,I k),(7,.own 112 ((B.take k).filter (tudP a b)).length)]) (fun k=>[(112,.row (((B.take k).filter (tudP a b)).map fun e=>CS e.path) 1 9)]) (fun k=>k≤B.length) (fun k=>B.length - k) 0 (by simp) ?_ ?_
 ·refine dr ?_
  trivial
 intro k hk
 have hfl:=zg8 (q:=tudP a b) (l:=B) (k:=k)
 refine dr ?_
 refine cP ?_ ?_<;>intro h2
 ·have hk':k < B.length:=by omega
  refine dr ?_
  repeat ((first | refine c0 (jp W0 _ _) rfl ?_ | rw [zJ]); first | refine dr ?_ | exact dz)
  intro hg1
  refine dr ?_
  repeat ((first | refine c0 (jp W0 _ _) rfl ?_ | rw [zJ]); first | refine dr ?_ | exact dz)
  intro hg1
  refine dr ?_
  have hq:tudP a b B[k]=!(decide ((get a B[k].path).isSome=(get b B[k].path).isSome)&&decide ((get a B[k].path).getD noE=(get b B[k].path).getD noE)):=by
   rw [tudP,Bool.eq_iff_iff]; simp [zm5 (d:=noE)]
  refine cP ?_ ?_<;>intro h3
  ·refine dr ?_
   repeat ((first | refine oB (by simp; omega) ?_ | refine oB (by simp) ?_); first | refine dr ?_ | exact dz)
   have hT:tudP a b B[k]=true:=by rw [hq]; simp [h3]
   refine ⟨k+1,by omega,by omega,?_⟩
   refine dr ?_
   repeat (refine oB (by rw [jI hk' hT]; simp) ?_; first | refine dr ?_ | exact dz)
   trivial
  ·refine dr ?_
   refine cP ?_ ?_<;>intro h4
   ·refine dr ?_
    repeat ((first | refine oB (by simp; omega) ?_ | refine oB (by simp) ?_); first | refine dr ?_ | exact dz)
    have hT:tudP a b B[k]=true:=by rw [hq,← bqEnt,h4]; simp
    refine ⟨k+1,by omega,by omega,?_⟩
    refine dr ?_
    repeat (refine oB (by rw [jI hk' hT]; simp) ?_; first | refine dr ?_ | exact dz)
    trivial
   ·refine dr ?_
    have hT:tudP a b B[k]=false:=by rw [hq,← bqEnt,h4]; simp [h3]
    refine ⟨k+1,by omega,by omega,?_⟩
    refine dr ?_
    repeat (refine oB (by rw [jH hk' hT]) ?_; first | refine dr ?_ | exact dz)
    trivial
 have hkl:k=B.length:=by omega
 refine dr ?_
 repeat (refine oB (by simp) ?_; first | refine dr ?_ | exact dz)
 rw [turned,hBB,hkl,List.take_length]
 simp [eStrs]

def YV:XC:=(.s (.r [.ex 1 (.box 0),.m1 2 .n]) (.s (.s (.r [.f1 3 0 1,.l1 4 1 3,.b1 5 .lss 4 (.i 1),.mv 6 5,.gf 7 (.fa 0 1) 6,.gf 8 (.ld false 1 7) 6,.gf 9 (.bin .gtr 8 (.i 5)) 6,.ex 10 (.pick 6 .y 9),.mv 11 10,.gf 12 (.fa 1 1) 11,.gf 13 (.ld false 1 12) 11,.gf 14 (.call 106 [13]) 11,.gf 15 (.un .not 14) 11,.ex 16 (.pick 11 .y 15)]) (.cnd 16 (.s (.r [.m1 2 .n]) .ret) .skip)) (.s (.s (.r [.f1 17 0 1,.l1 18 1 17,.b1 19 .eql 18 (.i 5)]) (.cnd 19 (.s (.r [.f1 20 2 1,.l1 21 1 20,.c1 22 106 [21],.mv 23 22,.gt 24 (.fa 3 1) 23,.gt 25 (.ld false 1 24) 23,.gt 26 (.bin .eql 25 (.s [])) 23,.ex 27 (.pick 23 26 .n),.mv 2 27]) .ret) .skip)) (.s (.r [.f1 28 2 1,.l1 29 1 28,.ex 30 (.bin .eql 29 (.s [])),.mv 31 30,.gt 32 (.fa 3 1) 31,.gt 33 (.ld false 1 32) 31,.gt 34 (.call 177 [33]) 31,.ex 35 (.pick 31 34 .n),.mv 36 35,.gt 37 (.fa 0 1) 36,.gt 38 (.ld false 1 37) 36,.gt 39 (.bin .eql 38 (.i 2)) 36,.gt 40 (.mv 39) 36,.gf 41 (.fa 3 1) 40,.gf 42 (.ld false 1 41) 40,.gf 43 (.bin .eql 42 (.s [])) 40,.gt 44 (.pick 40 .y 43) 36,.ex 45 (.pick 36 44 .n),.mv 2 45]) .ret))))
theorem YW:compF Tryz.prog [] 165=some (YV.ac,[(.t 2)],46):=by kernel_rfl
theorem zgP (W0:World) (op:Op):Fn Tryz.prog W0 165 [eOp op] (.c (CB (opOkB op))) []:=by
 refine fnX (c:=YV) mixed YW (by simp) rfl fun hg=>?_
 refine dr ?_
 refine cP ?_ ?_<;>intro h1
 ·refine dr ?_
  exact bF (by simp [opOkB]; omega)
 refine dr ?_
 refine cP ?_ ?_<;>intro h2
 ·refine dr ?_
  exact bF (by simp [opOkB]; omega)
 refine dr ?_
 repeat (refine c0 (jC W0 _) rfl ?_; first | refine dr ?_ | exact dz)
 refine cP ?_ ?_<;>intro h3
 ·refine dr ?_
  exact bF (by simp [opOkB,h3])
 have hk:(decide (1≤op.kind)&&decide (op.kind≤5))=true:=by simp; omega
 refine dr ?_
 refine cP ?_ ?_<;>intro h4
 ·refine dEr ?_
  repeat (refine c0 (jC W0 _) rfl ?_; first | refine dEr ?_ | exact dz)
  have e:opOkB op=(pOk op.dest&&op.data==[]):=by rw [opOkB,hk,h3,if_pos h4]<;>rfl
  rw [e]
  refine cP ?_ ?_<;>intro h5
  ·refine dr ?_
   refine congrArg CB ?_
   rw [Bool.eq_iff_iff]; simp [h5,zS]
  ·refine dr ?_
   exact bF (by simp [h5])
 have e:opOkB op=(op.dest==[]&&(dataOk op.data&&(op.kind==2||op.data==[]))):=by rw [opOkB,hk,h3,if_neg h4]<;>rfl
 rw [e]
 refine dr ?_
 refine cP ?_ ?_<;>intro h5
 ·refine dEr ?_
  repeat (refine c0 (zfD W0 _) rfl ?_; first | refine dEr ?_ | exact dz)
  refine cP ?_ ?_<;>intro h6
  ·refine dr ?_
   refine cP ?_ ?_<;>intro h7
   ·refine dr ?_
    exact bT (by simp [h5,h6,h7])
   ·refine dr ?_
    refine congrArg CB ?_
    rw [Bool.eq_iff_iff]; simp [h5,h6,h7,zS]
  ·refine dr ?_
   exact bF (by simp [h6])
 ·refine dr ?_
  exact bF (by simp [h5])
def zaP:XC:=(.s (.r [.ex 4 (.asn (.k .nil) 1 9)]) (.s (.r [.ex 7 .bsl0,.a1 5 7 1 9]) (.s (.s (.r [.m1 6 (.i 0)]) (.blk 0 (.loop (.s (.s (.r [.mv 8 6,.mv 9 0,.n1 10 9,.b1 11 .lss 8 10]) (.cnd 11 .skip (.exit 0))) (.s (.blk 1 (.s (.r [.mv 14 0,.mv 15 6,.i1 16 3 14 15,.f1 17 0 16,.l1 18 1 17,.c1 19 123 [18],.mv 20 1,.b1 21 .eql 19 20]) (.cnd 21 (.r [.mv 22 5,.mv 23 0,.mv 24 6,.i1 25 3 23 24,.f1 26 0 25,.l1 27 1 26,.c1 28 257 [27],.ex 29 (.bsl 1 9 [28]),.ex 30 (.app false 1 16 9 22 29),.a1 5 30 1 9]) .skip))) (.r [.mv 12 6,.b1 13 .add 12 (.i 1),.mv 6 13])))))) (.s (.r [.mv 31 5,.a1 4 31 1 9]) .ret))))
theorem zaQ:compF Tryz.prog [] 237=some (zaP.ac,[(.t 4)],32):=by kernel_rfl
theorem zfG (W0:World) (t:List Ent) (p:Str) (ht:t.length≤1000000):Fn Tryz.prog W0 237 [eEnts t,CS p] (.c (eStrs (kids t p))) []:=by
 refine fnX (c:=zaP) mixed zaQ (by simp) rfl fun hg=>?_
 refine dr ?_
 refine lp2 (fun (k:Nat) (out:List Ent)=>[(0,.c (eEnts t)),(1,.c (CS p)),(5,.own 80 out.length),(6,I k)]) (fun _ out=>[(80,.row (out.map fun e=>CS (pName e.path)) 1 9)]) (fun k out=>k≤t.length∧out=(t.take k).filter (fun e=>pUp e.path==p)∧out.length≤k) (fun k _=>t.length - k) 0 [] ⟨by simp,rfl,by simp⟩ ?_ ?_
 ·refine dr ?_
  trivial
 rintro k out ⟨hk,ho,hle⟩
 refine dr ?_
 refine cP ?_ ?_<;>intro h1
 ·have hk':k < t.length:=by omega
  refine dEr ?_
  repeat (refine c0 (jD W0 _) rfl ?_; first | refine dEr ?_ | exact dz)
  refine cP ?_ ?_<;>intro h2
  ·refine dEr ?_
   repeat ((first | refine c0 (zgU W0 _) rfl ?_ | refine oB (by simp; omega) ?_ | refine oB (by simp) ?_); first | refine dEr ?_ | exact dz)
   refine ⟨k+1,out++[t[k]],⟨by omega,by rw [jI hk' (by simp [h2]),ho],by simp; omega⟩,by omega,?_⟩
   refine dr ?_
   repeat (refine oB (by simp<;>rfl) ?_; first | refine dr ?_ | exact dz)
   trivial
  ·refine dr ?_
   refine ⟨k+1,out,⟨by omega,by rw [jH hk' (by simp [h2]),ho],by omega⟩,by omega,?_⟩
   refine dr ?_
   trivial
 have hkl:k=t.length:=by omega
 rw [hkl,List.take_length] at ho
 refine dr ?_
 repeat (refine oB (by simp) ?_; first | refine dr ?_ | exact dz)
 rw [kids,← ho]; simp [eStrs]
def zbd:XC:=(.s (.r [.m1 4 (.i 0)]) (.s (.r [.mv 8 0,.mv 9 1,.c1 10 123 [9],.c1 11 121 [8,10],.mv 7 11,.e1 12 7 0,.e1 13 7 1,.ex 5 (.alloc [sE,(B false),sE]),.s1 3 5 12,.mv 6 13]) (.s (.blk 0 (.s (.r [.mv 15 6,.ex 16 (.un .not 15),.mv 14 16]) (.cnd 14 (.s (.r [.m1 4 (.i 2)]) .ret) (.s (.r [.f1 18 1 5,.l1 19 1 18,.ex 20 (.un .not 19),.mv 17 20]) (.cnd 17 (.s (.r [.m1 4 (.i 3)]) .ret) .skip))))) (.s (.r [.m1 4 (.i 0)]) .ret))))
theorem zbe:compF Tryz.prog [] 234=some (zbd.ac,[(.t 4)],21):=by kernel_rfl
theorem zfR (W0:World) (t:List Ent) (p:Str):Fn Tryz.prog W0 234 [eEnts t,CS p] (.c (CI (upC t p))) []:=by
 refine fnX (c:=zbd) mixed zbe (by simp) rfl fun hg=>?_
 have hc:=jp W0 t (pUp p)
 cases hx:get t (pUp p) with
 | none =>
  rw [hx] at hc
  refine dEr ?_
  repeat ((first | refine c0 (jD W0 _) rfl ?_ | refine c0 hc rfl ?_); first | refine dEr ?_ | exact dz)
  rw [upC,hx]<;>rfl
 | some e =>
  rw [hx] at hc
  refine dEr ?_
  repeat ((first | refine c0 (jD W0 _) rfl ?_ | refine c0 hc rfl ?_); first | refine dEr ?_ | exact dz)
  refine cP ?_ ?_<;>intro h1
  ·refine dr ?_
   rw [upC,hx]; exact congrArg CI (by simp [h1])
  ·refine dr ?_
   rw [upC,hx]; exact congrArg CI (by simp [h1])
def zaV:XC:=(.s (.r [.m1 4 (.i 0)]) (.s (.r [.mv 8 0,.mv 9 1,.c1 10 234 [8,9],.mv 5 10]) (.s (.r [.mv 12 0,.mv 13 1,.c1 14 121 [12,13],.mv 11 14,.e1 15 11 0,.e1 16 11 1,.ex 6 (.alloc [sE,(B false),sE]),.s1 3 6 15,.mv 7 16]) (.s (.blk 0 (.s (.r [.mv 18 5,.b1 19 .neq 18 (.i 0),.mv 17 19]) (.cnd 17 (.s (.r [.mv 20 5,.mv 4 20]) .ret) (.s (.r [.mv 22 7,.mv 21 22]) (.cnd 21 (.s (.r [.m1 4 (.i 4)]) .ret) (.s (.r [.mv 24 0,.n1 25 24,.b1 26 .geq 25 (.i 16),.mv 23 26]) (.cnd 23 (.s (.r [.m1 4 (.i 8)]) .ret) .skip))))))) (.s (.r [.m1 4 (.i 0)]) .ret)))))
theorem zaW:compF Tryz.prog [] 199=some (zaV.ac,[(.t 4)],27):=by kernel_rfl
theorem zfJ (W0:World) (t:List Ent) (p:Str):Fn Tryz.prog W0 199 [eEnts t,CS p] (.c (CI (newC t p))) []:=by
 refine fnX (c:=zaV) mixed zaW (by simp) rfl fun hg=>?_
 have hc:=jp W0 t p
 rw [zJ] at hc
 refine dEr ?_
 repeat ((first | refine c0 (zfR W0 _ _) rfl ?_ | refine c0 hc rfl ?_); first | refine dEr ?_ | exact dz)
 refine cP ?_ ?_<;>intro h1
 ·refine dr ?_
  rw [newC,if_pos h1]
 have h1':¬ upC t p≠0:=fun h=>h h1
 refine dr ?_
 refine cP ?_ ?_<;>intro h2
 ·refine dr ?_
  rw [newC,if_neg h1',if_pos h2]<;>rfl
 have h2':¬ (get t p).isSome=true:=by simp [h2]
 refine dr ?_
 refine cP ?_ ?_<;>intro h3
 ·refine dr ?_
  rw [newC,if_neg h1',if_neg h2',if_pos (by omega)]<;>rfl
 ·refine dr ?_
  rw [newC,if_neg h1',if_neg h2',if_neg (by omega)]<;>rfl
def za4:XC:=(.s (.r [.m1 4 (.i 0)]) (.s (.r [.mv 8 0,.mv 9 1,.c1 10 199 [8,9],.mv 5 10]) (.s (.r [.mv 12 0,.mv 13 1,.c1 14 121 [12,13],.mv 11 14,.e1 15 11 0,.e1 16 11 1,.ex 6 (.alloc [sE,(B false),sE]),.s1 3 6 15,.mv 7 16]) (.s (.s (.r [.mv 17 5,.b1 18 .eql 17 (.i 4),.mv 19 18,.gt 20 (.fa 1 6) 19,.gt 21 (.ld false 1 20) 19,.ex 22 (.pick 19 21 .n)]) (.cnd 22 (.s (.r [.m1 4 (.i 5)]) .ret) .skip)) (.s (.s (.r [.mv 23 5,.b1 24 .eql 23 (.i 4)]) (.cnd 24 (.s (.r [.m1 4 (.i 0)]) .ret) .skip)) (.s (.r [.mv 25 5,.mv 4 25]) .ret))))))
theorem za5:compF Tryz.prog [] 200=some (za4.ac,[(.t 4)],26):=by kernel_rfl
theorem zfN (W0:World) (t:List Ent) (p:Str):Fn Tryz.prog W0 200 [eEnts t,CS p] (.c (CI (putC t p))) []:=by
 refine fnX (c:=za4) mixed za5 (by simp) rfl fun hg=>?_
 have hc:=jp W0 t p
 rw [zJ] at hc
 refine dEr ?_
 repeat ((first | refine c0 (zfJ W0 _ _) rfl ?_ | refine c0 hc rfl ?_); first | refine dEr ?_ | exact dz)
 refine cP ?_ ?_<;>intro h1
 ·refine dr ?_
  refine cP ?_ ?_<;>intro h2
  ·refine dr ?_
   rw [putC,if_pos h1,if_pos h2]<;>rfl
  ·refine dr ?_
   refine cP ?_ ?_<;>intro h3
   ·refine dr ?_
    rw [putC,if_pos h1,if_neg (by simp [h2])]<;>rfl
   ·exact absurd h1 h3
 ·refine dr ?_
  refine cP ?_ ?_<;>intro h3
  ·exact absurd h3 h1
  ·refine dr ?_
   rw [putC,if_neg h1]
def zaY:XC:=(.s (.r [.ex 3 (.box 1),.m1 4 (.i 0)]) (.s (.r [.mv 8 0,.f1 9 1 3,.l1 10 1 9,.c1 11 121 [8,10],.mv 7 11,.e1 12 7 0,.e1 13 7 1,.ex 5 (.alloc [sE,(B false),sE]),.s1 3 5 12,.mv 6 13]) (.s (.blk 0 (.s (.r [.mv 15 6,.ex 16 (.un .not 15),.mv 14 16]) (.cnd 14 (.s (.r [.m1 4 (.i 2)]) .ret) (.s (.r [.f1 18 0 3,.l1 19 1 18,.b1 20 .eql 19 (.i 3),.mv 21 20,.gt 22 (.fa 1 5) 21,.gt 23 (.ld false 1 22) 21,.ex 24 (.pick 21 23 .n),.mv 17 24]) (.cnd 17 (.s (.r [.m1 4 (.i 5)]) .ret) (.s (.r [.f1 26 0 3,.l1 27 1 26,.b1 28 .eql 27 (.i 4),.mv 29 28,.gt 30 (.fa 1 5) 29,.gt 31 (.ld false 1 30) 29,.gt 32 (.un .not 31) 29,.ex 33 (.pick 29 32 .n),.mv 25 33]) (.cnd 25 (.s (.r [.m1 4 (.i 3)]) .ret) (.s (.r [.mv 35 0,.f1 36 1 3,.l1 37 1 36,.c1 38 237 [35,37],.n1 39 38,.b1 40 .gtr 39 (.i 0),.mv 34 40]) (.cnd 34 (.s (.r [.m1 4 (.i 6)]) .ret) .skip))))))))) (.s (.r [.m1 4 (.i 0)]) .ret))))
theorem zaZ:compF Tryz.prog [] 202=some (zaY.ac,[(.t 4)],41):=by kernel_rfl
theorem zfL (W0:World) (t:List Ent) (op:Op) (ht:t.length≤1000000):Fn Tryz.prog W0 202 [eEnts t,eOp op] (.c (CI (offC t op))) []:=by
 refine fnX (c:=zaY) mixed zaZ (by simp) rfl fun hg=>?_
 have hc:=jp W0 t op.path
 cases hx:get t op.path with
 | none =>
  rw [hx] at hc
  refine dEr ?_
  repeat (refine c0 hc rfl ?_; first | refine dEr ?_ | exact dz)
  rw [offC,hx]<;>rfl
 | some e =>
  rw [hx] at hc
  have e0:offC t op=if op.kind=3∧e.dir=true then 5 else if op.kind=4∧e.dir=false then 3 else if 0 < (kids t op.path).length then 6 else 0:=by rw [offC,hx]
  rw [e0]
  have rest:∀ {A:Prop},A→A:=fun a=>a
  refine dEr ?_
  repeat (refine c0 hc rfl ?_; first | refine dEr ?_ | exact dz)
  refine cP ?_ ?_<;>intro h1
  ·refine dr ?_
   refine cP ?_ ?_<;>intro h2
   ·refine dr ?_
    rw [if_pos ⟨h1,h2⟩]<;>rfl
   ·have n1:¬ (op.kind=3∧e.dir=true):=by simp [h2]
    have n2:¬ (op.kind=4∧e.dir=false):=by omega
    rw [if_neg n1,if_neg n2]
    refine dr ?_
    refine cP ?_ ?_<;>intro h3
    ·omega
    ·refine dEr ?_
     repeat (refine c0 (zfG W0 _ _ ht) rfl ?_; first | refine dEr ?_ | exact dz)
     refine cP ?_ ?_<;>intro h4
     ·refine dr ?_
      rw [if_pos (by omega)]<;>rfl
     ·refine dr ?_
      rw [if_neg (by omega)]<;>rfl
  ·have n1:¬ (op.kind=3∧e.dir=true):=fun h=>h1 h.1
   rw [if_neg n1]
   refine dr ?_
   refine cP ?_ ?_<;>intro h3
   ·refine dr ?_
    refine cP ?_ ?_<;>intro h2
    ·refine dr ?_
     rw [if_pos ⟨h3,by simpa using h2⟩]<;>rfl
    ·rw [if_neg (fun h=>by rw [h.2] at h2; simp at h2)]
     refine dEr ?_
     repeat (refine c0 (zfG W0 _ _ ht) rfl ?_; first | refine dEr ?_ | exact dz)
     refine cP ?_ ?_<;>intro h4
     ·refine dr ?_
      rw [if_pos (by omega)]<;>rfl
     ·refine dr ?_
      rw [if_neg (by omega)]<;>rfl
   ·rw [if_neg (fun h=>h3 h.1)]
    refine dEr ?_
    repeat (refine c0 (zfG W0 _ _ ht) rfl ?_; first | refine dEr ?_ | exact dz)
    refine cP ?_ ?_<;>intro h4
    ·refine dr ?_
     rw [if_pos (by omega)]<;>rfl
    ·refine dr ?_
     rw [if_neg (by omega)]<;>rfl
def zaS:XC:=(.s (.r [.ex 3 (.box 1),.m1 4 (.i 0)]) (.s (.r [.mv 14 0,.f1 15 1 3,.l1 16 1 15,.c1 17 121 [14,16],.mv 13 17,.e1 18 13 0,.e1 19 13 1,.ex 5 (.alloc [sE,(B false),sE]),.s1 3 5 18,.mv 6 19]) (.s (.r [.mv 20 0,.f1 21 2 3,.l1 22 1 21,.c1 23 234 [20,22],.mv 7 23]) (.s (.r [.mv 25 0,.f1 26 2 3,.l1 27 1 26,.c1 28 121 [25,27],.mv 24 28,.e1 29 24 0,.e1 30 24 1,.ex 8 (.alloc [sE,(B false),sE]),.s1 3 8 29,.mv 9 30]) (.s (.blk 0 (.s (.r [.mv 32 6,.ex 33 (.un .not 32),.mv 31 33]) (.cnd 31 (.s (.r [.m1 4 (.i 2)]) .ret) (.s (.r [.mv 35 7,.b1 36 .neq 35 (.i 0),.mv 34 36]) (.cnd 34 (.s (.r [.mv 37 7,.mv 4 37]) .ret) (.s (.r [.mv 39 9,.mv 38 39]) (.cnd 38 (.s (.r [.m1 4 (.i 4)]) .ret) (.s (.r [.f1 41 2 3,.l1 42 1 41,.f1 43 1 3,.l1 44 1 43,.c1 45 235 [42,44],.mv 40 45]) (.cnd 40 (.s (.r [.m1 4 (.i 7)]) .ret) .skip))))))))) (.s (.s (.r [.m1 10 (.i 0)]) (.blk 1 (.loop (.s (.s (.r [.mv 46 10,.mv 47 0,.n1 48 47,.b1 49 .lss 46 48]) (.cnd 49 .skip (.exit 1))) (.s (.blk 2 (.s (.d [.mv 53 0,.mv 54 10,.i1 55 3 53 54,.f1 56 0 55,.l1 57 1 56,.f1 58 1 3,.l1 59 1 58,.f1 60 2 3,.l1 61 1 60,.c1 62 236 [57,59,61],.mv 52 62,.e1 63 52 0,.e1 64 52 1,.mv 11 63,.mv 12 64]) (.s (.r [.mv 65 12,.ex 66 (.un .not 65)]) (.cnd 66 (.s (.r [.m1 4 (.i 8)]) .ret) .skip)))) (.r [.mv 50 10,.b1 51 .add 50 (.i 1),.mv 10 51])))))) (.s (.r [.m1 4 (.i 0)]) .ret)))))))
theorem zaT:compF Tryz.prog [] 201=some (zaS.ac,[(.t 4)],67):=by kernel_rfl
theorem zfI (W0:World) (t:List Ent) (op:Op) (ht:t.length≤1000000):Fn Tryz.prog W0 201 [eEnts t,eOp op] (.c (CI (movC t op))) []:=by
 refine fnX (c:=zaS) mixed zaT (by simp) rfl fun hg=>?_
 have hc:=jp W0 t op.path
 rw [zJ] at hc
 have hc2:=jp W0 t op.dest
 rw [zJ] at hc2
 refine dEr ?_
 repeat ((first | refine c0 hc rfl ?_ | refine c0 hc2 rfl ?_ | refine c0 (zfR W0 _ _) rfl ?_); first | refine dEr ?_ | exact dz)
 refine cP ?_ ?_<;>intro h1
 rotate_left
 ·have h1':(get t op.path).isSome=true:=by simpa using h1
  refine dr ?_
  refine cP ?_ ?_<;>intro h2
  ·refine dr ?_
   rw [movC,if_neg (by simp [h1']),if_pos h2]
  have h2':¬ upC t op.dest≠0:=fun h=>h h2
  refine dr ?_
  refine cP ?_ ?_<;>intro h3
  ·refine dr ?_
   rw [movC,if_neg (by simp [h1']),if_neg h2',if_pos h3]<;>rfl
  refine dEr ?_
  repeat (refine c0 (zfA W0 _ _) rfl ?_; first | refine dEr ?_ | exact dz)
  refine cP ?_ ?_<;>intro h4
  ·refine dr ?_
   rw [movC,if_neg (by simp [h1']),if_neg h2',if_neg (by simp [h3]),if_pos h4]<;>rfl
  have e:movC t op=if t.all (fun e=>(pMove e.path op.path op.dest).isSome)=true then 0 else 8:=by rw [movC,if_neg (by simp [h1']),if_neg h2',if_neg (by simp [h3]),if_neg (by simp [h4])]
  rw [e]
  refine dr ?_
  refine lp (σ:=Nat) (fun k=>[(0,.c (eEnts t)),(3,.ptr 48 0),(10,I k)]) (fun _=>[(48,.box [.c (CI op.kind),.c (CS op.path),.c (CS op.dest),.c (CS op.data)])]) (fun k=>k≤t.length∧(t.take k).all (fun e=>(pMove e.path op.path op.dest).isSome)=true) (fun k=>t.length - k) 0 ⟨by simp,by simp⟩ ?_ ?_
  ·refine dr ?_
   trivial
  rintro k ⟨hk,ha⟩
  refine dr ?_
  refine cP ?_ ?_<;>intro h5
  ·have hk':k < t.length:=by omega
   have hp:=zgT W0 t[k].path op.path op.dest
   rw [zd3] at hp
   refine dEr ?_
   repeat (refine c0 hp rfl ?_; first | refine dEr ?_ | exact dz)
   refine cP ?_ ?_<;>intro h6
   ·refine dr ?_
    rw [if_neg (by rw [zf hk' (by simpa using h6)]; simp)]<;>rfl
   ·refine dr ?_
    refine ⟨k+1,⟨by omega,y4 hk' ha (by simpa using h6)⟩,by omega,?_⟩
    refine dr ?_
    trivial
  ·have hkl:k=t.length:=by omega
   rw [hkl,List.take_length] at ha
   refine dr ?_
   rw [if_pos ha]<;>rfl
 ·refine dr ?_
  rw [movC,if_pos (by simpa using h1)]<;>rfl
def zaD:XC:=(.s (.r [.ex 3 (.box 1),.m1 4 (.i 0)]) (.s (.s (.r [.f1 5 0 3,.l1 6 1 5]) (.blk 0 (.s (.r [.b1 8 .eql 6 (.i 1),.mv 7 8]) (.cnd 7 (.s (.r [.mv 9 0,.f1 10 1 3,.l1 11 1 10,.c1 12 199 [9,11],.mv 4 12]) .ret) (.s (.r [.b1 14 .eql 6 (.i 2),.mv 13 14]) (.cnd 13 (.s (.r [.mv 15 0,.f1 16 1 3,.l1 17 1 16,.c1 18 200 [15,17],.mv 4 18]) .ret) (.s (.r [.b1 20 .eql 6 (.i 5),.mv 19 20]) (.cnd 19 (.s (.r [.mv 21 0,.l2 22 4 3,.c1 23 201 [21,22],.mv 4 23]) .ret) .skip)))))))) (.s (.r [.mv 24 0,.l2 25 4 3,.c1 26 202 [24,25],.mv 4 26]) .ret)))
theorem zaE:compF Tryz.prog [] 166=some (zaD.ac,[(.t 4)],27):=by kernel_rfl
theorem zfC (W0:World) (t:List Ent) (op:Op) (ht:t.length≤1000000):Fn Tryz.prog W0 166 [eEnts t,eOp op] (.c (CI (codeT t op))) []:=by
 refine fnX (c:=zaD) mixed zaE (by simp) rfl fun hg=>?_
 refine dr ?_
 refine cP ?_ ?_<;>intro h1
 ·refine dEr ?_
  repeat (refine c0 (zfJ W0 _ _) rfl ?_; first | refine dEr ?_ | exact dz)
  rw [codeT,if_pos h1]
 refine dr ?_
 refine cP ?_ ?_<;>intro h2
 ·refine dEr ?_
  repeat (refine c0 (zfN W0 _ _) rfl ?_; first | refine dEr ?_ | exact dz)
  rw [codeT,if_neg h1,if_pos h2]
 refine dr ?_
 refine cP ?_ ?_<;>intro h3
 ·refine dEr ?_
  repeat (refine c0 (zfI W0 _ op ht) rfl ?_; first | refine dEr ?_ | exact dz)
  rw [codeT,if_neg h1,if_neg h2,if_pos h3]
 refine dEr ?_
 repeat (refine c0 (zfL W0 _ op ht) rfl ?_; first | refine dEr ?_ | exact dz)
 rw [codeT,if_neg h1,if_neg h2,if_neg h3]

def zaX:XC:=(.s (.r [.ex 4 (.asn (.k .nil) 3 39)]) (.s (.r [.ex 7 .bsl0,.a1 5 7 3 39]) (.s (.s (.r [.m1 6 (.i 0)]) (.blk 0 (.loop (.s (.s (.r [.mv 8 6,.mv 9 0,.n1 10 9,.b1 11 .lss 8 10]) (.cnd 11 .skip (.exit 0))) (.s (.blk 1 (.s (.r [.mv 14 0,.mv 15 6,.i1 16 3 14 15,.f1 17 0 16,.l1 18 1 17,.mv 19 1,.b1 20 .neq 18 19]) (.cnd 20 (.r [.mv 21 5,.mv 22 0,.mv 23 6,.i1 24 3 22 23,.l2 25 3 24,.ex 26 (.bsl 3 39 [25]),.ex 27 (.app false 3 40 39 21 26),.a1 5 27 3 39]) .skip))) (.r [.mv 12 6,.b1 13 .add 12 (.i 1),.mv 6 13])))))) (.s (.r [.mv 28 5,.a1 4 28 3 39]) .ret))))
theorem za0:compF Tryz.prog [] 204=some (zaX.ac,[(.t 4)],29):=by kernel_rfl
theorem zfK (W0:World) (t:List Ent) (p:Str) (ht:t.length≤1000000):Fn Tryz.prog W0 204 [eEnts t,CS p] (.c (eEnts (offT t p))) []:=by
 refine fnX (c:=zaX) mixed za0 (by simp) rfl fun hg=>?_
 refine dr ?_
 refine lp2 (fun (k:Nat) (out:List Ent)=>[(0,.c (eEnts t)),(1,.c (CS p)),(5,.own 80 out.length),(6,I k)]) (fun _ out=>[(80,.row (out.map eEnt) 3 39)]) (fun k out=>k≤t.length∧out=(t.take k).filter (fun e=>e.path != p)∧out.length≤k) (fun k _=>t.length - k) 0 [] ⟨by simp,rfl,by simp⟩ ?_ ?_
 ·refine dr ?_
  trivial
 rintro k out ⟨hk,ho,hle⟩
 refine dr ?_
 refine cP ?_ ?_<;>intro h1
 ·have hk':k < t.length:=by omega
  refine dr ?_
  refine cP ?_ ?_<;>intro h2
  ·refine dr ?_
   repeat ((first | refine oB (by simp; omega) ?_ | refine oB (by simp) ?_); first | refine dr ?_ | exact dz)
   refine ⟨k+1,out++[t[k]],⟨by omega,by rw [jI hk' (by simp [h2]),ho],by simp; omega⟩,by omega,?_⟩
   refine dr ?_
   repeat (refine oB (by simp<;>rfl) ?_; first | refine dr ?_ | exact dz)
   trivial
  ·refine dr ?_
   refine ⟨k+1,out,⟨by omega,by rw [jH hk' (by simp [h2]),ho],by omega⟩,by omega,?_⟩
   refine dr ?_
   trivial
 have hkl:k=t.length:=by omega
 rw [hkl,List.take_length] at ho
 refine dr ?_
 repeat (refine oB (by simp) ?_; first | refine dr ?_ | exact dz)
 rw [offT,← ho]<;>rfl
def zaR:XC:=(.s (.r [.ex 6 (.asn (.k .nil) 3 39)]) (.s (.r [.ex 10 .bsl0,.a1 7 10 3 39]) (.s (.s (.r [.m1 8 (.i 0)]) (.blk 0 (.loop (.s (.s (.r [.mv 11 8,.mv 12 0,.n1 13 12,.b1 14 .lss 11 13]) (.cnd 14 .skip (.exit 0))) (.s (.blk 1 (.s (.r [.mv 17 0,.mv 18 8,.i1 19 3 17 18,.l2 20 3 19,.ex 9 (.alloc [sE,(B false),sE]),.s1 3 9 20]) (.s (.r [.f1 22 0 9,.l1 23 1 22,.mv 24 1,.mv 25 2,.c1 26 236 [23,24,25],.mv 21 26,.e1 27 21 0,.e1 28 21 1,.f1 29 0 9,.s1 1 29 27]) (.r [.mv 30 7,.l2 31 3 9,.c1 32 178 [30,31],.a1 7 32 3 39])))) (.r [.mv 15 8,.b1 16 .add 15 (.i 1),.mv 8 16])))))) (.s (.r [.mv 33 7,.a1 6 33 3 39]) .ret))))
theorem zaU:compF Tryz.prog [] 203=some (zaR.ac,[(.t 6)],34):=by kernel_rfl
theorem zfH (W0:World) (t:List Ent) (f to:Str) (ht:t.length≤1000000):Fn Tryz.prog W0 203 [eEnts t,CS f,CS to] (.c (eEnts (movT t f to))) []:=by
 refine fnX (c:=zaR) mixed zaU (by simp) rfl fun hg=>?_
 refine dr ?_
 refine lz2 112 (fun (k:Nat) (out:List Ent)=>[(0,.c (eEnts t)),(1,.c (CS f)),(2,.c (CS to)),(7,.c (eEnts out)),(8,I k)]) (fun _ _=>[]) (fun k out=>k≤t.length∧out=(t.take k).foldl (fun out e=>put out (movE f to e)) []∧out.length≤k) (fun k _=>t.length - k) 0 [] ⟨by simp,rfl,by simp⟩ ?_ ?_
 ·refine dr ?_
  trivial
 rintro k out ⟨hk,ho,hle⟩
 refine dr ?_
 refine cP ?_ ?_<;>intro h1
 ·have hk':k < t.length:=by omega
  have hn:(t.take (k+1)).foldl (fun out e=>put out (movE f to e)) []=put out (movE f to t[k]):=by rw [jV hk',← ho]
  have hpl:(put out (movE f to t[k])).length≤out.length+1:=yz
  have hp:=zgT W0 t[k].path f to
  rw [zd3] at hp
  refine dEr ?_
  repeat ((first | refine c0 hp rfl ?_ | refine c0 (jq W0 _ (movE f to t[k]) (by omega)) rfl ?_); first | refine dEr ?_ | exact dz)
  refine ⟨k+1,_,⟨by omega,hn.symm,by omega⟩,by omega,?_⟩
  refine dr ?_
  trivial
 have hkl:k=t.length:=by omega
 rw [hkl,List.take_length] at ho
 refine dr ?_
 rw [movT,← ho]
def zaJ:XC:=(.s (.r [.ex 3 (.box 1),.ex 4 (.asn (.k .nil) 3 39)]) (.s (.s (.r [.f1 5 0 3,.l1 6 1 5]) (.blk 0 (.s (.r [.b1 8 .eql 6 (.i 1),.mv 7 8]) (.cnd 7 (.s (.r [.mv 9 0,.f1 10 1 3,.l1 11 1 10,.ex 12 (.build [sE,(B false),sE] [(0,(1,11)),(1,(1,.y))]),.c1 13 178 [9,12],.a1 4 13 3 39]) .ret) (.s (.r [.b1 15 .eql 6 (.i 2),.mv 14 15]) (.cnd 14 (.s (.r [.mv 16 0,.f1 17 1 3,.l1 18 1 17,.f1 19 3 3,.l1 20 1 19,.ex 21 (.build [sE,(B false),sE] [(0,(1,18)),(2,(1,20))]),.c1 22 178 [16,21],.a1 4 22 3 39]) .ret) (.s (.r [.b1 24 .eql 6 (.i 5),.mv 23 24]) (.cnd 23 (.s (.r [.mv 25 0,.f1 26 1 3,.l1 27 1 26,.f1 28 2 3,.l1 29 1 28,.c1 30 203 [25,27,29],.a1 4 30 3 39]) .ret) .skip)))))))) (.s (.r [.mv 31 0,.f1 32 1 3,.l1 33 1 32,.c1 34 204 [31,33],.a1 4 34 3 39]) .ret)))
theorem zaK:compF Tryz.prog [] 167=some (zaJ.ac,[(.t 4)],35):=by kernel_rfl
theorem zfE (W0:World) (t:List Ent) (op:Op) (ht:t.length≤100000):Fn Tryz.prog W0 167 [eEnts t,eOp op] (.c (eEnts (doT t op))) []:=by
 refine fnX (c:=zaJ) mixed zaK (by simp) rfl fun hg=>?_
 refine dr ?_
 refine cP ?_ ?_<;>intro h1
 ·refine dEr ?_
  repeat (refine c0 (jq W0 _ ⟨op.path,true,[]⟩ (by omega)) rfl ?_; first | refine dEr ?_ | exact dz)
  rw [doT,if_pos h1]
 refine dr ?_
 refine cP ?_ ?_<;>intro h2
 ·refine dEr ?_
  repeat (refine c0 (jq W0 _ ⟨op.path,false,op.data⟩ (by omega)) rfl ?_; first | refine dEr ?_ | exact dz)
  rw [doT,if_neg h1,if_pos h2]
 refine dr ?_
 refine cP ?_ ?_<;>intro h3
 ·refine dEr ?_
  repeat (refine c0 (zfH W0 _ _ _ (by omega)) rfl ?_; first | refine dEr ?_ | exact dz)
  rw [doT,if_neg h1,if_neg h2,if_pos h3]
 refine dEr ?_
 repeat (refine c0 (zfK W0 _ _ (by omega)) rfl ?_; first | refine dEr ?_ | exact dz)
 rw [doT,if_neg h1,if_neg h2,if_neg h3]
def zad:XC:=(.s (.r [.ex 3 (.box 1),.ex 4 (.asn (.k .nil) 3 39),.m1 5 (.i 0)]) (.s (.s (.r [.mv 7 0,.c1 8 119 [7],.ex 9 (.un .not 8)]) (.cnd 9 (.s (.r [.ex 10 .bsl0,.a1 4 10 3 39,.m1 5 (.i 1)]) .ret) .skip)) (.s (.s (.r [.l2 11 4 3,.c1 12 165 [11],.ex 13 (.un .not 12)]) (.cnd 13 (.s (.r [.ex 14 .bsl0,.mv 15 0,.ex 16 (.app true 3 40 39 14 15),.a1 4 16 3 39,.m1 5 (.i 1)]) .ret) .skip)) (.s (.r [.mv 17 0,.l2 18 4 3,.c1 19 166 [17,18],.mv 6 19]) (.s (.s (.r [.mv 20 6,.b1 21 .neq 20 (.i 0)]) (.cnd 21 (.s (.r [.ex 22 .bsl0,.mv 23 0,.ex 24 (.app true 3 40 39 22 23),.mv 25 6,.a1 4 24 3 39,.mv 5 25]) .ret) .skip)) (.s (.r [.mv 26 0,.l2 27 4 3,.c1 28 167 [26,27],.mv 29 6,.a1 4 28 3 39,.mv 5 29]) .ret))))))
theorem zae:compF Tryz.prog [] 107=some (zad.ac,[(.t 4),(.t 5)],30):=by kernel_rfl
theorem jE (W0:World) (t:List Ent) (op:Op):Fn Tryz.prog W0 107 [eEnts t,eOp op] (.c (eTD (treeDo t op))) []:=by
 refine fnX (c:=zad) mixed zae (by simp) rfl fun hg=>?_
 refine dEr ?_
 repeat (refine c0 (zgV W0 _) rfl ?_; first | refine dEr ?_ | exact dz)
 refine cP ?_ ?_<;>intro h1
 ·refine dr ?_
  repeat (refine oB (by simp) ?_; first | refine dr ?_ | exact dz)
  rw [treeDo,if_neg (by simp [h1])]<;>rfl
 have hl:=(yZ h1).1
 rw [treeDo,if_pos h1]
 refine dEr ?_
 repeat (refine c0 (zgP W0 op) rfl ?_; first | refine dEr ?_ | exact dz)
 refine cP ?_ ?_<;>intro h2
 ·refine dr ?_
  repeat ((first | refine oB (by simp; omega) ?_ | refine oB (by simp) ?_); first | refine dr ?_ | exact dz)
  rw [if_neg (by simp [h2])]<;>rfl
 rw [if_pos h2]
 refine dEr ?_
 repeat (refine c0 (zfC W0 t op (by omega)) rfl ?_; first | refine dEr ?_ | exact dz)
 refine cP ?_ ?_<;>intro h3
 ·refine dr ?_
  repeat ((first | refine oB (by simp; omega) ?_ | refine oB (by simp) ?_); first | refine dr ?_ | exact dz)
  rw [if_neg h3]<;>rfl
 ·refine dEr ?_
  repeat (refine c0 (zfE W0 t op (by omega)) rfl ?_; first | refine dEr ?_ | exact dz)
  rw [if_pos h3,h3]<;>rfl
end Go.Proofs.YteheahbjaddooaaGreatDoor
