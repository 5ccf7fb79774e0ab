/- The texts Am1, Pa1, Pa2, Pa3, Qa1, Qa2, Shelf, Sh1, Bm1, Ib1, Sh2, Qa3, Qa4, Qa5, Qa6, Sh3, Ib2, Ib3, Ib4, Bm2, Qa9, Ib5, Pa4, Qa7, Ib6, Qa8, Pa5, Pb1, joined; no condition. -/
import Derived.Test.YtmkmldepkponaaaGreatDoorWaB
import Derived.Shelf.Strings.Builder1
import Derived.Shelf.Strings.Builder2
import Derived.Shelf.Strings.OnBuilder
import Derived.Shelf.Small.Bits
import Derived.Shelf.Utf8.RuneCount
import Derived.Shelf.Strconv.Itoa0
import Derived.Shelf.Strings.Search1
import Derived.Shelf.Strings.Search2
import Derived.Shelf.Strings.Search3
import Derived.Shelf.Strings.Count
import Derived.Shelf.LaysM
import Derived.Shelf.Strings.Shaped
import Derived.Shelf.Strings.Split
import Derived.Shelf.Strings.SplitShaped
import Derived.Shelf.Unicode.Decode
import Derived.Shelf.Strings.RuneCount
import Derived.Shelf.Strings.Explode
import Derived.Shelf.Unicode.DecodeSlow
import Derived.Shelf.Unicode.DecodeAny
import Derived.Shelf.SlGeneric
import Derived.Shelf.SlSortCmp.NoneTotal
import Derived.Ground.SlsfProg
import Derived.Test.YtmkmldepkponaaaGreatDoorProg
import Derived.Shelf.SlSortCmp.WholeK
import Derived.Laws.Cover1

namespace Go.Proofs.YtmkmldepkponaaaGreatDoor
set_option linter.unusedSimpArgs false
set_option linter.unusedVariables false
open Go Go.RowKit
abbrev AO.mv (d s:Nat):AO:=⟨some d,.mv (.t s),none,false,[]⟩
abbrev AO.ex (d:Nat) (o:AOp):AO:=⟨some d,o,none,false,[]⟩
abbrev AO.nu (o:AOp):AO:=⟨none,o,none,false,[]⟩
abbrev AO.gt (d:Nat) (o:AOp) (g:Nat):AO:=⟨some d,o,some (g,true),false,[]⟩
instance (n:Nat):OfNat AX n:=⟨.t n⟩
abbrev sE:PV := .c (.sc (.string ⟨#[]⟩))
abbrev AO.l1 (d n:Nat) (a:AX):AO:=⟨some d,.ld false n a,none,false,[]⟩
abbrev AO.l2 (d n:Nat) (a:AX):AO:=⟨some d,.ld true n a,none,false,[]⟩
abbrev AO.b1 (d:Nat) (o:BinOp) (x y:AX):AO:=⟨some d,.bin o x y,none,false,[]⟩
abbrev AO.f1 (d k:Nat) (x:AX):AO:=⟨some d,.fa k x,none,false,[]⟩
abbrev AO.c1 (d f:Nat) (xs:List AX):AO:=⟨some d,.call f xs,none,false,[]⟩
abbrev AO.n1 (d:Nat) (x:AX):AO:=⟨some d,.len false x,none,false,[]⟩
abbrev AO.e1 (d:Nat) (x:AX) (i:Nat):AO:=⟨some d,.ext x i,none,false,[]⟩
abbrev AO.a1 (d:Nat) (x:AX) (z e:Nat):AO:=⟨some d,.asn x z e,none,false,[]⟩
abbrev AO.i1 (d s:Nat) (x i:AX):AO:=⟨some d,.ia s x i,none,false,[]⟩
abbrev AO.s1 (n:Nat) (a v:AX):AO:=⟨none,.st n a v,none,false,[]⟩
abbrev AO.o1 (d f:Nat) (xs:List AX):AO:=⟨some d,.opn f xs,none,false,[]⟩
abbrev AO.m1 (d:Nat) (x:AX):AO:=⟨some d,.mv x,none,false,[]⟩
abbrev AO.g1 (d k:Nat) (x:AX) (g:Nat):AO:=⟨some d,.fa k x,some (g,true),false,[]⟩
abbrev AO.g2 (d n:Nat) (x:AX) (g:Nat):AO:=⟨some d,.ld false n x,some (g,true),false,[]⟩
abbrev AO.g3 (d:Nat) (x:AX) (g:Nat):AO:=⟨some d,.mv x,some (g,true),false,[]⟩
abbrev AO.h1 (d k:Nat) (x:AX) (g:Nat):AO:=⟨some d,.fa k x,some (g,false),false,[]⟩
abbrev AO.h2 (d n:Nat) (x:AX) (g:Nat):AO:=⟨some d,.ld false n x,some (g,false),false,[]⟩
abbrev AO.h3 (d:Nat) (x:AX) (g:Nat):AO:=⟨some d,.mv x,some (g,false),false,[]⟩
abbrev AO.p1 (d:Nat) (c b:AX):AO:=⟨some d,.pick c (.k (.c (.sc (.bool true)))) b,none,false,[]⟩
abbrev AO.p2 (d:Nat) (c a:AX):AO:=⟨some d,.pick c a (.k (.c (.sc (.bool false)))),none,false,[]⟩
abbrev AO.u1 (d:Nat) (x:AX):AO:=⟨some d,.un .not x,none,false,[]⟩
abbrev AO.x1 (d:Nat) (x:AX):AO:=⟨some d,.box x,none,false,[]⟩
abbrev AO.k1 (d:Nat) (x:AX):AO:=⟨some d,.nck x,none,false,[]⟩
abbrev AO.a2 (d z e:Nat):AO:=⟨some d,.asn (.k .nil) z e,none,false,[]⟩
abbrev zE:List PV:=[sE,B false,sE]
abbrev XC.ic (a b i:Nat):XC := .reg true [⟨some a,.mv (.t i),none,false,[]⟩,⟨some b,.bin .add (.t a) (.k (.c (.sc (.int .i64 1)))),none,false,[]⟩,⟨some i,.mv (.t b),none,false,[]⟩]
abbrev XC.ce (c i:Nat):XC := .cnd (.t c) .skip (.exit i)
abbrev XC.rf (d:Nat):XC := .seq (.reg true [⟨some d,.mv (.k (.c (.sc (.bool false)))),none,false,[]⟩]) .ret
abbrev XC.rt (d:Nat):XC := .seq (.reg true [⟨some d,.mv (.k (.c (.sc (.bool true)))),none,false,[]⟩]) .ret
abbrev AO.gf (d:Nat) (o:AOp) (g:Nat):AO:=⟨some d,o,some (g,false),false,[]⟩
abbrev AO.exl (d:Nat) (o:AOp):AO:=⟨some d,o,none,true,[]⟩
abbrev AX.i (n:Int):AX := .k (.c (.sc (.int .i64 n)))
abbrev AX.u (n:Int):AX := .k (.c (.sc (.int .u8 n)))
abbrev AX.y:AX := .k (.c (.sc (.bool true)))
abbrev AX.n:AX := .k (.c (.sc (.bool false)))
abbrev AX.s (l:Str):AX := .k (.c (.sc (.string ⟨⟨l⟩⟩)))
abbrev XC.s (a b:XC):XC := .seq a b
abbrev XC.r (l:List AO):XC := .reg true l
abbrev XC.d (l:List AO):XC := .reg false l
class BP (b:Bool) (p n:outParam Prop):Prop where
 t:b=true→p
 f:b=false→n
instance (priority:=low) (b:Bool):BP b (b=true) (b=false):=⟨id,id⟩
instance (a b:Int):BP (ltI a b) (a < b) (b≤a):=⟨zcP.1,zj0.1⟩
instance (a b:Int):BP (leI a b) (a≤b) (b < a):=⟨zcJ.1,zjU.1⟩
instance (a b:Int):BP (eqI a b) (a=b) (a≠b):=⟨Qr.1,YD.1⟩
instance (a b:Str):BP (eqS a b) (a=b) (a≠b):=⟨ZG.1,zik.1⟩
instance (a b:Bool):BP (eqB a b) (a=b) (a≠b):=⟨ZE.1,YB.1⟩
instance (p:Prop) [Decidable p]:BP (decide p) p (¬ p):=⟨of_decide_eq_true,of_decide_eq_false⟩
instance (b:Bool) (p n:Prop) [h:BP b p n]:BP (!b) n p:=⟨fun e=>h.f (by simpa using e),fun e=>h.t (by simpa using e)⟩
theorem cP {b:Bool} {p n A B:Prop} [h:BP b p n] (h1:p→A) (h2:n→B):cndX b A B:=zh6 (fun e=>h1 (h.t e)) fun e=>h2 (h.f e)
theorem oB {p A:Prop} (h:p) (k:A):Ob p A:=⟨h,k⟩
section
variable {α β:Type} {f:α→β} {L:List α}
theorem lM {K:Nat→Prop} (h:K L.length):LenX (L.map f) K:=⟨_,by simp,h⟩
theorem lmp:(L.map f).length=L.length:=List.length_map _
theorem lA {K:Nat→Prop} (h:K L.length):LenX L K:=⟨_,rfl,h⟩
theorem aM {k:Int} {j:Nat} {K:β→Prop} (hk:k=(j:Int)) (hj:j < L.length) (h:K (f L[j])):AtX k (L.map f) K:=⟨j,hk,f L[j],by simp [hj],h⟩
theorem aA {k:Int} {j:Nat} {K:α→Prop} (hk:k=(j:Int)) (hj:j < L.length) (h:K L[j]):AtX k L K:=⟨j,hk,L[j],by simp [hj],h⟩
theorem nC {j:Nat} {K:Nat→Prop} (h:K j):NatX (j:Int) K:=⟨j,rfl,h⟩
theorem sLo {k:Int} (l:Nat) {K:List α→Prop} (e:k=(l:Int)) (hl:l≤L.length) (h:K (L.drop l)):SubX L (some k) none K :=
 ⟨l,L.length,e,rfl,hl,Nat.le_refl _,by simpa using h⟩
theorem sHi {k:Int} (l:Nat) {K:List α→Prop} (e:k=(l:Int)) (hl:l≤L.length) (h:K (L.take l)):SubX L none (some k) K :=
 ⟨0,l,rfl,e,Nat.zero_le _,hl,by simpa using h⟩
theorem sBo {i k:Int} (l r:Nat) {K:List α→Prop} (e:i=(l:Int)) (e':k=(r:Int)) (hl:l≤r) (hr:r≤L.length) (h:K ((L.take r).drop l)):SubX L (some i) (some k) K :=
 ⟨l,r,e,e',hl,hr,h⟩
theorem sLoM {k:Int} (l:Nat) {K:List β→Prop} (e:k=(l:Int)) (hl:l≤L.length) (h:K ((L.drop l).map f)):SubX (L.map f) (some k) none K :=
 sLo l e (by simpa using hl) (by simpa [List.map_drop] using h)
theorem sHiM {k:Int} (l:Nat) {K:List β→Prop} (e:k=(l:Int)) (hl:l≤L.length) (h:K ((L.take l).map f)):SubX (L.map f) none (some k) K :=
 sHi l e (by simpa using hl) (by simpa [List.map_take] using h)
end
theorem zM {α:Type} {f:α→CV} {L:List α} {sz:Nat} (h:∀ a,(f a).cells.length=sz):Zu sz (L.map f):=fun x hx=>by
 obtain ⟨a,_,rfl⟩:=List.mem_map.1 hx; exact h a
theorem zN {sz:Nat}:Zu sz []:=fun _ h=>by cases h
theorem zC {sz:Nat} {x:CV} {L:List CV} (h:x.cells.length=sz) (hl:Zu sz L):Zu sz (x::L):=fun y hy=>by
 rcases List.mem_cons.1 hy with rfl | hy
 ·exact h
 ·exact hl y hy
theorem oA {p A:Prop} (k:A) (h:p:=by first|omega|rfl|exact zM fun _=>rfl|exact lmp|exact zC rfl zN|exact ⟨by omega,by omega⟩|exact congrArg I (by omega)):Ob p A:=⟨h,k⟩
theorem lF {α:Type} {x:α} {K:Nat→Prop} (h:K 1):LenX [x] K:=⟨1,rfl,h⟩
structure Hid (Q:Prop):Prop where
 out:Q
theorem dr {P Q:Prop} (q:Q) (h:Hid Q→P:=by intro q; (conv=>whnf); (repeat ((first|refine oA ?_|refine lM ?_|refine lF ?_|refine lA ?_|refine aM rfl (by omega) ?_|refine aA rfl (by omega) ?_|refine aA (j:=0) rfl (by omega) ?_|refine nC ?_); conv=>whnf)); exact q.out):P:=h ⟨q⟩
theorem dI {P Q:Prop} (h:Q):P→Q:=fun _=>h
theorem dEr {P Q:Prop} (q:Q) (h:Hid Q→P:=by intro q; (conv=>whnf); (repeat ((first|refine oA ?_|refine lM ?_|refine lF ?_|refine lA ?_|refine aM rfl (by omega) ?_|refine aA rfl (by omega) ?_|refine aA (j:=0) rfl (by omega) ?_|refine nC ?_|refine dI ?_); conv=>whnf)); exact q.out):P:=h ⟨q⟩
theorem dz {P:Prop} (h:P:=by (conv=>whnf); (repeat ((first|refine oA ?_|refine lM ?_|refine lF ?_|refine lA ?_|refine aM rfl (by omega) ?_|refine aA rfl (by omega) ?_|refine aA (j:=0) rfl (by omega) ?_|refine nC ?_|refine dI ?_); conv=>whnf))):P:=h
theorem fX {P:Program} {W0:World} {f:FuncId} {c:XC} {on:List FuncId} {ars:List AR} {n:Nat} {args:List CV} {r:CV} {F:Fr} (hm:P.follows .mixedOrders=true)
  (hc:zh P on f=some (c.ac,ars,n)) (h:(∀ x∈args,Good x)→xwp P W0 [] c (finC ars r) (fun _ _ _=>False) (finC ars r) F []) (hn:args.length≤n:=by simp) (hF:argF 0 (args.map .c)=F:=by rfl):Fn P W0 f args (.c r) []:=fnX hm hc hn hF h
theorem fW {P:Program} {W0:World} {f:FuncId} {c:XC} {on:List FuncId} {ars:List AR} {n:Nat} {args:List PV} {m:XM} {α:Type} {ok:α→Prop} {R:α→PV} {M:α→XM} {F:Fr} {k0:List Nat} (hm:P.follows .mixedOrders=true)
  (hc:zh P on f=some (c.ac,ars,n))
  (h:(∀ x∈args,qH x)→xwp P W0 k0 c (finX k0 ars fun r mx=>∃ a,ok a∧r=R a∧mx=M a) (fun _ _ _=>False) (finX k0 ars fun r mx=>∃ a,ok a∧r=R a∧mx=M a) F m)
  (hn:args.length≤n:=by simp) (hF:argF 0 args=F:=by rfl) (hk:m.map (·.1)=k0:=by rfl):zI P W0 f args m ok R M:=funW hm hc hn hF hk h
theorem c0 {P:Program} {W0:World} {f:FuncId} {cs:List CV} {r:PV} {own:Bool} {K:PV→XM→Prop} (hf:Fn P W0 f cs r []) (ho:(own||rlP r)=true) (k:K r []):CallX P W0 f cs own K :=
 ⟨r,[],hf,by cases own with | true=>exact .inl rfl | false=>exact .inr ⟨ho,rfl⟩,k⟩
theorem lp {k0:List Nat} {body:(Fr→XM→Prop)→Fr→XM→Prop} {F:Fr} {m:XM} {σ:Type} (fr:σ→Fr) (mm:σ→XM) (inv:σ→Prop) (me:σ→Nat) (x0:σ) (h0:inv x0) (hk:zx k0 none F m (fr x0) (mm x0))
  (hb:∀ x,inv x→body (fun F' m'=>∃ x',inv x'∧me x' < me x∧zx k0 none F' m' (fr x') (mm x')) (fr x) (mm x)):LoopX k0 body F m :=
 ⟨σ,fr,mm,inv,me,none,none,_,⟨x0,h0,hk⟩,fun _ _ _ h=>h,hb⟩
theorem lp2 {k0:List Nat} {body:(Fr→XM→Prop)→Fr→XM→Prop} {F:Fr} {m:XM} {α β:Type} (fr:α→β→Fr) (mm:α→β→XM) (inv:α→β→Prop) (me:α→β→Nat) (a0:α) (b0:β) (h0:inv a0 b0) (hk:zx k0 none F m (fr a0 b0) (mm a0 b0))
  (hb:∀ a b,inv a b→body (fun F' m'=>∃ a' b',inv a' b'∧me a' b' < me a b∧zx k0 none F' m' (fr a' b') (mm a' b')) (fr a b) (mm a b)):LoopX k0 body F m :=
 ⟨α × β,fun x=>fr x.1 x.2,fun x=>mm x.1 x.2,fun x=>inv x.1 x.2,fun x=>me x.1 x.2,none,none,fun x F' m'=>∃ a' b',inv a' b'∧me a' b' < me x.1 x.2∧zx k0 none F' m' (fr a' b') (mm a' b'),
  ⟨(a0,b0),h0,hk⟩,fun _ _ _ ⟨a,b,h⟩=>⟨(a,b),h⟩,fun x h=>hb x.1 x.2 h⟩
theorem lp3 {k0:List Nat} {body:(Fr→XM→Prop)→Fr→XM→Prop} {F:Fr} {m:XM} {α β γ:Type} (fr:α→β→γ→Fr) (mm:α→β→γ→XM) (inv:α→β→γ→Prop) (me:α→β→γ→Nat) (a0:α) (b0:β) (c0:γ) (h0:inv a0 b0 c0) (hk:zx k0 none F m (fr a0 b0 c0) (mm a0 b0 c0))
  (hb:∀ a b c,inv a b c→body (fun F' m'=>∃ a' b' c',inv a' b' c'∧me a' b' c' < me a b c∧zx k0 none F' m' (fr a' b' c') (mm a' b' c')) (fr a b c) (mm a b c)):LoopX k0 body F m :=
 ⟨α × β × γ,fun x=>fr x.1 x.2.1 x.2.2,fun x=>mm x.1 x.2.1 x.2.2,fun x=>inv x.1 x.2.1 x.2.2,fun x=>me x.1 x.2.1 x.2.2,none,none,fun x F' m'=>∃ a' b' c',inv a' b' c'∧me a' b' c' < me x.1 x.2.1 x.2.2∧zx k0 none F' m' (fr a' b' c') (mm a' b' c'),
  ⟨(a0,b0,c0),h0,hk⟩,fun _ _ _ ⟨a,b,c,h⟩=>⟨(a,b,c),h⟩,fun x h=>hb x.1 x.2.1 x.2.2 h⟩
theorem lz {k0:List Nat} {body:(Fr→XM→Prop)→Fr→XM→Prop} {F:Fr} {m:XM} {σ:Type} (z:Nat) (fr:σ→Fr) (mm:σ→XM) (inv:σ→Prop) (me:σ→Nat) (x0:σ) (h0:inv x0) (hk:zx k0 (some z) F m (fr x0) (mm x0))
  (hb:∀ x,inv x→body (fun F' m'=>∃ x',inv x'∧me x' < me x∧zx k0 none F' m' (fr x') (mm x')) (fr x) (mm x)):LoopX k0 body F m :=
 ⟨σ,fr,mm,inv,me,some z,none,_,⟨x0,h0,hk⟩,fun _ _ _ h=>h,hb⟩
theorem lz2 {k0:List Nat} {body:(Fr→XM→Prop)→Fr→XM→Prop} {F:Fr} {m:XM} {α β:Type} (z:Nat) (fr:α→β→Fr) (mm:α→β→XM) (inv:α→β→Prop) (me:α→β→Nat) (a0:α) (b0:β) (h0:inv a0 b0) (hk:zx k0 (some z) F m (fr a0 b0) (mm a0 b0))
  (hb:∀ a b,inv a b→body (fun F' m'=>∃ a' b',inv a' b'∧me a' b' < me a b∧zx k0 none F' m' (fr a' b') (mm a' b')) (fr a b) (mm a b)):LoopX k0 body F m :=
 ⟨α × β,fun x=>fr x.1 x.2,fun x=>mm x.1 x.2,fun x=>inv x.1 x.2,fun x=>me x.1 x.2,some z,none,fun x F' m'=>∃ a' b',inv a' b'∧me a' b' < me x.1 x.2∧zx k0 none F' m' (fr a' b') (mm a' b'),
  ⟨(a0,b0),h0,hk⟩,fun _ _ _ ⟨a,b,h⟩=>⟨(a,b),h⟩,fun x h=>hb x.1 x.2 h⟩
theorem cutp {k0:List Nat} {a:(Fr→XM→Prop)→Fr→XM→Prop} {b:Fr→XM→Prop} {F:Fr} {m:XM} {σ:Type} (fr:σ→Fr) (mm:σ→XM) (inv:σ→Prop)
  (ha:a (fun F' m'=>∃ x,inv x∧zx k0 none F' m' (fr x) (mm x)) F m) (hb:∀ x,inv x→b (fr x) (mm x)):CutX k0 a b F m:=⟨σ,fr,mm,inv,none,_,ha,fun _ _ h=>h,hb⟩
theorem cutz {k0:List Nat} {a:(Fr→XM→Prop)→Fr→XM→Prop} {b:Fr→XM→Prop} {F:Fr} {m:XM} {σ:Type} (z:Nat) (fr:σ→Fr) (mm:σ→XM) (inv:σ→Prop)
  (ha:a (fun F' m'=>∃ x,inv x∧zx k0 (some z) F' m' (fr x) (mm x)) F m) (hb:∀ x,inv x→b (fr x) (mm x)):CutX k0 a b F m:=⟨σ,fr,mm,inv,some z,_,ha,fun _ _ h=>h,hb⟩
theorem jL {α:Type} {f:α→CV} {L:List α} (h:Good (.row (L.map f))):L.length≤9223372036854775807:=by
 cases h with
 | row h _=>simpa [maxLen] using h
theorem goodAgg {cs:List CV} (h:Good (.agg cs)):∀ x∈cs,Good x:=by
 cases h with
 | agg h=>exact h
theorem goodS {s:Str} (h:Good (CS s)):s.length≤9223372036854775807:=by
 cases h with
 | sc h=>simpa [wfv,maxLen,ByteArray.size] using h
structure Ent where
 path:Str
 dir:Bool
 data:Str
deriving DecidableEq
structure Op where
 kind:Int
 path:Str
 dest:Str
 data:Str
deriving DecidableEq
structure Mark where
 path:Str
 kind:Int
 data:Str
deriving DecidableEq
structure Over where
 base:List Ent
 layers:List (List Mark)
 upper:List Mark
deriving DecidableEq
def eEnt (e:Ent):CV := .agg [CS e.path,CB e.dir,CS e.data]
def eOp (o:Op):CV := .agg [CI o.kind,CS o.path,CS o.dest,CS o.data]
def jm (m:Mark):CV := .agg [CS m.path,CI m.kind,CS m.data]
def ze (t:List Ent):CV := .row (t.map eEnt)
def zg (l:List Mark):CV := .row (l.map jm)
def js (l:List (List Mark)):CV := .row (l.map zg)
def zL (o:Over):CV := .agg [ze o.base,js o.layers,zg o.upper]
def eInts (l:List Int):CV := .row (l.map CI)
def jy (l:List Str):CV := .row (l.map CS)
def jD (l:Str):CV := .row (l.map fun b=>CU b.toNat)
theorem dT {p:Prop} [Decidable p] (h:p):CB true=CB (decide p):=by rw [decide_eq_true h]
theorem dF {p:Prop} [Decidable p] (h:¬ p):CB false=CB (decide p):=by rw [decide_eq_false h]
theorem bT {b:Bool} (h:b=true):CB true=CB b:=by rw [h]
theorem bF {b:Bool} (h:b=false):CB false=CB b:=by rw [h]
theorem Zx (a b:Ent):(eqS a.path b.path&&(eqB a.dir b.dir&&(eqS a.data b.data&&true)))=decide (a=b):=by
 cases a; cases b; rw [Bool.eq_iff_iff]; simp [yB,YA]
theorem bqMark (a b:Mark):(eqS a.path b.path&&(eqI a.kind b.kind&&(eqS a.data b.data&&true)))=decide (a=b):=by
 cases a; cases b; rw [Bool.eq_iff_iff]; simp [yB,ZF]
theorem Jb {α:Type} {a b:List α} {k:Nat} (ha:k < a.length) (hb:k < b.length) (h:a.take k=b.take k) (he:a[k]=b[k]):a.take (k+1)=b.take (k+1):=by
 rw [List.take_succ_eq_append_getElem ha,List.take_succ_eq_append_getElem hb,h,he]
theorem ZH {α:Type} {a b:List α} (hl:a.length=b.length) (h:a.take a.length=b.take a.length):a=b:=by
 rw [List.take_length,hl,List.take_length] at h; exact h
theorem Z3 {α:Type} {a b:List α} {k:Nat} (ha:k < a.length) (hb:k < b.length) (he:a[k]≠b[k]):a≠b:=by rintro rfl; exact he rfl
theorem JO {α:Type} {a b:List α} (h:a.length≠b.length):a≠b:=by rintro rfl; exact h rfl
theorem tmn {α:Type} {f:α→CV} {t:List α} {k n e:Nat} (h:k < t.length):XB.row ((t.take k).map f++[f t[k]]) n e = .row ((t.take (k+1)).map f) n e:=by
 rw [List.take_succ_eq_append_getElem h,List.map_append]; rfl
end Go.Proofs.YtmkmldepkponaaaGreatDoor

namespace Go.Proofs.YtmkmldepkponaaaGreatDoor
set_option linter.unusedSimpArgs false
set_option linter.unusedVariables false
open Go Go.RowKit
def cut (c:UInt8):Str→List Str
 | []=>[[]]
 | b::t=>if b=c then []::cut c t else match cut c t with
  | []=>[[b]]
  | h::r=>(b::h)::r
theorem Yt (c:UInt8):∀ s,cut c s≠[]
 | []=>by simp [cut]
 | b::t=>by
  unfold cut;split
  ·simp
  ·split<;>simp
theorem Qk {c:UInt8}:∀ {s:Str},c ∉ s→cut c s=[s]
 | [],_=>rfl
 | b::t,h=>by
  simp only [List.mem_cons,not_or] at h;unfold cut;rw [if_neg (fun e=>h.1 e.symm),Qk h.2]
theorem Qj {c:UInt8}:∀ {a:Str} (b:Str),c ∉ a→cut c (a++c::b)=a::cut c b
 | [],b,_=>by simp [cut]
 | x::a,b,h=>by
  simp only [List.mem_cons,not_or] at h;rw [List.cons_append,cut,if_neg (fun e=>h.1 e.symm),Qj b h.2]
def jn (ns:List Str):Str:=ns.flatMap (47::·)
theorem zcC:∀ (s:Str),jn (cut 47 s)=47::s
 | []=>rfl
 | b::t=>by
  have ih:=zcC t;unfold cut;split
  ·rename_i hb; subst hb; simp only [jn,List.flatMap_cons] at ih ⊢; rw [ih]; rfl
  ·split
   ·rename_i hc; exact absurd hc (Yt _ _)
   ·rename_i x r hc;rw [hc] at ih;simp only [jn,List.flatMap_cons,List.cons_append,List.cons.injEq,true_and] at ih ⊢;rw [ih]
theorem Ys:∀ {n:Str} {ns:List Str},(∀ x∈n::ns,(47:UInt8) ∉ x)→cut 47 (n++jn ns)=n::ns
 | n,[],h=>by simp [jn]; exact Qk (h n (by simp))
 | n,m::ns,h=>by
  have:jn (m::ns)=47::(m++jn ns):=rfl;rw [this,Qj _ (h n (by simp)),Ys fun x hx=>h x (by simp at hx ⊢; exact .inr hx)]
def jl (b:UInt8):Bool:=97≤b.toNat&&b.toNat≤122
def jg (n:Str):Bool:=n.all jl&&(1≤n.length&&n.length≤3)
theorem zaf {n:Str} (h:jg n=true):(47:UInt8) ∉ n:=by
 intro hm;simp only [jg,Bool.and_eq_true,List.all_eq_true] at h;have:=h.1 _ hm;simp [jl] at this
def names (s:Str):List Str:=if s.length < 2∨s.head? ≠ some 47 then [] else cut 47 s.tail
def pOk (s:Str):Bool:=s.length≤12&&((names s).all jg&&(1≤(names s).length&&(names s).length≤3))
theorem zdg {s:Str}:pOk s=true↔∃ ns:List Str,(1≤ns.length∧ns.length≤3)∧(∀ n∈ns,jg n=true)∧s=jn ns:=by
 constructor
 ·intro h;simp only [pOk,Bool.and_eq_true,decide_eq_true_eq,List.all_eq_true] at h;obtain ⟨_,h1,h2,h3⟩:=h;refine ⟨names s,⟨h2,h3⟩,h1,?_⟩;unfold names at h2 ⊢;split at h2
  ·simp at h2
  ·rename_i hc;rw [if_neg hc,zcC];cases s with
   | nil=>simp at hc
   | cons b t=>simp at hc; simp [hc.2]
 ·rintro ⟨ns,⟨h1,h2⟩,h3,rfl⟩;cases ns with
  | nil=>simp at h1
  | cons n ns =>
   have hno:∀ x∈n::ns,(47:UInt8) ∉ x:=fun x hx=>zaf (h3 x hx)
   have e:jn (n::ns)=47::(n++jn ns):=rfl;have hlen:∀ (ns:List Str),(∀ n∈ns,jg n=true)→(jn ns).length≤4 * ns.length:=by
    intro ns;induction ns with
    | nil=>intro _; simp [jn]
    | cons a l ih =>
     intro h;have:=ih fun n hn=>h n (by simp [hn])
     have ha:=h a (by simp);simp only [jg,Bool.and_eq_true,decide_eq_true_eq] at ha;have e:jn (a::l)=47::(a++jn l):=rfl;rw [e]; simp; omega
   have hn:=h3 n (by simp);simp only [jg,Bool.and_eq_true,decide_eq_true_eq] at hn;have hnm:names (jn (n::ns))=n::ns:=by
    unfold names;rw [e];rw [if_neg (by simp; omega)];exact Ys hno
   simp only [pOk,Bool.and_eq_true,decide_eq_true_eq,List.all_eq_true,hnm];have:=hlen _ h3;exact ⟨by omega,h3,h1,h2⟩
theorem zc1 {ns:List Str} (h1:1≤ns.length) (h3:∀ n∈ns,jg n=true):names (jn ns)=ns:=by
 cases ns with
 | nil=>simp at h1
 | cons n ns =>
  have hno:∀ x∈n::ns,(47:UInt8) ∉ x:=fun x hx=>zaf (h3 x hx)
  have e:jn (n::ns)=47::(n++jn ns):=rfl;have hn:=h3 n (by simp);simp only [jg,Bool.and_eq_true,decide_eq_true_eq] at hn;unfold names;rw [e,if_neg (by simp; omega)];exact Ys hno
theorem zcB (a b:List Str):jn (a++b)=jn a++jn b:=by simp [jn]
theorem ql {s:Str} (h:pOk s=true):(1≤(names s).length∧(names s).length≤3)∧(∀ n∈names s,jg n=true)∧s=jn (names s):=by
 obtain ⟨ns,h1,h2,rfl⟩:=zdg.1 h;rw [zc1 h1.1 h2];exact ⟨h1,h2,rfl⟩
theorem j2 {s:Str} (h:pOk s=true):2≤s.length∧s.length≤12∧s.head? = some 47:=by
 have h12:s.length≤12:=by simp only [pOk,Bool.and_eq_true,decide_eq_true_eq] at h; exact h.1
 obtain ⟨⟨h1,_⟩,_,_⟩:=ql h;unfold names at h1;split at h1
 ·simp at h1
 ·rename_i hc; simp only [not_or,Nat.not_lt,ne_eq,Classical.not_not] at hc; exact ⟨hc.1,h12,hc.2⟩
def pUp (s:Str):Str:=if pOk s then (if (names s).length=1 then [47] else jn (names s).dropLast) else []
def Zl (s:Str):Str:=if pOk s then (names s).getLast?.getD [] else []
def und (s d:Str):Bool:=d==[47]||(d++[47]).isPrefixOf s
def jp (s f t:Str):Option Str:=if (pOk s&&pOk f&&pOk t)=true then (if (s != f&&!und s f)=true then some s else if pOk (t++s.drop f.length)=true then some (t++s.drop f.length) else none) else none
def eOpt:Option Str→CV
 | none => .tup [CS [],CB false]
 | some s => .tup [CS s,CB true]
theorem Zm {s:Str} (h:pOk s=true):∃ a l,s=a++47::l∧(47:UInt8) ∉ l∧a=jn (names s).dropLast∧(names s).getLast? = some l∧jg l=true∧(a=[]↔(names s).length=1)∧Zl s=l∧pUp s=(if a=[] then [47] else a):=by
 obtain ⟨⟨h1,h2⟩,h3,h4⟩:=ql h;obtain ⟨l,hl⟩:∃ l,(names s).getLast? = some l:=by
  cases hn:names s with
  | nil=>rw [hn] at h1; simp at h1
  | cons x r=>exact ⟨_,List.getLast?_eq_some_getLast (by simp)⟩
 have hsp:names s=(names s).dropLast++[l]:=by
  obtain ⟨hne,e⟩:=List.getLast?_eq_some_iff.1 hl;rw [e]; simp
 have hlm:l∈names s:=by rw [hsp]; simp
 have ha:(jn (names s).dropLast=[]↔(names s).length=1):=by
  cases hd:(names s).dropLast with
  | nil =>
   have:(names s).length=1:=by rw [hsp,hd]; rfl
   simp [jn,this]
  | cons x r =>
   have:(names s).length=r.length+2:=by rw [hsp,hd]; simp
   simp [jn,this]
 refine ⟨jn (names s).dropLast,l,?_,zaf (h3 l hlm),rfl,hl,h3 l hlm,ha,?_,?_⟩
 ·have e:jn (names s)=jn (names s).dropLast++jn [l]:=by rw [← zcB,← hsp]
  rw [h4.symm] at e
  simpa [jn] using e
 ·simp [Zl,h,hl]
 ·unfold pUp;rw [if_pos h];by_cases hc:(names s).length=1
  ·rw [if_pos hc,if_pos (ha.2 hc)]
  ·rw [if_neg hc,if_neg (fun e=>hc (ha.1 e))]
theorem qg {α:Type} {q:α→Bool} {l:List α} {k:Nat} (h:k < l.length) (h1:(l.take k).all q=true) (h2:q l[k]=true):(l.take (k+1)).all q=true:=by
 rw [List.take_succ_eq_append_getElem h,List.all_append,h1]; simp [h2]
theorem y0 {α:Type} {q:α→Bool} {l:List α} {k:Nat} (h:k < l.length) (h2:q l[k]=false):l.all q=false:=by
 rw [List.all_eq_false]; exact ⟨l[k],List.getElem_mem h,by simp [h2]⟩
end Go.Proofs.YtmkmldepkponaaaGreatDoor

namespace Go.Proofs.YtmkmldepkponaaaGreatDoor
set_option linter.unusedSimpArgs false
set_option linter.unusedVariables false
open Go Go.RowKit
theorem JL (b:Str):ltS [] b=!b.isEmpty:=by rw [yJ]; cases b<;>rfl
theorem zaa (x:UInt8) (a:Str):ltS (x::a) []=false:=by rw [yJ]; rfl
theorem JJ (x y:UInt8) (a b:Str):ltS (x::a) (y::b)=(x < y||(x==y&&ltS a b)):=by rw [yJ,yJ]; rfl
theorem qI:∀ (a:Str),ltS a a=false
 | []=>by rw [JL]; rfl
 | x::a=>by rw [JJ,qI a]; simp
theorem yt:∀ {a b c:Str},ltS a b=true→ltS b c=true→ltS a c=true
 | [],b,[],h1,h2=>by cases b with
  | nil=>rw [qI] at h1; cases h1
  | cons y b=>rw [zaa] at h2; cases h2
 | [],_,z::c,_,_=>by rw [JL]; rfl
 | x::a,[],c,h1,_=>by rw [zaa] at h1; cases h1
 | x::a,y::b,[],_,h2=>by rw [zaa] at h2; cases h2
 | x::a,y::b,z::c,h1,h2=>by
  rw [JJ] at h1 h2 ⊢;simp only [Bool.or_eq_true,Bool.and_eq_true,decide_eq_true_eq,beq_iff_eq] at h1 h2 ⊢;simp only [UInt8.lt_iff_toNat_lt] at h1 h2 ⊢;rcases h1 with h1 | ⟨rfl,h1⟩<;>rcases h2 with h2 | ⟨rfl,h2⟩
  ·left; omega
  ·left; exact h1
  ·left; exact h2
  ·right; exact ⟨rfl,yt h1 h2⟩
theorem QO:∀ (a b:Str),a=b∨ltS a b=true∨ltS b a=true
 | [],[] => .inl rfl
 | [],y::b=>by rw [JL]; simp
 | x::a,[]=>by rw [JL (x::a)]; simp
 | x::a,y::b=>by
  rw [JJ,JJ];rcases QO a b with h | h | h
  ·subst h;simp only [Bool.or_eq_true,decide_eq_true_eq,Bool.and_eq_true,beq_iff_eq,UInt8.lt_iff_toNat_lt];rcases Nat.lt_trichotomy x.toNat y.toNat with h | h | h
   ·right; left; left; exact h
   ·left; rw [UInt8.toNat_inj.1 h]
   ·right; right; left; exact h
  ·simp only [Bool.or_eq_true,decide_eq_true_eq,Bool.and_eq_true,beq_iff_eq,UInt8.lt_iff_toNat_lt];rcases Nat.lt_trichotomy x.toNat y.toNat with h' | h' | h'
   ·right; left; left; exact h'
   ·right; left; right; exact ⟨UInt8.toNat_inj.1 h',h⟩
   ·right; right; left; exact h'
  ·simp only [Bool.or_eq_true,decide_eq_true_eq,Bool.and_eq_true,beq_iff_eq,UInt8.lt_iff_toNat_lt];rcases Nat.lt_trichotomy x.toNat y.toNat with h' | h' | h'
   ·right; left; left; exact h'
   ·right; right; right; exact ⟨(UInt8.toNat_inj.1 h').symm,h⟩
   ·right; right; left; exact h'
theorem Zf {a b:Str} (h:ltS a b=true):ltS b a=false:=by
 cases h':ltS b a with
 | false=>rfl
 | true=>have:=yt h h'; rw [qI] at this; cases this
theorem yc {a b:Str} (h:ltS a b=true):a≠b:=by rintro rfl; rw [qI] at h; cases h
theorem JK {a b:Str} (h:ltS a b=false):a=b∨ltS b a=true:=by
 rcases QO a b with h' | h' | h'
 ·exact .inl h'
 ·rw [h] at h'; cases h'
 ·exact .inr h'
theorem zcQ (a:Str) (x:UInt8) (r:Str):ltS a (a++x::r)=true:=by
 induction a with
 | nil=>rw [JL]; rfl
 | cons y a ih=>rw [List.cons_append,JJ,ih]; simp
def jC (b:UInt8):Bool:=jl b||(48≤b.toNat&&b.toNat≤57)
def jO (s:Str):Bool:=s.all jC&&s.length≤6
def find (t:List Ent) (p:Str):Option Ent:=t.find? fun e=>e.path==p
def idx (t:List Ent) (p:Str):Int:=match t.findIdx? (fun e=>e.path==p) with
 | some i=>i
 | none => -1
def Q2:Ent:=⟨[47],true,[]⟩
def noE:Ent:=⟨[],false,[]⟩
def get (t:List Ent) (p:Str):Option Ent:=if p=[47] then some Q2 else find t p
def zF (t:List Ent) (p:Str):Bool:=match get t p with
 | some e=>e.dir
 | none=>false
def eEntO:Option Ent→CV
 | none => .tup [eEnt noE,CB false]
 | some e => .tup [eEnt e,CB true]
theorem QK (t:List Ent) (p:Str):(idx t p = -1∧find t p=none∧∀ e∈t,e.path≠p)∨∃ j,∃ h:j < t.length,idx t p=(j:Int)∧find t p=some t[j]∧t[j].path=p∧∀ i (h':i < t.length),i < j→t[i].path≠p:=by
 unfold idx find;cases hf:t.findIdx? (fun e=>e.path==p) with
 | none =>
  left;have hn:=List.findIdx?_eq_none_iff.1 hf;refine ⟨rfl,List.find?_eq_none.2 fun e he=>by simpa using hn e he,fun e he=>by simpa using hn e he⟩
 | some j =>
  right;obtain ⟨h,h1,h2⟩:=List.findIdx?_eq_some_iff_getElem.1 hf;refine ⟨j,h,rfl,?_,by simpa using h1,fun i h' hi=>by simpa using h2 i hi⟩;rw [List.find?_eq_some_iff_getElem];exact ⟨h1,j,h,rfl,fun i hi=>by simpa using h2 i hi⟩
theorem zjD {t:List Ent} {p:Str} {k:Nat} (h:k < t.length) (hp:t[k].path=p) (hn:∀ i (h':i < t.length),i < k→t[i].path≠p):idx t p=(k:Int):=by
 rcases QK t p with ⟨_,_,h3⟩ | ⟨j,hj,h1,_,h2,h3⟩
 ·exact absurd hp (h3 _ (List.getElem_mem h))
 ·rcases Nat.lt_trichotomy j k with h' | h' | h'
  ·exact absurd h2 (hn j hj h')
  ·rw [h1,h']
  ·exact absurd hp (h3 k h h')
theorem zjE {t:List Ent} {p:Str} (hn:∀ i (h':i < t.length),t[i].path≠p):idx t p = -1:=by
 rcases QK t p with ⟨h,_⟩ | ⟨j,hj,_,_,h2,_⟩
 ·exact h
 ·exact absurd h2 (hn j hj)
theorem jP {t:List Ent} {p:Str} {e:Ent} (h:find t p=some e):e.path=p∧e∈t:=by
 unfold find at h;exact ⟨by simpa using List.find?_some h,List.mem_of_find?_eq_some h⟩
def ok1 (pre:List Ent) (e:Ent):Bool:=pOk e.path&&(jO e.data&&(!(e.dir&&e.data != [])&&((match pre.getLast? with
 | none=>true
 | some l=>ltS l.path e.path)&&zF pre (pUp e.path))))
def okA:List Ent→List Ent→Bool
 | _,[]=>true
 | pre,e::r=>ok1 pre e&&okA (pre++[e]) r
def tOk (t:List Ent):Bool:=t.length≤16&&okA [] t
theorem zc6:∀ {r pre:List Ent},okA pre r=true↔∀ j (h:j < r.length),ok1 (pre++r.take j) r[j]=true
 | [],pre=>by simp [okA]
 | e::r,pre=>by
  rw [okA,Bool.and_eq_true,zc6 (r:=r)];constructor
  ·rintro ⟨h1,h2⟩ j hj;cases j with
   | zero=>rw [List.take_zero,List.append_nil]; exact h1
   | succ j=>have:=h2 j (by simpa using hj); simpa using this
  ·intro h;refine ⟨by have:=h 0 (by simp); rw [List.take_zero,List.append_nil] at this; exact this,fun j hj=>?_⟩;have:=h (j+1) (by simpa using hj)
   simpa using this
theorem okA0 {t:List Ent}:okA [] t=true↔∀ j (h:j < t.length),ok1 (t.take j) t[j]=true:=by
 rw [zc6]; simp
end Go.Proofs.YtmkmldepkponaaaGreatDoor

namespace Go.Proofs.YtmkmldepkponaaaGreatDoor
set_option linter.unusedSimpArgs false
set_option linter.unusedVariables false
open Go Go.RowKit
theorem Ye {α:Type} {q:α→Bool}:∀ {t:List α} {k:Nat},(t.take k).all q=true→(∀ h:k < t.length,q t[k]=false)→t.takeWhile q=t.take k∧t.dropWhile q=t.drop k
 | [],_,_,_=>by simp
 | x::t,0,_,h2=>by
  have:=h2 (by simp);simp only [List.getElem_cons_zero] at this;simp [this]
 | x::t,k+1,h1,h2=>by
  simp only [List.take_succ_cons,List.all_cons,Bool.and_eq_true] at h1;have:=Ye (t:=t) (k:=k) h1.2 fun h=>by have:=h2 (by simpa using h); simpa using this
  simp [h1.1,this.1,this.2]
def zG {α:Type} (key:α→Str) (t:List α) (e:α):List α :=
 t.takeWhile (fun x=>ltS (key x) (key e))++e::(match t.dropWhile (fun x=>ltS (key x) (key e)) with
  | []=>[]
  | x::r=>if key x=key e then r else x::r)
abbrev put:=zG Ent.path
abbrev zZ:=zG Mark.path
theorem j3 {α:Type} {key:α→Str} {t:List α} {e:α}:(zG key t e).length≤t.length+1:=by
 have h:=congrArg List.length (List.takeWhile_append_dropWhile (p:=fun x=>ltS (key x) (key e)) (l:=t));rw [List.length_append] at h;unfold zG;rw [List.length_append,List.length_cons];split
 ·simp; omega
 ·rename_i hc;rw [hc] at h;split<;>simp at h ⊢<;>omega
theorem zdm {α:Type} {key:α→Str} {t:List α} {e:α} {k:Nat} (hk:¬ k < t.length) (h1:(t.take k).all (fun x=>ltS (key x) (key e))=true):zG key t e=t.take k++[e]:=by
 obtain ⟨e1,e2⟩:=Ye h1 fun h=>absurd h hk
 unfold zG;rw [e1,e2,List.drop_of_length_le (by omega)]
theorem zdn {α:Type} {key:α→Str} {t:List α} {e:α} {k:Nat} (hk:k < t.length) (h1:(t.take k).all (fun x=>ltS (key x) (key e))=true) (h2:ltS (key t[k]) (key e)=false) (h3:key t[k]≠key e):zG key t e=t.take k++e::t.drop k:=by
 obtain ⟨e1,e2⟩:=Ye h1 fun _=>h2
 unfold zG;rw [e1,e2,List.drop_eq_getElem_cons hk];simp only [if_neg h3]
theorem zdk {α:Type} {key:α→Str} {t:List α} {e:α} {k:Nat} (hk:k < t.length) (h1:(t.take k).all (fun x=>ltS (key x) (key e))=true) (h2:ltS (key t[k]) (key e)=false) (h3:key t[k]=key e):zG key t e=t.take k++e::t.drop (k+1):=by
 obtain ⟨e1,e2⟩:=Ye h1 fun _=>h2
 unfold zG;rw [e1,e2,List.drop_eq_getElem_cons hk];simp only [if_pos h3]
def both (a b:List Ent):List Ent:=b.foldl put a
def tudP (a b:List Ent) (e:Ent):Bool:=decide (get a e.path≠get b e.path)
def zS (a b:List Ent):List Str:=((both a b).filter (tudP a b)).map (·.path)
def zv (l:List Mark) (p:Str):Option Mark:=l.find? fun m=>m.path==p
def midx (l:List Mark) (p:Str):Int:=match l.findIdx? (fun m=>m.path==p) with
 | some i=>i
 | none => -1
theorem zae (t:List Mark) (p:Str):(midx t p = -1∧zv t p=none∧∀ e∈t,e.path≠p)∨∃ j,∃ h:j < t.length,midx t p=(j:Int)∧zv t p=some t[j]∧t[j].path=p∧∀ i (h':i < t.length),i < j→t[i].path≠p:=by
 unfold midx zv;cases hf:t.findIdx? (fun e=>e.path==p) with
 | none =>
  left;have hn:=List.findIdx?_eq_none_iff.1 hf;refine ⟨rfl,List.find?_eq_none.2 fun e he=>by simpa using hn e he,fun e he=>by simpa using hn e he⟩
 | some j =>
  right;obtain ⟨h,h1,h2⟩:=List.findIdx?_eq_some_iff_getElem.1 hf;refine ⟨j,h,rfl,?_,by simpa using h1,fun i h' hi=>by simpa using h2 i hi⟩;rw [List.find?_eq_some_iff_getElem];exact ⟨h1,j,h,rfl,fun i hi=>by simpa using h2 i hi⟩
theorem zj9 {t:List Mark} {p:Str} {k:Nat} (h:k < t.length) (hp:t[k].path=p) (hn:∀ i (h':i < t.length),i < k→t[i].path≠p):midx t p=(k:Int):=by
 rcases zae t p with ⟨_,_,h3⟩ | ⟨j,hj,h1,_,h2,h3⟩
 ·exact absurd hp (h3 _ (List.getElem_mem h))
 ·rcases Nat.lt_trichotomy j k with h' | h' | h'
  ·exact absurd h2 (hn j hj h')
  ·rw [h1,h']
  ·exact absurd hp (h3 k h h')
theorem zka {t:List Mark} {p:Str} (hn:∀ i (h':i < t.length),t[i].path≠p):midx t p = -1:=by
 rcases zae t p with ⟨h,_⟩ | ⟨j,hj,_,_,h2,_⟩
 ·exact h
 ·exact absurd h2 (hn j hj)
theorem qc {t:List Mark} {p:Str} {e:Mark} (h:zv t p=some e):e.path=p∧e∈t:=by
 unfold zv at h;exact ⟨by simpa using List.find?_some h,List.mem_of_find?_eq_some h⟩
def kind (l:List Mark) (p:Str):Int:=match zv l p with
 | some m=>m.kind
 | none=>0
def zJ (l:List Mark) (p:Str):Bool:=l.any fun m=>m.kind==4&&und p m.path
def inD (l:List Mark) (p:Str):Bool:=pUp p==[47]||(kind l (pUp p)==2||kind l (pUp p)==4)
def hidP (p:Str) (m:Mark):Bool:=(m.path==p&&m.kind != 2)||(m.kind != 2&&und p m.path)
def zw (l:List Mark) (p:Str):Bool:=l.any (hidP p)
def qJ (pre:List Mark) (p:Str):Bool:=match pre.getLast? with
 | none=>true
 | some l=>ltS l.path p
def zV (pre:List Mark) (m:Mark):Bool:=(decide (1≤m.kind)&&decide (m.kind≤4))&&(pOk m.path&&(jO m.data&&(!(m.kind != 1&&m.data != [])&&(qJ pre m.path&&(inD pre m.path&&!(decide (2 < m.kind)&&zJ pre m.path))))))
def mokA:List Mark→List Mark→Bool
 | _,[]=>true
 | pre,e::r=>zV pre e&&mokA (pre++[e]) r
def lOk (l:List Mark):Bool:=l.length≤32&&mokA [] l
theorem zcW:∀ {r pre:List Mark},mokA pre r=true↔∀ j (h:j < r.length),zV (pre++r.take j) r[j]=true
 | [],pre=>by simp [mokA]
 | e::r,pre=>by
  rw [mokA,Bool.and_eq_true,zcW (r:=r)];constructor
  ·rintro ⟨h1,h2⟩ j hj;cases j with
   | zero=>rw [List.take_zero,List.append_nil]; exact h1
   | succ j=>have:=h2 j (by simpa using hj); simpa using this
  ·intro h;refine ⟨by have:=h 0 (by simp); rw [List.take_zero,List.append_nil] at this; exact this,fun j hj=>?_⟩;have:=h (j+1) (by simpa using hj)
   simpa using this
theorem QT {t:List Mark}:mokA [] t=true↔∀ j (h:j < t.length),zV (t.take j) t[j]=true:=by
 rw [zcW]; simp
def onP (out:List Ent) (m:Mark):List Ent:=if m.kind=1 then put out ⟨m.path,false,m.data⟩ else if m.kind=2∨m.kind=4 then put out ⟨m.path,true,[]⟩ else out
def zW (l:List Mark) (t:List Ent):List Ent:=l.foldl onP (t.filter fun e=>!zw l e.path)
def lOn (l:List Mark) (t:List Ent):Option (List Ent):=if (lOk l&&tOk t)=true then (if (zW l t).length≤16 then some (zW l t) else none) else none
def Jr:Option (List Ent)→CV
 | none => .tup [ze [],CB false]
 | some t => .tup [ze t,CB true]
theorem zij (o:Option (List Ent)):Jr o = .tup [ze (o.getD []),CB o.isSome]:=by cases o<;>rfl
def jc:Nat→Str→List Str
 | 0,_=>[]
 | n+1,p=>if pUp p=[47] then [] else pUp p::jc n (pUp p)
def upsP (l:List Mark) (u:Str):List Mark:=if kind l u=0 then zZ l ⟨u,2,[]⟩ else l
def ups (l:List Mark) (p:Str):List Mark:=(jc 3 p).foldl upsP l
def zD (tq:List Ent) (p:Str):Option Mark:=match get tq p with
 | some e=>some ⟨p,if e.dir=true then 2 else 1,e.data⟩
 | none=>if zF tq (pUp p)=true then some ⟨p,3,[]⟩ else none
def difP (tq:List Ent) (out:List Mark) (p:Str):List Mark:=match zD tq p with
 | some m=>ups (zZ out m) p
 | none=>out
def diff (a b:List Ent):List Mark:=(zS a b).foldl (difP b) []
def lowerA:List (List Mark)→List Ent→Option (List Ent)
 | [],t=>some t
 | l::r,t=>match lOn l t with
  | some t'=>lowerA r t'
  | none=>none
def ja (o:Over):Option (List Ent):=if tOk o.base=true∧o.layers.length≤4 then lowerA o.layers o.base else none
def jh (o:Over):Option (List Ent):=match ja o with
 | some t=>lOn o.upper t
 | none=>none
def oOk (o:Over):Bool:=match ja o,jh o with
 | some t,some x=>decide (o.upper=diff t x)
 | _,_=>false
theorem ZB (o:Option Ent):eEntO o = .tup [eEnt (o.getD noE),CB o.isSome]:=by cases o<;>rfl
theorem zk8 {α:Type} {a b:Option α} {d:α}:a=b↔a.isSome=b.isSome∧a.getD d=b.getD d:=by cases a<;>cases b<;>simp
theorem qj {α β:Type} {f:β→α→β} {z:β} {l:List α} {k:Nat} (h:k < l.length):(l.take (k+1)).foldl f z=f ((l.take k).foldl f z) l[k]:=by
 rw [List.take_succ_eq_append_getElem h,List.foldl_append]; rfl
theorem Zb {α:Type} {q:α→Bool} {l:List α} {k:Nat} (h:k < l.length) (hq:q l[k]=true):(l.take (k+1)).filter q=(l.take k).filter q++[l[k]]:=by
 rw [List.take_succ_eq_append_getElem h,List.filter_append]; simp [hq]
theorem Za {α:Type} {q:α→Bool} {l:List α} {k:Nat} (h:k < l.length) (hq:q l[k]=false):(l.take (k+1)).filter q=(l.take k).filter q:=by
 rw [List.take_succ_eq_append_getElem h,List.filter_append]; simp [hq]
theorem zbX {α:Type} {q:α→Bool} {l:List α} {k:Nat}:((l.take k).filter q).length≤l.length:=by
 have h1:=List.length_filter_le q (l.take k);have h2:=List.length_take_le' k l;omega
theorem ZQ {α:Type} {key:α→Str}:∀ (l:List α) (t:List α),(l.foldl (zG key) t).length≤t.length+l.length
 | [],t=>by simp
 | e::l,t=>by
  have h:=ZQ (key:=key) l (zG key t e);have h2:=j3 (key:=key) (t:=t) (e:=e);simp only [List.foldl_cons,List.length_cons];omega
theorem zji {α:Type} {key:α→Str} (l:List α) (t:List α) (k:Nat):((l.take k).foldl (zG key) t).length≤t.length+l.length:=by
 have h:=ZQ (key:=key) (l.take k) t;have h2:=List.length_take_le' k l;omega
theorem qM {p:Str} (h:pOk p=true) (h2:pUp p≠[47]):pOk (pUp p)=true∧names (pUp p)=(names p).dropLast∧(names (pUp p)).length+1=(names p).length:=by
 obtain ⟨⟨h1,h3⟩,h4,_⟩:=ql h;have hl:(names p).length≠1:=by
  intro e; unfold pUp at h2; rw [if_pos h,if_pos e] at h2; exact h2 rfl
 have e:pUp p=jn (names p).dropLast:=by unfold pUp; rw [if_pos h,if_neg hl]
 have hd:∀ n∈(names p).dropLast,jg n=true:=fun n hn=>h4 n (List.dropLast_subset _ hn)
 have hdl:(names p).dropLast.length+1=(names p).length:=by rw [List.length_dropLast]; omega
 have hn:names (pUp p)=(names p).dropLast:=by rw [e]; exact zc1 (by omega) hd
 exact ⟨zdg.2 ⟨_,⟨by omega,by omega⟩,hd,e⟩,hn,by rw [hn]; exact hdl⟩
theorem QR {α:Type} {key:α→Str} {t:List α} {e x:α} (h:x∈zG key t e):x=e∨x∈t:=by
 have hs:=List.takeWhile_append_dropWhile (p:=fun x=>ltS (key x) (key e)) (l:=t);unfold zG at h;rw [List.mem_append,List.mem_cons] at h;rw [← hs,List.mem_append];rcases h with h | h | h
 ·exact .inr (.inl h)
 ·exact .inl h
 ·split at h
  ·cases h
  ·rename_i hc;rw [hc];split at h
   ·exact .inr (.inr (by simp [h]))
   ·exact .inr (.inr h)
theorem zcS {α:Type} {key:α→Str}:∀ {l:List α} {t:List α} {x:α},x∈l.foldl (zG key) t→x∈l∨x∈t
 | [],_,_,h => .inr h
 | e::l,t,x,h=>by
  rcases zcS (l:=l) h with h | h
  ·exact .inl (by simp [h])
  ·rcases QR h with rfl | h
   ·exact .inl (by simp)
   ·exact .inr h
theorem qu {t:List Ent} (h:tOk t=true):t.length≤16∧∀ j (h:j < t.length),ok1 (t.take j) t[j]=true:=by
 simp only [tOk,Bool.and_eq_true,decide_eq_true_eq] at h;exact ⟨h.1,okA0.1 h.2⟩
theorem zd6 {t:List Ent} (h:tOk t=true) {e:Ent} (he:e∈t):pOk e.path=true:=by
 obtain ⟨j,hj,rfl⟩:=List.mem_iff_getElem.1 he;have:=(qu h).2 j hj;simp only [ok1,Bool.and_eq_true] at this;exact this.1
theorem zei {a b:List Ent} (ha:tOk a=true) (hb:tOk b=true) {p:Str} (h:p∈zS a b):pOk p=true:=by
 obtain ⟨e,he,rfl⟩:=List.mem_map.1 h;rcases zcS (List.mem_filter.1 he).1 with h | h
 ·exact zd6 hb h
 ·exact zd6 ha h
theorem zeh {a b:List Ent}:(zS a b).length≤a.length+b.length:=by
 unfold zS;rw [List.length_map];have h1:=List.length_filter_le (tudP a b) (both a b);have h2:=ZQ (key:=Ent.path) b a;have h3:(both a b).length≤a.length+b.length:=h2;omega
theorem zaK:∀ (n:Nat) (p:Str),(jc n p).length≤n
 | 0,_=>by simp [jc]
 | n+1,p=>by
  unfold jc;split
  ·simp
  ·have:=zaK n (pUp p); simp; omega
theorem zlX {l:List Mark} {u:Str}:(upsP l u).length≤l.length+1:=by
 unfold upsP;split
 ·exact j3
 ·omega
theorem zck:∀ (us:List Str) (l:List Mark),(us.foldl upsP l).length≤l.length+us.length
 | [],l=>by simp
 | u::us,l=>by
  have h:=zck us (upsP l u);have h2:=zlX (l:=l) (u:=u);simp only [List.foldl_cons,List.length_cons];omega
theorem zlY {l:List Mark} {p:Str}:(ups l p).length≤l.length+3:=by
 have h:=zck (jc 3 p) l;have h2:=zaK 3 p;unfold ups;omega
theorem zid {b:List Ent} {out:List Mark} {p:Str}:(difP b out p).length≤out.length+4:=by
 unfold difP;split
 ·rename_i m _;have h:=zlY (l:=zZ out m) (p:=p);have h2:(zZ out m).length≤out.length+1:=j3;omega
 ·omega
theorem zch {b:List Ent}:∀ (ps:List Str) (out:List Mark),(ps.foldl (difP b) out).length≤out.length+4 * ps.length
 | [],l=>by simp
 | u::us,l=>by
  have h:=zch (b:=b) us (difP b l u);have h2:=zid (b:=b) (out:=l) (p:=u);simp only [List.foldl_cons,List.length_cons];omega
theorem zkk {out:List Ent} {m:Mark}:(onP out m).length≤out.length+1:=by
 unfold onP;split
 ·exact j3
 ·split
  ·exact j3
  ·omega
theorem zci:∀ (l:List Mark) (out:List Ent),(l.foldl onP out).length≤out.length+l.length
 | [],out=>by simp
 | m::l,out=>by
  have h:=zci l (onP out m);have h2:=zkk (out:=out) (m:=m);simp only [List.foldl_cons,List.length_cons];omega
theorem ZY {l:List Mark} {t t':List Ent} (h:lOn l t=some t'):t'.length≤16∧lOk l=true∧tOk t=true∧t'=zW l t:=by
 unfold lOn at h;split at h
 ·rename_i hc;simp only [Bool.and_eq_true] at hc;split at h
  ·cases h; exact ⟨by assumption,hc.1,hc.2,rfl⟩
  ·cases h
 ·cases h
end Go.Proofs.YtmkmldepkponaaaGreatDoor

namespace Go.Proofs.YtmkmldepkponaaaGreatDoor
set_option linter.unusedSimpArgs false
set_option linter.unusedVariables false
open Go Go.RowKit
section
variable {α:Type} {key:α→Str}
def Srt (key:α→Str) (l:List α):Prop:=l.Pairwise fun a b=>ltS (key a) (key b)=true
def fnd (key:α→Str) (l:List α) (p:Str):Option α:=l.find? fun e=>key e==p
theorem QC {p:Str}:fnd key [] p=none:=rfl
theorem jz {x:α} {l:List α} {p:Str}:fnd key (x::l) p=if key x=p then some x else fnd key l p:=by
 unfold fnd;rw [List.find?_cons];by_cases h:key x=p
 ·simp [h]
 ·have e:(key x==p)=false:=by simpa using h
  rw [e,if_neg h]
theorem qF {l:List α} {p:Str} {e:α} (h:fnd key l p=some e):key e=p∧e∈l:=by
 unfold fnd at h;exact ⟨by simpa using List.find?_some h,List.mem_of_find?_eq_some h⟩
theorem jK {l:List α} {p:Str}:fnd key l p=none↔∀ e∈l,key e≠p:=by
 unfold fnd; simp
theorem jJ {l:List α} (hs:Srt key l) {e:α} (h:e∈l):fnd key l (key e)=some e:=by
 induction l with
 | nil=>cases h
 | cons x l ih =>
  rw [jz];unfold Srt at hs;rw [List.pairwise_cons] at hs;rcases List.mem_cons.1 h with rfl | h
  ·simp
  ·rw [if_neg (yc (hs.1 e h)),ih hs.2 h]
theorem ZP {l:List α} (hs:Srt key l) {e:α}:e∈l↔fnd key l (key e)=some e:=⟨jJ hs,fun h=>(qF h).2⟩
theorem zjf {a b:List α} {p:Str}:fnd key (a++b) p=(fnd key a p).or (fnd key b p):=by
 unfold fnd; rw [List.find?_append]
theorem Q7 {a b:List α} (ha:Srt key a) (hb:Srt key b) (h:∀ p,fnd key a p=fnd key b p):a=b:=by
 induction a generalizing b with
 | nil =>
  cases b with
  | nil=>rfl
  | cons y b=>have:=h (key y); rw [jz,if_pos rfl,QC] at this; cases this
 | cons x a ih =>
  cases b with
  | nil=>have:=h (key x); rw [jz,if_pos rfl,QC] at this; cases this
  | cons y b =>
   unfold Srt at ha hb;rw [List.pairwise_cons] at ha hb;have hxy:key x=key y:=by
    apply Classical.byContradiction; intro hne;have h1:=h (key x);rw [jz,if_pos rfl,jz,if_neg (fun e=>hne e.symm)] at h1;have h2:=h (key y);rw [jz,if_neg hne,jz,if_pos rfl] at h2;have l1:=hb.1 x (qF h1.symm).2;have l2:=ha.1 y (qF h2).2;rw [Zf l1] at l2; cases l2
   have e:x=y:=by
    have:=h (key x);rw [jz,if_pos rfl,jz,if_pos hxy.symm] at this;exact Option.some.inj this
   subst e;rw [ih ha.2 hb.2 fun p=>?_];have:=h p;rw [jz,jz] at this;by_cases hp:key x=p
   ·subst hp;rw [jK.2 fun e he=>(yc (ha.1 e he)).symm,jK.2 fun e he=>(yc (hb.1 e he)).symm]
   ·rwa [if_neg hp,if_neg hp] at this
theorem Z7 {l:List α} (hs:Srt key l) (q:α→Bool):Srt key (l.filter q):=List.Pairwise.filter _ hs
theorem YU {l:List α} (hs:Srt key l) {q:α→Bool} {p:Str}:fnd key (l.filter q) p=(fnd key l p).filter q:=by
 cases h:fnd key l p with
 | none =>
  rw [jK] at h;exact jK.2 fun e he=>h e (List.mem_filter.1 he).1
 | some e =>
  obtain ⟨h1,h2⟩:=qF h;subst h1;rw [Option.filter];split
  ·rename_i hq;exact jJ (Z7 hs q) (List.mem_filter.2 ⟨h2,hq⟩)
  ·rename_i hq;refine jK.2 fun x hx e'=>?_
   have hx':=List.mem_filter.1 hx;have:=jJ hs hx'.1;rw [e',h] at this;cases this;exact hq hx'.2
theorem zdo {e:α}:zG key [] e=[e]:=rfl
theorem zdl {x:α} {t:List α} {e:α}:zG key (x::t) e=if ltS (key x) (key e)=true then x::zG key t e else if key x=key e then e::t else e::x::t:=by
 unfold zG;by_cases h:ltS (key x) (key e)=true
 ·simp [h]
 ·simp [h];split<;>rfl
theorem yf {t:List α} {e:α} (hs:Srt key t):Srt key (zG key t e):=by
 induction t with
 | nil=>rw [zdo]; exact List.pairwise_singleton _ _
 | cons x t ih =>
  unfold Srt at hs;rw [List.pairwise_cons] at hs;rw [zdl];by_cases h:ltS (key x) (key e)=true
  ·rw [if_pos h];refine List.pairwise_cons.2 ⟨fun y hy=>?_,ih hs.2⟩;rcases QR hy with rfl | hy
   ·exact h
   ·exact hs.1 y hy
  ·rw [if_neg h];by_cases h2:key x=key e
   ·rw [if_pos h2];exact List.pairwise_cons.2 ⟨fun y hy=>by rw [← h2]; exact hs.1 y hy,hs.2⟩
   ·rw [if_neg h2];have h3:ltS (key e) (key x)=true:=by
     rcases JK (by simpa using h) with h3 | h3
     ·exact absurd h3 h2
     ·exact h3
    refine List.pairwise_cons.2 ⟨fun y hy=>?_,List.pairwise_cons.2 hs⟩;rcases List.mem_cons.1 hy with rfl | hy
    ·exact h3
    ·exact yt h3 (hs.1 y hy)
theorem JC {t:List α} {e:α} {p:Str}:fnd key (zG key t e) p=if key e=p then some e else fnd key t p:=by
 induction t with
 | nil=>rw [zdo,jz]
 | cons x t ih =>
  rw [zdl];by_cases h:ltS (key x) (key e)=true
  ·rw [if_pos h,jz,ih,jz];by_cases hx:key x=p
   ·rw [if_pos hx,if_pos hx,if_neg fun e'=>yc h (hx.trans e'.symm)]
   ·rw [if_neg hx,if_neg hx]
  ·rw [if_neg h];by_cases h2:key x=key e
   ·rw [if_pos h2,jz,jz];by_cases hx:key e=p
    ·rw [if_pos hx,if_pos hx]
    ·rw [if_neg hx,if_neg hx,if_neg (by rw [h2]; exact hx)]
   ·rw [if_neg h2,jz]
theorem QD:∀ {l:List α} {t:List α},Srt key t→Srt key (l.foldl (zG key) t)
 | [],_,h=>h
 | _::l,_,h=>QD (l:=l) (yf h)
theorem yu {t:List α}:Srt key t↔∀ j (h:j+1 < t.length),ltS (key t[j]) (key t[j+1])=true:=by
 constructor
 ·intro hs j h;exact List.pairwise_iff_getElem.1 hs j (j+1) (by omega) h (by omega)
 ·intro h;refine List.pairwise_iff_getElem.2 fun i j hi hj hij=>?_
  obtain ⟨d,rfl⟩:∃ d,j=i+1+d:=⟨j - i - 1,by omega⟩;induction d with
  | zero=>exact h i hj
  | succ d ih=>exact yt (ih (by omega) (by omega)) (h (i+1+d) hj)
theorem YV {t:List α} (hs:Srt key t) {j:Nat} (h:j < t.length) {u:Str} (hu:ltS u (key t[j])=true):fnd key (t.take j) u=fnd key t u:=by
 have e:fnd key t u=(fnd key (t.take j) u).or (fnd key (t.drop j) u):=by rw [← zjf,List.take_append_drop]
 have e2:fnd key (t.drop j) u=none:=by
  rw [jK];intro e he hek;obtain ⟨i,hi,rfl⟩:=List.mem_iff_getElem.1 he;rw [List.getElem_drop] at hek;rw [List.length_drop] at hi;by_cases h0:i=0
  ·subst h0;simp only [Nat.add_zero] at hek;rw [hek] at hu;rw [qI] at hu; cases hu
  ·have:=List.pairwise_iff_getElem.1 hs j (j+i) h (by omega) (by omega);rw [hek] at this;rw [Zf this] at hu; cases hu
 rw [e,e2]; simp
theorem zex {t:List α} (hs:Srt key t) {j:Nat} (h:j < t.length) {q:α→Bool} (hq:∀ e∈t,q e=true→ltS (key e) (key t[j])=true):(t.take j).any q=t.any q:=by
 have e:t.any q=((t.take j).any q||(t.drop j).any q):=by rw [← List.any_append,List.take_append_drop]
 have e2:(t.drop j).any q=false:=by
  rw [List.any_eq_false];intro x hx hqx;have hlt:=hq x (List.mem_of_mem_drop hx) hqx;obtain ⟨i,hi,rfl⟩:=List.mem_iff_getElem.1 hx;rw [List.getElem_drop] at hlt;rw [List.length_drop] at hi;by_cases h0:i=0
  ·subst h0;simp only [Nat.add_zero] at hlt;rw [qI] at hlt; cases hlt
  ·have:=List.pairwise_iff_getElem.1 hs j (j+i) h (by omega) (by omega);rw [Zf this] at hlt; cases hlt
 rw [e,e2]; simp
end
end Go.Proofs.YtmkmldepkponaaaGreatDoor

namespace Go.Proofs.YtmkmldepkponaaaGreatDoor
set_option linter.unusedSimpArgs false
set_option linter.unusedVariables false
open Go Go.RowKit
theorem zeo {p:Str} (h:pOk p=true) (hu:pUp p≠[47]):ltS (pUp p) p=true:=by
 obtain ⟨a,l,e,_,_,_,_,_,_,hup⟩:=Zm h;by_cases ha:a=[]
 ·rw [if_pos ha] at hup; exact absurd hup hu
 ·rw [if_neg ha] at hup;rw [hup];conv=>lhs; arg 2; rw [e]
  exact zcQ a 47 l
theorem zem {p d:Str} (h:und p d=true) (hd:d≠[47]):ltS d p=true:=by
 unfold und at h;simp only [Bool.or_eq_true,beq_iff_eq,List.isPrefixOf_iff_prefix] at h;rcases h with h | ⟨r,h⟩
 ·exact absurd h hd
 ·rw [← h,List.append_assoc]; exact zcQ d 47 r
theorem Zk {p:Str} (h:pOk p=true):p≠[47]:=by rintro rfl; have:=(j2 h).1; simp at this
def eok (e:Ent):Bool:=pOk e.path&&(jO e.data&&!(e.dir&&e.data != []))
theorem JY {t:List Ent}:tOk t=true↔t.length≤16∧Srt Ent.path t∧(∀ e∈t,eok e=true)∧∀ e∈t,zF t (pUp e.path)=true:=by
 have key:∀ {j} (h:j < t.length),Srt Ent.path t→pOk t[j].path=true→zF (t.take j) (pUp t[j].path)=zF t (pUp t[j].path):=by
  intro j h hs hp;unfold zF get;by_cases hu:pUp t[j].path=[47]
  ·rw [if_pos hu,if_pos hu]
  ·rw [if_neg hu,if_neg hu];have:find (t.take j) (pUp t[j].path)=find t (pUp t[j].path):=YV hs h (zeo hp hu);rw [this]
 constructor
 ·intro h;obtain ⟨h1,h2⟩:=qu h;have hs:Srt Ent.path t:=yu.2 fun j hj=>by
   have:=h2 (j+1) hj;simp only [ok1,Bool.and_eq_true] at this;have:=this.2.2.2.1;have hl:(t.take (j+1)).getLast? = some t[j]:=by
    rw [List.getLast?_take,if_neg (by omega),List.getElem?_eq_getElem (by omega)]; rfl
   rw [hl] at this;exact this
  refine ⟨h1,hs,fun e he=>?_,fun e he=>?_⟩
  ·obtain ⟨j,hj,rfl⟩:=List.mem_iff_getElem.1 he;have:=h2 j hj;simp only [ok1,Bool.and_eq_true] at this;simp only [eok,Bool.and_eq_true];exact ⟨this.1,this.2.1,this.2.2.1⟩
  ·obtain ⟨j,hj,rfl⟩:=List.mem_iff_getElem.1 he;have:=h2 j hj;simp only [ok1,Bool.and_eq_true] at this;rw [← key hj hs this.1];exact this.2.2.2.2
 ·rintro ⟨h1,hs,h3,h4⟩;simp only [tOk,Bool.and_eq_true,decide_eq_true_eq];refine ⟨h1,okA0.2 fun j hj=>?_⟩;have he:=h3 _ (List.getElem_mem hj);simp only [eok,Bool.and_eq_true] at he;simp only [ok1,Bool.and_eq_true];refine ⟨he.1,he.2.1,he.2.2,?_,by rw [key hj hs he.1]; exact h4 _ (List.getElem_mem hj)⟩;cases j with
  | zero=>rfl
  | succ j =>
   have hl:(t.take (j+1)).getLast? = some t[j]:=by
    rw [List.getLast?_take,if_neg (by omega),List.getElem?_eq_getElem (by omega)]; rfl
   rw [hl];exact yu.1 hs j hj
def mok (m:Mark):Bool:=(decide (1≤m.kind)&&decide (m.kind≤4))&&(pOk m.path&&(jO m.data&&!(m.kind != 1&&m.data != [])))
theorem qd {m:Mark} (h:mok m=true):pOk m.path=true:=by
 simp only [mok,Bool.and_eq_true] at h; exact h.2.1
theorem zU {l:List Mark}:lOk l=true↔l.length≤32∧Srt Mark.path l∧(∀ m∈l,mok m=true)∧(∀ m∈l,inD l m.path=true)∧∀ m∈l,2 < m.kind→zJ l m.path=false:=by
 have k1:∀ {j} (h:j < l.length),Srt Mark.path l→pOk l[j].path=true→inD (l.take j) l[j].path=inD l l[j].path:=by
  intro j h hs hp;unfold inD kind;by_cases hu:pUp l[j].path=[47]
  ·simp [hu]
  ·have:zv (l.take j) (pUp l[j].path)=zv l (pUp l[j].path):=YV hs h (zeo hp hu);rw [this]
 have k2:∀ {j} (h:j < l.length),Srt Mark.path l→(∀ m∈l,mok m=true)→zJ (l.take j) l[j].path=zJ l l[j].path:=by
  intro j h hs hm;refine zex hs h fun m hmem hq=>?_
  simp only [Bool.and_eq_true] at hq;exact zem hq.2 (Zk (qd (hm m hmem)))
 constructor
 ·intro h;simp only [lOk,Bool.and_eq_true,decide_eq_true_eq] at h;have h2:=QT.1 h.2;have hs:Srt Mark.path l:=yu.2 fun j hj=>by
   have:=h2 (j+1) hj;simp only [zV,Bool.and_eq_true] at this;have:=this.2.2.2.2.1;have hl:(l.take (j+1)).getLast? = some l[j]:=by
    rw [List.getLast?_take,if_neg (by omega),List.getElem?_eq_getElem (by omega)]; rfl
   rw [qJ,hl] at this;exact this
  have hm:∀ m∈l,mok m=true:=fun m hm=>by
   obtain ⟨j,hj,rfl⟩:=List.mem_iff_getElem.1 hm;have:=h2 j hj;simp only [zV,Bool.and_eq_true] at this;simp only [mok,Bool.and_eq_true];exact ⟨this.1,this.2.1,this.2.2.1,this.2.2.2.1⟩
  refine ⟨h.1,hs,hm,fun m he=>?_,fun m he hk=>?_⟩
  ·obtain ⟨j,hj,rfl⟩:=List.mem_iff_getElem.1 he;have:=h2 j hj;simp only [zV,Bool.and_eq_true] at this;rw [← k1 hj hs this.2.1];exact this.2.2.2.2.2.1
  ·obtain ⟨j,hj,rfl⟩:=List.mem_iff_getElem.1 he;have:=h2 j hj;simp only [zV,Bool.and_eq_true] at this;have:=this.2.2.2.2.2.2;rw [k2 hj hs hm] at this
   simpa [hk] using this
 ·rintro ⟨h1,hs,h3,h4,h5⟩;simp only [lOk,Bool.and_eq_true,decide_eq_true_eq];refine ⟨h1,QT.2 fun j hj=>?_⟩;have he:=h3 _ (List.getElem_mem hj);simp only [mok,Bool.and_eq_true] at he;simp only [zV,Bool.and_eq_true];refine ⟨he.1,he.2.1,he.2.2.1,he.2.2.2,?_,by rw [k1 hj hs he.2.1]; exact h4 _ (List.getElem_mem hj),?_⟩
  ·unfold qJ;cases j with
   | zero=>rfl
   | succ j =>
    have hl:(l.take (j+1)).getLast? = some l[j]:=by
     rw [List.getLast?_take,if_neg (by omega),List.getElem?_eq_getElem (by omega)]; rfl
    rw [hl];exact yu.1 hs j hj
  ·rw [k2 hj hs h3];by_cases hk:2 < l[j].kind
   ·rw [h5 _ (List.getElem_mem hj) hk]; simp
   ·simp [hk]
theorem Zs {p u d:Str} (hd:d≠[47]) (hu:u≠[47]) (h1:und p u=true) (h2:und u d=true):und p d=true:=by
 unfold und at h1 h2 ⊢;simp only [Bool.or_eq_true,beq_iff_eq,List.isPrefixOf_iff_prefix] at h1 h2 ⊢;rcases h1 with h1 | ⟨r,h1⟩
 ·exact absurd h1 hu
 rcases h2 with h2 | ⟨s,h2⟩
 ·exact absurd h2 hd
 right;exact ⟨s++[47]++r,by rw [← h1,← h2]; simp⟩
theorem qP {p:Str} (h:pOk p=true):und p (pUp p)=true:=by
 obtain ⟨a,l,e,_,_,_,_,_,_,hup⟩:=Zm h;unfold und;by_cases ha:a=[]
 ·rw [if_pos ha] at hup; simp [hup]
 ·rw [if_neg ha] at hup;simp only [Bool.or_eq_true,List.isPrefixOf_iff_prefix];right;exact ⟨l,by rw [hup]; (conv=>rhs; rw [e]); simp⟩
theorem zek {p d:Str} (h:pOk p=true) (hd:pOk d=true) (hu:und p d=true):pUp p=d∨(pUp p≠[47]∧pOk (pUp p)=true∧und (pUp p) d=true):=by
 have hdr:=Zk hd;unfold und at hu;simp only [Bool.or_eq_true,beq_iff_eq,List.isPrefixOf_iff_prefix] at hu;rcases hu with hu | ⟨r,hu⟩
 ·exact absurd hu hdr
 obtain ⟨a,l,e,hl,_,_,_,_,_,hup⟩:=Zm h;have e2:d++47::r=a++47::l:=by rw [← e,← hu]; simp
 have hda:d=a∨∃ s,a=d++47::s:=by
  rcases List.append_eq_append_iff.1 e2 with ⟨s,h1,h2⟩ | ⟨s,h1,h2⟩
  ·cases s with
   | nil=>left; rw [h1]; simp
   | cons x s =>
    rw [List.cons_append,List.cons.injEq] at h2;obtain ⟨rfl,h2⟩:=h2;exact .inr ⟨s,h1⟩
  ·cases s with
   | nil=>left; rw [h1]; simp
   | cons x s =>
    rw [List.cons_append,List.cons.injEq] at h2;obtain ⟨rfl,h2⟩:=h2;exact absurd (by rw [h2]; simp) hl
 have ha:a≠[]:=by
  rintro rfl;rcases hda with h1 | ⟨s,h1⟩
  ·subst h1; have:=(j2 hd).1; simp at this
  ·simp at h1
 rw [if_neg ha] at hup;rcases hda with rfl | ⟨s,hs⟩
 ·exact .inl hup
 ·right;have hne:pUp p≠[47]:=by
   rw [hup,hs];have h1:=(j2 hd).1;intro e; have:=congrArg List.length e; simp at this; omega
  refine ⟨hne,(qM h hne).1,?_⟩;unfold und;simp only [Bool.or_eq_true,List.isPrefixOf_iff_prefix];right;exact ⟨s,by rw [hup,hs]; simp⟩
theorem jt {t:List Ent} {p:Str} (h:pOk p=true):get t p=find t p:=by
 unfold get; rw [if_neg (Zk h)]
theorem zcy {t:List Ent}:zF t [47]=true:=rfl
end Go.Proofs.YtmkmldepkponaaaGreatDoor

namespace Go.Proofs
open Go.Shelf
def Tryz.lays156_ren:Go.Shelf.Ren:=⟨fun | 156=>158 | 165=>173 | 166=>174 | 169=>175 | 240=>198 | 241=>199 | 276=>211 | 277=>212 | n=>n,fun | 31=>99 | 9=>9 | 3=>3 | 4=>4 | 0=>0 | 20=>20 | 72=>159 | 76=>163 | 70=>157 | 37=>22 | 75=>162 | 127=>185 | 164=>195 | 5=>5 | 80=>165 | n=>n,fun | n=>n⟩
theorem Tryz.lays156:Go.Proofs.Lays.n156 Tryz.prog Tryz.lays156_ren:={
 mixed:=by kernel_rfl
 f156:=Tryz.func158.trans (congrArg some (by kernel_rfl))
 f165:=Tryz.func173.trans (congrArg some (by kernel_rfl))
 f166:=Tryz.func174.trans (congrArg some (by kernel_rfl))
 f169:=Tryz.func175.trans (congrArg some (by kernel_rfl))
 f240:=Tryz.func198.trans (congrArg some (by kernel_rfl))
 f241:=Tryz.func199.trans (congrArg some (by kernel_rfl))
 f276:=Tryz.func211.trans (congrArg some (by kernel_rfl))
 f277:=Tryz.func212.trans (congrArg some (by kernel_rfl))
 t0:=Tryz.underlying0
 a0:=Tryz.isAgg0
 z0:=Tryz.sizeOf0
 v0:=Tryz.zeroValue0
 t3:=Tryz.underlying3
 a3:=Tryz.isAgg3
 z3:=Tryz.sizeOf3
 v3:=Tryz.zeroValue3
 t4:=Tryz.underlying4
 a4:=Tryz.isAgg4
 z4:=Tryz.sizeOf4
 v4:=Tryz.zeroValue4
 t9:=Tryz.underlying9
 a9:=Tryz.isAgg9
 z9:=Tryz.sizeOf9
 v9:=Tryz.zeroValue9
 t20:=Tryz.underlying20
 a20:=Tryz.isAgg20
 z20:=Tryz.sizeOf20
 v20:=Tryz.zeroValue20
 t31:=Tryz.underlying99
 a31:=Tryz.isAgg99
 z31:=Tryz.sizeOf99
 v31:=Tryz.zeroValue99
 t37:=Tryz.underlying22
 a37:=Tryz.isAgg22
 z37:=Tryz.sizeOf22
 v37:=Tryz.zeroValue22
 t70:=Tryz.underlying157
 a70:=Tryz.isAgg157
 z70:=Tryz.sizeOf157
 v70:=Tryz.zeroValue157
 t72:=Tryz.underlying159
 a72:=Tryz.isAgg159
 z72:=Tryz.sizeOf159
 v72:=Tryz.zeroValue159
 t75:=Tryz.underlying162
 a75:=Tryz.isAgg162
 z75:=Tryz.sizeOf162
 v75:=Tryz.zeroValue162
 t76:=Tryz.underlying163
 a76:=Tryz.isAgg163
 z76:=Tryz.sizeOf163
 v76:=Tryz.zeroValue163
 t127:=Tryz.underlying185
 a127:=Tryz.isAgg185
 z127:=Tryz.sizeOf185
 v127:=Tryz.zeroValue185
 t164:=Tryz.underlying195
 a164:=Tryz.isAgg195
 z164:=Tryz.sizeOf195
 v164:=Tryz.zeroValue195 }
theorem Tryz.Builder_Extra_156:Builder.Extra Tryz.prog Tryz.lays156_ren:={
 sizeBuilder:=by kernel_rfl
 liesBuilder:=by kernel_rfl
 t5:=Tryz.underlying5
 a5:=Tryz.isAgg5
 z5:=Tryz.sizeOf5
 v5:=Tryz.zeroValue5
 infoByte:=by kernel_rfl
 cellsByte:=by kernel_rfl
 sizeByte:=by kernel_rfl
 neB5:=by decide }
open Go.RowKit in
theorem Tryz.strings_Join_none (a:Option Addr) (c:Nat) (sep:ByteArray) (w:World) :
  Calls Tryz.prog 158 #[.slice a 0 c,.string sep] w fun e w'=>e = .returned (.string ⟨#[]⟩)∧w'=w:=Any.strings_Join_none Tryz.lays156 Tryz.Builder_Extra_156 a c sep w
open Go.RowKit in
theorem Tryz.strings_Join (bk o c:Nat) (xs:List ByteArray) (sep:ByteArray) (w:World) (hcells:∀ (j:Nat) x,xs[j]? = some x→w.cell? ⟨bk,o+j,none⟩=some (.string x)) (hbk:bk < w.heap.size) (hN:xs.length≤140737488355328) (hcap:xs.length≤c) (hlen:(Lib.join (xs.map (·.data.toList)) sep.data.toList).length≤140737488355328) :
  Calls Tryz.prog 158 #[.slice (some ⟨bk,o,none⟩) xs.length c,.string sep] w fun e w'=>e = .returned (.string ⟨(Lib.join (xs.map (·.data.toList)) sep.data.toList).toArray⟩)∧Below w.heap.size w w':=Any.strings_Join Tryz.lays156 Tryz.Builder_Extra_156 bk o c xs sep w hcells hbk hN hcap hlen
def Tryz.lays146_ren:Go.Shelf.Ren:=⟨fun | 146=>171 | 221=>197 | 268=>208 | 138=>209 | 143=>210 | 195=>215 | 197=>216 | 218=>217 | 219=>218 | 260=>219 | 217=>220 | 225=>221 | 224=>222 | 267=>223 | 266=>224 | 314=>225 | n=>n,fun | 9=>9 | 31=>99 | 3=>3 | 4=>4 | 0=>0 | 105=>202 | 21=>21 | 5=>5 | 46=>153 | 119=>205 | 139=>208 | 138=>207 | 146=>209 | 51=>176 | n=>n,fun | 1=>0 | 3=>1 | 4=>2 | n=>n⟩
theorem Tryz.lays146:Go.Proofs.Lays.n146 Tryz.prog Tryz.lays146_ren:={
 mixed:=by kernel_rfl
 f138:=Tryz.func209.trans (congrArg some (by kernel_rfl))
 f143:=Tryz.func210.trans (congrArg some (by kernel_rfl))
 f146:=Tryz.func171.trans (congrArg some (by kernel_rfl))
 f195:=Tryz.func215.trans (congrArg some (by kernel_rfl))
 f197:=Tryz.func216.trans (congrArg some (by kernel_rfl))
 f217:=Tryz.func220.trans (congrArg some (by kernel_rfl))
 f218:=Tryz.func217.trans (congrArg some (by kernel_rfl))
 f219:=Tryz.func218.trans (congrArg some (by kernel_rfl))
 f221:=Tryz.func197.trans (congrArg some (by kernel_rfl))
 f224:=Tryz.func222.trans (congrArg some (by kernel_rfl))
 f225:=Tryz.func221.trans (congrArg some (by kernel_rfl))
 f260:=Tryz.func219.trans (congrArg some (by kernel_rfl))
 f266:=Tryz.func224.trans (congrArg some (by kernel_rfl))
 f267:=Tryz.func223.trans (congrArg some (by kernel_rfl))
 f268:=Tryz.func208.trans (congrArg some (by kernel_rfl))
 f314:=Tryz.func225.trans (congrArg some (by kernel_rfl))
 t0:=Tryz.underlying0
 a0:=Tryz.isAgg0
 z0:=Tryz.sizeOf0
 v0:=Tryz.zeroValue0
 t3:=Tryz.underlying3
 a3:=Tryz.isAgg3
 z3:=Tryz.sizeOf3
 v3:=Tryz.zeroValue3
 t4:=Tryz.underlying4
 a4:=Tryz.isAgg4
 z4:=Tryz.sizeOf4
 v4:=Tryz.zeroValue4
 t5:=Tryz.underlying5
 a5:=Tryz.isAgg5
 z5:=Tryz.sizeOf5
 v5:=Tryz.zeroValue5
 t9:=Tryz.underlying9
 a9:=Tryz.isAgg9
 z9:=Tryz.sizeOf9
 v9:=Tryz.zeroValue9
 t21:=Tryz.underlying21
 a21:=Tryz.isAgg21
 z21:=Tryz.sizeOf21
 v21:=Tryz.zeroValue21
 t31:=Tryz.underlying99
 a31:=Tryz.isAgg99
 z31:=Tryz.sizeOf99
 v31:=Tryz.zeroValue99
 t46:=Tryz.underlying153
 a46:=Tryz.isAgg153
 z46:=Tryz.sizeOf153
 v46:=Tryz.zeroValue153
 t51:=Tryz.underlying176
 a51:=Tryz.isAgg176
 z51:=Tryz.sizeOf176
 v51:=Tryz.zeroValue176
 t105:=Tryz.underlying202
 a105:=Tryz.isAgg202
 z105:=Tryz.sizeOf202
 v105:=Tryz.zeroValue202
 t119:=Tryz.underlying205
 a119:=Tryz.isAgg205
 z119:=Tryz.sizeOf205
 t138:=Tryz.underlying207
 a138:=Tryz.isAgg207
 z138:=Tryz.sizeOf207
 v138:=Tryz.zeroValue207
 t139:=Tryz.underlying208
 a139:=Tryz.isAgg208
 z139:=Tryz.sizeOf208
 v139:=Tryz.zeroValue208
 t146:=Tryz.underlying209
 a146:=Tryz.isAgg209
 z146:=Tryz.sizeOf209
 v146:=Tryz.zeroValue209
 g1:=by kernel_rfl
 g3:=by kernel_rfl
 g4:=by kernel_rfl }
open Go.RowKit Go.Lib in
theorem Tryz.strings_Split (s sep:ByteArray) (m:Int) (w:World) (hs:s.size < 4294967281) (hm:w.cell? ⟨0,0,none⟩=some (.int .i64 m)) (h1:1≤sep.size) :
  Calls Tryz.prog 171 #[.string s,.string sep] w fun e w' =>
   e = .returned (.slice (some ⟨w.heap.size,0,none⟩) (Lib.countB s sep+1) (Lib.countB s sep+1))∧w'=w.alloc (.cells ((Lib.splitB sep 0 (Lib.countB s sep) s).map Value.string).toArray 9):=Any.strings_Split Tryz.lays146 (by kernel_rfl) s sep m w hs hm h1
def Tryz.sortE_ren:Go.Shelf.Ren:=⟨fun | 6=>155 | 15=>165 | 14=>170 | 28=>186 | 29=>187 | 20=>189 | 21=>190 | 22=>191 | 23=>192 | 24=>193 | 25=>194 | 26=>195 | 27=>196 | 46=>205 | 47=>201 | 48=>202 | 49=>206 | 50=>207 | 57=>214 | n=>n,fun | 22=>23 | 24=>77 | 25=>146 | 3=>3 | 39=>153 | 0=>0 | 53=>176 | 55=>178 | 4=>4 | 46=>169 | 45=>168 | 50=>173 | 5=>5 | 9=>9 | 66=>186 | 70=>190 | 76=>198 | 77=>199 | n=>n,fun | n=>n⟩
theorem Tryz.sortE:Go.Proofs.SlLaysF0.n6 Tryz.prog Tryz.sortE_ren:={
 mixed:=by kernel_rfl
 f6:=⟨Tryz.f155.name,by decide,Tryz.func155.trans (congrArg some (by kernel_rfl))⟩
 f14:=⟨Tryz.f170.name,by decide,Tryz.func170.trans (congrArg some (by kernel_rfl))⟩
 f15:=Tryz.func165.trans (congrArg some (by kernel_rfl))
 f20:=⟨Tryz.f189.name,by decide,Tryz.func189.trans (congrArg some (by kernel_rfl))⟩
 f21:=⟨Tryz.f190.name,by decide,Tryz.func190.trans (congrArg some (by kernel_rfl))⟩
 f22:=⟨Tryz.f191.name,by decide,Tryz.func191.trans (congrArg some (by kernel_rfl))⟩
 f23:=⟨Tryz.f192.name,by decide,Tryz.func192.trans (congrArg some (by kernel_rfl))⟩
 f24:=⟨Tryz.f193.name,by decide,Tryz.func193.trans (congrArg some (by kernel_rfl))⟩
 f25:=⟨Tryz.f194.name,by decide,Tryz.func194.trans (congrArg some (by kernel_rfl))⟩
 f26:=⟨Tryz.f195.name,by decide,Tryz.func195.trans (congrArg some (by kernel_rfl))⟩
 f27:=⟨Tryz.f196.name,by decide,Tryz.func196.trans (congrArg some (by kernel_rfl))⟩
 f28:=Tryz.func186.trans (congrArg some (by kernel_rfl))
 f29:=Tryz.func187.trans (congrArg some (by kernel_rfl))
 f46:=⟨Tryz.f205.name,by decide,Tryz.func205.trans (congrArg some (by kernel_rfl))⟩
 f47:=Tryz.func201.trans (congrArg some (by kernel_rfl))
 f48:=Tryz.func202.trans (congrArg some (by kernel_rfl))
 f49:=⟨Tryz.f206.name,by decide,Tryz.func206.trans (congrArg some (by kernel_rfl))⟩
 f50:=⟨Tryz.f207.name,by decide,Tryz.func207.trans (congrArg some (by kernel_rfl))⟩
 f57:=⟨Tryz.f214.name,by decide,Tryz.func214.trans (congrArg some (by kernel_rfl))⟩
 t0:=Tryz.underlying0
 a0:=Tryz.isAgg0
 z0:=Tryz.sizeOf0
 v0:=Tryz.zeroValue0
 t3:=Tryz.underlying3
 a3:=Tryz.isAgg3
 z3:=Tryz.sizeOf3
 v3:=Tryz.zeroValue3
 t4:=Tryz.underlying4
 a4:=Tryz.isAgg4
 z4:=Tryz.sizeOf4
 v4:=Tryz.zeroValue4
 t5:=Tryz.underlying5
 a5:=Tryz.isAgg5
 z5:=Tryz.sizeOf5
 v5:=Tryz.zeroValue5
 t9:=Tryz.underlying9
 a9:=Tryz.isAgg9
 z9:=Tryz.sizeOf9
 v9:=Tryz.zeroValue9
 t22:=Tryz.underlying23
 a22:=Tryz.isAgg23
 z22:=Tryz.sizeOf23
 v22:=Tryz.zeroValue23
 t25:=Tryz.underlying146
 a25:=Tryz.isAgg146
 z25:=Tryz.sizeOf146
 v25:=Tryz.zeroValue146
 t39:=Tryz.underlying153
 a39:=Tryz.isAgg153
 z39:=Tryz.sizeOf153
 v39:=Tryz.zeroValue153
 t45:=Tryz.underlying168
 a45:=Tryz.isAgg168
 z45:=Tryz.sizeOf168
 v45:=Tryz.zeroValue168
 t46:=Tryz.underlying169
 a46:=Tryz.isAgg169
 z46:=Tryz.sizeOf169
 v46:=Tryz.zeroValue169
 t50:=Tryz.underlying173
 a50:=Tryz.isAgg173
 z50:=Tryz.sizeOf173
 v50:=Tryz.zeroValue173
 t53:=Tryz.underlying176
 a53:=Tryz.isAgg176
 z53:=Tryz.sizeOf176
 v53:=Tryz.zeroValue176
 t55:=Tryz.underlying178
 a55:=Tryz.isAgg178
 z55:=Tryz.sizeOf178
 v55:=Tryz.zeroValue178
 t66:=Tryz.underlying186
 a66:=Tryz.isAgg186
 z66:=Tryz.sizeOf186
 v66:=Tryz.zeroValue186
 t70:=Tryz.underlying190
 a70:=Tryz.isAgg190
 z70:=Tryz.sizeOf190
 v70:=Tryz.zeroValue190
 t76:=Tryz.underlying198
 a76:=Tryz.isAgg198
 z76:=Tryz.sizeOf198
 v76:=Tryz.zeroValue198
 t77:=Tryz.underlying199
 a77:=Tryz.isAgg199
 z77:=Tryz.sizeOf199
 v77:=Tryz.zeroValue199 }
def Tryz.sortM_ren:Go.Shelf.Ren:=⟨fun | 6=>140 | 15=>165 | 14=>164 | 28=>186 | 29=>187 | 20=>178 | 21=>179 | 22=>180 | 23=>181 | 24=>182 | 25=>183 | 26=>184 | 27=>185 | 46=>200 | 47=>201 | 48=>202 | 49=>203 | 50=>204 | 57=>213 | n=>n,fun | 22=>25 | 24=>34 | 25=>142 | 3=>3 | 39=>153 | 0=>0 | 53=>176 | 55=>178 | 4=>4 | 46=>169 | 45=>168 | 50=>173 | 5=>5 | 9=>9 | 66=>186 | 70=>190 | 76=>198 | 77=>199 | n=>n,fun | n=>n⟩
theorem Tryz.sortM:Go.Proofs.SlLaysF0.n6 Tryz.prog Tryz.sortM_ren:={
 mixed:=by kernel_rfl
 f6:=⟨Tryz.f140.name,by decide,Tryz.func140.trans (congrArg some (by kernel_rfl))⟩
 f14:=⟨Tryz.f164.name,by decide,Tryz.func164.trans (congrArg some (by kernel_rfl))⟩
 f15:=Tryz.func165.trans (congrArg some (by kernel_rfl))
 f20:=⟨Tryz.f178.name,by decide,Tryz.func178.trans (congrArg some (by kernel_rfl))⟩
 f21:=⟨Tryz.f179.name,by decide,Tryz.func179.trans (congrArg some (by kernel_rfl))⟩
 f22:=⟨Tryz.f180.name,by decide,Tryz.func180.trans (congrArg some (by kernel_rfl))⟩
 f23:=⟨Tryz.f181.name,by decide,Tryz.func181.trans (congrArg some (by kernel_rfl))⟩
 f24:=⟨Tryz.f182.name,by decide,Tryz.func182.trans (congrArg some (by kernel_rfl))⟩
 f25:=⟨Tryz.f183.name,by decide,Tryz.func183.trans (congrArg some (by kernel_rfl))⟩
 f26:=⟨Tryz.f184.name,by decide,Tryz.func184.trans (congrArg some (by kernel_rfl))⟩
 f27:=⟨Tryz.f185.name,by decide,Tryz.func185.trans (congrArg some (by kernel_rfl))⟩
 f28:=Tryz.func186.trans (congrArg some (by kernel_rfl))
 f29:=Tryz.func187.trans (congrArg some (by kernel_rfl))
 f46:=⟨Tryz.f200.name,by decide,Tryz.func200.trans (congrArg some (by kernel_rfl))⟩
 f47:=Tryz.func201.trans (congrArg some (by kernel_rfl))
 f48:=Tryz.func202.trans (congrArg some (by kernel_rfl))
 f49:=⟨Tryz.f203.name,by decide,Tryz.func203.trans (congrArg some (by kernel_rfl))⟩
 f50:=⟨Tryz.f204.name,by decide,Tryz.func204.trans (congrArg some (by kernel_rfl))⟩
 f57:=⟨Tryz.f213.name,by decide,Tryz.func213.trans (congrArg some (by kernel_rfl))⟩
 t0:=Tryz.underlying0
 a0:=Tryz.isAgg0
 z0:=Tryz.sizeOf0
 v0:=Tryz.zeroValue0
 t3:=Tryz.underlying3
 a3:=Tryz.isAgg3
 z3:=Tryz.sizeOf3
 v3:=Tryz.zeroValue3
 t4:=Tryz.underlying4
 a4:=Tryz.isAgg4
 z4:=Tryz.sizeOf4
 v4:=Tryz.zeroValue4
 t5:=Tryz.underlying5
 a5:=Tryz.isAgg5
 z5:=Tryz.sizeOf5
 v5:=Tryz.zeroValue5
 t9:=Tryz.underlying9
 a9:=Tryz.isAgg9
 z9:=Tryz.sizeOf9
 v9:=Tryz.zeroValue9
 t22:=Tryz.underlying25
 a22:=Tryz.isAgg25
 z22:=Tryz.sizeOf25
 v22:=Tryz.zeroValue25
 t25:=Tryz.underlying142
 a25:=Tryz.isAgg142
 z25:=Tryz.sizeOf142
 v25:=Tryz.zeroValue142
 t39:=Tryz.underlying153
 a39:=Tryz.isAgg153
 z39:=Tryz.sizeOf153
 v39:=Tryz.zeroValue153
 t45:=Tryz.underlying168
 a45:=Tryz.isAgg168
 z45:=Tryz.sizeOf168
 v45:=Tryz.zeroValue168
 t46:=Tryz.underlying169
 a46:=Tryz.isAgg169
 z46:=Tryz.sizeOf169
 v46:=Tryz.zeroValue169
 t50:=Tryz.underlying173
 a50:=Tryz.isAgg173
 z50:=Tryz.sizeOf173
 v50:=Tryz.zeroValue173
 t53:=Tryz.underlying176
 a53:=Tryz.isAgg176
 z53:=Tryz.sizeOf176
 v53:=Tryz.zeroValue176
 t55:=Tryz.underlying178
 a55:=Tryz.isAgg178
 z55:=Tryz.sizeOf178
 v55:=Tryz.zeroValue178
 t66:=Tryz.underlying186
 a66:=Tryz.isAgg186
 z66:=Tryz.sizeOf186
 v66:=Tryz.zeroValue186
 t70:=Tryz.underlying190
 a70:=Tryz.isAgg190
 z70:=Tryz.sizeOf190
 v70:=Tryz.zeroValue190
 t76:=Tryz.underlying198
 a76:=Tryz.isAgg198
 z76:=Tryz.sizeOf198
 v76:=Tryz.zeroValue198
 t77:=Tryz.underlying199
 a77:=Tryz.isAgg199
 z77:=Tryz.sizeOf199
 v77:=Tryz.zeroValue199 }
end Go.Proofs

namespace Go.Proofs.YtmkmldepkponaaaGreatDoor
set_option linter.unusedSimpArgs false
set_option linter.unusedVariables false
open Go Go.RowKit
theorem zcA {c:UInt8}:∀ {a:Str} (b:Str),c ∉ a→Lib.index (a++c::b) [c]=(a.length:Int)
 | [],b,_=>by simp [Lib.index]
 | x::a,b,h=>by
  simp only [List.mem_cons,not_or] at h;have ih:=zcA (a:=a) b h.2;rw [List.cons_append,Lib.index,ih];have e:[c].isPrefixOf (x::(a++c::b))=false:=by simp [List.isPrefixOf,h.1]
  rw [e];simp
theorem zdW {c:UInt8}:∀ (k:Nat) (s:Str),s.count c=k→Lib.splitK [c] 0 k s=cut c s
 | 0,s,h=>by rw [Lib.splitK,Qk (List.count_eq_zero.1 h)]
 | k+1,s,h=>by
  have hm:c∈s:=List.count_pos_iff.1 (by omega);obtain ⟨a,b,e,ha⟩:=List.eq_append_cons_of_mem hm;subst e;have hb:b.count c=k:=by
   rw [List.count_append,List.count_eq_zero.2 ha,List.count_cons_self] at h; omega
  rw [Lib.splitK,zcA b ha,if_neg (by simp),Qj b ha];have e1:((a.length:Int).toNat+0)=a.length:=by simp
  have e2:((a.length:Int).toNat+[c].length)=a.length+1:=by simp
  rw [e1,e2,List.take_left,List.drop_append,List.drop_of_length_le (by omega)];have e3:a.length+1 - a.length=1:=by omega
  rw [e3];simp only [List.drop_succ_cons,List.drop_zero,List.nil_append];rw [zdW k b hb]
theorem zbg (c:UInt8):∀ (s:Str),∀ n∈cut c s,n.length≤s.length
 | [],n,h=>by simp [cut] at h; simp [h]
 | b::t,n,h=>by
  have ih:=zbg c t;unfold cut at h;split at h
  ·rcases List.mem_cons.1 h with rfl | h
   ·simp
   ·have:=ih n h; simp; omega
  ·split at h
   ·simp at h; subst h; simp
   ·rename_i x r hc;rw [hc] at ih;rcases List.mem_cons.1 h with rfl | h
    ·have:=ih x (by simp); simp; omega
    ·have:=ih n (by simp [h]); simp; omega
def HM (W0:World):Prop:=∃ m,W0.cell? ⟨0,0,none⟩=some (.int .i64 m)
theorem ziw (W0:World) (hM:HM W0) (s:Str) (hs:s.length≤1000000):Fn Tryz.prog W0 171 [CS s,CS [47]] (.c (jy (cut 47 s))) []:=by
 intro κ w vs hB hm hr;obtain ⟨v1,v2,hvs⟩:∃ v1 v2,vs.toList=[v1,v2]:=by
  have:=za.length hr
  match h:vs.toList with
  | [a,b]=>exact ⟨a,b,rfl⟩
  | [] | [_] | _::_::_::_=>rw [h] at this; simp at this
 rw [hvs] at hr;obtain ⟨r1,r2,_⟩:=hr;cases r1 with | sc _=>?_
 cases r2 with | sc _=>?_
 have hv:vs=#[.string ⟨⟨s⟩⟩,.string ⟨⟨[47]⟩⟩]:=by rw [← hvs]
 subst hv;obtain ⟨m,hc⟩:=hM;have hc':w.cell? ⟨0,0,none⟩=some (.int .i64 m):=by
  rw [y1 (hB.block 0 (yx hc))]; exact hc
 refine (Tryz.strings_Split ⟨⟨s⟩⟩ ⟨⟨[47]⟩⟩ m w (by show s.length < _; omega) hc' (by decide)).mono ?_;rintro e w' ⟨rfl,rfl⟩;have hcount:Lib.countB ⟨⟨s⟩⟩ ⟨⟨[47]⟩⟩=s.count 47:=Lib.count_one 47 s;have hsp:(Lib.splitB ⟨⟨[47]⟩⟩ 0 (Lib.countB ⟨⟨s⟩⟩ ⟨⟨[47]⟩⟩) ⟨⟨s⟩⟩).map (·.data.toList)=cut 47 s:=by
  rw [Lib.splitB_data,hcount]; exact zdW _ s rfl
 generalize hL:Lib.splitB ⟨⟨[47]⟩⟩ 0 (Lib.countB ⟨⟨s⟩⟩ ⟨⟨[47]⟩⟩) ⟨⟨s⟩⟩=L at hsp;have hlen:L.length=Lib.countB ⟨⟨s⟩⟩ ⟨⟨[47]⟩⟩+1:=by rw [← hL]; exact Lib.splitB_all _ (by decide) 0 _ _ rfl
 have hn:L.length=(cut 47 s).length:=by rw [← hsp,List.length_map]
 have hle:s.count 47≤s.length:=List.count_le_length;refine ⟨_,_,[],κ,rfl,⟨rfl,rfl⟩,hm.below (Zw w _),?_⟩;rw [← hlen,hn];have hrow:(jy (cut 47 s)) = .row ((cut 47 s).map CS):=rfl;have hcells:((cut 47 s).map CS).flatMap CV.cells=(cut 47 s).map CS:=by
  generalize cut 47 s=l;induction l with
  | nil=>rfl
  | cons a l ih=>rw [List.map_cons,List.flatMap_cons,ih]; rfl
 have key:RepC (w.alloc (.cells (L.map Value.string).toArray 9)) (zf κ []) (.row ((cut 47 s).map CS)) (.slice (some ⟨w.heap.size,0,none⟩) ((cut 47 s).map CS).length (cut 47 s).length):=by
  refine .row (sz:=1) (vs:=L.map Value.string) (by simp; exact Yt 47 s) (by omega) (by simp) (by rw [← hn,hlen,hcount]; unfold maxLen; omega) ?_ ?_ ?_ ?_ ?_ ?_
  ·intro h;have:=hm.mem.live_lt h;omega
  ·intro x hx;obtain ⟨a,_,rfl⟩:=List.mem_map.1 hx;rfl
  ·rw [hcells]; simp [hn]
  ·intro i x v hx hv;rw [hcells,← hsp,List.map_map,List.getElem?_map] at hx;rw [List.getElem?_map] at hv;cases hi:L[i]? with
   | none=>rw [hi] at hx; cases hx
   | some y =>
    rw [hi] at hx hv;cases hx; cases hv;refine .sc ?_;have hmem:y.data.toList∈cut 47 s:=by rw [← hsp]; exact List.mem_map_of_mem (List.mem_of_getElem? hi)
    have:=zbg 47 s _ hmem;show y.size≤maxLen;have e:y.size=y.data.toList.length:=by cases y; rfl
    rw [e]; unfold maxLen; omega
  ·intro v hv;obtain ⟨a,_,rfl⟩:=List.mem_map.1 hv;rfl
  ·intro j v hj;rw [jR (ya w rfl _)]
   simpa using hj
 rw [List.length_map] at key;exact key
theorem zkS {w:World} {S:Nat→Prop} {l:List Str} {v:Value} (h:RepC w S (jy l) v):(l=[]∧∃ o cap,v = .slice o 0 cap) ∨
  ∃ b off cap,v = .slice (some ⟨b,off,none⟩) l.length cap∧l.length≤cap∧l≠[]∧∀ (j:Nat) (x:Str),l[j]? = some x→w.cell? ⟨b,off+j,none⟩=some (.string ⟨⟨x⟩⟩):=by
 unfold jy at h;generalize hL:l.map CS=L at h;cases h with
 | nil _=>left; refine ⟨?_,_,_,rfl⟩; simpa using hL
 | @row L b off cap sz vs hne _ hcap _ _ hsz hlen hr _ hc =>
  right;subst hL;have hcells:(l.map CS).flatMap CV.cells=l.map CS:=by
   generalize l=l;induction l with
   | nil=>rfl
   | cons a l ih=>rw [List.map_cons,List.flatMap_cons,ih]; rfl
  refine ⟨b,off,cap,by simp,by simpa using hcap,by simpa using hne,fun j x hx=>?_⟩;rw [hcells] at hlen hr;have hx':(l.map CS)[j]? = some (CS x):=by rw [List.getElem?_map,hx]; rfl
  have hj:j < vs.length:=by
   rw [← hlen,List.length_map];exact (List.getElem?_eq_some_iff.1 hx).1
  have hv:=hr j _ vs[j] hx' (List.getElem?_eq_getElem hj);have:vs[j] = .string ⟨⟨x⟩⟩:=by
   generalize vs[j]=v at hv;cases hv; rfl
  rw [hc j _ (List.getElem?_eq_getElem hj),this]
def Zc (l:List Str):Str:=Lib.join l [47]
theorem zcE:∀ {l:List Str},l≠[]→jn l=47::Zc l
 | [],h=>absurd rfl h
 | x::r,_=>by
  unfold Zc;rw [Lib.join_cons];have:Lib.joinTail [47] r=jn r:=by
   unfold Lib.joinTail jn;rw [List.flatMap_def]; rfl
  rw [this]; rfl
theorem zcF {l:List Str}:(Zc l).length≤(jn l).length:=by
 cases l with
 | nil=>simp [Zc,Lib.join_nil]
 | cons x r=>rw [zcE (by simp)]; simp
theorem zit (W0:World) (l:List Str) (hl:(jn l).length≤1000000):Fn Tryz.prog W0 158 [jy l,CS [47]] (.c (CS (Zc l))) []:=by
 intro κ w vs hB hm hr;obtain ⟨v1,v2,hvs⟩:∃ v1 v2,vs.toList=[v1,v2]:=by
  have:=za.length hr
  match h:vs.toList with
  | [a,b]=>exact ⟨a,b,rfl⟩
  | [] | [_] | _::_::_::_=>rw [h] at this; simp at this
 rw [hvs] at hr;obtain ⟨r1,r2,_⟩:=hr;cases r2 with | sc _=>?_
 have hll:l.length≤(jn l).length:=by
  clear r1 hl hvs;induction l with
  | nil=>simp
  | cons a l ih=>simp [jn] at ih ⊢; omega
 have fin:∀ r:Str,r.length≤1000000→Rep κ [] w (.c (CS r)) (.string ⟨⟨r⟩⟩):=fun r h=>RepC.sc (by show ByteArray.size _≤maxLen; unfold maxLen; show r.length≤_; omega)
 rcases zkS r1 with ⟨rfl,o,cap,rfl⟩ | ⟨b,off,cap,rfl,hcap,hne,hcells⟩
 ·have hv:vs=#[.slice o 0 cap,.string ⟨⟨[47]⟩⟩]:=by rw [← hvs]
  subst hv;refine (Tryz.strings_Join_none o cap ⟨⟨[47]⟩⟩ w).mono ?_;rintro e w' ⟨rfl,rfl⟩;exact ⟨_,_,[],κ,rfl,⟨rfl,rfl⟩,hm,fin [] (by simp)⟩
 ·have hv:vs=#[.slice (some ⟨b,off,none⟩) l.length cap,.string ⟨⟨[47]⟩⟩]:=by rw [← hvs]
  subst hv;have hbk:b < w.heap.size:=by
   cases l with
   | nil=>exact absurd rfl hne
   | cons x r=>exact yx (hcells 0 x rfl)
  have hmap:(l.map fun x=>(⟨⟨x⟩⟩:ByteArray)).map (·.data.toList)=l:=by rw [List.map_map]; exact List.map_id l
  have hj:(Lib.join ((l.map fun x=>(⟨⟨x⟩⟩:ByteArray)).map (·.data.toList)) (⟨⟨[47]⟩⟩:ByteArray).data.toList)=Zc l:=by rw [hmap]; rfl
  have hjl:=zcF (l:=l);have h:=Tryz.strings_Join b off cap (l.map fun x=>⟨⟨x⟩⟩) ⟨⟨[47]⟩⟩ w (fun j x hx=>by
   rw [List.getElem?_map] at hx;cases hi:l[j]? with
   | none=>rw [hi] at hx; cases hx
   | some y=>rw [hi] at hx; cases hx; exact hcells j y hi) hbk (by simp; omega) (by simpa using hcap) (by rw [hj]; omega)
  rw [hj,List.length_map] at h;refine h.mono ?_;rintro e w' ⟨rfl,hw⟩;exact ⟨_,_,[],κ,rfl,⟨rfl,rfl⟩,hm.below hw,RepC.sc (by show ByteArray.size _≤maxLen; unfold maxLen; show (Zc l).length≤_; omega)⟩
end Go.Proofs.YtmkmldepkponaaaGreatDoor

namespace Go.Proofs.YtmkmldepkponaaaGreatDoor
set_option linter.unusedSimpArgs false
set_option linter.unusedVariables false
open Go Go.RowKit
theorem mixed:Tryz.prog.follows .mixedOrders=true:=by kernel_rfl
end Go.Proofs.YtmkmldepkponaaaGreatDoor

namespace Go.Proofs.YtmkmldepkponaaaGreatDoor
set_option linter.unusedSimpArgs false
set_option linter.unusedVariables false
open Go Go.RowKit
def zfr:XC:=(.s (.r [.m1 2 .n]) (.s (.s (.r [.mv 4 0,.ex 5 (.len true 4),.b1 6 .lss 5 (.i 1),.mv 7 6,.h3 8 0 7,.gf 9 (.len true 8) 7,.gf 10 (.bin .gtr 9 (.i 3)) 7,.p1 11 7 10]) (.cnd 11 (.rf 2) .skip)) (.s (.s (.r [.m1 3 (.i 0)]) (.blk 0 (.loop (.s (.s (.r [.mv 12 3,.mv 13 0,.ex 14 (.len true 13),.b1 15 .lss 12 14]) (.ce 15 0)) (.s (.blk 1 (.s (.r [.mv 18 0,.mv 19 3,.ex 20 (.idx 18 19),.b1 21 .lss 20 (.u 97),.mv 22 21,.h3 23 0 22,.h3 24 3 22,.gf 25 (.idx 23 24) 22,.gf 26 (.bin .gtr 25 (.u 122)) 22,.p1 27 22 26]) (.cnd 27 (.rf 2) .skip))) (.ic 16 17 3)))))) (.rt 2))))
theorem zfs:zh Tryz.prog [] 172=some (zfr.ac,[(.t 2)],28):=by kernel_rfl
theorem ziY (W0:World) (s:Str):Fn Tryz.prog W0 172 [CS s] (.c (CB (jg s))) []:=by
 refine fX mixed zfs fun hg=>?_
 refine dr ?_;apply cP<;>intro h1
 ·refine dr ?_;exact bF (by rw [jg]; simp; omega)
 refine dr ?_;apply cP<;>intro h2
 ·refine dr ?_;exact bF (by rw [jg]; simp; omega)
 refine dr ?_;refine lp (σ:=Nat) (fun k=>[(0,.c (CS s)),(3,I k)]) (fun _=>[]) (fun k=>k≤s.length∧(s.take k).all jl=true) (fun k=>s.length - k) 0 ⟨by simp,by simp⟩ ?_ ?_
 ·refine dr ?_;trivial
 rintro k ⟨hk,ha⟩;refine dr ?_;apply cP<;>intro h3
 ·have hk':k < s.length:=by omega
  have no:jl s[k]=false→CB false=CB (jg s):=fun h=>bF (by rw [jg,y0 hk' h]; rfl)
  refine dr ?_;apply cP<;>intro h4
  ·refine dr ?_;exact no (by simp [jl]; omega)
  ·refine dr ?_;apply cP<;>intro h5
   ·refine dr ?_;exact no (by simp [jl]; omega)
   ·refine dr ?_;refine ⟨k+1,⟨by omega,qg hk' ha (by simp [jl]; omega)⟩,by omega,?_⟩;refine dr ?_;trivial
 ·have:k=s.length:=by omega
  subst this;rw [List.take_length] at ha;refine dr ?_;exact bT (by rw [jg,ha]; simp; omega)
def ZC (s:Str):CV:=if pOk s=true then .tup [jy (names s),CB true] else .tup [jy [],CB false]
def zfv:XC:=(.s (.r [.a2 2 1 9,.m1 3 .n]) (.s (.s (.r [.mv 7 0,.ex 8 (.bin .eql 7 (.s [])),.mv 9 8,.h3 10 0 9,.gf 11 (.idx 10 (.i 0)) 9,.gf 12 (.bin .neq 11 (.u 47)) 9,.p1 13 9 12,.mv 14 13,.h3 15 0 14,.gf 16 (.len true 15) 14,.gf 17 (.bin .gtr 16 (.i 12)) 14,.p1 18 14 17]) (.cnd 18 (.s (.r [.a2 2 1 9,.m1 3 .n]) .ret) .skip)) (.s (.r [.mv 19 0,.ex 20 (.sls 19 (.some (.i 1)) .none),.ex 21 (.call 171 [20,(.s [47])]),.a1 4 21 1 9]) (.s (.s (.r [.mv 22 4,.n1 23 22,.b1 24 .gtr 23 (.i 3)]) (.cnd 24 (.s (.r [.a2 2 1 9,.m1 3 .n]) .ret) .skip)) (.s (.s (.r [.mv 25 4,.n1 26 25,.m1 27 (.i 0)]) (.blk 0 (.loop (.s (.r [.b1 28 .lss 27 26]) (.s (.ce 28 0) (.s (.blk 1 (.s (.r [.i1 29 1 25 27,.l1 30 1 29,.mv 6 30]) (.s (.r [.mv 31 6,.c1 32 172 [31],.u1 33 32]) (.cnd 33 (.s (.r [.a2 2 1 9,.m1 3 .n]) .ret) .skip)))) (.r [.b1 34 .add 27 (.i 1),.mv 27 34]))))))) (.s (.r [.mv 35 4,.a1 2 35 1 9,.m1 3 .y]) .ret))))))
theorem zfw:zh Tryz.prog [] 157=some (zfv.ac,[(.t 2),(.t 3)],36):=by kernel_rfl
theorem zbP (W0:World) (hM:HM W0) (s:Str):Fn Tryz.prog W0 157 [CS s] (.c (ZC s)) []:=by
 refine fX mixed zfw fun hg=>?_
 have no:pOk s=false→CV.tup [jy [],CB false]=ZC s:=fun h=>by rw [ZC,if_neg (by simp [h])]
 refine dr ?_;apply cP<;>intro h1
 ·refine dr ?_;exact no (by rw [h1]; rfl)
 cases hs:s with
 | nil=>exact absurd hs h1
 | cons b t =>
  rw [← hs];have hl:1≤s.length:=by rw [hs]; simp
  refine dr ?_;apply cP<;>intro h2
  ·refine dr ?_;have:s.head? ≠ some 47:=by
    rw [hs];intro e;have:b=47:=by simpa using e
    subst hs; subst this;exact h2 rfl
   exact no (by
    cases hp:pOk s with
    | false=>rfl
    | true=>exact absurd (j2 hp).2.2 this)
  have hb:b=47:=by
   have:(s[0]).toNat=47:=by omega
   subst hs;exact UInt8.toNat_inj.1 this
  refine dr ?_;apply cP<;>intro h3
  ·refine dr ?_;exact no (by
    cases hp:pOk s with
    | false=>rfl
    | true=>have:=(j2 hp).2.1; omega)
  refine dr ?_;repeat ((first|refine sLo 1 rfl (by omega) ?_|refine c0 (ziw W0 hM _ (by simp; omega)) rfl ?_); first|refine dr ?_|exact dz)
  intro hg1;have hd:s.drop 1=t:=by rw [hs]; rfl
  rw [hd] at hg1 ⊢;have hp:pOk s=((cut 47 t).all jg&&((cut 47 t).length≤3)):=by
   have hne:=Yt 47 t;have h1c:1≤(cut 47 t).length:=by
    cases hc:cut 47 t with
    | nil=>exact absurd hc hne
    | cons _ _=>simp
   rw [pOk];by_cases h2:s.length < 2
   ·have ht:t=[]:=by
     rw [hs] at h2;cases t with
     | nil=>rfl
     | cons _ _=>simp at h2; omega
    have:names s=[]:=by rw [names,if_pos (.inl h2)]
    rw [this,ht]; simp [cut,jg]
   ·have:names s=cut 47 t:=by
     rw [names,if_neg (by rw [hs] at h2 ⊢; simp at h2 ⊢; exact ⟨h2,hb⟩),hs]; rfl
    rw [this,Bool.eq_iff_iff]; simp [h1c,show s.length≤12 by omega]
  have hn:pOk s=true→names s=cut 47 t:=fun h=>by
   have h2:=(j2 h);rw [names,if_neg (by simp [h2.2.2]; omega),hs]; rfl
  generalize cut 47 t=l at *;refine dr ?_;apply cP<;>intro h4
  ·refine dr ?_;exact no (by rw [hp]; simp; omega)
  refine dr ?_;refine lp (σ:=Nat) (fun k=>[(4,.c (jy l)),(25,.c (jy l)),(26,I l.length),(27,I k)]) (fun _=>[]) (fun k=>k≤l.length∧(l.take k).all jg=true) (fun k=>l.length - k) 0 ⟨by simp,by simp⟩ ?_ ?_
  ·refine dr ?_;trivial
  rintro k ⟨hk,ha⟩;refine dr ?_;apply cP<;>intro h5
  ·have hk':k < l.length:=by omega
   refine dEr ?_;repeat (refine c0 (ziY W0 _) rfl ?_; first|refine dEr ?_|exact dz)
   apply cP<;>intro h6
   ·refine dr ?_;exact no (by rw [hp,y0 hk' h6]; rfl)
   ·refine dr ?_;refine ⟨k+1,⟨by omega,qg hk' ha h6⟩,by omega,?_⟩;refine dr ?_;trivial
  ·have:k=l.length:=by omega
   subst this;rw [List.take_length] at ha;have hy:pOk s=true:=by rw [hp,ha]; simp; omega
   refine dr ?_;rw [ZC,if_pos hy,hn hy]
def ze3:XC:=(.s (.r [.m1 2 .n]) (.s (.r [.mv 6 0,.c1 7 157 [6],.mv 5 7,.e1 8 5 0,.e1 9 5 1,.a1 3 8 1 9,.mv 4 9]) (.s (.r [.mv 10 4,.mv 2 10]) .ret)))
theorem ze4:zh Tryz.prog [] 123=some (ze3.ac,[(.t 2)],11):=by kernel_rfl
theorem Qt (W0:World) (hM:HM W0) (s:Str):Fn Tryz.prog W0 123 [CS s] (.c (CB (pOk s))) []:=by
 refine fX mixed ze4 fun hg=>?_
 have hc:=zbP W0 hM s;unfold ZC at hc;cases hp:pOk s with
 | true =>
  rw [if_pos hp] at hc;refine dr ?_;repeat (refine c0 hc rfl ?_; first|refine dr ?_|exact dz)
  intro hg1;exact dz
 | false =>
  rw [if_neg (by simp [hp])] at hc;refine dr ?_;repeat (refine c0 hc rfl ?_; first|refine dr ?_|exact dz)
  intro hg1;exact dz
def ze7:XC:=(.s (.r [.ex 2 (.mv (.s []))]) (.s (.r [.mv 6 0,.c1 7 157 [6],.mv 5 7,.e1 8 5 0,.e1 9 5 1,.a1 3 8 1 9,.mv 4 9]) (.s (.s (.r [.mv 10 4,.u1 11 10]) (.cnd 11 (.s (.r [.ex 2 (.mv (.s []))]) .ret) .skip)) (.s (.r [.mv 12 3,.mv 13 3,.n1 14 13,.b1 15 .sub 14 (.i 1),.ex 16 (.slr 1 12 .none (.some 15)),.ex 17 (.call 158 [16,(.s [47])]),.ex 18 (.bin .add (.s [47]) 17),.mv 2 18]) .ret))))
theorem ze8:zh Tryz.prog [] 117=some (ze7.ac,[(.t 2)],19):=by kernel_rfl
theorem ZL (W0:World) (hM:HM W0) (s:Str):Fn Tryz.prog W0 117 [CS s] (.c (CS (pUp s))) []:=by
 refine fX mixed ze8 fun hg=>?_
 have hc:=zbP W0 hM s;unfold ZC at hc;cases hp:pOk s with
 | true =>
  rw [if_pos hp] at hc;obtain ⟨⟨h1,h2⟩,h3,h4⟩:=ql hp;have h12:=(j2 hp).2.1;have hj:(jn ((names s).take ((names s).length - 1))).length≤12:=by
   have:jn (names s)=jn ((names s).take ((names s).length - 1))++jn ((names s).drop ((names s).length - 1)):=by rw [← zcB,List.take_append_drop]
   have e:=congrArg List.length this;rw [← h4,List.length_append] at e;omega
  have hjl:=zcF (l:=(names s).take ((names s).length - 1));refine dr ?_;repeat (refine c0 hc rfl ?_; first|refine dr ?_|exact dz)
  intro hg1;refine dr ?_;repeat ((first|refine sHiM ((names s).length - 1) (by omega) (by omega) ?_|refine c0 (zit W0 ((names s).take ((names s).length - 1)) (by omega)) rfl ?_|refine oB (by simp; omega) ?_); first|refine dr ?_|exact dz)
  intro hg2;refine dr ?_;rw [pUp,if_pos hp];have hdl:(names s).take ((names s).length - 1)=(names s).dropLast:=by rw [List.dropLast_eq_take]
  rw [hdl];by_cases hn:(names s).length=1
  ·have:(names s).dropLast=[]:=by
    rw [← List.length_eq_zero_iff,List.length_dropLast]; omega
   rw [if_pos hn,this]; rfl
  ·have:(names s).dropLast≠[]:=by
    intro e; have:=congrArg List.length e; rw [List.length_dropLast] at this; simp at this; omega
   rw [if_neg hn,zcE this]; rfl
 | false =>
  rw [if_neg (by simp [hp])] at hc;refine dr ?_;repeat (refine c0 hc rfl ?_; first|refine dr ?_|exact dz)
  intro hg1;refine dr ?_;rw [pUp,if_neg (by simp [hp])]
def zfD:XC:=(.s (.r [.m1 4 .n]) (.s (.r [.mv 5 0,.ex 6 (.len true 5),.mv 7 1,.ex 8 (.len true 7),.b1 9 .geq 6 8,.mv 10 9,.g3 11 0 10,.g3 12 1 10,.gt 13 (.len true 12) 10,.gt 14 (.sls 11 .none (.some 13)) 10,.g3 15 1 10,.gt 16 (.bin .eql 14 15) 10,.p2 17 10 16,.mv 4 17]) .ret))
theorem zfE:zh Tryz.prog [] 177=some (zfD.ac,[(.t 4)],18):=by kernel_rfl
theorem zi0 (W0:World) (s p:Str):Fn Tryz.prog W0 177 [CS s,CS p] (.c (CB (p.isPrefixOf s))) []:=by
 refine fX mixed zfE fun hg=>?_
 refine dr ?_;apply cP<;>intro h1
 ·refine dr ?_;repeat (refine sHi p.length rfl (by omega) ?_; first|refine dr ?_|exact dz)
  refine congrArg CB ?_;rw [Bool.eq_iff_iff,List.isPrefixOf_iff_prefix,List.prefix_iff_eq_take];simp [yB];exact eq_comm
 ·refine dr ?_;refine bF ?_;rw [Bool.eq_false_iff]; intro h;have:=(List.isPrefixOf_iff_prefix.1 h).length_le;omega
def zhY:XC:=(.s (.r [.m1 4 .n]) (.s (.r [.mv 5 0,.mv 6 1,.c1 7 177 [5,6],.mv 4 7]) .ret))
theorem zhZ:zh Tryz.prog [] 163=some (zhY.ac,[(.t 4)],8):=by kernel_rfl
theorem zis (W0:World) (s p:Str):Fn Tryz.prog W0 163 [CS s,CS p] (.c (CB (p.isPrefixOf s))) []:=by
 refine fX mixed zhZ fun hg=>?_
 refine dEr ?_;repeat (refine c0 (zi0 W0 _ _) rfl ?_; first|refine dEr ?_|exact dz)
def ze5:XC:=(.s (.r [.m1 4 .n]) (.s (.s (.r [.mv 5 0,.c1 6 123 [5],.u1 7 6]) (.cnd 7 (.rf 4) .skip)) (.s (.s (.r [.mv 8 1,.ex 9 (.bin .eql 8 (.s [47]))]) (.cnd 9 (.rt 4) .skip)) (.s (.r [.mv 10 1,.c1 11 123 [10],.mv 12 11,.g3 13 0 12,.g3 14 1 12,.gt 15 (.bin .add 14 (.s [47])) 12,.gt 16 (.call 163 [13,15]) 12,.p2 17 12 16,.mv 4 17]) .ret))))
theorem ze6:zh Tryz.prog [] 139=some (ze5.ac,[(.t 4)],18):=by kernel_rfl
def und2 (s d:Str):Bool:=pOk s&&(d==[47]||(pOk d&&(d++[47]).isPrefixOf s))
theorem Yf {s d:Str} (hs:pOk s=true) (hd:pOk d=true):und2 s d=und s d:=by
 unfold und2 und; rw [hs,hd]; simp
theorem zbC (W0:World) (hM:HM W0) (s d:Str):Fn Tryz.prog W0 139 [CS s,CS d] (.c (CB (und2 s d))) []:=by
 refine fX mixed ze6 fun hg=>?_
 refine dEr ?_;repeat (refine c0 (Qt W0 hM s) rfl ?_; first|refine dEr ?_|exact dz)
 apply cP<;>intro h1
 ·refine dr ?_;exact bF (by simp [und2,h1])
 refine dr ?_;apply cP<;>intro h2
 ·refine dr ?_;exact bT (by simp [und2,h1,h2])
 refine dEr ?_;repeat (refine c0 (Qt W0 hM d) rfl ?_; first|refine dEr ?_|exact dz)
 apply cP<;>intro h3
 ·have hl:=(j2 h3).2.1;refine dEr ?_;repeat ((first|refine c0 (zis W0 _ _) rfl ?_|refine oB (by simp; omega) ?_); first|refine dEr ?_|exact dz)
  refine congrArg CB ?_;rw [Bool.eq_iff_iff]; simp [und2,h1,h2,h3]
 ·refine dr ?_;exact bF (by simp [und2,h2,h3])
def zfh:XC:=(.s (.r [.m1 2 .n]) (.s (.s (.r [.mv 6 0,.ex 7 (.len true 6),.b1 8 .gtr 7 (.i 6)]) (.cnd 8 (.rf 2) .skip)) (.s (.s (.r [.m1 3 (.i 0)]) (.blk 0 (.loop (.s (.s (.r [.mv 9 3,.mv 10 0,.ex 11 (.len true 10),.b1 12 .lss 9 11]) (.ce 12 0)) (.s (.blk 1 (.s (.r [.mv 15 0,.mv 16 3,.ex 17 (.idx 15 16),.b1 18 .geq 17 (.u 97),.mv 19 18,.g3 20 0 19,.g3 21 3 19,.gt 22 (.idx 20 21) 19,.gt 23 (.bin .leq 22 (.u 122)) 19,.p2 24 19 23,.mv 4 24]) (.s (.r [.mv 25 0,.mv 26 3,.ex 27 (.idx 25 26),.b1 28 .geq 27 (.u 48),.mv 29 28,.g3 30 0 29,.g3 31 3 29,.gt 32 (.idx 30 31) 29,.gt 33 (.bin .leq 32 (.u 57)) 29,.p2 34 29 33,.mv 5 34]) (.s (.r [.mv 35 4,.u1 36 35,.mv 37 36,.g3 38 5 37,.gt 39 (.un .not 38) 37,.p2 40 37 39]) (.cnd 40 (.rf 2) .skip))))) (.ic 13 14 3)))))) (.rt 2))))
theorem zfi:zh Tryz.prog [] 124=some (zfh.ac,[(.t 2)],41):=by kernel_rfl
theorem zby (W0:World) (s:Str):Fn Tryz.prog W0 124 [CS s] (.c (CB (jO s))) []:=by
 refine fX mixed zfi fun hg=>?_
 refine dr ?_;apply cP<;>intro h1
 ·refine dr ?_;exact bF (by rw [jO]; simp; omega)
 refine dr ?_;refine lp (σ:=Nat) (fun k=>[(0,.c (CS s)),(3,I k)]) (fun _=>[]) (fun k=>k≤s.length∧(s.take k).all jC=true) (fun k=>s.length - k) 0 ⟨by simp,by simp⟩ ?_ ?_
 ·refine dr ?_;trivial
 rintro k ⟨hk,ha⟩;refine dr ?_;apply cP<;>intro h2
 ·have hk':k < s.length:=by omega
  have no:jC s[k]=false→CB false=CB (jO s):=fun h=>bF (by rw [jO,y0 hk' h]; rfl)
  have nx:jC s[k]=true→∃ x',(x'≤s.length∧(s.take x').all jC=true)∧x'=k+1:=fun h=>⟨k+1,⟨by omega,qg hk' ha h⟩,rfl⟩
  refine dr ?_;apply cP<;>intro h3
  ·refine dr ?_;apply cP<;>intro h4
   ·refine dr ?_;apply cP<;>intro h5
    ·refine dr ?_;apply cP<;>intro h6
     ·refine dr ?_;exact no (by simp [jC,jl]; omega)
     ·omega
    ·refine dr ?_;refine ⟨k+1,⟨by omega,qg hk' ha (by simp [jC,jl]; omega)⟩,by omega,?_⟩;refine dr ?_;trivial
   ·omega
  ·refine dr ?_;apply cP<;>intro h4
   ·refine dr ?_;apply cP<;>intro h6
    ·refine dr ?_;exact no (by simp [jC,jl]; omega)
    ·refine dr ?_;refine ⟨k+1,⟨by omega,qg hk' ha (by simp [jC,jl]; omega)⟩,by omega,?_⟩;refine dr ?_;trivial
   ·refine dr ?_;exact no (by simp [jC,jl]; omega)
 ·have:k=s.length:=by omega
  subst this;rw [List.take_length] at ha;refine dr ?_;exact bT (by rw [jO,ha]; simp; omega)
end Go.Proofs.YtmkmldepkponaaaGreatDoor

namespace Go.Proofs.YtmkmldepkponaaaGreatDoor
set_option linter.unusedSimpArgs false
set_option linter.unusedVariables false
open Go Go.RowKit
theorem cmpNaN (x:ByteArray) (W:World):Calls Tryz.prog 166 #[.string x] W fun e w'=>e = .returned (.bool false)∧w'=W:=by
 go_enter Tryz.func166,Tryz.ntmps166;go_wp2;go_ret;exact ⟨rfl,rfl⟩
def cmpS (a b:Str):Int:=if ltS a b=true then -1 else if ltS b a=true then 1 else 0
theorem zbe (x y:Str) (W:World):Calls Tryz.prog 142 #[.string ⟨⟨x⟩⟩,.string ⟨⟨y⟩⟩] W fun e w'=>e = .returned (.int .i64 (cmpS x y))∧w'=W:=by
 go_enter Tryz.func142,Tryz.ntmps142;go_wp2_with (go_at_call 166; refine (cmpNaN _ _).mono ?_; rintro e w' ⟨rfl,rfl⟩)
 ·have h:Op.bytesLess x y=true:=by assumption
  go_ret;refine ⟨?_,rfl⟩;rw [cmpS,yJ,if_pos h]; rfl
 ·have h:Op.bytesLess x y=false:=by assumption
  have h2:(!x==y)=true:=by assumption
  go_ret;refine ⟨?_,rfl⟩;have h3:ltS y x=true:=by
   rcases QO x y with e | e | e
   ·subst e; simp at h2
   ·rw [yJ,h] at e; cases e
   ·exact e
  rw [cmpS,yJ,if_neg (by simp [h]),if_pos h3]; rfl
 ·have h:Op.bytesLess x y=false:=by assumption
  have h2:(!x==y)=false:=by assumption
  go_ret;refine ⟨?_,rfl⟩;have e:x=y:=by simpa using h2
  subst e;rw [cmpS,qI]; rfl
theorem Yq (a b:Str):decide (cmpS a b < 0)=ltS a b:=by
 unfold cmpS;cases h:ltS a b with
 | true=>simp
 | false =>
  cases h2:ltS b a with
  | true=>simp
  | false=>simp
def vEnt (x:Ent):List Value:=[.string ⟨⟨x.path⟩⟩,(.bool x.dir),.string ⟨⟨x.data⟩⟩]
theorem zh4 (x y:Ent) (W:World):Calls Tryz.prog 156 #[.agg #[.string ⟨⟨x.path⟩⟩,(.bool x.dir),.string ⟨⟨x.data⟩⟩],.agg #[.string ⟨⟨y.path⟩⟩,(.bool y.dir),.string ⟨⟨y.data⟩⟩]] W fun e w'=>e = .returned (.int .i64 (cmpS x.path y.path))∧∃ q os',w'=Sort.grow (W.drewN q) os':=by
 have hcon:=fun W'=>zbe x.path y.path W'
 generalize cmpS x.path y.path=r at hcon ⊢;go_enter Tryz.func156,Tryz.ntmps156;go_wp2_with (go_at_call 142; refine (hcon _).mono ?_; rintro e w' ⟨rfl,rfl⟩);go_ret;exact ⟨rfl,0,_,by rw [Sort.alloc_eq_grow,Sort.alloc_eq_grow,Sort.grow_grow]; rfl⟩
def vMark (x:Mark):List Value:=[.string ⟨⟨x.path⟩⟩,(.int .i64 x.kind),.string ⟨⟨x.data⟩⟩]
theorem zh5 (x y:Mark) (W:World):Calls Tryz.prog 141 #[.agg #[.string ⟨⟨x.path⟩⟩,(.int .i64 x.kind),.string ⟨⟨x.data⟩⟩],.agg #[.string ⟨⟨y.path⟩⟩,(.int .i64 y.kind),.string ⟨⟨y.data⟩⟩]] W fun e w'=>e = .returned (.int .i64 (cmpS x.path y.path))∧∃ q os',w'=Sort.grow (W.drewN q) os':=by
 have hcon:=fun W'=>zbe x.path y.path W'
 generalize cmpS x.path y.path=r at hcon ⊢;go_enter Tryz.func141,Tryz.ntmps141;go_wp2_with (go_at_call 142; refine (hcon _).mono ?_; rintro e w' ⟨rfl,rfl⟩);go_ret;exact ⟨rfl,0,_,by rw [Sort.alloc_eq_grow,Sort.alloc_eq_grow,Sort.grow_grow]; rfl⟩
end Go.Proofs.YtmkmldepkponaaaGreatDoor

namespace Go.Proofs.YtmkmldepkponaaaGreatDoor
set_option linter.unusedSimpArgs false
set_option linter.unusedVariables false
open Go Go.RowKit
def jb (m:Mark):Option Ent:=if m.kind=1 then some ⟨m.path,false,m.data⟩ else if m.kind=2∨m.kind=4 then some ⟨m.path,true,[]⟩ else none
theorem zc8 (out:List Ent) (m:Mark):onP out m=match jb m with
 | some e=>put out e
 | none=>out:=by
 unfold onP jb;by_cases h1:m.kind=1
 ·rw [if_pos h1,if_pos h1]
 ·rw [if_neg h1,if_neg h1];by_cases h2:m.kind=2∨m.kind=4
  ·rw [if_pos h2,if_pos h2]
  ·rw [if_neg h2,if_neg h2]
theorem yQ {m:Mark} {e:Ent} (h:jb m=some e):e.path=m.path:=by
 unfold jb at h;split at h
 ·cases h; rfl
 ·split at h
  ·cases h; rfl
  ·cases h
theorem zlC {out:List Ent} {m:Mark} (h:Srt Ent.path out):Srt Ent.path (onP out m):=by
 rw [zc8];split
 ·exact yf h
 ·exact h
theorem zjh {out:List Ent} {m:Mark} {p:Str}:find (onP out m) p=if m.path=p then (jb m).or (find out p) else find out p:=by
 rw [zc8];cases h:jb m with
 | none=>simp
 | some e =>
  have:find (put out e) p=if e.path=p then some e else find out p:=JC
  simp only [this,yQ h,Option.some_or]
theorem zdY:∀ {l:List Mark} {out:List Ent},Srt Ent.path out→Srt Ent.path (l.foldl onP out)
 | [],_,h=>h
 | _::l,_,h=>zdY (l:=l) (zlC h)
theorem zcc:∀ {l:List Mark} {out:List Ent} {p:Str},Srt Mark.path l→find (l.foldl onP out) p=match zv l p with
  | some m=>(jb m).or (find out p)
  | none=>find out p
 | [],_,_,_=>rfl
 | m::l,out,p,hs=>by
  unfold Srt at hs;rw [List.pairwise_cons] at hs;rw [List.foldl_cons,zcc (l:=l) hs.2,zjh];have e:zv (m::l) p=if m.path=p then some m else zv l p:=jz (key:=Mark.path)
  rw [e];by_cases h:m.path=p
  ·have h2:zv l p=none:=jK.2 fun x hx=>by rw [← h]; exact (yc (hs.1 x hx)).symm
   rw [if_pos h,h2,if_pos h]
  ·rw [if_neg h,if_neg h]
theorem qO {l:List Mark} {t:List Ent} (ht:Srt Ent.path t):Srt Ent.path (zW l t):=zdY (Z7 ht _)
theorem yR {l:List Mark} {t:List Ent} (hs:Srt Mark.path l) (ht:Srt Ent.path t) (p:Str):find (zW l t) p=match zv l p with
  | some m=>jb m
  | none=>if zw l p=true then none else find t p:=by
 have hf:find (t.filter fun e=>!zw l e.path) p=if zw l p=true then none else find t p:=by
  have h:find (t.filter fun e=>!zw l e.path) p=(find t p).filter fun e=>!zw l e.path:=YU ht
  rw [h];cases hp:find t p with
  | none=>simp
  | some e =>
   have:=(jP hp).1;rw [Option.filter,this];cases zw l p<;>rfl
 unfold zW;rw [zcc hs,hf];cases h:zv l p with
 | none=>rfl
 | some m =>
  simp only;obtain ⟨h1,h2⟩:=qc h;cases ho:jb m with
  | some e=>rfl
  | none =>
   have hk:m.kind≠2:=by
    intro e; unfold jb at ho; rw [if_neg (by omega),if_pos (.inl e)] at ho; cases ho
   have:zw l p=true:=by
    unfold zw;rw [List.any_eq_true];exact ⟨m,h2,by simp [hidP,h1,hk]⟩
   rw [if_pos this]; rfl
theorem zaj {l:List Mark} {t:List Ent} (hl:lOk l=true) (ht:Srt Ent.path t) (p:Str):find (zW l t) p=match zv l p with
  | some m=>jb m
  | none=>if zw l p=true then none else find t p:=yR (zU.1 hl).2.1 ht p
theorem JM {l:List Mark} {t:List Ent} (hl:lOk l=true) (ht:Srt Ent.path t) {e:Ent}:e∈zW l t↔(∃ m∈l,jb m=some e)∨(zv l e.path=none∧zw l e.path=false∧e∈t):=by
 obtain ⟨_,hs,hm,_⟩:=zU.1 hl;have h:e∈zW l t↔find (zW l t) e.path=some e:=ZP (qO ht);rw [h,zaj hl ht];cases hf:zv l e.path with
 | some m =>
  obtain ⟨h1,h2⟩:=qc hf;simp only [reduceCtorEq,false_and,or_false];constructor
  ·exact fun h=>⟨m,h2,h⟩
  ·rintro ⟨m',hm',h'⟩;have:=yQ h';have h3:zv l m'.path=some m':=jJ hs hm';rw [← this,hf] at h3;cases h3; exact h'
 | none =>
  have hn:∀ m∈l,m.path≠e.path:=jK.1 hf;simp only [true_and];constructor
  ·intro h;right;cases hh:zw l e.path with
   | true=>rw [hh] at h; simp at h
   | false=>rw [hh] at h; simp at h; exact ⟨rfl,(jP h).2⟩
  ·rintro (⟨m,hm',h'⟩ | ⟨h1,h2⟩)
   ·exact absurd (yQ h').symm (hn m hm')
   ·rw [h1]; simp; exact jJ ht h2
theorem zki {m:Mark} {e:Ent} (h:mok m=true) (ho:jb m=some e):eok e=true:=by
 simp only [mok,Bool.and_eq_true,Bool.not_eq_true',Bool.and_eq_false_iff] at h;unfold jb at ho;split at ho
 ·cases ho; simp [eok,h.2.1,h.2.2.1]
 ·split at ho
  ·cases ho; simp [eok,h.2.1]; rfl
  ·cases ho
theorem zkq {l:List Mark} {t:List Ent} (hl:lOk l=true) (ht:tOk t=true):Srt Ent.path (zW l t)∧(∀ e∈zW l t,eok e=true)∧∀ e∈zW l t,zF (zW l t) (pUp e.path)=true:=by
 obtain ⟨_,hs,hm,hin,hb⟩:=zU.1 hl;obtain ⟨_,ts,te,tu⟩:=JY.1 ht;refine ⟨qO ts,fun e he=>?_,fun e he=>?_⟩
 ·rcases (JM hl ts).1 he with ⟨m,h1,h2⟩ | ⟨_,_,h3⟩
  ·exact zki (hm m h1) h2
  ·exact te e h3
 ·have hd:∀ m∈l,m.kind=2∨m.kind=4→zF (zW l t) m.path=true:=by
   intro m hmem hk;have hp:=qd (hm m hmem);have h3:zv l m.path=some m:=jJ hs hmem;unfold zF;rw [jt hp,zaj hl ts,h3];simp only [jb];rw [if_neg (by omega),if_pos hk]
  rcases (JM hl ts).1 he with ⟨m,h1,h2⟩ | ⟨h1,h2,h3⟩
  ·rw [yQ h2];have:=hin m h1;unfold inD at this;simp only [Bool.or_eq_true,beq_iff_eq] at this;rcases this with h | h
   ·rw [h]; rfl
   ·unfold kind at h;cases hf:zv l (pUp m.path) with
    | none=>rw [hf] at h; simp at h
    | some m' =>
     rw [hf] at h;obtain ⟨g1,g2⟩:=qc hf;rw [← g1];exact hd m' g2 h
  ·have hep:=te e h3;simp only [eok,Bool.and_eq_true] at hep;have hpe:=hep.1;have htu:=tu e h3;by_cases hr:pUp e.path=[47]
   ·rw [hr]; rfl
   have hup:=(qM hpe hr).1;have hnot:∀ m∈l,hidP e.path m=false:=by
    intro m hmem;unfold zw at h2;rw [List.any_eq_false] at h2
    simpa using h2 m hmem
   cases hf:zv l (pUp e.path) with
   | some m =>
    obtain ⟨g1,g2⟩:=qc hf;rw [← g1];refine hd m g2 ?_;have:=hnot m g2;unfold hidP at this;have hu:und e.path m.path=true:=by rw [g1]; exact qP hpe
    simp [hu] at this;exact .inl this.2
   | none =>
    have hh:zw l (pUp e.path)=false:=by
     unfold zw;rw [List.any_eq_false];intro m hmem hc;have h0:=hnot m hmem;have hmr:=Zk (qd (hm m hmem));unfold hidP at hc h0;simp only [Bool.or_eq_true,Bool.and_eq_true,beq_iff_eq,bne_iff_ne] at hc;rcases hc with ⟨c1,_⟩ | ⟨c1,c2⟩
     ·exact jK.1 hf m hmem c1
     ·have:=Zs hmr hr (qP hpe) c2;simp [this,c1] at h0
    unfold zF at htu ⊢;rw [jt hup] at htu ⊢;rw [zaj hl ts,hf];simp only [hh,Bool.false_eq_true,if_false];exact htu
theorem ZZ {l:List Mark} {t t':List Ent} (h:lOn l t=some t'):tOk t'=true:=by
 obtain ⟨h1,h2,h3,rfl⟩:=ZY h;exact JY.2 ⟨h1,zkq h2 h3⟩
theorem Ze:∀ {a b:List (List Mark)} {t:List Ent},lowerA (a++b) t=match lowerA a t with
  | some t'=>lowerA b t'
  | none=>none
 | [],_,_=>rfl
 | l::a,b,t=>by
  rw [List.cons_append,lowerA,lowerA];cases lOn l t with
  | none=>rfl
  | some t'=>exact Ze (a:=a)
theorem zcO:∀ {a:List (List Mark)} {t t':List Ent},tOk t=true→lowerA a t=some t'→tOk t'=true
 | [],t,t',h,h2=>by cases h2; exact h
 | l::a,t,t',h,h2=>by
  rw [lowerA] at h2;cases h3:lOn l t with
  | none=>rw [h3] at h2; cases h2
  | some x=>rw [h3] at h2; exact zcO (a:=a) (ZZ h3) h2
theorem QN {o:Over} {t:List Ent} (h:ja o=some t):tOk t=true:=by
 unfold ja at h;split at h
 ·rename_i hc; exact zcO hc.1 h
 ·cases h
theorem Yg {o:Over} {t:List Ent} (h:jh o=some t):tOk t=true:=by
 unfold jh at h;split at h
 ·exact ZZ h
 ·cases h
def topN (all:List (List Mark)) (p:Str):Nat→Nat
 | 0=>0
 | k+1=>if kind (all.getD k []) p≠0 then k+1 else topN all p k
def allL (o:Over):List (List Mark):=o.layers++[o.upper]
def oGet (o:Over) (p:Str):Option (Ent × Int):=if oOk o=true then (match jh o with
 | some t=>match get t p with
  | some e=>some (e,(topN (allL o) p (allL o).length:Int))
  | none=>none
 | none=>none) else none
theorem zc4 {o:Over} (h:oOk o=true):∃ t x,ja o=some t∧jh o=some x∧o.upper=diff t x:=by
 unfold oOk at h;split at h
 ·rename_i t x h1 h2; exact ⟨t,x,h1,h2,by simpa using h⟩
 ·cases h
end Go.Proofs.YtmkmldepkponaaaGreatDoor

namespace Go.Proofs.YtmkmldepkponaaaGreatDoor
set_option linter.unusedSimpArgs false
set_option linter.unusedVariables false
open Go Go.RowKit
section
variable {α:Type} {key:α→Str}
theorem zd0 {a b:List α} (ha:Srt key a) (hb:Srt key b) (h:∀ e,e∈a↔e∈b):a=b:=by
 refine Q7 ha hb fun p=>?_
 cases ha':fnd key a p with
 | some e =>
  obtain ⟨h1,h2⟩:=qF ha';have:=jJ hb ((h e).1 h2);rw [h1] at this; exact this.symm
 | none =>
  refine (jK.2 fun e he hk=>?_).symm;exact jK.1 ha' e ((h e).2 he) hk
theorem QB:∀ {l t:List α} {p:Str},Srt key l→fnd key (l.foldl (zG key) t) p=(fnd key l p).or (fnd key t p)
 | [],t,p,_=>by simp [QC]
 | e::l,t,p,hs=>by
  unfold Srt at hs;rw [List.pairwise_cons] at hs;rw [List.foldl_cons,QB (l:=l) hs.2,JC,jz];by_cases h:key e=p
  ·have h2:fnd key l p=none:=jK.2 fun x hx=>by rw [← h]; exact (yc (hs.1 x hx)).symm
   rw [if_pos h,if_pos h,h2]; rfl
  ·rw [if_neg h,if_neg h]
theorem zlB {f:α→α} (hf:∀ x,key (f x)=key x) {l:List α} (hs:Srt key l):Srt key (l.map f):=by
 unfold Srt at hs ⊢;rw [List.pairwise_map];exact hs.imp fun h=>by rw [hf,hf]; exact h
theorem zcd {f:α→α} (hf:∀ x,key (f x)=key x):∀ {l:List α} {p:Str},fnd key (l.map f) p=(fnd key l p).map f
 | [],_=>rfl
 | x::l,p=>by
  rw [List.map_cons,jz,jz,hf,zcd hf (l:=l)];split<;>rfl
theorem zdX {f:α→Option α} (hf:∀ x y,f x=some y→key y=key x) {l:List α} (hs:Srt key l):Srt key (l.filterMap f):=by
 induction l with
 | nil=>exact List.Pairwise.nil
 | cons x l ih =>
  unfold Srt at hs;rw [List.pairwise_cons] at hs;rw [List.filterMap_cons];split
  ·exact ih hs.2
  ·rename_i y hy;refine List.pairwise_cons.2 ⟨fun z hz=>?_,ih hs.2⟩;obtain ⟨u,hu,hz⟩:=List.mem_filterMap.1 hz;rw [hf _ _ hy,hf _ _ hz]; exact hs.1 u hu
theorem zjg {f:α→Option α} (hf:∀ x y,f x=some y→key y=key x) {l:List α} (hs:Srt key l) {p:Str}:fnd key (l.filterMap f) p=(fnd key l p).bind f:=by
 cases h:fnd key l p with
 | none =>
  rw [jK] at h;refine jK.2 fun e he hk=>?_
  obtain ⟨u,hu,he⟩:=List.mem_filterMap.1 he;exact h u hu (by rw [← hf _ _ he,hk])
 | some e =>
  obtain ⟨h1,h2⟩:=qF h;simp only [Option.bind_some];cases hy:f e with
  | some y =>
   have:=jJ (zdX hf hs) (List.mem_filterMap.2 ⟨e,h2,hy⟩);rw [hf _ _ hy,h1] at this; exact this
  | none =>
   refine jK.2 fun z hz hk=>?_
   obtain ⟨u,hu,hz⟩:=List.mem_filterMap.1 hz;have:fnd key l (key u)=some u:=jJ hs hu;rw [← hf _ _ hz,hk,h] at this;cases this;rw [hy] at hz; cases hz
end
structure LG (l:List Mark):Prop where
 srt:Srt Mark.path l
 ok:∀ m∈l,mok m=true
theorem LG.of {l:List Mark} (h:lOk l=true):LG l:=by obtain ⟨_,hs,hm,_⟩:=zU.1 h; exact ⟨hs,hm⟩
theorem LG.path {l:List Mark} (h:LG l) {m:Mark} (hm:m∈l):pOk m.path=true:=qd (h.ok m hm)
theorem LG.root {l:List Mark} (h:LG l) {m:Mark} (hm:m∈l):m.path≠[47]:=Zk (h.path hm)
theorem LG.at {l:List Mark} (h:LG l) {m:Mark} (hm:m∈l):zv l m.path=some m:=jJ h.srt hm
theorem yL {m:Mark} (h:mok m=true):1≤m.kind∧m.kind≤4:=by
 simp only [mok,Bool.and_eq_true,decide_eq_true_eq] at h; exact h.1
theorem zcX {m:Mark} (h:mok m=true) (hk:m.kind≠1):m.data=[]:=by
 simp only [mok,Bool.and_eq_true,Bool.not_eq_true',Bool.and_eq_false_iff] at h;have:=h.2.2.2;simp [hk] at this; exact this
theorem zcY {m:Mark} (h:mok m=true) {k:Int} (h1:2≤k) (h2:k≤4) (hk:m.kind≠1):mok { m with kind:=k }=true:=by
 have hd:=zcX h hk;have hp:=qd h;simp only [mok,Bool.and_eq_true] at h ⊢;refine ⟨⟨by simp; omega,by simpa using h2⟩,hp,h.2.2.1,by simp [hd]⟩
theorem LG.kind0 {l:List Mark} (h:LG l) {p:Str}:kind l p=0↔zv l p=none:=by
 unfold kind;cases hf:zv l p with
 | none=>simp
 | some m =>
  have:=yL (h.ok m (qc hf).2);simp; omega
theorem zjP {l:List Mark} {p:Str} {m:Mark} (h:zv l p=some m):kind l p=m.kind:=by unfold kind; rw [h]
theorem j0 {l:List Mark} {p:Str} {m:Mark} (hm:m∈l) (hk:m.kind≠2) (h:m.path=p∨und p m.path=true):zw l p=true:=by
 unfold zw; rw [List.any_eq_true];refine ⟨m,hm,?_⟩;unfold hidP;rcases h with h | h
 ·simp [h,hk]
 ·simp [h,hk]
theorem yP {l:List Mark} {p:Str} (h:zw l p=true):∃ m∈l,m.kind≠2∧(m.path=p∨und p m.path=true):=by
 unfold zw at h; rw [List.any_eq_true] at h;obtain ⟨m,hm,h⟩:=h;unfold hidP at h;simp only [Bool.or_eq_true,Bool.and_eq_true,beq_iff_eq,bne_iff_ne] at h;rcases h with ⟨h1,h2⟩ | ⟨h1,h2⟩
 ·exact ⟨m,hm,h2,.inl h1⟩
 ·exact ⟨m,hm,h1,.inr h2⟩
theorem LG.hides_und {l:List Mark} (h:LG l) {p d:Str} (hd:d≠[47]) (hu:und p d=true) (hh:zw l d=true):zw l p=true:=by
 obtain ⟨m,hm,hk,h1⟩:=yP hh;refine j0 hm hk (.inr ?_);rcases h1 with h1 | h1
 ·rw [h1]; exact hu
 ·exact Zs (h.root hm) hd hu h1
theorem Zj {l:List Mark} {p:Str} (h:zJ l p=true):∃ m∈l,m.kind=4∧und p m.path=true:=by
 unfold zJ at h; rw [List.any_eq_true] at h;obtain ⟨m,hm,h⟩:=h;simp only [Bool.and_eq_true,beq_iff_eq] at h;exact ⟨m,hm,h.1,h.2⟩
theorem Jh {l:List Mark} {p:Str} {m:Mark} (hm:m∈l) (hk:m.kind=4) (h:und p m.path=true):zJ l p=true:=by
 unfold zJ; rw [List.any_eq_true];exact ⟨m,hm,by simp [hk,h]⟩
theorem zaU {l:List Mark} {p:Str} (h:zJ l p=true):zw l p=true:=by
 obtain ⟨m,hm,hk,hu⟩:=Zj h;exact j0 hm (by omega) (.inr hu)
theorem LG.bare_und {l:List Mark} (h:LG l) {p d:Str} (hd:d≠[47]) (hu:und p d=true) (hh:zJ l d=true):zJ l p=true:=by
 obtain ⟨m,hm,hk,h1⟩:=Zj hh;exact Jh hm hk (Zs (h.root hm) hd hu h1)
theorem zel {p d:Str} (h:und p d=true) (hd:d≠[47]):d.length < p.length:=by
 unfold und at h;simp only [Bool.or_eq_true,beq_iff_eq,List.isPrefixOf_iff_prefix] at h;rcases h with h | h
 ·exact absurd h hd
 ·have:=h.length_le; simp at this; omega
theorem LG.bare_top {l:List Mark} (h:LG l):∀ (n:Nat) {p:Str},p.length≤n→zJ l p=true→∃ m∈l,m.kind=4∧und p m.path=true∧zJ l m.path=false
 | 0,p,hn,hb=>by
  obtain ⟨m,hm,hk,hu⟩:=Zj hb;have:=zel hu (h.root hm); omega
 | n+1,p,hn,hb=>by
  obtain ⟨m,hm,hk,hu⟩:=Zj hb;cases hb2:zJ l m.path with
  | false=>exact ⟨m,hm,hk,hu,hb2⟩
  | true =>
   have:=zel hu (h.root hm);obtain ⟨m',h1,h2,h3,h4⟩:=h.bare_top n (p:=m.path) (by omega) hb2;exact ⟨m',h1,h2,Zs (h.root h1) (h.root hm) hu h3,h4⟩
def jZ (l:List Mark) (m:Mark):Option Mark:=if zJ l m.path=true then (if m.kind=3 then none else some (if m.kind=4 then { m with kind:=2 } else m)) else some m
def yw (l:List Mark):List Mark:=l.filterMap (jZ l)
theorem Yd {l:List Mark} (x y:Mark) (h:jZ l x=some y):y.path=x.path:=by
 unfold jZ at h;split at h
 ·split at h
  ·cases h
  ·cases h; split<;>rfl
 ·cases h; rfl
theorem zea {l:List Mark} {m:Mark} (h:zJ l m.path=false):jZ l m=some m:=by unfold jZ; simp [h]
theorem zd7 {l:List Mark} (h:LG l) {p:Str}:zv (yw l) p=(zv l p).bind (jZ l):=zjg Yd h.srt
theorem Zh {l:List Mark} {m:Mark}:m∈yw l↔∃ x∈l,jZ l x=some m:=List.mem_filterMap
theorem zd9 {l:List Mark} {m:Mark} (hm:m∈l) (h:zJ l m.path=false):m∈yw l:=Zh.2 ⟨m,hm,zea h⟩
theorem Yc {l:List Mark} {x y:Mark} (h:jZ l x=some y):y=x∨(x.kind=4∧y={ x with kind:=2 }):=by
 unfold jZ at h;split at h
 ·split at h
  ·cases h
  ·split at h
   ·cases h; exact .inr ⟨by assumption,rfl⟩
   ·cases h; exact .inl rfl
 ·cases h; exact .inl rfl
theorem LG.tidy {l:List Mark} (h:LG l):LG (yw l):=by
 refine ⟨zdX Yd h.srt,fun m hm=>?_⟩;obtain ⟨x,hx,e⟩:=Zh.1 hm;rcases Yc e with rfl | ⟨hk,rfl⟩
 ·exact h.ok _ hx
 ·exact zcY (h.ok x hx) (by omega) (by omega) (by omega)
theorem LG.tidy_bare {l:List Mark} (h:LG l) {p:Str}:zJ (yw l) p=zJ l p:=by
 rw [Bool.eq_iff_iff];constructor
 ·intro hb;obtain ⟨m,hm,hk,hu⟩:=Zj hb;obtain ⟨x,hx,e⟩:=Zh.1 hm;rcases Yc e with rfl | ⟨_,rfl⟩
  ·exact Jh hx hk hu
  ·simp at hk
 ·intro hb;obtain ⟨m,hm,hk,hu,hn⟩:=h.bare_top p.length (Nat.le_refl _) hb;exact Jh (zd9 hm hn) hk hu
theorem LG.tidy_hides {l:List Mark} (h:LG l) {p:Str}:zw (yw l) p=zw l p:=by
 rw [Bool.eq_iff_iff];constructor
 ·intro hb;obtain ⟨m,hm,hk,hu⟩:=yP hb;obtain ⟨x,hx,e⟩:=Zh.1 hm;rcases Yc e with rfl | ⟨_,rfl⟩
  ·exact j0 hx hk hu
  ·simp at hk
 ·intro hb;obtain ⟨m,hm,hk,hu⟩:=yP hb;cases hb2:zJ l m.path with
  | false=>exact j0 (zd9 hm hb2) hk hu
  | true =>
   have:zJ l p=true:=by
    rcases hu with hu | hu
    ·rw [← hu]; exact hb2
    ·exact h.bare_und (h.root hm) hu hb2
   exact zaU (by rw [h.tidy_bare]; exact this)
theorem zkr {l:List Mark} {t:List Ent} (h:LG l) (ht:Srt Ent.path t):zW (yw l) t=zW l t:=by
 refine Q7 (qO ht) (qO ht) fun p=>?_
 show find _ p=find _ p;rw [yR h.tidy.srt ht,yR h.srt ht,zd7 h,h.tidy_hides];cases hf:zv l p with
 | none=>rfl
 | some m =>
  obtain ⟨h1,h2⟩:=qc hf;simp only [Option.bind_some];unfold jZ;by_cases hb:zJ l m.path=true
  ·rw [if_pos hb];have hh:zw l p=true:=zaU (by rw [← h1]; exact hb);by_cases h3:m.kind=3
   ·rw [if_pos h3,hh];simp [jb,h3]
   ·rw [if_neg h3];by_cases h4:m.kind=4
    ·rw [if_pos h4]; simp [jb,h4]
    ·rw [if_neg h4]
  ·rw [if_neg hb]
def jN (a b:Int):Int:=if a=2∧b≠0∧b≠2 then 4 else a
def jk (b:List Mark) (m:Mark):Mark:={ m with kind:=jN m.kind (kind b m.path) }
def jE (a:List Mark) (m:Mark):Bool:=!zw a m.path&&kind a m.path==0
def jH (a b:List Mark):List Mark:=(a.map (jk b)).foldl zZ ((b.filter (jE a)).foldl zZ [])
def qa (a b:List Mark):List Mark:=yw (jH a b)
theorem zaY {a b:Int} (h:a≠2):jN a b=a:=by unfold jN; rw [if_neg (by simp [h])]
theorem zaX {a b:Int}:jN a b=2∨jN a b=4↔a=2∨a=4:=by
 unfold jN;split
 ·omega
 ·exact Iff.rfl
theorem Y3 {a b:List Mark} (ha:LG a) (hb:LG b) {p:Str}:zv (jH a b) p=match zv a p with
  | some m=>some (jk b m)
  | none=>if zw a p=true then none else zv b p:=by
 have h1:fnd Mark.path (jH a b) p=(fnd Mark.path (a.map (jk b)) p).or (fnd Mark.path ((b.filter (jE a)).foldl zZ []) p):=QB (zlB (f:=jk b) (fun _=>rfl) ha.srt);have h2:fnd Mark.path ((b.filter (jE a)).foldl zZ []) p=(fnd Mark.path (b.filter (jE a)) p).or (fnd Mark.path [] p):=QB (Z7 hb.srt _);have h3:fnd Mark.path (b.filter (jE a)) p=(zv b p).filter (jE a):=YU hb.srt;have h4:fnd Mark.path (a.map (jk b)) p=(zv a p).map (jk b):=zcd (f:=jk b) (fun _=>rfl);show fnd Mark.path (jH a b) p=_;rw [h1,h2,h3,h4,QC];cases hf:zv a p with
 | some m=>rfl
 | none =>
  have hk:=ha.kind0.2 hf;cases hg:zv b p with
  | none=>simp
  | some m =>
   have hp:=(qc hg).1;simp [Option.filter,jE,hp,hk];cases zw a p<;>rfl
theorem zcD {a b:List Mark}:Srt Mark.path (jH a b):=QD (QD List.Pairwise.nil)
theorem Zg {a b:List Mark} (ha:LG a) (hb:LG b) {m:Mark}:m∈jH a b↔(∃ x∈a,m=jk b x)∨(m∈b∧zv a m.path=none∧zw a m.path=false):=by
 have h:m∈jH a b↔zv (jH a b) m.path=some m:=ZP zcD;rw [h,Y3 ha hb];cases hf:zv a m.path with
 | some x =>
  obtain ⟨h1,h2⟩:=qc hf;simp only [Option.some.injEq,reduceCtorEq,false_and,and_false,or_false];constructor
  ·rintro rfl; exact ⟨x,h2,rfl⟩
  ·rintro ⟨y,hy,rfl⟩;have:zv a y.path=some y:=ha.at hy;have e:(jk b y).path=y.path:=rfl;rw [e,this] at hf; cases hf; rfl
 | none =>
  simp only [true_and];have hn:¬ ∃ x∈a,m=jk b x:=by
   rintro ⟨y,hy,rfl⟩;have:zv a y.path=some y:=ha.at hy;have e:(jk b y).path=y.path:=rfl;rw [e,this] at hf; cases hf
  cases hh:zw a m.path with
  | true=>simp [hn]
  | false =>
   simp only [Bool.false_eq_true,if_false,hn,and_true,false_or];exact (ZP hb.srt).symm
theorem JF {a b:List Mark} (ha:LG a) (hb:LG b):LG (jH a b):=by
 refine ⟨zcD,fun m hm=>?_⟩;rcases (Zg ha hb).1 hm with ⟨x,hx,rfl⟩ | ⟨h,_⟩
 ·have ho:=ha.ok x hx;by_cases hk:x.kind=2
  ·refine zcY ho ?_ ?_ (by omega)<;>(unfold jN; split<;>omega)
  ·have:jk b x=x:=by unfold jk; rw [zaY hk]
   rw [this]; exact ho
 ·exact hb.ok m h
theorem zkj {b:List Mark} {m:Mark}:jb (jk b m)=jb m:=by
 unfold jb jk jN;by_cases h:m.kind=2∧kind b m.path≠0∧kind b m.path≠2
 ·simp [h,h.1]
 ·simp only [if_neg h]
theorem zkp {a b:List Mark} {t:List Ent} (ha:LG a) (hb:LG b) (ht:Srt Ent.path t):zW (jH a b) t=zW a (zW b t):=by
 refine Q7 (qO ht) (qO (qO ht)) fun p=>?_
 show find _ p=find _ p;have hj:=JF ha hb;rw [yR hj.srt ht,yR ha.srt (qO ht),yR hb.srt ht,Y3 ha hb];cases hf:zv a p with
 | some m=>exact zkj
 | none =>
  have hne:∀ {m},m∈a→m.path≠p:=fun {m} hm e=>by have:=ha.at hm; rw [e,hf] at this; cases this
  cases hh:zw a p with
  | true =>
   obtain ⟨m,hm,hk,hu⟩:=yP hh;have hu:und p m.path=true:=hu.resolve_left (hne hm);have:zw (jH a b) p=true:=by
    refine j0 (m:=jk b m) ((Zg ha hb).2 (.inl ⟨m,hm,rfl⟩)) ?_ (.inr hu);show jN m.kind _≠2;rw [zaY hk]; exact hk
   simp [this]
  | false =>
   simp only [Bool.false_eq_true,if_false];cases hg:zv b p with
   | some m=>rfl
   | none =>
    have hnb:∀ {m},m∈b→m.path≠p:=fun {m} hm e=>by have:=hb.at hm; rw [e,hg] at this; cases this
    have key:zw (jH a b) p=zw b p:=by
     rw [Bool.eq_iff_iff];constructor
     ·intro h;obtain ⟨m,hm,hk,hu⟩:=yP h;rcases (Zg ha hb).1 hm with ⟨x,hx,rfl⟩ | ⟨h1,_⟩
      ·have hu:und p x.path=true:=hu.resolve_left (fun e=>hne hx e);have hx2:x.kind=2:=by
        apply Classical.byContradiction; intro hn;have:=j0 hx hn (.inr hu); rw [hh] at this; cases this
       have hkb:kind b x.path≠0∧kind b x.path≠2:=by
        apply Classical.byContradiction; intro hn;apply hk;show jN x.kind _=2;unfold jN; rw [if_neg (fun e=>hn e.2)]; exact hx2
       unfold kind at hkb;cases hy:zv b x.path with
       | none=>rw [hy] at hkb; exact absurd rfl hkb.1
       | some y =>
        rw [hy] at hkb;obtain ⟨g1,g2⟩:=qc hy;exact j0 g2 hkb.2 (.inr (by rw [g1]; exact hu))
      ·exact j0 h1 hk (.inr (hu.resolve_left (hnb h1)))
     ·intro h;obtain ⟨m,hm,hk,hu⟩:=yP h;have hu:und p m.path=true:=hu.resolve_left (hnb hm);cases hy:zv a m.path with
      | some x =>
       obtain ⟨g1,g2⟩:=qc hy;have hx2:x.kind=2:=by
        apply Classical.byContradiction; intro hn;have:=j0 g2 hn (.inr (by rw [g1]; exact hu)); rw [hh] at this; cases this
       refine j0 (m:=jk b x) ((Zg ha hb).2 (.inl ⟨x,g2,rfl⟩)) ?_ (.inr (by show und p x.path=true; rw [g1]; exact hu));show jN x.kind (kind b x.path)≠2;have e:kind b x.path=m.kind:=by rw [g1]; exact zjP (hb.at hm)
       have:=yL (hb.ok m hm);unfold jN; rw [if_pos ⟨hx2,by omega,by omega⟩]; omega
      | none =>
       have hn:zw a m.path=false:=by
        cases hz:zw a m.path with
        | false=>rfl
        | true=>have:=ha.hides_und (hb.root hm) hu hz; rw [hh] at this; cases this
       exact j0 ((Zg ha hb).2 (.inr ⟨hm,hy,hn⟩)) hk (.inr hu)
    rw [key]
theorem zko {a b:List Mark} {t:List Ent} (ha:LG a) (hb:LG b) (ht:Srt Ent.path t):zW (qa a b) t=zW a (zW b t):=by
 unfold qa; rw [zkr (JF ha hb) ht,zkp ha hb ht]
theorem zjK {a b:List Mark} (ha:LG a) (hb:LG b):LG (qa a b):=(JF ha hb).tidy
theorem qp {l:List Mark} {p:Str}:inD l p=true↔pUp p=[47]∨∃ m,zv l (pUp p)=some m∧(m.kind=2∨m.kind=4):=by
 unfold inD kind;cases h:zv l (pUp p) with
 | none=>simp
 | some m=>simp
theorem zjL {a b:List Mark} (ha:lOk a=true) (hb:lOk b=true) (hl:(qa a b).length≤32):lOk (qa a b)=true:=by
 have ga:=LG.of ha;have gb:=LG.of hb;have g0:=JF ga gb;have gj:=zjK ga gb;obtain ⟨_,_,_,ia,_⟩:=zU.1 ha;obtain ⟨_,_,_,ib,_⟩:=zU.1 hb;refine zU.2 ⟨hl,gj.srt,gj.ok,fun m hm=>?_,fun m hm hk=>?_⟩
 ·obtain ⟨x,hx,e⟩:=Zh.1 hm;have hp:=Yd _ _ e;have hxp:=g0.path hx;rw [qp,hp];by_cases hr:pUp x.path=[47]
  ·exact .inl hr
  right;have hup:=(qM hxp hr).1;have key:∃ y,zv (jH a b) (pUp x.path)=some y∧(y.kind=2∨y.kind=4):=by
   rw [Y3 ga gb];rcases (Zg ga gb).1 hx with ⟨z,hz,e2⟩ | ⟨h1,h2,h3⟩
   ·have hzp:x.path=z.path:=by rw [e2]; rfl
    rw [hzp] at hr hup ⊢;rcases qp.1 (ia z hz) with h | ⟨y,hy,hk⟩
    ·exact absurd h hr
    ·rw [hy]; exact ⟨_,rfl,zaX.2 hk⟩
   ·rcases qp.1 (ib x h1) with h | ⟨y,hy,hk⟩
    ·exact absurd h hr
    ·cases hz:zv a (pUp x.path) with
     | some z =>
      obtain ⟨q1,q2⟩:=qc hz;have:z.kind=2:=by
       apply Classical.byContradiction; intro hn;have:=j0 (p:=x.path) q2 hn (.inr (by rw [q1]; exact qP hxp));rw [h3] at this; cases this
      exact ⟨_,rfl,zaX.2 (.inl this)⟩
     | none =>
      have:zw a (pUp x.path)=false:=by
       cases hq:zw a (pUp x.path) with
       | false=>rfl
       | true=>have:=ga.hides_und hr (qP hxp) hq; rw [h3] at this; cases this
      simp only [this,Bool.false_eq_true,if_false];exact ⟨y,hy,hk⟩
  obtain ⟨y,hy,hk⟩:=key;unfold qa;rw [zd7 g0,hy];simp only [Option.bind_some];unfold jZ;split
  ·rw [if_neg (by omega)];refine ⟨_,rfl,?_⟩;split
   ·exact .inl rfl
   ·exact hk
  ·exact ⟨_,rfl,hk⟩
 ·unfold qa;rw [g0.tidy_bare];obtain ⟨x,hx,e⟩:=Zh.1 hm;have hp:=Yd _ _ e;have hmk:=yL (gj.ok m hm);rw [hp];cases hb:zJ (jH a b) x.path with
  | false=>rfl
  | true =>
   unfold jZ at e;rw [if_pos hb] at e;split at e
   ·cases e
   ·cases e;split at hk
    ·simp at hk
    ·split at hmk
     ·omega
     ·omega
def j1 (a b:List Mark):Option (List Mark):=if (lOk a&&lOk b)=true then (if (qa a b).length≤32 then some (qa a b) else none) else none
def eMarksO:Option (List Mark)→CV
 | none => .tup [zg [],CB false]
 | some t => .tup [zg t,CB true]
theorem zjR {a b j:List Mark} (h:j1 a b=some j):lOk a=true∧lOk b=true∧j=qa a b∧lOk j=true:=by
 unfold j1 at h;split at h
 ·rename_i hc;simp only [Bool.and_eq_true] at hc;split at h
  ·cases h; exact ⟨hc.1,hc.2,rfl,zjL hc.1 hc.2 (by assumption)⟩
  ·cases h
 ·cases h
def jQ (out:List Mark) (m:Mark):List Mark:=if zJ out m.path=true then (if m.kind=3 then out else out++[if m.kind=4 then { m with kind:=2 } else m]) else out++[m]
theorem YT {α β:Type} {f:α→Option β} {l:List α} {k:Nat} (h:k < l.length):(l.take (k+1)).filterMap f=(l.take k).filterMap f++(f l[k]).toList:=by
 rw [List.take_succ_eq_append_getElem h,List.filterMap_append];cases hf:f l[k]<;>simp [hf]
theorem zd8 {l:List Mark} (h:LG l):∀ {k:Nat},k≤l.length→(l.take k).foldl jQ []=(l.take k).filterMap (jZ l)
 | 0,_=>by simp
 | k+1,hk=>by
  have hk':k < l.length:=by omega
  rw [qj hk',zd8 h (by omega),YT hk'];have hm:l[k]∈l:=List.getElem_mem hk';have e:zJ ((l.take k).filterMap (jZ l)) l[k].path=zJ l l[k].path:=by
   rw [Bool.eq_iff_iff];constructor
   ·intro hb;obtain ⟨m,hm',hk4,hu⟩:=Zj hb;obtain ⟨x,hx,e⟩:=List.mem_filterMap.1 hm';rcases Yc e with rfl | ⟨_,rfl⟩
    ·exact Jh (List.mem_of_mem_take hx) hk4 hu
    ·simp at hk4
   ·intro hb;obtain ⟨m,hm',hk4,hu,hn⟩:=h.bare_top _ (Nat.le_refl _) hb;have hlt:=zem hu (h.root hm');refine Jh (m:=m) (List.mem_filterMap.2 ⟨m,?_,zea hn⟩) hk4 hu;have h1:=YV h.srt hk' hlt;have h2:fnd Mark.path l m.path=some m:=jJ h.srt hm';rw [h2] at h1;exact (qF h1).2
  rw [jQ,e];unfold jZ;split
  ·split
   ·simp
   ·simp
  ·simp
theorem zlO {l:List Mark} (h:LG l):l.foldl jQ []=yw l:=by
 have:=zd8 h (Nat.le_refl l.length);rw [List.take_length] at this; exact this
end Go.Proofs.YtmkmldepkponaaaGreatDoor

namespace Go.Proofs.YtmkmldepkponaaaGreatDoor
set_option linter.unusedSimpArgs false
set_option linter.unusedVariables false
open Go Go.RowKit
theorem QV {α:Type} [DecidableEq α]:∀ {l k:List α},l.Nodup→(∀ x∈l,x∈k)→l.length≤k.length
 | [],_,_,_=>by simp
 | x::l,k,hn,h=>by
  rw [List.nodup_cons] at hn;have hx:=h x (by simp);have ih:=QV (l:=l) (k:=k.erase x) hn.2 fun y hy=>by
   refine (List.mem_erase_of_ne ?_).2 (h y (by simp [hy]));rintro rfl; exact hn.1 hy
  rw [List.length_erase_of_mem hx] at ih;have:=List.length_pos_of_mem hx;simp; omega
theorem Z8 {α:Type} {key:α→Str} {l:List α} (hs:Srt key l):(l.map key).Nodup:=by
 unfold List.Nodup;rw [List.pairwise_map];exact hs.imp fun h=>yc h
structure TG (t:List Ent):Prop where
 len:t.length≤16
 srt:Srt Ent.path t
 ok:∀ e∈t,eok e=true
 up:∀ e∈t,zF t (pUp e.path)=true
theorem TG.of {t:List Ent} (h:tOk t=true):TG t:=by obtain ⟨a,b,c,d⟩:=JY.1 h; exact ⟨a,b,c,d⟩
theorem TG.path {t:List Ent} (h:TG t) {e:Ent} (he:e∈t):pOk e.path=true:=by
 have:=h.ok e he; simp only [eok,Bool.and_eq_true] at this; exact this.1
theorem TG.data {t:List Ent} (h:TG t) {e:Ent} (he:e∈t) (hd:e.dir=true):e.data=[]:=by
 have:=h.ok e he; simp only [eok,Bool.and_eq_true,hd,Bool.true_and] at this
 simpa using this.2.2
theorem TG.datOk {t:List Ent} (h:TG t) {e:Ent} (he:e∈t):jO e.data=true:=by
 have:=h.ok e he; simp only [eok,Bool.and_eq_true] at this; exact this.2.1
theorem TG.at {t:List Ent} (h:TG t) {e:Ent} (he:e∈t):find t e.path=some e:=jJ h.srt he
theorem TG.find_ok {t:List Ent} (h:TG t) {p:Str} {e:Ent} (hf:find t p=some e):pOk p=true:=by
 obtain ⟨h1,h2⟩:=jP hf; rw [← h1]; exact h.path h2
theorem TG.isDir_ent {t:List Ent} (h:TG t) {p:Str} (hp:pOk p=true) (hd:zF t p=true):find t p=some ⟨p,true,[]⟩:=by
 unfold zF at hd;rw [jt hp] at hd;cases hf:find t p with
 | none=>rw [hf] at hd; cases hd
 | some e =>
  rw [hf] at hd;obtain ⟨h1,h2⟩:=jP hf;have:=h.data h2 hd;obtain ⟨a,b,c⟩:=e;simp at h1 hd this;rw [h1,hd,this]
theorem TG.anc {t:List Ent} (h:TG t):∀ (n:Nat) {p d:Str},(names p).length≤n→pOk p=true→pOk d=true→und p d=true→zF t (pUp p)=true→find t d=some ⟨d,true,[]⟩
 | 0,p,d,hn,hp,_,_,_=>by have:=(ql hp).1.1; omega
 | n+1,p,d,hn,hp,hd,hu,hf=>by
  rcases zek hp hd hu with h1 | ⟨h1,h2,h3⟩
  ·rw [h1] at hf; exact h.isDir_ent hd hf
  ·have hup:=(qM hp h1).2.2;refine h.anc n (by omega) h2 hd h3 ?_;have:=h.isDir_ent h2 hf;exact h.up _ (jP this).2
theorem TG.anc' {t:List Ent} (h:TG t) {p d:Str} {e:Ent} (hf:find t p=some e) (hd:pOk d=true) (hu:und p d=true):find t d=some ⟨d,true,[]⟩:=by
 have hp:=h.find_ok hf;refine h.anc _ (Nat.le_refl _) hp hd hu ?_;obtain ⟨h1,h2⟩:=jP hf;have:=h.up e h2;rw [h1] at this; exact this
abbrev SrtS (l:List Str):Prop:=Srt (fun s:Str=>s) l
theorem YR {a b:List Ent} (ha:TG a) (hb:TG b) {p:Str}:find (both a b) p=(find b p).or (find a p):=QB hb.srt
theorem zaZ {a b:List Ent} (ha:TG a):Srt Ent.path (both a b):=QD ha.srt
theorem zej {a b:List Ent} (ha:TG a):SrtS (zS a b):=by
 have:=Z7 (zaZ (b:=b) ha) (tudP a b);unfold Srt at this;unfold zS;show List.Pairwise _ _;rw [List.pairwise_map]; exact this
theorem Zi {a b:List Ent} (ha:TG a) (hb:TG b) {p:Str}:p∈zS a b↔find a p≠find b p:=by
 have hok:∀ {q},(∃ e,find a q=some e)∨(∃ e,find b q=some e)→pOk q=true:=by
  rintro q (⟨e,h⟩ | ⟨e,h⟩)
  ·exact ha.find_ok h
  ·exact hb.find_ok h
 unfold zS;rw [List.mem_map];constructor
 ·rintro ⟨e,he,rfl⟩;obtain ⟨h1,h2⟩:=List.mem_filter.1 he;have:find (both a b) e.path=some e:=jJ (zaZ ha) h1;rw [YR ha hb] at this;have hp:pOk e.path=true:=by
   refine hok ?_;cases hb':find b e.path with
   | some x=>exact .inr ⟨x,rfl⟩
   | none=>rw [hb'] at this; exact .inl ⟨e,by simpa using this⟩
  simp only [tudP,decide_eq_true_eq,jt hp] at h2;exact h2
 ·intro h;cases hf:find (both a b) p with
  | none =>
   rw [YR ha hb] at hf;cases hb':find b p with
   | some x=>rw [hb'] at hf; cases hf
   | none=>rw [hb'] at hf h; simp at hf; rw [hf] at h; exact absurd rfl h
  | some e =>
   obtain ⟨h1,h2⟩:=jP hf;refine ⟨e,List.mem_filter.2 ⟨h2,?_⟩,h1⟩;rw [YR ha hb] at hf;have hp:pOk p=true:=by
    refine hok ?_;cases hb':find b p with
    | some x=>exact .inr ⟨x,rfl⟩
    | none=>rw [hb'] at hf; exact .inl ⟨e,by simpa using hf⟩
   simp only [tudP,decide_eq_true_eq,h1,jt hp];exact h
theorem zaL:∀ (n:Nat) {p u:Str},pOk p=true→u∈jc n p→pOk u=true∧und p u=true∧(pUp u=[47]∨(names p).length≤n→pUp u=[47]∨pUp u∈jc n p)
 | 0,p,u,_,h=>by simp [jc] at h
 | n+1,p,u,hp,h=>by
  unfold jc at h ⊢;split at h
  ·simp at h
  ·rename_i hr;rw [if_neg hr];obtain ⟨q1,q2,q3⟩:=qM hp hr;rcases List.mem_cons.1 h with rfl | h
   ·refine ⟨q1,qP hp,fun hh=>?_⟩;by_cases hr2:pUp (pUp p)=[47]
    ·exact .inl hr2
    ·rcases hh with hh | hh
     ·exact .inl hh
     ·right;have hn1:=(ql q1).1.1;cases n with
      | zero=>omega
      | succ n=>refine List.mem_cons_of_mem _ ?_; unfold jc; rw [if_neg hr2]; simp
   ·obtain ⟨h1,h2,h3⟩:=zaL n q1 h;refine ⟨h1,Zs (Zk h1) hr (qP hp) h2,fun hh=>?_⟩;rcases h3 (hh.imp id fun hh=>by omega) with h4 | h4
    ·exact .inl h4
    ·exact .inr (List.mem_cons_of_mem _ h4)
def DS (b:List Ent) (ps:List Str) (x:Mark):Prop:=(∃ p∈ps,zD b p=some x)∨∃ p∈ps,(zD b p).isSome=true∧∃ u∈jc 3 p,x=⟨u,2,[]⟩
theorem yl {b:List Ent} {p:Str} {x:Mark} (h:zD b p=some x):x.path=p:=by
 unfold zD at h;split at h
 ·cases h; rfl
 ·split at h
  ·cases h; rfl
  ·cases h
theorem zic {b:List Ent} (hb:TG b) {p:Str} (hp:pOk p=true) (h:(zD b p).isSome=true):zF b (pUp p)=true:=by
 unfold zD at h;rw [jt hp] at h;cases hf:find b p with
 | none =>
  rw [hf] at h; simp only at h;split at h
  ·assumption
  ·cases h
 | some e =>
  obtain ⟨h1,h2⟩:=jP hf;have:=hb.up e h2;rw [h1] at this; exact this
theorem zbj {b:List Ent} {p:Str} (hp:pOk p=true) (h:find b p=some ⟨p,true,[]⟩):zD b p=some ⟨p,2,[]⟩:=by
 unfold zD; rw [jt hp,h]; rfl
theorem zep {b:List Ent} (hb:TG b) {p u:Str} (hp:pOk p=true) (h:(zD b p).isSome=true) (hu:u∈jc 3 p):pOk u=true∧und p u=true∧find b u=some ⟨u,true,[]⟩:=by
 obtain ⟨h1,h2,_⟩:=zaL 3 hp hu;exact ⟨h1,h2,hb.anc _ (Nat.le_refl _) hp h1 h2 (zic hb hp h)⟩
theorem DS.one {b:List Ent} (hb:TG b) {ps:List Str} (hps:∀ p∈ps,pOk p=true) {x y:Mark} (hx:DS b ps x) (hy:DS b ps y) (h:x.path=y.path):x=y:=by
 have key:∀ {z},DS b ps z→pOk z.path=true∧((∃ p∈ps,zD b p=some z∧z.path=p)∨(z=⟨z.path,2,[]⟩∧find b z.path=some ⟨z.path,true,[]⟩)):=by
  rintro z (⟨p,hp,e⟩ | ⟨p,hp,hs,u,hu,rfl⟩)
  ·have:=yl e;exact ⟨by rw [this]; exact hps p hp,.inl ⟨p,hp,e,this⟩⟩
  ·have:=zep hb (hps p hp) hs hu;exact ⟨this.1,.inr ⟨rfl,this.2.2⟩⟩
 obtain ⟨hxp,hx⟩:=key hx;obtain ⟨_,hy⟩:=key hy;rcases hx with ⟨p,hp,e,e1⟩ | ⟨e,e1⟩<;>rcases hy with ⟨q,hq,f,f1⟩ | ⟨f,f1⟩
 ·have:p=q:=by rw [← e1,← f1,h]
  subst this; rw [e] at f; cases f; rfl
 ·rw [← h] at f1 f;rw [← e1] at e;rw [zbj hxp f1] at e; exact (Option.some.inj e).symm.trans f.symm
 ·rw [h] at e1 e hxp;rw [← f1] at f;rw [zbj hxp e1] at f; exact e.trans (Option.some.inj f)
 ·rw [e,f,h]
theorem zcU {α:Type} {key:α→Str} {t:List α} {e x:α} (hs:Srt key t) (h:∀ y∈t,key y=key e→y=e):x∈zG key t e↔x∈t∨x=e:=by
 have h1:x∈zG key t e↔fnd key (zG key t e) (key x)=some x:=ZP (yf hs);rw [h1,JC];by_cases hk:key e=key x
 ·rw [if_pos hk];constructor
  ·intro e'; cases e'; exact .inr rfl
  ·rintro (hx|rfl)
   ·rw [h x hx hk.symm]
   ·rfl
 ·rw [if_neg hk];constructor
  ·intro e'; exact .inl (qF e').2
  ·rintro (hx|rfl)
   ·exact jJ hs hx
   ·exact absurd rfl hk
theorem zj4 {l:List Mark} {u:Str} {x:Mark} (hs:Srt Mark.path l) (h:∀ y∈l,y.path=u→y=⟨u,2,[]⟩):x∈upsP l u↔x∈l∨x=⟨u,2,[]⟩:=by
 unfold upsP;split
 ·exact zcU hs h
 ·rename_i hk;unfold kind at hk;cases hf:zv l u with
  | none=>rw [hf] at hk; simp at hk
  | some m =>
   obtain ⟨h1,h2⟩:=qc hf;have:=h m h2 h1;constructor
   ·exact .inl
   ·rintro (h|rfl)
    ·exact h
    ·rw [← this]; exact h2
theorem zd1 {l:List Mark} {u:Str} (hs:Srt Mark.path l):Srt Mark.path (upsP l u):=by
 unfold upsP; split
 ·exact yf hs
 ·exact hs
theorem zdZ:∀ {us:List Str} {l:List Mark},Srt Mark.path l→Srt Mark.path (us.foldl upsP l)
 | [],_,h=>h
 | _::us,_,h=>zdZ (us:=us) (zd1 h)
theorem zcT:∀ {us:List Str} {l:List Mark} {x:Mark},Srt Mark.path l→(∀ u∈us,∀ y∈l,y.path=u→y=⟨u,2,[]⟩)→(x∈us.foldl upsP l↔x∈l∨∃ u∈us,x=⟨u,2,[]⟩)
 | [],l,x,_,_=>by simp
 | u::us,l,x,hs,h=>by
  have hm:=fun x=>zj4 (x:=x) hs (h u (by simp))
  rw [List.foldl_cons,zcT (us:=us) (zd1 hs) fun v hv y hy e=>?_,hm]
  ·simp only [List.mem_cons,exists_eq_or_imp,or_assoc]
  ·rcases (hm y).1 hy with hy|rfl
   ·exact h v (by simp [hv]) y hy e
   ·simp at e; rw [e]
theorem zlA {b:List Ent} {out:List Mark} {p:Str} (hs:Srt Mark.path out):Srt Mark.path (difP b out p):=by
 unfold difP;split
 ·exact zdZ (yf hs)
 ·exact hs
theorem zac {b:List Ent} (hb:TG b) {all:List Str} (hall:∀ p∈all,pOk p=true):∀ {ps:List Str} {out:List Mark},(∀ p∈ps,p∈all)→Srt Mark.path out→(∀ x∈out,DS b all x) →
  Srt Mark.path (ps.foldl (difP b) out)∧∀ x,x∈ps.foldl (difP b) out↔x∈out∨DS b ps x
 | [],out,_,hs,_=>⟨hs,fun x=>by simp [DS]⟩
 | p::ps,out,hps,hs,hout=>by
  have hp:=hps p (by simp);have step:Srt Mark.path (difP b out p)∧∀ x,x∈difP b out p↔x∈out∨DS b [p] x:=by
   refine ⟨zlA hs,fun x=>?_⟩;unfold difP;cases hd:zD b p with
   | none=>simp [DS,hd]
   | some m =>
    have hm:DS b all m := .inl ⟨p,hp,hd⟩;have hsome:(zD b p).isSome=true:=by rw [hd]; rfl
    have h1:=fun x=>zcU (x:=x) hs fun y hy e=>(hout y hy).one hb hall hm e
    have h2:x∈ups (zZ out m) p↔x∈zZ out m∨∃ u∈jc 3 p,x=⟨u,2,[]⟩:=by
     refine zcT (yf hs) fun u hu y hy e=>?_
     have hU:DS b all ⟨u,2,[]⟩ := .inr ⟨p,hp,hsome,u,hu,rfl⟩;rcases (h1 y).1 hy with hy|rfl
     ·exact (hout y hy).one hb hall hU e
     ·exact hm.one hb hall hU e
    simp only;rw [h2,h1];simp only [DS,List.mem_singleton,exists_eq_left,hd,Option.isSome_some,Option.some.injEq,true_and,or_assoc];constructor
    ·rintro (h | h | h)
     ·exact .inl h
     ·exact .inr (.inl h.symm)
     ·exact .inr (.inr h)
    ·rintro (h | h | h)
     ·exact .inl h
     ·exact .inr (.inl h.symm)
     ·exact .inr (.inr h)
  have hout2:∀ x∈difP b out p,DS b all x:=fun x hx=>by
   rcases (step.2 x).1 hx with hx | hx
   ·exact hout x hx
   ·rcases hx with ⟨q,hq,e⟩ | ⟨q,hq,e⟩
    ·simp at hq; subst hq; exact .inl ⟨q,hp,e⟩
    ·simp at hq; subst hq; exact .inr ⟨q,hp,e⟩
  obtain ⟨r1,r2⟩:=zac hb hall (ps:=ps) (fun q hq=>hps q (by simp [hq])) step.1 hout2;refine ⟨r1,fun x=>?_⟩;rw [List.foldl_cons,r2,step.2];simp only [DS,List.mem_cons,exists_eq_or_imp,List.not_mem_nil,false_and,exists_false,or_false,exists_eq_left];constructor
  ·rintro ((h | h | h) | h | h)
   ·exact .inl h
   ·exact .inr (.inl (.inl h))
   ·exact .inr (.inr (.inl h))
   ·exact .inr (.inl (.inr h))
   ·exact .inr (.inr (.inr h))
  ·rintro (h|(h | h) | h | h)
   ·exact .inl (.inl h)
   ·exact .inl (.inr (.inl h))
   ·exact .inr (.inl h)
   ·exact .inl (.inr (.inr h))
   ·exact .inr (.inr h)
theorem Zr {a b:List Ent} (ha:TG a) (hb:TG b) {p:Str} (h:p∈zS a b):pOk p=true:=by
 have:=(Zi ha hb).1 h;cases ha':find a p with
 | some e=>exact ha.find_ok ha'
 | none =>
  cases hb':find b p with
  | some e=>exact hb.find_ok hb'
  | none=>rw [ha',hb'] at this; exact absurd rfl this
theorem Yw {a b:List Ent} (ha:TG a) (hb:TG b):Srt Mark.path (diff a b) :=
 (zac hb (fun _ h=>Zr ha hb h) (fun _ h=>h) List.Pairwise.nil (fun _ h=>by cases h)).1
theorem yK {a b:List Ent} (ha:TG a) (hb:TG b) {x:Mark}:x∈diff a b↔DS b (zS a b) x:=by
 have:=(zac hb (all:=zS a b) (fun _ h=>Zr ha hb h) (fun _ h=>h) (out:=[]) List.Pairwise.nil (fun _ h=>by cases h)).2 x;unfold diff; rw [this]; simp
theorem y5 {a b:List Ent} (ha:TG a) (hb:TG b) {x:Mark} (h:x∈diff a b):pOk x.path=true ∧
  ((∃ e,find b x.path=some e∧x=⟨x.path,if e.dir=true then 2 else 1,e.data⟩)∨(find b x.path=none∧zF b (pUp x.path)=true∧x=⟨x.path,3,[]⟩∧∃ e,find a x.path=some e)):=by
 rcases (yK ha hb).1 h with ⟨p,hp,e⟩ | ⟨p,hp,hs,u,hu,rfl⟩
 ·have hpo:=Zr ha hb hp;have hx:=yl e;rw [hx];refine ⟨hpo,?_⟩;have ht:=(Zi ha hb).1 hp;unfold zD at e;rw [jt hpo] at e;cases hf:find b p with
  | some y=>rw [hf] at e; cases e; exact .inl ⟨y,rfl,rfl⟩
  | none =>
   rw [hf] at e;simp only at e;split at e
   ·cases e;refine .inr ⟨rfl,by assumption,rfl,?_⟩;cases ha':find a p with
    | some y=>exact ⟨y,rfl⟩
    | none=>rw [ha',hf] at ht; exact absurd rfl ht
   ·cases e
 ·have:=zep hb (Zr ha hb hp) hs hu;exact ⟨this.1,.inl ⟨_,this.2.2,rfl⟩⟩
theorem zbl {a b:List Ent} (ha:TG a) (hb:TG b):lOk (diff a b)=true:=by
 have hs:=Yw ha hb;have hm:∀ m∈diff a b,mok m=true:=fun m hm=>by
  obtain ⟨hp,h | h⟩:=y5 ha hb hm
  ·obtain ⟨e,h1,h2⟩:=h;have he:=(jP h1).2;have hd:=hb.datOk he;rw [h2];simp only [mok,hp,hd];cases hdir:e.dir with
   | true=>simp [hb.data he hdir]
   | false=>simp
  ·rw [h.2.2.1];simp only [mok,hp]; rfl
 refine zU.2 ⟨?_,hs,hm,fun m hm=>?_,fun m hm hk=>?_⟩
 ·have h1:((diff a b).map Mark.path).length≤(a.map Ent.path++b.map Ent.path).length:=by
   refine QV (Z8 hs) fun p hp=>?_
   obtain ⟨m,hm,rfl⟩:=List.mem_map.1 hp;obtain ⟨_,h | h⟩:=y5 ha hb hm
   ·obtain ⟨e,h1,_⟩:=h;obtain ⟨h2,h3⟩:=jP h1;exact List.mem_append.2 (.inr (List.mem_map.2 ⟨e,h3,h2⟩))
   ·obtain ⟨_,_,_,e,h1⟩:=h;obtain ⟨h2,h3⟩:=jP h1;exact List.mem_append.2 (.inl (List.mem_map.2 ⟨e,h3,h2⟩))
  have:=ha.len;have:=hb.len;simp at h1; omega
 ·rw [qp];have key:pUp m.path=[47]∨(⟨pUp m.path,2,[]⟩:Mark)∈diff a b:=by
   rcases (yK ha hb).1 hm with ⟨p,hp,e⟩ | ⟨p,hp,hsm,u,hu,rfl⟩
   ·rw [yl e];by_cases hr:pUp p=[47]
    ·exact .inl hr
    ·refine .inr ((yK ha hb).2 (.inr ⟨p,hp,by rw [e]; rfl,pUp p,?_,rfl⟩));unfold jc; rw [if_neg hr]; simp
   ·have hpo:=Zr ha hb hp;rcases (zaL 3 hpo hu).2.2 (.inr (ql hpo).1.2) with h | h
    ·exact .inl h
    ·exact .inr ((yK ha hb).2 (.inr ⟨p,hp,hsm,_,h,rfl⟩))
  rcases key with h | h
  ·exact .inl h
  ·exact .inr ⟨_,jJ hs h,.inl rfl⟩
 ·cases hb':zJ (diff a b) m.path with
  | false=>rfl
  | true =>
   obtain ⟨x,hx,hk4,_⟩:=Zj hb';obtain ⟨_,h | h⟩:=y5 ha hb hx
   ·obtain ⟨e,_,h2⟩:=h;rw [h2] at hk4;simp only at hk4;split at hk4<;>omega
   ·rw [h.2.2.1] at hk4; simp at hk4
theorem zkn {a b:List Ent} (ha:TG a) (hb:TG b):zW (diff a b) a=b:=by
 have hs:=Yw ha hb;have hD:LG (diff a b):=LG.of (zbl ha hb);refine Q7 (qO ha.srt) hb.srt fun p=>?_
 show find _ p=find b p;rw [yR hs ha.srt];cases hf:zv (diff a b) p with
 | some m =>
  obtain ⟨h1,h2⟩:=qc hf;simp only;obtain ⟨_,h | h⟩:=y5 ha hb h2
  ·obtain ⟨e,h3,h4⟩:=h;rw [h1] at h3;rw [h3,h4];obtain ⟨g1,g2⟩:=jP h3;obtain ⟨ep,ed,edat⟩:=e;simp only at g1 h4 ⊢;cases ed with
   | true=>have:=hb.data g2 rfl; simp at this; simp [jb,h1,g1,this]
   | false=>simp [jb,h1,g1]
  ·rw [h1] at h;rw [h.1,h.2.2.1]; rfl
 | none =>
  simp only;by_cases hh:zw (diff a b) p=true
  ·rw [if_pos hh];obtain ⟨m,hm,hk,hu⟩:=yP hh;have hne:m.path≠p:=fun e=>by
    have h2:zv (diff a b) m.path=some m:=jJ hs hm;rw [e,hf] at h2; cases h2
   have hu:=hu.resolve_left hne;cases hfb:find b p with
   | none=>rfl
   | some e =>
    obtain ⟨hpm,h⟩:=y5 ha hb hm;have hd:=hb.anc' hfb hpm hu;rcases h with ⟨y,h1,h2⟩ | h
    ·rw [hd] at h1; cases h1;rw [h2] at hk; simp at hk
    ·rw [hd] at h; cases h.1
  ·rw [if_neg hh];apply Classical.byContradiction; intro hne;have up:∀ (n:Nat) {q:Str},(names q).length≤n→pOk q=true→(∃ e,find a q=some e)→find b q=none→zw (diff a b) q=true:=by
    intro n;induction n with
    | zero=>intro q hn hq; have:=(ql hq).1.1; omega
    | succ n ih =>
     rintro q hn hq ⟨e,h1⟩ h2;have ht:q∈zS a b:=(Zi ha hb).2 (by rw [h1,h2]; simp);cases hd:zF b (pUp q) with
     | true =>
      have:zD b q=some ⟨q,3,[]⟩:=by unfold zD; rw [jt hq,h2]; simp only [hd,if_true]
      exact j0 ((yK ha hb).2 (.inl ⟨q,ht,this⟩)) (by simp) (.inl rfl)
     | false =>
      have hr:pUp q≠[47]:=by intro e'; rw [e'] at hd; cases hd
      obtain ⟨u1,_,u3⟩:=qM hq hr;obtain ⟨g1,g2⟩:=jP h1;have hda:=ha.up e g2;rw [g1] at hda;have hfa:=ha.isDir_ent u1 hda;refine hD.hides_und hr (qP hq) ?_;cases hfb:find b (pUp q) with
      | none=>exact ih (by omega) u1 ⟨_,hfa⟩ hfb
      | some y =>
       have hyd:y.dir=false:=by
        unfold zF at hd; rw [jt u1,hfb] at hd; exact hd
       have ht2:pUp q∈zS a b:=(Zi ha hb).2 (by rw [hfa,hfb]; intro e'; cases e'; cases hyd);have:zD b (pUp q)=some ⟨pUp q,1,y.data⟩:=by unfold zD; rw [jt u1,hfb]; simp [hyd]
       exact j0 ((yK ha hb).2 (.inl ⟨_,ht2,this⟩)) (by simp) (.inl rfl)
   have ht:p∈zS a b:=(Zi ha hb).2 hne;have hp:=Zr ha hb ht;cases hfb:find b p with
   | some e =>
    have:zD b p=some ⟨p,if e.dir=true then 2 else 1,e.data⟩:=by unfold zD; rw [jt hp,hfb]
    have h2:zv (diff a b) p=some _:=jJ (key:=Mark.path) hs ((yK ha hb).2 (.inl ⟨p,ht,this⟩));rw [hf] at h2; cases h2
   | none =>
    cases hfa:find a p with
    | none=>rw [hfa,hfb] at hne; exact hne rfl
    | some e=>exact hh (up _ (Nat.le_refl _) hp ⟨e,hfa⟩ hfb)
theorem zcI {a b:List Ent} (ha:tOk a=true) (hb:tOk b=true):lOn (diff a b) a=some b:=by
 have ga:=TG.of ha;have gb:=TG.of hb;unfold lOn;rw [if_pos (by simp [zbl ga gb,ha]),zkn ga gb,if_pos gb.len]
end Go.Proofs.YtmkmldepkponaaaGreatDoor

namespace Go.Proofs.YtmkmldepkponaaaGreatDoor
set_option linter.unusedSimpArgs false
set_option linter.unusedVariables false
open Go Go.RowKit
def j5 {α:Type} (key:α→Str) (X S:List α):Prop:=S.Perm X∧S.Pairwise fun a b=>ltS (key b) (key a)=false
theorem j5.eq {α:Type} {key:α→Str} {X S Y:List α} (h:j5 key X S) (hn:(X.map key).Nodup) (hY:Srt key Y) (hm:∀ e,e∈X↔e∈Y):S=Y:=by
 have hn2:(S.map key).Nodup:=(h.1.map key).nodup_iff.2 hn;refine zd0 ?_ hY fun e=>by rw [← hm]; exact h.1.mem_iff
 unfold List.Nodup at hn2;rw [List.pairwise_map] at hn2;refine (h.2.and hn2).imp fun ⟨h1,h2⟩=>?_
 rcases JK h1 with h3 | h3
 ·exact absurd h3.symm h2
 ·exact h3
theorem j5.len {α:Type} {key:α→Str} {X S:List α} (h:j5 key X S):S.length=X.length:=h.1.length_eq
def zH:List Ent→List Ent→List Str
 | [],[]=>[]
 | x::a,[]=>x.path::zH a []
 | [],y::b=>y.path::zH [] b
 | x::a,y::b=>if ltS x.path y.path=true then x.path::zH a (y::b) else if ltS y.path x.path=true then y.path::zH (x::a) b else if x=y then zH a b else x.path::zH a b
termination_by a b=>a.length+b.length
theorem yX {α:Type} {key:α→Str} {x:α} {l:List α} (hs:Srt key (x::l)) {p:Str} {e:α} (h:fnd key l p=some e):ltS (key x) p=true:=by
 unfold Srt at hs;rw [List.pairwise_cons] at hs;obtain ⟨h1,h2⟩:=qF h;rw [← h1]; exact hs.1 e h2
theorem Z9 {α:Type} {key:α→Str} {x:α} {l:List α} (hs:Srt key (x::l)):Srt key l:=by
 unfold Srt at hs; rw [List.pairwise_cons] at hs; exact hs.2
theorem qX {x:Ent} {l:List Ent} {p:Str}:find (x::l) p=if x.path=p then some x else find l p:=jz
theorem zb0 {l:List Ent} {y:Ent} (hs:Srt Ent.path (y::l)) {p:Str} (h:ltS p y.path=true):find (y::l) p=none:=by
 refine jK.2 fun e he hk=>?_
 rcases List.mem_cons.1 he with rfl | he
 ·rw [hk,qI] at h; cases h
 ·unfold Srt at hs;rw [List.pairwise_cons] at hs;have:=yt h (hs.1 e he);rw [hk,qI] at this; cases this
theorem zb1 {l:List Ent} {y:Ent} (hs:Srt Ent.path (y::l)):find l y.path=none:=by
 unfold Srt at hs;rw [List.pairwise_cons] at hs;exact jK.2 fun e he=>(yc (hs.1 e he)).symm
theorem zj7:∀ (n:Nat) {a b:List Ent},a.length+b.length≤n→Srt Ent.path a→Srt Ent.path b→SrtS (zH a b)∧∀ p,p∈zH a b↔find a p≠find b p:=by
 intro n;induction n with
 | zero =>
  intro a b hl _ _;cases a with
  | cons=>simp at hl
  | nil=>cases b with
   | cons=>simp at hl
   | nil=>exact ⟨by rw [zH]; exact List.Pairwise.nil,fun p=>by rw [zH]; simp⟩
 | succ n ih =>
  intro a b hl ha hb;have hcons:∀ {x:Ent} {a b:List Ent} {p0:Str},(SrtS (zH a b)∧∀ p,p∈zH a b↔find a p≠find b p)→(∀ p,(∃ e,find a p=some e)→ltS x.path p=true)→(∀ p,(∃ e,find b p=some e)→ltS x.path p=true) →
    SrtS (x.path::zH a b):=by
   rintro x a b _ ⟨h1,h2⟩ h3 h4;refine List.pairwise_cons.2 ⟨fun p hp=>?_,h1⟩;have:=(h2 p).1 hp;cases hfa:find a p with
   | some e=>exact h3 p ⟨e,hfa⟩
   | none =>
    cases hfb:find b p with
    | some e=>exact h4 p ⟨e,hfb⟩
    | none=>rw [hfa,hfb] at this; exact absurd rfl this
  cases a with
  | nil =>
   cases b with
   | nil=>exact ⟨by rw [zH]; exact List.Pairwise.nil,fun p=>by rw [zH]; simp⟩
   | cons y b =>
    have h:=ih (a:=[]) (b:=b) (by simp at hl ⊢; omega) ha (Z9 hb);rw [zH];refine ⟨hcons (p0:=[]) h (fun p ⟨e,he⟩=>by cases he) (fun p ⟨e,he⟩=>yX hb he),fun p=>?_⟩;rw [List.mem_cons,h.2,qX];by_cases hp:y.path=p
    ·rw [if_pos hp]; simp [hp,find]
    ·rw [if_neg hp]; exact or_iff_right fun e=>hp (Eq.symm e)
  | cons x a =>
   cases b with
   | nil =>
    have h:=ih (a:=a) (b:=[]) (by simp at hl ⊢; omega) (Z9 ha) hb;rw [zH];refine ⟨hcons (p0:=[]) h (fun p ⟨e,he⟩=>yX ha he) (fun p ⟨e,he⟩=>by cases he),fun p=>?_⟩;rw [List.mem_cons,h.2,qX];by_cases hp:x.path=p
    ·rw [if_pos hp]; simp [hp,find]
    ·rw [if_neg hp]; exact or_iff_right fun e=>hp (Eq.symm e)
   | cons y b =>
    rw [zH];by_cases h1:ltS x.path y.path=true
    ·rw [if_pos h1];have h:=ih (a:=a) (b:=y::b) (by simp at hl ⊢; omega) (Z9 ha) hb;refine ⟨hcons (p0:=[]) h (fun p ⟨e,he⟩=>yX ha he) (fun p ⟨e,he⟩=>?_),fun p=>?_⟩
     ·rw [qX] at he;split at he
      ·rename_i hy; rw [← hy]; exact h1
      ·exact yt h1 (yX hb he)
     ·rw [List.mem_cons,h.2,qX (x:=x)];by_cases hp:x.path=p
      ·rw [if_pos hp,zb0 hb (by rw [← hp]; exact h1)]; simp [hp]
      ·rw [if_neg hp]; exact or_iff_right fun e=>hp (Eq.symm e)
    ·rw [if_neg h1];by_cases h2:ltS y.path x.path=true
     ·rw [if_pos h2];have h:=ih (a:=x::a) (b:=b) (by simp at hl ⊢; omega) ha (Z9 hb);refine ⟨hcons (p0:=[]) h (fun p ⟨e,he⟩=>?_) (fun p ⟨e,he⟩=>yX hb he),fun p=>?_⟩
      ·rw [qX] at he;split at he
       ·rename_i hy; rw [← hy]; exact h2
       ·exact yt h2 (yX ha he)
      ·rw [List.mem_cons,h.2,qX (x:=y)];by_cases hp:y.path=p
       ·rw [if_pos hp,zb0 ha (by rw [← hp]; exact h2)]; simp [hp]
       ·rw [if_neg hp]; exact or_iff_right fun e=>hp (Eq.symm e)
     ·rw [if_neg h2];have he:x.path=y.path:=by
       rcases JK (by simpa using h1:ltS x.path y.path=false) with h3 | h3
       ·exact h3
       ·exact absurd h3 h2
      have h:=ih (a:=a) (b:=b) (by simp at hl ⊢; omega) (Z9 ha) (Z9 hb);have hfa:=zb1 ha;have hfb:=zb1 hb;by_cases hxy:x=y
      ·rw [if_pos hxy];refine ⟨h.1,fun p=>?_⟩;rw [h.2,qX,qX,← he,hxy];by_cases hp:y.path=p
       ·rw [if_pos hp,if_pos hp,← hp,hfb,← he,hfa]; simp
       ·rw [if_neg hp,if_neg hp]
      ·rw [if_neg hxy];refine ⟨hcons (p0:=[]) h (fun p ⟨e,h'⟩=>yX ha h') (fun p ⟨e,h'⟩=>by rw [he]; exact yX hb h'),fun p=>?_⟩;rw [List.mem_cons,h.2,qX,qX,← he];by_cases hp:x.path=p
       ·rw [if_pos hp,if_pos hp]; simp [hp,hxy]
       ·rw [if_neg hp,if_neg hp]; exact or_iff_right fun e=>hp (Eq.symm e)
theorem zj8 {a b:List Ent} (ha:TG a) (hb:TG b):zH a b=zS a b:=by
 obtain ⟨h1,h2⟩:=zj7 _ (Nat.le_refl _) ha.srt hb.srt;exact zd0 h1 (zej ha) fun p=>by rw [h2,Zi ha hb]
def jx (l:List Mark) (u:Str):List Mark:=if (zv l u).isSome=true then l else l++[⟨u,2,[]⟩]
theorem zj2 {l:List Mark} {u:Str} {x:Mark} (h:∀ y∈l,y.path=u→y=⟨u,2,[]⟩):x∈jx l u↔x∈l∨x=⟨u,2,[]⟩:=by
 unfold jx;split
 ·rename_i hs;obtain ⟨m,hm⟩:=Option.isSome_iff_exists.1 hs;obtain ⟨h1,h2⟩:=qc hm;have:=h m h2 h1;constructor
  ·exact .inl
  ·rintro (h|rfl)
   ·exact h
   ·rw [← this]; exact h2
 ·simp
theorem zkc {l:List Mark} {u:Str} (h:(l.map Mark.path).Nodup):((jx l u).map Mark.path).Nodup:=by
 unfold jx;split
 ·exact h
 ·rename_i hs;have:zv l u=none:=by cases hm:zv l u with
   | none=>rfl
   | some m=>rw [hm] at hs; exact absurd rfl hs
  rw [List.map_append,List.nodup_append];refine ⟨h,by simp,fun p hp q hq=>?_⟩;simp at hq;subst hq;obtain ⟨m,hm,rfl⟩:=List.mem_map.1 hp;exact jK.1 this m hm
theorem zce:∀ {us:List Str} {l:List Mark},(l.map Mark.path).Nodup→(∀ u∈us,∀ y∈l,y.path=u→y=⟨u,2,[]⟩) →
  ((us.foldl jx l).map Mark.path).Nodup∧∀ x,x∈us.foldl jx l↔x∈l∨∃ u∈us,x=⟨u,2,[]⟩
 | [],l,hn,_=>⟨hn,fun x=>by simp⟩
 | u::us,l,hn,h=>by
  have hm:=fun x=>zj2 (x:=x) (h u (by simp))
  obtain ⟨h1,h2⟩:=zce (us:=us) (zkc (u:=u) hn) fun v hv y hy e=>by
   rcases (hm y).1 hy with hy|rfl
   ·exact h v (by simp [hv]) y hy e
   ·simp at e; rw [e]
  refine ⟨h1,fun x=>?_⟩;rw [List.foldl_cons,h2,hm];simp only [List.mem_cons,exists_eq_or_imp,or_assoc]
def j6 (l:List Mark) (m:Mark):List Mark:=(jc 3 m.path).foldl jx l
def difX (a b:List Ent):List Mark:=((zS a b).filterMap (zD b)).foldl j6 ((zS a b).filterMap (zD b))
theorem zcg {b:List Ent} (hb:TG b) {all:List Str} (hall:∀ p∈all,pOk p=true):∀ {ms:List Mark} {l:List Mark},(∀ m∈ms,∃ p∈all,zD b p=some m)→(l.map Mark.path).Nodup→(∀ x∈l,DS b all x) →
  ((ms.foldl j6 l).map Mark.path).Nodup∧∀ x,x∈ms.foldl j6 l↔x∈l∨∃ m∈ms,∃ u∈jc 3 m.path,x=⟨u,2,[]⟩
 | [],l,_,hn,_=>⟨hn,fun x=>by simp⟩
 | m::ms,l,hms,hn,hl=>by
  obtain ⟨p,hp,hd⟩:=hms m (by simp);have hpm:=yl hd;have hU:∀ u∈jc 3 m.path,DS b all ⟨u,2,[]⟩:=fun u hu => .inr ⟨p,hp,by rw [hd]; rfl,u,by rw [← hpm]; exact hu,rfl⟩
  obtain ⟨h1,h2⟩:=zce (us:=jc 3 m.path) hn fun u hu y hy e=>(hl y hy).one hb hall (hU u hu) e
  obtain ⟨h3,h4⟩:=zcg hb hall (ms:=ms) (l:=j6 l m) (fun x hx=>hms x (by simp [hx])) h1 fun x hx=>by
   rcases (h2 x).1 hx with hx | ⟨u,hu,rfl⟩
   ·exact hl x hx
   ·exact hU u hu
  refine ⟨h3,fun x=>?_⟩;rw [List.foldl_cons,h4];have:x∈j6 l m↔x∈l∨∃ u∈jc 3 m.path,x=⟨u,2,[]⟩:=h2 x;rw [this];simp only [List.mem_cons,exists_eq_or_imp,or_assoc]
theorem zbk {a b:List Ent} (ha:TG a) (hb:TG b):((difX a b).map Mark.path).Nodup∧∀ x,x∈difX a b↔x∈diff a b:=by
 have hall:∀ p∈zS a b,pOk p=true:=fun _ h=>Zr ha hb h
 have hmem:∀ m,m∈(zS a b).filterMap (zD b)↔∃ p∈zS a b,zD b p=some m:=fun m=>List.mem_filterMap
 have hn:(((zS a b).filterMap (zD b)).map Mark.path).Nodup:=by
  have hs:=zej (b:=b) ha;unfold List.Nodup;rw [List.pairwise_map,List.pairwise_filterMap];refine List.Pairwise.imp (fun {p q} h m hm m' hm'=>?_) hs;rw [yl hm,yl hm']; exact yc h
 obtain ⟨h1,h2⟩:=zcg hb hall (ms:=(zS a b).filterMap (zD b)) (fun m hm=>(hmem m).1 hm) hn fun x hx => .inl ((hmem x).1 hx)
 refine ⟨h1,fun x=>?_⟩;have e:x∈difX a b↔_:=h2 x;rw [e,yK ha hb,hmem];unfold DS;refine or_congr Iff.rfl ?_;constructor
 ·rintro ⟨m,hm,u,hu,rfl⟩;obtain ⟨p,hp,hd⟩:=(hmem m).1 hm;exact ⟨p,hp,by rw [hd]; rfl,u,by rw [← yl hd]; exact hu,rfl⟩
 ·rintro ⟨p,hp,hs,u,hu,rfl⟩;obtain ⟨m,hm⟩:=Option.isSome_iff_exists.1 hs;exact ⟨m,(hmem m).2 ⟨p,hp,hm⟩,u,by rw [yl hm]; exact hu,rfl⟩
theorem zie {a b:List Ent} (ha:TG a) (hb:TG b) {S:List Mark} (h:j5 Mark.path (difX a b) S):S=diff a b :=
 h.eq (zbk ha hb).1 (Yw ha hb) (zbk ha hb).2
def onX (l:List Mark) (t:List Ent):List Ent:=(t.filter fun e=>!(zv l e.path).isSome&&!zw l e.path)++l.filterMap jb
theorem zai {l:List Mark} {t:List Ent} (hl:lOk l=true) (ht:Srt Ent.path t) (e:Ent):e∈onX l t↔e∈zW l t:=by
 rw [JM hl ht];unfold onX;rw [List.mem_append,List.mem_filterMap,List.mem_filter];constructor
 ·rintro (⟨h1,h2⟩ | h)
  ·simp only [Bool.and_eq_true,Bool.not_eq_true',Option.isSome_eq_false_iff,Option.isNone_iff_eq_none] at h2;exact .inr ⟨h2.1,h2.2,h1⟩
  ·exact .inl h
 ·rintro (h | ⟨h1,h2,h3⟩)
  ·exact .inr h
  ·exact .inl ⟨h3,by simp [h1,h2]⟩
theorem zc9 {l:List Mark} {t:List Ent} (hl:Srt Mark.path l) (ht:Srt Ent.path t):((onX l t).map Ent.path).Nodup:=by
 unfold onX;rw [List.map_append,List.nodup_append];refine ⟨Z8 (Z7 ht _),?_,fun p hp q hq=>?_⟩
 ·unfold List.Nodup;rw [List.pairwise_map,List.pairwise_filterMap];refine List.Pairwise.imp (fun {x y} h e he f hf=>?_) hl;rw [yQ he,yQ hf]; exact yc h
 ·rintro rfl;obtain ⟨e,he,rfl⟩:=List.mem_map.1 hp;obtain ⟨f,hf,hq⟩:=List.mem_map.1 hq;obtain ⟨m,hm,hf⟩:=List.mem_filterMap.1 hf;have h2:=(List.mem_filter.1 he).2;have h3:zv l m.path=some m:=jJ hl hm;rw [← hq,yQ hf,h3] at h2;simp at h2
theorem zkm {l:List Mark} {t S:List Ent} (hl:lOk l=true) (ht:Srt Ent.path t) (h:j5 Ent.path (onX l t) S):S=zW l t :=
 h.eq (zc9 (zU.1 hl).2.1 ht) (qO ht) (zai hl ht)
theorem zkl {l:List Mark} {t:List Ent} (hl:lOk l=true) (ht:Srt Ent.path t):(onX l t).length=(zW l t).length:=by
 have h1:∀ {α:Type} {key:α→Str} {a b:List α},(a.map key).Nodup→(∀ e,e∈a→e∈b)→[DecidableEq α]→a.length≤b.length:=by
  intro α key a b hn h _;refine QV ?_ h;unfold List.Nodup at hn ⊢;rw [List.pairwise_map] at hn;exact hn.imp fun h e=>h (by rw [e])
 have ha:=h1 (key:=Ent.path) (zc9 (zU.1 hl).2.1 ht) (fun e he=>(zai hl ht e).1 he);have hb:=h1 (key:=Ent.path) (Z8 (qO (l:=l) ht)) (fun e he=>(zai hl ht e).2 he);omega
def upC2 (t:List Ent) (p:Str):Int:=if pUp p=[47] then 0 else match find t (pUp p) with
 | none=>2
 | some e=>if e.dir=true then 0 else 3
theorem qQ {t:List Ent} {p:Str}:upC2 t p=0↔zF t (pUp p)=true:=by
 unfold upC2 zF get;by_cases h:pUp p=[47]
 ·rw [if_pos h,if_pos h]; simp [Q2]
 ·rw [if_neg h,if_neg h];cases find t (pUp p) with
  | none=>simp
  | some e=>cases e.dir<;>simp
end Go.Proofs.YtmkmldepkponaaaGreatDoor

namespace Go.Proofs.YtmkmldepkponaaaGreatDoor
set_option linter.unusedSimpArgs false
set_option linter.unusedVariables false
open Go Go.RowKit
theorem zb9 {α:Type} [Inhabited α] {enc:α→List Value} {k:Nat} (hk:∀ x,(enc x).length=k):∀ (l:List α) (t:Nat),t < l.length * k→(l.flatMap enc)[t]! = (enc l[t / k]!)[t % k]!
 | [],t,h=>by simp at h
 | a::r,t,h=>by
  have k0:0 < k:=by
   rcases Nat.eq_zero_or_pos k with h0 | h0
   ·subst h0; simp at h
   ·exact h0
  rw [List.flatMap_cons];by_cases ht:t < k
  ·rw [Nat.div_eq_of_lt ht,Nat.mod_eq_of_lt ht];have e:(enc a++r.flatMap enc)[t]? = (enc a)[t]? := List.getElem?_append_left (by rw [hk]; exact ht);simp only [List.getElem!_eq_getElem?_getD,e];simp
  ·have h2:t - k < r.length * k:=by rw [List.length_cons,Nat.add_mul,Nat.one_mul] at h; omega
   have ih:=zb9 hk r (t - k) h2;have e:(enc a++r.flatMap enc)[t]? = (r.flatMap enc)[t - k]? := by rw [List.getElem?_append_right (by rw [hk]; omega),hk]
   have e1:t / k=(t - k) / k+1:=by
    conv=>lhs; rw [show t=t - k+k by omega]
    exact Nat.add_div_right _ k0
   have e2:t % k=(t - k) % k:=by
    conv=>lhs; rw [show t=t - k+k by omega]
    exact Nat.add_mod_right _ _
   rw [e1,e2];simp only [List.getElem!_eq_getElem?_getD] at ih ⊢;rw [e,ih]; simp
theorem JB {α:Type} {enc:α→List Value} {k:Nat} (hk:∀ x,(enc x).length=k):∀ (l:List α),(l.flatMap enc).length=l.length * k
 | []=>by simp
 | a::r=>by rw [List.flatMap_cons,List.length_append,JB hk r,hk,List.length_cons,Nat.add_mul]; omega
theorem zb3 {α:Type} [Inhabited α] {enc:α→List Value} {k:Nat} (hk:∀ x,(enc x).length=k) (l:List α):Sort.flatK enc k l.toArray=(l.flatMap enc).toArray:=by
 refine Sort.ext_get! (by simp [JB hk]) fun t ht=>?_
 have ht':t < l.length * k:=by simpa using ht
 rw [Sort.get_flatK _ _ _ _ (by simpa using ht')];have:=zb9 hk l t ht';simp only [List.getElem!_eq_getElem?_getD] at this;simp [this]
theorem zkE {w:World} {b:Nat} {F F' rest:List Value} {e:TypeId} {n:Nat} {os:Array Obj} (hb:w.heap[b]? = some (.cells (F++rest).toArray e (0,0))) (hl:F'.length=F.length) :
  (Sort.grow (Sort.putRow id (Sort.ahead w n) b 0 F'.toArray) os).heap[b]? = some (.cells (F'++rest).toArray e (0,0)):=by
 have hlt:b < w.heap.size:=(Array.getElem?_eq_some_iff.1 hb).1;unfold Sort.grow;simp only;rw [Array.getElem?_append_left (by simpa using hlt)];unfold Sort.putRow Sort.mapBlock;simp only [Sort.heap_ahead,Array.getElem?_modify,if_true,hb,Option.map_some,Sort.onCells]
 congr 2
 unfold Sort.putCells;apply Array.ext
 ·simp [hl]
 ·intro i h1 h2;simp only [Array.getElem_mapIdx,List.getElem_toArray];simp at h1;by_cases hi:i < F'.length
  ·rw [if_pos (by simp; omega),List.getElem_append_left hi];simp [hi]
  ·rw [if_neg (by simp; omega),List.getElem_append_right (by omega),List.getElem_append_right (by omega)];simp only [hl]
theorem zkG {w:World} {b k:Nat} {F':List Value} {n:Nat} {os:Array Obj} (hk:k < w.heap.size) (hne:b≠k) :
  (Sort.grow (Sort.putRow id (Sort.ahead w n) b 0 F'.toArray) os).heap[k]? = w.heap[k]? := by
 unfold Sort.grow;simp only;rw [Array.getElem?_append_left (by simpa using hk)];unfold Sort.putRow Sort.mapBlock;simp [Array.getElem?_modify,hne]
section
variable {κ:Kap} {m:Mem} {w:World} {α:Type} {enc:α→List Value} {f:α→CV}
theorem zkN {v u:Value} (h:zc κ m w (.c (.sc v)) u):u=v∧wfv v:=by
 have h:RepC w (zf κ m) (.sc v) u:=h;cases h; exact ⟨rfl,by assumption⟩
theorem zdr:∀ {vs us:List Value},za (zc κ m w) (vs.map fun v => .c (.sc v)) us→us=vs∧∀ v∈vs,wfv v
 | [],[],_=>⟨rfl,by simp⟩
 | v::vs,u::us,h=>by
  obtain ⟨h1,h2⟩:=zkN h.1;obtain ⟨h3,h4⟩:=zdr h.2;exact ⟨by rw [h1,h3],by simpa using ⟨h2,h4⟩⟩
 | [],_::_,h=>h.elim
 | _::_,[],h=>h.elim
theorem zdB:∀ {vs:List Value},(∀ v∈vs,wfv v)→za (zc κ m w) (vs.map fun v => .c (.sc v)) vs
 | [],_=>trivial
 | v::vs,h=>⟨show RepC w (zf κ m) (.sc v) v from .sc (h v (by simp)),zdB fun u hu=>h u (by simp [hu])⟩
theorem Ym (hf:∀ a,f a = .agg ((enc a).map .sc)):∀ (X:List α),((X.map f).map PV.c).flatMap PV.cells=(X.flatMap enc).map fun v => .c (.sc v)
 | []=>rfl
 | a::X=>by
  rw [List.map_cons,List.map_cons,List.flatMap_cons,List.flatMap_cons,List.map_append,Ym hf X,hf];simp [PV.cells,CV.cells]
end
theorem zdO {α:Type} [Inhabited α] {P:Program} {W0:World} {F:FuncId} {fv:Value} {T:TypeId} {id k:Nat} {enc:α→List Value} {f:α→CV} {key:α→Str} {lt:α→α→Bool} (hf:∀ a,f a = .agg ((enc a).map .sc)) (hk:∀ x,(enc x).length=k) (h0:0 < k) (hlt:∀ a b,lt a b=ltS (key a) (key b))
  (hnone:∀ p cap w,Calls P F #[.slice p 0 cap,fv] w fun e w'=>e = .returned (.tuple #[])∧w'=w)
  (hsome:∀ b cap (d:Array α) w,Sort.HoldsK enc k w b 0 d→b < w.heap.size→d.size < 4611686018427387904→Calls P F #[.slice (some ⟨b,0,none⟩) d.size cap,fv] w fun e w' =>
   e = .returned (.tuple #[])∧∃ d' n os,Sort.PermIn 0 d.size d d'∧Sort.SortedIn lt 0 d.size d'∧w'=sortWorldK enc k w b 0 n d' os)
  (X:List α) (hX:X.length≤1000000) :
  zI P W0 F [.own id X.length,.c (.sc fv)] [(id,.row (X.map f) k T)] (j5 key X) (fun _ => .c (.tup [])) (fun S=>[(id,.row (S.map f) k T)]):=by
 intro κ w vs hB hm hr;obtain ⟨v1,v2,hvs⟩:∃ v1 v2,vs.toList=[v1,v2]:=by
  have:=za.length hr
  match h:vs.toList with
  | [a,b]=>exact ⟨a,b,rfl⟩
  | [] | [_] | _::_::_::_=>rw [h] at this; simp at this
 rw [hvs] at hr;obtain ⟨r1,r2,_⟩:=hr;have e2:v2=fv:=by
  have r2:RepC w (zf κ (er [(id,.row (X.map f) k T)])) (.sc fv) v2:=r2;cases r2; rfl
 subst e2;obtain ⟨⟨a,cap0,rfl,_⟩,hnm,L,sz,e,g1,g2,g3,_⟩:=r1;have hl:lk (er [(id,XB.row (X.map f) k T)]) id=some (.row ((X.map f).map .c) k T):=by simp [er,lk,XB.er]
 rw [hl] at g1;cases g1;have gO:=g3 (by simp);have hv:vs=#[.slice a X.length cap0,v2]:=by rw [← hvs]
 subst hv;have ret:∀ {κ':Kap} {m':Mem} {w':World},Rep κ' m' w' (.c (.tup [])) (.tuple #[]):=fun {κ' m' w'}=>show RepC w' _ (.tup []) (.tuple [].toArray) from .tup rfl (by simp)
 by_cases hXn:X=[]
 ·subst hXn;refine (hnone a cap0 w).mono ?_;rintro e w' ⟨rfl,rfl⟩;exact ⟨_,_,_,κ,rfl,⟨_,rfl,[],⟨List.Perm.nil,List.Pairwise.nil⟩,rfl,rfl⟩,hm,ret⟩
 obtain ⟨hsz,_,hblk⟩:=hm.mem.blk id _ hl;rcases hblk with ⟨_,hL⟩ | ⟨b,us,rest,hkb,hh,hall⟩
 ·rcases hL with hL | hL
  ·simp at hL; exact absurd hL hXn
  ·have:=ZU hL; simp [maxLen] at this; omega
 unfold zY at gO;rw [hkb] at gO;obtain ⟨cap,arr,e',hsl,hle,hcap,hb2,hsz2⟩:=gO;injection hsl with q1 q2 q3
 subst q1 q3;rw [Ym hf] at hall;obtain ⟨rfl,hwf⟩:=zdr hall;have hblt:b < w.heap.size:=(Array.getElem?_eq_some_iff.1 hh).1;have hfl:=JB hk X;have hH:Sort.HoldsK enc k w b 0 X.toArray:=by
  unfold Sort.HoldsK;rw [zb3 hk];intro j hj;have hj':j < (X.flatMap enc).length:=by simpa using hj
  refine ⟨?_,?_⟩
  ·unfold World.cell?;simp only [hh,Nat.zero_add];rw [List.getElem?_toArray,List.getElem?_append_left hj',List.getElem?_eq_getElem hj'];have:(X.flatMap enc).toArray[j]! = (X.flatMap enc)[j]:=by rw [getElem!_pos _ j (by simpa using hj')]; rfl
   exact congrArg some this.symm
  ·unfold World.frozen?;simp only [hh]; simp
 have hs:=hsome b cap0 X.toArray w hH hblt (by simp; omega);simp only [List.size_toArray] at hs;refine hs.mono ?_;rintro e w' ⟨rfl,d',n,os,hp,hsd,rfl⟩;have hds:d'.size=X.length:=by simpa using hp.1
 have hperm:d'.toList.Perm X:=by
  have:=hp.2.2;rw [Array.extract_eq_self_of_le (by omega)] at this
  simpa using this
 have hsorts:j5 key X d'.toList:=by
  refine ⟨hperm,?_⟩;rw [List.pairwise_iff_getElem];intro i j hi hj hij;rw [← hlt];have:=hsd i j (Nat.zero_le _) hij (by simpa [hds] using hj)
  simpa [getElem!_pos,show i < d'.size by simpa using hi,show j < d'.size by simpa using hj] using this
 have hwf':∀ v∈d'.toList.flatMap enc,wfv v:=by
  intro v hv;obtain ⟨x,hx,hv⟩:=List.mem_flatMap.1 hv;exact hwf v (List.mem_flatMap.2 ⟨x,hperm.mem_iff.1 hx,hv⟩)
 have hW:sortWorldK enc k w b 0 n d' os=Sort.grow (Sort.putRow _root_.id (Sort.ahead w n) b 0 (d'.toList.flatMap enc).toArray) os:=by
  unfold sortWorldK Sort.putRowK;rw [← zb3 hk d'.toList]
 rw [hW];have hl2:(d'.toList.flatMap enc).length=(X.flatMap enc).length:=by rw [JB hk,JB hk]; simp [hds]
 have hheap:=zkE (n:=n) (os:=os) hh hl2;have e1:upd (er [(id,XB.row (X.map f) k T)]) id (.row ((d'.toList.map f).map .c) k T)=er [(id,XB.row (d'.toList.map f) k T)]:=by simp [er,XB.er,upd]
 have hturn:=hm.turn (κ':=κ) (id:=id) (x := .row ((d'.toList.map f).map .c) k T) (y := .row ((X.map f).map .c) k T) (w':=Sort.grow (Sort.putRow _root_.id (Sort.ahead w n) b 0 (d'.toList.flatMap enc).toArray) os)
  hB.size hl rfl rfl rfl (by simp [Sort.grow,Sort.putRow,Sort.mapBlock]) rfl (fun _ _=>rfl) (fun j hj hne=>zkG hj (fun e=>hne (by rw [hkb,e]))) (.inl rfl) (fun cs h=>by cases h)
  (fun L sz e h=>by
   cases h;refine ⟨_,rfl,by simp [hds],fun _=>⟨rfl,fun b' arr e' hb' ha=>?_⟩⟩;rw [hkb] at hb'; cases hb';rw [hh] at ha; cases ha;exact ⟨_,hheap,by simp [hl2]⟩)
  (fun _=>by
   refine ⟨fun x hx=>?_,h0,.inr ⟨b,_,rest,hkb,hheap,?_⟩⟩
   ·obtain ⟨y,hy,rfl⟩:=List.mem_map.1 hx;obtain ⟨z,_,rfl⟩:=List.mem_map.1 hy;rw [hf]; simp [PV.cells,CV.cells,hk]
   ·rw [Ym hf]; exact zdB hwf') (.inr ⟨b,hkb⟩)
 rw [e1] at hturn;exact ⟨_,_,_,κ,rfl,⟨_,rfl,d'.toList,hsorts,rfl,rfl⟩,hturn.1,ret⟩
instance:Inhabited Ent:=⟨⟨[],false,[]⟩⟩
instance:Inhabited Mark:=⟨⟨[],0,[]⟩⟩
theorem zcR {x y z:Str} (h1:ltS x y=false) (h2:ltS y z=false):ltS x z=false:=by
 rcases JK h1 with rfl | h3
 ·exact h2
 ·rcases JK h2 with rfl | h4
  ·exact Zf h3
  ·exact Zf (yt h4 h3)
theorem swoS {α:Type} [Inhabited α] (key:α→Str):Sort.SWO (ltOf fun x y:α=>cmpS (key x) (key y)):=by
 have e:∀ x y:α,ltOf (fun x y:α=>cmpS (key x) (key y)) x y=ltS (key x) (key y):=fun x y=>Yq _ _
 refine ⟨fun x=>?_,fun x y z h1 h2=>?_,fun x y z h1 h2=>?_⟩
 ·rw [e]; exact qI _
 ·rw [e] at *; exact yt h1 h2
 ·rw [e] at *; exact zcR h1 h2
theorem Q5 {α:Type} {key:α→Str} {X:List α}:∃ S,j5 key X S:=by
 refine ⟨X.mergeSort (fun a b=>!ltS (key b) (key a)),List.mergeSort_perm _ _,?_⟩;have h:=List.pairwise_mergeSort (le:=fun a b:α=>!ltS (key b) (key a)) (fun a b c h1 h2=>by
  simp only [Bool.not_eq_true'] at *; exact zcR h2 h1) (fun a b=>by
  rcases QO (key a) (key b) with h | h | h
  ·rw [h,qI]; rfl
  ·rw [Zf h]; rfl
  ·rw [Zf h]; simp) X
 exact h.imp fun h=>by simpa using h
def zfx:XC:=(.r [.mv 2 0,.ex 3 (.opn 155 [2,(.k (.c (.sc (.func (.func 156) #[] #[]))))])])
theorem zfy:zh Tryz.prog [155] 113=some (zfx.ac,[],4):=by kernel_rfl
theorem ziu (W0:World) (id:Nat) (X:List Ent) (hX:X.length≤1000000):zI Tryz.prog W0 155 [.own id X.length,.c (.sc (.func (.func 156) ⟨[]⟩ ⟨[]⟩))] [(id,.row (X.map eEnt) 3 77)] (j5 Ent.path X) (fun _ => .c (.tup [])) (fun S=>[(id,.row (S.map eEnt) 3 77)]):=by
 have eg:∀ args w,(callFunc 156 args).run Tryz.prog w = .ok (.enter 156 args) w:=enters_of Tryz.func156 (by kernel_rfl) rfl;refine zdO (enc:=vEnt) (lt:=ltOf fun x y:Ent=>cmpS x.path y.path) (fun _=>rfl) (fun _=>rfl) (by decide) (fun x y=>Yq _ _) (fun p cap w=>?_) (fun b cap d w hH hb hd=>?_) X hX
 ·exact AnyF.slices_SortFunc_none { Tryz.sortE with } p cap _ w
 ·exact AnyQ.slices_SortFunc Tryz.sortE 3 Tryz.isAgg77 Tryz.sizeOf77 vEnt (fun _=>rfl) (fun x v hv=>by simp [vEnt] at hv; rcases hv with rfl|rfl|rfl<;>rfl) (fun x y=>cmpS x.path y.path) (swoS Ent.path) 156 #[] b 0 cap d w eg (fun _ _ _ _ x y=>zh4 x y _) hH hb hd
theorem zi1 (W0:World) (X:List Ent) (hX:X.length≤1000000):zI Tryz.prog W0 113 [.own 1 X.length] [(1,.row (X.map eEnt) 3 77)] (j5 Ent.path X) (fun _ => .tup []) (fun S=>[(1,.row (S.map eEnt) 3 77)]):=by
 refine fW mixed zfy fun hg=>?_
 refine dr ?_;refine oW (ziu W0 1 X hX) rfl ⟨rfl,trivial⟩ rfl rfl Q5 fun S hS=>⟨rfl,?_⟩
 refine dr ?_;refine ⟨none,_,_,?_,S,hS,rfl,rfl⟩;refine dr ?_;trivial
def zfz:XC:=(.r [.mv 2 0,.ex 3 (.opn 140 [2,(.k (.c (.sc (.func (.func 141) #[] #[]))))])])
theorem zfA:zh Tryz.prog [140] 107=some (zfz.ac,[],4):=by kernel_rfl
theorem ziv (W0:World) (id:Nat) (X:List Mark) (hX:X.length≤1000000):zI Tryz.prog W0 140 [.own id X.length,.c (.sc (.func (.func 141) ⟨[]⟩ ⟨[]⟩))] [(id,.row (X.map jm) 3 34)] (j5 Mark.path X) (fun _ => .c (.tup [])) (fun S=>[(id,.row (S.map jm) 3 34)]):=by
 have eg:∀ args w,(callFunc 141 args).run Tryz.prog w = .ok (.enter 141 args) w:=enters_of Tryz.func141 (by kernel_rfl) rfl;refine zdO (enc:=vMark) (lt:=ltOf fun x y:Mark=>cmpS x.path y.path) (fun _=>rfl) (fun _=>rfl) (by decide) (fun x y=>Yq _ _) (fun p cap w=>?_) (fun b cap d w hH hb hd=>?_) X hX
 ·exact AnyF.slices_SortFunc_none { Tryz.sortM with } p cap _ w
 ·exact AnyQ.slices_SortFunc Tryz.sortM 3 Tryz.isAgg34 Tryz.sizeOf34 vMark (fun _=>rfl) (fun x v hv=>by simp [vMark] at hv; rcases hv with rfl|rfl|rfl<;>rfl) (fun x y=>cmpS x.path y.path) (swoS Mark.path) 141 #[] b 0 cap d w eg (fun _ _ _ _ x y=>zh5 x y _) hH hb hd
theorem zi2 (W0:World) (X:List Mark) (hX:X.length≤1000000):zI Tryz.prog W0 107 [.own 1 X.length] [(1,.row (X.map jm) 3 34)] (j5 Mark.path X) (fun _ => .tup []) (fun S=>[(1,.row (S.map jm) 3 34)]):=by
 refine fW mixed zfA fun hg=>?_
 refine dr ?_;refine oW (ziv W0 1 X hX) rfl ⟨rfl,trivial⟩ rfl rfl Q5 fun S hS=>⟨rfl,?_⟩
 refine dr ?_;refine ⟨none,_,_,?_,S,hS,rfl,rfl⟩;refine dr ?_;trivial
end Go.Proofs.YtmkmldepkponaaaGreatDoor

namespace Go.Proofs.YtmkmldepkponaaaGreatDoor
set_option linter.unusedSimpArgs false
set_option linter.unusedVariables false
open Go Go.RowKit
theorem zcb {α:Type} {key:α→Str} {t:List α} {p:Str} {k:Nat} (h:k < t.length) (hp:key t[k]=p) (hn:∀ i (h':i < t.length),i < k→key t[i]≠p):fnd key t p=some t[k]:=by
 unfold fnd;rw [List.find?_eq_some_iff_getElem];exact ⟨by simp [hp],k,h,rfl,fun i hi=>by simpa using hn i (by omega) hi⟩
theorem zca {α:Type} {key:α→Str} {t:List α} {p:Str} (hn:∀ i (h':i < t.length),key t[i]≠p):fnd key t p=none :=
 jK.2 fun e he=>by obtain ⟨i,hi,rfl⟩:=List.mem_iff_getElem.1 he; exact hn i hi
def noM:Mark:=⟨[],0,[]⟩
def eMarkO:Option Mark→CV
 | none => .tup [jm noM,CB false]
 | some m => .tup [jm m,CB true]
theorem Qn (o:Option Mark):eMarkO o = .tup [jm (o.getD noM),CB o.isSome]:=by cases o<;>rfl
def zfj:XC:=(.s (.r [.ex 4 (.alloc zE),.m1 5 .n]) (.s (.s (.r [.mv 8 0,.n1 9 8,.m1 10 (.i 0)]) (.blk 0 (.loop (.s (.r [.b1 11 .lss 10 9]) (.s (.ce 11 0) (.s (.blk 1 (.s (.r [.i1 12 3 8 10,.l2 13 3 12,.ex 7 (.alloc zE),.s1 3 7 13]) (.s (.r [.f1 14 0 7,.l1 15 1 14,.mv 16 1,.b1 17 .eql 15 16]) (.cnd 17 (.s (.r [.l2 18 3 7,.s1 3 4 18,.m1 5 .y]) .ret) .skip)))) (.r [.b1 19 .add 10 (.i 1),.mv 10 19]))))))) (.s (.r [.ex 20 (.build zE []),.s1 3 4 20,.m1 5 .n]) .ret)))
theorem zfk:zh Tryz.prog [] 115=some (zfj.ac,[(.cell 4 true 3),(.t 5)],21):=by kernel_rfl
theorem zbz (W0:World) (t:List Ent) (p:Str):Fn Tryz.prog W0 115 [ze t,CS p] (.c (eEntO (find t p))) []:=by
 refine fX mixed zfk fun hg=>?_
 have g1:=jL (hg _ (by simp:ze t∈_));refine dr ?_;refine lp (σ:=Nat) (fun k=>[(1,.c (CS p)),(4,.ptr 64 0),(8,.c (ze t)),(9,I t.length),(10,I k)]) (fun _=>[(64,.box [.c (CS []),(.c (CB false)),.c (CS [])])]) (fun k=>k≤t.length∧∀ i (h':i < t.length),i < k→t[i].path≠p) (fun k=>t.length - k) 0 ⟨by simp,by simp⟩ ?_ ?_
 ·refine dr ?_;trivial
 rintro k ⟨hk,ha⟩;refine dr ?_;apply cP<;>intro h1
 ·refine dr ?_;apply cP<;>intro h2
  ·refine dr ?_;have:find t p=some t[k]:=zcb (key:=Ent.path) (by omega) h2 ha;rw [this]; rfl
  ·refine dr ?_;refine ⟨k+1,⟨by omega,fun i h' hi=>?_⟩,by omega,?_⟩
   ·by_cases e:i=k
    ·subst e; exact h2
    ·exact ha i h' (by omega)
   ·refine dr ?_;trivial
 ·refine dr ?_;have:find t p=none:=zca (key:=Ent.path) fun i h'=>ha i h' (by omega)
  rw [this]; rfl
def zfn:XC:=(.s (.r [.ex 4 (.alloc [sE,(I 0),sE]),.m1 5 .n]) (.s (.s (.r [.mv 8 0,.n1 9 8,.m1 10 (.i 0)]) (.blk 0 (.loop (.s (.r [.b1 11 .lss 10 9]) (.s (.ce 11 0) (.s (.blk 1 (.s (.r [.i1 12 3 8 10,.l2 13 3 12,.ex 7 (.alloc [sE,(I 0),sE]),.s1 3 7 13]) (.s (.r [.f1 14 0 7,.l1 15 1 14,.mv 16 1,.b1 17 .eql 15 16]) (.cnd 17 (.s (.r [.l2 18 3 7,.s1 3 4 18,.m1 5 .y]) .ret) .skip)))) (.r [.b1 19 .add 10 (.i 1),.mv 10 19]))))))) (.s (.r [.ex 20 (.build [sE,(I 0),sE] []),.s1 3 4 20,.m1 5 .n]) .ret)))
theorem zfo:zh Tryz.prog [] 118=some (zfn.ac,[(.cell 4 true 3),(.t 5)],21):=by kernel_rfl
theorem QA (W0:World) (t:List Mark) (p:Str):Fn Tryz.prog W0 118 [zg t,CS p] (.c (eMarkO (zv t p))) []:=by
 refine fX mixed zfo fun hg=>?_
 have g1:=jL (hg _ (by simp:zg t∈_));refine dr ?_;refine lp (σ:=Nat) (fun k=>[(1,.c (CS p)),(4,.ptr 64 0),(8,.c (zg t)),(9,I t.length),(10,I k)]) (fun _=>[(64,.box [.c (CS []),(.c (CI 0)),.c (CS [])])]) (fun k=>k≤t.length∧∀ i (h':i < t.length),i < k→t[i].path≠p) (fun k=>t.length - k) 0 ⟨by simp,by simp⟩ ?_ ?_
 ·refine dr ?_;trivial
 rintro k ⟨hk,ha⟩;refine dr ?_;apply cP<;>intro h1
 ·refine dr ?_;apply cP<;>intro h2
  ·refine dr ?_;have:zv t p=some t[k]:=zcb (key:=Mark.path) (by omega) h2 ha;rw [this]; rfl
  ·refine dr ?_;refine ⟨k+1,⟨by omega,fun i h' hi=>?_⟩,by omega,?_⟩
   ·by_cases e:i=k
    ·subst e; exact h2
    ·exact ha i h' (by omega)
   ·refine dr ?_;trivial
 ·refine dr ?_;have:zv t p=none:=zca (key:=Mark.path) fun i h'=>ha i h' (by omega)
  rw [this]; rfl
def zff:XC:=(.s (.r [.a2 2 3 77]) (.s (.r [.mv 3 0,.ex 4 (.app true 3 40 77 (.k .nil) 3),.a1 2 4 3 77]) .ret))
theorem zfg:zh Tryz.prog [] 86=some (zff.ac,[(.t 2)],5):=by kernel_rfl
theorem ziy (W0:World) (t:List Ent) (ht:t.length≤1000000):Fn Tryz.prog W0 86 [ze t] (.c (ze t)) []:=by
 refine fX mixed zfg fun hg=>?_
 refine dr ?_;repeat ((first|refine oB (by simp; omega) ?_|refine oB (by simp) ?_); first|refine dr ?_|exact dz)
 rfl
def zfB:XC:=(.s (.r [.m1 4 (.i 0)]) (.s (.r [.mv 8 1,.c1 9 117 [8],.mv 5 9]) (.s (.s (.r [.mv 10 5,.ex 11 (.bin .eql 10 (.s [47]))]) (.cnd 11 (.s (.r [.m1 4 (.i 0)]) .ret) .skip)) (.s (.r [.mv 13 0,.mv 14 5,.c1 15 115 [13,14],.mv 12 15,.e1 16 12 0,.e1 17 12 1,.ex 6 (.alloc zE),.s1 3 6 16,.mv 7 17]) (.s (.s (.r [.mv 18 7,.u1 19 18]) (.cnd 19 (.s (.r [.m1 4 (.i 2)]) .ret) .skip)) (.s (.s (.r [.f1 20 1 6,.l1 21 1 20,.u1 22 21]) (.cnd 22 (.s (.r [.m1 4 (.i 3)]) .ret) .skip)) (.s (.r [.m1 4 (.i 0)]) .ret)))))))
theorem zfC:zh Tryz.prog [] 116=some (zfB.ac,[(.t 4)],23):=by kernel_rfl
theorem Jz (W0:World) (hM:HM W0) (t:List Ent) (p:Str):Fn Tryz.prog W0 116 [ze t,CS p] (.c (CI (upC2 t p))) []:=by
 refine fX mixed zfC fun hg=>?_
 refine dEr ?_;repeat (refine c0 (ZL W0 hM p) rfl ?_; first|refine dEr ?_|exact dz)
 apply cP<;>intro h1
 ·refine dr ?_;rw [upC2,if_pos h1]<;>rfl
 have hc:=zbz W0 t (pUp p);rw [upC2,if_neg h1];cases hx:find t (pUp p) with
 | none =>
  rw [hx] at hc;refine dEr ?_;repeat (refine c0 hc rfl ?_; first|refine dEr ?_|exact dz)
  try rfl
 | some e =>
  rw [hx] at hc;refine dEr ?_;repeat (refine c0 hc rfl ?_; first|refine dEr ?_|exact dz)
  apply cP<;>intro h2
  ·refine dr ?_;exact congrArg CI (by simp [h2])
  ·refine dr ?_;exact congrArg CI (by simp [h2])
def ze9:XC:=(.s (.r [.m1 2 .n]) (.s (.s (.r [.mv 5 0,.n1 6 5,.b1 7 .gtr 6 (.i 16)]) (.cnd 7 (.rf 2) .skip)) (.s (.s (.r [.mv 8 0,.n1 9 8,.m1 10 (.i 0)]) (.blk 0 (.loop (.s (.r [.b1 11 .lss 10 9]) (.s (.ce 11 0) (.s (.blk 1 (.s (.r [.mv 12 10,.i1 13 3 8 10,.l2 14 3 13,.ex 4 (.alloc zE),.mv 3 12,.s1 3 4 14]) (.s (.s (.r [.f1 15 0 4,.l1 16 1 15,.c1 17 123 [16],.u1 18 17,.mv 19 18,.h1 20 2 4 19,.h2 21 1 20 19,.gf 22 (.call 124 [21]) 19,.gf 23 (.un .not 22) 19,.p1 24 19 23,.mv 25 24,.h1 26 1 4 25,.h2 27 1 26 25,.h3 28 27 25,.g1 29 2 4 28,.g2 30 1 29 28,.gt 31 (.bin .neq 30 (.s [])) 28,.gf 32 (.pick 28 31 .n) 25,.p1 33 25 32]) (.cnd 33 (.rf 2) .skip)) (.s (.s (.d [.mv 34 3,.b1 35 .gtr 34 (.i 0),.mv 36 35,.g3 37 0 36,.g3 38 3 36,.gt 39 (.bin .sub 38 (.i 1)) 36,.gt 40 (.ia 3 37 39) 36,.g1 41 0 40 36,.g2 42 1 41 36,.g1 43 0 4 36,.g2 44 1 43 36,.gt 45 (.bin .geq 42 44) 36,.p2 46 36 45]) (.cnd 46 (.rf 2) .skip)) (.s (.r [.mv 47 0,.f1 48 0 4,.l1 49 1 48,.c1 50 116 [47,49],.b1 51 .neq 50 (.i 0)]) (.cnd 51 (.rf 2) .skip)))))) (.r [.b1 52 .add 10 (.i 1),.mv 10 52]))))))) (.rt 2))))
theorem zfa:zh Tryz.prog [] 85=some (ze9.ac,[(.t 2)],53):=by kernel_rfl
theorem Qu (W0:World) (hM:HM W0) (t:List Ent):Fn Tryz.prog W0 85 [ze t] (.c (CB (tOk t))) []:=by
 refine fX mixed zfa fun hg=>?_
 have g1:=jL (hg _ (by simp:ze t∈_));have no:¬ TG t→CB false=CB (tOk t):=fun h=>bF (by
  rw [Bool.eq_false_iff]; exact fun e=>h (TG.of e))
 refine dr ?_;apply cP<;>intro h1
 ·refine dr ?_;exact no fun h=>by have:=h.len; omega
 refine dr ?_;refine lp (σ:=Nat) (fun k=>[(0,.c (ze t)),(8,.c (ze t)),(9,I t.length),(10,I k)]) (fun _=>[]) (fun k=>k≤t.length∧∀ j (h:j < t.length),j < k→eok t[j]=true∧zF t (pUp t[j].path)=true∧(0 < j→ltS t[j - 1].path t[j].path=true)) (fun k=>t.length - k) 0 ⟨by simp,by simp⟩ ?_ ?_
 ·refine dr ?_;trivial
 rintro k ⟨hk,ha⟩;refine dr ?_;apply cP<;>intro h2;rotate_left
 ·refine dr ?_;refine bT (JY.2 ⟨by omega,yu.2 fun j hj=>?_,fun e he=>?_,fun e he=>?_⟩)
  ·exact (ha (j+1) hj (by omega)).2.2 (by omega)
  ·obtain ⟨j,hj,rfl⟩:=List.mem_iff_getElem.1 he;exact (ha j hj (by omega)).1
  ·obtain ⟨j,hj,rfl⟩:=List.mem_iff_getElem.1 he;exact (ha j hj (by omega)).2.1
 have hk':k < t.length:=by omega
 have no1:eok t[k]=false→CB false=CB (tOk t):=fun h=>no fun g=>by
  have:=g.ok _ (List.getElem_mem hk'); rw [h] at this; cases this
 refine dEr ?_;repeat (refine c0 (Qt W0 hM _) rfl ?_; first|refine dEr ?_|exact dz)
 apply cP<;>intro h3
 ·refine dr ?_;exact no1 (by simp [eok,h3])
 refine dEr ?_;repeat (refine c0 (zby W0 _) rfl ?_; first|refine dEr ?_|exact dz)
 apply cP<;>intro h4
 ·refine dr ?_;exact no1 (by simp [eok,h4])
 refine dr ?_;apply cP<;>intro h5
 ·refine dr ?_;apply cP<;>intro h6
  ·refine dr ?_;exact no1 (by simp [eok,h5,h6])
  ·have hok:eok t[k]=true:=by rw [eok,h3,h4]; simp [h6]
   clear h6;refine dr ?_;apply cP<;>intro h7
   ·refine dr ?_;repeat (refine aM (j:=k - 1) (by omega) (by omega) ?_; first|refine dr ?_|exact dz)
    cases h8:ltS t[k - 1].path t[k].path
    ·refine dr ?_;exact no fun h=>by
      have:=yu.1 h.srt (k - 1) (by omega);simp only [show k - 1+1=k by omega] at this;rw [h8] at this; cases this
    ·refine dEr ?_;repeat (refine c0 (Jz W0 hM t _) rfl ?_; first|refine dEr ?_|exact dz)
     apply cP<;>intro h9
     ·refine dr ?_;exact no fun h=>h9 ((qQ).2 (h.up _ (List.getElem_mem hk')))
     ·refine dr ?_;refine ⟨k+1,⟨by omega,fun j h hj=>?_⟩,by omega,?_⟩
      ·by_cases e:j=k
       ·subst e; exact ⟨hok,qQ.1 h9,fun _=>h8⟩
       ·exact ha j h (by omega)
      ·refine dr ?_;trivial
   ·refine dEr ?_;repeat (refine c0 (Jz W0 hM t _) rfl ?_; first|refine dEr ?_|exact dz)
    apply cP<;>intro h9
    ·refine dr ?_;exact no fun h=>h9 ((qQ).2 (h.up _ (List.getElem_mem hk')))
    ·refine dr ?_;refine ⟨k+1,⟨by omega,fun j h hj=>?_⟩,by omega,?_⟩
     ·by_cases e:j=k
      ·subst e; exact ⟨hok,qQ.1 h9,fun h=>by omega⟩
      ·exact ha j h (by omega)
     ·refine dr ?_;trivial
 ·have hok:eok t[k]=true:=by simp [eok,h3,h4,h5]
  refine dr ?_;apply cP<;>intro h7
  ·refine dr ?_;repeat (refine aM (j:=k - 1) (by omega) (by omega) ?_; first|refine dr ?_|exact dz)
   cases h8:ltS t[k - 1].path t[k].path
   ·refine dr ?_;exact no fun h=>by
     have:=yu.1 h.srt (k - 1) (by omega);simp only [show k - 1+1=k by omega] at this;rw [h8] at this; cases this
   ·refine dEr ?_;repeat (refine c0 (Jz W0 hM t _) rfl ?_; first|refine dEr ?_|exact dz)
    apply cP<;>intro h9
    ·refine dr ?_;exact no fun h=>h9 ((qQ).2 (h.up _ (List.getElem_mem hk')))
    ·refine dr ?_;refine ⟨k+1,⟨by omega,fun j h hj=>?_⟩,by omega,?_⟩
     ·by_cases e:j=k
      ·subst e; exact ⟨hok,qQ.1 h9,fun _=>h8⟩
      ·exact ha j h (by omega)
     ·refine dr ?_;trivial
  ·refine dEr ?_;repeat (refine c0 (Jz W0 hM t _) rfl ?_; first|refine dEr ?_|exact dz)
   apply cP<;>intro h9
   ·refine dr ?_;exact no fun h=>h9 ((qQ).2 (h.up _ (List.getElem_mem hk')))
   ·refine dr ?_;refine ⟨k+1,⟨by omega,fun j h hj=>?_⟩,by omega,?_⟩
    ·by_cases e:j=k
     ·subst e; exact ⟨hok,qQ.1 h9,fun h=>by omega⟩
     ·exact ha j h (by omega)
    ·refine dr ?_;trivial
def zfd:XC:=(.s (.r [.m1 4 .n]) (.s (.s (.r [.mv 7 0,.n1 8 7,.m1 9 (.i 0)]) (.blk 0 (.loop (.s (.r [.b1 10 .lss 9 8]) (.s (.ce 10 0) (.s (.blk 1 (.s (.r [.i1 11 3 7 9,.l2 12 3 11,.ex 6 (.alloc [sE,(I 0),sE]),.s1 3 6 12]) (.s (.r [.f1 13 1 6,.l1 14 1 13,.b1 15 .eql 14 (.i 4),.mv 16 15,.g3 17 1 16,.g1 18 0 6 16,.g2 19 1 18 16,.gt 20 (.call 139 [17,19]) 16,.p2 21 16 20]) (.cnd 21 (.rt 4) .skip)))) (.r [.b1 22 .add 9 (.i 1),.mv 9 22]))))))) (.rf 4)))
theorem zfe:zh Tryz.prog [] 106=some (zfd.ac,[(.t 4)],23):=by kernel_rfl
def qD (l:List Mark) (p:Str):Bool:=l.any fun m=>m.kind==4&&und2 p m.path
theorem yE (W0:World) (hM:HM W0) (t:List Mark) (p:Str):Fn Tryz.prog W0 106 [zg t,CS p] (.c (CB (qD t p))) []:=by
 refine fX mixed zfe fun hg=>?_
 have g1:=jL (hg _ (by simp:zg t∈_));refine dr ?_;refine lp (σ:=Nat) (fun k=>[(1,.c (CS p)),(7,.c (zg t)),(8,I t.length),(9,I k)]) (fun _=>[]) (fun k=>k≤t.length∧qD (t.take k) p=false) (fun k=>t.length - k) 0 ⟨by simp,by simp [qD]⟩ ?_ ?_
 ·refine dr ?_;trivial
 rintro k ⟨hk,ha⟩;refine dr ?_;apply cP<;>intro h1
 ·have hk':k < t.length:=by omega
  have no:(t[k].kind==4&&und2 p t[k].path)=false→qD (t.take (k+1)) p=false:=fun h=>by
   rw [qD] at ha ⊢;rw [List.take_succ_eq_append_getElem hk',List.any_append,ha]; simpa using h
  have yes:(t[k].kind==4&&und2 p t[k].path)=true→CB true=CB (qD t p):=fun h=>bT (by
   rw [qD,List.any_eq_true]; exact ⟨t[k],List.getElem_mem hk',h⟩)
  refine dr ?_;apply cP<;>intro h2
  ·refine dEr ?_;repeat (refine c0 (zbC W0 hM _ _) rfl ?_; first|refine dEr ?_|exact dz)
   apply cP<;>intro h3
   ·refine dr ?_;exact yes (by simp [h2,h3])
   ·refine dr ?_;refine ⟨k+1,⟨by omega,no (by simp [h3])⟩,by omega,?_⟩;refine dr ?_;trivial
  ·refine dr ?_;refine ⟨k+1,⟨by omega,no (by simp [h2])⟩,by omega,?_⟩;refine dr ?_;trivial
 ·refine dr ?_;have:k=t.length:=by omega
  subst this;rw [List.take_length] at ha;rw [ha]
theorem zeC {l:List Mark} (h:∀ m∈l,pOk m.path=true) {p:Str} (hp:pOk p=true):qD l p=zJ l p:=by
 rw [Bool.eq_iff_iff,qD,zJ,List.any_eq_true,List.any_eq_true];constructor
 ·rintro ⟨m,hm,h1⟩; exact ⟨m,hm,by rw [← Yf hp (h m hm)]; exact h1⟩
 ·rintro ⟨m,hm,h1⟩; exact ⟨m,hm,by rw [Yf hp (h m hm)]; exact h1⟩
theorem yh {l:List Mark} (h:LG l) {p:Str} (hp:pOk p=true):qD l p=zJ l p:=zeC (fun _ hm=>h.path hm) hp
def zfl:XC:=(.s (.r [.m1 4 .n]) (.s (.s (.r [.mv 7 0,.n1 8 7,.m1 9 (.i 0)]) (.blk 0 (.loop (.s (.r [.b1 10 .lss 9 8]) (.s (.ce 10 0) (.s (.blk 1 (.s (.r [.i1 11 3 7 9,.l2 12 3 11,.ex 6 (.alloc [sE,(I 0),sE]),.s1 3 6 12]) (.s (.r [.f1 13 1 6,.l1 14 1 13,.b1 15 .neq 14 (.i 2),.mv 16 15,.g1 17 0 6 16,.g2 18 1 17 16,.g3 19 1 16,.gt 20 (.bin .eql 18 19) 16,.g3 21 20 16,.h3 22 1 21,.h1 23 0 6 21,.h2 24 1 23 21,.gf 25 (.call 139 [22,24]) 21,.gt 26 (.pick 21 .y 25) 16,.p2 27 16 26]) (.cnd 27 (.rt 4) .skip)))) (.r [.b1 28 .add 9 (.i 1),.mv 9 28]))))))) (.rf 4)))
theorem zfm:zh Tryz.prog [] 125=some (zfl.ac,[(.t 4)],29):=by kernel_rfl
def yp (l:List Mark) (p:Str):Bool:=l.any fun m=>m.kind != 2&&(m.path==p||und2 p m.path)
theorem ziB (W0:World) (hM:HM W0) (t:List Mark) (p:Str):Fn Tryz.prog W0 125 [zg t,CS p] (.c (CB (yp t p))) []:=by
 refine fX mixed zfm fun hg=>?_
 have g1:=jL (hg _ (by simp:zg t∈_));refine dr ?_;refine lp (σ:=Nat) (fun k=>[(1,.c (CS p)),(7,.c (zg t)),(8,I t.length),(9,I k)]) (fun _=>[]) (fun k=>k≤t.length∧yp (t.take k) p=false) (fun k=>t.length - k) 0 ⟨by simp,by simp [yp]⟩ ?_ ?_
 ·refine dr ?_;trivial
 rintro k ⟨hk,ha⟩;refine dr ?_;apply cP<;>intro h1
 ·have hk':k < t.length:=by omega
  have no:(t[k].kind != 2&&(t[k].path==p||und2 p t[k].path))=false→yp (t.take (k+1)) p=false:=fun h=>by
   rw [yp] at ha ⊢;rw [List.take_succ_eq_append_getElem hk',List.any_append,ha]; simpa using h
  have yes:(t[k].kind != 2&&(t[k].path==p||und2 p t[k].path))=true→CB true=CB (yp t p):=fun h=>bT (by
   rw [yp,List.any_eq_true]; exact ⟨t[k],List.getElem_mem hk',h⟩)
  refine dr ?_;apply cP<;>intro h2
  ·refine dr ?_;apply cP<;>intro h4
   ·refine dr ?_;exact yes (by simp [h2,h4])
   ·refine dEr ?_;repeat (refine c0 (zbC W0 hM _ _) rfl ?_; first|refine dEr ?_|exact dz)
    apply cP<;>intro h3
    ·refine dr ?_;exact yes (by simp [h2,h3])
    ·refine dr ?_;refine ⟨k+1,⟨by omega,no (by simp [h3,h4])⟩,by omega,?_⟩;refine dr ?_;trivial
  ·refine dr ?_;refine ⟨k+1,⟨by omega,no (by simp [h2])⟩,by omega,?_⟩;refine dr ?_;trivial
 ·refine dr ?_;have:k=t.length:=by omega
  subst this;rw [List.take_length] at ha;rw [ha]
theorem zjC {l:List Mark} (h:LG l) {p:Str} (hp:pOk p=true):yp l p=zw l p:=by
 rw [Bool.eq_iff_iff,yp,List.any_eq_true];constructor
 ·rintro ⟨m,hm,h1⟩;simp only [Bool.and_eq_true,Bool.or_eq_true,beq_iff_eq,bne_iff_ne] at h1;rw [Yf hp (h.path hm)] at h1;exact j0 hm h1.1 h1.2
 ·intro h1;obtain ⟨m,hm,hk,hu⟩:=yP h1;refine ⟨m,hm,?_⟩;simp only [Bool.and_eq_true,Bool.or_eq_true,beq_iff_eq,bne_iff_ne];rw [Yf hp (h.path hm)];exact ⟨hk,hu⟩
def zfF:XC:=(.s (.r [.x1 1 0,.m1 2 .n]) (.s (.r [.f1 3 1 1,.l1 4 1 3,.b1 5 .eql 4 (.i 2),.mv 6 5,.h1 7 1 1 6,.h2 8 1 7 6,.gf 9 (.bin .eql 8 (.i 4)) 6,.p1 10 6 9,.mv 2 10]) .ret))
theorem zfG:zh Tryz.prog [] 126=some (zfF.ac,[(.t 2)],11):=by kernel_rfl
theorem YG (W0:World) (m:Mark):Fn Tryz.prog W0 126 [jm m] (.c (CB (decide (m.kind=2∨m.kind=4)))) []:=by
 refine fX mixed zfG fun hg=>?_
 refine dr ?_;apply cP<;>intro h1
 ·refine dr ?_;exact bT (by simp [h1])
 ·refine dr ?_;refine congrArg CB ?_;rw [Bool.eq_iff_iff]; simp [h1,ZF]
def zfp:XC:=(.s (.r [.x1 1 0,.m1 2 .n]) (.s (.s (.r [.f1 3 1 1,.l1 4 1 3,.b1 5 .lss 4 (.i 1),.mv 6 5,.h1 7 1 1 6,.h2 8 1 7 6,.gf 9 (.bin .gtr 8 (.i 4)) 6,.p1 10 6 9,.mv 11 10,.h1 12 0 1 11,.h2 13 1 12 11,.gf 14 (.call 123 [13]) 11,.gf 15 (.un .not 14) 11,.p1 16 11 15]) (.cnd 16 (.rf 2) .skip)) (.s (.s (.r [.f1 17 1 1,.l1 18 1 17,.b1 19 .neq 18 (.i 1)]) (.cnd 19 (.s (.r [.f1 20 2 1,.l1 21 1 20,.ex 22 (.bin .eql 21 (.s [])),.mv 2 22]) .ret) .skip)) (.s (.r [.f1 23 2 1,.l1 24 1 23,.c1 25 124 [24],.mv 2 25]) .ret))))
theorem zfq:zh Tryz.prog [] 138=some (zfp.ac,[(.t 2)],26):=by kernel_rfl
theorem ziX (W0:World) (hM:HM W0) (m:Mark):Fn Tryz.prog W0 138 [jm m] (.c (CB (mok m))) []:=by
 refine fX mixed zfq fun hg=>?_
 refine dr ?_;apply cP<;>intro h1
 ·refine dr ?_;exact bF (by simp [mok]; omega)
 refine dr ?_;apply cP<;>intro h2
 ·refine dr ?_;exact bF (by simp [mok]; omega)
 refine dEr ?_;repeat (refine c0 (Qt W0 hM _) rfl ?_; first|refine dEr ?_|exact dz)
 apply cP<;>intro h3
 ·refine dr ?_;exact bF (by simp [mok,h3])
 have hk:(decide (1≤m.kind)&&decide (m.kind≤4))=true:=by simp; omega
 refine dr ?_;apply cP<;>intro h4
 ·refine dr ?_;refine congrArg CB ?_;rw [mok,hk,h3,Bool.eq_iff_iff];simp [h4,yB];intro e; rw [e]; rfl
 ·refine dEr ?_;repeat (refine c0 (zby W0 _) rfl ?_; first|refine dEr ?_|exact dz)
  refine congrArg CB ?_;rw [mok,hk,h3,Bool.eq_iff_iff];simp [h4]
end Go.Proofs.YtmkmldepkponaaaGreatDoor

namespace Go.Proofs.YtmkmldepkponaaaGreatDoor
set_option linter.unusedSimpArgs false
set_option linter.unusedVariables false
open Go Go.RowKit
def zeV:XC:=(.s (.r [.m1 2 .n]) (.s (.s (.r [.mv 8 0,.n1 9 8,.b1 10 .gtr 9 (.i 32)]) (.cnd 10 (.rf 2) .skip)) (.s (.s (.r [.mv 11 0,.n1 12 11,.m1 13 (.i 0)]) (.blk 0 (.loop (.s (.r [.b1 14 .lss 13 12]) (.s (.ce 14 0) (.s (.blk 1 (.s (.r [.mv 15 13,.i1 16 3 11 13,.l2 17 3 16,.ex 4 (.alloc [sE,(I 0),sE]),.mv 3 15,.s1 3 4 17]) (.s (.s (.r [.l2 18 3 4,.c1 19 138 [18],.u1 20 19]) (.cnd 20 (.rf 2) .skip)) (.s (.s (.d [.mv 21 3,.b1 22 .gtr 21 (.i 0),.mv 23 22,.g3 24 0 23,.g3 25 3 23,.gt 26 (.bin .sub 25 (.i 1)) 23,.gt 27 (.ia 3 24 26) 23,.g1 28 0 27 23,.g2 29 1 28 23,.g1 30 0 4 23,.g2 31 1 30 23,.gt 32 (.bin .geq 29 31) 23,.p2 33 23 32]) (.cnd 33 (.rf 2) .skip)) (.s (.s (.r [.f1 34 0 4,.l1 35 1 34,.c1 36 117 [35],.mv 5 36]) (.s (.r [.mv 37 5,.ex 38 (.bin .neq 37 (.s [47]))]) (.cnd 38 (.s (.r [.mv 40 0,.mv 41 5,.c1 42 118 [40,41],.mv 39 42,.e1 43 39 0,.e1 44 39 1,.ex 6 (.alloc [sE,(I 0),sE]),.s1 3 6 43,.mv 7 44]) (.s (.r [.mv 45 7,.u1 46 45,.mv 47 46,.gf 48 (.ld true 3 6) 47,.gf 49 (.call 126 [48]) 47,.gf 50 (.un .not 49) 47,.p1 51 47 50]) (.cnd 51 (.rf 2) .skip))) .skip))) (.s (.r [.f1 52 1 4,.l1 53 1 52,.b1 54 .eql 53 (.i 3),.mv 55 54,.h1 56 1 4 55,.h2 57 1 56 55,.gf 58 (.bin .eql 57 (.i 4)) 55,.p1 59 55 58,.mv 60 59,.g3 61 0 60,.g1 62 0 4 60,.g2 63 1 62 60,.gt 64 (.call 106 [61,63]) 60,.p2 65 60 64]) (.cnd 65 (.rf 2) .skip))))))) (.r [.b1 66 .add 13 (.i 1),.mv 13 66]))))))) (.rt 2))))
theorem zeW:zh Tryz.prog [] 104=some (zeV.ac,[(.t 2)],67):=by kernel_rfl
theorem ziA (W0:World) (hM:HM W0) (l:List Mark):Fn Tryz.prog W0 104 [zg l] (.c (CB (lOk l))) []:=by
 refine fX mixed zeW fun hg=>?_
 have g1:=jL (hg _ (by simp:zg l∈_));have no:¬ (lOk l=true)→CB false=CB (lOk l):=fun h=>bF (by rw [Bool.eq_false_iff]; exact h)
 refine dr ?_;apply cP<;>intro h1
 ·refine dr ?_;exact no fun h=>by have:=(zU.1 h).1; omega
 refine dr ?_;refine lp (σ:=Nat) (fun k=>[(0,.c (zg l)),(11,.c (zg l)),(12,I l.length),(13,I k)]) (fun _=>[]) (fun k=>k≤l.length∧∀ j (h:j < l.length),j < k→mok l[j]=true∧inD l l[j].path=true∧(0 < j→ltS l[j - 1].path l[j].path=true)∧(2 < l[j].kind→qD l l[j].path=false)) (fun k=>l.length - k) 0 ⟨by simp,by simp⟩ ?_ ?_
 ·refine dr ?_;trivial
 rintro k ⟨hk,ha⟩;refine dr ?_;apply cP<;>intro h2;rotate_left
 ·refine dr ?_;have hs:Srt Mark.path l:=yu.2 fun j hj=>(ha (j+1) hj (by omega)).2.2.1 (by omega)
  have hm:∀ m∈l,mok m=true:=fun m hm=>by
   obtain ⟨j,hj,rfl⟩:=List.mem_iff_getElem.1 hm;exact (ha j hj (by omega)).1
  refine bT (zU.2 ⟨by omega,hs,hm,fun m hm'=>?_,fun m hm' hk3=>?_⟩)
  ·obtain ⟨j,hj,rfl⟩:=List.mem_iff_getElem.1 hm';exact (ha j hj (by omega)).2.1
  ·rw [← yh ⟨hs,hm⟩ (qd (hm m hm'))];obtain ⟨j,hj,rfl⟩:=List.mem_iff_getElem.1 hm';exact (ha j hj (by omega)).2.2.2 hk3
 have hk':k < l.length:=by omega
 refine dEr ?_;repeat (refine c0 (ziX W0 hM l[k]) rfl ?_; first|refine dEr ?_|exact dz)
 apply cP<;>intro h3
 ·refine dr ?_;exact no fun h=>by have:=(zU.1 h).2.2.1 _ (List.getElem_mem hk'); rw [h3] at this; cases this
 have hok:mok l[k]=true:=h3;refine dr ?_;apply cP<;>intro h7
 ·refine dr ?_;repeat (refine aM (j:=k - 1) (by omega) (by omega) ?_; first|refine dr ?_|exact dz)
  cases h8:ltS l[k - 1].path l[k].path
  ·refine dr ?_;exact no fun h=>by
    have:=yu.1 (zU.1 h).2.1 (k - 1) (by omega);simp only [show k - 1+1=k by omega] at this;rw [h8] at this; cases this
  ·have hlast:0 < k→ltS l[k - 1].path l[k].path=true:=fun _=>h8
   refine dr ?_;refine dEr ?_;repeat (refine c0 (ZL W0 hM _) rfl ?_; first|refine dEr ?_|exact dz)
   apply cP<;>intro h9
   ·have hc:=QA W0 l (pUp l[k].path);rw [Qn] at hc;refine dEr ?_;repeat (refine c0 hc rfl ?_; first|refine dEr ?_|exact dz)
    apply cP<;>intro h90
    ·refine dr ?_;exact no fun h=>by
      rcases qp.1 ((zU.1 h).2.2.2.1 _ (List.getElem_mem hk')) with h' | ⟨m,h1,_⟩
      ·exact h9 h'
      ·rw [h1] at h90; cases h90
    ·obtain ⟨m,hm⟩:=Option.isSome_iff_exists.1 h90;have hc2:=YG W0 ((zv l (pUp l[k].path)).getD noM);refine dEr ?_;repeat (refine c0 hc2 rfl ?_; first|refine dEr ?_|exact dz)
     apply cP<;>intro h10
     ·refine dr ?_;exact no fun h=>by
       rcases qp.1 ((zU.1 h).2.2.2.1 _ (List.getElem_mem hk')) with h' | ⟨m,h1,h2⟩
       ·exact h9 h'
       ·rw [h1] at h10; exact h10 h2
     ·have hin:inD l l[k].path=true:=qp.2 (.inr ⟨m,hm,by rw [hm] at h10; exact h10⟩);refine dr ?_;apply cP<;>intro h11
      ·refine dEr ?_;repeat (refine c0 (yE W0 hM l _) rfl ?_; first|refine dEr ?_|exact dz)
       apply cP<;>intro h13
       ·refine dr ?_;exact no fun h=>by
         have:=(zU.1 h).2.2.2.2 _ (List.getElem_mem hk') (by omega);rw [yh (LG.of h) (qd hok)] at h13;rw [this] at h13; cases h13
       ·refine dr ?_;refine ⟨k+1,⟨by omega,fun j h hj=>?_⟩,by omega,?_⟩
        ·by_cases e:j=k
         ·subst e; exact ⟨hok,hin,hlast,fun _=>h13⟩
         ·exact ha j h (by omega)
        ·refine dr ?_;trivial
      ·refine dr ?_;apply cP<;>intro h12
       ·refine dEr ?_;repeat (refine c0 (yE W0 hM l _) rfl ?_; first|refine dEr ?_|exact dz)
        apply cP<;>intro h13
        ·refine dr ?_;exact no fun h=>by
          have:=(zU.1 h).2.2.2.2 _ (List.getElem_mem hk') (by omega);rw [yh (LG.of h) (qd hok)] at h13;rw [this] at h13; cases h13
        ·refine dr ?_;refine ⟨k+1,⟨by omega,fun j h hj=>?_⟩,by omega,?_⟩
         ·by_cases e:j=k
          ·subst e; exact ⟨hok,hin,hlast,fun _=>h13⟩
          ·exact ha j h (by omega)
         ·refine dr ?_;trivial
       ·refine dr ?_;refine ⟨k+1,⟨by omega,fun j h hj=>?_⟩,by omega,?_⟩
        ·by_cases e:j=k
         ·subst e; exact ⟨hok,hin,hlast,fun h=>by have:=yL hok; omega⟩
         ·exact ha j h (by omega)
        ·refine dr ?_;trivial
   ·have hin:inD l l[k].path=true:=qp.2 (.inl h9);refine dr ?_;apply cP<;>intro h11
    ·refine dEr ?_;repeat (refine c0 (yE W0 hM l _) rfl ?_; first|refine dEr ?_|exact dz)
     apply cP<;>intro h13
     ·refine dr ?_;exact no fun h=>by
       have:=(zU.1 h).2.2.2.2 _ (List.getElem_mem hk') (by omega);rw [yh (LG.of h) (qd hok)] at h13;rw [this] at h13; cases h13
     ·refine dr ?_;refine ⟨k+1,⟨by omega,fun j h hj=>?_⟩,by omega,?_⟩
      ·by_cases e:j=k
       ·subst e; exact ⟨hok,hin,hlast,fun _=>h13⟩
       ·exact ha j h (by omega)
      ·refine dr ?_;trivial
    ·refine dr ?_;apply cP<;>intro h12
     ·refine dEr ?_;repeat (refine c0 (yE W0 hM l _) rfl ?_; first|refine dEr ?_|exact dz)
      apply cP<;>intro h13
      ·refine dr ?_;exact no fun h=>by
        have:=(zU.1 h).2.2.2.2 _ (List.getElem_mem hk') (by omega);rw [yh (LG.of h) (qd hok)] at h13;rw [this] at h13; cases h13
      ·refine dr ?_;refine ⟨k+1,⟨by omega,fun j h hj=>?_⟩,by omega,?_⟩
       ·by_cases e:j=k
        ·subst e; exact ⟨hok,hin,hlast,fun _=>h13⟩
        ·exact ha j h (by omega)
       ·refine dr ?_;trivial
     ·refine dr ?_;refine ⟨k+1,⟨by omega,fun j h hj=>?_⟩,by omega,?_⟩
      ·by_cases e:j=k
       ·subst e; exact ⟨hok,hin,hlast,fun h=>by have:=yL hok; omega⟩
       ·exact ha j h (by omega)
      ·refine dr ?_;trivial
 ·have hlast:0 < k→ltS l[k - 1].path l[k].path=true:=fun h=>by omega
  refine dr ?_;refine dEr ?_;repeat (refine c0 (ZL W0 hM _) rfl ?_; first|refine dEr ?_|exact dz)
  apply cP<;>intro h9
  ·have hc:=QA W0 l (pUp l[k].path);rw [Qn] at hc;refine dEr ?_;repeat (refine c0 hc rfl ?_; first|refine dEr ?_|exact dz)
   apply cP<;>intro h90
   ·refine dr ?_;exact no fun h=>by
     rcases qp.1 ((zU.1 h).2.2.2.1 _ (List.getElem_mem hk')) with h' | ⟨m,h1,_⟩
     ·exact h9 h'
     ·rw [h1] at h90; cases h90
   ·obtain ⟨m,hm⟩:=Option.isSome_iff_exists.1 h90;have hc2:=YG W0 ((zv l (pUp l[k].path)).getD noM);refine dEr ?_;repeat (refine c0 hc2 rfl ?_; first|refine dEr ?_|exact dz)
    apply cP<;>intro h10
    ·refine dr ?_;exact no fun h=>by
      rcases qp.1 ((zU.1 h).2.2.2.1 _ (List.getElem_mem hk')) with h' | ⟨m,h1,h2⟩
      ·exact h9 h'
      ·rw [h1] at h10; exact h10 h2
    ·have hin:inD l l[k].path=true:=qp.2 (.inr ⟨m,hm,by rw [hm] at h10; exact h10⟩);refine dr ?_;apply cP<;>intro h11
     ·refine dEr ?_;repeat (refine c0 (yE W0 hM l _) rfl ?_; first|refine dEr ?_|exact dz)
      apply cP<;>intro h13
      ·refine dr ?_;exact no fun h=>by
        have:=(zU.1 h).2.2.2.2 _ (List.getElem_mem hk') (by omega);rw [yh (LG.of h) (qd hok)] at h13;rw [this] at h13; cases h13
      ·refine dr ?_;refine ⟨k+1,⟨by omega,fun j h hj=>?_⟩,by omega,?_⟩
       ·by_cases e:j=k
        ·subst e; exact ⟨hok,hin,hlast,fun _=>h13⟩
        ·exact ha j h (by omega)
       ·refine dr ?_;trivial
     ·refine dr ?_;apply cP<;>intro h12
      ·refine dEr ?_;repeat (refine c0 (yE W0 hM l _) rfl ?_; first|refine dEr ?_|exact dz)
       apply cP<;>intro h13
       ·refine dr ?_;exact no fun h=>by
         have:=(zU.1 h).2.2.2.2 _ (List.getElem_mem hk') (by omega);rw [yh (LG.of h) (qd hok)] at h13;rw [this] at h13; cases h13
       ·refine dr ?_;refine ⟨k+1,⟨by omega,fun j h hj=>?_⟩,by omega,?_⟩
        ·by_cases e:j=k
         ·subst e; exact ⟨hok,hin,hlast,fun _=>h13⟩
         ·exact ha j h (by omega)
        ·refine dr ?_;trivial
      ·refine dr ?_;refine ⟨k+1,⟨by omega,fun j h hj=>?_⟩,by omega,?_⟩
       ·by_cases e:j=k
        ·subst e; exact ⟨hok,hin,hlast,fun h=>by have:=yL hok; omega⟩
        ·exact ha j h (by omega)
       ·refine dr ?_;trivial
  ·have hin:inD l l[k].path=true:=qp.2 (.inl h9);refine dr ?_;apply cP<;>intro h11
   ·refine dEr ?_;repeat (refine c0 (yE W0 hM l _) rfl ?_; first|refine dEr ?_|exact dz)
    apply cP<;>intro h13
    ·refine dr ?_;exact no fun h=>by
      have:=(zU.1 h).2.2.2.2 _ (List.getElem_mem hk') (by omega);rw [yh (LG.of h) (qd hok)] at h13;rw [this] at h13; cases h13
    ·refine dr ?_;refine ⟨k+1,⟨by omega,fun j h hj=>?_⟩,by omega,?_⟩
     ·by_cases e:j=k
      ·subst e; exact ⟨hok,hin,hlast,fun _=>h13⟩
      ·exact ha j h (by omega)
     ·refine dr ?_;trivial
   ·refine dr ?_;apply cP<;>intro h12
    ·refine dEr ?_;repeat (refine c0 (yE W0 hM l _) rfl ?_; first|refine dEr ?_|exact dz)
     apply cP<;>intro h13
     ·refine dr ?_;exact no fun h=>by
       have:=(zU.1 h).2.2.2.2 _ (List.getElem_mem hk') (by omega);rw [yh (LG.of h) (qd hok)] at h13;rw [this] at h13; cases h13
     ·refine dr ?_;refine ⟨k+1,⟨by omega,fun j h hj=>?_⟩,by omega,?_⟩
      ·by_cases e:j=k
       ·subst e; exact ⟨hok,hin,hlast,fun _=>h13⟩
       ·exact ha j h (by omega)
      ·refine dr ?_;trivial
    ·refine dr ?_;refine ⟨k+1,⟨by omega,fun j h hj=>?_⟩,by omega,?_⟩
     ·by_cases e:j=k
      ·subst e; exact ⟨hok,hin,hlast,fun h=>by have:=yL hok; omega⟩
      ·exact ha j h (by omega)
     ·refine dr ?_;trivial
def zeX:XC:=(.s (.r [.a2 4 3 77,.m1 5 .n]) (.s (.s (.r [.mv 13 0,.c1 14 104 [13],.u1 15 14,.mv 16 15,.h3 17 1 16,.gf 18 (.call 85 [17]) 16,.gf 19 (.un .not 18) 16,.p1 20 16 19]) (.cnd 20 (.s (.r [.a2 4 3 77,.m1 5 .n]) .ret) .skip)) (.s (.r [.a2 6 3 77]) (.s (.s (.r [.mv 21 1,.n1 22 21,.m1 23 (.i 0)]) (.blk 0 (.loop (.s (.r [.b1 24 .lss 23 22]) (.s (.ce 24 0) (.s (.blk 1 (.s (.r [.i1 25 3 21 23,.l2 26 3 25,.ex 8 (.alloc zE),.s1 3 8 26]) (.s (.r [.mv 28 0,.f1 29 0 8,.l1 30 1 29,.c1 31 118 [28,30],.mv 27 31,.e1 32 27 0,.e1 33 27 1,.ex 9 (.alloc [sE,(I 0),sE]),.s1 3 9 32,.mv 10 33]) (.s (.r [.mv 34 10,.u1 35 34,.mv 36 35,.g3 37 0 36,.g1 38 0 8 36,.g2 39 1 38 36,.gt 40 (.call 125 [37,39]) 36,.gt 41 (.un .not 40) 36,.p2 42 36 41]) (.cnd 42 (.r [.mv 43 6,.l2 44 3 8,.ex 45 (.bsl 3 77 [44]),.ex 46 (.app false 3 40 77 43 45),.a1 6 46 3 77]) .skip))))) (.r [.b1 47 .add 23 (.i 1),.mv 23 47]))))))) (.s (.s (.r [.mv 48 0,.n1 49 48,.m1 50 (.i 0)]) (.blk 2 (.loop (.s (.r [.b1 51 .lss 50 49]) (.s (.ce 51 2) (.s (.blk 3 (.s (.r [.i1 52 3 48 50,.l2 53 3 52,.ex 12 (.alloc [sE,(I 0),sE]),.s1 3 12 53]) (.s (.r [.f1 54 1 12,.l1 55 1 54,.b1 56 .neq 55 (.i 3)]) (.cnd 56 (.d [.mv 57 6,.f1 58 0 12,.l1 59 1 58,.l2 60 3 12,.c1 61 126 [60],.f1 62 2 12,.l1 63 1 62,.ex 64 (.build zE [(0,(1,59)),(1,(1,61)),(2,(1,63))]),.ex 65 (.bsl 3 77 [64]),.ex 66 (.app false 3 40 77 57 65),.a1 6 66 3 77]) .skip)))) (.r [.b1 67 .add 50 (.i 1),.mv 50 67]))))))) (.s (.s (.r [.mv 68 6,.n1 69 68,.b1 70 .gtr 69 (.i 16)]) (.cnd 70 (.s (.r [.a2 4 3 77,.m1 5 .n]) .ret) .skip)) (.s (.r [.mv 71 6,.o1 72 113 [71]]) (.s (.r [.mv 73 6,.a1 4 73 3 77,.m1 5 .y]) .ret))))))))
theorem zeY:zh Tryz.prog [113] 87=some (zeX.ac,[(.t 4),(.t 5)],74):=by kernel_rfl
theorem zbB (W0:World) (hM:HM W0) (l:List Mark) (t:List Ent):Fn Tryz.prog W0 87 [zg l,ze t] (.c (Jr (lOn l t))) []:=by
 refine fX mixed zeY fun hg=>?_
 refine dEr ?_;repeat (refine c0 (ziA W0 hM _) rfl ?_; first|refine dEr ?_|exact dz)
 apply cP<;>intro h1
 ·refine dr ?_;rw [lOn,if_neg (by simp [h1])]<;>rfl
 refine dEr ?_;repeat (refine c0 (Qu W0 hM _) rfl ?_; first|refine dEr ?_|exact dz)
 apply cP<;>intro h2
 ·refine dr ?_;rw [lOn,if_neg (by simp [h2])]<;>rfl
 have gl:=LG.of h1;have gt:=TG.of h2;have hll:=(zU.1 h1).1;have htl:=gt.len;have e:lOn l t=if (onX l t).length≤16 then some (zW l t) else none:=by rw [lOn,if_pos (by simp [h1,h2]),zkl h1 gt.srt]
 rw [e];refine dr ?_;refine lp2 (fun (k:Nat) (out:List Ent)=>[(0,.c (zg l)),(6,.own 96 out.length),(21,.c (ze t)),(22,I t.length),(23,I k)]) (fun _ out=>[(96,.row (out.map eEnt) 3 77)]) (fun k out=>k≤t.length∧out=(t.take k).filter (fun e=>!(zv l e.path).isSome&&!zw l e.path)∧out.length≤k) (fun k _=>t.length - k) 0 [] ⟨by simp,rfl,by simp⟩ ?_ ?_
 ·refine dr ?_;trivial
 rintro k out ⟨hk,ho,hle⟩;refine dr ?_;apply cP<;>intro h3
 ·have hk':k < t.length:=by omega
  have hc:=QA W0 l t[k].path;rw [Qn] at hc;have hh:=ziB W0 hM l t[k].path;rw [zjC gl (gt.path (List.getElem_mem hk'))] at hh;refine dEr ?_;repeat (refine c0 hc rfl ?_; first|refine dEr ?_|exact dz)
  apply cP<;>intro h4
  ·refine dEr ?_;repeat (refine c0 hh rfl ?_; first|refine dEr ?_|exact dz)
   apply cP<;>intro h5
   ·refine dr ?_;repeat ((first|refine oB (by simp; omega) ?_|refine oB (by simp) ?_); first|refine dr ?_|exact dz)
    refine ⟨k+1,out++[t[k]],⟨by omega,by rw [Zb hk' (by simp [h4,h5]),ho],by simp; omega⟩,by omega,?_⟩;refine dr ?_;repeat (refine oB (by simp<;>rfl) ?_; first|refine dr ?_|exact dz)
    trivial
   ·refine dr ?_;refine ⟨k+1,out,⟨by omega,by rw [Za hk' (by simp [h5]),ho],by omega⟩,by omega,?_⟩;refine dr ?_;trivial
  ·refine dr ?_;refine ⟨k+1,out,⟨by omega,by rw [Za hk' (by simp [h4]),ho],by omega⟩,by omega,?_⟩;refine dr ?_;trivial
 have hkl:k=t.length:=by omega
 rw [hkl,List.take_length] at ho;have hX:onX l t=out++l.filterMap jb:=by rw [onX,ho]
 have hout:out.length≤16:=by omega
 clear ho hle hk h3 hkl;rw [hX];generalize hoo:out=o0 at *;refine dr ?_;refine lp2 (fun (k:Nat) (out:List Ent)=>[(6,.own 96 out.length),(48,.c (zg l)),(49,I l.length),(50,I k)]) (fun _ out=>[(96,.row (out.map eEnt) 3 77)]) (fun k out=>k≤l.length∧out=o0++(l.take k).filterMap jb∧out.length≤o0.length+k) (fun k _=>l.length - k) 0 o0 ⟨by simp,by simp,by simp⟩ ?_ ?_
 ·refine dr ?_;trivial
 clear hoo;rintro k out ⟨hk,ho,hle⟩;refine dr ?_;apply cP<;>intro h3
 ·have hk':k < l.length:=by omega
  have hmk:=yL (gl.ok _ (List.getElem_mem hk'));have hn:o0++(l.take (k+1)).filterMap jb=out++(jb l[k]).toList:=by rw [YT hk',← List.append_assoc,← ho]
  refine dr ?_;apply cP<;>intro h4
  ·have he:jb l[k]=some ⟨l[k].path,decide (l[k].kind=2∨l[k].kind=4),l[k].data⟩:=by
    unfold jb;by_cases h5:l[k].kind=1
    ·rw [if_pos h5]; simp [h5]
    ·rw [if_neg h5,if_pos (by omega)];have:=zcX (gl.ok _ (List.getElem_mem hk')) h5;rw [this]; simp; omega
   rw [he] at hn;refine dEr ?_;repeat ((first|refine c0 (YG W0 l[k]) rfl ?_|refine oB (by simp; omega) ?_|refine oB (by simp) ?_); first|refine dEr ?_|exact dz)
   refine ⟨k+1,_,⟨by omega,hn.symm,by simp; omega⟩,by omega,?_⟩;refine dr ?_;repeat (refine oB (by simp<;>rfl) ?_; first|refine dr ?_|exact dz)
   trivial
  ·have he:jb l[k]=none:=by unfold jb; rw [if_neg (by omega),if_neg (by omega)]
   rw [he] at hn;refine dr ?_;refine ⟨k+1,out,⟨by omega,by rw [hn]; simp,by omega⟩,by omega,?_⟩;refine dr ?_;trivial
 have hkl:k=l.length:=by omega
 rw [hkl,List.take_length] at ho;rw [← ho];have hX2:onX l t=out:=by rw [hX,ho]
 refine dr ?_;apply cP<;>intro h5
 ·refine dr ?_;rw [if_neg (by omega)]<;>rfl
 ·refine dr ?_;refine oW ((zi1 W0 out (by omega)).swp 1 96) rfl ⟨rfl,trivial⟩ rfl rfl Q5 fun S hS=>⟨rfl,?_⟩
  refine dEr ?_;repeat (refine oB (by simp [hS.len]) ?_; first|refine dEr ?_|exact dz)
  rw [← hX2] at hS;rw [if_pos (by omega),zkm h1 gt.srt hS]<;>rfl
end Go.Proofs.YtmkmldepkponaaaGreatDoor

namespace Go.Proofs.YtmkmldepkponaaaGreatDoor
set_option linter.unusedSimpArgs false
set_option linter.unusedVariables false
open Go Go.RowKit
def zfb:XC:=(.s (.r [.a2 4 1 9]) (.s (.s (.r [.mv 8 0,.c1 9 85 [8],.u1 10 9,.mv 11 10,.h3 12 1 11,.gf 13 (.call 85 [12]) 11,.gf 14 (.un .not 13) 11,.p1 15 11 14]) (.cnd 15 (.s (.r [.a2 4 1 9]) .ret) .skip)) (.s (.r [.a2 5 1 9]) (.s (.r [.m1 6 (.i 0),.m1 7 (.i 0)]) (.s (.blk 0 (.loop (.s (.s (.r [.mv 16 6,.mv 17 0,.n1 18 17,.b1 19 .lss 16 18,.mv 20 19,.h3 21 7 20,.h3 22 1 20,.gf 23 (.len false 22) 20,.gf 24 (.bin .lss 21 23) 20,.p1 25 20 24]) (.ce 25 0)) (.blk 1 (.blk 2 (.s (.d [.mv 48 7,.mv 49 1,.n1 50 49,.b1 51 .eql 48 50,.mv 52 51,.h3 53 6 52,.h3 54 0 52,.gf 55 (.len false 54) 52,.gf 56 (.bin .lss 53 55) 52,.h3 57 56 52,.g3 58 0 57,.g3 59 6 57,.gt 60 (.ia 3 58 59) 57,.g1 61 0 60 57,.g2 62 1 61 57,.g3 63 1 57,.g3 64 7 57,.gt 65 (.ia 3 63 64) 57,.g1 66 0 65 57,.g2 67 1 66 57,.gt 68 (.bin .lss 62 67) 57,.gf 69 (.pick 57 68 .n) 52,.p1 70 52 69,.mv 47 70]) (.cnd 47 (.s (.r [.mv 71 5,.mv 72 0,.mv 73 6,.i1 74 3 72 73,.f1 75 0 74,.l1 76 1 75,.ex 77 (.bsl 1 9 [76]),.ex 78 (.app false 1 16 9 71 77),.a1 5 78 1 9]) (.ic 79 80 6)) (.s (.d [.mv 82 6,.mv 83 0,.n1 84 83,.b1 85 .eql 82 84,.mv 86 85,.h3 87 1 86,.h3 88 7 86,.gf 89 (.ia 3 87 88) 86,.h1 90 0 89 86,.h2 91 1 90 86,.h3 92 0 86,.h3 93 6 86,.gf 94 (.ia 3 92 93) 86,.h1 95 0 94 86,.h2 96 1 95 86,.gf 97 (.bin .lss 91 96) 86,.p1 98 86 97,.mv 81 98]) (.cnd 81 (.s (.r [.mv 99 5,.mv 100 1,.mv 101 7,.i1 102 3 100 101,.f1 103 0 102,.l1 104 1 103,.ex 105 (.bsl 1 9 [104]),.ex 106 (.app false 1 16 9 99 105),.a1 5 106 1 9]) (.ic 107 108 7)) (.s (.s (.d [.mv 26 0,.mv 27 6,.i1 28 3 26 27,.l2 29 3 28,.mv 30 1,.mv 31 7,.i1 32 3 30 31,.l2 33 3 32,.ex 34 (.beq true [.s,.b,.s] 29 33)]) (.cnd 34 (.r [.mv 35 5,.mv 36 0,.mv 37 6,.i1 38 3 36 37,.f1 39 0 38,.l1 40 1 39,.ex 41 (.bsl 1 9 [40]),.ex 42 (.app false 1 16 9 35 41),.a1 5 42 1 9]) .skip)) (.s (.ic 43 44 6) (.ic 45 46 7)))))))))))) (.s (.r [.mv 109 5,.a1 4 109 1 9]) .ret))))))
theorem zfc:zh Tryz.prog [] 114=some (zfb.ac,[(.t 4)],110):=by kernel_rfl
def qw (a b:List Ent):List Str:=if (tOk a&&tOk b)=true then zS a b else []
theorem zj6 {x:Ent} {a:List Ent}:zH (x::a) []=x.path::zH a []:=by rw [zH]
theorem zj5 {x:Ent} {a:List Ent}:zH [] (x::a)=x.path::zH [] a:=by rw [zH]
theorem zad {x y:Ent} {a b:List Ent}:zH (x::a) (y::b)=if ltS x.path y.path=true then x.path::zH a (y::b) else if ltS y.path x.path=true then y.path::zH (x::a) b else if x=y then zH a b else x.path::zH a b:=by rw [zH]
theorem zix (W0:World) (hM:HM W0) (a b:List Ent):Fn Tryz.prog W0 114 [ze a,ze b] (.c (jy (qw a b))) []:=by
 refine fX mixed zfc fun hg=>?_
 refine dEr ?_;repeat (refine c0 (Qu W0 hM _) rfl ?_; first|refine dEr ?_|exact dz)
 apply cP<;>intro h1
 ·refine dr ?_;repeat (refine oB (by simp) ?_; first|refine dr ?_|exact dz)
  rw [qw,if_neg (by simp [h1])]<;>rfl
 refine dEr ?_;repeat (refine c0 (Qu W0 hM _) rfl ?_; first|refine dEr ?_|exact dz)
 apply cP<;>intro h2
 ·refine dr ?_;repeat (refine oB (by simp) ?_; first|refine dr ?_|exact dz)
  rw [qw,if_neg (by simp [h2])]<;>rfl
 have ga:=TG.of h1;have gb:=TG.of h2;have la:=ga.len;have lb:=gb.len;rw [qw,if_pos (by simp [h1,h2]),← zj8 ga gb];refine dr ?_;refine lp3 (fun (i j:Nat) (out:List Str)=>[(0,.c (ze a)),(1,.c (ze b)),(5,.own 80 out.length),(6,I i),(7,I j)]) (fun _ _ out=>[(80,.row (out.map CS) 1 9)])
  (fun i j out=>i≤a.length∧j≤b.length∧out++zH (a.drop i) (b.drop j)=zH a b∧out.length≤i+j) (fun i j _=>a.length+b.length - i - j) 0 0 [] ⟨by simp,by simp,by simp,by simp⟩ ?_ ?_
 ·refine dr ?_;trivial
 rintro i j out ⟨hi,hj,ho,hle⟩;have stepA:∀ (h:i < a.length),j=b.length∨(∃ h':j < b.length,ltS a[i].path b[j].path=true)→(out++[a[i].path])++zH (a.drop (i+1)) (b.drop j)=zH a b:=fun h hc=>by
  rw [← ho,List.drop_eq_getElem_cons h];rcases hc with hc | ⟨h',hc⟩
  ·rw [List.drop_of_length_le (l:=b) (by omega),zj6]; simp
  ·rw [List.drop_eq_getElem_cons h',zad,if_pos hc]; simp
 have stepB:∀ (h:j < b.length),i=a.length∨(∃ h':i < a.length,ltS a[i].path b[j].path=false∧ltS b[j].path a[i].path=true)→(out++[b[j].path])++zH (a.drop i) (b.drop (j+1))=zH a b:=fun h hc=>by
  rw [← ho,List.drop_eq_getElem_cons (l:=b) h];rcases hc with hc | ⟨h',hc,hc2⟩
  ·rw [List.drop_of_length_le (l:=a) (by omega),zj5]; simp
  ·rw [List.drop_eq_getElem_cons h',zad,if_neg (by rw [hc]; simp),if_pos hc2]; simp
 refine dr ?_;apply cP<;>intro hA
 ·have hA':i < a.length:=by omega
  refine dr ?_;apply cP<;>intro hB
  ·refine dr ?_;repeat ((first|refine oB (by simp; omega) ?_|refine oB (by simp) ?_); first|refine dr ?_|exact dz)
   refine ⟨i+1,j,out++[a[i].path],⟨by omega,by omega,stepA hA' (.inl (by omega)),by simp; omega⟩,by omega,?_⟩;refine dr ?_;repeat (refine oB (by simp<;>rfl) ?_; first|refine dr ?_|exact dz)
   trivial
  ·have hB':j < b.length:=by omega
   refine dr ?_;apply cP<;>intro hA2;rotate_left
   ·omega
   refine dr ?_;apply cP<;>intro hC
   ·refine dr ?_;repeat ((first|refine oB (by simp; omega) ?_|refine oB (by simp) ?_); first|refine dr ?_|exact dz)
    refine ⟨i+1,j,out++[a[i].path],⟨by omega,by omega,stepA hA' (.inr ⟨hB',hC⟩),by simp; omega⟩,by omega,?_⟩;refine dr ?_;repeat (refine oB (by simp<;>rfl) ?_; first|refine dr ?_|exact dz)
    trivial
   refine dr ?_;apply cP<;>intro hD
   ·omega
   refine dr ?_;apply cP<;>intro hE
   ·refine dr ?_;repeat ((first|refine oB (by simp; omega) ?_|refine oB (by simp) ?_); first|refine dr ?_|exact dz)
    refine ⟨i,j+1,out++[b[j].path],⟨by omega,by omega,stepB hB' (.inr ⟨hA',hC,hE⟩),by simp; omega⟩,by omega,?_⟩;refine dr ?_;repeat (refine oB (by simp<;>rfl) ?_; first|refine dr ?_|exact dz)
    trivial
   have hm:zH (a.drop i) (b.drop j)=if a[i]=b[j] then zH (a.drop (i+1)) (b.drop (j+1)) else a[i].path::zH (a.drop (i+1)) (b.drop (j+1)):=by
    rw [List.drop_eq_getElem_cons hA',List.drop_eq_getElem_cons hB',zad,if_neg (by rw [hC]; simp),if_neg (by rw [hE]; simp)]
   refine dr ?_;apply cP<;>intro hF
   ·have hne:a[i]≠b[j]:=by have:=Zx a[i] b[j]; rw [hF] at this; simpa using this
    rw [if_neg hne] at hm;refine dr ?_;repeat ((first|refine oB (by simp; omega) ?_|refine oB (by simp) ?_); first|refine dr ?_|exact dz)
    refine ⟨i+1,j+1,out++[a[i].path],⟨by omega,by omega,by rw [← ho,hm]; simp,by simp; omega⟩,by omega,?_⟩;refine dr ?_;repeat (refine oB (by simp<;>rfl) ?_; first|refine dr ?_|exact dz)
    trivial
   ·have heq:a[i]=b[j]:=by have:=Zx a[i] b[j]; rw [hF] at this; simpa using this
    rw [if_pos heq] at hm;refine dr ?_;refine ⟨i+1,j+1,out,⟨by omega,by omega,by rw [← ho,hm],by omega⟩,by omega,?_⟩;refine dr ?_;trivial
 ·have hA':i=a.length:=by omega
  refine dr ?_;apply cP<;>intro hB
  ·have hB':j < b.length:=by omega
   refine dr ?_;apply cP<;>intro hB2
   ·omega
   refine dr ?_;apply cP<;>intro hA2
   ·omega
   refine dr ?_;apply cP<;>intro hD;rotate_left
   ·omega
   refine dr ?_;repeat ((first|refine oB (by simp; omega) ?_|refine oB (by simp) ?_); first|refine dr ?_|exact dz)
   refine ⟨i,j+1,out++[b[j].path],⟨by omega,by omega,stepB hB' (.inl hA'),by simp; omega⟩,by omega,?_⟩;refine dr ?_;repeat (refine oB (by simp<;>rfl) ?_; first|refine dr ?_|exact dz)
   trivial
  ·have hj':j=b.length:=by omega
   rw [hA',hj',List.drop_length,List.drop_length,zH,List.append_nil] at ho;refine dr ?_;repeat (refine oB (by simp) ?_; first|refine dr ?_|exact dz)
   rw [← ho]<;>rfl
def zeT:XC:=(.s (.r [.a2 4 3 34]) (.s (.r [.a2 5 3 34]) (.s (.s (.r [.mv 14 0,.mv 15 1,.c1 16 114 [14,15],.n1 17 16,.m1 18 (.i 0)]) (.blk 0 (.loop (.s (.r [.b1 19 .lss 18 17]) (.s (.ce 19 0) (.s (.blk 1 (.s (.r [.i1 20 1 16 18,.l1 21 1 20,.mv 7 21]) (.s (.r [.mv 23 1,.mv 24 7,.c1 25 115 [23,24],.mv 22 25,.e1 26 22 0,.e1 27 22 1,.ex 8 (.alloc zE),.s1 3 8 26,.mv 9 27]) (.blk 2 (.s (.r [.mv 29 9,.mv 30 29,.g1 31 1 8 30,.g2 32 1 31 30,.p2 33 30 32,.mv 28 33]) (.cnd 28 (.r [.mv 34 5,.mv 35 7,.ex 36 (.build [sE,(I 0),sE] [(0,(1,35)),(1,(1,(.i 2)))]),.ex 37 (.bsl 3 34 [36]),.ex 38 (.app false 3 40 34 34 37),.a1 5 38 3 34]) (.s (.r [.mv 40 9,.mv 39 40]) (.cnd 39 (.r [.mv 41 5,.mv 42 7,.f1 43 2 8,.l1 44 1 43,.ex 45 (.build [sE,(I 0),sE] [(0,(1,42)),(1,(1,(.i 1))),(2,(1,44))]),.ex 46 (.bsl 3 34 [45]),.ex 47 (.app false 3 40 34 41 46),.a1 5 47 3 34]) (.s (.r [.mv 49 1,.mv 50 7,.c1 51 116 [49,50],.b1 52 .eql 51 (.i 0),.mv 48 52]) (.cnd 48 (.r [.mv 53 5,.mv 54 7,.ex 55 (.build [sE,(I 0),sE] [(0,(1,54)),(1,(1,(.i 3)))]),.ex 56 (.bsl 3 34 [55]),.ex 57 (.app false 3 40 34 53 56),.a1 5 57 3 34]) .skip)))))))))) (.r [.b1 58 .add 18 (.i 1),.mv 18 58]))))))) (.s (.s (.r [.mv 59 5,.n1 60 59,.m1 61 (.i 0)]) (.blk 3 (.loop (.s (.r [.b1 62 .lss 61 60]) (.s (.ce 62 3) (.s (.blk 4 (.s (.r [.mv 63 61,.mv 10 63]) (.s (.r [.mv 64 5,.mv 65 10,.i1 66 3 64 65,.f1 67 0 66,.l1 68 1 67,.c1 69 117 [68],.mv 11 69]) (.blk 5 (.loop (.s (.s (.r [.mv 70 11,.ex 71 (.bin .neq 70 (.s [47]))]) (.ce 71 5)) (.s (.blk 6 (.s (.r [.mv 75 5,.mv 76 11,.c1 77 118 [75,76],.mv 74 77,.e1 78 74 0,.e1 79 74 1,.ex 12 (.alloc [sE,(I 0),sE]),.s1 3 12 78,.mv 13 79]) (.s (.r [.mv 80 13,.u1 81 80]) (.cnd 81 (.r [.mv 82 5,.mv 83 11,.ex 84 (.build [sE,(I 0),sE] [(0,(1,83)),(1,(1,(.i 2)))]),.ex 85 (.bsl 3 34 [84]),.ex 86 (.app false 3 40 34 82 85),.a1 5 86 3 34]) .skip)))) (.r [.mv 72 11,.c1 73 117 [72],.mv 11 73])))))))) (.r [.b1 87 .add 61 (.i 1),.mv 61 87]))))))) (.s (.r [.mv 88 5,.o1 89 107 [88]]) (.s (.r [.mv 90 5,.a1 4 90 3 34]) .ret))))))
theorem zeU:zh Tryz.prog [107] 76=some (zeT.ac,[(.t 4)],91):=by kernel_rfl
def Qm (a b:List Ent):List Mark:=if (tOk a&&tOk b)=true then diff a b else []
theorem zdi {l l0:List Mark} {u:Str} (h:∃ s,l=l0++s):∃ s,jx l u=l0++s:=by
 obtain ⟨s,rfl⟩:=h;unfold jx;split
 ·exact ⟨s,rfl⟩
 ·exact ⟨s++[⟨u,2,[]⟩],by simp⟩
theorem zaN {l:List Mark} {u:Str}:(jx l u).length≤l.length+1:=by
 unfold jx; split<;>simp
theorem zlW {m:Nat} {q:Str} (h:pUp q=[47]):jc m q=[]:=by
 cases m with
 | zero=>rfl
 | succ m=>unfold jc; rw [if_pos h]
theorem zcf:∀ {us:List Str} {l:List Mark},(us.foldl jx l).length≤l.length+us.length
 | [],l=>by simp
 | u::us,l=>by
  have h:=zcf (us:=us) (l:=jx l u);have h2:=zaN (l:=l) (u:=u);simp only [List.foldl_cons,List.length_cons]; omega
theorem zeu {l:List Mark} {m:Mark}:(j6 l m).length≤l.length+3:=by
 have h:=zcf (us:=jc 3 m.path) (l:=l);have h2:=zaK 3 m.path;unfold j6; omega
theorem ziz (W0:World) (hM:HM W0) (a b:List Ent):Fn Tryz.prog W0 76 [ze a,ze b] (.c (zg (Qm a b))) []:=by
 refine fX mixed zeU fun hg=>?_
 have hT:(∀ p∈qw a b,pOk p=true)∧(qw a b).length≤32∧(qw a b≠[]→TG b):=by
  unfold qw;split
  ·rename_i h;simp only [Bool.and_eq_true] at h;have h1:=(qu h.1).1;have h2:=(qu h.2).1;have h3:=zeh (a:=a) (b:=b);exact ⟨fun p hp=>zei h.1 h.2 hp,by omega,fun _=>TG.of h.2⟩
  ·exact ⟨fun p hp=>(by cases hp),by simp,fun h=>absurd rfl h⟩
 obtain ⟨hT1,hT2,hT3⟩:=hT;have hfin:∀ S,j5 Mark.path (((qw a b).filterMap (zD b)).foldl j6 ((qw a b).filterMap (zD b))) S→S=Qm a b:=by
  intro S hS;unfold qw at hS;unfold Qm;split at hS
  ·rename_i h;rw [if_pos h];simp only [Bool.and_eq_true] at h;exact zie (TG.of h.1) (TG.of h.2) hS
  ·rename_i h;rw [if_neg h];exact List.Perm.eq_nil hS.1
 refine dEr ?_;repeat (refine c0 (zix W0 hM a b) rfl ?_; first|refine dEr ?_|exact dz)
 generalize qw a b=T at *;refine lp2 (fun (k:Nat) (out:List Mark)=>[(1,.c (ze b)),(5,.own 80 out.length),(16,.c (jy T)),(17,I T.length),(18,I k)]) (fun _ out=>[(80,.row (out.map jm) 3 34)]) (fun k out=>k≤T.length∧out=(T.take k).filterMap (zD b)∧out.length≤k) (fun k _=>T.length - k) 0 [] ⟨by simp,rfl,by simp⟩ ?_ ?_
 ·refine dr ?_;trivial
 rintro k out ⟨hk,ho,hle⟩;refine dr ?_;apply cP<;>intro h1
 ·have hk':k < T.length:=by omega
  have gb:=hT3 (fun e=>by rw [e] at hk'; simp at hk');have hp:=hT1 _ (List.getElem_mem hk');have hn:(T.take (k+1)).filterMap (zD b)=out++(zD b T[k]).toList:=by rw [YT hk',← ho]
  have hc:=zbz W0 b T[k];cases hx:find b T[k] with
  | some e =>
   rw [hx] at hc;refine dEr ?_;repeat (refine c0 hc rfl ?_; first|refine dEr ?_|exact dz)
   apply cP<;>intro h2
   ·have e1:zD b T[k]=some ⟨T[k],2,[]⟩:=by
     have:=gb.data (jP hx).2 h2;unfold zD; rw [jt hp,hx]; simp [h2,this]
    rw [e1] at hn;refine dr ?_;repeat ((first|refine oB (by simp; omega) ?_|refine oB (by simp) ?_); first|refine dr ?_|exact dz)
    refine ⟨k+1,out++[⟨T[k],2,[]⟩],⟨by omega,by rw [hn]; rfl,by simp; omega⟩,by omega,?_⟩;refine dr ?_;repeat (refine oB (by simp<;>rfl) ?_; first|refine dr ?_|exact dz)
    trivial
   ·have e1:zD b T[k]=some ⟨T[k],1,e.data⟩:=by
     unfold zD; rw [jt hp,hx]; simp [h2]
    rw [e1] at hn;refine dr ?_;repeat ((first|refine oB (by simp; omega) ?_|refine oB (by simp) ?_); first|refine dr ?_|exact dz)
    refine ⟨k+1,out++[⟨T[k],1,e.data⟩],⟨by omega,by rw [hn]; rfl,by simp; omega⟩,by omega,?_⟩;refine dr ?_;repeat (refine oB (by simp<;>rfl) ?_; first|refine dr ?_|exact dz)
    trivial
  | none =>
   rw [hx] at hc;refine dEr ?_;repeat ((first|refine c0 hc rfl ?_|refine c0 (Jz W0 hM b _) rfl ?_); first|refine dEr ?_|exact dz)
   apply cP<;>intro h2
   ·have e1:zD b T[k]=some ⟨T[k],3,[]⟩:=by
     unfold zD; rw [jt hp,hx]; simp only [qQ.1 h2,if_true]
    rw [e1] at hn;refine dr ?_;repeat ((first|refine oB (by simp; omega) ?_|refine oB (by simp) ?_); first|refine dr ?_|exact dz)
    refine ⟨k+1,out++[⟨T[k],3,[]⟩],⟨by omega,by rw [hn]; rfl,by simp; omega⟩,by omega,?_⟩;refine dr ?_;repeat (refine oB (by simp<;>rfl) ?_; first|refine dr ?_|exact dz)
    trivial
   ·have e1:zD b T[k]=none:=by
     have:zF b (pUp T[k])=false:=by
      rw [Bool.eq_false_iff]; exact fun e=>h2 (qQ.2 e)
     unfold zD; rw [jt hp,hx]; simp [this]
    rw [e1] at hn;refine dr ?_;refine ⟨k+1,out,⟨by omega,by rw [hn]; simp,by omega⟩,by omega,?_⟩;refine dr ?_;trivial
 have hkl:k=T.length:=by omega
 rw [hkl,List.take_length] at ho;have hpo:∀ m∈out,pOk m.path=true:=fun m hm=>by
  rw [ho] at hm;obtain ⟨p,hp,e⟩:=List.mem_filterMap.1 hm;rw [yl e]; exact hT1 p hp
 rw [← ho] at hfin;have hol:out.length≤32:=by omega
 clear ho hle hk h1 hkl hT1 hT2 hT3;generalize hoo:out=D at *;refine dr ?_;refine lp2 (fun (k:Nat) (out:List Mark)=>[(5,.own 80 out.length),(60,I D.length),(61,I k)]) (fun _ out=>[(80,.row (out.map jm) 3 34)]) (fun k out=>k≤D.length∧out=(D.take k).foldl j6 D∧out.length≤D.length+3 * k∧∃ s,out=D++s) (fun k _=>D.length - k) 0 D ⟨by simp,by simp,by simp,[],by simp⟩ ?_ ?_
 ·refine dr ?_;trivial
 clear hoo;rintro k out ⟨hk,ho,hle,hs⟩;refine dr ?_;apply cP<;>intro h1
 ·have hk':k < D.length:=by omega
  have hko:k < out.length:=by obtain ⟨s,rfl⟩:=hs; simp; omega
  have hget:out[k]=D[k]:=by
   obtain ⟨s,rfl⟩:=hs;rw [List.getElem_append_left hk']
  have hp:=hpo _ (List.getElem_mem hk');have hn:(D.take (k+1)).foldl j6 D=j6 out D[k]:=by rw [qj hk',← ho]
  have hnl:=zeu (l:=out) (m:=D[k]);refine dEr ?_;repeat (refine c0 (ZL W0 hM _) rfl ?_; first|refine dEr ?_|exact dz)
  rw [hget];refine lp3 (fun (m:Nat) (q:Str) (o:List Mark)=>[(5,.own 80 o.length),(60,I D.length),(61,I k),(11,.c (CS (pUp q)))]) (fun _ _ o=>[(80,.row (o.map jm) 3 34)])
   (fun m q o=>pOk q=true∧(names q).length≤m∧(jc m q).foldl jx o=j6 out D[k]∧o.length+m≤out.length+3∧∃ s,o=D++s) (fun m _ _=>m) 3 D[k].path out ⟨hp,(ql hp).1.2,rfl,by omega,hs⟩ ?_ ?_
  ·refine dr ?_;trivial
  rintro m q o ⟨hq,hqn,hqo,hql,hqs⟩;refine dr ?_;apply cP<;>intro h2
  ·obtain ⟨u1,_,u3⟩:=qM hq h2;cases m with
   | zero=>have:=(ql hq).1.1; omega
   | succ m =>
    have hqo2:(jc m (pUp q)).foldl jx (jx o (pUp q))=j6 out D[k]:=by
     rw [← hqo]; conv=>rhs; rw [jc,if_neg h2]
     rfl
    have hal:=zaN (l:=o) (u:=pUp q);have hc:=QA W0 o (pUp q);rw [Qn] at hc;refine dEr ?_;repeat (refine c0 hc rfl ?_; first|refine dEr ?_|exact dz)
    apply cP<;>intro h3
    ·have e1:jx o (pUp q)=o++[⟨pUp q,2,[]⟩]:=by unfold jx; rw [if_neg (by simp [h3])]
     refine dEr ?_;repeat ((first|refine oB (by simp; omega) ?_|refine oB (by simp) ?_|refine c0 (ZL W0 hM _) rfl ?_); first|refine dEr ?_|exact dz)
     refine ⟨m,pUp q,jx o (pUp q),⟨u1,by omega,hqo2,by omega,zdi hqs⟩,by omega,?_⟩;refine dr ?_;repeat (refine oB (by simp [e1]<;>rfl) ?_; first|refine dr ?_|exact dz)
     trivial
    ·have e1:jx o (pUp q)=o:=by unfold jx; rw [if_pos h3]
     refine dEr ?_;repeat (refine c0 (ZL W0 hM _) rfl ?_; first|refine dEr ?_|exact dz)
     refine ⟨m,pUp q,jx o (pUp q),⟨u1,by omega,hqo2,by omega,zdi hqs⟩,by omega,?_⟩;refine dr ?_;repeat (refine oB (by simp [e1]<;>rfl) ?_; first|refine dr ?_|exact dz)
     trivial
  ·rw [zlW h2] at hqo;have hqo:o=j6 out D[k]:=hqo;refine dr ?_;refine ⟨k+1,o,⟨by omega,by rw [hn,hqo],by rw [hqo]; omega,hqs⟩,by omega,?_⟩;refine dr ?_;trivial
 have hkl:k=D.length:=by omega
 rw [hkl,List.take_length] at ho;rw [← ho] at hfin;refine dr ?_;refine oW ((zi2 W0 out (by omega)).swp 1 80) rfl ⟨rfl,trivial⟩ rfl rfl Q5 fun S hS=>⟨rfl,?_⟩
 refine dEr ?_;repeat (refine oB (by simp [hS.len]) ?_; first|refine dEr ?_|exact dz)
 rw [hfin S hS]<;>rfl
end Go.Proofs.YtmkmldepkponaaaGreatDoor

namespace Go.Proofs.YtmkmldepkponaaaGreatDoor
set_option linter.unusedSimpArgs false
set_option linter.unusedVariables false
open Go Go.RowKit
theorem zkx {a b:Over} (h1:a.base=b.base) (h2:a.layers=b.layers) (h3:a.upper=b.upper):a=b:=by cases a; cases b; simp_all
def zgp:XC:=(.s (.r [.m1 4 .n]) (.s (.s (.r [.mv 6 0,.n1 7 6,.mv 8 1,.n1 9 8,.b1 10 .neq 7 9]) (.cnd 10 (.rf 4) .skip)) (.s (.s (.r [.m1 5 (.i 0)]) (.blk 0 (.loop (.s (.s (.r [.mv 11 5,.mv 12 0,.n1 13 12,.b1 14 .lss 11 13]) (.ce 14 0)) (.s (.blk 1 (.s (.d [.mv 17 0,.mv 18 5,.i1 19 3 17 18,.l2 20 3 19,.mv 21 1,.mv 22 5,.i1 23 3 21 22,.l2 24 3 23,.ex 25 (.beq true [.s,.b,.s] 20 24)]) (.cnd 25 (.rf 4) .skip))) (.ic 15 16 5)))))) (.rt 4))))
theorem zgq:zh Tryz.prog [] 48=some (zgp.ac,[(.t 4)],26):=by kernel_rfl
theorem zja (W0:World) (a b:List Ent):Fn Tryz.prog W0 48 [ze a,ze b] (.c (CB (decide (a=b)))) []:=by
 refine fX mixed zgq fun hg=>?_
 have g1:=jL (hg _ (by simp:ze a∈_));refine dr ?_;apply cP<;>intro h1
 ·conv=>whnf
  exact dF (JO (by omega))
 conv=>whnf
 refine lp (σ:=Nat) (fun k=>[(0,.c (ze a)),(1,.c (ze b)),(5,I k)]) (fun _=>[]) (fun k=>k≤a.length∧a.take k=b.take k) (fun k=>a.length - k) 0 ⟨by simp,by simp⟩ ?_ ?_
 ·refine dr ?_;trivial
 rintro k ⟨hk,he⟩;refine dr ?_;apply cP<;>intro h2
 ·refine dr ?_;rw [Zx];apply cP<;>intro h3;rotate_left
  ·refine dr ?_;refine ⟨k+1,⟨by omega,Jb (by omega) (by omega) he (by simpa using h3)⟩,by omega,?_⟩;refine dr ?_;trivial
  ·conv=>whnf
   exact dF (Z3 (k:=k) (by omega) (by omega) (by simpa using h3))
 ·refine dr ?_;have:k=a.length:=by omega
  subst this;exact dT (ZH (by omega) he)
def zfZ:XC:=(.s (.r [.m1 4 .n]) (.s (.s (.r [.mv 6 0,.n1 7 6,.mv 8 1,.n1 9 8,.b1 10 .neq 7 9]) (.cnd 10 (.rf 4) .skip)) (.s (.s (.r [.m1 5 (.i 0)]) (.blk 0 (.loop (.s (.s (.r [.mv 11 5,.mv 12 0,.n1 13 12,.b1 14 .lss 11 13]) (.ce 14 0)) (.s (.blk 1 (.s (.d [.mv 17 0,.mv 18 5,.i1 19 3 17 18,.l2 20 3 19,.mv 21 1,.mv 22 5,.i1 23 3 21 22,.l2 24 3 23,.ex 25 (.beq true [.s,(.i .i64),.s] 20 24)]) (.cnd 25 (.rf 4) .skip))) (.ic 15 16 5)))))) (.rt 4))))
theorem zf0:zh Tryz.prog [] 49=some (zfZ.ac,[(.t 4)],26):=by kernel_rfl
theorem YO (W0:World) (a b:List Mark):Fn Tryz.prog W0 49 [zg a,zg b] (.c (CB (decide (a=b)))) []:=by
 refine fX mixed zf0 fun hg=>?_
 have g1:=jL (hg _ (by simp:zg a∈_));refine dr ?_;apply cP<;>intro h1
 ·conv=>whnf
  exact dF (JO (by omega))
 conv=>whnf
 refine lp (σ:=Nat) (fun k=>[(0,.c (zg a)),(1,.c (zg b)),(5,I k)]) (fun _=>[]) (fun k=>k≤a.length∧a.take k=b.take k) (fun k=>a.length - k) 0 ⟨by simp,by simp⟩ ?_ ?_
 ·refine dr ?_;trivial
 rintro k ⟨hk,he⟩;refine dr ?_;apply cP<;>intro h2
 ·refine dr ?_;rw [bqMark];apply cP<;>intro h3;rotate_left
  ·refine dr ?_;refine ⟨k+1,⟨by omega,Jb (by omega) (by omega) he (by simpa using h3)⟩,by omega,?_⟩;refine dr ?_;trivial
  ·conv=>whnf
   exact dF (Z3 (k:=k) (by omega) (by omega) (by simpa using h3))
 ·refine dr ?_;have:k=a.length:=by omega
  subst this;exact dT (ZH (by omega) he)
def zeJ:XC:=(.s (.r [.m1 4 .n]) (.s (.s (.r [.mv 6 0,.n1 7 6,.mv 8 1,.n1 9 8,.b1 10 .neq 7 9]) (.cnd 10 (.rf 4) .skip)) (.s (.s (.r [.mv 11 0,.n1 12 11,.m1 13 (.i 0)]) (.blk 0 (.loop (.s (.r [.b1 14 .lss 13 12]) (.s (.ce 14 0) (.s (.blk 1 (.s (.r [.mv 15 13,.mv 5 15]) (.s (.d [.mv 16 0,.mv 17 5,.i1 18 3 16 17,.l2 19 3 18,.mv 20 1,.mv 21 5,.i1 22 3 20 21,.l2 23 3 22,.ex 24 (.beq true [.s,.b,.s] 19 23)]) (.cnd 24 (.rf 4) .skip)))) (.r [.b1 25 .add 13 (.i 1),.mv 13 25]))))))) (.rt 4))))
theorem zeK:zh Tryz.prog [] 83=some (zeJ.ac,[(.t 4)],26):=by kernel_rfl
theorem zio (W0:World) (a b:List Ent):Fn Tryz.prog W0 83 [ze a,ze b] (.c (CB (decide (a=b)))) []:=by
 refine fX mixed zeK fun hg=>?_
 have g1:=jL (hg _ (by simp:ze a∈_));refine dr ?_;apply cP<;>intro h1
 ·conv=>whnf
  exact dF (JO (by omega))
 refine dr ?_;refine lp (σ:=Nat) (fun k=>[(0,.c (ze a)),(1,.c (ze b)),(12,I a.length),(13,I k)]) (fun _=>[]) (fun k=>k≤a.length∧a.take k=b.take k) (fun k=>a.length - k) 0 ⟨by simp,by simp⟩ ?_ ?_
 ·refine dr ?_;trivial
 rintro k ⟨hk,he⟩;refine dr ?_;apply cP<;>intro h2
 ·refine dr ?_;rw [Zx];apply cP<;>intro h3;rotate_left
  ·refine dr ?_;refine ⟨k+1,⟨by omega,Jb (by omega) (by omega) he (by simpa using h3)⟩,by omega,?_⟩;refine dr ?_;trivial
  ·conv=>whnf
   exact dF (Z3 (k:=k) (by omega) (by omega) (by simpa using h3))
 ·refine dr ?_;have:k=a.length:=by omega
  subst this;exact dT (ZH (by omega) he)
def zeN:XC:=(.s (.r [.m1 4 .n]) (.s (.s (.r [.mv 6 0,.n1 7 6,.mv 8 1,.n1 9 8,.b1 10 .neq 7 9]) (.cnd 10 (.rf 4) .skip)) (.s (.s (.r [.mv 11 0,.n1 12 11,.m1 13 (.i 0)]) (.blk 0 (.loop (.s (.r [.b1 14 .lss 13 12]) (.s (.ce 14 0) (.s (.blk 1 (.s (.r [.mv 15 13,.mv 5 15]) (.s (.d [.mv 16 0,.mv 17 5,.i1 18 3 16 17,.l2 19 3 18,.mv 20 1,.mv 21 5,.i1 22 3 20 21,.l2 23 3 22,.ex 24 (.beq true [.s,(.i .i64),.s] 19 23)]) (.cnd 24 (.rf 4) .skip)))) (.r [.b1 25 .add 13 (.i 1),.mv 13 25]))))))) (.rt 4))))
theorem zeO:zh Tryz.prog [] 84=some (zeN.ac,[(.t 4)],26):=by kernel_rfl
theorem ziq (W0:World) (a b:List Mark):Fn Tryz.prog W0 84 [zg a,zg b] (.c (CB (decide (a=b)))) []:=by
 refine fX mixed zeO fun hg=>?_
 have g1:=jL (hg _ (by simp:zg a∈_));refine dr ?_;apply cP<;>intro h1
 ·conv=>whnf
  exact dF (JO (by omega))
 refine dr ?_;refine lp (σ:=Nat) (fun k=>[(0,.c (zg a)),(1,.c (zg b)),(12,I a.length),(13,I k)]) (fun _=>[]) (fun k=>k≤a.length∧a.take k=b.take k) (fun k=>a.length - k) 0 ⟨by simp,by simp⟩ ?_ ?_
 ·refine dr ?_;trivial
 rintro k ⟨hk,he⟩;refine dr ?_;apply cP<;>intro h2
 ·refine dr ?_;rw [bqMark];apply cP<;>intro h3;rotate_left
  ·refine dr ?_;refine ⟨k+1,⟨by omega,Jb (by omega) (by omega) he (by simpa using h3)⟩,by omega,?_⟩;refine dr ?_;trivial
  ·conv=>whnf
   exact dF (Z3 (k:=k) (by omega) (by omega) (by simpa using h3))
 ·refine dr ?_;have:k=a.length:=by omega
  subst this;exact dT (ZH (by omega) he)
def zeP:XC:=(.s (.r [.m1 4 .n]) (.s (.r [.mv 5 0,.mv 6 1,.c1 7 83 [5,6],.mv 4 7]) .ret))
theorem zeQ:zh Tryz.prog [] 45=some (zeP.ac,[(.t 4)],8):=by kernel_rfl
theorem zbA (W0:World) (a b:List Ent):Fn Tryz.prog W0 45 [ze a,ze b] (.c (CB (decide (a=b)))) []:=by
 refine fX mixed zeQ fun hg=>?_
 refine dr ?_;repeat (refine c0 (zio W0 a b) rfl ?_; first|refine dr ?_|exact dz)
def zeR:XC:=(.s (.r [.m1 4 .n]) (.s (.r [.mv 5 0,.mv 6 1,.c1 7 84 [5,6],.mv 4 7]) .ret))
theorem zeS:zh Tryz.prog [] 47=some (zeR.ac,[(.t 4)],8):=by kernel_rfl
theorem Qs (W0:World) (a b:List Mark):Fn Tryz.prog W0 47 [zg a,zg b] (.c (CB (decide (a=b)))) []:=by
 refine fX mixed zeS fun hg=>?_
 refine dr ?_;repeat (refine c0 (ziq W0 a b) rfl ?_; first|refine dr ?_|exact dz)
def zeL:XC:=(.s (.r [.m1 6 .n]) (.s (.s (.r [.mv 10 0,.n1 11 10,.mv 12 1,.n1 13 12,.b1 14 .neq 11 13]) (.cnd 14 (.rf 6) .skip)) (.s (.s (.r [.mv 15 0,.n1 16 15,.m1 17 (.i 0)]) (.blk 0 (.loop (.s (.r [.b1 18 .lss 17 16]) (.s (.ce 18 0) (.s (.blk 1 (.s (.r [.mv 19 17,.i1 20 1 15 17,.l1 21 1 20,.mv 7 19,.a1 8 21 3 34]) (.s (.r [.mv 22 1,.mv 23 7,.i1 24 1 22 23,.l1 25 1 24,.a1 9 25 3 34]) (.s (.r [.mv 26 2,.mv 27 8,.mv 28 9,.ex 29 (.callv 26 [27,28]),.u1 30 29]) (.cnd 30 (.rf 6) .skip))))) (.r [.b1 31 .add 17 (.i 1),.mv 17 31]))))))) (.rt 6))))
theorem zeM:zh Tryz.prog [] 46=some (zeL.ac,[(.t 6)],32):=by kernel_rfl
theorem zip (W0:World) (a b:List (List Mark)):Fn Tryz.prog W0 46 [js a,js b,.sc (.func (.func 47) #[] #[])] (.c (CB (decide (a=b)))) []:=by
 refine fX mixed zeM fun hg=>?_
 have g1:=jL (hg _ (by simp:js a∈_));refine dr ?_;apply cP<;>intro h1
 ·conv=>whnf
  exact dF (JO (by omega))
 refine dr ?_;refine lp (σ:=Nat) (fun k=>[(0,.c (js a)),(1,.c (js b)),(2,.c (.sc (.func (.func 47) #[] #[]))),(15,.c (js a)),(16,I a.length),(17,I k)]) (fun _=>[]) (fun k=>k≤a.length∧a.take k=b.take k) (fun k=>a.length - k) 0 ⟨by simp,by simp⟩ ?_ ?_
 ·refine dr ?_;trivial
 rintro k ⟨hk,he⟩;refine dr ?_;apply cP<;>intro h2
 ·refine dr ?_;repeat ((first|refine oB ⟨by kernel_rfl,by simp⟩ ?_|refine c0 (Qs W0 _ _) rfl ?_); first|refine dr ?_|exact dz)
  apply cP<;>intro h3;rotate_left
  ·refine dr ?_;refine ⟨k+1,⟨by omega,Jb (by omega) (by omega) he (by simpa using h3)⟩,by omega,?_⟩;refine dr ?_;trivial
  ·conv=>whnf
   exact dF (Z3 (k:=k) (by omega) (by omega) (by simpa using h3))
 ·refine dr ?_;have:k=a.length:=by omega
  subst this;exact dT (ZH (by omega) he)
def ze1:XC:=(.s (.r [.x1 2 0,.x1 3 1,.m1 4 .n]) (.s (.r [.f1 5 0 2,.l1 6 1 5,.f1 7 0 3,.l1 8 1 7,.c1 9 45 [6,8],.mv 10 9,.g1 11 1 2 10,.g2 12 1 11 10,.g1 13 1 3 10,.g2 14 1 13 10,.gt 15 (.call 46 [12,14,(.k (.c (.sc (.func (.func 47) #[] #[]))))]) 10,.p2 16 10 15,.mv 17 16,.g1 18 2 2 17,.g2 19 1 18 17,.g1 20 2 3 17,.g2 21 1 20 17,.gt 22 (.call 47 [19,21]) 17,.p2 23 17 22,.mv 4 23]) .ret))
theorem ze2:zh Tryz.prog [] 13=some (ze1.ac,[(.t 4)],24):=by kernel_rfl
theorem ZK (W0:World) (a b:Over):Fn Tryz.prog W0 13 [zL a,zL b] (.c (CB (decide (a=b)))) []:=by
 refine fX mixed ze2 fun hg=>?_
 refine dr ?_;repeat (refine c0 (zbA W0 a.base b.base) rfl ?_; first|refine dr ?_|exact dz)
 apply cP<;>intro h1;rotate_left
 ·refine dr ?_;exact dF fun e=>by simp [e] at h1
 refine dr ?_;repeat (refine c0 (zip W0 a.layers b.layers) rfl ?_; first|refine dr ?_|exact dz)
 apply cP<;>intro h2;rotate_left
 ·refine dr ?_;exact dF fun e=>by simp [e] at h2
 refine dr ?_;repeat (refine c0 (Qs W0 a.upper b.upper) rfl ?_; first|refine dr ?_|exact dz)
 exact congrArg CB (by cases a; cases b; simp_all)
def zgb:XC:=(.s (.r [.x1 2 0,.x1 3 1,.m1 4 .n]) (.s (.s (.r [.f1 6 0 2,.l1 7 1 6,.f1 8 0 3,.l1 9 1 8,.c1 10 48 [7,9],.u1 11 10,.mv 12 11,.h1 13 2 2 12,.h2 14 1 13 12,.h1 15 2 3 12,.h2 16 1 15 12,.gf 17 (.call 49 [14,16]) 12,.gf 18 (.un .not 17) 12,.p1 19 12 18,.mv 20 19,.h1 21 1 2 20,.h2 22 1 21 20,.gf 23 (.len false 22) 20,.h1 24 1 3 20,.h2 25 1 24 20,.gf 26 (.len false 25) 20,.gf 27 (.bin .neq 23 26) 20,.p1 28 20 27]) (.cnd 28 (.rf 4) .skip)) (.s (.s (.r [.m1 5 (.i 0)]) (.blk 0 (.loop (.s (.s (.r [.mv 29 5,.f1 30 1 2,.l1 31 1 30,.n1 32 31,.b1 33 .lss 29 32]) (.ce 33 0)) (.s (.blk 1 (.s (.d [.f1 36 1 2,.l1 37 1 36,.mv 38 5,.i1 39 1 37 38,.l1 40 1 39,.f1 41 1 3,.l1 42 1 41,.mv 43 5,.i1 44 1 42 43,.l1 45 1 44,.c1 46 49 [40,45],.u1 47 46]) (.cnd 47 (.rf 4) .skip))) (.ic 34 35 5)))))) (.rt 4))))
theorem zgc:zh Tryz.prog [] 14=some (zgb.ac,[(.t 4)],48):=by kernel_rfl
theorem zi8 (W0:World) (a b:Over):Fn Tryz.prog W0 14 [zL a,zL b] (.c (CB (decide (a=b)))) []:=by
 refine fX mixed zgc fun hg=>?_
 have g0:=hg _ (by simp:zL a∈_);have g1:a.layers.length≤9223372036854775807:=jL (goodAgg g0 _ (by simp:js a.layers∈_));refine dr ?_;repeat (refine c0 (zja W0 a.base b.base) rfl ?_; first|refine dr ?_|exact dz)
 apply cP<;>intro h1
 ·refine dr ?_;exact dF fun e=>by simp [e] at h1
 refine dr ?_;repeat (refine c0 (YO W0 a.upper b.upper) rfl ?_; first|refine dr ?_|exact dz)
 apply cP<;>intro h2
 ·refine dr ?_;exact dF fun e=>by simp [e] at h2
 refine dr ?_;apply cP<;>intro h3
 ·conv=>whnf
  exact dF fun e=>by simp [e] at h3
 refine dr ?_;refine lp (σ:=Nat) (fun k=>[(2,.ptr 32 0),(3,.ptr 48 0),(5,I k)]) (fun _=>[(32,.box [.c (ze a.base),.c (js a.layers),.c (zg a.upper)]),(48,.box [.c (ze b.base),.c (js b.layers),.c (zg b.upper)])]) (fun k=>k≤a.layers.length∧a.layers.take k=b.layers.take k) (fun k=>a.layers.length - k) 0 ⟨by simp,by simp⟩ ?_ ?_
 ·refine dr ?_;trivial
 rintro k ⟨hk,he⟩;refine dr ?_;apply cP<;>intro h4
 ·refine dr ?_;repeat (refine c0 (YO W0 _ _) rfl ?_; first|refine dr ?_|exact dz)
  apply cP<;>intro h5;rotate_left
  ·refine dr ?_;refine ⟨k+1,⟨by omega,Jb (by omega) (by omega) he (by simpa using h5)⟩,by omega,?_⟩;refine dr ?_;trivial
  ·conv=>whnf
   have:=Z3 (a:=a.layers) (b:=b.layers) (k:=k) (by omega) (by omega) (by simpa using h5);exact dF fun e=>this (by rw [e])
 ·refine dr ?_;have:k=a.layers.length:=by omega
  subst this;exact dT (zkx (by simpa using h1) (ZH (by omega) he) (by simpa using h2))
end Go.Proofs.YtmkmldepkponaaaGreatDoor

namespace Go.Proofs.YtmkmldepkponaaaGreatDoor
set_option linter.unusedSimpArgs false
set_option linter.unusedVariables false
open Go Go.RowKit
theorem zcN:∀ {a:List (List Mark)} {t t':List Ent},lowerA a t=some t'→∀ l∈a,lOk l=true
 | [],_,_,_,l,hl=>by cases hl
 | x::a,t,t',h,l,hl=>by
  rw [lowerA] at h;cases h1:lOn x t with
  | none=>rw [h1] at h; cases h
  | some y =>
   rw [h1] at h;rcases List.mem_cons.1 hl with rfl | hl
   ·exact (ZY h1).2.1
   ·exact zcN h l hl
theorem Y9 {o:Over} {t:List Ent} (h:ja o=some t):tOk o.base=true∧o.layers.length≤4∧lowerA o.layers o.base=some t:=by
 unfold ja at h;split at h
 ·rename_i hc; exact ⟨hc.1,hc.2,h⟩
 ·cases h
theorem zke {o:Over} (h:oOk o=true):(∀ l∈o.layers,lOk l=true)∧lOk o.upper=true:=by
 obtain ⟨t,x,h1,h2,_⟩:=zc4 h;refine ⟨zcN (Y9 h1).2.2,?_⟩;unfold jh at h2;rw [h1] at h2;exact (ZY h2).2.1
theorem zjM {a b j:List Mark} {t x:List Ent} (hj:j1 a b=some j) (hx:lOn b t=some x):lOn j t=lOn a x:=by
 obtain ⟨h1,h2,rfl,h4⟩:=zjR hj;obtain ⟨h5,_,h6,rfl⟩:=ZY hx;have h7:=ZZ hx;unfold lOn;rw [if_pos (show (lOk (qa a b)&&tOk t)=true by simp [h4,h6]),if_pos (show (lOk a&&tOk (zW b t))=true by simp [h1,h7]),zko (LG.of h1) (LG.of h2) (TG.of h6).srt]
end Go.Proofs.YtmkmldepkponaaaGreatDoor

namespace Go.Proofs.YtmkmldepkponaaaGreatDoor
set_option linter.unusedSimpArgs false
set_option linter.unusedVariables false
open Go Go.RowKit
def yO (o:Over):Option (List Ent × List Ent):=match ja o with
 | none=>none
 | some t=>match lOn o.upper t with
  | none=>none
  | some x=>if o.upper=diff t x then some (t,x) else none
def eOT:Option (List Ent × List Ent)→CV
 | none => .tup [ze [],ze [],CB false]
 | some x => .tup [ze x.1,ze x.2,CB true]
theorem zc5 {o:Over}:oOk o=(yO o).isSome:=by
 unfold oOk yO jh;cases ja o with
 | none=>rfl
 | some t =>
  simp only;cases lOn o.upper t with
  | none=>rfl
  | some x =>
   simp only;by_cases h:o.upper=diff t x
   ·rw [if_pos h]; simp [h]
   ·rw [if_neg h]; simp [h]
def zft:XC:=(.s (.r [.x1 1 0,.a2 2 3 77,.a2 3 3 77,.m1 4 .n]) (.s (.s (.r [.f1 12 0 1,.l1 13 1 12,.c1 14 85 [13],.u1 15 14,.mv 16 15,.h1 17 1 1 16,.h2 18 1 17 16,.gf 19 (.len false 18) 16,.gf 20 (.bin .gtr 19 (.i 4)) 16,.p1 21 16 20]) (.cnd 21 (.s (.r [.a2 2 3 77,.a2 3 3 77,.m1 4 .n]) .ret) .skip)) (.s (.r [.f1 22 0 1,.l1 23 1 22,.c1 24 86 [23],.a1 5 24 3 77]) (.s (.s (.r [.f1 25 1 1,.l1 26 1 25,.n1 27 26,.m1 28 (.i 0)]) (.blk 0 (.loop (.s (.r [.b1 29 .lss 28 27]) (.s (.ce 29 0) (.s (.blk 1 (.s (.r [.i1 30 1 26 28,.l1 31 1 30,.a1 7 31 3 34]) (.s (.r [.mv 33 7,.mv 34 5,.c1 35 87 [33,34],.mv 32 35,.e1 36 32 0,.e1 37 32 1,.a1 8 36 3 77,.mv 9 37]) (.s (.s (.r [.mv 38 9,.u1 39 38]) (.cnd 39 (.s (.r [.a2 2 3 77,.a2 3 3 77,.m1 4 .n]) .ret) .skip)) (.r [.mv 40 8,.a1 5 40 3 77]))))) (.r [.b1 41 .add 28 (.i 1),.mv 28 41]))))))) (.s (.r [.f1 43 2 1,.l1 44 1 43,.mv 45 5,.c1 46 87 [44,45],.mv 42 46,.e1 47 42 0,.e1 48 42 1,.a1 10 47 3 77,.mv 11 48]) (.s (.s (.d [.mv 49 11,.u1 50 49,.mv 51 50,.h1 52 2 1 51,.h2 53 1 52 51,.h3 54 5 51,.h3 55 10 51,.gf 56 (.call 76 [54,55]) 51,.gf 57 (.call 47 [53,56]) 51,.gf 58 (.un .not 57) 51,.p1 59 51 58]) (.cnd 59 (.s (.r [.a2 2 3 77,.a2 3 3 77,.m1 4 .n]) .ret) .skip)) (.s (.r [.mv 60 5,.mv 61 10,.a1 2 60 3 77,.a1 3 61 3 77,.m1 4 .y]) .ret)))))))
theorem zfu:zh Tryz.prog [] 50=some (zft.ac,[(.t 2),(.t 3),(.t 4)],62):=by kernel_rfl
theorem ziZ (W0:World) (hM:HM W0) (o:Over):Fn Tryz.prog W0 50 [zL o] (.c (eOT (yO o))) []:=by
 refine fX mixed zfu fun hg=>?_
 have no:ja o=none→CV.tup [ze [],ze [],CB false]=eOT (yO o):=fun h=>by rw [yO,h]; rfl
 refine dEr ?_;repeat (refine c0 (Qu W0 hM _) rfl ?_; first|refine dEr ?_|exact dz)
 apply cP<;>intro h1
 ·refine dr ?_;repeat (refine oB (by simp) ?_; first|refine dr ?_|exact dz)
  exact no (by rw [ja,if_neg (by simp [h1])])
 refine dr ?_;apply cP<;>intro h2
 ·refine dr ?_;repeat (refine oB (by simp) ?_; first|refine dr ?_|exact dz)
  exact no (by rw [ja,if_neg (by omega)])
 have hl4:ja o=lowerA o.layers o.base:=by rw [ja,if_pos ⟨h1,by omega⟩]
 have hbl:=(qu h1).1;refine dEr ?_;repeat (refine c0 (ziy W0 _ (by omega)) rfl ?_; first|refine dEr ?_|exact dz)
 refine lp2 (fun (k:Nat) (t:List Ent)=>[(1,.ptr 16 0),(5,.c (ze t)),(26,.c (js o.layers)),(27,I o.layers.length),(28,I k)]) (fun _ _=>[(16,.box [.c (ze o.base),.c (js o.layers),.c (zg o.upper)]),(32,.row [] 3 77),(48,.row [] 3 77)]) (fun k t=>k≤o.layers.length∧lowerA (o.layers.take k) o.base=some t∧tOk t=true) (fun k _=>o.layers.length - k) 0 o.base ⟨by simp,rfl,h1⟩ ?_ ?_
 ·refine dr ?_;trivial
 rintro k t ⟨hk,ha,ht⟩;refine dr ?_;apply cP<;>intro h3
 ·have hk':k < o.layers.length:=by omega
  have hn:lowerA (o.layers.take (k+1)) o.base=lOn o.layers[k] t:=by
   rw [List.take_succ_eq_append_getElem hk',Ze,ha];simp only [lowerA];cases lOn o.layers[k] t<;>rfl
  have hc:=zbB W0 hM o.layers[k] t;cases hx:lOn o.layers[k] t with
  | none =>
   rw [hx] at hc;refine dEr ?_;repeat ((first|refine c0 hc rfl ?_|refine oB (by simp) ?_); first|refine dEr ?_|exact dz)
   refine no ?_;have e:o.layers=o.layers.take (k+1)++o.layers.drop (k+1):=by rw [List.take_append_drop]
   rw [hl4,e,Ze,hn,hx]
  | some t' =>
   rw [hx] at hc;refine dEr ?_;repeat (refine c0 hc rfl ?_; first|refine dEr ?_|exact dz)
   refine ⟨k+1,t',⟨by omega,by rw [hn,hx],ZZ hx⟩,by omega,?_⟩;refine dr ?_;trivial
 have hkl:k=o.layers.length:=by omega
 rw [hkl,List.take_length] at ha;have hl4':ja o=some t:=by rw [hl4,ha]
 have hc:=zbB W0 hM o.upper t;have e:yO o=match lOn o.upper t with
  | none=>none
  | some x=>if o.upper=diff t x then some (t,x) else none:=by rw [yO,hl4']
 rw [e];cases hx:lOn o.upper t with
 | none =>
  rw [hx] at hc;refine dEr ?_;repeat ((first|refine c0 hc rfl ?_|refine oB (by simp) ?_); first|refine dEr ?_|exact dz)
  try rfl
 | some x =>
  rw [hx] at hc;have hd:=ziz W0 hM t x;rw [Qm,if_pos (by simp [ht,ZZ hx])] at hd;refine dEr ?_;repeat ((first|refine c0 hc rfl ?_|refine c0 hd rfl ?_|refine c0 (Qs W0 _ _) rfl ?_); first|refine dEr ?_|exact dz)
  apply cP<;>intro h4
  ·refine dr ?_;repeat (refine oB (by simp) ?_; first|refine dr ?_|exact dz)
   show _=eOT (if o.upper=diff t x then some (t,x) else none);rw [if_neg h4]<;>rfl
  ·refine dr ?_;repeat (refine oB (by simp) ?_; first|refine dr ?_|exact dz)
   show _=eOT (if o.upper=diff t x then some (t,x) else none);rw [if_pos h4]<;>rfl
def zeZ:XC:=(.s (.r [.x1 1 0,.m1 2 .n]) (.s (.r [.l2 7 3 1,.c1 8 50 [7],.mv 6 8,.e1 9 6 0,.e1 10 6 1,.e1 11 6 2,.a1 3 9 3 77,.a1 4 10 3 77,.mv 5 11]) (.s (.r [.mv 12 5,.mv 2 12]) .ret)))
theorem ze0:zh Tryz.prog [] 15=some (zeZ.ac,[(.t 2)],13):=by kernel_rfl
theorem Ju (W0:World) (hM:HM W0) (o:Over):Fn Tryz.prog W0 15 [zL o] (.c (CB (oOk o))) []:=by
 refine fX mixed ze0 fun hg=>?_
 have hc:=ziZ W0 hM o;cases hx:yO o with
 | none =>
  rw [hx] at hc;refine dEr ?_;repeat (refine c0 hc rfl ?_; first|refine dEr ?_|exact dz)
  rw [zc5,hx]<;>rfl
 | some x =>
  rw [hx] at hc;refine dEr ?_;repeat (refine c0 hc rfl ?_; first|refine dEr ?_|exact dz)
  rw [zc5,hx]<;>rfl
end Go.Proofs.YtmkmldepkponaaaGreatDoor

namespace Go.Proofs.YtmkmldepkponaaaGreatDoor
set_option linter.unusedSimpArgs false
set_option linter.unusedVariables false
open Go Go.RowKit
def jv (op:Op):Bool:=(decide (1≤op.kind)&&decide (op.kind≤5))&&(pOk op.path&&(if op.kind=5 then pOk op.dest&&op.data==[] else op.dest==[]&&(jO op.data&&(op.kind==2||op.data==[]))))
def kids (t:List Ent) (p:Str):List Str:=(t.filter fun e=>pUp e.path==p).map fun e=>Zl e.path
def upC (t:List Ent) (p:Str):Int:=match get t (pUp p) with
 | none=>2
 | some e=>if e.dir=true then 0 else 3
def newC (t:List Ent) (p:Str):Int:=if upC t p≠0 then upC t p else if (get t p).isSome=true then 4 else if 16≤t.length then 8 else 0
def putC (t:List Ent) (p:Str):Int:=if newC t p=4 then (if ((get t p).getD noE).dir=true then 5 else 0) else newC t p
def offC (t:List Ent) (op:Op):Int:=match get t op.path with
 | none=>2
 | some e=>if op.kind=3∧e.dir=true then 5 else if op.kind=4∧e.dir=false then 3 else if 0 < (kids t op.path).length then 6 else 0
def movC (t:List Ent) (op:Op):Int:=if (get t op.path).isSome=false then 2 else if upC t op.dest≠0 then upC t op.dest else if (get t op.dest).isSome=true then 4 else if und op.dest op.path=true then 7 else
 if t.all (fun e=>(jp e.path op.path op.dest).isSome)=true then 0 else 8
def qi (t:List Ent) (op:Op):Int:=if op.kind=1 then newC t op.path else if op.kind=2 then putC t op.path else if op.kind=5 then movC t op else offC t op
def offT (t:List Ent) (p:Str):List Ent:=t.filter fun e=>e.path != p
def movE (f tq:Str) (e:Ent):Ent:={ e with path:=(jp e.path f tq).getD [] }
def movT (t:List Ent) (f tq:Str):List Ent:=t.foldl (fun out e=>put out (movE f tq e)) []
def doT (t:List Ent) (op:Op):List Ent:=if op.kind=1 then put t ⟨op.path,true,[]⟩ else if op.kind=2 then put t ⟨op.path,false,op.data⟩ else if op.kind=5 then movT t op.path op.dest else offT t op.path
def zR (t:List Ent) (op:Op):List Ent × Int:=if tOk t=true then (if jv op=true then (if qi t op=0 then (doT t op,0) else (t,qi t op)) else (t,1)) else ([],1)
def eTD (x:List Ent × Int):CV := .tup [ze x.1,CI x.2]
theorem zbo (o:Option Str):eOpt o = .tup [CS (o.getD []),CB o.isSome]:=by cases o<;>rfl
theorem zc0 {f tq:Str}:∀ {t out:List Ent},(t.foldl (fun out e=>put out (movE f tq e)) out).length≤out.length+t.length
 | [],out=>by simp
 | e::t,out=>by
  have h:=zc0 (f:=f) (tq:=tq) (t:=t) (out:=put out (movE f tq e));have h2:(put out (movE f tq e)).length≤out.length+1:=j3;simp only [List.foldl_cons,List.length_cons];omega
theorem zif {t:List Ent} {op:Op}:(doT t op).length≤t.length+1:=by
 unfold doT;split
 ·exact j3
 ·split
  ·exact j3
  ·split
   ·have:=zc0 (f:=op.path) (tq:=op.dest) (t:=t) (out:=[]);unfold movT; simp at this; omega
   ·have:=List.length_filter_le (fun e:Ent=>e.path != op.path) t;unfold offT; omega
theorem zed {t:List Ent} {op:Op}:(zR t op).1.length≤17:=by
 unfold zR;split
 ·rename_i h;have:=(qu h).1;have h2:=zif (t:=t) (op:=op);split
  ·split<;>(simp only; omega)
  ·simp only; omega
 ·simp
end Go.Proofs.YtmkmldepkponaaaGreatDoor

namespace Go.Proofs.YtmkmldepkponaaaGreatDoor
set_option linter.unusedSimpArgs false
set_option linter.unusedVariables false
open Go Go.RowKit
theorem zlT {t:List Ent} {p:Str}:upC2 t p=upC t p:=by
 unfold upC2 upC get;by_cases h:pUp p=[47]
 ·rw [if_pos h,if_pos h]<;>rfl
 ·rw [if_neg h,if_neg h]<;>rfl
theorem J1 {t:List Ent} {p:Str}:upC t p=0↔zF t (pUp p)=true:=by rw [← zlT]; exact qQ
theorem zda {op:Op} (h:jv op=true):pOk op.path=true:=by
 simp only [jv,Bool.and_eq_true] at h; exact h.2.1
theorem zkt {op:Op} (h:jv op=true):1≤op.kind∧op.kind≤5:=by
 simp only [jv,Bool.and_eq_true,decide_eq_true_eq] at h; exact h.1
theorem op_5 {op:Op} (h:jv op=true) (k:op.kind=5):pOk op.dest=true∧op.data=[]:=by
 simp only [jv,Bool.and_eq_true,k,if_true] at h;exact ⟨h.2.2.1,by simpa using h.2.2.2⟩
theorem zku {op:Op} (h:jv op=true) (k:op.kind≠5):op.dest=[]∧jO op.data=true∧(op.kind=2∨op.data=[]):=by
 simp only [jv,Bool.and_eq_true,if_neg k] at h;exact ⟨by simpa using h.2.2.1,h.2.2.2.1,by simpa using h.2.2.2.2⟩
theorem QQ {α:Type} {key:α→Str} {t:List α} {e x:α} (hs:Srt key t):x∈zG key t e↔x=e∨(x∈t∧key x≠key e):=by
 rw [ZP (yf hs),JC];by_cases h:key e=key x
 ·rw [if_pos h];constructor
  ·intro h2; exact .inl (Option.some.inj h2).symm
  ·rintro (rfl | h2)
   ·rfl
   ·exact absurd h.symm h2.2
 ·rw [if_neg h,← ZP hs];constructor
  ·intro h2; exact .inr ⟨h2,fun e=>h e.symm⟩
  ·rintro (rfl | h2)
   ·exact absurd rfl h
   ·exact h2.1
theorem new0 {t:List Ent} {p:Str} (hp:pOk p=true):newC t p=0↔zF t (pUp p)=true∧find t p=none∧t.length < 16:=by
 unfold newC;rw [jt hp];by_cases h:upC t p=0
 ·rw [if_neg (by simp [h])];have h':=J1.1 h;cases hf:find t p with
  | some e=>simp
  | none =>
   simp only [Option.isSome_none,Bool.false_eq_true,if_false];by_cases hl:16≤t.length
   ·rw [if_pos hl]; simp; omega
   ·rw [if_neg hl]; simp [h']; omega
 ·rw [if_pos h];constructor
  ·intro e; exact absurd e h
  ·rintro ⟨e,_⟩; exact absurd (J1.2 e) h
theorem new4 {t:List Ent} {p:Str} (hp:pOk p=true) (h:newC t p=4):zF t (pUp p)=true∧∃ e,find t p=some e:=by
 unfold newC at h;rw [jt hp] at h;split at h
 ·rename_i h1;unfold upC at h;split at h
  ·cases h
  ·split at h<;>cases h
 ·rename_i h1;refine ⟨J1.1 (by simpa using h1),?_⟩;split at h
  ·rename_i h2; exact Option.isSome_iff_exists.1 h2
  ·split at h<;>cases h
theorem put0 {t:List Ent} {p:Str} (hp:pOk p=true) (h:putC t p=0):zF t (pUp p)=true∧((find t p=none∧t.length < 16)∨∃ e,find t p=some e∧e.dir=false):=by
 unfold putC at h;rw [jt hp] at h;split at h
 ·rename_i h1;obtain ⟨h2,e,h3⟩:=new4 hp h1;refine ⟨h2,.inr ⟨e,h3,?_⟩⟩;rw [h3] at h;simp only [Option.getD_some] at h;split at h
  ·cases h
  ·rename_i h4; simpa using h4
 ·have:=(new0 hp).1 h;exact ⟨this.1,.inl this.2⟩
theorem off0 {t:List Ent} {op:Op} (ht:TG t) (hp:pOk op.path=true) (hk:op.kind=3∨op.kind=4):offC t op=0↔∃ e,find t op.path=some e∧e.dir=(op.kind==4)∧kids t op.path=[]:=by
 unfold offC;rw [jt hp];cases hf:find t op.path with
 | none=>simp
 | some e =>
  simp only [Option.some.injEq,exists_eq_left'];have key:(if 0 < (kids t op.path).length then (6:Int) else 0)=0↔kids t op.path=[]:=by
   cases kids t op.path<;>simp
  rcases hk with hk | hk
  ·by_cases hd:e.dir=true
   ·simp [hk,hd]
   ·simp only [Bool.not_eq_true] at hd;rw [if_neg (by simp [hd]),if_neg (by simp [hk]),key];simp [hk,hd]
  ·by_cases hd:e.dir=true
   ·rw [if_neg (by simp [hk]),if_neg (by simp [hd]),key];simp [hk,hd]
   ·simp only [Bool.not_eq_true] at hd;rw [if_neg (by simp [hk]),if_pos ⟨hk,hd⟩];simp [hk,hd]
theorem mov0 {t:List Ent} {op:Op} (hp:pOk op.path=true) (hq:pOk op.dest=true):movC t op=0↔(∃ e,find t op.path=some e)∧zF t (pUp op.dest)=true∧find t op.dest=none∧und op.dest op.path=false∧∀ e∈t,(jp e.path op.path op.dest).isSome=true:=by
 unfold movC;rw [jt hp,jt hq];cases hf:find t op.path with
 | none=>simp
 | some e =>
  simp only [Option.isSome_some,Bool.true_eq_false,if_false,Option.some.injEq,exists_eq',true_and];by_cases h1:upC t op.dest=0
  ·rw [if_neg (by simp [h1])];have h1':=J1.1 h1;cases hf2:find t op.dest with
   | some e=>simp
   | none =>
    simp only [Option.isSome_none,Bool.false_eq_true,if_false];by_cases h2:und op.dest op.path=true
    ·rw [if_pos h2]; simp [h2]
    ·rw [if_neg h2];simp only [Bool.not_eq_true] at h2;by_cases h3:t.all (fun e=>(jp e.path op.path op.dest).isSome)=true
     ·rw [if_pos h3]; simp only [h1',h2,true_and,true_iff]; exact List.all_eq_true.1 h3
     ·rw [if_neg h3];constructor
      ·intro h; cases h
      ·rintro ⟨_,_,_,h⟩; exact absurd (List.all_eq_true.2 h) h3
  ·rw [if_pos h1];constructor
   ·intro h; exact absurd h h1
   ·rintro ⟨h,_⟩; exact absurd (J1.2 h) h1
theorem last47 {a a' l l':Str} (h:a++47::l=a'++47::l') (h1:(47:UInt8) ∉ l) (h2:(47:UInt8) ∉ l'):a=a'∧l=l':=by
 rcases List.append_eq_append_iff.1 h with ⟨c,h3,h4⟩ | ⟨c,h3,h4⟩
 ·cases c with
  | nil=>simp at h3 h4; exact ⟨h3.symm,h4⟩
  | cons x c =>
   simp only [List.cons_append,List.cons.injEq] at h4;exact absurd (by rw [h4.2]; simp) h1
 ·cases c with
  | nil=>simp at h3 h4; exact ⟨h3,h4.symm⟩
  | cons x c =>
   simp only [List.cons_append,List.cons.injEq] at h4;exact absurd (by rw [h4.2]; simp) h2
theorem zkB {s a l:Str} (h:pOk s=true) (e:s=a++47::l) (hl:(47:UInt8) ∉ l) (ha:a≠[]):pUp s=a:=by
 obtain ⟨a',l',h1,h2,_,_,_,_,_,h6⟩:=Zm h;obtain ⟨rfl,rfl⟩:=last47 (e.symm.trans h1) hl h2;rw [h6,if_neg ha]
theorem zen {s d:Str} (hd:d≠[47]) (h:und s d=true):∃ r,s=d++47::r:=by
 unfold und at h;simp only [Bool.or_eq_true,beq_iff_eq,hd,false_or,List.isPrefixOf_iff_prefix] at h;obtain ⟨r,h⟩:=h;exact ⟨r,by rw [← h]; simp⟩
theorem zlz {d r:Str}:und (d++47::r) d=true:=by
 unfold und;simp only [Bool.or_eq_true,List.isPrefixOf_iff_prefix];exact .inr ⟨r,by simp⟩
def blw (s f:Str):Bool:=s==f||und s f
theorem Ji {s f:Str} (hf:f≠[47]) (h:blw s f=true):∃ r,s=f++r∧(r=[]∨∃ q,r=47::q):=by
 unfold blw at h;simp only [Bool.or_eq_true,beq_iff_eq] at h;rcases h with rfl | h
 ·exact ⟨[],by simp,.inl rfl⟩
 ·obtain ⟨r,h⟩:=zen hf h;exact ⟨47::r,h,.inr ⟨r,rfl⟩⟩
theorem zly {f r:Str} (h:r=[]∨∃ q,r=47::q):blw (f++r) f=true:=by
 unfold blw;rcases h with rfl | ⟨q,rfl⟩
 ·simp
 ·rw [zlz]; simp
theorem zkA {s f tq:Str} (h:blw s f=true) (hm:(jp s f tq).isSome=true):jp s f tq=some (tq++s.drop f.length)∧pOk (tq++s.drop f.length)=true:=by
 unfold jp at hm ⊢;by_cases h1:(pOk s&&pOk f&&pOk tq)=true
 ·rw [if_pos h1] at hm ⊢;have h2:¬ (s != f&&!und s f)=true:=by
   unfold blw at h;by_cases hs:s=f
   ·simp [hs]
   ·simp [hs] at h; simp [h]
  rw [if_neg h2] at hm ⊢;by_cases h3:pOk (tq++s.drop f.length)=true
  ·rw [if_pos h3]; exact ⟨rfl,h3⟩
  ·rw [if_neg h3] at hm; cases hm
 ·rw [if_neg h1] at hm; cases hm
theorem zdf {s f tq:Str} (hs:pOk s=true) (hf:pOk f=true) (ht:pOk tq=true) (h:blw s f=false):jp s f tq=some s:=by
 unfold jp;rw [if_pos (by simp [hs,hf,ht]),if_pos];unfold blw at h
 simpa using h
structure MV (t:List Ent) (f tq:Str):Prop where
 tg:TG t
 pf:pOk f=true
 pt:pOk tq=true
 frm:∃ e,find t f=some e
 up:zF t (pUp tq)=true
 free:find t tq=none
 nun:und tq f=false
 all:∀ e∈t,(jp e.path f tq).isSome=true
theorem MV.of {t:List Ent} {op:Op} (ht:TG t) (ho:jv op=true) (hk:op.kind=5) (h:movC t op=0):MV t op.path op.dest:=by
 have hp:=zda ho;have hq:=(op_5 ho hk).1;obtain ⟨a,b,c,d,e⟩:=(mov0 hp hq).1 h;exact ⟨ht,hp,hq,a,b,c,d,e⟩
section
variable {t:List Ent} {f tq:Str}
theorem MV.fr (h:MV t f tq):f≠[47]:=Zk h.pf
theorem MV.at (h:MV t f tq) {e:Ent} (he:e∈t) (hb:blw e.path f=true):(movE f tq e).path=tq++e.path.drop f.length∧pOk (tq++e.path.drop f.length)=true:=by
 obtain ⟨h1,h2⟩:=zkA hb (h.all e he);exact ⟨by unfold movE; rw [h1]; rfl,h2⟩
theorem MV.stay (h:MV t f tq) {e:Ent} (he:e∈t) (hb:blw e.path f=false):movE f tq e=e:=by
 unfold movE; rw [zdf (h.tg.path he) h.pf h.pt hb]; rfl
theorem MV.clear (h:MV t f tq) {e:Ent} (he:e∈t):blw e.path tq=false:=by
 cases hb:blw e.path tq with
 | false=>rfl
 | true =>
  unfold blw at hb;simp only [Bool.or_eq_true,beq_iff_eq] at hb;have hf:=h.free;rcases hb with hb | hb
  ·rw [← hb,h.tg.at he] at hf; cases hf
  ·rw [h.tg.anc' (h.tg.at he) h.pt hb] at hf; cases hf
theorem MV.blw_to (h:MV t f tq) {e:Ent} (he:e∈t):blw (movE f tq e).path tq=blw e.path f:=by
 cases hb:blw e.path f with
 | true =>
  rw [(h.at he hb).1];obtain ⟨r,h1,h2⟩:=Ji h.fr hb;rw [h1,List.drop_left];exact zly h2
 | false=>rw [h.stay he hb]; exact h.clear he
theorem MV.inv (h:MV t f tq) {e:Ent} (he:e∈t):movE tq f (movE f tq e)=e:=by
 cases hb:blw e.path f with
 | true =>
  obtain ⟨h1,h2⟩:=h.at he hb;have hb2:=h.blw_to he;rw [hb,h1] at hb2;obtain ⟨r,h3,h4⟩:=Ji h.fr hb;have hd:f++(tq++e.path.drop f.length).drop tq.length=e.path:=by rw [List.drop_left,h3,List.drop_left]
  have hm:jp (tq++e.path.drop f.length) tq f=some e.path:=by
   unfold jp;rw [if_pos (by simp [h2,h.pf,h.pt]),if_neg,hd,if_pos (h.tg.path he)];unfold blw at hb2;simp only [Bool.or_eq_true,beq_iff_eq] at hb2;rcases hb2 with hb2 | hb2
   ·simp [hb2]
   ·simp [hb2]
  unfold movE at h1 ⊢;simp only at h1;simp only [h1,hm];rfl
 | false =>
  rw [h.stay he hb];unfold movE;rw [zdf (h.tg.path he) h.pt h.pf (h.clear he)];rfl
theorem MV.inj (h:MV t f tq) {x y:Ent} (hx:x∈t) (hy:y∈t) (e:(movE f tq x).path=(movE f tq y).path):x.path=y.path:=by
 have hb:blw x.path f=blw y.path f:=by rw [← h.blw_to hx,← h.blw_to hy,e]
 cases hb2:blw x.path f with
 | true =>
  rw [(h.at hx hb2).1,(h.at hy (hb▸hb2)).1] at e;have e':=List.append_cancel_left e;obtain ⟨r,h1,_⟩:=Ji h.fr hb2;obtain ⟨q,h3,_⟩:=Ji h.fr (hb▸hb2);rw [h1,h3,List.drop_left,List.drop_left] at e';rw [h1,h3,e']
 | false=>rw [h.stay hx hb2,h.stay hy (hb▸hb2)] at e; exact e
theorem MV.nodup (h:MV t f tq):((t.map (movE f tq)).map Ent.path).Nodup:=by
 have hn:=Z8 h.tg.srt;rw [List.map_map];unfold List.Nodup at hn ⊢;rw [List.pairwise_map] at hn ⊢;exact hn.imp_of_mem fun hx hy hne e=>hne (h.inj hx hy e)
end
theorem zcj {α:Type} {key:α→Str}:∀ {l t:List α},Srt key t→((t++l).map key).Nodup→Srt key (l.foldl (zG key) t)∧∀ x,x∈l.foldl (zG key) t↔x∈t∨x∈l
 | [],t,hs,_=>⟨hs,by simp⟩
 | e::l,t,hs,hn=>by
  have hk:∀ y∈t,key y≠key e:=fun y hy he=>by
   rw [List.map_append] at hn;have:=(List.nodup_append.1 hn).2.2 (key y) (List.mem_map_of_mem hy) (key e) (by simp);exact this he
  have hm:∀ x,x∈zG key t e↔x=e∨x∈t:=fun x=>by
   rw [QQ hs];constructor
   ·rintro (h | h)
    ·exact .inl h
    ·exact .inr h.1
   ·rintro (h | h)
    ·exact .inl h
    ·exact .inr ⟨h,hk x h⟩
  have hn2:((zG key t e++l).map key).Nodup:=by
   have hp:((zG key t e).map key).Nodup:=Z8 (yf hs);rw [List.map_append] at hn ⊢;rw [List.nodup_append] at hn ⊢;obtain ⟨h1,h2,h3⟩:=hn;rw [List.map_cons,List.nodup_cons] at h2;refine ⟨hp,h2.2,?_⟩;intro a ha b hb;obtain ⟨x,hx,rfl⟩:=List.mem_map.1 ha;rcases (hm x).1 hx with rfl | hx
   ·rintro rfl; exact h2.1 hb
   ·exact h3 _ (List.mem_map_of_mem hx) b (by simp; exact .inr (by simpa using hb))
  obtain ⟨h1,h2⟩:=zcj (yf hs) hn2;refine ⟨h1,fun x=>?_⟩;rw [List.foldl_cons,h2,hm];simp only [List.mem_cons];constructor
  ·rintro ((h | h) | h)
   ·exact .inr (.inl h)
   ·exact .inl h
   ·exact .inr (.inr h)
  ·rintro (h | h | h)
   ·exact .inl (.inr h)
   ·exact .inl (.inl h)
   ·exact .inr h
theorem zcZ (t:List Ent) (f tq:Str):movT t f tq=(t.map (movE f tq)).foldl put []:=by
 unfold movT; rw [List.foldl_map]
theorem MV.spec {t:List Ent} {f tq:Str} (h:MV t f tq):Srt Ent.path (movT t f tq)∧∀ x,x∈movT t f tq↔∃ e∈t,movE f tq e=x:=by
 obtain ⟨h1,h2⟩:=zcj (key:=Ent.path) (l:=t.map (movE f tq)) (t:=[]) List.Pairwise.nil (by simpa using h.nodup);rw [zcZ];exact ⟨h1,fun x=>by rw [h2]; simp⟩
theorem zjJ {t:List Ent} (hs:Srt Ent.path t) {p:Str} {e:Ent} (hp:pOk p=true) (he:e∈t) (h1:e.path=p) (h2:e.dir=true):zF t p=true:=by
 unfold zF;have:find t p=some e:=by rw [← h1]; exact jJ hs he
 rw [jt hp,this]; exact h2
theorem MV.ok {t:List Ent} {f tq:Str} (h:MV t f tq):TG (movT t f tq):=by
 obtain ⟨h1,h2⟩:=h.spec;have up:∀ {u:Str} {d:Ent},pOk u=true→d∈t→(movE f tq d).path=u→d.dir=true→zF (movT t f tq) u=true:=fun hu hd hp hdir=>zjJ h1 hu ((h2 _).2 ⟨_,hd,rfl⟩) hp hdir
 refine ⟨?_,h1,?_,?_⟩
 ·have:(movT t f tq).length≤(t.map (movE f tq)).length:=by
   rw [zcZ]; exact Nat.le_trans (ZQ _ _) (by simp)
  have hl:=h.tg.len;rw [List.length_map] at this;omega
 ·intro x hx;obtain ⟨e,he,rfl⟩:=(h2 x).1 hx;have hk:=h.tg.ok e he;simp only [eok,Bool.and_eq_true] at hk ⊢;refine ⟨?_,hk.2⟩;cases hb:blw e.path f with
  | true=>obtain ⟨q1,q2⟩:=h.at he hb; rw [q1]; exact q2
  | false=>rw [h.stay he hb]; exact hk.1
 ·intro x hx;obtain ⟨e,he,rfl⟩:=(h2 x).1 hx;have hpe:=h.tg.path he;cases hb:blw e.path f with
  | false =>
   rw [h.stay he hb];by_cases hr:pUp e.path=[47]
   ·rw [hr]; exact zcy
   obtain ⟨q1,_⟩:=qM hpe hr;have hd:=h.tg.isDir_ent q1 (h.tg.up e he);obtain ⟨d1,d2⟩:=jP hd;have hb2:blw (pUp e.path) f=false:=by
    cases hb3:blw (pUp e.path) f with
    | false=>rfl
    | true =>
     exfalso;have:und e.path f=true:=by
      unfold blw at hb3;simp only [Bool.or_eq_true,beq_iff_eq] at hb3;rcases hb3 with hb3 | hb3
      ·rw [← hb3]; exact qP hpe
      ·exact Zs h.fr hr (qP hpe) hb3
     unfold blw at hb;simp [this] at hb
   refine up q1 d2 ?_ rfl;rw [h.stay d2 hb2]
  | true =>
   obtain ⟨q1,q2⟩:=h.at he hb;rw [q1];unfold blw at hb;simp only [Bool.or_eq_true,beq_iff_eq] at hb;rcases hb with hb | hb
   ·rw [hb];simp only [List.drop_length,List.append_nil];by_cases hr:pUp tq=[47]
    ·rw [hr]; exact zcy
    obtain ⟨g1,_⟩:=qM h.pt hr;have hd:=h.tg.isDir_ent g1 h.up;obtain ⟨d1,d2⟩:=jP hd;have hb2:blw (pUp tq) f=false:=by
     cases hb3:blw (pUp tq) f with
     | false=>rfl
     | true =>
      exfalso;have:und tq f=true:=by
       unfold blw at hb3;simp only [Bool.or_eq_true,beq_iff_eq] at hb3;rcases hb3 with hb3 | hb3
       ·rw [← hb3]; exact qP h.pt
       ·exact Zs h.fr hr (qP h.pt) hb3
      rw [h.nun] at this; cases this
    refine up g1 d2 ?_ rfl;rw [h.stay d2 hb2]
   ·have hu:pUp e.path=f∨(pUp e.path≠[47]∧pOk (pUp e.path)=true∧und (pUp e.path) f=true):=zek hpe h.pf hb;have hr:pUp e.path≠[47]:=by
     rcases hu with hu | hu
     ·rw [hu]; exact h.fr
     ·exact hu.1
    obtain ⟨g1,_⟩:=qM hpe hr;have hd:=h.tg.isDir_ent g1 (h.tg.up e he);obtain ⟨d1,d2⟩:=jP hd;have hb2:blw (pUp e.path) f=true:=by
     unfold blw;rcases hu with hu | hu
     ·simp [hu]
     ·simp [hu.2.2]
    obtain ⟨r,r1,r2⟩:=Ji h.fr hb2;obtain ⟨a,l,a1,a2,_,_,_,_,_,a6⟩:=Zm hpe;have ha:a≠[]:=by rintro rfl; rw [if_pos rfl] at a6; exact hr a6
    rw [if_neg ha] at a6;obtain ⟨z1,z2⟩:=h.at (e:=⟨pUp e.path,true,[]⟩) d2 hb2;have hh:e.path.drop f.length=r++47::l:=by
     rw [a1,← a6,r1,List.append_assoc,List.drop_left]
    have hz:(pUp e.path).drop f.length=r:=by rw [r1,List.drop_left]
    simp only at z1 z2;rw [hz] at z1 z2;have:pUp (tq++e.path.drop f.length)=tq++r:=by
     refine zkB q2 (l:=l) (by rw [hh,List.append_assoc]) a2 ?_;intro e0;rw [e0] at z2;exact absurd z2 (by decide)
    rw [this];exact up z2 d2 z1 rfl
theorem zdp {t:List Ent} {n:Ent} (ht:TG t) (hn:eok n=true) (hup:zF t (pUp n.path)=true) (hd:find t n.path=none∧t.length < 16∨∃ e,find t n.path=some e∧e.dir=false):TG (put t n):=by
 have hp:pOk n.path=true:=by simp only [eok,Bool.and_eq_true] at hn; exact hn.1
 have hs:=yf (e:=n) ht.srt;refine ⟨?_,hs,?_,?_⟩
 ·rcases hd with ⟨_,h⟩ | ⟨e,h1,_⟩
  ·have:=j3 (key:=Ent.path) (t:=t) (e:=n); show (zG Ent.path t n).length≤16; omega
  ·have:(put t n).length≤t.length:=by
    have hn:=Z8 hs;have:=QV (l:=(put t n).map Ent.path) (k:=t.map Ent.path) hn fun x hx=>by
     obtain ⟨y,hy,rfl⟩:=List.mem_map.1 hx;rcases (QQ ht.srt).1 hy with rfl | hy
     ·obtain ⟨q1,q2⟩:=jP h1;rw [← q1]; exact List.mem_map_of_mem q2
     ·exact List.mem_map_of_mem hy.1
    simpa using this
   exact Nat.le_trans this ht.len
 ·intro x hx;rcases (QQ ht.srt).1 hx with rfl | hx
  ·exact hn
  ·exact ht.ok x hx.1
 ·have key:∀ {u:Str},zF t u=true→zF (put t n) u=true:=fun {u} hu=>by
   unfold zF get at hu ⊢;by_cases hr:u=[47]
   ·rw [if_pos hr]; rfl
   rw [if_neg hr] at hu ⊢;have e:find (put t n) u=if n.path=u then some n else find t u:=JC
   rw [e];by_cases hnu:n.path=u
   ·subst hnu;exfalso;rcases hd with ⟨h1,_⟩ | ⟨e,h1,h2⟩
    ·rw [h1] at hu; cases hu
    ·rw [h1] at hu; simp [h2] at hu
   ·rw [if_neg hnu]; exact hu
  intro x hx;rcases (QQ ht.srt).1 hx with rfl | hx
  ·exact key hup
  ·exact key (ht.up x hx.1)
theorem zjb {t:List Ent} (hs:Srt Ent.path t) {p q:Str}:find (offT t p) q=if q=p then none else find t q:=by
 unfold offT;have:=YU (key:=Ent.path) hs (q:=fun e=>e.path != p) (p:=q);show fnd Ent.path _ q=_;rw [this];by_cases h:q=p
 ·subst h;rw [if_pos rfl];cases hf:fnd Ent.path t q with
  | none=>rfl
  | some e=>simp [Option.filter,(qF hf).1]
 ·rw [if_neg h];show _=fnd Ent.path t q;cases hf:fnd Ent.path t q with
  | none=>rfl
  | some e=>simp [Option.filter,(qF hf).1,h]
theorem zkg {t:List Ent} (ht:TG t) {p:Str} (hp:pOk p=true) (hk:kids t p=[]):TG (offT t p):=by
 have hs:Srt Ent.path (offT t p):=Z7 ht.srt _;refine ⟨Nat.le_trans (List.length_filter_le _ _) ht.len,hs,fun e he=>ht.ok e (List.mem_filter.1 he).1,fun e he=>?_⟩;have he':=(List.mem_filter.1 he).1;have hu:=ht.up e he';unfold zF get at hu ⊢;by_cases hr:pUp e.path=[47]
 ·rw [if_pos hr]; rfl
 rw [if_neg hr] at hu ⊢;rw [zjb ht.srt,if_neg ?_]
 ·exact hu
 ·intro h;have:e.path∈(t.filter fun e=>pUp e.path==p).map Ent.path:=List.mem_map_of_mem (List.mem_filter.2 ⟨he',by simp [h]⟩);unfold kids at hk;rw [List.map_eq_nil_iff] at hk;rw [hk] at this; cases this
theorem zig {t:List Ent} {op:Op} (ht:TG t) (ho:jv op=true) (hc:qi t op=0):TG (doT t op):=by
 have hp:=zda ho;unfold qi at hc;unfold doT;by_cases h1:op.kind=1
 ·rw [if_pos h1] at hc ⊢;obtain ⟨a,b,c⟩:=(new0 hp).1 hc;exact zdp ht (by simp [eok,hp]; decide) a (.inl ⟨b,c⟩)
 rw [if_neg h1] at hc ⊢;by_cases h2:op.kind=2
 ·rw [if_pos h2] at hc ⊢;obtain ⟨a,b⟩:=put0 hp hc;exact zdp ht (by simp [eok,hp,(zku ho (by omega)).2.1]) a b
 rw [if_neg h2] at hc ⊢;by_cases h5:op.kind=5
 ·rw [if_pos h5] at hc ⊢;exact (MV.of ht ho h5 hc).ok
 rw [if_neg h5] at hc ⊢;have hk:=zkt ho;obtain ⟨e,_,_,h⟩:=(off0 ht hp (by omega)).1 hc;exact zkg ht hp h
theorem TG.tOk {t:List Ent} (h:TG t):tOk t=true:=JY.2 ⟨h.len,h.srt,h.ok,h.up⟩
theorem JZ {t:List Ent} {op:Op} (ht:tOk t=true) (hc:(zR t op).2=0):jv op=true∧qi t op=0∧(zR t op).1=doT t op∧Go.Proofs.YtmkmldepkponaaaGreatDoor.tOk (doT t op)=true:=by
 unfold zR at hc ⊢;rw [if_pos ht] at hc ⊢;by_cases ho:jv op=true
 ·rw [if_pos ho] at hc ⊢;by_cases h0:qi t op=0
  ·rw [if_pos h0];exact ⟨ho,h0,rfl,(zig (TG.of ht) ho h0).tOk⟩
  ·rw [if_neg h0] at hc; exact absurd hc h0
 ·rw [if_neg ho] at hc; cases hc
end Go.Proofs.YtmkmldepkponaaaGreatDoor

namespace Go.Proofs.YtmkmldepkponaaaGreatDoor
set_option linter.unusedSimpArgs false
set_option linter.unusedVariables false
open Go Go.RowKit
end Go.Proofs.YtmkmldepkponaaaGreatDoor

namespace Go.Proofs.YtmkmldepkponaaaGreatDoor
set_option linter.unusedSimpArgs false
set_option linter.unusedVariables false
open Go Go.RowKit
end Go.Proofs.YtmkmldepkponaaaGreatDoor

namespace Go.Proofs.YtmkmldepkponaaaGreatDoor
set_option linter.unusedSimpArgs false
set_option linter.unusedVariables false
open Go Go.RowKit
def noO:Over:=⟨[],[],[]⟩
def lowG (o:Over):List Ent:=(ja o).getD []
def vwG (o:Over):List Ent:=(jh o).getD []
def oDo (o:Over) (op:Op):Over × Int :=
 if oOk o=true then (if (zR (vwG o) op).2=0 then (⟨o.base,o.layers,diff (lowG o) (zR (vwG o) op).1⟩,0) else (o,(zR (vwG o) op).2)) else (noO,1)
def qs (o:Over):Over × Bool:=if oOk o=true then (if 4≤o.layers.length then (o,false) else (⟨o.base,o.layers++[o.upper],[]⟩,true)) else (noO,false)
def oDrop (o:Over):Over:=if oOk o=true then ⟨o.base,o.layers,[]⟩ else noO
def j8:List Mark→List (List Mark)→Option (List Mark)
 | one,[]=>some one
 | one,l::r=>match j1 l one with
  | some j=>j8 j r
  | none=>none
def yn (o:Over):Option (List Mark):=match o.layers with
 | a::b::r=>j8 a (b::r)
 | _=>none
def qL (o:Over):Over × Bool:=if oOk o=true then (match yn o with
 | some j=>(⟨o.base,[j],o.upper⟩,true)
 | none=>(o,false)) else (noO,false)
def eOC (x:Over × Int):CV := .tup [zL x.1,CI x.2]
def eOB (x:Over × Bool):CV := .tup [zL x.1,CB x.2]
structure OG (o:Over) (t x:List Ent):Prop where
 ok:oOk o=true
 low:ja o=some t
 vw:jh o=some x
 up:o.upper=diff t x
 gt:tOk t=true
 gx:tOk x=true
theorem OG.of {o:Over} (h:oOk o=true):∃ t x,OG o t x:=by
 obtain ⟨t,x,h1,h2,h3⟩:=zc4 h;exact ⟨t,x,h,h1,h2,h3,QN h1,Yg h2⟩
theorem OG.lowG {o:Over} {t x:List Ent} (h:OG o t x):lowG o=t:=by unfold Go.Proofs.YtmkmldepkponaaaGreatDoor.lowG; rw [h.low]; rfl
theorem OG.vwG {o:Over} {t x:List Ent} (h:OG o t x):vwG o=x:=by unfold Go.Proofs.YtmkmldepkponaaaGreatDoor.vwG; rw [h.vw]; rfl
theorem OG.mk' {o:Over} {t x:List Ent} (h1:ja o=some t) (h2:jh o=some x) (h3:o.upper=diff t x):OG o t x :=
 ⟨by unfold oOk; rw [h1,h2]; simp [h3],h1,h2,h3,QN h1,Yg h2⟩
theorem OG.turn {o:Over} {t y:List Ent} (h:ja o=some t) (hy:tOk y=true):OG ⟨o.base,o.layers,diff t y⟩ t y:=by
 have h1:ja ⟨o.base,o.layers,diff t y⟩=some t:=h;refine OG.mk' h1 ?_ rfl;unfold jh;rw [h1];exact zcI (QN h) hy
theorem Yv {t:List Ent} (h:tOk t=true):diff t t=[]:=by
 have:zS t t=[]:=by
  cases hx:zS t t with
  | nil=>rfl
  | cons p l =>
   have:=(Zi (TG.of h) (TG.of h) (p:=p)).1 (by rw [hx]; simp);exact absurd rfl this
 unfold diff; rw [this]; rfl
theorem zjS {t:List Ent} (h:tOk t=true):lOn [] t=some t:=by
 have:=zcI h h
 rwa [Yv h] at this
theorem OG.lay {o:Over} {t x:List Ent} (h:OG o t x):o.layers.length≤4∧lowerA o.layers o.base=some t∧tOk o.base=true:=by
 obtain ⟨a,b,c⟩:=Y9 h.low; exact ⟨b,c,a⟩
theorem OG.on {o:Over} {t x:List Ent} (h:OG o t x):lOn o.upper t=some x:=by
 have:=h.vw; unfold jh at this; rw [h.low] at this; exact this
theorem zee {x:List Ent} {op:Op} (hx:tOk x=true) (h:(zR x op).2≠0):(zR x op).1=x:=by
 unfold zR at h ⊢;rw [if_pos hx] at h ⊢;split
 ·rename_i h1;rw [if_pos h1] at h;split
  ·rename_i h2; rw [if_pos h2] at h; exact absurd rfl h
  ·rfl
 ·rfl
theorem OG.doEq {o:Over} {t x:List Ent} (h:OG o t x) (op:Op):oDo o op=if (zR x op).2=0 then (⟨o.base,o.layers,diff t (zR x op).1⟩,0) else (o,(zR x op).2):=by
 unfold oDo; rw [if_pos h.ok,h.vwG,h.lowG]
theorem OG.do {o:Over} {t x:List Ent} (h:OG o t x) (op:Op):OG (oDo o op).1 t (zR x op).1∧(oDo o op).2=(zR x op).2∧(oDo o op).1.base=o.base∧(oDo o op).1.layers=o.layers∧((zR x op).2≠0→(oDo o op).1=o):=by
 unfold oDo;rw [if_pos h.ok,h.vwG,h.lowG];by_cases hc:(zR x op).2=0
 ·rw [if_pos hc];obtain ⟨_,_,h3,h4⟩:=JZ h.gx hc;refine ⟨?_,hc.symm,rfl,rfl,fun e=>absurd hc e⟩;rw [h3];exact OG.turn h.low h4
 ·rw [if_neg hc];refine ⟨?_,rfl,rfl,rfl,fun _=>rfl⟩;rw [zee h.gx hc]; exact h
theorem OG.push {o:Over} {t x:List Ent} (h:OG o t x) (hl:¬ 4≤o.layers.length):qs o=(⟨o.base,o.layers++[o.upper],[]⟩,true)∧OG ⟨o.base,o.layers++[o.upper],[]⟩ x x:=by
 refine ⟨by unfold qs; rw [if_pos h.ok,if_neg hl],?_⟩;have h1:ja ⟨o.base,o.layers++[o.upper],[]⟩=some x:=by
  unfold ja;simp only;rw [if_pos ⟨h.lay.2.2,by simp; omega⟩,Ze,h.lay.2.1];show lowerA [o.upper] t=some x;rw [lowerA,h.on]; rfl
 refine OG.mk' h1 ?_ (Yv h.gx).symm;unfold jh;rw [h1];exact zjS h.gx
theorem OG.push_no {o:Over} {t x:List Ent} (h:OG o t x) (hl:4≤o.layers.length):qs o=(o,false)∧o.layers.length=4 :=
 ⟨by unfold qs; rw [if_pos h.ok,if_pos hl],by have:=h.lay.1; omega⟩
theorem OG.drop {o:Over} {t x:List Ent} (h:OG o t x):oDrop o=⟨o.base,o.layers,[]⟩∧OG ⟨o.base,o.layers,[]⟩ t t:=by
 refine ⟨by unfold oDrop; rw [if_pos h.ok],?_⟩;have:=OG.turn h.low h.gt
 rwa [Yv h.gt] at this
theorem zb2 {base:List Ent}:∀ {ls:List (List Mark)} {one j:List Mark} {y t:List Ent},j8 one ls=some j→lOn one base=some y→lowerA ls y=some t→lOn j base=some t
 | [],one,j,y,t,h1,h2,h3=>by
  rw [j8] at h1; rw [lowerA] at h3; cases h1; cases h3; exact h2
 | l::r,one,j,y,t,h1,h2,h3=>by
  rw [j8] at h1;rw [lowerA] at h3;cases hj:j1 l one with
  | none=>rw [hj] at h1; cases h1
  | some j' =>
   rw [hj] at h1;have:=zjM hj h2;cases hz:lOn l y with
   | none=>rw [hz] at h3; cases h3
   | some z =>
    rw [hz] at h3 this;exact zb2 h1 this h3
theorem OG.flat {o:Over} {t x:List Ent} (h:OG o t x) {j:List Mark} (hj:yn o=some j):qL o=(⟨o.base,[j],o.upper⟩,true)∧OG ⟨o.base,[j],o.upper⟩ t x∧lOk j=true:=by
 refine ⟨by unfold qL; rw [if_pos h.ok,hj],?_⟩;unfold yn at hj;split at hj
 ·rename_i a b r hl;have hlow:=h.lay.2.1;rw [hl,lowerA] at hlow;cases hy:lOn a o.base with
  | none=>rw [hy] at hlow; cases hlow
  | some y =>
   rw [hy] at hlow;have ho:=zb2 hj hy hlow;have h1:ja ⟨o.base,[j],o.upper⟩=some t:=by
    unfold ja;rw [if_pos ⟨h.lay.2.2,by simp⟩,lowerA,ho]; rfl
   refine ⟨OG.mk' h1 ?_ h.up,(ZY ho).2.1⟩;unfold jh;rw [h1];exact h.on
 ·cases hj
theorem lay0 {l:List Mark} {t t':List Ent} {p:Str} {e:Ent} (h:lOn l t=some t') (hk:kind l p=0) (hf:find t' p=some e):find t p=some e:=by
 obtain ⟨_,h1,h2,rfl⟩:=ZY h;rw [yR (LG.of h1).srt (TG.of h2).srt,(LG.of h1).kind0.1 hk] at hf;simp only at hf;split at hf
 ·cases hf
 ·exact hf
theorem lays0 {p:Str} {e:Ent}:∀ {ls:List (List Mark)} {b t:List Ent},lowerA ls b=some t→(∀ l∈ls,kind l p=0)→find t p=some e→find b p=some e
 | [],b,t,h,_,hf=>by rw [lowerA] at h; cases h; exact hf
 | l::r,b,t,h,hk,hf=>by
  rw [lowerA] at h;cases hz:lOn l b with
  | none=>rw [hz] at h; cases h
  | some z=>rw [hz] at h; exact lay0 hz (hk l (by simp)) (lays0 h (fun l hl=>hk l (by simp [hl])) hf)
theorem zeb {all:List (List Mark)} {p:Str}:∀ {k:Nat},topN all p k=0→∀ j,j < k→kind (all.getD j []) p=0
 | 0,_,j,hj=>by omega
 | k+1,h,j,hj=>by
  rw [topN] at h;split at h
  ·omega
  ·rename_i h1;by_cases hjk:j=k
   ·subst hjk; simpa using h1
   ·exact zeb h j (by omega)
theorem zlP {all:List (List Mark)} {p:Str} {k:Nat} (h:topN all p (k+1)≠k+1):kind (all.getD k []) p=0:=by
 rw [topN] at h;split at h
 ·exact absurd rfl h
 ·rename_i h1; simpa using h1
theorem OG.from {o:Over} {t x:List Ent} (h:OG o t x) {p:Str} {e:Ent} (hg:get x p=some e):(topN (allL o) p (allL o).length=0→get o.base p=some e)∧(topN (allL o) p (allL o).length≠o.layers.length+1→get t p=some e):=by
 have hal:(allL o).length=o.layers.length+1:=by simp [allL]
 unfold get at hg ⊢;by_cases hp:p=[47]
 ·rw [if_pos hp] at hg; rw [if_pos hp,if_pos hp]; exact ⟨fun _=>hg,fun _=>hg⟩
 rw [if_neg hp] at hg;rw [if_neg hp,if_neg hp];have hup:kind o.upper p=0→find t p=some e:=fun hk=>lay0 h.on hk hg
 have hgu:(allL o).getD o.layers.length []=o.upper:=by unfold allL; simp [List.getD]
 refine ⟨fun h0=>?_,fun hn=>?_⟩
 ·have hall:=zeb h0;refine lays0 h.lay.2.1 (fun l hl=>?_) (hup ?_)
  ·obtain ⟨j,hj,rfl⟩:=List.mem_iff_getElem.1 hl;have:=hall j (by omega);have e1:(allL o).getD j []=o.layers[j]:=by unfold allL; simp [List.getD,List.getElem?_append_left hj,hj]
   rwa [e1] at this
  ·have:=hall o.layers.length (by omega)
   rwa [hgu] at this
 ·rw [hal] at hn;have:=zlP hn;rw [hgu] at this;exact hup this
theorem OG.get {o:Over} {t x:List Ent} (h:OG o t x) (p:Str):oGet o p=(Go.Proofs.YtmkmldepkponaaaGreatDoor.get x p).map fun e=>(e,(topN (allL o) p (allL o).length:Int)):=by
 unfold oGet;rw [if_pos h.ok,h.vw];simp only;cases Go.Proofs.YtmkmldepkponaaaGreatDoor.get x p<;>rfl
structure OS (o:Over):Prop where
 b:o.base.length≤17
 n:o.layers.length≤4
 l:∀ l∈o.layers,l.length≤32
 u:o.upper.length≤32
theorem OS.no:OS noO:=⟨by simp [noO],by simp [noO],by simp [noO],by simp [noO]⟩
theorem OG.os {o:Over} {t x:List Ent} (h:OG o t x):OS o:=by
 obtain ⟨h1,h2⟩:=zke h.ok;have hb:=(TG.of h.lay.2.2).len;exact ⟨by omega,h.lay.1,fun l hl=>(zU.1 (h1 l hl)).1,(zU.1 h2).1⟩
theorem OS.ok {o:Over} (h:oOk o=true):OS o:=by obtain ⟨t,x,h⟩:=OG.of h; exact h.os
theorem OS.do {o:Over} (op:Op):OS (oDo o op).1:=by
 by_cases h:oOk o=true
 ·obtain ⟨t,x,h⟩:=OG.of h; exact (h.do op).1.os
 ·unfold oDo; rw [if_neg h]; exact OS.no
theorem OS.push {o:Over}:OS (qs o).1:=by
 by_cases h:oOk o=true
 ·obtain ⟨t,x,h⟩:=OG.of h;by_cases hl:4≤o.layers.length
  ·rw [(h.push_no hl).1]; exact h.os
  ·rw [(h.push hl).1]; exact (h.push hl).2.os
 ·unfold qs; rw [if_neg h]; exact OS.no
theorem OS.flat {o:Over}:OS (qL o).1:=by
 by_cases h:oOk o=true
 ·obtain ⟨t,x,h⟩:=OG.of h;cases hj:yn o with
  | some j=>rw [(h.flat hj).1]; exact (h.flat hj).2.1.os
  | none=>unfold qL; rw [if_pos h.ok,hj]; exact h.os
 ·unfold qL; rw [if_neg h]; exact OS.no
end Go.Proofs.YtmkmldepkponaaaGreatDoor

namespace Go.Proofs.YtmkmldepkponaaaGreatDoor
set_option linter.unusedSimpArgs false
set_option linter.unusedVariables false
open Go Go.RowKit
def zgr:XC:=(.s (.r [.a2 4 1 9]) (.s (.r [.ex 8 .bsl0,.a1 5 8 1 9]) (.s (.r [.m1 6 (.i 0)]) (.s (.s (.r [.m1 7 (.i 0)]) (.blk 0 (.loop (.s (.s (.r [.mv 9 7,.mv 10 0,.ex 11 (.len true 10),.b1 12 .leq 9 11]) (.ce 12 0)) (.s (.blk 1 (.s (.r [.mv 15 7,.mv 16 0,.ex 17 (.len true 16),.b1 18 .eql 15 17,.mv 19 18,.h3 20 0 19,.h3 21 7 19,.gf 22 (.idx 20 21) 19,.h3 23 1 19,.gf 24 (.bin .eql 22 23) 19,.p1 25 19 24]) (.cnd 25 (.s (.r [.mv 26 5,.mv 27 0,.mv 28 6,.mv 29 7,.ex 30 (.sls 27 (.some 28) (.some 29)),.ex 31 (.bsl 1 9 [30]),.ex 32 (.app false 1 16 9 26 31),.a1 5 32 1 9]) (.r [.mv 33 7,.b1 34 .add 33 (.i 1),.mv 6 34])) .skip))) (.ic 13 14 7)))))) (.s (.r [.mv 35 5,.a1 4 35 1 9]) .ret)))))
theorem zgs:zh Tryz.prog [] 176=some (zgr.ac,[(.t 4)],36):=by kernel_rfl
theorem ziC (W0:World) (s:Str) (c:UInt8) (hs:s.length≤1000000):Fn Tryz.prog W0 176 [CS s,CU c.toNat] (.c (jy (cut c s))) []:=by
 refine fX mixed zgs fun hg=>?_
 refine dr ?_;refine lp3 (fun (out:List Str) (fr k:Nat)=>[(0,.c (CS s)),(1,.c (CU c.toNat)),(5,.own 80 out.length),(6,I fr),(7,I k)]) (fun out _ _=>[(80,.row (out.map CS) 1 9)])
  (fun out fr k=>fr≤k∧k≤s.length+1∧(k≤s.length→c ∉ (s.take k).drop fr∧out++cut c (s.drop fr)=cut c s)∧(k=s.length+1→out=cut c s)∧out.length≤k) (fun _ _ k=>s.length+1 - k) [] 0 0 ⟨by simp,by simp,by simp,by simp,by simp⟩ ?_ ?_
 ·refine dr ?_;trivial
 rintro out fr k ⟨h1,h2,h3,h4,h5⟩;refine dr ?_;apply cP<;>intro h6
 ·obtain ⟨h7,h8⟩:=h3 (by omega);refine dr ?_;apply cP<;>intro h9
  ·have hk:k=s.length:=by omega
   refine dr ?_;repeat (refine sBo fr k rfl rfl (by omega) (by omega) ?_; first|refine dr ?_|exact dz)
   refine ⟨out++[(s.take k).drop fr],k+1,k+1,⟨by omega,by omega,by omega,fun _=>?_,by simp; omega⟩,by omega,?_⟩
   ·rw [← h8,Qk (s:=s.drop fr)]
    ·rw [hk,List.take_length]
    ·rw [hk,List.take_length] at h7; exact h7
   ·refine dr ?_;repeat (refine oB (by simp) ?_; first|refine dr ?_|exact dz)
    trivial
  ·have hk:k < s.length:=by omega
   refine dr ?_;apply cP<;>intro h10
   ·have e:s[k]=c:=by
     have:s[k].toNat=c.toNat:=by omega
     exact UInt8.toNat_inj.1 this
    refine dr ?_;repeat (refine sBo fr k rfl rfl (by omega) (by omega) ?_; first|refine dr ?_|exact dz)
    refine ⟨out++[(s.take k).drop fr],k+1,k+1,⟨by omega,by omega,fun h=>⟨?_,?_⟩,fun h=>by omega,by simp; omega⟩,by omega,?_⟩
    ·rw [List.drop_of_length_le (by simp; omega)]; simp
    ·have e2:s.drop fr=(s.take k).drop fr++c::s.drop (k+1):=by
      rw [← e,← List.drop_eq_getElem_cons hk];have:s.drop fr=(s.take k++s.drop k).drop fr:=by rw [List.take_append_drop]
      rw [this,List.drop_append_of_le_length (by simp; omega)]
     rw [e2,Qj _ h7] at h8;rw [← h8]; simp
    ·refine dr ?_;repeat (refine oB (by simp) ?_; first|refine dr ?_|exact dz)
     trivial
   ·have e:s[k]≠c:=by
     intro e; rw [e] at h10; exact h10 rfl
    refine dr ?_;refine ⟨out,fr,k+1,⟨by omega,by omega,fun h=>⟨?_,h8⟩,fun h=>?_,by omega⟩,by omega,?_⟩
    ·rw [List.take_succ_eq_append_getElem hk,List.drop_append_of_le_length (by simp; omega)];simp only [List.mem_append,not_or,List.mem_singleton];exact ⟨h7,fun h=>e h.symm⟩
    ·omega
    ·refine dr ?_;trivial
 ·have hk:k=s.length+1:=by omega
  refine dr ?_;repeat (refine oB (by simp) ?_; first|refine dr ?_|exact dz)
  rw [h4 hk]; rfl
def zgx:XC:=(.s (.r [.a2 2 1 9]) (.s (.s (.r [.mv 3 0,.ex 4 (.len true 3),.b1 5 .lss 4 (.i 2),.mv 6 5,.h3 7 0 6,.gf 8 (.idx 7 (.i 0)) 6,.gf 9 (.bin .neq 8 (.u 47)) 6,.p1 10 6 9]) (.cnd 10 (.s (.r [.ex 11 .bsl0,.a1 2 11 1 9]) .ret) .skip)) (.s (.r [.mv 12 0,.ex 13 (.sls 12 (.some (.i 1)) .none),.c1 14 176 [13,(.u 47)],.a1 2 14 1 9]) .ret)))
theorem zgy:zh Tryz.prog [] 159=some (zgx.ac,[(.t 2)],15):=by kernel_rfl
theorem ziF (W0:World) (s:Str) (hs:s.length≤1000000):Fn Tryz.prog W0 159 [CS s] (.c (jy (names s))) []:=by
 refine fX mixed zgy fun hg=>?_
 refine dr ?_;apply cP<;>intro h1
 ·refine dr ?_;repeat (refine oB (by simp) ?_; first|refine dr ?_|exact dz)
  rw [names,if_pos (.inl (by omega))]; rfl
 ·have hl:2≤s.length:=by omega
  refine dr ?_;apply cP<;>intro h2
  ·refine dr ?_;repeat (refine oB (by simp) ?_; first|refine dr ?_|exact dz)
   have hc:s.head? ≠ some 47:=by
    cases s with
    | nil=>simp at hl
    | cons b t =>
     show some b≠some 47;intro e; cases e; exact h2 rfl
   have e:names s=[]:=by rw [names,if_pos (.inr hc)]
   exact congrArg jy e.symm
  ·have e:s.head? = some 47:=by
    cases s with
    | nil=>simp at hl
    | cons b t =>
     have:b.toNat=47:=by simp at h2; omega
     simp; exact UInt8.toNat_inj.1 (by simpa using this)
   refine dr ?_;repeat ((first|refine sLo 1 rfl (by omega) ?_|refine c0 (ziC W0 _ 47 (by simp; omega)) rfl ?_); first|refine dr ?_|exact dz)
   intro hg1;refine dr ?_;repeat (refine oB (by simp) ?_; first|refine dr ?_|exact dz)
   rw [names,if_neg (by simp [e]; omega),← List.drop_one]
def zgv:XC:=(.s (.r [.m1 2 .n]) (.s (.s (.r [.m1 3 (.i 0)]) (.blk 0 (.loop (.s (.s (.r [.mv 4 3,.mv 5 0,.ex 6 (.len true 5),.b1 7 .lss 4 6]) (.ce 7 0)) (.s (.blk 1 (.s (.r [.mv 10 0,.mv 11 3,.ex 12 (.idx 10 11),.b1 13 .lss 12 (.u 97),.mv 14 13,.h3 15 0 14,.h3 16 3 14,.gf 17 (.idx 15 16) 14,.gf 18 (.bin .gtr 17 (.u 122)) 14,.p1 19 14 18]) (.cnd 19 (.rf 2) .skip))) (.ic 8 9 3)))))) (.s (.r [.mv 20 0,.ex 21 (.len true 20),.b1 22 .geq 21 (.i 1),.mv 23 22,.g3 24 0 23,.gt 25 (.len true 24) 23,.gt 26 (.bin .leq 25 (.i 3)) 23,.p2 27 23 26,.mv 2 27]) .ret)))
theorem zgw:zh Tryz.prog [] 160=some (zgv.ac,[(.t 2)],28):=by kernel_rfl
theorem ziE (W0:World) (s:Str):Fn Tryz.prog W0 160 [CS s] (.c (CB (jg s))) []:=by
 refine fX mixed zgw fun hg=>?_
 have g1:=goodS (hg _ (by simp:CS s∈_));refine dr ?_;refine lp (σ:=Nat) (fun k=>[(0,.c (CS s)),(3,I k)]) (fun _=>[]) (fun k=>k≤s.length∧(s.take k).all jl=true) (fun k=>s.length - k) 0 ⟨by simp,by simp⟩ ?_ ?_
 ·refine dr ?_;trivial
 rintro k ⟨hk,ha⟩;refine dr ?_;apply cP<;>intro h1
 ·have hk':k < s.length:=by omega
  have no:jl s[k]=false→CB false=CB (jg s):=fun h=>bF (by rw [jg,y0 hk' h]; rfl)
  refine dr ?_;apply cP<;>intro h2
  ·refine dr ?_;exact no (by simp [jl]; omega)
  ·refine dr ?_;apply cP<;>intro h3
   ·refine dr ?_;exact no (by simp [jl]; omega)
   ·refine dr ?_;refine ⟨k+1,⟨by omega,qg hk' ha (by simp [jl]; omega)⟩,by omega,?_⟩;refine dr ?_;trivial
 ·have:k=s.length:=by omega
  subst this;rw [List.take_length] at ha;refine dr ?_;apply cP<;>intro h2
  ·refine dr ?_;refine congrArg CB ?_;rw [jg,ha,JG,Bool.eq_iff_iff]; simp; omega
  ·refine dr ?_;exact bF (by rw [jg,ha]; simp; omega)
def zgh:XC:=(.s (.r [.m1 2 .n]) (.s (.s (.r [.mv 5 0,.ex 6 (.len true 5),.b1 7 .gtr 6 (.i 12)]) (.cnd 7 (.rf 2) .skip)) (.s (.r [.mv 8 0,.c1 9 159 [8],.a1 3 9 1 9]) (.s (.s (.r [.m1 4 (.i 0)]) (.blk 0 (.loop (.s (.s (.r [.mv 10 4,.mv 11 3,.n1 12 11,.b1 13 .lss 10 12]) (.ce 13 0)) (.s (.blk 1 (.s (.r [.mv 16 3,.mv 17 4,.i1 18 1 16 17,.l1 19 1 18,.c1 20 160 [19],.u1 21 20]) (.cnd 21 (.rf 2) .skip))) (.ic 14 15 4)))))) (.s (.r [.mv 22 3,.n1 23 22,.b1 24 .geq 23 (.i 1),.mv 25 24,.g3 26 3 25,.gt 27 (.len false 26) 25,.gt 28 (.bin .leq 27 (.i 3)) 25,.p2 29 25 28,.mv 2 29]) .ret)))))
theorem zgi:zh Tryz.prog [] 127=some (zgh.ac,[(.t 2)],30):=by kernel_rfl
theorem qE (W0:World) (s:Str):Fn Tryz.prog W0 127 [CS s] (.c (CB (pOk s))) []:=by
 refine fX mixed zgi fun hg=>?_
 refine dr ?_;apply cP<;>intro h1
 ·refine dr ?_;exact bF (by simp [pOk]; omega)
 refine dr ?_;repeat (refine c0 (ziF W0 s (by omega)) rfl ?_; first|refine dr ?_|exact dz)
 intro hg1;have g1:=jL hg1;refine dr ?_;refine lp (σ:=Nat) (fun k=>[(3,.c (jy (names s))),(4,I k)]) (fun _=>[]) (fun k=>k≤(names s).length∧((names s).take k).all jg=true) (fun k=>(names s).length - k) 0 ⟨by simp,by simp⟩ ?_ ?_
 ·refine dr ?_;trivial
 rintro k ⟨hk,ha⟩;refine dr ?_;apply cP<;>intro h2
 ·refine dr ?_;repeat (refine c0 (ziE W0 _) rfl ?_; first|refine dr ?_|exact dz)
  apply cP<;>intro h3
  ·refine dr ?_;exact bF (by rw [pOk,y0 (by omega) h3]; simp)
  ·refine dr ?_;refine ⟨k+1,⟨by omega,qg (by omega) ha h3⟩,by omega,?_⟩;refine dr ?_;trivial
 ·have:k=(names s).length:=by omega
  subst this;rw [List.take_length] at ha;refine dr ?_;apply cP<;>intro h3
  ·refine dr ?_;refine congrArg CB ?_;rw [pOk,ha,JG,Bool.eq_iff_iff]; simp; omega
  ·refine dr ?_;exact bF (by rw [pOk,ha]; simp; omega)
def zgB:XC:=(.s (.r [.m1 2 (.i 0)]) (.s (.r [.mv 4 0,.ex 5 (.len true 4),.b1 6 .sub 5 (.i 1),.mv 3 6]) (.s (.blk 0 (.loop (.s (.s (.r [.mv 7 3,.b1 8 .gtr 7 (.i 0),.mv 9 8,.g3 10 0 9,.g3 11 3 9,.gt 12 (.idx 10 11) 9,.gt 13 (.bin .neq 12 (.u 47)) 9,.p2 14 9 13]) (.ce 14 0)) (.blk 1 (.r [.mv 15 3,.b1 16 .sub 15 (.i 1),.mv 3 16]))))) (.s (.r [.mv 17 3,.mv 2 17]) .ret))))
theorem zgC:zh Tryz.prog [] 132=some (zgB.ac,[(.t 2)],18):=by kernel_rfl
theorem zbE (W0:World) (a l:Str) (hl:(47:UInt8) ∉ l) (h12:(a++47::l).length≤12):Fn Tryz.prog W0 132 [CS (a++47::l)] (.c (CI a.length)) []:=by
 have hlen:(a++47::l).length=a.length+l.length+1:=by simp; omega
 have h47:∀ (h:a.length < (a++47::l).length),(a++47::l)[a.length]=47:=fun h=>by simp
 have hno:∀ k (h:k < (a++47::l).length),a.length < k→(a++47::l)[k]≠47:=fun k h hk e=>by
  have hm:(a++47::l)[k]? = some 47:=by rw [List.getElem?_eq_getElem h,e]
  rw [List.getElem?_append_right (by omega),show k - a.length=(k - a.length - 1)+1 by omega,List.getElem?_cons_succ] at hm;exact hl (List.mem_of_getElem? hm)
 generalize a++47::l=s at *;refine fX mixed zgC fun hg=>?_
 refine dr ?_;refine lp (σ:=Nat) (fun k=>[(0,.c (CS s)),(3,I k)]) (fun _=>[]) (fun k=>a.length≤k∧k < s.length) (fun k=>k) (s.length - 1) ⟨by omega,by omega⟩ ?_ ?_
 ·refine dr ?_;trivial
 rintro k ⟨h1,h2⟩;refine dr ?_;apply cP<;>intro h3
 ·refine dr ?_;apply cP<;>intro h4
  ·have hk:a.length < k:=by
    rcases Nat.lt_or_ge a.length k with h | h
    ·exact h
    ·have e:k=a.length:=by omega
     subst e;rw [h47 h2] at h4;simp at h4
   refine dr ?_;refine ⟨k - 1,⟨by omega,by omega⟩,by omega,?_⟩;refine dr ?_;trivial
  ·have hk:k=a.length:=by
    have h4':s[k]=47:=by
     have:s[k].toNat=47:=by omega
     exact UInt8.toNat_inj.1 (by simpa using this)
    rcases Nat.lt_or_ge a.length k with h | h
    ·exact absurd h4' (hno k h2 h)
    ·omega
   refine dr ?_;rw [hk]
 ·refine dr ?_;have:k=a.length:=by omega
  rw [this]
def zgj:XC:=(.s (.r [.ex 2 (.mv (.s []))]) (.s (.s (.r [.mv 4 0,.c1 5 127 [4],.u1 6 5]) (.cnd 6 (.s (.r [.ex 2 (.mv (.s []))]) .ret) .skip)) (.s (.r [.mv 7 0,.c1 8 132 [7],.mv 3 8]) (.s (.s (.r [.mv 9 3,.b1 10 .eql 9 (.i 0)]) (.cnd 10 (.s (.r [.ex 2 (.mv (.s [47]))]) .ret) .skip)) (.s (.r [.mv 11 0,.mv 12 3,.ex 13 (.sls 11 .none (.some 12)),.mv 2 13]) .ret)))))
theorem zgk:zh Tryz.prog [] 93=some (zgj.ac,[(.t 2)],14):=by kernel_rfl
theorem qV (W0:World) (s:Str):Fn Tryz.prog W0 93 [CS s] (.c (CS (pUp s))) []:=by
 refine fX mixed zgk fun hg=>?_
 refine dr ?_;repeat (refine c0 (qE W0 s) rfl ?_; first|refine dr ?_|exact dz)
 apply cP<;>intro h1
 ·refine dr ?_;rw [show pUp s=[] by rw [pUp,h1]; rfl]
 obtain ⟨a,l,e,hl,_,_,_,_,_,hu⟩:=Zm h1;have h12:=(j2 h1).2.1;rw [hu];clear hu;subst e;refine dr ?_;repeat (refine c0 (zbE W0 a l hl h12) rfl ?_; first|refine dr ?_|exact dz)
 intro hg1;refine dr ?_;apply cP<;>intro h2
 ·refine dr ?_;have:a=[]:=List.length_eq_zero_iff.1 (by omega);rw [if_pos this]
 ·refine dr ?_;repeat (refine sHi a.length rfl (by simp) ?_; first|refine dr ?_|exact dz)
  rw [if_neg (fun e=>h2 (by simp [e])),List.take_left]
def zgf:XC:=(.s (.r [.ex 2 (.mv (.s []))]) (.s (.s (.r [.mv 3 0,.c1 4 127 [3],.u1 5 4]) (.cnd 5 (.s (.r [.ex 2 (.mv (.s []))]) .ret) .skip)) (.s (.r [.mv 6 0,.mv 7 0,.c1 8 132 [7],.b1 9 .add 8 (.i 1),.ex 10 (.sls 6 (.some 9) .none),.mv 2 10]) .ret)))
theorem zgg:zh Tryz.prog [] 188=some (zgf.ac,[(.t 2)],11):=by kernel_rfl
theorem zi9 (W0:World) (s:Str):Fn Tryz.prog W0 188 [CS s] (.c (CS (Zl s))) []:=by
 refine fX mixed zgg fun hg=>?_
 refine dr ?_;repeat (refine c0 (qE W0 s) rfl ?_; first|refine dr ?_|exact dz)
 apply cP<;>intro h1
 ·refine dr ?_;rw [show Zl s=[] by rw [Zl,h1]; rfl]
 obtain ⟨a,l,e,hl,_,_,_,_,hn,_⟩:=Zm h1;have h12:=(j2 h1).2.1;rw [hn];clear hn;subst e;have hlen:(a++47::l).length=a.length+l.length+1:=by rw [List.length_append,List.length_cons]; omega
 refine dr ?_;repeat ((first|refine c0 (zbE W0 a l hl h12) rfl ?_|refine sLo (a.length+1) rfl (by omega) ?_); first|refine dr ?_|exact dz)
 intro hg1;refine dr ?_;have e2:a++47::l=(a++[47])++l:=by simp
 rw [e2,List.drop_left' (by simp)]
def zgD:XC:=(.s (.r [.m1 4 .n]) (.s (.s (.r [.mv 5 1,.ex 6 (.bin .eql 5 (.s [47]))]) (.cnd 6 (.rt 4) .skip)) (.s (.r [.mv 7 0,.ex 8 (.len true 7),.mv 9 1,.ex 10 (.len true 9),.b1 11 .gtr 8 10,.mv 12 11,.g3 13 0 12,.g3 14 1 12,.gt 15 (.len true 14) 12,.gt 16 (.sls 13 .none (.some 15)) 12,.g3 17 1 12,.gt 18 (.bin .eql 16 17) 12,.p2 19 12 18,.mv 20 19,.g3 21 0 20,.g3 22 1 20,.gt 23 (.len true 22) 20,.gt 24 (.idx 21 23) 20,.gt 25 (.bin .eql 24 (.u 47)) 20,.p2 26 20 25,.mv 4 26]) .ret)))
theorem zgE:zh Tryz.prog [] 162=some (zgD.ac,[(.t 4)],27):=by kernel_rfl
theorem Qv (W0:World) (s d:Str):Fn Tryz.prog W0 162 [CS s,CS d] (.c (CB (und s d))) []:=by
 refine fX mixed zgE fun hg=>?_
 refine dr ?_;apply cP<;>intro h1
 ·refine dr ?_;exact bT (by simp [und,h1])
 have hnd:und s d=(d++[47]).isPrefixOf s:=by simp [und,h1]
 rw [hnd];refine dr ?_;apply cP<;>intro h2;rotate_left
 ·refine dr ?_;refine bF ?_;rw [Bool.eq_false_iff];intro h;have:=(List.isPrefixOf_iff_prefix.1 h).length_le;simp at this; omega
 refine dr ?_;repeat (refine sHi d.length rfl (by omega) ?_; first|refine dr ?_|exact dz)
 apply cP<;>intro h3;rotate_left
 ·refine dr ?_;refine bF ?_;rw [Bool.eq_false_iff];intro h;obtain ⟨r,hr⟩:=List.isPrefixOf_iff_prefix.1 h;apply h3;rw [← hr,List.append_assoc,List.take_left]
 refine dr ?_;have hs:s=d++s[d.length]::s.drop (d.length+1):=by
  rw [← List.drop_eq_getElem_cons (by omega)];conv=>lhs; rw [← List.take_append_drop d.length s,h3]
 refine congrArg CB ?_;rw [ZF,Bool.eq_iff_iff,List.isPrefixOf_iff_prefix];simp only [beq_iff_eq];constructor
 ·intro h;have e:s[d.length]=47:=by
   have:s[d.length].toNat=47:=by omega
   exact UInt8.toNat_inj.1 (by simpa using this)
  rw [e] at hs;exact ⟨s.drop (d.length+1),by rw [hs]; simp⟩
 ·rintro ⟨r,hr⟩;have:s[d.length]? = some 47:=by rw [← hr]; simp
  have e:s[d.length]=47:=by
   rw [List.getElem?_eq_getElem (by omega)] at this; exact Option.some.inj this
  rw [e]; rfl
def zgd:XC:=(.s (.r [.ex 6 (.mv (.s [])),.m1 7 .n]) (.s (.s (.r [.mv 9 0,.c1 10 127 [9],.u1 11 10,.mv 12 11,.h3 13 1 12,.gf 14 (.call 127 [13]) 12,.gf 15 (.un .not 14) 12,.p1 16 12 15,.mv 17 16,.h3 18 2 17,.gf 19 (.call 127 [18]) 17,.gf 20 (.un .not 19) 17,.p1 21 17 20]) (.cnd 21 (.s (.r [.ex 6 (.mv (.s [])),.m1 7 .n]) .ret) .skip)) (.s (.s (.r [.mv 22 0,.mv 23 1,.b1 24 .neq 22 23,.mv 25 24,.g3 26 0 25,.g3 27 1 25,.gt 28 (.call 162 [26,27]) 25,.gt 29 (.un .not 28) 25,.p2 30 25 29]) (.cnd 30 (.s (.r [.mv 31 0,.mv 6 31,.m1 7 .y]) .ret) .skip)) (.s (.r [.mv 32 2,.mv 33 0,.mv 34 1,.ex 35 (.len true 34),.ex 36 (.sls 33 (.some 35) .none),.b1 37 .add 32 36,.mv 8 37]) (.s (.s (.r [.mv 38 8,.c1 39 127 [38],.u1 40 39]) (.cnd 40 (.s (.r [.ex 6 (.mv (.s [])),.m1 7 .n]) .ret) .skip)) (.s (.r [.mv 41 8,.mv 6 41,.m1 7 .y]) .ret))))))
theorem zge:zh Tryz.prog [] 168=some (zgd.ac,[(.t 6),(.t 7)],42):=by kernel_rfl
theorem zbR (W0:World) (s f t:Str):Fn Tryz.prog W0 168 [CS s,CS f,CS t] (.c (eOpt (jp s f t))) []:=by
 refine fX mixed zge fun hg=>?_
 refine dr ?_;repeat (refine c0 (qE W0 s) rfl ?_; first|refine dr ?_|exact dz)
 apply cP<;>intro h1
 ·refine dr ?_;simp [jp,h1,eOpt]
 refine dr ?_;repeat (refine c0 (qE W0 f) rfl ?_; first|refine dr ?_|exact dz)
 apply cP<;>intro h2
 ·refine dr ?_;simp [jp,h2,eOpt]
 refine dr ?_;repeat (refine c0 (qE W0 t) rfl ?_; first|refine dr ?_|exact dz)
 apply cP<;>intro h3
 ·refine dr ?_;simp [jp,h3,eOpt]
 have l1:=(j2 h1).2.1;have l3:=(j2 h3).2.1;have hm:jp s f t=if (s != f&&!und s f)=true then some s else if pOk (t++s.drop f.length)=true then some (t++s.drop f.length) else none:=by rw [jp,if_pos (by simp [h1,h2,h3])]
 have fin:f.length≤s.length→((s != f&&!und s f)=false)→True:=fun _ _=>trivial
 refine dr ?_;apply cP<;>intro h4
 ·refine dr ?_;repeat (refine c0 (Qv W0 s f) rfl ?_; first|refine dr ?_|exact dz)
  apply cP<;>intro h5
  ·refine dr ?_;rw [hm,if_pos (by simp [h4,h5])]; rfl
  ·have hle:f.length≤s.length:=by
    simp only [und,Bool.or_eq_true,beq_iff_eq] at h5;rcases h5 with h5 | h5
    ·have:=j2 h2; rw [h5] at this; simp at this
    ·have:=(List.isPrefixOf_iff_prefix.1 h5).length_le;simp at this; omega
   rw [hm,if_neg (by simp [h5])];refine dr ?_;repeat ((first|refine sLo f.length rfl hle ?_|refine oB (by simp; omega) ?_|refine c0 (qE W0 _) rfl ?_); first|refine dr ?_|exact dz)
   apply cP<;>intro h6
   ·refine dr ?_;rw [if_neg (by rw [h6]; simp)]; rfl
   ·refine dr ?_;rw [if_pos h6]; rfl
 ·subst h4;rw [hm,if_neg (by simp)];refine dr ?_;repeat ((first|refine sLo s.length rfl (Nat.le_refl _) ?_|refine oB (by simp; omega) ?_|refine c0 (qE W0 _) rfl ?_); first|refine dr ?_|exact dz)
  apply cP<;>intro h6
  ·refine dr ?_;rw [if_neg (by rw [h6]; simp)]; rfl
  ·refine dr ?_;rw [if_pos h6]; rfl
end Go.Proofs.YtmkmldepkponaaaGreatDoor
