/- The texts Cm1, Dm1, Dm2, Zj, joined; no condition. -/
import Derived.Test.YtmkmldepkponaaaGreatDoorWfD
import Derived.OpenShut
import Derived.Carry
import Derived.ChangeSame
import Derived.ProofKit
import Derived.Test.YtmkmldepkponaaaGreatDoorRows
import Derived.Test.YtmkmldepkponaaaGreatDoorCards
import Derived.Test.YtmkmldepkponaaaGreatDoorTie
import Derived.Deep.DeepHandedRow
import Derived.Lib.LaidTab
import Derived.Sort.Row
import Derived.JoinedOf
import Derived.JoinedCond

namespace Go.Proofs.YtmkmldepkponaaaGreatDoor
set_option linter.unusedSimpArgs false
set_option linter.unusedVariables false
open Go Go.RowKit Go.WideShapes Go.ChangeShapes Go.ChangeAt
abbrev RC (W:World) (y:CV) (v:Value):Prop:=RepC W (fun _=>False) y v∧v.oneCell'=true
def Opn {H:Type} (enc:TypeId × Value→H) (P:Program) (W:World) (t:TypeId) {α:Type} (f:α→CV):Prop :=
 ∀ (base:Nat) (sp:Nat→Bool) (held:Bool) (fuel:Nat) (cs:List Value) (x:DataW H × List MemPlace),DataW.trod enc P W base sp held fuel t cs=some x→∃ a:α,za (RC W) (f a).cells cs
section
variable {H:Type} {enc:TypeId × Value→H} {P:Program} {W:World}
theorem zmT {t:TypeId} (ht:P.underlying t=some .bool):Opn enc P W t CB:=by
 intro base sp held fuel cs x h;obtain ⟨b,rfl,_⟩:=DataW.trod_bool ht h;exact ⟨b,⟨.sc trivial,rfl⟩,trivial⟩
theorem zmU {t:TypeId} (ht:P.underlying t=some (.int .i64)):Opn enc P W t CI:=by
 intro base sp held fuel cs x h;obtain ⟨n,rfl,_,hw⟩:=DataW.trod_int ht h;refine ⟨n,⟨.sc ?_,rfl⟩,trivial⟩
 simpa [Lit.wf,wfv] using hw
theorem zmV {t:TypeId} (ht:P.underlying t=some .string):Opn enc P W t CS:=by
 intro base sp held fuel cs x h;obtain ⟨s,rfl,_,hs⟩:=DataW.trod_string ht h;exact ⟨s.data.toList,⟨.sc hs,rfl⟩,trivial⟩
theorem QO {a:Addr} (h:a.spot=none) (n:Nat):a.add n=⟨a.block,a.off+n,none⟩:=by
 unfold Addr.add;split
 ·rename_i hn; subst hn; cases a; simp at h; subst h; rfl
 ·rfl
theorem zb7 {α:Type} {R:CV→Value→Prop} {f:α→CV} {sz:Nat} {g:Nat→List Value}:∀ {L:List α} {k:Nat},(∀ i (h:i < L.length),za R (f L[i]).cells (g (k+i))) →
  za R ((L.map f).flatMap CV.cells) ((List.range' k L.length).flatMap g)
 | [],k,_=>trivial
 | a::L,k,h=>by
  simp only [List.map_cons,List.flatMap_cons,List.length_cons,List.range'_succ];refine za.append (h 0 (by simp)) (zb7 (sz:=sz) (k:=k+1) fun i hi=>?_);have:=h (i+1) (by simp; omega);rw [show k+1+i=k+(i+1) by omega]
  simpa using this
theorem zei {α:Type} {q:Nat→α→Prop}:∀ {n:Nat},(∀ i,i < n→∃ a,q i a)→∃ L:List α,L.length=n∧∀ i (h:i < L.length),q i L[i]
 | 0,_=>⟨[],rfl,fun i h=>by simp at h⟩
 | n+1,h=>by
  obtain ⟨L,hl,hq⟩:=zei (n:=n) fun i hi=>h i (by omega)
  obtain ⟨a,ha⟩:=h n (by omega);refine ⟨L++[a],by simp [hl],fun i hi=>?_⟩;by_cases hin:i < L.length
  ·rw [List.getElem_append_left hin]; exact hq i hin
  ·have:i=L.length:=by simp at hi; omega
   subst this;simp only [List.getElem_concat_length];rw [hl]; exact ha
theorem zbu {t e:TypeId} {α:Type} {f:α→CV} (sz:Nat) (ht:P.underlying t=some (.slice e)) (hc:P.cellsOf e=sz) (h0:0 < sz) (hf:∀ a,(f a).cells.length=sz) (he:Opn enc P W e f):Opn enc P W t (fun l:List α => .row (l.map f)):=by
 intro base sp held fuel cs x h;rcases DataW.trod_slice ht h with ⟨rfl,_⟩ | ⟨a,len,cap,elems,rest,n,_,rfl,_,_,hle,hcap,helen,hel,_⟩
 ·exact ⟨[],⟨.nil (Nat.zero_le _),rfl⟩,trivial⟩
 ·rw [hc] at hel;have key:∀ i,i < len→∃ (y:α),∃ cs',cs'.length=sz∧(∀ j,j < sz→W.cell? ((a.add (i * sz)).add j)=cs'[j]?)∧za (RC W) (f y).cells cs':=by
   intro i hi;have h1:=hel i hi;have h2:∃ z,elems[i]? = some z:=⟨elems[i]'(by omega),by simp [helen,hi]⟩;obtain ⟨z,h2⟩:=h2;rw [h2] at h1;obtain ⟨cs',h3,h4⟩:=Option.bind_eq_some_iff.1 h1;obtain ⟨y,hy⟩:=he _ _ _ _ _ _ h4;obtain ⟨_,h5,h6⟩:=World.cells?_some h3;exact ⟨y,cs',h5,h6,hy⟩
  obtain ⟨L,hl,hL⟩:=zei key;refine ⟨L,⟨?_,rfl⟩,trivial⟩;by_cases hne:L=[]
  ·subst hne;simp only [List.length_nil] at hl;subst hl;exact .nil hcap
  ·have hpos:0 < L.length:=List.length_pos_iff.2 hne;have hsp:a.spot=none:=by
    obtain ⟨cs',h5,h6,_⟩:=hL 0 hpos;have:=h6 0 h0;simp only [Nat.zero_mul] at this;have e0:(a.add 0).add 0=a:=by simp [Addr.add]
    rw [e0] at this;have h7:∃ u,cs'[0]? = some u:=⟨cs'[0]'(by omega),by simp [h5,h0]⟩;obtain ⟨u,h7⟩:=h7;rw [h7] at this;unfold World.cell? at this;split at this
    ·split at this
     ·cases this
     ·rename_i hh; simpa using hh
    ·cases this
   let g:Nat→List Value:=fun i=>(List.range sz).map fun j=>(W.cell? ⟨a.block,a.off+(i * sz+j),none⟩).getD undef
   have hg:∀ i (h:i < L.length),za (RC W) (f L[i]).cells (g i)∧∀ j,j < sz→W.cell? ⟨a.block,a.off+(i * sz+j),none⟩=(g i)[j]? := by
    intro i hi;obtain ⟨cs',h5,h6,h7⟩:=hL i hi;have e:g i=cs':=by
     apply List.ext_getElem?;intro j;by_cases hj:j < sz
     ·have:=h6 j hj;rw [QO hsp,QO rfl] at this;simp only [g,List.getElem?_map,List.getElem?_range hj,Option.map_some];rw [show a.off+(i * sz+j)=a.off+i * sz+j by omega,this];have:cs'[j]? = some (cs'[j]'(by omega)):=by simp [h5,hj]
      rw [this]; rfl
     ·rw [List.getElem?_eq_none (by simp [g]; omega),List.getElem?_eq_none (by omega)]
    rw [e];refine ⟨h7,fun j hj=>?_⟩;have:=h6 j hj;rw [QO hsp,QO rfl] at this;rw [← this,show a.off+i * sz+j=a.off+(i * sz+j) by omega]
   have hall:=zb7 (R:=RC W) (f:=f) (sz:=sz) (g:=g) (L:=L) (k:=0) fun i hi=>by simpa using (hg i hi).1
   have hlen:(L.map f).length=len:=by simpa using hl
   have hcell:∀ (m:Nat),m≤L.length→∀ j v,((List.range' 0 m).flatMap g)[j]? = some v→W.cell? ⟨a.block,a.off+j,none⟩=some v:=by
    intro m;induction m with
    | zero=>intro _ j v hv; simp at hv
    | succ m ih =>
     intro hm j v hv;rw [List.range'_concat,List.flatMap_append] at hv;have hln:∀ m,((List.range' 0 m).flatMap g).length=m * sz:=by
      intro m;induction m with
      | zero=>simp
      | succ m ih=>rw [List.range'_concat,List.flatMap_append,List.length_append,ih]; simp [g,Nat.add_mul]
     by_cases hj:j < m * sz
     ·rw [List.getElem?_append_left (by rw [hln]; exact hj)] at hv;exact ih (by omega) j v hv
     ·rw [List.getElem?_append_right (by rw [hln]; omega),hln] at hv;simp only [Nat.zero_add,Nat.one_mul,List.flatMap_cons,List.flatMap_nil,List.append_nil] at hv;have hj2:j - m * sz < sz:=by
       rcases Nat.lt_or_ge (j - m * sz) sz with h' | h'
       ·exact h'
       ·rw [List.getElem?_eq_none (by simp [g]; omega)] at hv; cases hv
      have:=(hg m (by omega)).2 _ hj2;rw [hv,show m * sz+(j - m * sz)=j by omega] at this;exact this
   obtain ⟨ab,ao,asp⟩:=a;simp only at hsp;subst hsp;rw [← hlen];refine .row (sz:=sz) (vs:=(List.range' 0 L.length).flatMap g) (by simpa using hne) h0 (by rw [hlen]; exact hle) hcap (fun h=>h) ?_ hall.length ?_ ?_ fun j v hv=>?_
   ·intro y hy;obtain ⟨b,_,rfl⟩:=List.mem_map.1 hy;exact hf b
   ·intro i y v hy hv;obtain ⟨u,hu,hr⟩:=hall.get i y hy;rw [hv] at hu; cases hu; exact hr.1
   ·intro v hv;obtain ⟨i,hi⟩:=List.mem_iff_getElem?.1 hv;have hlt:i < ((L.map f).flatMap CV.cells).length:=by
     rw [hall.length]; exact (List.getElem?_eq_some_iff.1 hi).1
    obtain ⟨u,hu,hr⟩:=hall.get i _ (List.getElem?_eq_getElem hlt);rw [hi] at hu; cases hu; exact hr.2
   ·exact hcell L.length (Nat.le_refl _) j v hv
def FOpn {H:Type} (enc:TypeId × Value→H) (P:Program) (W:World) (n:Nat) (off:Nat) (fs:List Field) {β:Type} (g:β→List CV):Prop :=
 ∀ (base:Nat) (sp:Nat→Bool) (held:Bool) (fuel:Nat) (cs:List Value),cs.length=n→(∀ f∈fs,∃ x,DataW.trod enc P W base sp held fuel f.type ((cs.drop f.offset).take (P.cellsOf f.type))=some x)→∃ b,za (RC W) (g b) (cs.drop off)
theorem zaS {n off:Nat} (h:n≤off):FOpn enc P W n off [] (fun _:Unit=>[]):=by
 intro base sp held fuel cs hl _;refine ⟨(),?_⟩;rw [List.drop_eq_nil_of_le (by omega)]; trivial
theorem yR {n off:Nat} {fd:Field} {fs:List Field} {α β:Type} {f:α→CV} {g:β→List CV} (k:Nat) (ho:fd.offset=off) (hk:P.cellsOf fd.type=k) (hf:Opn enc P W fd.type f)
  (hr:FOpn enc P W n (off+k) fs g):FOpn enc P W n off (fd::fs) (fun p:α × β=>(f p.1).cells++g p.2):=by
 intro base sp held fuel cs hl h;obtain ⟨x,hx⟩:=h fd (by simp);obtain ⟨a,ha⟩:=hf _ _ _ _ _ _ hx;obtain ⟨b,hb⟩:=hr base sp held fuel cs hl fun f hf=>h f (by simp [hf])
 refine ⟨(a,b),?_⟩;have e:cs.drop off=(cs.drop off).take k++cs.drop (off+k):=by
  rw [← List.drop_drop,List.take_append_drop]
 rw [e];rw [ho,hk] at ha;exact ha.append hb
theorem zbv {t:TypeId} {fs:Array Field} {β:Type} {g:β→List CV} (n:Nat) (ht:P.underlying t=some (.struct fs)) (hn:P.cellsOf t=n) (h:FOpn enc P W n 0 fs.toList g):Opn enc P W t (fun b => .agg (g b)):=by
 intro base sp held fuel cs x hx;obtain ⟨xs,n',_,_,h1,h2,h3⟩:=DataW.trod_struct ht hx;obtain ⟨b,hb⟩:=h base sp held n' cs (by omega) fun f hf=>by
  obtain ⟨i,hi⟩:=List.mem_iff_getElem?.1 hf;have:=h3 i f (by simpa using hi);have hlt:i < xs.length:=by
   rw [h2];have:=(List.getElem?_eq_some_iff.1 hi).1
   simpa using this
  exact ⟨xs[i],by rw [this]; simp [hlt]⟩
 exact ⟨b,hb⟩
theorem zbt {t:TypeId} {α β:Type} {f:α→CV} {g:β→CV} (h:Opn enc P W t f) (j:α→β) (e:∀ a,(g (j a)).cells=(f a).cells):Opn enc P W t g:=by
 intro base sp held fuel cs x hx;obtain ⟨a,ha⟩:=h _ _ _ _ _ _ hx;exact ⟨j a,by rw [e]; exact ha⟩
theorem zgz {t:TypeId} {α:Type} {f:α→CV} {fs:Array Field} (ht:P.underlying t=some (.struct fs)) (h:Opn enc P W t f) {g:α→List CV} (hg:∀ a,f a = .agg (g a)) {base:Nat} {v:Value} {r:Reach} {b2:Nat} (hv:Value.okWide P W r b2 t v)
  {sp:Nat→Bool} {held:Bool} {d:DataW H} {ps:List MemPlace} (hd:DataW.Trod enc P W base sp held t v d ps):∃ a,RepC W (fun _=>False) (f a) v:=by
 unfold Value.okWide at hv;rw [ht] at hv;obtain ⟨cs,rfl,_,_⟩:=hv;obtain ⟨fuel,hx⟩:=hd;obtain ⟨a,ha⟩:=h _ _ _ _ _ _ hx;refine ⟨a,?_⟩;rw [hg] at ha ⊢;have e:(Value.agg cs).cells.toList=cs.toList:=rfl;rw [e] at ha;have:RepC W (fun _=>False) (.agg (g a)) (.agg cs.toList.toArray):=by
  refine .agg ha.length (fun i y u hy hu=>?_) fun u hu=>?_
  ·obtain ⟨u',hu',hr⟩:=ha.get i y hy;rw [hu] at hu'; cases hu'; exact hr.1
  ·obtain ⟨i,hi⟩:=List.mem_iff_getElem?.1 hu;have hlt:i < (g a).length:=by
    rw [show (g a).length=cs.toList.length from ha.length]; exact (List.getElem?_eq_some_iff.1 hi).1
   obtain ⟨u',hu',hr⟩:=ha.get i _ (List.getElem?_eq_getElem hlt);rw [hi] at hu'; cases hu'; exact hr.2
 simpa using this
theorem zls {f:FuncId} {args:List CV} {vs:Array Value} (h:Fn P W f args (.c (CB true)) []) (ha:za (RepC W fun _=>False) args vs.toList) :
  Calls P f vs W fun e W'=>e = .returned (.bool true)∧Below W.heap.size W W':=by
 have hlive:∀ b,¬ zf ⟨fun _=>none,fun _=>False⟩ [] b:=by
  rintro b (hb | ⟨id,hb,_⟩)
  ·exact hb
  ·simp [lk] at hb
 have hm:MemOk ⟨fun _=>none,fun _=>False⟩ [] W:=⟨fun id b hb=>by simp [lk] at hb,fun i j b hi=>by simp [lk] at hi,fun b hb=>hb.elim,fun id b hb=>by simp [lk] at hb⟩;refine (h ⟨fun _=>none,fun _=>False⟩ W vs (Below.refl _ _) (MW.start hm fun b hb=>(hlive b hb).elim) ?_).mono ?_
 ·have key:∀ {args:List CV} {us:List Value},za (RepC W fun _=>False) args us→za (Rep ⟨fun _=>none,fun _=>False⟩ [] W) (args.map .c) us:=by
   intro args;induction args with
   | nil=>intro us h; cases us with | nil=>trivial | cons=>exact h.elim
   | cons a l ih =>
    intro us h;cases us with
    | nil=>exact h.elim
    | cons u us =>
     refine ⟨RepC.rep (h.1.mono fun b o v _ hc=>⟨hlive b,hc⟩),ih h.2⟩
  exact key ha
 ·rintro e W' ⟨v,r,m',κ',rfl,⟨rfl,rfl⟩,h1,h2⟩;refine ⟨?_,?_⟩
  ·have:=Rep.c h2;cases this;rfl
  ·have e:=h1.ext;exact ⟨e.os,e.tape,e.output,e.size,fun k hk=>e.block k hk fun ⟨id,hid,_⟩=>by simp [lk] at hid⟩
theorem zgd (hl:laidOutB P=true) {W':World} (hb:Below W.heap.size W W') {sp:Nat→Bool}:∀ {ts:List TypeId} {vs:List Value} {ds:List (DataW H)} {ps:List MemPlace},(∀ t∈ts,P.readableRec t=true∧t < P.types.size) →
  DataW.TrodAll enc P W 0 (fun _=>true) true ts vs ds ps→(∀ p∈ps,p.block < W.heap.size)→(∀ p∈ps,sp p.block=true)→DataW.TrodAll enc P W' 0 sp true ts vs ds ps
 | [],[],[],ps,_,h,_,_=>h
 | t::ts,v::vs,d::ds,ps,hr,h,hlt,hs=>by
  obtain ⟨p,q,h1,h2,rfl⟩:=h;obtain ⟨h3,h4⟩:=hr t (by simp);exact ⟨p,q,WideElems.Trod_stays hl h3 h4 h1 (fun x hx=>hb.same (hlt x (by simp [hx]))) (fun x hx=>hs x (by simp [hx])),
   zgd hl hb (fun t ht=>hr t (by simp [ht])) h2 (fun x hx=>hlt x (by simp [hx])) (fun x hx=>hs x (by simp [hx])),rfl⟩
 | [],_::_,_,_,_,h,_,_=>h.elim
 | [],[],_::_,_,_,h,_,_=>h.elim
 | _::_,[],_,_,_,h,_,_=>h.elim
 | _::_,_::_,[],_,_,h,_,_=>h.elim
theorem zl7 (hl:laidOutB P=true) {fn:Func} {s:ChangeSpec} {tb:TypeId} {apart fresh handsOn again:Bool} {W':World} {args:Array Value} {ds:List (DataW H)} {before:List MemPlace}
  (hr:(fn.params.toList.all fun t=>P.readableRec t&&decide (t < P.types.size))=true) (hres:fn.resultTypes=#[tb]) (htb:P.underlying tb=some .bool) (hv:s.vars=[])
  (hW:DataW.Whole enc P fn.params.toList s.vars apart W args.toList ds [] before) (hs:s.fn H (ds++[])={ results:=[.lit (.bool true)],args:=ds }) (hb:Below W.heap.size W W') :
  s.post enc P fn apart fresh handsOn again W args (.bool true) W':=by
 have hr:∀ t∈fn.params.toList,P.readableRec t=true∧t < P.types.size:=fun t ht=>by
  have:=List.all_eq_true.1 hr t ht
  simpa using this
 have hlt:∀ p∈before,p.block < W.heap.size:=fun p hp=>hW.lt p hp
 have hW0:=hW;obtain ⟨p,q,hA,hV,hpq,hfz,hnd⟩:=hW;rw [hv] at hV;obtain ⟨_,rfl⟩:=trodVars_none hV;rw [List.append_nil] at hpq;subst hpq;have hbool:∀ (b:Nat) (sp:Nat→Bool) (hd:Bool),DataW.TrodAll enc P W' b sp hd fn.resultTypes.toList ((Value.bool true).resultList fn.resultTypes.size) (s.fn H (ds++[])).results []:=by
  intro b sp hd;rw [hres,hs];exact trodAll_mk1 ⟨1,by simp [DataW.trod,Value.cells,htb]⟩
 have hargs:∀ sp:Nat→Bool,(∀ x∈before,sp x.block=true)→DataW.TrodAll enc P W' 0 sp true fn.params.toList args.toList ds before:=fun sp hsp=>zgd hl hb hr hA hlt hsp
 have hvars:∀ sp,DataW.TrodVars enc P W' sp s.vars [] []:=fun sp=>by rw [hv]; rfl
 refine ⟨ds,[],before,[],before,[],hW0,hbool _ _ _,?_,?_,World.keptBut_mono (fun x hx=>⟨hx,.inr (.inl hx)⟩) (hb.frame (·∈before)),fun _=>⟨fun j t r ht hr'=>?_,(s.fn H (ds++[])).results++ds,[],before,⟨before,[],?_,?_,(List.append_nil _).symm,fun b off hx=>?_,hnd⟩,fun x hx _=>hx⟩⟩
 ·rw [hs]; exact hargs _ fun x hx=>by simpa using hlt x hx
 ·rw [hs]; exact hvars _
 ·rw [hres] at ht hr'
  match j,ht,hr' with
  | 0,ht,hr' =>
   have e1:tb=t:=by simpa using ht
   have e2:Value.bool true=r:=by simpa [Value.resultList] using hr'
   subst e1 e2;simp [Value.okWide,htb,Cell.okWide,Cell.ok]
  | j+1,ht,_=>simp at ht
 ·have:=trodAll_append (hargs (fun _=>true) fun _ _=>rfl) (hbool 0 (fun _=>true) true)
  simpa using this
 ·exact hvars _
 ·rw [hb.frozen (hlt _ hx)]; exact hfz b off hx
end

theorem laidOut:laidOutB Tryz.prog=true:=by kernel_rfl
theorem ownK:ownKnob Tryz.prog.godebug=none:=by kernel_rfl
section
variable {H:Type} {enc:TypeId × Value→H} {W:World}
theorem YL:Opn enc Tryz.prog W 9 CS:=zmV (by kernel_rfl)
theorem zmD:Opn enc Tryz.prog W 4 CB:=zmT (by kernel_rfl)
theorem zmE:Opn enc Tryz.prog W 3 CI:=zmU (by kernel_rfl)
theorem zmy:Opn enc Tryz.prog W 108 zv:=by
 refine zbt (zbv 3 Tryz.underlying108 (by kernel_rfl) (yR 1 rfl (by kernel_rfl) YL (yR 1 rfl (by kernel_rfl) zmD (yR 1 rfl (by kernel_rfl) YL (zaS (by decide))))))
  (fun p=>⟨p.1,p.2.1,p.2.2.1⟩) fun _=>rfl
theorem zmA:Opn enc Tryz.prog W 110 zm:=by
 refine zbt (zbv 3 Tryz.underlying110 (by kernel_rfl) (yR 1 rfl (by kernel_rfl) YL (yR 1 rfl (by kernel_rfl) zmE (yR 1 rfl (by kernel_rfl) YL (zaS (by decide))))))
  (fun p=>⟨p.1,p.2.1,p.2.2.1⟩) fun _=>rfl
theorem zmz:Opn enc Tryz.prog W 36 zj:=zbu 3 (by kernel_rfl) (by kernel_rfl) (by decide) (fun _=>rfl) zmy
theorem zeN:Opn enc Tryz.prog W 38 zd:=zbu 3 (by kernel_rfl) (by kernel_rfl) (by decide) (fun _=>rfl) zmA
theorem zmB:Opn enc Tryz.prog W 37 zT:=zbu 1 (by kernel_rfl) (by kernel_rfl) (by decide) (fun _=>rfl) zeN
theorem zmC:Opn enc Tryz.prog W 40 zY:=by
 refine zbt (zbv 3 Tryz.underlying40 (by kernel_rfl) (yR 1 rfl (by kernel_rfl) zmz (yR 1 rfl (by kernel_rfl) zmB (yR 1 rfl (by kernel_rfl) zeN (zaS (by decide))))))
  (fun p=>⟨p.1,p.2.1,p.2.2.1⟩) fun _=>rfl
end

def zm9:List Value:=[128,191,160,191,128,159,144,191,128,143,0,0,0,0,0,0,0,0,0,0,0,0,0,0,0,0,0,0,0,0,0,0].map fun n:Nat=>Value.int .u8 (n:Int)
def firstCells:List Value:=Go.Pinned.utf8FirstZ.map fun n:Nat=>Value.int .u8 (n:Int)
def laidW (P:Program) (os:Os):World:=Sort.mapBlock (Sort.mapBlock (World.holding P os ⟨#[],#[],[]⟩) 2 fun _=>zm9.toArray) 1 fun _=>firstCells.toArray

open Go Go.RowKit
theorem zl1 {P:Program} {f:FuncId} {fn:Func} {s:ChangeSpec} {c:OpenClaim}
  (h1:(c.wf (OpenSpec.ofChange s))=true)
  (h2:(laidOutB P)=true)
  (h3:(mapsRowed P)=true)
  (h4:(fn.params.all (P.readableRec ·))=true)
  (h5:(namedTie P c.named s.vars)=true)
  (h6:((c.stops==[]))=true)
  (h7:((P.stops==[]))=true)
  (h8:((c.knobs==[]))=true)
  (h9:((P.stopKnobs==[]))=true)
  (h10:((c.inPlace==P.inPlace f))=true)
  (h11:((c.unfollowed==P.unfollowed f))=true)
  (h12:((c.recurses==P.recurses f))=true)
  (h13:((c.named==P.varsNamed f))=true)
  (h14:((c.maps==(fn.params.toList++s.plain.varTypes P).any (P.mapsRec ·)))=true)
  (h15:((c.ifaces==(fn.params.toList++s.plain.varTypes P).any (P.ifacesRec ·)))=true)
  (h16:((c.mapsOut==P.mapsAmong fn.resultTypes.toList))=true)
  (h17:((c.loops==(fn.params.toList++s.plain.varTypes P).any (P.loopsFrom ·)))=true)
  (h18:((c.wideKeys==(fn.params.toList++s.plain.varTypes P++fn.resultTypes.toList).any (P.wideKeysFrom ·)))=true)
  (h19:(s.vars.all (P.varReadable ·))=true)
  (h20:(fn.resultTypes.all (fun t=>P.readableRec t&&decide (t < P.types.size)))=true)
  (h21:((c.ifacesOut==fn.resultTypes.toList.any (P.ifacesRec ·)))=true)
  (h22:((c.loopsOut==fn.resultTypes.toList.any (P.loopsFrom ·)))=true)
  (h23:((c.plainKeys==P.plainKeys))=true)
  (h24:(c.shortTexts.isNone)=true)
  (h25:(P.stopsHeard)=true)
  (h26:(P.mayEnter)=true)
  (h27:((c.lifted==P.liftsFinal))=true)
  (h28:((P.make==some c.make))=true)
  (h29:(c.kinds==[])=true)
  (h30:((c.pinned==c.pinnedBy))=true)
  (h31:((c.veiled==(fn.params.toList++s.plain.varTypes P++fn.resultTypes.toList).any (P.veiledRec ·)))=true)
  (h32:(c.veiledFits P fn.params.toList (fn.params.toList++s.plain.varTypes P++fn.resultTypes.toList))=true)
  (h0:c.domain.isEmpty=true):joinedFacts P f fn s c=true:=by
 unfold joinedFacts;rw [h0,if_pos rfl];rw [h1,h2,h3,h4,h5,h6,h7,h8,h9,h10,h11,h12,h13,h14,h15,h16,h17,h18,h19,h20,h21,h22,h23,h24,h25,h26,h27,h28,h29,h30,h31,h32];rfl
end Go.Proofs.YtmkmldepkponaaaGreatDoor
