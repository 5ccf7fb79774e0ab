/- The texts Qa7, Qa8, Qa9, Pa5, Qz1, Db1, Pc1, Ie0, Be1, Pz1, Be2, Be3, Be4, Be5, Lw0, Shelf, Sh1, Ib1, Sh2, Sh3, Ib2, Ib3, Ib4, Ib5, Ib6, Ic1, Ie1, Ie2, Ie3, Ie4, Lb1, Lx1, Lx2, Lx3, Lx4, Ie5, Lx7, joined; no condition. -/
import Derived.Test.YtmkmldepkponaaaGreatDoorWfC
import Derived.Shelf.Strings.Builder1
import Derived.Shelf.Strings.Builder2
import Derived.Shelf.Strings.OnBuilder
import Derived.Shelf.Small.Bits
import Derived.Shelf.Strconv.Itoa0
import Derived.Shelf.Strings.Search1
import Derived.Shelf.Strings.Search2
import Derived.Shelf.Strings.Search3
import Derived.Shelf.Strings.Count
import Derived.Shelf.LaysM
import Derived.Shelf.Strings.Shaped
import Derived.Shelf.Strings.Split
import Derived.Shelf.Unicode.DecodeSlow
import Derived.Shelf.SlGeneric
import Derived.Shelf.SlSortCmp.NoneTotal
import Derived.Ground.SlsfProg
import Derived.Test.YtmkmldepkponaaaGreatDoorProg
import Derived.Shelf.SlSortCmp.WholeK
import Derived.Laws.Cover1

namespace Go.Proofs.YtmkmldepkponaaaGreatDoor
set_option linter.unusedSimpArgs false
set_option linter.unusedVariables false
open Go Go.RowKit
theorem zop {t:List Ent} {p:Str}:upC2 t p=upC t p:=by
 unfold upC2 upC get;by_cases h:pUp p=[47]
 ·rw [if_pos h,if_pos h]<;>rfl
 ·rw [if_neg h,if_neg h]<;>rfl
theorem QN {t:List Ent} {p:Str}:upC t p=0↔zR t (pUp p)=true:=by rw [← zop]; exact yn
theorem zeS {op:Op} (h:qj op=true):pOk op.path=true:=by
 simp only [qj,Bool.and_eq_true] at h; exact h.2.1
theorem zmR {op:Op} (h:qj op=true):1≤op.kind∧op.kind≤5:=by
 simp only [qj,Bool.and_eq_true,decide_eq_true_eq] at h; exact h.1
theorem op_5 {op:Op} (h:qj op=true) (k:op.kind=5):pOk op.dest=true∧op.data=[]:=by
 simp only [qj,Bool.and_eq_true,k,if_true] at h;exact ⟨h.2.2.1,by simpa using h.2.2.2⟩
theorem zmS {op:Op} (h:qj op=true) (k:op.kind≠5):op.dest=[]∧j2 op.data=true∧(op.kind=2∨op.data=[]):=by
 simp only [qj,Bool.and_eq_true,if_neg k] at h;exact ⟨by simpa using h.2.2.1,h.2.2.2.1,by simpa using h.2.2.2.2⟩
theorem YF {α:Type} {key:α→Str} {t:List α} {e x:α} (hs:Srt key t):x∈zO key t e↔x=e∨(x∈t∧key x≠key e):=by
 rw [Ji (yH hs),Qf];by_cases h:key e=key x
 ·rw [if_pos h];constructor
  ·intro h2; exact .inl (Option.some.inj h2).symm
  ·rintro (rfl | h2)
   ·rfl
   ·exact absurd h.symm h2.2
 ·rw [if_neg h,← Ji hs];constructor
  ·intro h2; exact .inr ⟨h2,fun e=>h e.symm⟩
  ·rintro (rfl | h2)
   ·exact absurd rfl h
   ·exact h2.1
theorem new0 {t:List Ent} {p:Str} (hp:pOk p=true):newC t p=0↔zR t (pUp p)=true∧find t p=none∧t.length < 16:=by
 unfold newC;rw [jy hp];by_cases h:upC t p=0
 ·rw [if_neg (by simp [h])];have h':=QN.1 h;cases hf:find t p with
  | some e=>simp
  | none =>
   simp only [Option.isSome_none,Bool.false_eq_true,if_false];by_cases hl:16≤t.length
   ·rw [if_pos hl]; simp; omega
   ·rw [if_neg hl]; simp [h']; omega
 ·rw [if_pos h];constructor
  ·intro e; exact absurd e h
  ·rintro ⟨e,_⟩; exact absurd (QN.2 e) h
theorem new4 {t:List Ent} {p:Str} (hp:pOk p=true) (h:newC t p=4):zR t (pUp p)=true∧∃ e,find t p=some e:=by
 unfold newC at h;rw [jy hp] at h;split at h
 ·rename_i h1;unfold upC at h;split at h
  ·cases h
  ·split at h<;>cases h
 ·rename_i h1;refine ⟨QN.1 (by simpa using h1),?_⟩;split at h
  ·rename_i h2; exact Option.isSome_iff_exists.1 h2
  ·split at h<;>cases h
theorem put0 {t:List Ent} {p:Str} (hp:pOk p=true) (h:putC t p=0):zR t (pUp p)=true∧((find t p=none∧t.length < 16)∨∃ e,find t p=some e∧e.dir=false):=by
 unfold putC at h;rw [jy hp] at h;split at h
 ·rename_i h1;obtain ⟨h2,e,h3⟩:=new4 hp h1;refine ⟨h2,.inr ⟨e,h3,?_⟩⟩;rw [h3] at h;simp only [Option.getD_some] at h;split at h
  ·cases h
  ·rename_i h4; simpa using h4
 ·have:=(new0 hp).1 h;exact ⟨this.1,.inl this.2⟩
theorem off0 {t:List Ent} {op:Op} (ht:TG t) (hp:pOk op.path=true) (hk:op.kind=3∨op.kind=4):offC t op=0↔∃ e,find t op.path=some e∧e.dir=(op.kind==4)∧kids t op.path=[]:=by
 unfold offC;rw [jy hp];cases hf:find t op.path with
 | none=>simp
 | some e =>
  simp only [Option.some.injEq,exists_eq_left'];have key:(if 0 < (kids t op.path).length then (6:Int) else 0)=0↔kids t op.path=[]:=by
   cases kids t op.path<;>simp
  rcases hk with hk | hk
  ·by_cases hd:e.dir=true
   ·simp [hk,hd]
   ·simp only [Bool.not_eq_true] at hd;rw [if_neg (by simp [hd]),if_neg (by simp [hk]),key];simp [hk,hd]
  ·by_cases hd:e.dir=true
   ·rw [if_neg (by simp [hk]),if_neg (by simp [hd]),key];simp [hk,hd]
   ·simp only [Bool.not_eq_true] at hd;rw [if_neg (by simp [hk]),if_pos ⟨hk,hd⟩];simp [hk,hd]
theorem mov0 {t:List Ent} {op:Op} (hp:pOk op.path=true) (hq:pOk op.dest=true):movC t op=0↔(∃ e,find t op.path=some e)∧zR t (pUp op.dest)=true∧find t op.dest=none∧und op.dest op.path=false∧∀ e∈t,(j9 e.path op.path op.dest).isSome=true:=by
 unfold movC;rw [jy hp,jy hq];cases hf:find t op.path with
 | none=>simp
 | some e =>
  simp only [Option.isSome_some,Bool.true_eq_false,if_false,Option.some.injEq,exists_eq',true_and];by_cases h1:upC t op.dest=0
  ·rw [if_neg (by simp [h1])];have h1':=QN.1 h1;cases hf2:find t op.dest with
   | some e=>simp
   | none =>
    simp only [Option.isSome_none,Bool.false_eq_true,if_false];by_cases h2:und op.dest op.path=true
    ·rw [if_pos h2]; simp [h2]
    ·rw [if_neg h2];simp only [Bool.not_eq_true] at h2;by_cases h3:t.all (fun e=>(j9 e.path op.path op.dest).isSome)=true
     ·rw [if_pos h3]; simp only [h1',h2,true_and,true_iff]; exact List.all_eq_true.1 h3
     ·rw [if_neg h3];constructor
      ·intro h; cases h
      ·rintro ⟨_,_,_,h⟩; exact absurd (List.all_eq_true.2 h) h3
  ·rw [if_pos h1];constructor
   ·intro h; exact absurd h h1
   ·rintro ⟨h,_⟩; exact absurd (QN.2 h) h1
theorem last47 {a a' l l':Str} (h:a++47::l=a'++47::l') (h1:(47:UInt8) ∉ l) (h2:(47:UInt8) ∉ l'):a=a'∧l=l':=by
 rcases List.append_eq_append_iff.1 h with ⟨c,h3,h4⟩ | ⟨c,h3,h4⟩
 ·cases c with
  | nil=>simp at h3 h4; exact ⟨h3.symm,h4⟩
  | cons x c =>
   simp only [List.cons_append,List.cons.injEq] at h4;exact absurd (by rw [h4.2]; simp) h1
 ·cases c with
  | nil=>simp at h3 h4; exact ⟨h3,h4.symm⟩
  | cons x c =>
   simp only [List.cons_append,List.cons.injEq] at h4;exact absurd (by rw [h4.2]; simp) h2
theorem zm3 {s a l:Str} (h:pOk s=true) (e:s=a++47::l) (hl:(47:UInt8) ∉ l) (ha:a≠[]):pUp s=a:=by
 obtain ⟨a',l',h1,h2,_,_,_,_,_,h6⟩:=JB h;obtain ⟨rfl,rfl⟩:=last47 (e.symm.trans h1) hl h2;rw [h6,if_neg ha]
theorem zgl {s d:Str} (hd:d≠[47]) (h:und s d=true):∃ r,s=d++47::r:=by
 unfold und at h;simp only [Bool.or_eq_true,beq_iff_eq,hd,false_or,List.isPrefixOf_iff_prefix] at h;obtain ⟨r,h⟩:=h;exact ⟨r,by rw [← h]; simp⟩
theorem zn3 {d r:Str}:und (d++47::r) d=true:=by
 unfold und;simp only [Bool.or_eq_true,List.isPrefixOf_iff_prefix];exact .inr ⟨r,by simp⟩
def blw (s f:Str):Bool:=s==f||und s f
theorem JU {s f:Str} (hf:f≠[47]) (h:blw s f=true):∃ r,s=f++r∧(r=[]∨∃ q,r=47::q):=by
 unfold blw at h;simp only [Bool.or_eq_true,beq_iff_eq] at h;rcases h with rfl | h
 ·exact ⟨[],by simp,.inl rfl⟩
 ·obtain ⟨r,h⟩:=zgl hf h;exact ⟨47::r,h,.inr ⟨r,rfl⟩⟩
theorem zn2 {f r:Str} (h:r=[]∨∃ q,r=47::q):blw (f++r) f=true:=by
 unfold blw;rcases h with rfl | ⟨q,rfl⟩
 ·simp
 ·rw [zn3]; simp
theorem zm2 {s f tq:Str} (h:blw s f=true) (hm:(j9 s f tq).isSome=true):j9 s f tq=some (tq++s.drop f.length)∧pOk (tq++s.drop f.length)=true:=by
 unfold j9 at hm ⊢;by_cases h1:(pOk s&&pOk f&&pOk tq)=true
 ·rw [if_pos h1] at hm ⊢;have h2:¬ (s != f&&!und s f)=true:=by
   unfold blw at h;by_cases hs:s=f
   ·simp [hs]
   ·simp [hs] at h; simp [h]
  rw [if_neg h2] at hm ⊢;by_cases h3:pOk (tq++s.drop f.length)=true
  ·rw [if_pos h3]; exact ⟨rfl,h3⟩
  ·rw [if_neg h3] at hm; cases hm
 ·rw [if_neg h1] at hm; cases hm
theorem ze0 {s f tq:Str} (hs:pOk s=true) (hf:pOk f=true) (ht:pOk tq=true) (h:blw s f=false):j9 s f tq=some s:=by
 unfold j9;rw [if_pos (by simp [hs,hf,ht]),if_pos];unfold blw at h
 simpa using h
structure MV (t:List Ent) (f tq:Str):Prop where
 tg:TG t
 pf:pOk f=true
 pt:pOk tq=true
 frm:∃ e,find t f=some e
 up:zR t (pUp tq)=true
 free:find t tq=none
 nun:und tq f=false
 all:∀ e∈t,(j9 e.path f tq).isSome=true
theorem MV.of {t:List Ent} {op:Op} (ht:TG t) (ho:qj op=true) (hk:op.kind=5) (h:movC t op=0):MV t op.path op.dest:=by
 have hp:=zeS ho;have hq:=(op_5 ho hk).1;obtain ⟨a,b,c,d,e⟩:=(mov0 hp hq).1 h;exact ⟨ht,hp,hq,a,b,c,d,e⟩
section
variable {t:List Ent} {f tq:Str}
theorem MV.fr (h:MV t f tq):f≠[47]:=ZQ h.pf
theorem MV.at (h:MV t f tq) {e:Ent} (he:e∈t) (hb:blw e.path f=true):(movE f tq e).path=tq++e.path.drop f.length∧pOk (tq++e.path.drop f.length)=true:=by
 obtain ⟨h1,h2⟩:=zm2 hb (h.all e he);exact ⟨by unfold movE; rw [h1]; rfl,h2⟩
theorem MV.stay (h:MV t f tq) {e:Ent} (he:e∈t) (hb:blw e.path f=false):movE f tq e=e:=by
 unfold movE; rw [ze0 (h.tg.path he) h.pf h.pt hb]; rfl
theorem MV.clear (h:MV t f tq) {e:Ent} (he:e∈t):blw e.path tq=false:=by
 cases hb:blw e.path tq with
 | false=>rfl
 | true =>
  unfold blw at hb;simp only [Bool.or_eq_true,beq_iff_eq] at hb;have hf:=h.free;rcases hb with hb | hb
  ·rw [← hb,h.tg.at he] at hf; cases hf
  ·rw [h.tg.anc' (h.tg.at he) h.pt hb] at hf; cases hf
theorem MV.blw_to (h:MV t f tq) {e:Ent} (he:e∈t):blw (movE f tq e).path tq=blw e.path f:=by
 cases hb:blw e.path f with
 | true =>
  rw [(h.at he hb).1];obtain ⟨r,h1,h2⟩:=JU h.fr hb;rw [h1,List.drop_left];exact zn2 h2
 | false=>rw [h.stay he hb]; exact h.clear he
theorem MV.inv (h:MV t f tq) {e:Ent} (he:e∈t):movE tq f (movE f tq e)=e:=by
 cases hb:blw e.path f with
 | true =>
  obtain ⟨h1,h2⟩:=h.at he hb;have hb2:=h.blw_to he;rw [hb,h1] at hb2;obtain ⟨r,h3,h4⟩:=JU h.fr hb;have hd:f++(tq++e.path.drop f.length).drop tq.length=e.path:=by rw [List.drop_left,h3,List.drop_left]
  have hm:j9 (tq++e.path.drop f.length) tq f=some e.path:=by
   unfold j9;rw [if_pos (by simp [h2,h.pf,h.pt]),if_neg,hd,if_pos (h.tg.path he)];unfold blw at hb2;simp only [Bool.or_eq_true,beq_iff_eq] at hb2;rcases hb2 with hb2 | hb2
   ·simp [hb2]
   ·simp [hb2]
  unfold movE at h1 ⊢;simp only at h1;simp only [h1,hm];rfl
 | false =>
  rw [h.stay he hb];unfold movE;rw [ze0 (h.tg.path he) h.pt h.pf (h.clear he)];rfl
theorem MV.inj (h:MV t f tq) {x y:Ent} (hx:x∈t) (hy:y∈t) (e:(movE f tq x).path=(movE f tq y).path):x.path=y.path:=by
 have hb:blw x.path f=blw y.path f:=by rw [← h.blw_to hx,← h.blw_to hy,e]
 cases hb2:blw x.path f with
 | true =>
  rw [(h.at hx hb2).1,(h.at hy (hb▸hb2)).1] at e;have e':=List.append_cancel_left e;obtain ⟨r,h1,_⟩:=JU h.fr hb2;obtain ⟨q,h3,_⟩:=JU h.fr (hb▸hb2);rw [h1,h3,List.drop_left,List.drop_left] at e';rw [h1,h3,e']
 | false=>rw [h.stay hx hb2,h.stay hy (hb▸hb2)] at e; exact e
theorem MV.nodup (h:MV t f tq):((t.map (movE f tq)).map Ent.path).Nodup:=by
 have hn:=y0 h.tg.srt;rw [List.map_map];unfold List.Nodup at hn ⊢;rw [List.pairwise_map] at hn ⊢;exact hn.imp_of_mem fun hx hy hne e=>hne (h.inj hx hy e)
end
theorem zdL {α:Type} {key:α→Str}:∀ {l t:List α},Srt key t→((t++l).map key).Nodup→Srt key (l.foldl (zO key) t)∧∀ x,x∈l.foldl (zO key) t↔x∈t∨x∈l
 | [],t,hs,_=>⟨hs,by simp⟩
 | e::l,t,hs,hn=>by
  have hk:∀ y∈t,key y≠key e:=fun y hy he=>by
   rw [List.map_append] at hn;have:=(List.nodup_append.1 hn).2.2 (key y) (List.mem_map_of_mem hy) (key e) (by simp);exact this he
  have hm:∀ x,x∈zO key t e↔x=e∨x∈t:=fun x=>by
   rw [YF hs];constructor
   ·rintro (h | h)
    ·exact .inl h
    ·exact .inr h.1
   ·rintro (h | h)
    ·exact .inl h
    ·exact .inr ⟨h,hk x h⟩
  have hn2:((zO key t e++l).map key).Nodup:=by
   have hp:((zO key t e).map key).Nodup:=y0 (yH hs);rw [List.map_append] at hn ⊢;rw [List.nodup_append] at hn ⊢;obtain ⟨h1,h2,h3⟩:=hn;rw [List.map_cons,List.nodup_cons] at h2;refine ⟨hp,h2.2,?_⟩;intro a ha b hb;obtain ⟨x,hx,rfl⟩:=List.mem_map.1 ha;rcases (hm x).1 hx with rfl | hx
   ·rintro rfl; exact h2.1 hb
   ·exact h3 _ (List.mem_map_of_mem hx) b (by simp; exact .inr (by simpa using hb))
  obtain ⟨h1,h2⟩:=zdL (yH hs) hn2;refine ⟨h1,fun x=>?_⟩;rw [List.foldl_cons,h2,hm];simp only [List.mem_cons];constructor
  ·rintro ((h | h) | h)
   ·exact .inr (.inl h)
   ·exact .inl h
   ·exact .inr (.inr h)
  ·rintro (h | h | h)
   ·exact .inl (.inr h)
   ·exact .inl (.inl h)
   ·exact .inr h
theorem zeH (t:List Ent) (f tq:Str):movT t f tq=(t.map (movE f tq)).foldl put []:=by
 unfold movT; rw [List.foldl_map]
theorem MV.spec {t:List Ent} {f tq:Str} (h:MV t f tq):Srt Ent.path (movT t f tq)∧∀ x,x∈movT t f tq↔∃ e∈t,movE f tq e=x:=by
 obtain ⟨h1,h2⟩:=zdL (key:=Ent.path) (l:=t.map (movE f tq)) (t:=[]) List.Pairwise.nil (by simpa using h.nodup);rw [zeH];exact ⟨h1,fun x=>by rw [h2]; simp⟩
theorem zlX {t:List Ent} (hs:Srt Ent.path t) {p:Str} {e:Ent} (hp:pOk p=true) (he:e∈t) (h1:e.path=p) (h2:e.dir=true):zR t p=true:=by
 unfold zR;have:find t p=some e:=by rw [← h1]; exact jQ hs he
 rw [jy hp,this]; exact h2
theorem MV.ok {t:List Ent} {f tq:Str} (h:MV t f tq):TG (movT t f tq):=by
 obtain ⟨h1,h2⟩:=h.spec;have up:∀ {u:Str} {d:Ent},pOk u=true→d∈t→(movE f tq d).path=u→d.dir=true→zR (movT t f tq) u=true:=fun hu hd hp hdir=>zlX h1 hu ((h2 _).2 ⟨_,hd,rfl⟩) hp hdir
 refine ⟨?_,h1,?_,?_⟩
 ·have:(movT t f tq).length≤(t.map (movE f tq)).length:=by
   rw [zeH]; exact Nat.le_trans (Jj _ _) (by simp)
  have hl:=h.tg.len;rw [List.length_map] at this;omega
 ·intro x hx;obtain ⟨e,he,rfl⟩:=(h2 x).1 hx;have hk:=h.tg.ok e he;simp only [eok,Bool.and_eq_true] at hk ⊢;refine ⟨?_,hk.2⟩;cases hb:blw e.path f with
  | true=>obtain ⟨q1,q2⟩:=h.at he hb; rw [q1]; exact q2
  | false=>rw [h.stay he hb]; exact hk.1
 ·intro x hx;obtain ⟨e,he,rfl⟩:=(h2 x).1 hx;have hpe:=h.tg.path he;cases hb:blw e.path f with
  | false =>
   rw [h.stay he hb];by_cases hr:pUp e.path=[47]
   ·rw [hr]; exact zd2
   obtain ⟨q1,_⟩:=yh hpe hr;have hd:=h.tg.isDir_ent q1 (h.tg.up e he);obtain ⟨d1,d2⟩:=jX hd;have hb2:blw (pUp e.path) f=false:=by
    cases hb3:blw (pUp e.path) f with
    | false=>rfl
    | true =>
     exfalso;have:und e.path f=true:=by
      unfold blw at hb3;simp only [Bool.or_eq_true,beq_iff_eq] at hb3;rcases hb3 with hb3 | hb3
      ·rw [← hb3]; exact ym hpe
      ·exact ZZ h.fr hr (ym hpe) hb3
     unfold blw at hb;simp [this] at hb
   refine up q1 d2 ?_ rfl;rw [h.stay d2 hb2]
  | true =>
   obtain ⟨q1,q2⟩:=h.at he hb;rw [q1];unfold blw at hb;simp only [Bool.or_eq_true,beq_iff_eq] at hb;rcases hb with hb | hb
   ·rw [hb];simp only [List.drop_length,List.append_nil];by_cases hr:pUp tq=[47]
    ·rw [hr]; exact zd2
    obtain ⟨g1,_⟩:=yh h.pt hr;have hd:=h.tg.isDir_ent g1 h.up;obtain ⟨d1,d2⟩:=jX hd;have hb2:blw (pUp tq) f=false:=by
     cases hb3:blw (pUp tq) f with
     | false=>rfl
     | true =>
      exfalso;have:und tq f=true:=by
       unfold blw at hb3;simp only [Bool.or_eq_true,beq_iff_eq] at hb3;rcases hb3 with hb3 | hb3
       ·rw [← hb3]; exact ym h.pt
       ·exact ZZ h.fr hr (ym h.pt) hb3
      rw [h.nun] at this; cases this
    refine up g1 d2 ?_ rfl;rw [h.stay d2 hb2]
   ·have hu:pUp e.path=f∨(pUp e.path≠[47]∧pOk (pUp e.path)=true∧und (pUp e.path) f=true):=zgi hpe h.pf hb;have hr:pUp e.path≠[47]:=by
     rcases hu with hu | hu
     ·rw [hu]; exact h.fr
     ·exact hu.1
    obtain ⟨g1,_⟩:=yh hpe hr;have hd:=h.tg.isDir_ent g1 (h.tg.up e he);obtain ⟨d1,d2⟩:=jX hd;have hb2:blw (pUp e.path) f=true:=by
     unfold blw;rcases hu with hu | hu
     ·simp [hu]
     ·simp [hu.2.2]
    obtain ⟨r,r1,r2⟩:=JU h.fr hb2;obtain ⟨a,l,a1,a2,_,_,_,_,_,a6⟩:=JB hpe;have ha:a≠[]:=by rintro rfl; rw [if_pos rfl] at a6; exact hr a6
    rw [if_neg ha] at a6;obtain ⟨z1,z2⟩:=h.at (e:=⟨pUp e.path,true,[]⟩) d2 hb2;have hh:e.path.drop f.length=r++47::l:=by
     rw [a1,← a6,r1,List.append_assoc,List.drop_left]
    have hz:(pUp e.path).drop f.length=r:=by rw [r1,List.drop_left]
    simp only at z1 z2;rw [hz] at z1 z2;have:pUp (tq++e.path.drop f.length)=tq++r:=by
     refine zm3 q2 (l:=l) (by rw [hh,List.append_assoc]) a2 ?_;intro e0;rw [e0] at z2;exact absurd z2 (by decide)
    rw [this];exact up z2 d2 z1 rfl
theorem zfb {t:List Ent} {n:Ent} (ht:TG t) (hn:eok n=true) (hup:zR t (pUp n.path)=true) (hd:find t n.path=none∧t.length < 16∨∃ e,find t n.path=some e∧e.dir=false):TG (put t n):=by
 have hp:pOk n.path=true:=by simp only [eok,Bool.and_eq_true] at hn; exact hn.1
 have hs:=yH (e:=n) ht.srt;refine ⟨?_,hs,?_,?_⟩
 ·rcases hd with ⟨_,h⟩ | ⟨e,h1,_⟩
  ·have:=yF (key:=Ent.path) (t:=t) (e:=n); show (zO Ent.path t n).length≤16; omega
  ·have:(put t n).length≤t.length:=by
    have hn:=y0 hs;have:=Qv (l:=(put t n).map Ent.path) (k:=t.map Ent.path) hn fun x hx=>by
     obtain ⟨y,hy,rfl⟩:=List.mem_map.1 hx;rcases (YF ht.srt).1 hy with rfl | hy
     ·obtain ⟨q1,q2⟩:=jX h1;rw [← q1]; exact List.mem_map_of_mem q2
     ·exact List.mem_map_of_mem hy.1
    simpa using this
   exact Nat.le_trans this ht.len
 ·intro x hx;rcases (YF ht.srt).1 hx with rfl | hx
  ·exact hn
  ·exact ht.ok x hx.1
 ·have key:∀ {u:Str},zR t u=true→zR (put t n) u=true:=fun {u} hu=>by
   unfold zR get at hu ⊢;by_cases hr:u=[47]
   ·rw [if_pos hr]; rfl
   rw [if_neg hr] at hu ⊢;have e:find (put t n) u=if n.path=u then some n else find t u:=Qf
   rw [e];by_cases hnu:n.path=u
   ·subst hnu;exfalso;rcases hd with ⟨h1,_⟩ | ⟨e,h1,h2⟩
    ·rw [h1] at hu; cases hu
    ·rw [h1] at hu; simp [h2] at hu
   ·rw [if_neg hnu]; exact hu
  intro x hx;rcases (YF ht.srt).1 hx with rfl | hx
  ·exact key hup
  ·exact key (ht.up x hx.1)
theorem zlq {t:List Ent} (hs:Srt Ent.path t) {p q:Str}:find (offT t p) q=if q=p then none else find t q:=by
 unfold offT;have:=zaQ (key:=Ent.path) hs (q:=fun e=>e.path != p) (p:=q);show fnd Ent.path _ q=_;rw [this];by_cases h:q=p
 ·subst h;rw [if_pos rfl];cases hf:fnd Ent.path t q with
  | none=>rfl
  | some e=>simp [Option.filter,(qY hf).1]
 ·rw [if_neg h];show _=fnd Ent.path t q;cases hf:fnd Ent.path t q with
  | none=>rfl
  | some e=>simp [Option.filter,(qY hf).1,h]
theorem zmF {t:List Ent} (ht:TG t) {p:Str} (hp:pOk p=true) (hk:kids t p=[]):TG (offT t p):=by
 have hs:Srt Ent.path (offT t p):=ZV ht.srt _;refine ⟨Nat.le_trans (List.length_filter_le _ _) ht.len,hs,fun e he=>ht.ok e (List.mem_filter.1 he).1,fun e he=>?_⟩;have he':=(List.mem_filter.1 he).1;have hu:=ht.up e he';unfold zR get at hu ⊢;by_cases hr:pUp e.path=[47]
 ·rw [if_pos hr]; rfl
 rw [if_neg hr] at hu ⊢;rw [zlq ht.srt,if_neg ?_]
 ·exact hu
 ·intro h;have:e.path∈(t.filter fun e=>pUp e.path==p).map Ent.path:=List.mem_map_of_mem (List.mem_filter.2 ⟨he',by simp [h]⟩);unfold kids at hk;rw [List.map_eq_nil_iff] at hk;rw [hk] at this; cases this
theorem zkk {t:List Ent} {op:Op} (ht:TG t) (ho:qj op=true) (hc:y7 t op=0):TG (doT t op):=by
 have hp:=zeS ho;unfold y7 at hc;unfold doT;by_cases h1:op.kind=1
 ·rw [if_pos h1] at hc ⊢;obtain ⟨a,b,c⟩:=(new0 hp).1 hc;exact zfb ht (by simp [eok,hp]; decide) a (.inl ⟨b,c⟩)
 rw [if_neg h1] at hc ⊢;by_cases h2:op.kind=2
 ·rw [if_pos h2] at hc ⊢;obtain ⟨a,b⟩:=put0 hp hc;exact zfb ht (by simp [eok,hp,(zmS ho (by omega)).2.1]) a b
 rw [if_neg h2] at hc ⊢;by_cases h5:op.kind=5
 ·rw [if_pos h5] at hc ⊢;exact (MV.of ht ho h5 hc).ok
 rw [if_neg h5] at hc ⊢;have hk:=zmR ho;obtain ⟨e,_,_,h⟩:=(off0 ht hp (by omega)).1 hc;exact zmF ht hp h
theorem TG.tOk {t:List Ent} (h:TG t):tOk t=true:=QK.2 ⟨h.len,h.srt,h.ok,h.up⟩
theorem zb1 {t:List Ent} {op:Op} (ht:tOk t=true) (hc:(jE t op).2=0):qj op=true∧y7 t op=0∧(jE t op).1=doT t op∧Go.Proofs.YtmkmldepkponaaaGreatDoor.tOk (doT t op)=true:=by
 unfold jE at hc ⊢;rw [if_pos ht] at hc ⊢;by_cases ho:qj op=true
 ·rw [if_pos ho] at hc ⊢;by_cases h0:y7 t op=0
  ·rw [if_pos h0];exact ⟨ho,h0,rfl,(zkk (TG.of ht) ho h0).tOk⟩
  ·rw [if_neg h0] at hc; exact absurd hc h0
 ·rw [if_neg ho] at hc; cases hc
end Go.Proofs.YtmkmldepkponaaaGreatDoor

namespace Go.Proofs.YtmkmldepkponaaaGreatDoor
set_option linter.unusedSimpArgs false
set_option linter.unusedVariables false
open Go Go.RowKit
end Go.Proofs.YtmkmldepkponaaaGreatDoor

namespace Go.Proofs.YtmkmldepkponaaaGreatDoor
set_option linter.unusedSimpArgs false
set_option linter.unusedVariables false
open Go Go.RowKit
theorem zep:∀ {a:List (List Mark)} {t t':List Ent},lowerA a t=some t'→∀ l∈a,lOk l=true
 | [],_,_,_,l,hl=>by cases hl
 | x::a,t,t',h,l,hl=>by
  rw [lowerA] at h;cases h1:lOn x t with
  | none=>rw [h1] at h; cases h
  | some y =>
   rw [h1] at h;rcases List.mem_cons.1 hl with rfl | hl
   ·exact (Jt h1).2.1
   ·exact zep h l hl
theorem zeo {o:Over} {t:List Ent} (h:jk o=some t):tOk o.base=true∧o.layers.length≤4∧lowerA o.layers o.base=some t:=by
 unfold jk at h;split at h
 ·rename_i hc; exact ⟨hc.1,hc.2,h⟩
 ·cases h
theorem zmx {o:Over} (h:oOk o=true):(∀ l∈o.layers,lOk l=true)∧lOk o.upper=true:=by
 obtain ⟨t,x,h1,h2,_⟩:=zeL h;refine ⟨zep (zeo h1).2.2,?_⟩;unfold jO at h2;rw [h1] at h2;exact (Jt h2).2.1
theorem zl0 {a b j:List Mark} {t x:List Ent} (hj:jp a b=some j) (hx:lOn b t=some x):lOn j t=lOn a x:=by
 obtain ⟨h1,h2,rfl,h4⟩:=zl5 hj;obtain ⟨h5,_,h6,rfl⟩:=Jt hx;have h7:=Ju hx;unfold lOn;rw [if_pos (show (lOk (jS a b)&&tOk t)=true by simp [h4,h6]),if_pos (show (lOk a&&tOk (jj b t))=true by simp [h1,h7]),zmN (LG.of h1) (LG.of h2) (TG.of h6).srt]
end Go.Proofs.YtmkmldepkponaaaGreatDoor

namespace Go.Proofs.YtmkmldepkponaaaGreatDoor
set_option linter.unusedSimpArgs false
set_option linter.unusedVariables false
open Go Go.RowKit
def noO:Over:=⟨[],[],[]⟩
def lowG (o:Over):List Ent:=(jk o).getD []
def vwG (o:Over):List Ent:=(jO o).getD []
def oDo (o:Over) (op:Op):Over × Int :=
 if oOk o=true then (if (jE (vwG o) op).2=0 then (⟨o.base,o.layers,diff (lowG o) (jE (vwG o) op).1⟩,0) else (o,(jE (vwG o) op).2)) else (noO,1)
def Zk (o:Over):Over × Bool:=if oOk o=true then (if 4≤o.layers.length then (o,false) else (⟨o.base,o.layers++[o.upper],[]⟩,true)) else (noO,false)
def oDrop (o:Over):Over:=if oOk o=true then ⟨o.base,o.layers,[]⟩ else noO
def jH:List Mark→List (List Mark)→Option (List Mark)
 | one,[]=>some one
 | one,l::r=>match jp l one with
  | some j=>jH j r
  | none=>none
def j3 (o:Over):Option (List Mark):=match o.layers with
 | a::b::r=>jH a (b::r)
 | _=>none
def j5 (o:Over):Over × Bool:=if oOk o=true then (match j3 o with
 | some j=>(⟨o.base,[j],o.upper⟩,true)
 | none=>(o,false)) else (noO,false)
def eOB (x:Over × Bool):CV := .tup [zY x.1,CB x.2]
structure OG (o:Over) (t x:List Ent):Prop where
 ok:oOk o=true
 low:jk o=some t
 vw:jO o=some x
 up:o.upper=diff t x
 gt:tOk t=true
 gx:tOk x=true
theorem OG.of {o:Over} (h:oOk o=true):∃ t x,OG o t x:=by
 obtain ⟨t,x,h1,h2,h3⟩:=zeL h;exact ⟨t,x,h,h1,h2,h3,YA h1,zb4 h2⟩
theorem OG.lowG {o:Over} {t x:List Ent} (h:OG o t x):lowG o=t:=by unfold Go.Proofs.YtmkmldepkponaaaGreatDoor.lowG; rw [h.low]; rfl
theorem OG.vwG {o:Over} {t x:List Ent} (h:OG o t x):vwG o=x:=by unfold Go.Proofs.YtmkmldepkponaaaGreatDoor.vwG; rw [h.vw]; rfl
theorem OG.mk' {o:Over} {t x:List Ent} (h1:jk o=some t) (h2:jO o=some x) (h3:o.upper=diff t x):OG o t x :=
 ⟨by unfold oOk; rw [h1,h2]; simp [h3],h1,h2,h3,YA h1,zb4 h2⟩
theorem OG.turn {o:Over} {t y:List Ent} (h:jk o=some t) (hy:tOk y=true):OG ⟨o.base,o.layers,diff t y⟩ t y:=by
 have h1:jk ⟨o.base,o.layers,diff t y⟩=some t:=h;refine OG.mk' h1 ?_ rfl;unfold jO;rw [h1];exact zeg (YA h) hy
theorem zav {t:List Ent} (h:tOk t=true):diff t t=[]:=by
 have:z6 t t=[]:=by
  cases hx:z6 t t with
  | nil=>rfl
  | cons p l =>
   have:=(ZN (TG.of h) (TG.of h) (p:=p)).1 (by rw [hx]; simp);exact absurd rfl this
 unfold diff; rw [this]; rfl
theorem zl6 {t:List Ent} (h:tOk t=true):lOn [] t=some t:=by
 have:=zeg h h
 rwa [zav h] at this
theorem OG.lay {o:Over} {t x:List Ent} (h:OG o t x):o.layers.length≤4∧lowerA o.layers o.base=some t∧tOk o.base=true:=by
 obtain ⟨a,b,c⟩:=zeo h.low; exact ⟨b,c,a⟩
theorem OG.on {o:Over} {t x:List Ent} (h:OG o t x):lOn o.upper t=some x:=by
 have:=h.vw; unfold jO at this; rw [h.low] at this; exact this
theorem zon {x:List Ent} {op:Op} (hx:tOk x=true) (h:(jE x op).2≠0):(jE x op).1=x:=by
 unfold jE at h ⊢;rw [if_pos hx] at h ⊢;split
 ·rename_i h1;rw [if_pos h1] at h;split
  ·rename_i h2; rw [if_pos h2] at h; exact absurd rfl h
  ·rfl
 ·rfl
theorem OG.doEq {o:Over} {t x:List Ent} (h:OG o t x) (op:Op):oDo o op=if (jE x op).2=0 then (⟨o.base,o.layers,diff t (jE x op).1⟩,0) else (o,(jE x op).2):=by
 unfold oDo; rw [if_pos h.ok,h.vwG,h.lowG]
theorem OG.do {o:Over} {t x:List Ent} (h:OG o t x) (op:Op):OG (oDo o op).1 t (jE x op).1∧(oDo o op).2=(jE x op).2∧(oDo o op).1.base=o.base∧(oDo o op).1.layers=o.layers∧((jE x op).2≠0→(oDo o op).1=o):=by
 unfold oDo;rw [if_pos h.ok,h.vwG,h.lowG];by_cases hc:(jE x op).2=0
 ·rw [if_pos hc];obtain ⟨_,_,h3,h4⟩:=zb1 h.gx hc;refine ⟨?_,hc.symm,rfl,rfl,fun e=>absurd hc e⟩;rw [h3];exact OG.turn h.low h4
 ·rw [if_neg hc];refine ⟨?_,rfl,rfl,rfl,fun _=>rfl⟩;rw [zon h.gx hc]; exact h
theorem OG.push {o:Over} {t x:List Ent} (h:OG o t x) (hl:¬ 4≤o.layers.length):Zk o=(⟨o.base,o.layers++[o.upper],[]⟩,true)∧OG ⟨o.base,o.layers++[o.upper],[]⟩ x x:=by
 refine ⟨by unfold Zk; rw [if_pos h.ok,if_neg hl],?_⟩;have h1:jk ⟨o.base,o.layers++[o.upper],[]⟩=some x:=by
  unfold jk;simp only;rw [if_pos ⟨h.lay.2.2,by simp; omega⟩,Jw,h.lay.2.1];show lowerA [o.upper] t=some x;rw [lowerA,h.on]; rfl
 refine OG.mk' h1 ?_ (zav h.gx).symm;unfold jO;rw [h1];exact zl6 h.gx
theorem OG.push_no {o:Over} {t x:List Ent} (h:OG o t x) (hl:4≤o.layers.length):Zk o=(o,false)∧o.layers.length=4 :=
 ⟨by unfold Zk; rw [if_pos h.ok,if_pos hl],by have:=h.lay.1; omega⟩
theorem OG.drop {o:Over} {t x:List Ent} (h:OG o t x):oDrop o=⟨o.base,o.layers,[]⟩∧OG ⟨o.base,o.layers,[]⟩ t t:=by
 refine ⟨by unfold oDrop; rw [if_pos h.ok],?_⟩;have:=OG.turn h.low h.gt
 rwa [zav h.gt] at this
theorem zdu {base:List Ent}:∀ {ls:List (List Mark)} {one j:List Mark} {y t:List Ent},jH one ls=some j→lOn one base=some y→lowerA ls y=some t→lOn j base=some t
 | [],one,j,y,t,h1,h2,h3=>by
  rw [jH] at h1; rw [lowerA] at h3; cases h1; cases h3; exact h2
 | l::r,one,j,y,t,h1,h2,h3=>by
  rw [jH] at h1;rw [lowerA] at h3;cases hj:jp l one with
  | none=>rw [hj] at h1; cases h1
  | some j' =>
   rw [hj] at h1;have:=zl0 hj h2;cases hz:lOn l y with
   | none=>rw [hz] at h3; cases h3
   | some z =>
    rw [hz] at h3 this;exact zdu h1 this h3
theorem OG.flat {o:Over} {t x:List Ent} (h:OG o t x) {j:List Mark} (hj:j3 o=some j):j5 o=(⟨o.base,[j],o.upper⟩,true)∧OG ⟨o.base,[j],o.upper⟩ t x∧lOk j=true:=by
 refine ⟨by unfold j5; rw [if_pos h.ok,hj],?_⟩;unfold j3 at hj;split at hj
 ·rename_i a b r hl;have hlow:=h.lay.2.1;rw [hl,lowerA] at hlow;cases hy:lOn a o.base with
  | none=>rw [hy] at hlow; cases hlow
  | some y =>
   rw [hy] at hlow;have ho:=zdu hj hy hlow;have h1:jk ⟨o.base,[j],o.upper⟩=some t:=by
    unfold jk;rw [if_pos ⟨h.lay.2.2,by simp⟩,lowerA,ho]; rfl
   refine ⟨OG.mk' h1 ?_ h.up,(Jt ho).2.1⟩;unfold jO;rw [h1];exact h.on
 ·cases hj
theorem lay0 {l:List Mark} {t t':List Ent} {p:Str} {e:Ent} (h:lOn l t=some t') (hk:kind l p=0) (hf:find t' p=some e):find t p=some e:=by
 obtain ⟨_,h1,h2,rfl⟩:=Jt h;rw [Zo (LG.of h1).srt (TG.of h2).srt,(LG.of h1).kind0.1 hk] at hf;simp only at hf;split at hf
 ·cases hf
 ·exact hf
theorem lays0 {p:Str} {e:Ent}:∀ {ls:List (List Mark)} {b t:List Ent},lowerA ls b=some t→(∀ l∈ls,kind l p=0)→find t p=some e→find b p=some e
 | [],b,t,h,_,hf=>by rw [lowerA] at h; cases h; exact hf
 | l::r,b,t,h,hk,hf=>by
  rw [lowerA] at h;cases hz:lOn l b with
  | none=>rw [hz] at h; cases h
  | some z=>rw [hz] at h; exact lay0 hz (hk l (by simp)) (lays0 h (fun l hl=>hk l (by simp [hl])) hf)
theorem zgb {all:List (List Mark)} {p:Str}:∀ {k:Nat},topN all p k=0→∀ j,j < k→kind (all.getD j []) p=0
 | 0,_,j,hj=>by omega
 | k+1,h,j,hj=>by
  rw [topN] at h;split at h
  ·omega
  ·rename_i h1;by_cases hjk:j=k
   ·subst hjk; simpa using h1
   ·exact zgb h j (by omega)
theorem zol {all:List (List Mark)} {p:Str} {k:Nat} (h:topN all p (k+1)≠k+1):kind (all.getD k []) p=0:=by
 rw [topN] at h;split at h
 ·exact absurd rfl h
 ·rename_i h1; simpa using h1
theorem OG.from {o:Over} {t x:List Ent} (h:OG o t x) {p:Str} {e:Ent} (hg:get x p=some e):(topN (allL o) p (allL o).length=0→get o.base p=some e)∧(topN (allL o) p (allL o).length≠o.layers.length+1→get t p=some e):=by
 have hal:(allL o).length=o.layers.length+1:=by simp [allL]
 unfold get at hg ⊢;by_cases hp:p=[47]
 ·rw [if_pos hp] at hg; rw [if_pos hp,if_pos hp]; exact ⟨fun _=>hg,fun _=>hg⟩
 rw [if_neg hp] at hg;rw [if_neg hp,if_neg hp];have hup:kind o.upper p=0→find t p=some e:=fun hk=>lay0 h.on hk hg
 have hgu:(allL o).getD o.layers.length []=o.upper:=by unfold allL; simp [List.getD]
 refine ⟨fun h0=>?_,fun hn=>?_⟩
 ·have hall:=zgb h0;refine lays0 h.lay.2.1 (fun l hl=>?_) (hup ?_)
  ·obtain ⟨j,hj,rfl⟩:=List.mem_iff_getElem.1 hl;have:=hall j (by omega);have e1:(allL o).getD j []=o.layers[j]:=by unfold allL; simp [List.getD,List.getElem?_append_left hj,hj]
   rwa [e1] at this
  ·have:=hall o.layers.length (by omega)
   rwa [hgu] at this
 ·rw [hal] at hn;have:=zol hn;rw [hgu] at this;exact hup this
theorem OG.get {o:Over} {t x:List Ent} (h:OG o t x) (p:Str):oGet o p=(Go.Proofs.YtmkmldepkponaaaGreatDoor.get x p).map fun e=>(e,(topN (allL o) p (allL o).length:Int)):=by
 unfold oGet;rw [if_pos h.ok,h.vw];simp only;cases Go.Proofs.YtmkmldepkponaaaGreatDoor.get x p<;>rfl
structure OS (o:Over):Prop where
 b:o.base.length≤17
 n:o.layers.length≤4
 l:∀ l∈o.layers,l.length≤32
 u:o.upper.length≤32
theorem OS.no:OS noO:=⟨by simp [noO],by simp [noO],by simp [noO],by simp [noO]⟩
theorem OG.os {o:Over} {t x:List Ent} (h:OG o t x):OS o:=by
 obtain ⟨h1,h2⟩:=zmx h.ok;have hb:=(TG.of h.lay.2.2).len;exact ⟨by omega,h.lay.1,fun l hl=>(zV.1 (h1 l hl)).1,(zV.1 h2).1⟩
theorem OS.ok {o:Over} (h:oOk o=true):OS o:=by obtain ⟨t,x,h⟩:=OG.of h; exact h.os
theorem OS.do {o:Over} (op:Op):OS (oDo o op).1:=by
 by_cases h:oOk o=true
 ·obtain ⟨t,x,h⟩:=OG.of h; exact (h.do op).1.os
 ·unfold oDo; rw [if_neg h]; exact OS.no
theorem OS.push {o:Over}:OS (Zk o).1:=by
 by_cases h:oOk o=true
 ·obtain ⟨t,x,h⟩:=OG.of h;by_cases hl:4≤o.layers.length
  ·rw [(h.push_no hl).1]; exact h.os
  ·rw [(h.push hl).1]; exact (h.push hl).2.os
 ·unfold Zk; rw [if_neg h]; exact OS.no
theorem OS.flat {o:Over}:OS (j5 o).1:=by
 by_cases h:oOk o=true
 ·obtain ⟨t,x,h⟩:=OG.of h;cases hj:j3 o with
  | some j=>rw [(h.flat hj).1]; exact (h.flat hj).2.1.os
  | none=>unfold j5; rw [if_pos h.ok,hj]; exact h.os
 ·unfold j5; rw [if_neg h]; exact OS.no
end Go.Proofs.YtmkmldepkponaaaGreatDoor

namespace Go.Proofs.YtmkmldepkponaaaGreatDoor
set_option linter.unusedSimpArgs false
set_option linter.unusedVariables false
open Go Go.RowKit
def zP (c:UInt8):Str:=[47,122,c]
def XZ (c:UInt8) (t:List Ent):Prop:=∀ e∈t,e.path≠zP c
def XA (c:UInt8) (l:List Mark):Prop:=∀ m∈l,m.path≠zP c
structure XO (c:UInt8) (o:Over):Prop where
 b:XZ c o.base
 l:∀ l∈o.layers,XA c l
 u:XA c o.upper
section
variable {c:UInt8} {t:List Ent} {l:List Mark} {o:Over}
theorem XZ.nil:XZ c []:=fun e he=>by cases he
theorem XA.nil:XA c []:=fun e he=>by cases he
theorem XO.no:XO c noO:=⟨.nil,(fun l hl=>by cases hl),.nil⟩
theorem XZ.find (h:XZ c t):find t (zP c)=none:=by
 unfold Go.Proofs.YtmkmldepkponaaaGreatDoor.find;rw [List.find?_eq_none];intro e he
 simpa using h e he
theorem XZ.put (h:XZ c t) {e:Ent} (he:e.path≠zP c):XZ c (put t e):=fun x hx=>by
 rcases YG hx with rfl | hx
 ·exact he
 ·exact h x hx
theorem XA.put (h:XA c l) {m:Mark} (hm:m.path≠zP c):XA c (lput l m):=fun x hx=>by
 rcases YG hx with rfl | hx
 ·exact hm
 ·exact h x hx
theorem zmt (hc:c≠47) {s f d q:Str} (hs:s≠zP c) (hd:d≠zP c) (h:j9 s f d=some q):q≠zP c:=by
 unfold j9 at h;split at h
 ·rename_i h1;simp only [Bool.and_eq_true] at h1;obtain ⟨⟨p1,p2⟩,p3⟩:=h1;split at h
  ·cases h; exact hs
  ·rename_i h2;split at h
   ·cases h;have hf:=yg p2;have ht:=yg p3;have hdrop:s.drop f.length=[]∨∃ r,s.drop f.length=47::r:=by
     by_cases e:s=f
     ·left; rw [e]; simp
     ·right;have hu:und s f=true:=by
       simp only [Bool.and_eq_true,bne_iff_ne,ne_eq,Bool.not_eq_true',not_and,Bool.not_eq_false] at h2;exact h2 e
      obtain ⟨r,rfl⟩:=zgl (fun e=>by rw [e] at hf; simp at hf) hu;exact ⟨r,by simp⟩
    rcases hdrop with e | ⟨r,e⟩
    ·rw [e,List.append_nil]; exact hd
    ·rw [e];intro h3;have hl:=congrArg List.length h3;simp only [List.length_append,List.length_cons,zP,List.length_nil] at hl;obtain ⟨a,b,rfl⟩:∃ a b,d=[a,b]:=by
      match d,ht.1 with
      | [a,b],_=>exact ⟨a,b,rfl⟩
      | a::b::x::y,_=>simp at hl; omega
     simp only [zP,List.cons_append,List.nil_append,List.cons.injEq] at h3;exact hc h3.2.2.1.symm
   ·cases h
 ·cases h
theorem XZ.mov (hc:c≠47) {f d:Str} (hd:d≠zP c):∀ {t out:List Ent},XZ c t→XZ c out→XZ c (t.foldl (fun out e=>Go.Proofs.YtmkmldepkponaaaGreatDoor.put out (movE f d e)) out)
 | [],out,_,h=>h
 | e::t,out,h1,h2=>by
  show XZ c (t.foldl (fun out e=>Go.Proofs.YtmkmldepkponaaaGreatDoor.put out (movE f d e)) (Go.Proofs.YtmkmldepkponaaaGreatDoor.put out (movE f d e)));refine XZ.mov hc hd (fun x hx=>h1 x (List.mem_cons_of_mem _ hx)) (h2.put ?_);show (j9 e.path f d).getD []≠_;cases hm:j9 e.path f d with
  | none=>simp [zP]
  | some q=>exact zmt hc (h1 e (List.mem_cons_self)) hd hm
theorem XZ.do (hc:c≠47) (h:XZ c t) {op:Op} (h1:op.path≠zP c) (h2:op.dest≠zP c):XZ c (jE t op).1:=by
 unfold jE;split
 ·split
  ·split
   ·show XZ c (doT t op);unfold doT;split
    ·exact h.put h1
    ·split
     ·exact h.put h1
     ·split
      ·exact XZ.mov hc h2 h .nil
      ·exact fun e he=>h e (List.mem_filter.1 he).1
   ·exact h
  ·exact h
 ·exact .nil
theorem XZ.on (hl:XA c l) (ht:XZ c t) {x:List Ent} (h:lOn l t=some x):XZ c x:=by
 unfold lOn at h;split at h
 ·rename_i hc;simp only [Bool.and_eq_true] at hc;split at h
  ·cases h;intro e he;rcases (YE hc.1 (TG.of hc.2).srt).1 he with ⟨m,hm,h1⟩ | ⟨_,_,h1⟩
   ·rw [Zn h1]; exact hl m hm
   ·exact ht e h1
  ·cases h
 ·cases h
theorem XZ.lowerA:∀ {ls:List (List Mark)} {t x:List Ent},(∀ l∈ls,XA c l)→XZ c t→Go.Proofs.YtmkmldepkponaaaGreatDoor.lowerA ls t=some x→XZ c x
 | [],t,x,_,h,e=>by cases e; exact h
 | l::r,t,x,hl,h,e=>by
  unfold Go.Proofs.YtmkmldepkponaaaGreatDoor.lowerA at e;split at e
  ·rename_i t' h1;exact XZ.lowerA (fun y hy=>hl y (List.mem_cons_of_mem _ hy)) (XZ.on (hl l (List.mem_cons_self)) h h1) e
  ·cases e
theorem XO.low (h:XO c o) (ho:oOk o=true):XZ c (lowG o):=by
 obtain ⟨t,x,g⟩:=OG.of ho;rw [g.lowG];exact XZ.lowerA h.l h.b g.lay.2.1
theorem XO.vw (h:XO c o) (ho:oOk o=true):XZ c (vwG o):=by
 have hl:=h.low ho;obtain ⟨t,x,g⟩:=OG.of ho;rw [g.vwG];rw [g.lowG] at hl;exact XZ.on h.u hl g.on
theorem XA.diff {a b:List Ent} (ga:tOk a=true) (gb:tOk b=true) (ha:XZ c a) (hb:XZ c b):XA c (diff a b):=fun x hx e=>by
 obtain ⟨_,h⟩:=Z6 (TG.of ga) (TG.of gb) hx;rcases h with ⟨y,h,_⟩ | ⟨_,_,_,y,h⟩
 ·rw [e,hb.find] at h; cases h
 ·rw [e,ha.find] at h; cases h
theorem XO.do (hc:c≠47) (h:XO c o) {op:Op} (h1:op.path≠zP c) (h2:op.dest≠zP c):XO c (oDo o op).1:=by
 by_cases ho:oOk o=true
 ·have hl:=h.low ho;have hv:=h.vw ho;obtain ⟨t,x,g⟩:=OG.of ho;rw [g.doEq op];rw [g.lowG] at hl;rw [g.vwG] at hv;split
  ·rename_i h0;obtain ⟨_,_,h3,h4⟩:=zb1 g.gx h0;refine ⟨h.b,h.l,XA.diff g.gt (by rw [h3]; exact h4) hl (hv.do hc h1 h2)⟩
  ·exact h
 ·unfold oDo; rw [if_neg ho]; exact .no
theorem XO.push (h:XO c o):XO c (Zk o).1:=by
 unfold Zk;split
 ·split
  ·exact h
  ·exact ⟨h.b,fun l hl=>by
    rcases List.mem_append.1 hl with hl | hl
    ·exact h.l l hl
    ·rw [List.mem_singleton.1 hl]; exact h.u,.nil⟩
 ·exact .no
theorem XA.join {a b j:List Mark} (ha:XA c a) (hb:XA c b) (h:jp a b=some j):XA c j:=by
 unfold jp at h;split at h
 ·rename_i hc;simp only [Bool.and_eq_true] at hc;split at h
  ·cases h;intro m hm;obtain ⟨x,hx,h1⟩:=ZM.1 hm;have hp:m.path=x.path:=by
    unfold zK at h1;split at h1
    ·split at h1
     ·cases h1
     ·cases h1; split<;>rfl
    ·cases h1; rfl
   rw [hp];rcases (Zh (LG.of hc.1) (LG.of hc.2)).1 hx with ⟨y,hy,rfl⟩ | ⟨hy,_⟩
   ·exact ha y hy
   ·exact hb x hy
  ·cases h
 ·cases h
theorem XA.flat:∀ {ls:List (List Mark)} {one j:List Mark},XA c one→(∀ l∈ls,XA c l)→jH one ls=some j→XA c j
 | [],one,j,h,_,e=>by cases e; exact h
 | l::r,one,j,h,hl,e=>by
  unfold jH at e;split at e
  ·rename_i k hk;exact XA.flat (XA.join (hl l (List.mem_cons_self)) h hk) (fun y hy=>hl y (List.mem_cons_of_mem _ hy)) e
  ·cases e
theorem XO.flat (h:XO c o):XO c (j5 o).1:=by
 unfold j5;split
 ·split
  ·rename_i j hj;refine ⟨h.b,fun l hl=>?_,h.u⟩;rw [List.mem_singleton.1 hl];unfold j3 at hj;split at hj
   ·rename_i a b r e;exact XA.flat (h.l a (by rw [e]; simp)) (fun y hy=>h.l y (by rw [e]; simp at hy ⊢; exact .inr hy)) hj
   ·cases hj
  ·exact h
 ·exact .no
theorem zm7 {e:Ent} (h:∀ x∈t,x.path≠e.path):(put t e).length=t.length+1:=by
 have h1:=congrArg List.length (List.takeWhile_append_dropWhile (p:=fun x:Ent=>ltS x.path e.path) (l:=t));rw [List.length_append] at h1;show (zO Ent.path t e).length=_;unfold zO;rw [List.length_append,List.length_cons];split
 ·rename_i hc; rw [hc] at h1; simp at h1 ⊢; omega
 ·rename_i x r hc;rw [hc] at h1;have hx:x∈t:=by
   have:x∈t.dropWhile (fun x:Ent=>ltS x.path e.path):=by rw [hc]; simp
   exact (List.dropWhile_sublist _).subset this
  rw [if_neg (h x hx)];simp at h1 ⊢; omega
theorem zox:∀ i < 26,pOk (zP (UInt8.ofNat (97+i)))=true∧pUp (zP (UInt8.ofNat (97+i)))=[47]:=by decide +kernel
theorem grow (ht:tOk t=true) (hl:t.length < 16) {j:Nat} (hj:j < 26) (h:XZ (UInt8.ofNat (97+j)) t) :
  tOk (jE t ⟨2,zP (UInt8.ofNat (97+j)),[],[]⟩).1=true∧(jE t ⟨2,zP (UInt8.ofNat (97+j)),[],[]⟩).1.length=t.length+1 ∧
  ∀ c,c≠UInt8.ofNat (97+j)→XZ c t→XZ c (jE t ⟨2,zP (UInt8.ofNat (97+j)),[],[]⟩).1:=by
 obtain ⟨p1,p2⟩:=zox j hj;generalize hd:UInt8.ofNat (97+j)=d at *;have hg:get t (zP d)=none:=by unfold get; rw [if_neg (by simp [zP])]; exact h.find
 have hu:upC t (zP d)=0:=by
  unfold upC; rw [p2];have:get t [47]=some YX:=by unfold get; rw [if_pos rfl]
  rw [this]; rfl
 have hn:newC t (zP d)=0:=by unfold newC; rw [if_neg (by simp [hu]),hg,if_neg (by simp),if_neg (by omega)]
 have hc:y7 t ⟨2,zP d,[],[]⟩=0:=by
  unfold y7; rw [if_neg (by simp),if_pos rfl];show putC t (zP d)=0;unfold putC; rw [if_neg (by rw [hn]; simp),hn]
 have ho:qj ⟨2,zP d,[],[]⟩=true:=by
  unfold qj; simp [p1,j2]
 have e:jE t ⟨2,zP d,[],[]⟩=(doT t ⟨2,zP d,[],[]⟩,0):=by
  unfold jE; rw [if_pos ht,if_pos ho,if_pos hc]
 have e2:doT t ⟨2,zP d,[],[]⟩=put t ⟨zP d,false,[]⟩:=by unfold doT; rw [if_neg (by simp),if_pos rfl]
 have ok:=zb1 (op:=⟨2,zP d,[],[]⟩) ht (by rw [e]);rw [e];refine ⟨ok.2.2.2,by rw [e2]; exact zm7 h,fun c hcd hx=>?_⟩;rw [e2];exact hx.put (fun hh=>hcd (by simp only [zP,List.cons.injEq] at hh; exact hh.2.2.1.symm))
theorem XZ.set (h:XZ c t) {k:Nat} {e:Ent} (he:e.path≠zP c):XZ c (t.set k e):=fun x hx=>by
 rcases List.mem_or_eq_of_mem_set hx with hx|rfl
 ·exact h x hx
 ·exact he
theorem XA.set (h:XA c l) {k:Nat} {e:Mark} (he:e.path≠zP c):XA c (l.set k e):=fun x hx=>by
 rcases List.mem_or_eq_of_mem_set hx with hx|rfl
 ·exact h x hx
 ·exact he
theorem XZ.add (h:XZ c t) {e:Ent} (he:e.path≠zP c):XZ c (t++[e]):=fun x hx=>by
 rcases List.mem_append.1 hx with hx | hx
 ·exact h x hx
 ·rw [List.mem_singleton.1 hx]; exact he
theorem XA.add (h:XA c l) {e:Mark} (he:e.path≠zP c):XA c (l++[e]):=fun x hx=>by
 rcases List.mem_append.1 hx with hx | hx
 ·exact h x hx
 ·rw [List.mem_singleton.1 hx]; exact he
theorem XZ.drop (h:XZ c t) (k:Nat):XZ c (t.drop k):=fun x hx=>h x (List.mem_of_mem_drop hx)
theorem XA.drop (h:XA c l) (k:Nat):XA c (l.drop k):=fun x hx=>h x (List.mem_of_mem_drop hx)
end
end Go.Proofs.YtmkmldepkponaaaGreatDoor

namespace Go.Proofs.YtmkmldepkponaaaGreatDoor
set_option linter.unusedSimpArgs false
set_option linter.unusedVariables false
open Go Go.RowKit
end Go.Proofs.YtmkmldepkponaaaGreatDoor

namespace Go.Proofs.YtmkmldepkponaaaGreatDoor
set_option linter.unusedSimpArgs false
set_option linter.unusedVariables false
open Go Go.RowKit
theorem lq {k0:List Nat} {body:(Fr→XM→Prop)→Fr→XM→Prop} {F:Fr} {m:XM} {σ:Type} (fr:σ→Fr) (mm:σ→XM) (inv:σ→Prop) (me:σ→Nat) (x0:σ) (h0:inv x0) (hk:zH k0 (some 3) F m (fr x0) (mm x0))
  (hb:∀ x,inv x→body (fun F' m'=>∃ x',inv x'∧me x' < me x∧zH k0 (some 3) F' m' (fr x') (mm x')) (fr x) (mm x)):LoopX k0 body F m :=
 ⟨σ,fr,mm,inv,me,some 3,some 3,_,⟨x0,h0,hk⟩,fun _ _ _ h=>h,hb⟩
theorem lq2 {k0:List Nat} {body:(Fr→XM→Prop)→Fr→XM→Prop} {F:Fr} {m:XM} {α β:Type} (fr:α→β→Fr) (mm:α→β→XM) (inv:α→β→Prop) (me:α→β→Nat) (a0:α) (b0:β) (h0:inv a0 b0) (hk:zH k0 (some 3) F m (fr a0 b0) (mm a0 b0))
  (hb:∀ a b,inv a b→body (fun F' m'=>∃ a' b',inv a' b'∧me a' b' < me a b∧zH k0 (some 3) F' m' (fr a' b') (mm a' b')) (fr a b) (mm a b)):LoopX k0 body F m :=
 ⟨α × β,fun x=>fr x.1 x.2,fun x=>mm x.1 x.2,fun x=>inv x.1 x.2,fun x=>me x.1 x.2,some 3,some 3,fun x F' m'=>∃ a' b',inv a' b'∧me a' b' < me x.1 x.2∧zH k0 (some 3) F' m' (fr a' b') (mm a' b'),
  ⟨(a0,b0),h0,hk⟩,fun _ _ _ ⟨a,b,h⟩=>⟨(a,b),h⟩,fun x h=>hb x.1 x.2 h⟩
structure OZ (k:Nat) (o:Over):Prop where
 b:o.base.length≤k
 n:o.layers.length≤k
 l:∀ l∈o.layers,l.length≤k
 u:o.upper.length≤k
theorem OS.oz {o:Over} (h:OS o):OZ 32 o:=⟨by have:=h.b; omega,by have:=h.n; omega,h.l,h.u⟩
theorem OZ.mono {o:Over} {n m:Nat} (h:OZ n o) (hm:n≤m):OZ m o:=⟨by have:=h.b; omega,by have:=h.n; omega,fun l hl=>by have:=h.l l hl; omega,by have:=h.u; omega⟩
def zjO:XC:=(.s (.r [.x1 1 0,.ex 2 (.alloc [.nil,.nil,.nil])]) (.s (.d [.ex 5 .bsl0,.f1 6 0 1,.l1 7 1 6,.ex 8 (.app true 3 40 77 5 7),.ex 9 .bsl0,.f1 10 2 1,.l1 11 1 10,.ex 12 (.app true 3 40 34 9 11),.ex 13 (.build [.nil,.nil,.nil] [(0,(1,8)),(2,(1,12))]),.ex 3 (.alloc [.nil,.nil,.nil]),.s1 3 3 13]) (.s (.s (.r [.m1 4 (.i 0)]) (.blk 0 (.loop (.s (.s (.r [.mv 14 4,.f1 15 1 1,.l1 16 1 15,.n1 17 16,.b1 18 .lss 14 17]) (.ce 18 0)) (.s (.blk 1 (.d [.f1 21 1 3,.l1 22 1 21,.ex 23 .bsl0,.f1 24 1 1,.l1 25 1 24,.mv 26 4,.i1 27 1 25 26,.l1 28 1 27,.ex 29 (.app true 3 40 34 23 28),.ex 30 (.bsl 1 25 [29]),.ex 31 (.app false 1 24 25 22 30),.f1 32 1 3,.s1 1 32 31])) (.ic 19 20 4)))))) (.s (.r [.l2 33 3 3,.s1 3 2 33]) .ret))))
theorem zjP:zh Tryz.prog [] 66=some (zjO.ac,[(.cell 2 true 3)],34):=by kernel_rfl
theorem zkV (W0:World) (o:Over) (h:OZ 1100000 o):Fn Tryz.prog W0 66 [zY o] (.c (zY o)) []:=by
 refine fX mixed zjP fun hg=>?_
 obtain ⟨z1,z2,z3,z4⟩:=h;refine dr ?_;refine lq (σ:=Nat) (fun k=>[(1,.ptr 16 0),(2,.ptr 32 0),(3,.ptr 48 0),(4,I k)]) (fun k=>[(4,.row ((o.layers.take k).map zd) 1 25),(16,.box [.c (zj o.base),.c (zT o.layers),.c (zd o.upper)]),(32,.box [.nil,.nil,.nil]),(48,.box [.c (zj o.base),.own 4 k,.c (zd o.upper)])]) (fun k=>k≤o.layers.length) (fun k=>o.layers.length - k) 0 (by simp) ?_ ?_
 ·refine zH.trans (z:=some 128) (z':=some 3) (F1:=[(1,.ptr 16 0),(2,.ptr 32 0),(3,.ptr 48 0),(4,I 0)]) (m1:=[(16,.box [.c (zj o.base),.c (zT o.layers),.c (zd o.upper)]),(32,.box [.nil,.nil,.nil]),(48,.box [.c (zj o.base),.nil,.own 192 o.upper.length]),(192,.row (o.upper.map zm) 3 34)]) ?_ ?_
  ·refine dr ?_;repeat (refine oB (by simp<;>rfl) ?_; first|refine dr ?_|exact dz)
   trivial
  refine zH.trans (z:=some 192) (z':=some 3) (F1:=[(1,.ptr 16 0),(2,.ptr 32 0),(3,.ptr 48 0),(4,I 0)]) (m1:=[(16,.box [.c (zj o.base),.c (zT o.layers),.c (zd o.upper)]),(32,.box [.nil,.nil,.nil]),(48,.box [.c (zj o.base),.nil,.c (zd o.upper)])]) ?_ ?_
  ·refine dr ?_;repeat (refine oB (by simp<;>rfl) ?_; first|refine dr ?_|exact dz)
   trivial
  ·show zx _ _ _ _ _;exact zx.nilB 48 [.c (zj o.base),.nil,.c (zd o.upper)] [.c (zj o.base),.own 4 0,.c (zd o.upper)] 4 25 rfl rfl ⟨nr0,nr1,nr0,trivial⟩
 intro k hk;refine dr ?_;apply cP<;>intro h1
 ·have hk':k < o.layers.length:=by omega
  have hz:=z3 _ (List.getElem_mem hk');refine dr ?_;repeat ((first|refine oB (by simp; omega) ?_|refine oB (by simp) ?_); first|refine dr ?_|exact dz)
  refine ⟨k+1,by omega,by omega,?_⟩;rw [List.take_succ_eq_append_getElem hk',List.map_append];refine zx.push (C:=(o.layers.take k).map zd) (L:=o.layers[k].map zm) 4 464 rfl rfl (by simp) ?_;refine dr ?_;trivial
 have hkl:k=o.layers.length:=by omega
 subst hkl;rw [List.take_length];refine dr ?_;rfl
def ziU:XC:=(.s (.r [.x1 1 0,.ex 2 (.alloc [.nil,.nil,.nil]),.m1 3 .n]) (.s (.s (.r [.l2 8 3 1,.c1 9 16 [8],.u1 10 9]) (.cnd 10 (.s (.r [.ex 11 (.build [.nil,.nil,.nil] []),.s1 3 2 11,.m1 3 .n]) .ret) .skip)) (.s (.r [.l2 12 3 1,.c1 13 66 [12],.ex 4 (.alloc [.nil,.nil,.nil]),.s1 3 4 13]) (.s (.s (.r [.f1 14 1 4,.l1 15 1 14,.n1 16 15,.b1 17 .lss 16 (.i 2)]) (.cnd 17 (.s (.r [.l2 18 3 4,.s1 3 2 18,.m1 3 .n]) .ret) .skip)) (.s (.r [.f1 19 1 4,.l1 20 1 19,.ex 21 (.ia 1 20 (.i 0)),.l1 22 1 21,.a1 5 22 3 34]) (.s (.s (.r [.m1 6 (.i 1)]) (.blk 0 (.loop (.s (.s (.r [.mv 23 6,.f1 24 1 4,.l1 25 1 24,.n1 26 25,.b1 27 .lss 23 26]) (.ce 27 0)) (.s (.blk 1 (.s (.r [.m1 7 .n]) (.s (.r [.f1 31 1 4,.l1 32 1 31,.mv 33 6,.i1 34 1 32 33,.l1 35 1 34,.mv 36 5,.c1 37 71 [35,36],.mv 30 37,.e1 38 30 0,.e1 39 30 1,.a1 5 38 3 34,.mv 7 39]) (.s (.r [.mv 40 7,.u1 41 40]) (.cnd 41 (.s (.r [.l2 42 3 4,.s1 3 2 42,.m1 3 .n]) .ret) .skip))))) (.ic 28 29 6)))))) (.s (.r [.mv 43 5,.ex 44 (.bsl 1 25 [43]),.f1 45 1 4,.s1 1 45 44]) (.s (.r [.l2 46 3 4,.s1 3 2 46,.m1 3 .y]) .ret))))))))
theorem ziV:zh Tryz.prog [] 35=some (ziU.ac,[(.cell 2 true 3),(.t 3)],47):=by kernel_rfl
theorem zaO {one l:List Mark} {r:List (List Mark)}:jH one (l::r)=match jp l one with
  | some j=>jH j r
  | none=>none:=by rw [jH]<;>(cases jp l one<;>rfl)
theorem zld (W0:World) (o:Over):Fn Tryz.prog W0 35 [zY o] (.c (eOB (j5 o))) []:=by
 refine fX mixed ziV fun hg=>?_
 refine dEr ?_;repeat (refine c0 (zle W0 o) rfl ?_; first|refine dEr ?_|exact dz)
 apply cP<;>intro h1
 ·refine dr ?_;rw [j5,if_neg (by simp [h1])]<;>rfl
 have hz:=OS.ok h1;rw [j5,if_pos h1];refine dEr ?_;repeat (refine c0 (zkV W0 o (hz.oz.mono (by omega))) rfl ?_; first|refine dEr ?_|exact dz)
 apply cP<;>intro h2
 ·refine dr ?_;have e:j3 o=none:=by
   unfold j3;split
   ·rename_i a b r he; rw [he] at h2; simp at h2; omega
   ·rfl
  rw [e]<;>rfl
 have h0:0 < o.layers.length:=by omega
 obtain ⟨a,b,r,hl⟩:∃ a b r,o.layers=a::b::r:=by
  cases hl:o.layers with
  | nil=>rw [hl] at h0; simp at h0
  | cons a s=>cases s with
   | nil=>rw [hl] at h2; simp at h2
   | cons b r=>exact ⟨a,b,r,rfl⟩
 have e0:j3 o=jH o.layers[0] (o.layers.drop 1):=by
  have e:o.layers[0]=a:=by simp [hl]
  rw [e];unfold j3;rw [hl]; rfl
 rw [e0];have hn4:=hz.n;refine dr ?_;repeat (refine aM (j:=0) rfl (by omega) ?_; first|refine dr ?_|exact dz)
 refine lp2 (fun (k:Nat) (one:List Mark)=>[(2,.ptr 32 0),(4,.ptr 64 0),(5,.c (zd one)),(6,I k)]) (fun _ _=>[(32,.box [.nil,.nil,.nil]),(64,.box [.c (zj o.base),.c (zT o.layers),.c (zd o.upper)])]) (fun k one=>1≤k∧k≤o.layers.length∧jH one (o.layers.drop k)=jH o.layers[0] (o.layers.drop 1)) (fun k _=>o.layers.length - k) 1 o.layers[0] ⟨by omega,by omega,rfl⟩ ?_ ?_
 ·refine dr ?_;trivial
 rintro k one ⟨k1,k2,k3⟩;refine dr ?_;apply cP<;>intro h3
 ·have hk':k < o.layers.length:=by omega
  rw [List.drop_eq_getElem_cons hk',zaO] at k3;have q:=zlb W0 o.layers[k] one;cases hj:jp o.layers[k] one with
  | none =>
   rw [hj] at q k3;refine dEr ?_;repeat (refine c0 q rfl ?_; first|refine dEr ?_|exact dz)
   rw [← k3]<;>rfl
  | some j =>
   rw [hj] at q k3;refine dEr ?_;repeat (refine c0 q rfl ?_; first|refine dEr ?_|exact dz)
   refine ⟨k+1,j,⟨by omega,by omega,k3⟩,by omega,?_⟩;refine dr ?_;trivial
 ·have hkl:k=o.layers.length:=by omega
  rw [hkl,List.drop_length,jH] at k3;refine dr ?_;rw [← k3]<;>rfl
end Go.Proofs.YtmkmldepkponaaaGreatDoor

namespace Go.Proofs.YtmkmldepkponaaaGreatDoor
set_option linter.unusedSimpArgs false
set_option linter.unusedVariables false
open Go Go.RowKit
theorem rlEnts {L:List Ent} {e:TypeId}:rlXO (.row (L.map zv) 3 e)=true:=rlRow fun _=>rfl
theorem ZS {L:List Mark} {e:TypeId}:rlXO (.row (L.map zm) 3 e)=true:=rlRow fun _=>rfl
def zgJ:XC:=(.s (.r [.a2 2 3 77]) (.s (.r [.mv 3 0,.ex 4 (.app true 3 40 77 (.k .nil) 3),.a1 2 4 3 77]) .ret))
theorem zgK:zh Tryz.prog [] 86=some (zgJ.ac,[(.t 2)],5):=by kernel_rfl
theorem zkz (W0:World) (t:List Ent) (ht:t.length≤1100000):zy Tryz.prog W0 86 [.c (zj t)] [] (fun _:Unit=>True) (fun _ => .own 4 t.length) (fun _=>[(4,.row (t.map zv) 3 77)]):=by
 refine zy.swp (R:=fun _ => .own 64 t.length) (M:=fun _=>[(64,.row (t.map zv) 3 77)]) (vs:=[.c (zj t)]) (mp:=[]) ?_ 4 64;refine fW mixed zgK fun hg=>?_
 refine dr ?_;repeat ((first|refine oB (by simp; omega) ?_|refine oB (by simp) ?_); first|refine dr ?_|exact dz)
 refine ⟨none,_,_,?_,(),trivial,rfl,rfl⟩;refine dr ?_;trivial
def zgL:XC:=(.s (.r [.a2 2 3 34]) (.s (.r [.mv 3 0,.ex 4 (.app true 3 40 34 (.k .nil) 3),.a1 2 4 3 34]) .ret))
theorem zgM:zh Tryz.prog [] 67=some (zgL.ac,[(.t 2)],5):=by kernel_rfl
theorem zaG (W0:World) (t:List Mark) (ht:t.length≤1100000):zy Tryz.prog W0 67 [.c (zd t)] [] (fun _:Unit=>True) (fun _ => .own 4 t.length) (fun _=>[(4,.row (t.map zm) 3 34)]):=by
 refine zy.swp (R:=fun _ => .own 64 t.length) (M:=fun _=>[(64,.row (t.map zm) 3 34)]) (vs:=[.c (zd t)]) (mp:=[]) ?_ 4 64;refine fW mixed zgM fun hg=>?_
 refine dr ?_;repeat ((first|refine oB (by simp; omega) ?_|refine oB (by simp) ?_); first|refine dr ?_|exact dz)
 refine ⟨none,_,_,?_,(),trivial,rfl,rfl⟩;refine dr ?_;trivial
def lmL (o:Over):List (List CV):=o.layers.map fun l=>l.map zm
theorem zff {o:Over}:∀ C∈lmL o,∀ x∈C,x.cells.all rle1=true:=fun C hC x hx=>by
 obtain ⟨l,_,rfl⟩:=List.mem_map.1 hC;obtain ⟨m,_,rfl⟩:=List.mem_map.1 hx;rfl
def ovM (c:Nat) (o:Over):XM:=(c,.row (o.base.map zv) 3 77)::(16+c,.row (o.upper.map zm) 3 34)::(32+c,.rowP (zB c 3 (lmL o)) 25)::je c 3 34 3 (lmL o)
def ovP (c:Nat) (o:Over):PV := .agg [.own c o.base.length,.own (32+c) o.layers.length,.own (16+c) o.upper.length]
def zgN:XC:=(.s (.r [.x1 1 0,.ex 2 (.alloc [.nil,.nil,.nil])]) (.s (.r [.a2 3 1 25]) (.s (.s (.r [.f1 6 1 1,.l1 7 1 6,.n1 8 7,.m1 9 (.i 0)]) (.blk 0 (.loop (.s (.r [.b1 10 .lss 9 8]) (.s (.ce 10 0) (.s (.blk 1 (.s (.r [.i1 11 1 7 9,.l1 12 1 11,.a1 5 12 3 34]) (.r [.mv 13 3,.mv 14 5,.o1 15 67 [14],.ex 16 (.bsl 1 25 [15]),.ex 17 (.app false 1 24 25 13 16),.a1 3 17 1 25]))) (.r [.b1 18 .add 9 (.i 1),.mv 9 18]))))))) (.s (.d [.f1 19 0 1,.exo [9,25] 20 (.ld false 1 19),.exo [9,25] 21 (.opn 86 [20]),.mv 22 3,.f1 23 2 1,.exo [9,25] 24 (.ld false 1 23),.exo [9,25] 25 (.opn 67 [24]),.ex 26 (.build [.nil,.nil,.nil] [(0,(1,21)),(1,(1,22)),(2,(1,25))]),.s1 3 2 26]) .ret))))
theorem zgO:zh Tryz.prog [86,67,1000009,1000025] 70=some (zgN.ac,[(.cell 2 true 3)],27):=by kernel_rfl
theorem zkB (W0:World) (o:Over) (h:OZ 1100000 o):zy Tryz.prog W0 70 [.c (zY o)] [] (fun _:Unit=>True) (fun _=>ovP 9 o) (fun _=>ovM 9 o):=by
 refine fW' [] mixed zgO (fun hg=>?_) rfl;obtain ⟨z1,z2,z3,z4⟩:=h;refine dr ?_;refine lq (σ:=Nat) (fun k=>[(1,.ptr 16 0),(2,.ptr 32 0),(3,.own 48 k),(7,.c (zT o.layers)),(8,I o.layers.length),(9,I k)])
  (fun k=>(16,.box [.c (zj o.base),.c (zT o.layers),.c (zd o.upper)])::(32,.box [.nil,.nil,.nil])::(48,.rowP (zB 9 3 ((lmL o).take k)) 25)::je 9 3 34 3 ((lmL o).take k)) (fun k=>k≤o.layers.length) (fun k=>o.layers.length - k) 0 (by simp) ?_ ?_
 ·refine zx.er (zH.s (z:=none) (m2:=[(16,.box [.c (zj o.base),.c (zT o.layers),.c (zd o.upper)]),(32,.box [.nil,.nil,.nil]),(48,.row [] 1 25)]) ?_) rfl;refine dr ?_;trivial
 have hlm:(lmL o).length=o.layers.length:=by simp [lmL]
 have hlmk:∀ {k:Nat} (h:k < o.layers.length) (h':k < (lmL o).length),(lmL o)[k]=o.layers[k].map zm:=fun _ _=>by simp [lmL]
 intro k hk;have tl:((lmL o).take k).length=k:=by simp; omega
 obtain ⟨T,O,fa⟩:=famP 9 3 34 3 ((lmL o).take k);rw [fa.t,fa.o];refine dr ?_;apply cP<;>intro h1
 ·have hk':k < o.layers.length:=by omega
  have hz:=z3 _ (List.getElem_mem hk');refine dr ?_;refine oF (cs:=[zd o.layers[k]]) ((zaG W0 _ hz).swp 4 6) rfl ?_ rfl ⟨(),trivial⟩ fun _ _=>⟨rfl,⟨⟨ZS,(jY (P:=[_,_,_]) rfl).trans (fa.no (.inl (by decide)))⟩,trivial⟩,?_⟩
  ·exact zi rfl (zi rfl (zi (fa.inO fun i hi=>by simp only [apX]; rw [zc (by omega),zc (by omega),zc (by omega),fa.row hi]; rfl) fa.inT))
  refine dEr ?_;repeat ((first|refine fT (frX1 ((jY (P:=[_,_,_,_]) rfl).trans (fa.no (id:=256) (.inr (by decide))))) ?_|refine oB (fa.len.trans tl) ?_|refine oB (by simp; omega) ?_); first|refine dEr ?_|exact dz)
  refine ⟨k+1,by omega,by omega,?_⟩;have hN:∀ i < ((lmL o).take k).length,sw 6 (16 * (3+k)+9) (16 * (3+i)+9)=16 * (3+i)+9:=fun i hi=>qB (by omega) (by omega)
  have hNN:sw 6 (16 * (3+k)+9) (16 * (3+k)+9)=6:=by
   unfold sw;have:Nat.beq (16 * (3+k)+9) 6=false:=by
    cases hb:Nat.beq (16 * (3+k)+9) 6 with
    | false=>rfl
    | true=>have:=Nat.eq_of_beq_eq_true hb; omega
   rw [this,Nat.beq_refl]
  have hN6:sw 6 (16 * (3+k)+9) 6=16 * (3+k)+9:=rfl;have hkl:k < (lmL o).length:=by omega
  have tk:(lmL o).take (k+1)=(lmL o).take k++[o.layers[k].map zm]:=by rw [List.take_succ_eq_append_getElem hkl,hlmk hk' hkl]
  have tl1:((lmL o).take (k+1)).length=k+1:=by simp; omega
  refine zx.rn 6 (16 * (3+k)+9) rfl rfl ⟨⟨_,rfl,rnP (qB (by decide) (by omega))⟩,⟨_,rfl,rnP (qB (by decide) (by omega))⟩,⟨_,rfl,rnO (qB (by decide) (by omega))⟩,⟨_,rfl,rfl⟩,⟨_,rfl,rfl⟩,⟨_,rfl,rfl⟩,trivial⟩
   ⟨⟨_,Yx (qB (by decide) (by omega)) rfl,rfl⟩,⟨_,Yx (qB (by decide) (by omega)) rfl,rfl⟩,⟨_,Yx (qB (by decide) (by omega)) rfl,?_⟩,Jz fun i hi=>?_⟩ (fun id h=>by cases h) ?_ rfl
  ·rw [tk,zbA,tl,fa.o];simp only [yY,List.map_append,fa.ren hN]
   congr 2
   simp only [List.map_cons,List.map_nil]
   congr 1
   show PV.own (sw 6 (16 * (3+k)+9) 6) _=_;rw [hN6];simp
  ·by_cases hik:i < k
   ·rw [hN i (by omega)];show lkX (_::_::_::_::_::T) _=_;rw [zc (by simp<;>omega),zc (by simp [sw]<;>omega),zc (by omega),zc (by omega),zc (by omega),fa.row (by omega)];simp
   ·have:i=k:=by omega
    subst this;rw [hNN];have e:((lmL o).take (i+1))[i]=o.layers[i].map zm:=by simp [lmL]
    rw [e];rfl
  ·exact zi rfl (zi rfl (zi (yE fun i hi=>by rw [zc (by omega),zc (by omega),zc (by omega),qX hi]; rfl) yx))
 have hkl:k=o.layers.length:=by omega
 subst hkl;have tlk:(lmL o).take o.layers.length=lmL o:=by rw [← hlm,List.take_length]
 rw [tlk] at fa;have qb:zy Tryz.prog W0 86 [.c (zj o.base)] [] (fun _:Unit=>True) (fun _ => .own 9 o.base.length) (fun _=>[(9,.row (o.base.map zv) 3 77)]):=(zkz W0 _ z1).swp 4 9;have qu:zy Tryz.prog W0 67 [.c (zd o.upper)] [] (fun _:Unit=>True) (fun _ => .own 25 o.upper.length) (fun _=>[(25,.row (o.upper.map zm) 3 34)]):=(zaG W0 _ z4).swp 4 25;refine dr ?_;refine oF (cs:=[zj o.base]) qb rfl ?_ rfl ⟨(),trivial⟩ fun _ _=>⟨rfl,⟨⟨rlEnts,(jY (P:=[_,_,_]) rfl).trans (fa.no (.inl (by decide)))⟩,trivial⟩,?_⟩
 ·exact zi rfl (zi rfl (zi (fa.inO fun i hi=>by simp only [apX]; rw [zc (by omega),zc (by omega),zc (by omega),fa.row hi]; rfl) fa.inT))
 dsimp only [apX];refine Yz (zcJ rfl) (J4 ⟨rfl,rfl,rfl,fa.mmS fun i hi=>?_⟩ ?_)
 ·rw [zc (by omega),zc (by omega),zc (by omega),zc (by omega),fa.row (by omega)]
 refine dr ?_;refine oF (cs:=[zd o.upper]) qu rfl ?_ rfl ⟨(),trivial⟩ fun _ _=>⟨rfl,⟨⟨ZS,(jY (P:=[_,_,_,_]) rfl).trans (fa.no (.inl (by decide)))⟩,trivial⟩,?_⟩
 ·exact zi rfl (zi rfl (zi rfl (zi (fa.inO fun i hi=>by simp only [apX]; rw [zc (by omega),zc (by omega),zc (by omega),zc (by omega),fa.row hi]; rfl) fa.inT)))
 dsimp only [apX];refine Yz (zcJ rfl) (J4 ⟨rfl,rfl,rfl,rfl,fa.mmS fun i hi=>?_⟩ ?_)
 ·rw [zc (by omega),zc (by omega),zc (by omega),zc (by omega),zc (by omega),fa.row (by omega)]
 refine dEr ?_;have hN:∀ i < (lmL o).length,sw 48 41 (16 * (3+i)+9)=16 * (3+i)+9:=fun i hi=>qB (by omega) (by omega)
 refine ⟨some 3,_,_,?_,(),trivial,rfl,rfl⟩;refine zx.rn 48 41 rfl rfl ⟨⟨_,rfl,rfl⟩,trivial⟩ ⟨⟨_,rfl,rfl⟩,⟨_,rfl,rfl⟩,⟨_,rfl,congrArg (fun L=>XB.rowP L 25) ((fa.ren hN).trans fa.o.symm)⟩,Jz fun i hi=>?_⟩ (fun id h=>by cases h) ?_ ?_
 ·rw [hN i hi];show lkX (_::_::_::_::_::T) _=_;rw [zc (by omega),zc (by omega),zc (by omega),zc (by omega),zc (by omega),fa.row hi]
 ·exact zi rfl (zi rfl (zi (yE fun i hi=>by unfold ovM; rw [zc (by omega),zc (by omega),zc (by omega),qX hi]; rfl) yx))
 ·rfl
theorem zbx {o:Over} {m:XM} {c:Nat} (h1:lkX m c=none) (h2:lkX m (16+c)=none) (h3:lkX m (32+c)=none) (h4:∀ i,lkX m (16 * (3+i)+c)=none):newR m (ovM c o) :=
 ⟨⟨rlEnts,h1⟩,⟨ZS,h2⟩,⟨zbJ,h3⟩,zbl zff fun i _=>h4 i⟩
theorem zbw {o:Over}:inMX (ovM 9 o)=true:=zi rfl (zi rfl (zi (yE fun i hi=>by unfold ovM; rw [zc (by omega),zc (by omega),zc (by omega),qX hi]; rfl) yx))
end Go.Proofs.YtmkmldepkponaaaGreatDoor

namespace Go.Proofs.YtmkmldepkponaaaGreatDoor
set_option linter.unusedSimpArgs false
set_option linter.unusedVariables false
open Go Go.RowKit
def zjW:XC:=(.s (.r [.a2 2 3 77]) (.s (.r [.mv 5 0,.n1 6 5,.ex 7 (.mks 3 40 77 (.c (.agg [(.sc (.string ⟨#[]⟩)),(.sc (.bool false)),(.sc (.string ⟨#[]⟩))])) 6),.a1 3 7 3 77]) (.s (.s (.r [.m1 4 (.i 0)]) (.blk 0 (.loop (.s (.s (.r [.mv 8 4,.mv 9 0,.n1 10 9,.b1 11 .lss 8 10]) (.ce 11 0)) (.s (.blk 1 (.r [.mv 14 3,.mv 15 4,.mv 16 0,.mv 17 4,.i1 18 3 16 17,.l2 19 3 18,.c1 20 98 [19],.i1 21 3 14 15,.s1 3 21 20])) (.ic 12 13 4)))))) (.s (.r [.mv 22 3,.a1 2 22 3 77]) .ret))))
theorem zjX:zh Tryz.prog [] 57=some (zjW.ac,[(.t 2)],23):=by kernel_rfl
theorem zll (W0:World) (t:List Ent) (ht:t.length≤1048576):zy Tryz.prog W0 57 [.c (zj t)] [] (fun _:Unit=>True) (fun _ => .own 4 t.length) (fun _=>[(4,.row (t.map zv) 3 77)]):=by
 refine zy.swp (R:=fun _ => .own 112 t.length) (M:=fun _=>[(112,.row (t.map zv) 3 77)]) (vs:=[.c (zj t)]) (mp:=[]) ?_ 4 112;refine fW mixed zjX fun hg=>?_
 refine dr ?_;refine lp (σ:=Nat) (fun k=>[(0,.c (zj t)),(3,.own 112 t.length),(4,I k)]) (fun k=>[(112,.row ((t.take k).map zv++List.replicate (t.length - k) (zv ⟨[],false,[]⟩)) 3 77)]) (fun k=>k≤t.length) (fun k=>t.length - k) 0 (by simp) ?_ ?_
 ·refine dr ?_;trivial
 rintro k hk;refine dr ?_;apply cP<;>intro h2
 ·refine dr ?_;repeat ((first|refine c0 (zdg W0 _) rfl ?_|refine oB (Zc hk) ?_|refine aE (j:=k) rfl (Qg (by omega)) ?_); first|refine dr ?_|exact dz)
  intro hg2;refine dr ?_;refine ⟨k+1,by omega,by omega,?_⟩;refine dr ?_;repeat (refine oB (by rw [← QD (f:=zv) (by omega:k < t.length)]<;>rfl) ?_; first|refine dr ?_|exact dz)
  trivial
 ·have:k=t.length:=by omega
  subst this;refine dr ?_;refine ⟨none,_,_,?_,(),trivial,rfl,rfl⟩;refine dr ?_;repeat (refine oB (by simp) ?_; first|refine dr ?_|exact dz)
  trivial
def zjY:XC:=(.s (.r [.a2 2 3 34]) (.s (.r [.mv 5 0,.n1 6 5,.ex 7 (.mks 3 40 34 (.c (.agg [(.sc (.string ⟨#[]⟩)),(.sc (.int .i64 0)),(.sc (.string ⟨#[]⟩))])) 6),.a1 3 7 3 34]) (.s (.s (.r [.m1 4 (.i 0)]) (.blk 0 (.loop (.s (.s (.r [.mv 8 4,.mv 9 0,.n1 10 9,.b1 11 .lss 8 10]) (.ce 11 0)) (.s (.blk 1 (.r [.mv 14 3,.mv 15 4,.mv 16 0,.mv 17 4,.i1 18 3 16 17,.l2 19 3 18,.c1 20 99 [19],.i1 21 3 14 15,.s1 3 21 20])) (.ic 12 13 4)))))) (.s (.r [.mv 22 3,.a1 2 22 3 34]) .ret))))
theorem zjZ:zh Tryz.prog [] 59=some (zjY.ac,[(.t 2)],23):=by kernel_rfl
theorem zdj (W0:World) (t:List Mark) (ht:t.length≤1048576):zy Tryz.prog W0 59 [.c (zd t)] [] (fun _:Unit=>True) (fun _ => .own 4 t.length) (fun _=>[(4,.row (t.map zm) 3 34)]):=by
 refine zy.swp (R:=fun _ => .own 112 t.length) (M:=fun _=>[(112,.row (t.map zm) 3 34)]) (vs:=[.c (zd t)]) (mp:=[]) ?_ 4 112;refine fW mixed zjZ fun hg=>?_
 refine dr ?_;refine lp (σ:=Nat) (fun k=>[(0,.c (zd t)),(3,.own 112 t.length),(4,I k)]) (fun k=>[(112,.row ((t.take k).map zm++List.replicate (t.length - k) (zm ⟨[],0,[]⟩)) 3 34)]) (fun k=>k≤t.length) (fun k=>t.length - k) 0 (by simp) ?_ ?_
 ·refine dr ?_;trivial
 rintro k hk;refine dr ?_;apply cP<;>intro h2
 ·refine dr ?_;repeat ((first|refine c0 (zdh W0 _) rfl ?_|refine oB (Zc hk) ?_|refine aE (j:=k) rfl (Qg (by omega)) ?_); first|refine dr ?_|exact dz)
  intro hg2;refine dr ?_;refine ⟨k+1,by omega,by omega,?_⟩;refine dr ?_;repeat (refine oB (by rw [← QD (f:=zm) (by omega:k < t.length)]<;>rfl) ?_; first|refine dr ?_|exact dz)
  trivial
 ·have:k=t.length:=by omega
  subst this;refine dr ?_;refine ⟨none,_,_,?_,(),trivial,rfl,rfl⟩;refine dr ?_;repeat (refine oB (by simp) ?_; first|refine dr ?_|exact dz)
  trivial
theorem Qw {α:Type}:∀ {n:Nat} {l:List α} {a:α} {K:α→Prop},l[n]? = some a→K a→nthK n l K
 | _,[],_,_,h,_=>by simp at h
 | 0,x::l,a,K,h,k=>by simp at h; subst h; exact k
 | n+1,x::l,a,K,h,k=>Qw (n:=n) (l:=l) (by simpa using h) k
def lmT (t:List (List Mark)):List (List CV):=t.map fun l=>l.map zm
def qE (c:Nat) (t:List (List Mark)) (k:Nat):List PV:=zB c 3 ((lmT t).take k)++List.replicate (t.length - k) (.c (.row []))
theorem zm0 {c:Nat} {t:List (List Mark)} {k:Nat} (hk:k≤t.length):(qE c t k).length=t.length:=by
 unfold qE;rw [List.length_append,qR,List.length_take,List.length_replicate];simp [lmT]; omega
theorem zmZ {c:Nat} {t:List (List Mark)} {k:Nat} (hk:k < t.length):(qE c t k)[k]? = some (.c (.row [])):=by
 unfold qE;have hl:(zB c 3 ((lmT t).take k)).length=k:=by rw [qR,List.length_take]; simp [lmT]; omega
 rw [List.getElem?_append_right (by omega),hl,Nat.sub_self,List.getElem?_replicate,if_pos (by omega)]
theorem zm1 {c:Nat} {t:List (List Mark)} {k:Nat} (hk:k < t.length) (y:PV):(qE c t k).set k y=zB c 3 ((lmT t).take k)++y::List.replicate (t.length - (k+1)) (.c (.row [])):=by
 unfold qE;have hl:(zB c 3 ((lmT t).take k)).length=k:=by rw [qR,List.length_take]; simp [lmT]; omega
 rw [List.set_append_right _ _ (by omega),hl,Nat.sub_self,show t.length - k=(t.length - (k+1))+1 by omega,List.replicate_succ,List.set_cons_zero]
theorem zmY {c:Nat} {t:List (List Mark)}:qE c t t.length=zB c 3 (lmT t):=by
 unfold qE;rw [Nat.sub_self,List.replicate_zero,List.append_nil,show t.length=(lmT t).length by simp [lmT],List.take_length]
theorem zeZ {c:Nat} {t:List (List Mark)} {k:Nat} {m:XM} (h:∀ i < ((lmT t).take k).length,(lkX m (16 * (3+i)+c)).isSome=true):((qE c t k).all fun x=>x.cells.all (in1X m))=true:=by
 unfold qE;rw [List.all_append,yE h,Bool.true_and,List.all_eq_true];intro x hx;rw [(List.mem_replicate.1 hx).2]; rfl
def zj0:XC:=(.s (.r [.a2 2 1 25]) (.s (.r [.mv 5 0,.n1 6 5,.ex 7 (.mks 1 24 25 (.c (.row [])) 6),.a1 3 7 1 25]) (.s (.s (.r [.m1 4 (.i 0)]) (.blk 0 (.loop (.s (.s (.r [.mv 8 4,.mv 9 0,.n1 10 9,.b1 11 .lss 8 10]) (.ce 11 0)) (.s (.blk 1 (.r [.mv 14 3,.mv 15 4,.mv 16 0,.mv 17 4,.i1 18 1 16 17,.l1 19 1 18,.o1 20 59 [19],.i1 21 1 14 15,.s1 1 21 20])) (.ic 12 13 4)))))) (.s (.r [.mv 22 3,.a1 2 22 1 25]) .ret))))
theorem zj1:zh Tryz.prog [59] 58=some (zj0.ac,[(.t 2)],23):=by kernel_rfl
theorem zln (W0:World) (t:List (List Mark)) (ht:t.length≤1048576) (ht2:∀ l∈t,l.length≤1048576):zy Tryz.prog W0 58 [.c (zT t)] [] (fun _:Unit=>True) (fun _ => .own 39 t.length) (fun _=>(39,.rowP (zB 7 3 (lmT t)) 25)::je 7 3 34 3 (lmT t)):=by
 refine fW' [] mixed zj1 (fun hg=>?_) rfl;have hlm:(lmT t).length=t.length:=by simp [lmT]
 refine dr ?_;refine lq (σ:=Nat) (fun k=>[(0,.c (zT t)),(3,.own 112 t.length),(4,I k)]) (fun k=>(112,.rowP (qE 7 t k) 25)::je 7 3 34 3 ((lmT t).take k)) (fun k=>k≤t.length) (fun k=>t.length - k) 0 (by simp) ?_ ?_
 ·refine zx.er (zH.s (z:=none) (m2:=[(112,.row (List.replicate t.length (.row [])) 1 25)]) ?_) (by simp [er,XB.er,qE,zB,je]);refine dr ?_;trivial
 intro k hk;have tl:((lmT t).take k).length=k:=by simp; omega
 obtain ⟨T,O,fa⟩:=famP 7 3 34 3 ((lmT t).take k);rw [fa.t];refine dr ?_;apply cP<;>intro h1
 ·have hk':k < t.length:=by omega
  have q:zy Tryz.prog W0 59 [.c (zd t[k])] [] (fun _:Unit=>True) (fun _ => .own 6 t[k].length) (fun _=>[(6,.row (t[k].map zm) 3 34)]):=(zdj W0 _ (ht2 _ (List.getElem_mem hk'))).swp 4 6;refine dr ?_;refine oF (cs:=[zd t[k]]) q rfl ?_ rfl ⟨(),trivial⟩ fun _ _=>⟨rfl,⟨⟨ZS,(jY (P:=[_]) rfl).trans (fa.no (.inl (by decide)))⟩,trivial⟩,?_⟩
  ·exact zi (zeZ fun i hi=>by
    show (lkX (_::T) _).isSome=true;rw [zc (by omega),fa.row hi]; rfl) fa.inT
  refine dEr ?_;repeat ((first|refine oB (zm0 hk) ?_|refine Qw (zmZ hk') ?_); first|refine dEr ?_|exact dz)
  refine ⟨k+1,by omega,by omega,?_⟩;have hN:∀ i < ((lmT t).take k).length,sw 6 (16 * (3+k)+7) (16 * (3+i)+7)=16 * (3+i)+7:=fun i hi=>qB (by omega) (by omega)
  have hNN:sw 6 (16 * (3+k)+7) (16 * (3+k)+7)=6:=by
   unfold sw;have:Nat.beq (16 * (3+k)+7) 6=false:=by
    cases hb:Nat.beq (16 * (3+k)+7) 6 with
    | false=>rfl
    | true=>have:=Nat.eq_of_beq_eq_true hb; omega
   rw [this,Nat.beq_refl]
  have hN6:sw 6 (16 * (3+k)+7) 6=16 * (3+k)+7:=rfl;have hkl:k < (lmT t).length:=by omega
  have tk:(lmT t).take (k+1)=(lmT t).take k++[t[k].map zm]:=by rw [List.take_succ_eq_append_getElem hkl]; simp [lmT]
  refine zx.rn 6 (16 * (3+k)+7) rfl rfl ⟨⟨_,rfl,rfl⟩,⟨_,rfl,rnO (qB (by decide) (by omega))⟩,⟨_,rfl,rfl⟩,trivial⟩
   ⟨⟨_,Yx (qB (by decide) (by omega)) rfl,?_⟩,Jz fun i hi=>?_⟩ (fun id h=>by cases h) ?_ rfl
  ·rw [zm1 hk'];simp only [yY,List.map_append,List.map_cons];rw [YQ fun i hi=>hN i hi];unfold qE;rw [tk,zbA,tl,List.append_assoc]
   congr 2
   simp only [List.singleton_append]
   congr 1
   ·show PV.own (sw 6 (16 * (3+k)+7) 6) _=_;rw [hN6];simp
   ·rw [List.map_replicate]; rfl
  ·by_cases hik:i < k
   ·rw [hN i (by omega)];show lkX (_::_::T) _=_;rw [zc (by simp<;>omega),zc (by simp<;>omega),fa.row (by omega)];simp
   ·have hi2:i < k+1:=by simpa [tk,tl] using hi
    have:i=k:=by omega
    subst this;rw [hNN];have e:((lmT t).take (i+1))[i]=t[i].map zm:=by simp [lmT]
    rw [e];rfl
  ·refine zi (zeZ fun i hi=>?_) yx;rw [zc (by omega),qX hi]; rfl
 have hkl:k=t.length:=by omega
 subst hkl;rw [zmY];have tlk:(lmT t).take t.length=lmT t:=by rw [← hlm,List.take_length]
 rw [tlk] at fa;refine dr ?_;have hN:∀ i < (lmT t).length,sw 112 39 (16 * (3+i)+7)=16 * (3+i)+7:=fun i hi=>qB (by omega) (by omega)
 refine ⟨some 3,_,_,?_,(),trivial,rfl,rfl⟩;refine zx.rn 112 39 rfl rfl ⟨⟨_,rfl,rfl⟩,trivial⟩ ⟨⟨_,rfl,congrArg (fun L=>XB.rowP L 25) (YQ hN)⟩,Jz fun i hi=>?_⟩ (fun id h=>by cases h) ?_ rfl
 ·rw [hN i hi];show lkX (_::T) _=_;rw [zc (by omega),fa.row hi]
 ·exact zi (yE fun i hi=>by rw [zc (by omega),qX hi]; rfl) yx
theorem zma {o:Over}:lmT o.layers=lmL o:=rfl
theorem zeX {o:Over}:inMX (ovM 7 o)=true:=zi rfl (zi rfl (zi (yE fun i hi=>by unfold ovM; rw [zc (by omega),zc (by omega),zc (by omega),qX hi]; rfl) yx))
def zj2:XC:=(.s (.r [.x1 1 0,.ex 2 (.alloc [.nil,.nil,.nil])]) (.s (.r [.ex 3 (.alloc [.nil,.nil,.nil])]) (.s (.r [.f1 4 0 1,.l1 5 1 4,.o1 6 57 [5],.f1 7 0 3,.s1 1 7 6]) (.cut (.r [.f1 8 1 1,.l1 9 1 8,.o1 10 58 [9],.f1 11 1 3,.s1 1 11 10]) (.s (.r [.f1 12 2 1,.l1 13 1 12,.o1 14 59 [13],.f1 15 2 3,.s1 1 15 14]) (.s (.r [.l2 16 3 3,.s1 3 2 16]) .ret))))))
theorem zj3:zh Tryz.prog [57,58,59] 19=some (zj2.ac,[(.cell 2 true 3)],17):=by kernel_rfl
theorem zlp (W0:World) (o:Over) (h1:o.base.length≤1048576) (h2:o.layers.length≤1048576) (h3:∀ l∈o.layers,l.length≤1048576) (h4:o.upper.length≤1048576) :
  zy Tryz.prog W0 19 [.c (zY o)] [] (fun _:Unit=>True) (fun _=>ovP 7 o) (fun _=>ovM 7 o):=by
 refine fW' [] mixed zj3 (fun hg=>?_) rfl;obtain ⟨T,O,fa⟩:=famP 7 3 34 3 (lmL o);have qb:zy Tryz.prog W0 57 [.c (zj o.base)] [] (fun _:Unit=>True) (fun _ => .own 7 o.base.length) (fun _=>[(7,.row (o.base.map zv) 3 77)]):=(zll W0 _ h1).swp 4 7;have qu:zy Tryz.prog W0 59 [.c (zd o.upper)] [] (fun _:Unit=>True) (fun _ => .own 23 o.upper.length) (fun _=>[(23,.row (o.upper.map zm) 3 34)]):=(zdj W0 _ h4).swp 4 23;have ql:=zln W0 o.layers h2 h3;rw [zma,fa.t,fa.o] at ql;have hsk:∀ {m:XM} {id:Nat},id % 16≠7→lkX (apX T m) id=lkX m id:=fun h=>fa.skip (.inr h)
 refine dEr ?_;refine oW qb rfl trivial rfl rfl ⟨(),trivial⟩ fun _ _=>⟨rfl,?_⟩
 refine dEr ?_;refine cutz (σ:=Unit) 3 (fun _=>[(1,.ptr 16 0),(2,.ptr 32 0),(3,.ptr 48 0)])
  (fun _=>(16,.box [.c (zj o.base),.c (zT o.layers),.c (zd o.upper)])::(32,.box [.nil,.nil,.nil])::(48,.box [.own 7 o.base.length,.own 39 o.layers.length,.nil])::(7,.row (o.base.map zv) 3 77)::(39,.rowP O 25)::T) (fun _=>True) ?_ ?_
 ·refine dr ?_;refine oF (cs:=[zT o.layers]) ql rfl rfl rfl ⟨(),trivial⟩ fun _ _=>⟨rfl,?_,?_⟩
  ·rw [← fa.t,← fa.o];refine ⟨⟨zbJ,rfl⟩,zbl zff fun i hi=>?_⟩;show lkX [_,_,_,_] _=none;rw [zc (by simp<;>omega),zc (by simp<;>omega),zc (by simp<;>omega),zc (by simp<;>omega)]; rfl
  have h48:∀ {m:XM},lkX m 48=some (.box [.own 7 o.base.length,.nil,.nil])→lkX (apX ((39,.rowP O 25)::T) m) 48=some (.box [.own 7 o.base.length,.nil,.nil]):=fun h=>(jY (P:=[_]) rfl).trans ((hsk (by decide)).trans h)
  refine dEr ?_;refine onI (h48 rfl) ?_;refine dEr ?_;refine ⟨(),trivial,?_⟩;have hup:∀ {m:XM} {b:XB} {id:Nat} {y:XB},id % 16≠7→id≠39→id≠48→lkX m id=some y→lkX (updX (apX ((39,.rowP O 25)::T) m) 48 b) id=some y:=fun h1 h2 h3 h4=>(zaf h3).trans ((zc h2).trans ((hsk h1).trans h4))
  exact zx.ls ⟨rfl,rfl,rfl,trivial⟩ ⟨hup (by decide) (by decide) (by decide) rfl,hup (by decide) (by decide) (by decide) rfl,zos (h48 rfl),(zaf (by decide)).trans ((zc (by decide)).trans ((fa.skip (.inl (by decide))).trans rfl)),(zaf (by decide)).trans rfl,fa.mmS fun i hi=>(zaf (by omega)).trans ((zc (by omega)).trans (fa.fst hi))⟩ (fun id h=>by cases h)
   (zi rfl (zi rfl (zi rfl (zi rfl (zi (fa.inO fun i hi=>by
    rw [zc (by omega),zc (by omega),zc (by omega),zc (by omega),zc (by omega),fa.row hi]; rfl) fa.inT))))) rfl
 intro _ _;refine dr ?_;refine oF (cs:=[zd o.upper]) qu rfl ?_ rfl ⟨(),trivial⟩ fun _ _=>⟨rfl,⟨⟨ZS,(jY (P:=[_,_,_,_,_]) rfl).trans (fa.no (id:=23) (.inl (by decide)))⟩,trivial⟩,?_⟩
 ·exact zi rfl (zi rfl (zi rfl (zi rfl (zi (fa.inO fun i hi=>by
   show (lkX (_::_::_::_::_::T) _).isSome=true;rw [zc (by omega),zc (by omega),zc (by omega),zc (by omega),zc (by omega),fa.row hi]; rfl) fa.inT))))
 refine dEr ?_;refine ⟨some 3,_,_,?_,(),trivial,rfl,rfl⟩;refine zx.ls ⟨rfl,trivial⟩ ⟨rfl,rfl,congrArg (fun L=>some (XB.rowP L 25)) fa.o.symm,yD fun i hi=>?_⟩ (fun id h=>by cases h) zeX rfl;show lkX (_::_::_::_::_::_::T) _=_;rw [zc (by simp<;>omega),zc (by simp<;>omega),zc (by simp<;>omega),zc (by simp<;>omega),zc (by simp<;>omega),zc (by simp<;>omega)];exact fa.row hi
end Go.Proofs.YtmkmldepkponaaaGreatDoor

namespace Go.Proofs.YtmkmldepkponaaaGreatDoor
set_option linter.unusedSimpArgs false
set_option linter.unusedVariables false
open Go Go.RowKit
def digF:Nat→Nat→Str→Str
 | 0,_,out=>out
 | f+1,n,out=>if n=0 then out else digF f (n / 10) (UInt8.ofNat (48+n % 10)::out)
theorem zcH:∀ (f g n:Nat) (out:Str),n < f→n < g→digF f n out=digF g n out
 | 0,_,_,_,h,_=>by omega
 | _+1,0,_,_,_,h=>by omega
 | f+1,g+1,n,out,h1,h2=>by
  unfold digF;by_cases h:n=0
  ·rw [if_pos h,if_pos h]
  ·rw [if_neg h,if_neg h];exact zcH f g _ _ (by omega) (by omega)
theorem zki {n:Nat} {out:Str} (h:n≠0):digF (n+1) n out=digF (n / 10+1) (n / 10) (UInt8.ofNat (48+n % 10)::out):=by
 conv=>lhs; unfold digF
 rw [if_neg h];exact zcH _ _ _ _ (by omega) (by omega)
theorem zkj {out:Str}:digF 1 0 out=out:=rfl
def mT (k:Int):Str:=if k≤0 then [109,48] else 109::digF (k.toNat+1) k.toNat []
def entM (k:Int):Ent:=⟨mT k,(k+1) % 3==0,mT (k+2)⟩
def yd (k:Int):Mark:=⟨mT k,k+1,mT (k+2)⟩
def mkE (k:Int) (n:Nat):List Ent:=(List.range n).map fun i:Nat=>entM (k+3 * i)
def mkM (k:Int) (n:Nat):List Mark:=(List.range n).map fun i:Nat=>yd (k+3 * i)
theorem YI {k:Int} {n:Nat}:(mkE k n).length=n:=by simp [mkE]
theorem Qs {k:Int} {n:Nat}:(mkM k n).length=n:=by simp [mkM]
theorem zeA {k:Int} {n i:Nat} (h:i < (mkE k n).length):(mkE k n)[i]=entM (k+3 * i):=by simp [mkE]
theorem zeC {k:Int} {n i:Nat} (h:i < (mkM k n).length):(mkM k n)[i]=yd (k+3 * i):=by simp [mkM]
def part {α:Type} (a t:List α) (i:Nat):List α:=a.take i++t.drop i
theorem YS {α:Type} {a t:List α} {i:Nat} (h:a.length=t.length) (hi:i≤t.length):(part a t i).length=t.length:=by
 unfold part; simp; omega
theorem zbC {α:Type} {a t:List α}:part a t 0=t:=by simp [part]
theorem YR {α:Type} {a t:List α} (h:a.length=t.length):part a t t.length=a:=by
 unfold part; rw [List.drop_length,List.append_nil,← h,List.take_length]
theorem zbD {α:Type} {a t:List α} {i:Nat} (h:a.length=t.length) (hi:i < t.length):(part a t i)[i]? = some t[i]:=by
 unfold part;rw [List.getElem?_append_right (by simp; omega),List.length_take,Nat.min_eq_left (by omega),Nat.sub_self,List.getElem?_drop,Nat.add_zero];exact List.getElem?_eq_getElem hi
theorem zbE {α:Type} {a t:List α} {i:Nat} (h:a.length=t.length) (hi:i < t.length) (y:α) (hy:y=a[i]):(part a t i).set i y=part a t (i+1):=by
 subst hy;unfold part;rw [List.set_append_right _ _ (by simp; omega),List.length_take,Nat.min_eq_left (by omega),Nat.sub_self,List.drop_eq_getElem_cons hi,List.set_cons_zero,List.take_succ_eq_append_getElem (by omega),List.append_assoc];rfl
def ssK:Int→List (List Mark)→Int
 | k,[]=>k
 | k,l::L=>ssK (k+3 * l.length) L
def jb:Int→List (List Mark)→List (List Mark)
 | _,[]=>[]
 | k,l::L=>mkM k l.length::jb (k+3 * l.length) L
theorem YJ:∀ {L:List (List Mark)} {k:Int},(jb k L).length=L.length
 | [],_=>rfl
 | l::L,k=>by simp [jb,YJ (L:=L)]
theorem zbT:∀ {L:List (List Mark)} {k:Int} {i:Nat} (h:i < L.length),ssK k (L.take (i+1))=ssK k (L.take i)+3 * (L[i].length:Int)
 | [],_,_,h=>by simp at h
 | l::L,k,0,_=>by simp [ssK]
 | l::L,k,i+1,h=>by
  simp only [List.take_succ_cons,ssK];rw [zbT (by simpa using h)];simp
theorem zbg:∀ {L:List (List Mark)} {k:Int} {i:Nat} (h:i < L.length),(jb k L)[i]? = some (mkM (ssK k (L.take i)) L[i].length)
 | [],_,_,h=>by simp at h
 | l::L,k,0,_=>by simp [jb,ssK]
 | l::L,k,i+1,h=>by
  simp only [jb,List.getElem?_cons_succ,List.take_succ_cons,ssK];rw [zbg (by simpa using h)];simp
theorem zfW:∀ {L:List (List Mark)} {k:Int},k≤ssK k L
 | [],k=>Int.le_refl _
 | l::L,k=>Int.le_trans (by omega) (zfW (L:=L) (k:=k+3 * l.length))
def sumL (L:List (List Mark)):Nat:=(L.map List.length).sum
theorem ZW:∀ {L:List (List Mark)} {k:Int},ssK k L=k+3 * (sumL L:Int)
 | [],k=>by simp [ssK,sumL]
 | l::L,k=>by
  rw [ssK,ZW];simp only [sumL,List.map_cons,List.sum_cons];omega
theorem zf2 (L:List (List Mark)) (i:Nat):sumL (L.take i)≤sumL L:=by
 have h:sumL (L.take i++L.drop i)=sumL (L.take i)+sumL (L.drop i):=by
  unfold sumL; rw [List.map_append,List.sum_append]
 rw [List.take_append_drop] at h;omega
def mkO (k:Int) (o:Over):Over:=⟨mkE k o.base.length,jb (k+3 * o.base.length) o.layers,mkM (ssK (k+3 * o.base.length) o.layers) o.upper.length⟩
def mkK (k:Int) (o:Over):Int:=ssK (k+3 * o.base.length) o.layers+3 * o.upper.length
theorem zeB {k:Int} {o:Over}:k≤mkK k o:=by
 have:=@zfW o.layers (k+3 * o.base.length);unfold mkK; omega
end Go.Proofs.YtmkmldepkponaaaGreatDoor

namespace Go.Proofs.YtmkmldepkponaaaGreatDoor
set_option linter.unusedSimpArgs false
set_option linter.unusedVariables false
open Go Go.RowKit
def zie:XC:=(.s (.r [.ex 2 (.mv (.s []))]) (.s (.s (.r [.mv 4 0,.b1 5 .leq 4 (.i 0)]) (.cnd 5 (.s (.r [.ex 2 (.mv (.s [109,48]))]) .ret) .skip)) (.s (.r [.ex 3 (.mv (.s []))]) (.s (.blk 0 (.loop (.s (.s (.r [.mv 6 0,.b1 7 .gtr 6 (.i 0)]) (.ce 7 0)) (.blk 1 (.s (.r [.mv 8 0,.b1 9 .rem 8 (.i 10),.b1 10 .add (.i 48) 9,.ex 11 (.conv .u8 10),.ex 12 (.bsl 1 5 [11]),.ex 13 (.b2s 12),.mv 14 3,.b1 15 .add 13 14,.mv 3 15]) (.r [.mv 16 0,.b1 17 .quo 16 (.i 10),.mv 0 17])))))) (.s (.r [.mv 18 3,.ex 19 (.bin .add (.s [109]) 18),.mv 2 19]) .ret)))))
theorem zif:zh Tryz.prog [] 65=some (zie.ac,[(.t 2)],20):=by kernel_rfl
theorem Yj (W0:World) (k:Int) (hk:k≤1000000000):Fn Tryz.prog W0 65 [CI k] (.c (CS (mT k))) []:=by
 refine fX mixed zif fun hg=>?_
 refine dr ?_;apply cP<;>intro h1
 ·refine dr ?_;rw [mT,if_pos h1]
 refine dr ?_;refine lp2 (fun (n:Nat) (out:Str)=>[(0,.c (CI n)),(3,.c (CS out))]) (fun _ _=>[]) (fun n out=>n+out.length≤1000000000∧digF (n+1) n out=digF (k.toNat+1) k.toNat []) (fun n _=>n) k.toNat [] ⟨by simp; omega,rfl⟩ ?_ ?_
 ·refine dr ?_;repeat (refine oB (by rw [Int.toNat_of_nonneg (by omega)]) ?_; first|refine dr ?_|exact dz)
  trivial
 rintro n out ⟨hn,hd⟩;refine dr ?_;apply cP<;>intro h2
 ·have hch:(48+(n:Int) % 10).toNat=48+n % 10:=by omega
  refine dr ?_;repeat ((first|refine oB ⟨by omega,by decide,by omega⟩ ?_|refine oB (show (1:Nat)≤9223372036854775807 by decide) ?_|refine oB (show 1+out.length≤9223372036854775807 by omega) ?_); first|refine dr ?_|exact dz)
  refine ⟨n / 10,UInt8.ofNat (48+n % 10)::out,⟨by simp; omega,by rw [← zki (by omega)]; exact hd⟩,by omega,?_⟩;refine dr ?_;repeat (refine oB (congrArg (fun c=>PV.c (CS (UInt8.ofNat c::out))) hch) ?_; first|refine dr ?_|exact dz)
  trivial
 ·have:n=0:=by omega
  subst this;rw [zkj] at hd;refine dr ?_;repeat (refine oB (by simp; omega) ?_; first|refine dr ?_|exact dz)
  rw [mT,if_neg (by omega),← hd];rfl
def zh6:XC:=(.s (.r [.m1 4 (.i 0)]) (.s (.s (.r [.m1 5 (.i 0)]) (.blk 0 (.loop (.s (.s (.r [.mv 6 5,.mv 7 0,.n1 8 7,.b1 9 .lss 6 8]) (.ce 9 0)) (.s (.blk 1 (.s (.r [.mv 12 0,.mv 13 5,.mv 14 1,.c1 15 65 [14],.i1 16 3 12 13,.f1 17 0 16,.s1 1 17 15]) (.s (.ic 18 19 1) (.s (.r [.mv 20 0,.mv 21 5,.mv 22 1,.b1 23 .rem 22 (.i 3),.b1 24 .eql 23 (.i 0),.i1 25 3 20 21,.f1 26 1 25,.s1 1 26 24]) (.s (.ic 27 28 1) (.s (.r [.mv 29 0,.mv 30 5,.mv 31 1,.c1 32 65 [31],.i1 33 3 29 30,.f1 34 2 33,.s1 1 34 32]) (.ic 35 36 1))))))) (.ic 10 11 5)))))) (.s (.r [.mv 37 1,.mv 4 37]) .ret)))
theorem zh7:zh Tryz.prog [] 24=some (zh6.ac,[(.t 4)],38):=by kernel_rfl
theorem zkZ (W0:World) (t:List Ent) (k:Int) (hk:0≤k∧k≤100000000) (ht:t.length≤1048576):zy Tryz.prog W0 24 [.own 4 t.length,.c (CI k)] [(4,.row (t.map zv) 3 77)] (fun _:Unit=>True) (fun _ => .c (CI (k+3 * t.length))) (fun _=>[(4,.row ((mkE k t.length).map zv) 3 77)]):=by
 refine fW mixed zh7 fun hg=>?_
 have hml:(mkE k t.length).length=t.length:=YI;refine dr ?_;refine lp (σ:=Nat) (fun i=>[(0,.own 4 t.length),(1,I (k+3 * i)),(5,I i)]) (fun i=>[(4,.row ((part (mkE k t.length) t i).map zv) 3 77)]) (fun i=>i≤t.length) (fun i=>t.length - i) 0 (by simp) ?_ ?_
 ·refine dr ?_;repeat ((first|refine oB (by simp) ?_|refine oB (by rw [zbC]) ?_); first|refine dr ?_|exact dz)
  trivial
 intro i hi;have hpl:=YS hml hi;refine dr ?_;apply cP<;>intro h1
 ·have hi':i < t.length:=by omega
  have hat:=zbD hml hi';have h0:((part (mkE k t.length) t i).map zv)[i]? = some (zv t[i]):=by rw [List.getElem?_map,hat]; rfl
  have hl0:((part (mkE k t.length) t i).map zv).length=t.length:=by simpa using hpl
  have hs:∀ y,(((part (mkE k t.length) t i).map zv).set i y)[i]? = some y:=fun y=>List.getElem?_set_self (by omega)
  have hs2:∀ y z,((((part (mkE k t.length) t i).map zv).set i y).set i z)[i]? = some z:=fun y z=>List.getElem?_set_self (by rw [List.length_set]; omega)
  refine dEr ?_;repeat ((first|refine c0 (Yj W0 _ (by omega)) rfl ?_|refine oB (by first|exact hl0|(simp only [List.length_set]; exact hl0)) ?_|refine aE (j:=i) rfl h0 ?_|refine aE (j:=i) rfl (hs _) ?_|refine aE (j:=i) rfl (hs2 _ _) ?_|refine oB ⟨by omega,by decide,by omega⟩ ?_); first|refine dEr ?_|exact dz)
  have hm:zv (mkE k t.length)[i]=zv (entM (k+3 * i)):=by rw [zeA]
  refine ⟨i+1,by omega,by omega,?_⟩;have hfin:∀ y z x,x=zv (entM (k+3 * i))→(((((part (mkE k t.length) t i).map zv).set i y).set i z).set i x)=(part (mkE k t.length) t (i+1)).map zv:=fun y z x hx=>by
   rw [List.set_set,List.set_set,hx,← hm,← List.map_set,zbE hml hi' _ rfl]
  refine dr ?_;repeat ((first|refine oB (congrArg I (by omega)) ?_|refine oB (congrArg (fun r=>XB.row r 3 77) (hfin _ _ _ (by simp [zv,zm,entM,yd,yu,Int.add_assoc]))) ?_); first|refine dr ?_|exact dz)
  trivial
 ·have:i=t.length:=by omega
  subst this;rw [YR hml];refine dr ?_;refine ⟨none,_,_,?_,(),trivial,rfl,rfl⟩;refine dr ?_;trivial
def zh8:XC:=(.s (.r [.m1 4 (.i 0)]) (.s (.s (.r [.m1 5 (.i 0)]) (.blk 0 (.loop (.s (.s (.r [.mv 6 5,.mv 7 0,.n1 8 7,.b1 9 .lss 6 8]) (.ce 9 0)) (.s (.blk 1 (.s (.r [.mv 12 0,.mv 13 5,.mv 14 1,.c1 15 65 [14],.i1 16 3 12 13,.f1 17 0 16,.s1 1 17 15]) (.s (.ic 18 19 1) (.s (.r [.mv 20 0,.mv 21 5,.mv 22 1,.i1 23 3 20 21,.f1 24 1 23,.s1 1 24 22]) (.s (.ic 25 26 1) (.s (.r [.mv 27 0,.mv 28 5,.mv 29 1,.c1 30 65 [29],.i1 31 3 27 28,.f1 32 2 31,.s1 1 32 30]) (.ic 33 34 1))))))) (.ic 10 11 5)))))) (.s (.r [.mv 35 1,.mv 4 35]) .ret)))
theorem zib:zh Tryz.prog [] 64=some (zh8.ac,[(.t 4)],36):=by kernel_rfl
theorem zda (W0:World) (t:List Mark) (k:Int) (hk:0≤k∧k≤100000000) (ht:t.length≤1048576):zy Tryz.prog W0 64 [.own 4 t.length,.c (CI k)] [(4,.row (t.map zm) 3 34)] (fun _:Unit=>True) (fun _ => .c (CI (k+3 * t.length))) (fun _=>[(4,.row ((mkM k t.length).map zm) 3 34)]):=by
 refine fW mixed zib fun hg=>?_
 have hml:(mkM k t.length).length=t.length:=Qs;refine dr ?_;refine lp (σ:=Nat) (fun i=>[(0,.own 4 t.length),(1,I (k+3 * i)),(5,I i)]) (fun i=>[(4,.row ((part (mkM k t.length) t i).map zm) 3 34)]) (fun i=>i≤t.length) (fun i=>t.length - i) 0 (by simp) ?_ ?_
 ·refine dr ?_;repeat ((first|refine oB (by simp) ?_|refine oB (by rw [zbC]) ?_); first|refine dr ?_|exact dz)
  trivial
 intro i hi;have hpl:=YS hml hi;refine dr ?_;apply cP<;>intro h1
 ·have hi':i < t.length:=by omega
  have hat:=zbD hml hi';have h0:((part (mkM k t.length) t i).map zm)[i]? = some (zm t[i]):=by rw [List.getElem?_map,hat]; rfl
  have hl0:((part (mkM k t.length) t i).map zm).length=t.length:=by simpa using hpl
  have hs:∀ y,(((part (mkM k t.length) t i).map zm).set i y)[i]? = some y:=fun y=>List.getElem?_set_self (by omega)
  have hs2:∀ y z,((((part (mkM k t.length) t i).map zm).set i y).set i z)[i]? = some z:=fun y z=>List.getElem?_set_self (by rw [List.length_set]; omega)
  refine dEr ?_;repeat ((first|refine c0 (Yj W0 _ (by omega)) rfl ?_|refine oB (by first|exact hl0|(simp only [List.length_set]; exact hl0)) ?_|refine aE (j:=i) rfl h0 ?_|refine aE (j:=i) rfl (hs _) ?_|refine aE (j:=i) rfl (hs2 _ _) ?_|refine oB ⟨by omega,by decide,by omega⟩ ?_); first|refine dEr ?_|exact dz)
  have hm:zm (mkM k t.length)[i]=zm (yd (k+3 * i)):=by rw [zeC]
  refine ⟨i+1,by omega,by omega,?_⟩;have hfin:∀ y z x,x=zm (yd (k+3 * i))→(((((part (mkM k t.length) t i).map zm).set i y).set i z).set i x)=(part (mkM k t.length) t (i+1)).map zm:=fun y z x hx=>by
   rw [List.set_set,List.set_set,hx,← hm,← List.map_set,zbE hml hi' _ rfl]
  refine dr ?_;repeat ((first|refine oB (congrArg I (by omega)) ?_|refine oB (congrArg (fun r=>XB.row r 3 34) (hfin _ _ _ (by simp [zv,zm,entM,yd,yu,Int.add_assoc]))) ?_); first|refine dr ?_|exact dz)
  trivial
 ·have:i=t.length:=by omega
  subst this;rw [YR hml];refine dr ?_;refine ⟨none,_,_,?_,(),trivial,rfl,rfl⟩;refine dr ?_;trivial
end Go.Proofs.YtmkmldepkponaaaGreatDoor

namespace Go.Proofs.YtmkmldepkponaaaGreatDoor
set_option linter.unusedSimpArgs false
set_option linter.unusedVariables false
open Go Go.RowKit
theorem ksn {a b:Str} {A B:Prop} (h:a=b) (k:B):cndX (!eqS a b) A B:=by rw [zaD.2 h]; exact k
theorem kbn {a b:Bool} {A B:Prop} (h:a=b) (k:B):cndX (!eqB a b) A B:=by rw [Yc.2 h]; exact k
theorem kin {a b:Int} {A B:Prop} (h:a=b) (k:B):cndX (!eqI a b) A B:=by rw [Yd.2 h]; exact k
theorem klf {a b:Int} {A B:Prop} (h:b≤a) (k:B):cndX (ltI a b) A B:=by rw [za9.2 h]; exact k
def zhY:XC:=(.s (.r [.m1 4 (.i 0)]) (.s (.s (.r [.m1 5 (.i 0)]) (.blk 0 (.loop (.s (.s (.r [.mv 6 5,.mv 7 0,.n1 8 7,.b1 9 .lss 6 8]) (.ce 9 0)) (.s (.blk 1 (.s (.s (.d [.mv 12 0,.mv 13 5,.i1 14 3 12 13,.f1 15 0 14,.l1 16 1 15,.mv 17 1,.c1 18 65 [17],.b1 19 .neq 16 18]) (.cnd 19 (.s (.r [.ex 4 (.mv (.k (.c (.sc (.int .i64 (.negSucc 0))))))]) .ret) .skip)) (.s (.ic 20 21 1) (.s (.s (.r [.mv 22 0,.mv 23 5,.i1 24 3 22 23,.f1 25 1 24,.l1 26 1 25,.mv 27 1,.b1 28 .rem 27 (.i 3),.b1 29 .eql 28 (.i 0),.ex 30 (.bb true 26 29)]) (.cnd 30 (.s (.r [.ex 4 (.mv (.k (.c (.sc (.int .i64 (.negSucc 0))))))]) .ret) .skip)) (.s (.ic 31 32 1) (.s (.s (.d [.mv 33 0,.mv 34 5,.i1 35 3 33 34,.f1 36 2 35,.l1 37 1 36,.mv 38 1,.c1 39 65 [38],.b1 40 .neq 37 39]) (.cnd 40 (.s (.r [.ex 4 (.mv (.k (.c (.sc (.int .i64 (.negSucc 0))))))]) .ret) .skip)) (.ic 41 42 1))))))) (.ic 10 11 5)))))) (.s (.r [.mv 43 1,.mv 4 43]) .ret)))
theorem zhZ:zh Tryz.prog [] 25=some (zhY.ac,[(.t 4)],44):=by kernel_rfl
theorem zkF (W0:World) (k:Int) (n:Nat) (hk:0≤k∧k≤100000000) (hn:n≤1048576):Fn Tryz.prog W0 25 [zj (mkE k n),CI k] (.c (CI (k+3 * n))) []:=by
 refine fX mixed zhZ fun hg=>?_
 have hml:(mkE k n).length=n:=YI;refine dr ?_;refine lp (σ:=Nat) (fun i=>[(0,.c (zj (mkE k n))),(1,I (k+3 * i)),(5,I i)]) (fun _=>[]) (fun i=>i≤n) (fun i=>n - i) 0 (by simp) ?_ ?_
 ·refine dr ?_;repeat (refine oB (congrArg I (by simp)) ?_; first|refine dr ?_|exact dz)
  trivial
 intro i hi;refine dr ?_;apply cP<;>intro h1
 ·have hi':i < (mkE k n).length:=by omega
  have e1:(mkE k n)[i]=entM (k+3 * i):=zeA hi';refine dEr ?_;repeat ((first|refine c0 (Yj W0 _ (by omega)) rfl ?_|refine aM (j:=i) rfl hi' ?_|refine ksn (by rw [e1]; simp [entM,yd,Int.add_assoc]) ?_|refine kbn (by rw [e1]; simp [entM,yu]) ?_|refine kin (by rw [e1]; simp [yd]) ?_|refine oB ⟨by omega,by decide,by omega⟩ ?_); first|refine dEr ?_|exact dz)
  refine ⟨i+1,by omega,by omega,?_⟩;refine dr ?_;repeat (refine oB (congrArg I (by omega)) ?_; first|refine dr ?_|exact dz)
  trivial
 ·have h1:((mkE k n).length:Int)≤i:=h1;have:i=n:=by omega
  subst this;exact dz
def zh0:XC:=(.s (.r [.m1 4 (.i 0)]) (.s (.s (.r [.m1 5 (.i 0)]) (.blk 0 (.loop (.s (.s (.r [.mv 6 5,.mv 7 0,.n1 8 7,.b1 9 .lss 6 8]) (.ce 9 0)) (.s (.blk 1 (.s (.s (.d [.mv 12 0,.mv 13 5,.i1 14 3 12 13,.f1 15 0 14,.l1 16 1 15,.mv 17 1,.c1 18 65 [17],.b1 19 .neq 16 18]) (.cnd 19 (.s (.r [.ex 4 (.mv (.k (.c (.sc (.int .i64 (.negSucc 0))))))]) .ret) .skip)) (.s (.ic 20 21 1) (.s (.s (.r [.mv 22 0,.mv 23 5,.i1 24 3 22 23,.f1 25 1 24,.l1 26 1 25,.mv 27 1,.b1 28 .neq 26 27]) (.cnd 28 (.s (.r [.ex 4 (.mv (.k (.c (.sc (.int .i64 (.negSucc 0))))))]) .ret) .skip)) (.s (.ic 29 30 1) (.s (.s (.d [.mv 31 0,.mv 32 5,.i1 33 3 31 32,.f1 34 2 33,.l1 35 1 34,.mv 36 1,.c1 37 65 [36],.b1 38 .neq 35 37]) (.cnd 38 (.s (.r [.ex 4 (.mv (.k (.c (.sc (.int .i64 (.negSucc 0))))))]) .ret) .skip)) (.ic 39 40 1))))))) (.ic 10 11 5)))))) (.s (.r [.mv 41 1,.mv 4 41]) .ret)))
theorem zh3:zh Tryz.prog [] 69=some (zh0.ac,[(.t 4)],42):=by kernel_rfl
theorem zcV (W0:World) (k:Int) (n:Nat) (hk:0≤k∧k≤100000000) (hn:n≤1048576):Fn Tryz.prog W0 69 [zd (mkM k n),CI k] (.c (CI (k+3 * n))) []:=by
 refine fX mixed zh3 fun hg=>?_
 have hml:(mkM k n).length=n:=Qs;refine dr ?_;refine lp (σ:=Nat) (fun i=>[(0,.c (zd (mkM k n))),(1,I (k+3 * i)),(5,I i)]) (fun _=>[]) (fun i=>i≤n) (fun i=>n - i) 0 (by simp) ?_ ?_
 ·refine dr ?_;repeat (refine oB (congrArg I (by simp)) ?_; first|refine dr ?_|exact dz)
  trivial
 intro i hi;refine dr ?_;apply cP<;>intro h1
 ·have hi':i < (mkM k n).length:=by omega
  have e1:(mkM k n)[i]=yd (k+3 * i):=zeC hi';refine dEr ?_;repeat ((first|refine c0 (Yj W0 _ (by omega)) rfl ?_|refine aM (j:=i) rfl hi' ?_|refine ksn (by rw [e1]; simp [entM,yd,Int.add_assoc]) ?_|refine kbn (by rw [e1]; simp [entM,yu]) ?_|refine kin (by rw [e1]; simp [yd]) ?_|refine oB ⟨by omega,by decide,by omega⟩ ?_); first|refine dEr ?_|exact dz)
  refine ⟨i+1,by omega,by omega,?_⟩;refine dr ?_;repeat (refine oB (congrArg I (by omega)) ?_; first|refine dr ?_|exact dz)
  trivial
 ·have h1:((mkM k n).length:Int)≤i:=h1;have:i=n:=by omega
  subst this;exact dz
theorem zbh:∀ {t:List (List Mark)} {k:Int},(jb k t).map List.length=t.map List.length
 | [],_=>rfl
 | l::t,k=>by simp [jb,Qs,zbh (t:=t)]
theorem zen {t t':List (List Mark)} (h:t'.map List.length=t.map List.length):(lmT t').map List.length=(lmT t).map List.length:=by
 simpa [lmT,List.map_map,Function.comp_def] using h
theorem ze2 {t:List (List Mark)} {k:Int} {i:Nat}:(part (jb k t) t i).map List.length=t.map List.length:=by
 unfold part;rw [List.map_append,List.map_take,List.map_drop,zbh,List.take_append_drop]
def zh9:XC:=(.s (.r [.m1 4 (.i 0)]) (.s (.s (.r [.m1 5 (.i 0)]) (.blk 0 (.loop (.s (.s (.r [.mv 6 5,.mv 7 0,.n1 8 7,.b1 9 .lss 6 8]) (.ce 9 0)) (.s (.blk 1 (.r [.mv 12 0,.mv 13 5,.i1 14 1 12 13,.l1 15 1 14,.mv 16 1,.o1 17 64 [15,16],.mv 1 17])) (.ic 10 11 5)))))) (.s (.r [.mv 18 1,.mv 4 18]) .ret)))
theorem zia:zh Tryz.prog [64] 63=some (zh9.ac,[(.t 4)],19):=by kernel_rfl
theorem zk1 (W0:World) (t:List (List Mark)) (k:Int) (hk:0≤k∧k+3 * sumL t≤100000000) (ht:∀ l∈t,l.length≤1048576) (htl:t.length≤1048576) :
  zy Tryz.prog W0 63 [.own 39 t.length,.c (CI k)] ((39,.rowP (zB 7 3 (lmT t)) 25)::je 7 3 34 3 (lmT t)) (fun _:Unit=>True) (fun _ => .c (CI (ssK k t))) (fun _=>(39,.rowP (zB 7 3 (lmT t)) 25)::je 7 3 34 3 (lmT (jb k t))):=by
 refine fW' _ mixed zia (fun hg=>?_) rfl;have hml:(jb k t).length=t.length:=YJ;have hlm:∀ u:List (List Mark),(lmT u).length=u.length:=fun u=>by simp [lmT]
 have hO:∀ i,zB 7 3 (lmT (part (jb k t) t i))=zB 7 3 (lmT t):=fun i=>zbB (zen ze2)
 have hk0:∀ i id,(((39,XB.rowP (zB 7 3 (lmT t)) 25)::je 7 3 34 3 (lmT t)).map (·.1)).contains id=true→(lkX ((39,XB.rowP (zB 7 3 (lmT t)) 25)::je 7 3 34 3 (lmT (part (jb k t) t i))) id).isSome=true:=fun i id h=>by
  have:=zbk h;rw [lkX] at this ⊢;cases hb:Nat.beq id 39 with
  | true=>rfl
  | false =>
   rw [hb] at this;rw [Yk (L':=lmT t) (by
    have:=congrArg List.length (ze2 (t:=t) (k:=k) (i:=i))
    simpa [lmT] using this)]
   exact this
 generalize hkk:(((39,XB.rowP (zB 7 3 (lmT t)) 25)::je 7 3 34 3 (lmT t)).map (·.1))=kk at *;have hin:∀ i,inMX ((39,XB.rowP (zB 7 3 (lmT t)) 25)::je 7 3 34 3 (lmT (part (jb k t) t i)))=true:=fun i=>zi (by
  rw [← hO i];exact yE fun j hj=>by rw [zc (by omega),qX hj]; rfl) yx
 refine dr ?_;refine lq (σ:=Nat) (fun i=>[(0,.own 39 t.length),(1,I (ssK k (t.take i))),(5,I i)]) (fun i=>(39,.rowP (zB 7 3 (lmT t)) 25)::je 7 3 34 3 (lmT (part (jb k t) t i))) (fun i=>i≤t.length) (fun i=>t.length - i) 0 (by simp) ?_ ?_
 ·refine zx.ls ⟨rfl,rfl,rfl,trivial⟩ ⟨rfl,?_⟩ (hk0 0) (hin 0) rfl;rw [zbC];exact yD fun i hi=>by
   show lkX (_::je 7 3 _ 3 _) _=_;rw [zc (by omega),qX hi]
 intro i hi;obtain ⟨T,O,fa⟩:=famP 7 3 34 3 (lmT (part (jb k t) t i));have hOi:=fa.o;rw [hO i] at hOi;rw [fa.t,hOi];refine dr ?_;apply cP<;>intro h1
 ·have hi':i < t.length:=by omega
  have hpl:(part (jb k t) t i).length=t.length:=YS hml hi;have hlt:=ht _ (List.getElem_mem hi');have hss:=ZW (L:=t.take i) (k:=k);have hsu:=zf2 t i;have hat:(lmT (part (jb k t) t i))[i]'(by rw [hlm]; omega)=t[i].map zm:=by
   have:=zbD hml hi';have h2:(lmT (part (jb k t) t i))[i]? = some (t[i].map zm):=by simp [lmT,this]
   rw [List.getElem?_eq_getElem (by rw [hlm]; omega)] at h2;exact Option.some.inj h2
  have hget:O[i]? = some (.own (16 * (3+i)+7) t[i].length):=by
   rw [fa.get (by rw [hlm]; omega),hat]; simp
  have q:zy Tryz.prog W0 64 [.own (16 * (3+i)+7) t[i].length,.c (CI (ssK k (t.take i)))] [(16 * (3+i)+7,.row (t[i].map zm) 3 34)] (fun _:Unit=>True) (fun _ => .c (CI (ssK k (t.take i)+3 * t[i].length))) (fun _=>[(16 * (3+i)+7,.row ((mkM (ssK k (t.take i)) t[i].length).map zm) 3 34)]) :=
   (zda W0 t[i] (ssK k (t.take i)) ⟨by omega,by omega⟩ hlt).swp 4 (16 * (3+i)+7)
  refine dr ?_;repeat ((first|refine oB (fa.len.trans (by rw [hlm]; exact hpl)) ?_|refine Qw hget ?_); first|refine dr ?_|exact dz)
  refine oW' q (fun id b hb=>?_) rfl (by simp [inPX,inAX,in1X,lkX]) ⟨(),trivial⟩ fun _ _=>⟨fun id h => .inl ?_,?_⟩
  ·have hm:=yb hb;simp only [List.mem_singleton,Prod.mk.injEq] at hm;obtain ⟨rfl,rfl⟩:=hm;show lkX (_::T) _=_;rw [zc (by omega),fa.row (by rw [hlm]; omega),hat]
  ·rw [lkX] at h ⊢;cases hb:Nat.beq id (16 * (3+i)+7) with
   | true=>rfl
   | false=>rw [hb] at h; exact h
  have hne:∀ {m:XM} {b:XB} {id:Nat},id≠16 * (3+i)+7→lkX (ju m [(16 * (3+i)+7,b)]) id=lkX m id:=fun h=>by rw [qC,zc h]; rfl
  have heq:∀ {m:XM} {b:XB},lkX (ju m [(16 * (3+i)+7,b)]) (16 * (3+i)+7)=some b:=fun {m b}=>by rw [qC,lkX,Nat.beq_refl]
  have hsi:=zbT (k:=k) hi';have hpl2:(part (jb k t) t (i+1)).length=t.length:=YS hml (by omega);refine dEr ?_;refine ⟨i+1,by omega,by omega,?_⟩;rw [← hOi];refine zx.ls ⟨rfl,congrArg (fun n=>some (I n)) hsi.symm,rfl,trivial⟩ ⟨(hne (by omega)).trans rfl,yD fun j hj=>?_⟩ (hk0 (i+1)) (hin (i+1)) rfl;have hj':j < t.length:=by rw [hlm,hpl2] at hj; exact hj
  have hmi:(jb k t)[i]? = some (mkM (ssK k (t.take i)) t[i].length):=zbg hi';have hset:=zbE hml hi' _ (rfl:(jb k t)[i]'(by omega)=_);by_cases e:j=i
  ·subst e;refine heq.trans ?_;have h2:(lmT (part (jb k t) t (j+1)))[j]? = some ((mkM (ssK k (t.take j)) t[j].length).map zm):=by
    rw [← hset];simp only [lmT,List.getElem?_map,List.getElem?_set_self (show j < (part (jb k t) t j).length by omega)];rw [List.getElem?_eq_getElem (by omega)] at hmi;rw [Option.some.inj hmi]; rfl
   rw [List.getElem?_eq_getElem hj] at h2;rw [Option.some.inj h2]
  ·refine (hne (by omega)).trans ?_;show lkX (_::T) _=_;rw [zc (by omega),fa.row (by rw [hlm]; omega)];have h2:(lmT (part (jb k t) t (i+1)))[j]? = (lmT (part (jb k t) t i))[j]? := by
    rw [← hset];simp only [lmT,List.getElem?_map,List.getElem?_set_ne (Ne.symm e)]
   rw [List.getElem?_eq_getElem hj,List.getElem?_eq_getElem (by rw [hlm]; omega)] at h2;rw [Option.some.inj h2]
 ·have:i=t.length:=by omega
  subst this;rw [YR hml] at fa;rw [List.take_length];refine dr ?_;refine ⟨some 3,_,_,?_,(),trivial,rfl,rfl⟩;have hk1:=hk0 t.length;have hin1:=hin t.length;rw [YR hml] at hk1 hin1;rw [← hOi];exact zx.ls ⟨rfl,trivial⟩ ⟨rfl,yD fun j hj=>by
   show lkX (_::T) _=_;rw [zc (by omega),fa.row hj]⟩ hk1 hin1 rfl
end Go.Proofs.YtmkmldepkponaaaGreatDoor

namespace Go.Proofs.YtmkmldepkponaaaGreatDoor
set_option linter.unusedSimpArgs false
set_option linter.unusedVariables false
open Go Go.RowKit
theorem YP {c:Nat} {o:Over} {id:Nat} (h:id % 16≠c % 16):lkX (ovM c o) id=none:=by
 unfold ovM;rw [zc (by rintro rfl; exact h rfl),zc (by rintro rfl; omega),zc (by rintro rfl; omega)];exact zaM (.inr h)
theorem YO {c:Nat} {o o':Over} {id:Nat} (hl:o.layers.length=o'.layers.length):(lkX (ovM c o) id).isSome=(lkX (ovM c o') id).isSome:=by
 unfold ovM;simp only [lkX];cases Nat.beq id c<;>simp only
 ·cases Nat.beq id (16+c)<;>simp only
  ·cases Nat.beq id (32+c)<;>simp only
   ·exact Yk (by simp [lmL,hl])
   ·rfl
  ·rfl
 ·rfl
theorem zms {o:Over} {k:Int}:(mkO k o).layers.map List.length=o.layers.map List.length:=zbh
theorem ZO {o:Over} {k:Int}:(mkO k o).layers.length=o.layers.length:=YJ
def zh1:XC:=(.s (.r [.m1 4 (.i 0)]) (.s (.s (.r [.m1 5 (.i 0)]) (.blk 0 (.loop (.s (.s (.r [.mv 6 5,.mv 7 0,.n1 8 7,.b1 9 .lss 6 8]) (.ce 9 0)) (.s (.blk 1 (.s (.r [.mv 12 0,.mv 13 5,.i1 14 1 12 13,.l1 15 1 14,.mv 16 1,.c1 17 69 [15,16],.mv 1 17]) (.s (.r [.mv 18 1,.b1 19 .lss 18 (.i 0)]) (.cnd 19 (.s (.r [.ex 4 (.mv (.k (.c (.sc (.int .i64 (.negSucc 0))))))]) .ret) .skip)))) (.ic 10 11 5)))))) (.s (.r [.mv 20 1,.mv 4 20]) .ret)))
theorem zh2:zh Tryz.prog [] 68=some (zh1.ac,[(.t 4)],21):=by kernel_rfl
theorem zkG (W0:World) (k:Int) (t:List (List Mark)) (hk:0≤k∧k+3 * sumL t≤100000000) (ht:∀ l∈t,l.length≤1048576) (htl:t.length≤1048576):Fn Tryz.prog W0 68 [zT (jb k t),CI k] (.c (CI (ssK k t))) []:=by
 refine fX mixed zh2 fun hg=>?_
 have hml:(jb k t).length=t.length:=YJ;refine dr ?_;refine lp (σ:=Nat) (fun i=>[(0,.c (zT (jb k t))),(1,I (ssK k (t.take i))),(5,I i)]) (fun _=>[]) (fun i=>i≤t.length) (fun i=>t.length - i) 0 (by simp) ?_ ?_
 ·refine dr ?_;trivial
 intro i hi;refine dr ?_;apply cP<;>intro h1
 ·have hi':i < t.length:=by omega
  have hlt:=ht _ (List.getElem_mem hi');have hss:=ZW (L:=t.take i) (k:=k);have hsu:=zf2 t i;have hmi:(jb k t)[i]'(by omega)=mkM (ssK k (t.take i)) t[i].length:=by
   have:=zbg (k:=k) hi';rw [List.getElem?_eq_getElem (by omega)] at this;exact Option.some.inj this
  have hsi:=zbT (k:=k) hi';have q:=zcV W0 (ssK k (t.take i)) t[i].length ⟨by omega,by omega⟩ hlt;rw [← hmi] at q;refine dEr ?_;repeat ((first|refine aM (j:=i) rfl (show i < (jb k t).length by omega) ?_|refine c0 q rfl ?_); first|refine dEr ?_|exact dz)
  refine klf (by omega) ?_;refine dr ?_;refine ⟨i+1,by omega,by omega,?_⟩;refine dr ?_;repeat (refine oB (congrArg I hsi.symm) ?_; first|refine dr ?_|exact dz)
  trivial
 ·have h1:((jb k t).length:Int)≤i:=h1;have:i=t.length:=by omega
  subst this;rw [List.take_length];exact dz
def zh4:XC:=(.s (.r [.x1 2 0,.m1 4 (.i 0)]) (.s (.r [.f1 5 0 2,.l1 6 1 5,.mv 7 1,.c1 8 25 [6,7],.mv 1 8]) (.s (.s (.r [.mv 9 1,.b1 10 .lss 9 (.i 0)]) (.cnd 10 (.s (.r [.ex 4 (.mv (.k (.c (.sc (.int .i64 (.negSucc 0))))))]) .ret) .skip)) (.s (.r [.f1 11 1 2,.l1 12 1 11,.mv 13 1,.c1 14 68 [12,13],.mv 1 14]) (.s (.s (.r [.mv 15 1,.b1 16 .lss 15 (.i 0)]) (.cnd 16 (.s (.r [.ex 4 (.mv (.k (.c (.sc (.int .i64 (.negSucc 0))))))]) .ret) .skip)) (.s (.r [.f1 17 2 2,.l1 18 1 17,.mv 19 1,.c1 20 69 [18,19],.mv 1 20]) (.s (.s (.r [.mv 21 1,.b1 22 .lss 21 (.i 0)]) (.cnd 22 (.s (.r [.ex 4 (.mv (.k (.c (.sc (.int .i64 (.negSucc 0))))))]) .ret) .skip)) (.s (.r [.mv 23 1,.mv 4 23]) .ret))))))))
theorem zh5:zh Tryz.prog [] 30=some (zh4.ac,[(.t 4)],24):=by kernel_rfl
theorem zcW (W0:World) (k:Int) (o:Over) (hk:0≤k∧mkK k o≤100000000) (h1:o.base.length≤1048576) (h2:o.layers.length≤1048576) (h3:∀ l∈o.layers,l.length≤1048576) (h4:o.upper.length≤1048576):Fn Tryz.prog W0 30 [zY (mkO k o),CI k] (.c (CI (mkK k o))) []:=by
 refine fX mixed zh5 fun hg=>?_
 have e1:=@ZW o.layers (k+3 * o.base.length);have hK:mkK k o=ssK (k+3 * o.base.length) o.layers+3 * o.upper.length:=rfl;have q1:Fn Tryz.prog W0 25 [zj (mkO k o).base,CI k] (.c (CI (k+3 * o.base.length))) []:=zkF W0 k o.base.length ⟨by omega,by omega⟩ h1;have q2:Fn Tryz.prog W0 68 [zT (mkO k o).layers,CI (k+3 * o.base.length)] (.c (CI (ssK (k+3 * o.base.length) o.layers))) []:=zkG W0 (k+3 * o.base.length) o.layers ⟨by omega,by omega⟩ h3 h2;have q3:Fn Tryz.prog W0 69 [zd (mkO k o).upper,CI (ssK (k+3 * o.base.length) o.layers)] (.c (CI (ssK (k+3 * o.base.length) o.layers+3 * o.upper.length))) []:=zcV W0 _ o.upper.length ⟨by omega,by omega⟩ h4;refine dEr ?_;repeat ((first|refine c0 q1 rfl ?_|refine klf (by omega) ?_|refine c0 q2 rfl ?_|refine c0 q3 rfl ?_); first|refine dEr ?_|exact dz)
 try rfl
def zic:XC:=(.s (.r [.x1 2 0,.m1 4 (.i 0)]) (.s (.r [.f1 5 0 2,.l1 6 1 5,.mv 7 1,.o1 8 24 [6,7],.mv 1 8]) (.cut (.r [.f1 9 1 2,.l1 10 1 9,.mv 11 1,.o1 12 63 [10,11],.mv 1 12]) (.s (.r [.f1 13 2 2,.l1 14 1 13,.mv 15 1,.o1 16 64 [14,15],.mv 1 16]) (.s (.r [.mv 17 1,.mv 4 17]) .ret)))))
theorem zid:zh Tryz.prog [24,63,64] 23=some (zic.ac,[(.t 4)],18):=by kernel_rfl
theorem zdb (W0:World) (k:Int) (o:Over) (hk:0≤k∧mkK k o≤100000000) (h1:o.base.length≤1048576) (h2:o.layers.length≤1048576) (h3:∀ l∈o.layers,l.length≤1048576) (h4:o.upper.length≤1048576) :
  zy Tryz.prog W0 23 [ovP 7 o,.c (CI k)] (ovM 7 o) (fun _:Unit=>True) (fun _ => .c (CI (mkK k o))) (fun _=>ovM 7 (mkO k o)):=by
 refine fW' _ mixed zid (fun hg=>?_) rfl;have e1:=@ZW o.layers (k+3 * o.base.length);have hK:mkK k o=ssK (k+3 * o.base.length) o.layers+3 * o.upper.length:=rfl;have hOO:zB 7 3 (lmL (mkO k o))=zB 7 3 (lmL o):=zbB (zen zms);have hk0:∀ id,((ovM 7 o).map (·.1)).contains id=true→(lkX (ovM 7 (mkO k o)) id).isSome=true:=fun id h=>by
  rw [YO (o':=o) ZO]; exact zbk h
 generalize hkk:(ovM 7 o).map (·.1)=kk at *;have q1:zy Tryz.prog W0 24 [.own 7 o.base.length,.c (CI k)] [(7,.row (o.base.map zv) 3 77)] (fun _:Unit=>True) (fun _ => .c (CI (k+3 * o.base.length))) (fun _=>[(7,.row ((mkE k o.base.length).map zv) 3 77)]):=(zkZ W0 o.base k ⟨by omega,by omega⟩ h1).swp 4 7;have q2:=zk1 W0 o.layers (k+3 * o.base.length) ⟨by omega,by omega⟩ h3 h2;have q3:zy Tryz.prog W0 64 [.own 23 o.upper.length,.c (CI (ssK (k+3 * o.base.length) o.layers))] [(23,.row (o.upper.map zm) 3 34)] (fun _:Unit=>True) (fun _ => .c (CI (ssK (k+3 * o.base.length) o.layers+3 * o.upper.length))) (fun _=>[(23,.row ((mkM (ssK (k+3 * o.base.length) o.layers) o.upper.length).map zm) 3 34)]):=(zda W0 o.upper _ ⟨by omega,by omega⟩ h4).swp 4 23;obtain ⟨T,O,fa⟩:=famP 7 3 34 3 (lmL o);obtain ⟨T',O',fa'⟩:=famP 7 3 34 3 (lmL (mkO k o));have hO':O'=O:=by rw [← fa.o,← fa'.o]; exact hOO
 subst hO';have ovT:ovM 7 o=(7,.row (o.base.map zv) 3 77)::(23,.row (o.upper.map zm) 3 34)::(39,.rowP O' 25)::T:=by unfold ovM; rw [fa.t,fa.o]
 have q2:zy Tryz.prog W0 63 [.own 39 o.layers.length,.c (CI (k+3 * o.base.length))] ((39,.rowP O' 25)::T) (fun _:Unit=>True) (fun _ => .c (CI (ssK (k+3 * o.base.length) o.layers))) (fun _=>(39,.rowP O' 25)::T'):=by
  rw [← fa.t,← fa'.t,← fa.o]; exact q2
 rw [ovT];refine dEr ?_;repeat (refine fT (frX1 ((jY (P:=[_,_,_]) rfl).trans (fa.no (id:=32) (.inr (by decide))))) ?_; first|refine dEr ?_|exact dz)
 refine oW q1 rfl ⟨rfl,trivial⟩ rfl rfl ⟨(),trivial⟩ fun _ _=>⟨rfl,?_⟩
 refine dEr ?_;refine cutz (σ:=Unit) 3 (fun _=>[(1,I (ssK (k+3 * o.base.length) o.layers)),(2,.ptr 32 0)])
  (fun _=>(32,.box [.own 7 o.base.length,.own 39 o.layers.length,.own 23 o.upper.length])::(7,.row ((mkE k o.base.length).map zv) 3 77)::(23,.row (o.upper.map zm) 3 34)::(39,.rowP O' 25)::T') (fun _=>True) ?_ ?_
 ·refine dr ?_;refine oW' q2 (fun id b hb=>JA (l:=(39,.rowP O' 25)::T) ⟨rfl,fa.mmS fun i hi=>?_⟩ _ (yb hb)) ?_ rfl ⟨(),trivial⟩ fun _ _=>⟨fun id h => .inl ?_,?_⟩
  ·show lkX (_::_::_::_::T) _=_;rw [zc (by simp<;>omega),zc (by omega),zc (by omega),zc (by omega),fa.row hi]
  ·exact zi (fa.inO fun i hi=>by rw [zc (by omega),fa.row hi]; rfl) fa.inT
  ·rw [lkX,← fa'.t] at h;rw [lkX,← fa.t];cases hb:Nat.beq id 39 with
   | true=>rfl
   | false =>
    rw [hb] at h;simp only at h ⊢;rw [Yk (L':=lmL (mkO k o)) (by simp [lmL,ZO])];exact h
  have hmg:∀ {m:XM} {id:Nat},id < 39→lkX (ju m ((39,.rowP O' 25)::T')) id=lkX m id:=fun h=>by rw [qC,zc (by omega),fa'.no (.inl (by omega))]
  have hm39:∀ {m:XM},lkX (ju m ((39,.rowP O' 25)::T')) 39=some (.rowP O' 25):=fun {m}=>by rw [qC]; rfl
  have hmT:∀ {m:XM} i (hi:i < (lmL (mkO k o)).length),lkX (ju m ((39,.rowP O' 25)::T')) (16 * (3+i)+7)=some (.row (lmL (mkO k o))[i] 3 34):=fun i hi=>by rw [qC,zc (by omega),fa'.row hi]
  refine dEr ?_;refine ⟨(),trivial,?_⟩;exact zx.ls ⟨rfl,rfl,trivial⟩ ⟨(hmg (by decide)).trans rfl,(hmg (by decide)).trans rfl,(hmg (by decide)).trans rfl,hm39,fa'.mmS hmT⟩ (fun id h=>by
    have:=hk0 id h;rw [show ovM 7 (mkO k o)=(7,.row ((mkO k o).base.map zv) 3 77)::(23,.row ((mkO k o).upper.map zm) 3 34)::(39,.rowP O' 25)::T' by unfold ovM; rw [fa'.t,fa'.o]] at this;simp only [lkX] at this ⊢;cases h0:Nat.beq id 32<;>cases h7:Nat.beq id 7<;>cases h23:Nat.beq id 23<;>cases h39:Nat.beq id 39<;>simp_all) (zi rfl (zi rfl (zi rfl (zi (fa'.inO fun i hi=>by
    rw [zc (by omega),zc (by omega),zc (by omega),zc (by omega),fa'.row hi]; rfl) fa'.inT)))) rfl
 intro _ _;refine dr ?_;refine oW q3 rfl ⟨rfl,trivial⟩ rfl rfl ⟨(),trivial⟩ fun _ _=>⟨rfl,?_⟩
 refine dEr ?_;refine ⟨some 3,_,_,?_,(),trivial,rfl,rfl⟩;refine zx.ls ⟨rfl,trivial⟩ ⟨rfl,rfl,congrArg (fun L=>some (XB.rowP L 25)) fa'.o.symm,yD fun i hi=>?_⟩ hk0 zeX rfl;show lkX (_::_::_::_::T') _=_;rw [zc (by simp<;>omega),zc (by simp<;>omega),zc (by simp<;>omega),zc (by simp<;>omega)];exact fa'.row hi
end Go.Proofs.YtmkmldepkponaaaGreatDoor

namespace Go.Proofs.YtmkmldepkponaaaGreatDoor
set_option linter.unusedSimpArgs false
set_option linter.unusedVariables false
open Go Go.RowKit
def s79 (i:Nat):Nat:=if i % 16=7 then i+2 else if i % 16=9 then i - 2 else i
theorem znr (i:Nat):s79 (s79 i)=i:=by
 unfold s79;split
 ·rw [if_neg (by omega),if_pos (by omega)]; omega
 split
 ·rw [if_pos (by omega)]; omega
 rfl
theorem zfm (k:Nat):s79 (16 * k+7)=16 * k+9:=by unfold s79; rw [if_pos (by omega)]
theorem owns79:∀ {k:Nat} {L:List (List CV)},(zB 7 k L).map (renA s79)=zB 9 k L
 | _,[]=>rfl
 | k,C::L=>by
  rw [zB,zB,List.map_cons,owns79 (k:=k+1)];show PV.own (s79 (16 * k+7)) _::_=_;rw [zfm]
theorem fam79 {sz:Nat} {e:TypeId}:∀ {k:Nat} {L:List (List CV)},renX s79 (je 7 sz e k L)=je 9 sz e k L
 | _,[]=>rfl
 | k,C::L=>by
  rw [je,je,renX,fam79 (k:=k+1),zfm];rfl
theorem ovM79 {o:Over}:renX s79 (ovM 7 o)=ovM 9 o:=by
 unfold ovM;rw [renX,renX,renX,fam79];simp only [yY,owns79];rfl
theorem zk3 (W0:World) (k:Int) (o:Over) (hk:0≤k∧mkK k o≤100000000) (h1:o.base.length≤1048576) (h2:o.layers.length≤1048576) (h3:∀ l∈o.layers,l.length≤1048576) (h4:o.upper.length≤1048576) :
  zy Tryz.prog W0 23 [ovP 9 o,.c (CI k)] (ovM 9 o) (fun _:Unit=>True) (fun _ => .c (CI (mkK k o))) (fun _=>ovM 9 (mkO k o)):=by
 have:=(zdb W0 k o hk h1 h2 h3 h4).ren znr;simp only [ovM79] at this;exact this
end Go.Proofs.YtmkmldepkponaaaGreatDoor

namespace Go.Proofs.YtmkmldepkponaaaGreatDoor
set_option linter.unusedSimpArgs false
set_option linter.unusedVariables false
open Go Go.RowKit
theorem zny {c:Nat} {o:Over} {m:XM} {l:List PV} {K:List CV→Prop} {e1 e2 e3 e4:TypeId} (h1:lkX m c=some (.row (o.base.map zv) 3 e1)) (h2:lkX m (16+c)=some (.row (o.upper.map zm) 3 e2)) (h3:lkX m (32+c)=some (.rowP (zB c 3 (lmL o)) e3))
  (h4:∀ i (h:i < (lmL o).length),lkX m (16 * (3+i)+c)=some (.row (lmL o)[i] 3 e4)) (hK:yk m l fun r=>K (zY o::r)):yk m (ovP c o::l) K:=by
 unfold ovP;simp only [yk,Y0,YZ];refine onI h1 (oB (by simp) (onI h3 (oB (by simp [qR,lmL]) (Zu h4 ?_))));refine onI h2 (oB (by simp) ?_);have e:(lmL o).map CV.row=o.layers.map zd:=by unfold lmL; rw [List.map_map]; rfl
 rw [e];exact hK
theorem kNN {a:Int} {A B:Prop} (k:B):cndX (!eqI a a) A B:=by rw [Yd.2 rfl]; exact k
theorem kBB {b:Bool} {A B:Prop} (k:B):cndX (!eqB b b) A B:=by rw [Yc.2 rfl]; exact k
theorem zb0 {α:Type} {f:α→Int→Int} (hf:∀ a l,-1≤l → -1≤f a l∧f a l≤l) {t:List α} {l:Int} (h:0≤szR f t l):szR f t l≤l - t.length:=by
 unfold szR at h ⊢;split at h
 ·omega
 rename_i g;rw [if_neg g];exact (zbZ hf (t:=t) (l:=l - t.length) (by omega)).2
theorem zf4:∀ {L:List (List Mark)} {l:Int},0≤l→0≤szL (szR jo) L l→szL (szR jo) L l≤l - (sumL L:Int)
 | [],l,_,_=>by simp [szL,sumL]
 | a::L,l,h0,h=>by
  unfold szL at h ⊢;split at h
  ·omega
  rename_i g;rw [if_neg g];have h1:=zb0 (fun a l=>@yJ a l) (by omega:0≤szR jo a l);have h2:=zf4 (L:=L) (by omega) h;have h3:sumL (a::L)=a.length+sumL L:=by simp [sumL]
  omega
theorem zoi {o:Over} {l:Int} (h0:0≤l) (h:0≤qH o l):(o.base.length:Int)+sumL o.layers+o.upper.length≤l:=by
 unfold qH at h;split at h
 ·omega
 rename_i g1;split at h
 ·omega
 rename_i g2;split at h
 ·omega
 have k1:=zb0 (fun a l=>@QI a l) (by omega:0≤szR jN o.base l);have k3:=zb0 (fun a l=>@yJ a l) h;have k2:=QJ (by omega) (by omega:0≤szR (szR jo) o.layers (szR jN o.base l));have k4:szR (szR jo) o.layers (szR jN o.base l)=szL (szR jo) o.layers (szR jN o.base l - o.layers.length):=by
  rw [szR,if_neg (by omega)]
 have k5:=zf4 (by omega) k2.2;omega
theorem zmq {o:Over} {l k:Int} (h0:0≤l) (h:0≤qH o l):mkK k o≤k+3 * l:=by
 have:=zoi h0 h;rw [mkK,ZW];omega
theorem zbi {m:XM}:∀ {l1 l2:XM},mmS m l1→mmS m l2→mmS m (apX l1 l2)
 | [],_,_,h=>h
 | (id,x)::l,_,h,k=>⟨h.1,zbi (l1:=l) h.2 k⟩
theorem zcb {f:Nat × XB→Bool}:∀ {l1 l2:XM},l1.all f=true→l2.all f=true→(apX l1 l2).all f=true
 | [],_,_,h=>h
 | p::l,_,h,k=>by
  rw [List.all_cons,Bool.and_eq_true] at h;exact zi h.1 (zcb h.2 k)
structure LkO (c:Nat) (o:Over) (m:XM):Prop where
 h1:lkX m c=some (.row (o.base.map zv) 3 77)
 h2:lkX m (16+c)=some (.row (o.upper.map zm) 3 34)
 h3:lkX m (32+c)=some (.rowP (zB c 3 (lmL o)) 25)
 h4:∀ i (h:i < (lmL o).length),lkX m (16 * (3+i)+c)=some (.row (lmL o)[i] 3 34)
theorem LkO.of {c:Nat} {o:Over} {m:XM} {m':XM} (h:LkO c o m) (e:∀ id,id % 16=c % 16→lkX m' id=lkX m id):LkO c o m' :=
 ⟨(e _ rfl).trans h.h1,(e _ (by omega)).trans h.h2,(e _ (by omega)).trans h.h3,fun i hi=>(e _ (by omega)).trans (h.h4 i hi)⟩
theorem LkO.self {c:Nat} {o:Over} (hc:c < 16):LkO c o (ovM c o):=by
 unfold ovM;refine ⟨?_,?_,?_,fun i hi=>?_⟩
 ·simp only [lkX,Nat.beq_refl]
 ·rw [zc (by omega)]; simp only [lkX,Nat.beq_refl]
 ·rw [zc (by omega),zc (by omega)]; simp only [lkX,Nat.beq_refl]
 ·rw [zc (by omega),zc (by omega),zc (by omega),qX hi]
theorem LkO.cons {c:Nat} {o:Over} {m:XM} {id:Nat} {b:XB} (h:LkO c o m) (hid:id % 16≠c % 16):LkO c o ((id,b)::m) :=
 h.of fun i hi=>zc (by rintro rfl; exact hid hi)
theorem LkO.snap {c:Nat} {o:Over} {m:XM} (h:LkO c o m) {l:List PV} {K:List CV→Prop} (hK:yk m l fun r=>K (zY o::r)):yk m (ovP c o::l) K:=zny h.h1 h.h2 h.h3 h.h4 hK
theorem LkO.mmS {c:Nat} {o:Over} {m:XM} (h:LkO c o m):mmS m (ovM c o):=⟨h.h1,h.h2,h.h3,yD h.h4⟩
theorem LkO.inB {c:Nat} {o:Over} {m:XM} (h:LkO c o m):((ovM c o).all fun p=>inBX m p.2)=true :=
 zi rfl (zi rfl (zi (yE fun i hi=>by rw [h.h4 i hi]; rfl) yx))
theorem zek {c:Nat} {o:Over} {m:XM} {id:Nat} (h:id % 16≠c % 16):lkX (apX (ovM c o) m) id=lkX m id:=by rw [Qn,YP h]
theorem LkO.ap {c:Nat} {o:Over} {m:XM} (hc:c < 16):LkO c o (apX (ovM c o) m):=by
 have h:=LkO.self (o:=o) hc;refine ⟨?_,?_,?_,fun i hi=>?_⟩<;>rw [Qn]
 ·rw [h.h1]
 ·rw [h.h2]
 ·rw [h.h3]
 ·rw [h.h4 i hi]
theorem LkO.ap2 {c c':Nat} {o o':Over} {m:XM} (h:LkO c o m) (hc:c % 16≠c' % 16):LkO c o (apX (ovM c' o') m) :=
 h.of fun i hi=>zek (by omega)
structure OvV (c:Nat) (o:Over) (M:XM):Prop where
 e:M=ovM c o
 c16:c < 16
theorem ovV (c:Nat) (o:Over) (hc:c < 16):∃ M,OvV c o M:=⟨_,rfl,hc⟩
theorem OvV.ap {c:Nat} {o:Over} {M m:XM} (h:OvV c o M):LkO c o (apX M m):=by obtain ⟨rfl,hc⟩:=h; exact .ap hc
theorem OvV.self {c:Nat} {o:Over} {M:XM} (h:OvV c o M):LkO c o M:=by obtain ⟨rfl,hc⟩:=h; exact .self hc
theorem OvV.ap2 {c c':Nat} {o o':Over} {M m:XM} (h:OvV c' o' M) (hl:LkO c o m) (hc:c % 16≠c' % 16):LkO c o (apX M m):=by obtain ⟨rfl,_⟩:=h; exact hl.ap2 hc
theorem OvV.skip {c:Nat} {o:Over} {M m:XM} (h:OvV c o M) {id:Nat} (hid:id % 16≠c % 16):lkX (apX M m) id=lkX m id:=by obtain ⟨rfl,_⟩:=h; exact zek hid
theorem OvV.no {c:Nat} {o:Over} {M:XM} (h:OvV c o M) {id:Nat} (hid:id % 16≠c % 16):lkX M id=none:=by obtain ⟨rfl,_⟩:=h; exact YP hid
theorem OvV.mmS {c:Nat} {o:Over} {M m:XM} (h:OvV c o M) (hl:LkO c o m):mmS m M:=by obtain ⟨rfl,_⟩:=h; exact hl.mmS
theorem OvV.inB {c:Nat} {o:Over} {M m:XM} (h:OvV c o M) (hl:LkO c o m):(M.all fun p=>inBX m p.2)=true:=by obtain ⟨rfl,_⟩:=h; exact hl.inB
abbrev boxO (c:Nat) (o:Over):XB := .box [.own c o.base.length,.own (32+c) o.layers.length,.own (16+c) o.upper.length]
abbrev zD (o:Over):XB := .box [.c (zj o.base),.c (zT o.layers),.c (zd o.upper)]
theorem LkO.inBox {c:Nat} {o:Over} {m:XM} (h:LkO c o m):inBX m (boxO c o)=true:=zi (by show (lkX m c).isSome=true; rw [h.h1]; rfl) (zi (by show (lkX m (32+c)).isSome=true; rw [h.h3]; rfl) (zi (by show (lkX m (16+c)).isSome=true; rw [h.h2]; rfl) rfl))
theorem OvV.mrg {c:Nat} {o:Over} {M m:XM} (h:OvV c o M):LkO c o (ju m M) :=
 ⟨by rw [qC,h.self.h1],by rw [qC,h.self.h2],by rw [qC,h.self.h3],fun i hi=>by rw [qC,h.self.h4 i hi]⟩
end Go.Proofs.YtmkmldepkponaaaGreatDoor

namespace Go.Proofs
open Go.Shelf
def Tryz.lays156_ren:Go.Shelf.Ren:=⟨fun | 156=>158 | 165=>173 | 166=>174 | 169=>175 | 240=>198 | 241=>199 | 276=>211 | 277=>212 | n=>n,fun | 31=>99 | 9=>9 | 3=>3 | 4=>4 | 0=>0 | 20=>20 | 72=>159 | 76=>163 | 70=>157 | 37=>22 | 75=>162 | 127=>185 | 164=>195 | 5=>5 | 80=>165 | n=>n,fun | n=>n⟩
theorem Tryz.lays156:Go.Proofs.Lays.n156 Tryz.prog Tryz.lays156_ren:={
 mixed:=by kernel_rfl
 f156:=Tryz.func158.trans (congrArg some (by kernel_rfl))
 f165:=Tryz.func173.trans (congrArg some (by kernel_rfl))
 f166:=Tryz.func174.trans (congrArg some (by kernel_rfl))
 f169:=Tryz.func175.trans (congrArg some (by kernel_rfl))
 f240:=Tryz.func198.trans (congrArg some (by kernel_rfl))
 f241:=Tryz.func199.trans (congrArg some (by kernel_rfl))
 f276:=Tryz.func211.trans (congrArg some (by kernel_rfl))
 f277:=Tryz.func212.trans (congrArg some (by kernel_rfl))
 t0:=Tryz.underlying0
 a0:=Tryz.isAgg0
 z0:=Tryz.sizeOf0
 v0:=Tryz.zeroValue0
 t3:=Tryz.underlying3
 a3:=Tryz.isAgg3
 z3:=Tryz.sizeOf3
 v3:=Tryz.zeroValue3
 t4:=Tryz.underlying4
 a4:=Tryz.isAgg4
 z4:=Tryz.sizeOf4
 v4:=Tryz.zeroValue4
 t9:=Tryz.underlying9
 a9:=Tryz.isAgg9
 z9:=Tryz.sizeOf9
 v9:=Tryz.zeroValue9
 t20:=Tryz.underlying20
 a20:=Tryz.isAgg20
 z20:=Tryz.sizeOf20
 v20:=Tryz.zeroValue20
 t31:=Tryz.underlying99
 a31:=Tryz.isAgg99
 z31:=Tryz.sizeOf99
 v31:=Tryz.zeroValue99
 t37:=Tryz.underlying22
 a37:=Tryz.isAgg22
 z37:=Tryz.sizeOf22
 v37:=Tryz.zeroValue22
 t70:=Tryz.underlying157
 a70:=Tryz.isAgg157
 z70:=Tryz.sizeOf157
 v70:=Tryz.zeroValue157
 t72:=Tryz.underlying159
 a72:=Tryz.isAgg159
 z72:=Tryz.sizeOf159
 v72:=Tryz.zeroValue159
 t75:=Tryz.underlying162
 a75:=Tryz.isAgg162
 z75:=Tryz.sizeOf162
 v75:=Tryz.zeroValue162
 t76:=Tryz.underlying163
 a76:=Tryz.isAgg163
 z76:=Tryz.sizeOf163
 v76:=Tryz.zeroValue163
 t127:=Tryz.underlying185
 a127:=Tryz.isAgg185
 z127:=Tryz.sizeOf185
 v127:=Tryz.zeroValue185
 t164:=Tryz.underlying195
 a164:=Tryz.isAgg195
 z164:=Tryz.sizeOf195
 v164:=Tryz.zeroValue195 }
theorem Tryz.Builder_Extra_156:Builder.Extra Tryz.prog Tryz.lays156_ren:={
 sizeBuilder:=by kernel_rfl
 liesBuilder:=by kernel_rfl
 t5:=Tryz.underlying5
 a5:=Tryz.isAgg5
 z5:=Tryz.sizeOf5
 v5:=Tryz.zeroValue5
 infoByte:=by kernel_rfl
 cellsByte:=by kernel_rfl
 sizeByte:=by kernel_rfl
 neB5:=by decide }
open Go.RowKit in
theorem Tryz.strings_Join_none (a:Option Addr) (c:Nat) (sep:ByteArray) (w:World) :
  Calls Tryz.prog 158 #[.slice a 0 c,.string sep] w fun e w'=>e = .returned (.string ⟨#[]⟩)∧w'=w:=Any.strings_Join_none Tryz.lays156 Tryz.Builder_Extra_156 a c sep w
open Go.RowKit in
theorem Tryz.strings_Join (bk o c:Nat) (xs:List ByteArray) (sep:ByteArray) (w:World) (hcells:∀ (j:Nat) x,xs[j]? = some x→w.cell? ⟨bk,o+j,none⟩=some (.string x)) (hbk:bk < w.heap.size) (hN:xs.length≤140737488355328) (hcap:xs.length≤c) (hlen:(Lib.join (xs.map (·.data.toList)) sep.data.toList).length≤140737488355328) :
  Calls Tryz.prog 158 #[.slice (some ⟨bk,o,none⟩) xs.length c,.string sep] w fun e w'=>e = .returned (.string ⟨(Lib.join (xs.map (·.data.toList)) sep.data.toList).toArray⟩)∧Below w.heap.size w w':=Any.strings_Join Tryz.lays156 Tryz.Builder_Extra_156 bk o c xs sep w hcells hbk hN hcap hlen
def Tryz.lays146_ren:Go.Shelf.Ren:=⟨fun | 146=>171 | 221=>197 | 268=>208 | 138=>209 | 143=>210 | 195=>215 | 197=>216 | 218=>217 | 219=>218 | 260=>219 | 217=>220 | 225=>221 | 224=>222 | 267=>223 | 266=>224 | 314=>225 | n=>n,fun | 9=>9 | 31=>99 | 3=>3 | 4=>4 | 0=>0 | 105=>202 | 21=>21 | 5=>5 | 46=>153 | 119=>205 | 139=>208 | 138=>207 | 146=>209 | 51=>176 | n=>n,fun | 1=>0 | 3=>1 | 4=>2 | n=>n⟩
theorem Tryz.lays146:Go.Proofs.Lays.n146 Tryz.prog Tryz.lays146_ren:={
 mixed:=by kernel_rfl
 f138:=Tryz.func209.trans (congrArg some (by kernel_rfl))
 f143:=Tryz.func210.trans (congrArg some (by kernel_rfl))
 f146:=Tryz.func171.trans (congrArg some (by kernel_rfl))
 f195:=Tryz.func215.trans (congrArg some (by kernel_rfl))
 f197:=Tryz.func216.trans (congrArg some (by kernel_rfl))
 f217:=Tryz.func220.trans (congrArg some (by kernel_rfl))
 f218:=Tryz.func217.trans (congrArg some (by kernel_rfl))
 f219:=Tryz.func218.trans (congrArg some (by kernel_rfl))
 f221:=Tryz.func197.trans (congrArg some (by kernel_rfl))
 f224:=Tryz.func222.trans (congrArg some (by kernel_rfl))
 f225:=Tryz.func221.trans (congrArg some (by kernel_rfl))
 f260:=Tryz.func219.trans (congrArg some (by kernel_rfl))
 f266:=Tryz.func224.trans (congrArg some (by kernel_rfl))
 f267:=Tryz.func223.trans (congrArg some (by kernel_rfl))
 f268:=Tryz.func208.trans (congrArg some (by kernel_rfl))
 f314:=Tryz.func225.trans (congrArg some (by kernel_rfl))
 t0:=Tryz.underlying0
 a0:=Tryz.isAgg0
 z0:=Tryz.sizeOf0
 v0:=Tryz.zeroValue0
 t3:=Tryz.underlying3
 a3:=Tryz.isAgg3
 z3:=Tryz.sizeOf3
 v3:=Tryz.zeroValue3
 t4:=Tryz.underlying4
 a4:=Tryz.isAgg4
 z4:=Tryz.sizeOf4
 v4:=Tryz.zeroValue4
 t5:=Tryz.underlying5
 a5:=Tryz.isAgg5
 z5:=Tryz.sizeOf5
 v5:=Tryz.zeroValue5
 t9:=Tryz.underlying9
 a9:=Tryz.isAgg9
 z9:=Tryz.sizeOf9
 v9:=Tryz.zeroValue9
 t21:=Tryz.underlying21
 a21:=Tryz.isAgg21
 z21:=Tryz.sizeOf21
 v21:=Tryz.zeroValue21
 t31:=Tryz.underlying99
 a31:=Tryz.isAgg99
 z31:=Tryz.sizeOf99
 v31:=Tryz.zeroValue99
 t46:=Tryz.underlying153
 a46:=Tryz.isAgg153
 z46:=Tryz.sizeOf153
 v46:=Tryz.zeroValue153
 t51:=Tryz.underlying176
 a51:=Tryz.isAgg176
 z51:=Tryz.sizeOf176
 v51:=Tryz.zeroValue176
 t105:=Tryz.underlying202
 a105:=Tryz.isAgg202
 z105:=Tryz.sizeOf202
 v105:=Tryz.zeroValue202
 t119:=Tryz.underlying205
 a119:=Tryz.isAgg205
 z119:=Tryz.sizeOf205
 t138:=Tryz.underlying207
 a138:=Tryz.isAgg207
 z138:=Tryz.sizeOf207
 v138:=Tryz.zeroValue207
 t139:=Tryz.underlying208
 a139:=Tryz.isAgg208
 z139:=Tryz.sizeOf208
 v139:=Tryz.zeroValue208
 t146:=Tryz.underlying209
 a146:=Tryz.isAgg209
 z146:=Tryz.sizeOf209
 v146:=Tryz.zeroValue209
 g1:=by kernel_rfl
 g3:=by kernel_rfl
 g4:=by kernel_rfl }
open Go.RowKit Go.Lib in
theorem Tryz.strings_Split (s sep:ByteArray) (m:Int) (w:World) (hs:s.size < 4294967281) (hm:w.cell? ⟨0,0,none⟩=some (.int .i64 m)) (h1:1≤sep.size) :
  Calls Tryz.prog 171 #[.string s,.string sep] w fun e w' =>
   e = .returned (.slice (some ⟨w.heap.size,0,none⟩) (Lib.countB s sep+1) (Lib.countB s sep+1))∧w'=w.alloc (.cells ((Lib.splitB sep 0 (Lib.countB s sep) s).map Value.string).toArray 9):=Any.strings_Split Tryz.lays146 (by kernel_rfl) s sep m w hs hm h1
def Tryz.sortE_ren:Go.Shelf.Ren:=⟨fun | 6=>155 | 15=>165 | 14=>170 | 28=>186 | 29=>187 | 20=>189 | 21=>190 | 22=>191 | 23=>192 | 24=>193 | 25=>194 | 26=>195 | 27=>196 | 46=>205 | 47=>201 | 48=>202 | 49=>206 | 50=>207 | 57=>214 | n=>n,fun | 22=>23 | 24=>77 | 25=>146 | 3=>3 | 39=>153 | 0=>0 | 53=>176 | 55=>178 | 4=>4 | 46=>169 | 45=>168 | 50=>173 | 5=>5 | 9=>9 | 66=>186 | 70=>190 | 76=>198 | 77=>199 | n=>n,fun | n=>n⟩
theorem Tryz.sortE:Go.Proofs.SlLaysF0.n6 Tryz.prog Tryz.sortE_ren:={
 mixed:=by kernel_rfl
 f6:=⟨Tryz.f155.name,by decide,Tryz.func155.trans (congrArg some (by kernel_rfl))⟩
 f14:=⟨Tryz.f170.name,by decide,Tryz.func170.trans (congrArg some (by kernel_rfl))⟩
 f15:=Tryz.func165.trans (congrArg some (by kernel_rfl))
 f20:=⟨Tryz.f189.name,by decide,Tryz.func189.trans (congrArg some (by kernel_rfl))⟩
 f21:=⟨Tryz.f190.name,by decide,Tryz.func190.trans (congrArg some (by kernel_rfl))⟩
 f22:=⟨Tryz.f191.name,by decide,Tryz.func191.trans (congrArg some (by kernel_rfl))⟩
 f23:=⟨Tryz.f192.name,by decide,Tryz.func192.trans (congrArg some (by kernel_rfl))⟩
 f24:=⟨Tryz.f193.name,by decide,Tryz.func193.trans (congrArg some (by kernel_rfl))⟩
 f25:=⟨Tryz.f194.name,by decide,Tryz.func194.trans (congrArg some (by kernel_rfl))⟩
 f26:=⟨Tryz.f195.name,by decide,Tryz.func195.trans (congrArg some (by kernel_rfl))⟩
 f27:=⟨Tryz.f196.name,by decide,Tryz.func196.trans (congrArg some (by kernel_rfl))⟩
 f28:=Tryz.func186.trans (congrArg some (by kernel_rfl))
 f29:=Tryz.func187.trans (congrArg some (by kernel_rfl))
 f46:=⟨Tryz.f205.name,by decide,Tryz.func205.trans (congrArg some (by kernel_rfl))⟩
 f47:=Tryz.func201.trans (congrArg some (by kernel_rfl))
 f48:=Tryz.func202.trans (congrArg some (by kernel_rfl))
 f49:=⟨Tryz.f206.name,by decide,Tryz.func206.trans (congrArg some (by kernel_rfl))⟩
 f50:=⟨Tryz.f207.name,by decide,Tryz.func207.trans (congrArg some (by kernel_rfl))⟩
 f57:=⟨Tryz.f214.name,by decide,Tryz.func214.trans (congrArg some (by kernel_rfl))⟩
 t0:=Tryz.underlying0
 a0:=Tryz.isAgg0
 z0:=Tryz.sizeOf0
 v0:=Tryz.zeroValue0
 t3:=Tryz.underlying3
 a3:=Tryz.isAgg3
 z3:=Tryz.sizeOf3
 v3:=Tryz.zeroValue3
 t4:=Tryz.underlying4
 a4:=Tryz.isAgg4
 z4:=Tryz.sizeOf4
 v4:=Tryz.zeroValue4
 t5:=Tryz.underlying5
 a5:=Tryz.isAgg5
 z5:=Tryz.sizeOf5
 v5:=Tryz.zeroValue5
 t9:=Tryz.underlying9
 a9:=Tryz.isAgg9
 z9:=Tryz.sizeOf9
 v9:=Tryz.zeroValue9
 t22:=Tryz.underlying23
 a22:=Tryz.isAgg23
 z22:=Tryz.sizeOf23
 v22:=Tryz.zeroValue23
 t25:=Tryz.underlying146
 a25:=Tryz.isAgg146
 z25:=Tryz.sizeOf146
 v25:=Tryz.zeroValue146
 t39:=Tryz.underlying153
 a39:=Tryz.isAgg153
 z39:=Tryz.sizeOf153
 v39:=Tryz.zeroValue153
 t45:=Tryz.underlying168
 a45:=Tryz.isAgg168
 z45:=Tryz.sizeOf168
 v45:=Tryz.zeroValue168
 t46:=Tryz.underlying169
 a46:=Tryz.isAgg169
 z46:=Tryz.sizeOf169
 v46:=Tryz.zeroValue169
 t50:=Tryz.underlying173
 a50:=Tryz.isAgg173
 z50:=Tryz.sizeOf173
 v50:=Tryz.zeroValue173
 t53:=Tryz.underlying176
 a53:=Tryz.isAgg176
 z53:=Tryz.sizeOf176
 v53:=Tryz.zeroValue176
 t55:=Tryz.underlying178
 a55:=Tryz.isAgg178
 z55:=Tryz.sizeOf178
 v55:=Tryz.zeroValue178
 t66:=Tryz.underlying186
 a66:=Tryz.isAgg186
 z66:=Tryz.sizeOf186
 v66:=Tryz.zeroValue186
 t70:=Tryz.underlying190
 a70:=Tryz.isAgg190
 z70:=Tryz.sizeOf190
 v70:=Tryz.zeroValue190
 t76:=Tryz.underlying198
 a76:=Tryz.isAgg198
 z76:=Tryz.sizeOf198
 v76:=Tryz.zeroValue198
 t77:=Tryz.underlying199
 a77:=Tryz.isAgg199
 z77:=Tryz.sizeOf199
 v77:=Tryz.zeroValue199 }
def Tryz.sortM_ren:Go.Shelf.Ren:=⟨fun | 6=>140 | 15=>165 | 14=>164 | 28=>186 | 29=>187 | 20=>178 | 21=>179 | 22=>180 | 23=>181 | 24=>182 | 25=>183 | 26=>184 | 27=>185 | 46=>200 | 47=>201 | 48=>202 | 49=>203 | 50=>204 | 57=>213 | n=>n,fun | 22=>25 | 24=>34 | 25=>142 | 3=>3 | 39=>153 | 0=>0 | 53=>176 | 55=>178 | 4=>4 | 46=>169 | 45=>168 | 50=>173 | 5=>5 | 9=>9 | 66=>186 | 70=>190 | 76=>198 | 77=>199 | n=>n,fun | n=>n⟩
theorem Tryz.sortM:Go.Proofs.SlLaysF0.n6 Tryz.prog Tryz.sortM_ren:={
 mixed:=by kernel_rfl
 f6:=⟨Tryz.f140.name,by decide,Tryz.func140.trans (congrArg some (by kernel_rfl))⟩
 f14:=⟨Tryz.f164.name,by decide,Tryz.func164.trans (congrArg some (by kernel_rfl))⟩
 f15:=Tryz.func165.trans (congrArg some (by kernel_rfl))
 f20:=⟨Tryz.f178.name,by decide,Tryz.func178.trans (congrArg some (by kernel_rfl))⟩
 f21:=⟨Tryz.f179.name,by decide,Tryz.func179.trans (congrArg some (by kernel_rfl))⟩
 f22:=⟨Tryz.f180.name,by decide,Tryz.func180.trans (congrArg some (by kernel_rfl))⟩
 f23:=⟨Tryz.f181.name,by decide,Tryz.func181.trans (congrArg some (by kernel_rfl))⟩
 f24:=⟨Tryz.f182.name,by decide,Tryz.func182.trans (congrArg some (by kernel_rfl))⟩
 f25:=⟨Tryz.f183.name,by decide,Tryz.func183.trans (congrArg some (by kernel_rfl))⟩
 f26:=⟨Tryz.f184.name,by decide,Tryz.func184.trans (congrArg some (by kernel_rfl))⟩
 f27:=⟨Tryz.f185.name,by decide,Tryz.func185.trans (congrArg some (by kernel_rfl))⟩
 f28:=Tryz.func186.trans (congrArg some (by kernel_rfl))
 f29:=Tryz.func187.trans (congrArg some (by kernel_rfl))
 f46:=⟨Tryz.f200.name,by decide,Tryz.func200.trans (congrArg some (by kernel_rfl))⟩
 f47:=Tryz.func201.trans (congrArg some (by kernel_rfl))
 f48:=Tryz.func202.trans (congrArg some (by kernel_rfl))
 f49:=⟨Tryz.f203.name,by decide,Tryz.func203.trans (congrArg some (by kernel_rfl))⟩
 f50:=⟨Tryz.f204.name,by decide,Tryz.func204.trans (congrArg some (by kernel_rfl))⟩
 f57:=⟨Tryz.f213.name,by decide,Tryz.func213.trans (congrArg some (by kernel_rfl))⟩
 t0:=Tryz.underlying0
 a0:=Tryz.isAgg0
 z0:=Tryz.sizeOf0
 v0:=Tryz.zeroValue0
 t3:=Tryz.underlying3
 a3:=Tryz.isAgg3
 z3:=Tryz.sizeOf3
 v3:=Tryz.zeroValue3
 t4:=Tryz.underlying4
 a4:=Tryz.isAgg4
 z4:=Tryz.sizeOf4
 v4:=Tryz.zeroValue4
 t5:=Tryz.underlying5
 a5:=Tryz.isAgg5
 z5:=Tryz.sizeOf5
 v5:=Tryz.zeroValue5
 t9:=Tryz.underlying9
 a9:=Tryz.isAgg9
 z9:=Tryz.sizeOf9
 v9:=Tryz.zeroValue9
 t22:=Tryz.underlying25
 a22:=Tryz.isAgg25
 z22:=Tryz.sizeOf25
 v22:=Tryz.zeroValue25
 t25:=Tryz.underlying142
 a25:=Tryz.isAgg142
 z25:=Tryz.sizeOf142
 v25:=Tryz.zeroValue142
 t39:=Tryz.underlying153
 a39:=Tryz.isAgg153
 z39:=Tryz.sizeOf153
 v39:=Tryz.zeroValue153
 t45:=Tryz.underlying168
 a45:=Tryz.isAgg168
 z45:=Tryz.sizeOf168
 v45:=Tryz.zeroValue168
 t46:=Tryz.underlying169
 a46:=Tryz.isAgg169
 z46:=Tryz.sizeOf169
 v46:=Tryz.zeroValue169
 t50:=Tryz.underlying173
 a50:=Tryz.isAgg173
 z50:=Tryz.sizeOf173
 v50:=Tryz.zeroValue173
 t53:=Tryz.underlying176
 a53:=Tryz.isAgg176
 z53:=Tryz.sizeOf176
 v53:=Tryz.zeroValue176
 t55:=Tryz.underlying178
 a55:=Tryz.isAgg178
 z55:=Tryz.sizeOf178
 v55:=Tryz.zeroValue178
 t66:=Tryz.underlying186
 a66:=Tryz.isAgg186
 z66:=Tryz.sizeOf186
 v66:=Tryz.zeroValue186
 t70:=Tryz.underlying190
 a70:=Tryz.isAgg190
 z70:=Tryz.sizeOf190
 v70:=Tryz.zeroValue190
 t76:=Tryz.underlying198
 a76:=Tryz.isAgg198
 z76:=Tryz.sizeOf198
 v76:=Tryz.zeroValue198
 t77:=Tryz.underlying199
 a77:=Tryz.isAgg199
 z77:=Tryz.sizeOf199
 v77:=Tryz.zeroValue199 }
end Go.Proofs

namespace Go.Proofs.YtmkmldepkponaaaGreatDoor
set_option linter.unusedSimpArgs false
set_option linter.unusedVariables false
open Go Go.RowKit
theorem zd5 {c:UInt8}:∀ {a:Str} (b:Str),c ∉ a→Lib.index (a++c::b) [c]=(a.length:Int)
 | [],b,_=>by simp [Lib.index]
 | x::a,b,h=>by
  simp only [List.mem_cons,not_or] at h;have ih:=zd5 (a:=a) b h.2;rw [List.cons_append,Lib.index,ih];have e:[c].isPrefixOf (x::(a++c::b))=false:=by simp [List.isPrefixOf,h.1]
  rw [e];simp
theorem zfP {c:UInt8}:∀ (k:Nat) (s:Str),s.count c=k→Lib.splitK [c] 0 k s=cut c s
 | 0,s,h=>by rw [Lib.splitK,Q5 (List.count_eq_zero.1 h)]
 | k+1,s,h=>by
  have hm:c∈s:=List.count_pos_iff.1 (by omega);obtain ⟨a,b,e,ha⟩:=List.eq_append_cons_of_mem hm;subst e;have hb:b.count c=k:=by
   rw [List.count_append,List.count_eq_zero.2 ha,List.count_cons_self] at h; omega
  rw [Lib.splitK,zd5 b ha,if_neg (by simp),Q4 b ha];have e1:((a.length:Int).toNat+0)=a.length:=by simp
  have e2:((a.length:Int).toNat+[c].length)=a.length+1:=by simp
  rw [e1,e2,List.take_left,List.drop_append,List.drop_of_length_le (by omega)];have e3:a.length+1 - a.length=1:=by omega
  rw [e3];simp only [List.drop_succ_cons,List.drop_zero,List.nil_append];rw [zfP k b hb]
theorem zcB (c:UInt8):∀ (s:Str),∀ n∈cut c s,n.length≤s.length
 | [],n,h=>by simp [cut] at h; simp [h]
 | b::t,n,h=>by
  have ih:=zcB c t;unfold cut at h;split at h
  ·rcases List.mem_cons.1 h with rfl | h
   ·simp
   ·have:=ih n h; simp; omega
  ·split at h
   ·simp at h; subst h; simp
   ·rename_i x r hc;rw [hc] at ih;rcases List.mem_cons.1 h with rfl | h
    ·have:=ih x (by simp); simp; omega
    ·have:=ih n (by simp [h]); simp; omega
def HM (W0:World):Prop:=∃ m,W0.cell? ⟨0,0,none⟩=some (.int .i64 m)
theorem zkx (W0:World) (hM:HM W0) (s:Str) (hs:s.length≤1000000):Fn Tryz.prog W0 171 [CS s,CS [47]] (.c (jV (cut 47 s))) []:=by
 intro κ w vs hB hm hr;obtain ⟨v1,v2,hvs⟩:∃ v1 v2,vs.toList=[v1,v2]:=by
  have:=za.length hr
  match h:vs.toList with
  | [a,b]=>exact ⟨a,b,rfl⟩
  | [] | [_] | _::_::_::_=>rw [h] at this; simp at this
 rw [hvs] at hr;obtain ⟨r1,r2,_⟩:=hr;cases r1 with | sc _=>?_
 cases r2 with | sc _=>?_
 have hv:vs=#[.string ⟨⟨s⟩⟩,.string ⟨⟨[47]⟩⟩]:=by rw [← hvs]
 subst hv;obtain ⟨m,hc⟩:=hM;have hc':w.cell? ⟨0,0,none⟩=some (.int .i64 m):=by
  rw [y5 (hB.block 0 (yN hc))]; exact hc
 refine (Tryz.strings_Split ⟨⟨s⟩⟩ ⟨⟨[47]⟩⟩ m w (by show s.length < _; omega) hc' (by decide)).mono ?_;rintro e w' ⟨rfl,rfl⟩;have hcount:Lib.countB ⟨⟨s⟩⟩ ⟨⟨[47]⟩⟩=s.count 47:=Lib.count_one 47 s;have hsp:(Lib.splitB ⟨⟨[47]⟩⟩ 0 (Lib.countB ⟨⟨s⟩⟩ ⟨⟨[47]⟩⟩) ⟨⟨s⟩⟩).map (·.data.toList)=cut 47 s:=by
  rw [Lib.splitB_data,hcount]; exact zfP _ s rfl
 generalize hL:Lib.splitB ⟨⟨[47]⟩⟩ 0 (Lib.countB ⟨⟨s⟩⟩ ⟨⟨[47]⟩⟩) ⟨⟨s⟩⟩=L at hsp;have hlen:L.length=Lib.countB ⟨⟨s⟩⟩ ⟨⟨[47]⟩⟩+1:=by rw [← hL]; exact Lib.splitB_all _ (by decide) 0 _ _ rfl
 have hn:L.length=(cut 47 s).length:=by rw [← hsp,List.length_map]
 have hle:s.count 47≤s.length:=List.count_le_length;refine ⟨_,_,[],κ,rfl,⟨rfl,rfl⟩,hm.below (Z3 w _),?_⟩;rw [← hlen,hn];have hrow:(jV (cut 47 s)) = .row ((cut 47 s).map CS):=rfl;have hcells:((cut 47 s).map CS).flatMap CV.cells=(cut 47 s).map CS:=by
  generalize cut 47 s=l;induction l with
  | nil=>rfl
  | cons a l ih=>rw [List.map_cons,List.flatMap_cons,ih]; rfl
 have key:RepC (w.alloc (.cells (L.map Value.string).toArray 9)) (zf κ []) (.row ((cut 47 s).map CS)) (.slice (some ⟨w.heap.size,0,none⟩) ((cut 47 s).map CS).length (cut 47 s).length):=by
  refine .row (sz:=1) (vs:=L.map Value.string) (by simp; exact zat 47 s) (by omega) (by simp) (by rw [← hn,hlen,hcount]; unfold maxLen; omega) ?_ ?_ ?_ ?_ ?_ ?_
  ·intro h;have:=hm.mem.live_lt h;omega
  ·intro x hx;obtain ⟨a,_,rfl⟩:=List.mem_map.1 hx;rfl
  ·rw [hcells]; simp [hn]
  ·intro i x v hx hv;rw [hcells,← hsp,List.map_map,List.getElem?_map] at hx;rw [List.getElem?_map] at hv;cases hi:L[i]? with
   | none=>rw [hi] at hx; cases hx
   | some y =>
    rw [hi] at hx hv;cases hx; cases hv;refine .sc ?_;have hmem:y.data.toList∈cut 47 s:=by rw [← hsp]; exact List.mem_map_of_mem (List.mem_of_getElem? hi)
    have:=zcB 47 s _ hmem;show y.size≤maxLen;have e:y.size=y.data.toList.length:=by cases y; rfl
    rw [e]; unfold maxLen; omega
  ·intro v hv;obtain ⟨a,_,rfl⟩:=List.mem_map.1 hv;rfl
  ·intro j v hj;rw [j1 (yB w rfl _)]
   simpa using hj
 rw [List.length_map] at key;exact key
theorem znm {w:World} {S:Nat→Prop} {l:List Str} {v:Value} (h:RepC w S (jV l) v):(l=[]∧∃ o cap,v = .slice o 0 cap) ∨
  ∃ b off cap,v = .slice (some ⟨b,off,none⟩) l.length cap∧l.length≤cap∧l≠[]∧∀ (j:Nat) (x:Str),l[j]? = some x→w.cell? ⟨b,off+j,none⟩=some (.string ⟨⟨x⟩⟩):=by
 unfold jV at h;generalize hL:l.map CS=L at h;cases h with
 | nil _=>left; refine ⟨?_,_,_,rfl⟩; simpa using hL
 | @row L b off cap sz vs hne _ hcap _ _ hsz hlen hr _ hc =>
  right;subst hL;have hcells:(l.map CS).flatMap CV.cells=l.map CS:=by
   generalize l=l;induction l with
   | nil=>rfl
   | cons a l ih=>rw [List.map_cons,List.flatMap_cons,ih]; rfl
  refine ⟨b,off,cap,by simp,by simpa using hcap,by simpa using hne,fun j x hx=>?_⟩;rw [hcells] at hlen hr;have hx':(l.map CS)[j]? = some (CS x):=by rw [List.getElem?_map,hx]; rfl
  have hj:j < vs.length:=by
   rw [← hlen,List.length_map];exact (List.getElem?_eq_some_iff.1 hx).1
  have hv:=hr j _ vs[j] hx' (List.getElem?_eq_getElem hj);have:vs[j] = .string ⟨⟨x⟩⟩:=by
   generalize vs[j]=v at hv;cases hv; rfl
  rw [hc j _ (List.getElem?_eq_getElem hj),this]
def ZJ (l:List Str):Str:=Lib.join l [47]
theorem zd9:∀ {l:List Str},l≠[]→jn l=47::ZJ l
 | [],h=>absurd rfl h
 | x::r,_=>by
  unfold ZJ;rw [Lib.join_cons];have:Lib.joinTail [47] r=jn r:=by
   unfold Lib.joinTail jn;rw [List.flatMap_def]; rfl
  rw [this]; rfl
theorem zea {l:List Str}:(ZJ l).length≤(jn l).length:=by
 cases l with
 | nil=>simp [ZJ,Lib.join_nil]
 | cons x r=>rw [zd9 (by simp)]; simp
theorem zks (W0:World) (l:List Str) (hl:(jn l).length≤1000000):Fn Tryz.prog W0 158 [jV l,CS [47]] (.c (CS (ZJ l))) []:=by
 intro κ w vs hB hm hr;obtain ⟨v1,v2,hvs⟩:∃ v1 v2,vs.toList=[v1,v2]:=by
  have:=za.length hr
  match h:vs.toList with
  | [a,b]=>exact ⟨a,b,rfl⟩
  | [] | [_] | _::_::_::_=>rw [h] at this; simp at this
 rw [hvs] at hr;obtain ⟨r1,r2,_⟩:=hr;cases r2 with | sc _=>?_
 have hll:l.length≤(jn l).length:=by
  clear r1 hl hvs;induction l with
  | nil=>simp
  | cons a l ih=>simp [jn] at ih ⊢; omega
 have fin:∀ r:Str,r.length≤1000000→Rep κ [] w (.c (CS r)) (.string ⟨⟨r⟩⟩):=fun r h=>RepC.sc (by show ByteArray.size _≤maxLen; unfold maxLen; show r.length≤_; omega)
 rcases znm r1 with ⟨rfl,o,cap,rfl⟩ | ⟨b,off,cap,rfl,hcap,hne,hcells⟩
 ·have hv:vs=#[.slice o 0 cap,.string ⟨⟨[47]⟩⟩]:=by rw [← hvs]
  subst hv;refine (Tryz.strings_Join_none o cap ⟨⟨[47]⟩⟩ w).mono ?_;rintro e w' ⟨rfl,rfl⟩;exact ⟨_,_,[],κ,rfl,⟨rfl,rfl⟩,hm,fin [] (by simp)⟩
 ·have hv:vs=#[.slice (some ⟨b,off,none⟩) l.length cap,.string ⟨⟨[47]⟩⟩]:=by rw [← hvs]
  subst hv;have hbk:b < w.heap.size:=by
   cases l with
   | nil=>exact absurd rfl hne
   | cons x r=>exact yN (hcells 0 x rfl)
  have hmap:(l.map fun x=>(⟨⟨x⟩⟩:ByteArray)).map (·.data.toList)=l:=by rw [List.map_map]; exact List.map_id l
  have hj:(Lib.join ((l.map fun x=>(⟨⟨x⟩⟩:ByteArray)).map (·.data.toList)) (⟨⟨[47]⟩⟩:ByteArray).data.toList)=ZJ l:=by rw [hmap]; rfl
  have hjl:=zea (l:=l);have h:=Tryz.strings_Join b off cap (l.map fun x=>⟨⟨x⟩⟩) ⟨⟨[47]⟩⟩ w (fun j x hx=>by
   rw [List.getElem?_map] at hx;cases hi:l[j]? with
   | none=>rw [hi] at hx; cases hx
   | some y=>rw [hi] at hx; cases hx; exact hcells j y hi) hbk (by simp; omega) (by simpa using hcap) (by rw [hj]; omega)
  rw [hj,List.length_map] at h;refine h.mono ?_;rintro e w' ⟨rfl,hw⟩;exact ⟨_,_,[],κ,rfl,⟨rfl,rfl⟩,hm.below hw,RepC.sc (by show ByteArray.size _≤maxLen; unfold maxLen; show (ZJ l).length≤_; omega)⟩
end Go.Proofs.YtmkmldepkponaaaGreatDoor

namespace Go.Proofs.YtmkmldepkponaaaGreatDoor
set_option linter.unusedSimpArgs false
set_option linter.unusedVariables false
open Go Go.RowKit
def zhu:XC:=(.s (.r [.m1 2 .n]) (.s (.s (.r [.mv 4 0,.ex 5 (.len true 4),.b1 6 .lss 5 (.i 1),.mv 7 6,.h3 8 0 7,.gf 9 (.len true 8) 7,.gf 10 (.bin .gtr 9 (.i 3)) 7,.p1 11 7 10]) (.cnd 11 (.rf 2) .skip)) (.s (.s (.r [.m1 3 (.i 0)]) (.blk 0 (.loop (.s (.s (.r [.mv 12 3,.mv 13 0,.ex 14 (.len true 13),.b1 15 .lss 12 14]) (.ce 15 0)) (.s (.blk 1 (.s (.r [.mv 18 0,.mv 19 3,.ex 20 (.idx 18 19),.b1 21 .lss 20 (.u 97),.mv 22 21,.h3 23 0 22,.h3 24 3 22,.gf 25 (.idx 23 24) 22,.gf 26 (.bin .gtr 25 (.u 122)) 22,.p1 27 22 26]) (.cnd 27 (.rf 2) .skip))) (.ic 16 17 3)))))) (.rt 2))))
theorem zhv:zh Tryz.prog [] 172=some (zhu.ac,[(.t 2)],28):=by kernel_rfl
theorem zk7 (W0:World) (s:Str):Fn Tryz.prog W0 172 [CS s] (.c (CB (jq s))) []:=by
 refine fX mixed zhv fun hg=>?_
 refine dr ?_;apply cP<;>intro h1
 ·refine dr ?_;exact bF (by rw [jq]; simp; omega)
 refine dr ?_;apply cP<;>intro h2
 ·refine dr ?_;exact bF (by rw [jq]; simp; omega)
 refine dr ?_;refine lp (σ:=Nat) (fun k=>[(0,.c (CS s)),(3,I k)]) (fun _=>[]) (fun k=>k≤s.length∧(s.take k).all jt=true) (fun k=>s.length - k) 0 ⟨by simp,by simp⟩ ?_ ?_
 ·refine dr ?_;trivial
 rintro k ⟨hk,ha⟩;refine dr ?_;apply cP<;>intro h3
 ·have hk':k < s.length:=by omega
  have no:jt s[k]=false→CB false=CB (jq s):=fun h=>bF (by rw [jq,Z2 hk' h]; rfl)
  refine dr ?_;apply cP<;>intro h4
  ·refine dr ?_;exact no (by simp [jt]; omega)
  ·refine dr ?_;apply cP<;>intro h5
   ·refine dr ?_;exact no (by simp [jt]; omega)
   ·refine dr ?_;refine ⟨k+1,⟨by omega,qJ hk' ha (by simp [jt]; omega)⟩,by omega,?_⟩;refine dr ?_;trivial
 ·have:k=s.length:=by omega
  subst this;rw [List.take_length] at ha;refine dr ?_;exact bT (by rw [jq,ha]; simp; omega)
def Z8 (s:Str):CV:=if pOk s=true then .tup [jV (names s),CB true] else .tup [jV [],CB false]
def zhy:XC:=(.s (.r [.a2 2 1 9,.m1 3 .n]) (.s (.s (.r [.mv 7 0,.ex 8 (.bin .eql 7 (.s [])),.mv 9 8,.h3 10 0 9,.gf 11 (.idx 10 (.i 0)) 9,.gf 12 (.bin .neq 11 (.u 47)) 9,.p1 13 9 12,.mv 14 13,.h3 15 0 14,.gf 16 (.len true 15) 14,.gf 17 (.bin .gtr 16 (.i 12)) 14,.p1 18 14 17]) (.cnd 18 (.s (.r [.a2 2 1 9,.m1 3 .n]) .ret) .skip)) (.s (.r [.mv 19 0,.ex 20 (.sls 19 (.some (.i 1)) .none),.ex 21 (.call 171 [20,(.s [47])]),.a1 4 21 1 9]) (.s (.s (.r [.mv 22 4,.n1 23 22,.b1 24 .gtr 23 (.i 3)]) (.cnd 24 (.s (.r [.a2 2 1 9,.m1 3 .n]) .ret) .skip)) (.s (.s (.r [.mv 25 4,.n1 26 25,.m1 27 (.i 0)]) (.blk 0 (.loop (.s (.r [.b1 28 .lss 27 26]) (.s (.ce 28 0) (.s (.blk 1 (.s (.r [.i1 29 1 25 27,.l1 30 1 29,.mv 6 30]) (.s (.r [.mv 31 6,.c1 32 172 [31],.u1 33 32]) (.cnd 33 (.s (.r [.a2 2 1 9,.m1 3 .n]) .ret) .skip)))) (.r [.b1 34 .add 27 (.i 1),.mv 27 34]))))))) (.s (.r [.mv 35 4,.a1 2 35 1 9,.m1 3 .y]) .ret))))))
theorem zhz:zh Tryz.prog [] 157=some (zhy.ac,[(.t 2),(.t 3)],36):=by kernel_rfl
theorem zdc (W0:World) (hM:HM W0) (s:Str):Fn Tryz.prog W0 157 [CS s] (.c (Z8 s)) []:=by
 refine fX mixed zhz fun hg=>?_
 have no:pOk s=false→CV.tup [jV [],CB false]=Z8 s:=fun h=>by rw [Z8,if_neg (by simp [h])]
 refine dr ?_;apply cP<;>intro h1
 ·refine dr ?_;exact no (by rw [h1]; rfl)
 cases hs:s with
 | nil=>exact absurd hs h1
 | cons b t =>
  rw [← hs];have hl:1≤s.length:=by rw [hs]; simp
  refine dr ?_;apply cP<;>intro h2
  ·refine dr ?_;have:s.head? ≠ some 47:=by
    rw [hs];intro e;have:b=47:=by simpa using e
    subst hs; subst this;exact h2 rfl
   exact no (by
    cases hp:pOk s with
    | false=>rfl
    | true=>exact absurd (yg hp).2.2 this)
  have hb:b=47:=by
   have:(s[0]).toNat=47:=by omega
   subst hs;exact UInt8.toNat_inj.1 this
  refine dr ?_;apply cP<;>intro h3
  ·refine dr ?_;exact no (by
    cases hp:pOk s with
    | false=>rfl
    | true=>have:=(yg hp).2.1; omega)
  refine dr ?_;repeat ((first|refine sLo 1 rfl (by omega) ?_|refine c0 (zkx W0 hM _ (by simp; omega)) rfl ?_); first|refine dr ?_|exact dz)
  intro hg1;have hd:s.drop 1=t:=by rw [hs]; rfl
  rw [hd] at hg1 ⊢;have hp:pOk s=((cut 47 t).all jq&&((cut 47 t).length≤3)):=by
   have hne:=zat 47 t;have h1c:1≤(cut 47 t).length:=by
    cases hc:cut 47 t with
    | nil=>exact absurd hc hne
    | cons _ _=>simp
   rw [pOk];by_cases h2:s.length < 2
   ·have ht:t=[]:=by
     rw [hs] at h2;cases t with
     | nil=>rfl
     | cons _ _=>simp at h2; omega
    have:names s=[]:=by rw [names,if_pos (.inl h2)]
    rw [this,ht]; simp [cut,jq]
   ·have:names s=cut 47 t:=by
     rw [names,if_neg (by rw [hs] at h2 ⊢; simp at h2 ⊢; exact ⟨h2,hb⟩),hs]; rfl
    rw [this,Bool.eq_iff_iff]; simp [h1c,show s.length≤12 by omega]
  have hn:pOk s=true→names s=cut 47 t:=fun h=>by
   have h2:=(yg h);rw [names,if_neg (by simp [h2.2.2]; omega),hs]; rfl
  generalize cut 47 t=l at *;refine dr ?_;apply cP<;>intro h4
  ·refine dr ?_;exact no (by rw [hp]; simp; omega)
  refine dr ?_;refine lp (σ:=Nat) (fun k=>[(4,.c (jV l)),(25,.c (jV l)),(26,I l.length),(27,I k)]) (fun _=>[]) (fun k=>k≤l.length∧(l.take k).all jq=true) (fun k=>l.length - k) 0 ⟨by simp,by simp⟩ ?_ ?_
  ·refine dr ?_;trivial
  rintro k ⟨hk,ha⟩;refine dr ?_;apply cP<;>intro h5
  ·have hk':k < l.length:=by omega
   refine dEr ?_;repeat (refine c0 (zk7 W0 _) rfl ?_; first|refine dEr ?_|exact dz)
   apply cP<;>intro h6
   ·refine dr ?_;exact no (by rw [hp,Z2 hk' h6]; rfl)
   ·refine dr ?_;refine ⟨k+1,⟨by omega,qJ hk' ha h6⟩,by omega,?_⟩;refine dr ?_;trivial
  ·have:k=l.length:=by omega
   subst this;rw [List.take_length] at ha;have hy:pOk s=true:=by rw [hp,ha]; simp; omega
   refine dr ?_;rw [Z8,if_pos hy,hn hy]
def zg0:XC:=(.s (.r [.m1 2 .n]) (.s (.r [.mv 6 0,.c1 7 157 [6],.mv 5 7,.e1 8 5 0,.e1 9 5 1,.a1 3 8 1 9,.mv 4 9]) (.s (.r [.mv 10 4,.mv 2 10]) .ret)))
theorem zg1:zh Tryz.prog [] 123=some (zg0.ac,[(.t 2)],11):=by kernel_rfl
theorem Ye (W0:World) (hM:HM W0) (s:Str):Fn Tryz.prog W0 123 [CS s] (.c (CB (pOk s))) []:=by
 refine fX mixed zg1 fun hg=>?_
 have hc:=zdc W0 hM s;unfold Z8 at hc;cases hp:pOk s with
 | true =>
  rw [if_pos hp] at hc;refine dr ?_;repeat (refine c0 hc rfl ?_; first|refine dr ?_|exact dz)
  intro hg1;exact dz
 | false =>
  rw [if_neg (by simp [hp])] at hc;refine dr ?_;repeat (refine c0 hc rfl ?_; first|refine dr ?_|exact dz)
  intro hg1;exact dz
def zg4:XC:=(.s (.r [.ex 2 (.mv (.s []))]) (.s (.r [.mv 6 0,.c1 7 157 [6],.mv 5 7,.e1 8 5 0,.e1 9 5 1,.a1 3 8 1 9,.mv 4 9]) (.s (.s (.r [.mv 10 4,.u1 11 10]) (.cnd 11 (.s (.r [.ex 2 (.mv (.s []))]) .ret) .skip)) (.s (.r [.mv 12 3,.mv 13 3,.n1 14 13,.b1 15 .sub 14 (.i 1),.ex 16 (.slr 1 12 .none (.some 15)),.ex 17 (.call 158 [16,(.s [47])]),.ex 18 (.bin .add (.s [47]) 17),.mv 2 18]) .ret))))
theorem zg5:zh Tryz.prog [] 117=some (zg4.ac,[(.t 2)],19):=by kernel_rfl
theorem Jd (W0:World) (hM:HM W0) (s:Str):Fn Tryz.prog W0 117 [CS s] (.c (CS (pUp s))) []:=by
 refine fX mixed zg5 fun hg=>?_
 have hc:=zdc W0 hM s;unfold Z8 at hc;cases hp:pOk s with
 | true =>
  rw [if_pos hp] at hc;obtain ⟨⟨h1,h2⟩,h3,h4⟩:=qS hp;have h12:=(yg hp).2.1;have hj:(jn ((names s).take ((names s).length - 1))).length≤12:=by
   have:jn (names s)=jn ((names s).take ((names s).length - 1))++jn ((names s).drop ((names s).length - 1)):=by rw [← zd6,List.take_append_drop]
   have e:=congrArg List.length this;rw [← h4,List.length_append] at e;omega
  have hjl:=zea (l:=(names s).take ((names s).length - 1));refine dr ?_;repeat (refine c0 hc rfl ?_; first|refine dr ?_|exact dz)
  intro hg1;refine dr ?_;repeat ((first|refine sHiM ((names s).length - 1) (by omega) (by omega) ?_|refine c0 (zks W0 ((names s).take ((names s).length - 1)) (by omega)) rfl ?_|refine oB (by simp; omega) ?_); first|refine dr ?_|exact dz)
  intro hg2;refine dr ?_;rw [pUp,if_pos hp];have hdl:(names s).take ((names s).length - 1)=(names s).dropLast:=by rw [List.dropLast_eq_take]
  rw [hdl];by_cases hn:(names s).length=1
  ·have:(names s).dropLast=[]:=by
    rw [← List.length_eq_zero_iff,List.length_dropLast]; omega
   rw [if_pos hn,this]; rfl
  ·have:(names s).dropLast≠[]:=by
    intro e; have:=congrArg List.length e; rw [List.length_dropLast] at this; simp at this; omega
   rw [if_neg hn,zd9 this]; rfl
 | false =>
  rw [if_neg (by simp [hp])] at hc;refine dr ?_;repeat (refine c0 hc rfl ?_; first|refine dr ?_|exact dz)
  intro hg1;refine dr ?_;rw [pUp,if_neg (by simp [hp])]
def zhG:XC:=(.s (.r [.m1 4 .n]) (.s (.r [.mv 5 0,.ex 6 (.len true 5),.mv 7 1,.ex 8 (.len true 7),.b1 9 .geq 6 8,.mv 10 9,.g3 11 0 10,.g3 12 1 10,.gt 13 (.len true 12) 10,.gt 14 (.sls 11 .none (.some 13)) 10,.g3 15 1 10,.gt 16 (.bin .eql 14 15) 10,.p2 17 10 16,.mv 4 17]) .ret))
theorem zhH:zh Tryz.prog [] 177=some (zhG.ac,[(.t 4)],18):=by kernel_rfl
theorem zk9 (W0:World) (s p:Str):Fn Tryz.prog W0 177 [CS s,CS p] (.c (CB (p.isPrefixOf s))) []:=by
 refine fX mixed zhH fun hg=>?_
 refine dr ?_;apply cP<;>intro h1
 ·refine dr ?_;repeat (refine sHi p.length rfl (by omega) ?_; first|refine dr ?_|exact dz)
  refine congrArg CB ?_;rw [Bool.eq_iff_iff,List.isPrefixOf_iff_prefix,List.prefix_iff_eq_take];simp [Ja];exact eq_comm
 ·refine dr ?_;refine bF ?_;rw [Bool.eq_false_iff]; intro h;have:=(List.isPrefixOf_iff_prefix.1 h).length_le;omega
def zjU:XC:=(.s (.r [.m1 4 .n]) (.s (.r [.mv 5 0,.mv 6 1,.c1 7 177 [5,6],.mv 4 7]) .ret))
theorem zjV:zh Tryz.prog [] 163=some (zjU.ac,[(.t 4)],8):=by kernel_rfl
theorem zkr (W0:World) (s p:Str):Fn Tryz.prog W0 163 [CS s,CS p] (.c (CB (p.isPrefixOf s))) []:=by
 refine fX mixed zjV fun hg=>?_
 refine dEr ?_;repeat (refine c0 (zk9 W0 _ _) rfl ?_; first|refine dEr ?_|exact dz)
def zg2:XC:=(.s (.r [.m1 4 .n]) (.s (.s (.r [.mv 5 0,.c1 6 123 [5],.u1 7 6]) (.cnd 7 (.rf 4) .skip)) (.s (.s (.r [.mv 8 1,.ex 9 (.bin .eql 8 (.s [47]))]) (.cnd 9 (.rt 4) .skip)) (.s (.r [.mv 10 1,.c1 11 123 [10],.mv 12 11,.g3 13 0 12,.g3 14 1 12,.gt 15 (.bin .add 14 (.s [47])) 12,.gt 16 (.call 163 [13,15]) 12,.p2 17 12 16,.mv 4 17]) .ret))))
theorem zg3:zh Tryz.prog [] 139=some (zg2.ac,[(.t 4)],18):=by kernel_rfl
def und2 (s d:Str):Bool:=pOk s&&(d==[47]||(pOk d&&(d++[47]).isPrefixOf s))
theorem zae {s d:Str} (hs:pOk s=true) (hd:pOk d=true):und2 s d=und s d:=by
 unfold und2 und; rw [hs,hd]; simp
theorem zc1 (W0:World) (hM:HM W0) (s d:Str):Fn Tryz.prog W0 139 [CS s,CS d] (.c (CB (und2 s d))) []:=by
 refine fX mixed zg3 fun hg=>?_
 refine dEr ?_;repeat (refine c0 (Ye W0 hM s) rfl ?_; first|refine dEr ?_|exact dz)
 apply cP<;>intro h1
 ·refine dr ?_;exact bF (by simp [und2,h1])
 refine dr ?_;apply cP<;>intro h2
 ·refine dr ?_;exact bT (by simp [und2,h1,h2])
 refine dEr ?_;repeat (refine c0 (Ye W0 hM d) rfl ?_; first|refine dEr ?_|exact dz)
 apply cP<;>intro h3
 ·have hl:=(yg h3).2.1;refine dEr ?_;repeat ((first|refine c0 (zkr W0 _ _) rfl ?_|refine oB (by simp; omega) ?_); first|refine dEr ?_|exact dz)
  refine congrArg CB ?_;rw [Bool.eq_iff_iff]; simp [und2,h1,h2,h3]
 ·refine dr ?_;exact bF (by simp [und2,h2,h3])
def zhi:XC:=(.s (.r [.m1 2 .n]) (.s (.s (.r [.mv 6 0,.ex 7 (.len true 6),.b1 8 .gtr 7 (.i 6)]) (.cnd 8 (.rf 2) .skip)) (.s (.s (.r [.m1 3 (.i 0)]) (.blk 0 (.loop (.s (.s (.r [.mv 9 3,.mv 10 0,.ex 11 (.len true 10),.b1 12 .lss 9 11]) (.ce 12 0)) (.s (.blk 1 (.s (.r [.mv 15 0,.mv 16 3,.ex 17 (.idx 15 16),.b1 18 .geq 17 (.u 97),.mv 19 18,.g3 20 0 19,.g3 21 3 19,.gt 22 (.idx 20 21) 19,.gt 23 (.bin .leq 22 (.u 122)) 19,.p2 24 19 23,.mv 4 24]) (.s (.r [.mv 25 0,.mv 26 3,.ex 27 (.idx 25 26),.b1 28 .geq 27 (.u 48),.mv 29 28,.g3 30 0 29,.g3 31 3 29,.gt 32 (.idx 30 31) 29,.gt 33 (.bin .leq 32 (.u 57)) 29,.p2 34 29 33,.mv 5 34]) (.s (.r [.mv 35 4,.u1 36 35,.mv 37 36,.g3 38 5 37,.gt 39 (.un .not 38) 37,.p2 40 37 39]) (.cnd 40 (.rf 2) .skip))))) (.ic 13 14 3)))))) (.rt 2))))
theorem zhj:zh Tryz.prog [] 124=some (zhi.ac,[(.t 2)],41):=by kernel_rfl
theorem zcT (W0:World) (s:Str):Fn Tryz.prog W0 124 [CS s] (.c (CB (j2 s))) []:=by
 refine fX mixed zhj fun hg=>?_
 refine dr ?_;apply cP<;>intro h1
 ·refine dr ?_;exact bF (by rw [j2]; simp; omega)
 refine dr ?_;refine lp (σ:=Nat) (fun k=>[(0,.c (CS s)),(3,I k)]) (fun _=>[]) (fun k=>k≤s.length∧(s.take k).all jL=true) (fun k=>s.length - k) 0 ⟨by simp,by simp⟩ ?_ ?_
 ·refine dr ?_;trivial
 rintro k ⟨hk,ha⟩;refine dr ?_;apply cP<;>intro h2
 ·have hk':k < s.length:=by omega
  have no:jL s[k]=false→CB false=CB (j2 s):=fun h=>bF (by rw [j2,Z2 hk' h]; rfl)
  have nx:jL s[k]=true→∃ x',(x'≤s.length∧(s.take x').all jL=true)∧x'=k+1:=fun h=>⟨k+1,⟨by omega,qJ hk' ha h⟩,rfl⟩
  refine dr ?_;apply cP<;>intro h3
  ·refine dr ?_;apply cP<;>intro h4
   ·refine dr ?_;apply cP<;>intro h5
    ·refine dr ?_;apply cP<;>intro h6
     ·refine dr ?_;exact no (by simp [jL,jt]; omega)
     ·omega
    ·refine dr ?_;refine ⟨k+1,⟨by omega,qJ hk' ha (by simp [jL,jt]; omega)⟩,by omega,?_⟩;refine dr ?_;trivial
   ·omega
  ·refine dr ?_;apply cP<;>intro h4
   ·refine dr ?_;apply cP<;>intro h6
    ·refine dr ?_;exact no (by simp [jL,jt]; omega)
    ·refine dr ?_;refine ⟨k+1,⟨by omega,qJ hk' ha (by simp [jL,jt]; omega)⟩,by omega,?_⟩;refine dr ?_;trivial
   ·refine dr ?_;exact no (by simp [jL,jt]; omega)
 ·have:k=s.length:=by omega
  subst this;rw [List.take_length] at ha;refine dr ?_;exact bT (by rw [j2,ha]; simp; omega)
end Go.Proofs.YtmkmldepkponaaaGreatDoor

namespace Go.Proofs.YtmkmldepkponaaaGreatDoor
set_option linter.unusedSimpArgs false
set_option linter.unusedVariables false
open Go Go.RowKit
theorem cmpNaN (x:ByteArray) (W:World):Calls Tryz.prog 166 #[.string x] W fun e w'=>e = .returned (.bool false)∧w'=W:=by
 go_enter Tryz.func166,Tryz.ntmps166;go_wp2;go_ret;exact ⟨rfl,rfl⟩
def cmpS (a b:Str):Int:=if ltS a b=true then -1 else if ltS b a=true then 1 else 0
theorem zcy (x y:Str) (W:World):Calls Tryz.prog 142 #[.string ⟨⟨x⟩⟩,.string ⟨⟨y⟩⟩] W fun e w'=>e = .returned (.int .i64 (cmpS x y))∧w'=W:=by
 go_enter Tryz.func142,Tryz.ntmps142;go_wp2_with (go_at_call 166; refine (cmpNaN _ _).mono ?_; rintro e w' ⟨rfl,rfl⟩)
 ·have h:Op.bytesLess x y=true:=by assumption
  go_ret;refine ⟨?_,rfl⟩;rw [cmpS,Zf,if_pos h]; rfl
 ·have h:Op.bytesLess x y=false:=by assumption
  have h2:(!x==y)=true:=by assumption
  go_ret;refine ⟨?_,rfl⟩;have h3:ltS y x=true:=by
   rcases YB x y with e | e | e
   ·subst e; simp at h2
   ·rw [Zf,h] at e; cases e
   ·exact e
  rw [cmpS,Zf,if_neg (by simp [h]),if_pos h3]; rfl
 ·have h:Op.bytesLess x y=false:=by assumption
  have h2:(!x==y)=false:=by assumption
  go_ret;refine ⟨?_,rfl⟩;have e:x=y:=by simpa using h2
  subst e;rw [cmpS,yc]; rfl
theorem zaq (a b:Str):decide (cmpS a b < 0)=ltS a b:=by
 unfold cmpS;cases h:ltS a b with
 | true=>simp
 | false =>
  cases h2:ltS b a with
  | true=>simp
  | false=>simp
def vEnt (x:Ent):List Value:=[.string ⟨⟨x.path⟩⟩,(.bool x.dir),.string ⟨⟨x.data⟩⟩]
theorem zj8 (x y:Ent) (W:World):Calls Tryz.prog 156 #[.agg #[.string ⟨⟨x.path⟩⟩,(.bool x.dir),.string ⟨⟨x.data⟩⟩],.agg #[.string ⟨⟨y.path⟩⟩,(.bool y.dir),.string ⟨⟨y.data⟩⟩]] W fun e w'=>e = .returned (.int .i64 (cmpS x.path y.path))∧∃ q os',w'=Sort.grow (W.drewN q) os':=by
 have hcon:=fun W'=>zcy x.path y.path W'
 generalize cmpS x.path y.path=r at hcon ⊢;go_enter Tryz.func156,Tryz.ntmps156;go_wp2_with (go_at_call 142; refine (hcon _).mono ?_; rintro e w' ⟨rfl,rfl⟩);go_ret;exact ⟨rfl,0,_,by rw [Sort.alloc_eq_grow,Sort.alloc_eq_grow,Sort.grow_grow]; rfl⟩
def vMark (x:Mark):List Value:=[.string ⟨⟨x.path⟩⟩,(.int .i64 x.kind),.string ⟨⟨x.data⟩⟩]
theorem zj9 (x y:Mark) (W:World):Calls Tryz.prog 141 #[.agg #[.string ⟨⟨x.path⟩⟩,(.int .i64 x.kind),.string ⟨⟨x.data⟩⟩],.agg #[.string ⟨⟨y.path⟩⟩,(.int .i64 y.kind),.string ⟨⟨y.data⟩⟩]] W fun e w'=>e = .returned (.int .i64 (cmpS x.path y.path))∧∃ q os',w'=Sort.grow (W.drewN q) os':=by
 have hcon:=fun W'=>zcy x.path y.path W'
 generalize cmpS x.path y.path=r at hcon ⊢;go_enter Tryz.func141,Tryz.ntmps141;go_wp2_with (go_at_call 142; refine (hcon _).mono ?_; rintro e w' ⟨rfl,rfl⟩);go_ret;exact ⟨rfl,0,_,by rw [Sort.alloc_eq_grow,Sort.alloc_eq_grow,Sort.grow_grow]; rfl⟩
end Go.Proofs.YtmkmldepkponaaaGreatDoor

namespace Go.Proofs.YtmkmldepkponaaaGreatDoor
set_option linter.unusedSimpArgs false
set_option linter.unusedVariables false
open Go Go.RowKit
theorem zdB {α:Type} [Inhabited α] {enc:α→List Value} {k:Nat} (hk:∀ x,(enc x).length=k):∀ (l:List α) (t:Nat),t < l.length * k→(l.flatMap enc)[t]! = (enc l[t / k]!)[t % k]!
 | [],t,h=>by simp at h
 | a::r,t,h=>by
  have k0:0 < k:=by
   rcases Nat.eq_zero_or_pos k with h0 | h0
   ·subst h0; simp at h
   ·exact h0
  rw [List.flatMap_cons];by_cases ht:t < k
  ·rw [Nat.div_eq_of_lt ht,Nat.mod_eq_of_lt ht];have e:(enc a++r.flatMap enc)[t]? = (enc a)[t]? := List.getElem?_append_left (by rw [hk]; exact ht);simp only [List.getElem!_eq_getElem?_getD,e];simp
  ·have h2:t - k < r.length * k:=by rw [List.length_cons,Nat.add_mul,Nat.one_mul] at h; omega
   have ih:=zdB hk r (t - k) h2;have e:(enc a++r.flatMap enc)[t]? = (r.flatMap enc)[t - k]? := by rw [List.getElem?_append_right (by rw [hk]; omega),hk]
   have e1:t / k=(t - k) / k+1:=by
    conv=>lhs; rw [show t=t - k+k by omega]
    exact Nat.add_div_right _ k0
   have e2:t % k=(t - k) % k:=by
    conv=>lhs; rw [show t=t - k+k by omega]
    exact Nat.add_mod_right _ _
   rw [e1,e2];simp only [List.getElem!_eq_getElem?_getD] at ih ⊢;rw [e,ih]; simp
theorem Qd {α:Type} {enc:α→List Value} {k:Nat} (hk:∀ x,(enc x).length=k):∀ (l:List α),(l.flatMap enc).length=l.length * k
 | []=>by simp
 | a::r=>by rw [List.flatMap_cons,List.length_append,Qd hk r,hk,List.length_cons,Nat.add_mul]; omega
theorem zdv {α:Type} [Inhabited α] {enc:α→List Value} {k:Nat} (hk:∀ x,(enc x).length=k) (l:List α):Sort.flatK enc k l.toArray=(l.flatMap enc).toArray:=by
 refine Sort.ext_get! (by simp [Qd hk]) fun t ht=>?_
 have ht':t < l.length * k:=by simpa using ht
 rw [Sort.get_flatK _ _ _ _ (by simpa using ht')];have:=zdB hk l t ht';simp only [List.getElem!_eq_getElem?_getD] at this;simp [this]
theorem zm6 {w:World} {b:Nat} {F F' rest:List Value} {e:TypeId} {n:Nat} {os:Array Obj} (hb:w.heap[b]? = some (.cells (F++rest).toArray e (0,0))) (hl:F'.length=F.length) :
  (Sort.grow (Sort.putRow id (Sort.ahead w n) b 0 F'.toArray) os).heap[b]? = some (.cells (F'++rest).toArray e (0,0)):=by
 have hlt:b < w.heap.size:=(Array.getElem?_eq_some_iff.1 hb).1;unfold Sort.grow;simp only;rw [Array.getElem?_append_left (by simpa using hlt)];unfold Sort.putRow Sort.mapBlock;simp only [Sort.heap_ahead,Array.getElem?_modify,if_true,hb,Option.map_some,Sort.onCells]
 congr 2
 unfold Sort.putCells;apply Array.ext
 ·simp [hl]
 ·intro i h1 h2;simp only [Array.getElem_mapIdx,List.getElem_toArray];simp at h1;by_cases hi:i < F'.length
  ·rw [if_pos (by simp; omega),List.getElem_append_left hi];simp [hi]
  ·rw [if_neg (by simp; omega),List.getElem_append_right (by omega),List.getElem_append_right (by omega)];simp only [hl]
theorem zm8 {w:World} {b k:Nat} {F':List Value} {n:Nat} {os:Array Obj} (hk:k < w.heap.size) (hne:b≠k) :
  (Sort.grow (Sort.putRow id (Sort.ahead w n) b 0 F'.toArray) os).heap[k]? = w.heap[k]? := by
 unfold Sort.grow;simp only;rw [Array.getElem?_append_left (by simpa using hk)];unfold Sort.putRow Sort.mapBlock;simp [Array.getElem?_modify,hne]
section
variable {κ:Kap} {m:Mem} {w:World} {α:Type} {enc:α→List Value} {f:α→CV}
theorem znf {v u:Value} (h:zb κ m w (.c (.sc v)) u):u=v∧wfv v:=by
 have h:RepC w (zf κ m) (.sc v) u:=h;cases h; exact ⟨rfl,by assumption⟩
theorem zfd:∀ {vs us:List Value},za (zb κ m w) (vs.map fun v => .c (.sc v)) us→us=vs∧∀ v∈vs,wfv v
 | [],[],_=>⟨rfl,by simp⟩
 | v::vs,u::us,h=>by
  obtain ⟨h1,h2⟩:=znf h.1;obtain ⟨h3,h4⟩:=zfd h.2;exact ⟨by rw [h1,h3],by simpa using ⟨h2,h4⟩⟩
 | [],_::_,h=>h.elim
 | _::_,[],h=>h.elim
theorem zfq:∀ {vs:List Value},(∀ v∈vs,wfv v)→za (zb κ m w) (vs.map fun v => .c (.sc v)) vs
 | [],_=>trivial
 | v::vs,h=>⟨show RepC w (zf κ m) (.sc v) v from .sc (h v (by simp)),zfq fun u hu=>h u (by simp [hu])⟩
theorem zam (hf:∀ a,f a = .agg ((enc a).map .sc)):∀ (X:List α),((X.map f).map PV.c).flatMap PV.cells=(X.flatMap enc).map fun v => .c (.sc v)
 | []=>rfl
 | a::X=>by
  rw [List.map_cons,List.map_cons,List.flatMap_cons,List.flatMap_cons,List.map_append,zam hf X,hf];simp [PV.cells,CV.cells]
end
theorem zfG {α:Type} [Inhabited α] {P:Program} {W0:World} {F:FuncId} {fv:Value} {T:TypeId} {id k:Nat} {enc:α→List Value} {f:α→CV} {key:α→Str} {lt:α→α→Bool} (hf:∀ a,f a = .agg ((enc a).map .sc)) (hk:∀ x,(enc x).length=k) (h0:0 < k) (hlt:∀ a b,lt a b=ltS (key a) (key b))
  (hnone:∀ p cap w,Calls P F #[.slice p 0 cap,fv] w fun e w'=>e = .returned (.tuple #[])∧w'=w)
  (hsome:∀ b cap (d:Array α) w,Sort.HoldsK enc k w b 0 d→b < w.heap.size→d.size < 4611686018427387904→Calls P F #[.slice (some ⟨b,0,none⟩) d.size cap,fv] w fun e w' =>
   e = .returned (.tuple #[])∧∃ d' n os,Sort.PermIn 0 d.size d d'∧Sort.SortedIn lt 0 d.size d'∧w'=sortWorldK enc k w b 0 n d' os)
  (X:List α) (hX:X.length≤1000000) :
  zy P W0 F [.own id X.length,.c (.sc fv)] [(id,.row (X.map f) k T)] (qe key X) (fun _ => .c (.tup [])) (fun S=>[(id,.row (S.map f) k T)]):=by
 intro κ w vs hB hm hr;obtain ⟨v1,v2,hvs⟩:∃ v1 v2,vs.toList=[v1,v2]:=by
  have:=za.length hr
  match h:vs.toList with
  | [a,b]=>exact ⟨a,b,rfl⟩
  | [] | [_] | _::_::_::_=>rw [h] at this; simp at this
 rw [hvs] at hr;obtain ⟨r1,r2,_⟩:=hr;have e2:v2=fv:=by
  have r2:RepC w (zf κ (er [(id,.row (X.map f) k T)])) (.sc fv) v2:=r2;cases r2; rfl
 subst e2;obtain ⟨⟨a,cap0,rfl,_⟩,hnm,L,sz,e,g1,g2,g3,_⟩:=r1;have hl:lk (er [(id,XB.row (X.map f) k T)]) id=some (.row ((X.map f).map .c) k T):=by simp [er,lk,XB.er]
 rw [hl] at g1;cases g1;have gO:=g3 (by simp);have hv:vs=#[.slice a X.length cap0,v2]:=by rw [← hvs]
 subst hv;have ret:∀ {κ':Kap} {m':Mem} {w':World},Rep κ' m' w' (.c (.tup [])) (.tuple #[]):=fun {κ' m' w'}=>show RepC w' _ (.tup []) (.tuple [].toArray) from .tup rfl (by simp)
 by_cases hXn:X=[]
 ·subst hXn;refine (hnone a cap0 w).mono ?_;rintro e w' ⟨rfl,rfl⟩;exact ⟨_,_,_,κ,rfl,⟨_,rfl,[],⟨List.Perm.nil,List.Pairwise.nil⟩,rfl,rfl⟩,hm,ret⟩
 obtain ⟨hsz,_,hblk⟩:=hm.mem.blk id _ hl;rcases hblk with ⟨_,hL⟩ | ⟨b,us,rest,hkb,hh,hall⟩
 ·rcases hL with hL | hL
  ·simp at hL; exact absurd hL hXn
  ·have:=Jo hL; simp [maxLen] at this; omega
 unfold zX at gO;rw [hkb] at gO;obtain ⟨cap,arr,e',hsl,hle,hcap,hb2,hsz2⟩:=gO;injection hsl with q1 q2 q3
 subst q1 q3;rw [zam hf] at hall;obtain ⟨rfl,hwf⟩:=zfd hall;have hblt:b < w.heap.size:=(Array.getElem?_eq_some_iff.1 hh).1;have hfl:=Qd hk X;have hH:Sort.HoldsK enc k w b 0 X.toArray:=by
  unfold Sort.HoldsK;rw [zdv hk];intro j hj;have hj':j < (X.flatMap enc).length:=by simpa using hj
  refine ⟨?_,?_⟩
  ·unfold World.cell?;simp only [hh,Nat.zero_add];rw [List.getElem?_toArray,List.getElem?_append_left hj',List.getElem?_eq_getElem hj'];have:(X.flatMap enc).toArray[j]! = (X.flatMap enc)[j]:=by rw [getElem!_pos _ j (by simpa using hj')]; rfl
   exact congrArg some this.symm
  ·unfold World.frozen?;simp only [hh]; simp
 have hs:=hsome b cap0 X.toArray w hH hblt (by simp; omega);simp only [List.size_toArray] at hs;refine hs.mono ?_;rintro e w' ⟨rfl,d',n,os,hp,hsd,rfl⟩;have hds:d'.size=X.length:=by simpa using hp.1
 have hperm:d'.toList.Perm X:=by
  have:=hp.2.2;rw [Array.extract_eq_self_of_le (by omega)] at this
  simpa using this
 have hsorts:qe key X d'.toList:=by
  refine ⟨hperm,?_⟩;rw [List.pairwise_iff_getElem];intro i j hi hj hij;rw [← hlt];have:=hsd i j (Nat.zero_le _) hij (by simpa [hds] using hj)
  simpa [getElem!_pos,show i < d'.size by simpa using hi,show j < d'.size by simpa using hj] using this
 have hwf':∀ v∈d'.toList.flatMap enc,wfv v:=by
  intro v hv;obtain ⟨x,hx,hv⟩:=List.mem_flatMap.1 hv;exact hwf v (List.mem_flatMap.2 ⟨x,hperm.mem_iff.1 hx,hv⟩)
 have hW:sortWorldK enc k w b 0 n d' os=Sort.grow (Sort.putRow _root_.id (Sort.ahead w n) b 0 (d'.toList.flatMap enc).toArray) os:=by
  unfold sortWorldK Sort.putRowK;rw [← zdv hk d'.toList]
 rw [hW];have hl2:(d'.toList.flatMap enc).length=(X.flatMap enc).length:=by rw [Qd hk,Qd hk]; simp [hds]
 have hheap:=zm6 (n:=n) (os:=os) hh hl2;have e1:upd (er [(id,XB.row (X.map f) k T)]) id (.row ((d'.toList.map f).map .c) k T)=er [(id,XB.row (d'.toList.map f) k T)]:=by simp [er,XB.er,upd]
 have hturn:=hm.turn (κ':=κ) (id:=id) (x := .row ((d'.toList.map f).map .c) k T) (y := .row ((X.map f).map .c) k T) (w':=Sort.grow (Sort.putRow _root_.id (Sort.ahead w n) b 0 (d'.toList.flatMap enc).toArray) os)
  hB.size hl rfl rfl rfl (by simp [Sort.grow,Sort.putRow,Sort.mapBlock]) rfl (fun _ _=>rfl) (fun j hj hne=>zm8 hj (fun e=>hne (by rw [hkb,e]))) (.inl rfl) (fun cs h=>by cases h)
  (fun L sz e h=>by
   cases h;refine ⟨_,rfl,by simp [hds],fun _=>⟨rfl,fun b' arr e' hb' ha=>?_⟩⟩;rw [hkb] at hb'; cases hb';rw [hh] at ha; cases ha;exact ⟨_,hheap,by simp [hl2]⟩)
  (fun _=>by
   refine ⟨fun x hx=>?_,h0,.inr ⟨b,_,rest,hkb,hheap,?_⟩⟩
   ·obtain ⟨y,hy,rfl⟩:=List.mem_map.1 hx;obtain ⟨z,_,rfl⟩:=List.mem_map.1 hy;rw [hf]; simp [PV.cells,CV.cells,hk]
   ·rw [zam hf]; exact zfq hwf') (.inr ⟨b,hkb⟩)
 rw [e1] at hturn;exact ⟨_,_,_,κ,rfl,⟨_,rfl,d'.toList,hsorts,rfl,rfl⟩,hturn.1,ret⟩
instance:Inhabited Ent:=⟨⟨[],false,[]⟩⟩
instance:Inhabited Mark:=⟨⟨[],0,[]⟩⟩
theorem zes {x y z:Str} (h1:ltS x y=false) (h2:ltS y z=false):ltS x z=false:=by
 rcases Qp h1 with rfl | h3
 ·exact h2
 ·rcases Qp h2 with rfl | h4
  ·exact ZL h3
  ·exact ZL (yX h4 h3)
theorem swoS {α:Type} [Inhabited α] (key:α→Str):Sort.SWO (ltOf fun x y:α=>cmpS (key x) (key y)):=by
 have e:∀ x y:α,ltOf (fun x y:α=>cmpS (key x) (key y)) x y=ltS (key x) (key y):=fun x y=>zaq _ _
 refine ⟨fun x=>?_,fun x y z h1 h2=>?_,fun x y z h1 h2=>?_⟩
 ·rw [e]; exact yc _
 ·rw [e] at *; exact yX h1 h2
 ·rw [e] at *; exact zes h1 h2
theorem JJ {α:Type} {key:α→Str} {X:List α}:∃ S,qe key X S:=by
 refine ⟨X.mergeSort (fun a b=>!ltS (key b) (key a)),List.mergeSort_perm _ _,?_⟩;have h:=List.pairwise_mergeSort (le:=fun a b:α=>!ltS (key b) (key a)) (fun a b c h1 h2=>by
  simp only [Bool.not_eq_true'] at *; exact zes h2 h1) (fun a b=>by
  rcases YB (key a) (key b) with h | h | h
  ·rw [h,yc]; rfl
  ·rw [ZL h]; rfl
  ·rw [ZL h]; simp) X
 exact h.imp fun h=>by simpa using h
def zhA:XC:=(.r [.mv 2 0,.ex 3 (.opn 155 [2,(.k (.c (.sc (.func (.func 156) #[] #[]))))])])
theorem zhB:zh Tryz.prog [155] 113=some (zhA.ac,[],4):=by kernel_rfl
theorem zkv (W0:World) (id:Nat) (X:List Ent) (hX:X.length≤1000000):zy Tryz.prog W0 155 [.own id X.length,.c (.sc (.func (.func 156) ⟨[]⟩ ⟨[]⟩))] [(id,.row (X.map zv) 3 77)] (qe Ent.path X) (fun _ => .c (.tup [])) (fun S=>[(id,.row (S.map zv) 3 77)]):=by
 have eg:∀ args w,(callFunc 156 args).run Tryz.prog w = .ok (.enter 156 args) w:=enters_of Tryz.func156 (by kernel_rfl) rfl;refine zfG (enc:=vEnt) (lt:=ltOf fun x y:Ent=>cmpS x.path y.path) (fun _=>rfl) (fun _=>rfl) (by decide) (fun x y=>zaq _ _) (fun p cap w=>?_) (fun b cap d w hH hb hd=>?_) X hX
 ·exact AnyF.slices_SortFunc_none { Tryz.sortE with } p cap _ w
 ·exact AnyQ.slices_SortFunc Tryz.sortE 3 Tryz.isAgg77 Tryz.sizeOf77 vEnt (fun _=>rfl) (fun x v hv=>by simp [vEnt] at hv; rcases hv with rfl|rfl|rfl<;>rfl) (fun x y=>cmpS x.path y.path) (swoS Ent.path) 156 #[] b 0 cap d w eg (fun _ _ _ _ x y=>zj8 x y _) hH hb hd
theorem zla (W0:World) (X:List Ent) (hX:X.length≤1000000):zy Tryz.prog W0 113 [.own 1 X.length] [(1,.row (X.map zv) 3 77)] (qe Ent.path X) (fun _ => .tup []) (fun S=>[(1,.row (S.map zv) 3 77)]):=by
 refine fW mixed zhB fun hg=>?_
 refine dr ?_;refine oW (zkv W0 1 X hX) rfl ⟨rfl,trivial⟩ rfl rfl JJ fun S hS=>⟨rfl,?_⟩
 refine dr ?_;refine ⟨none,_,_,?_,S,hS,rfl,rfl⟩;refine dr ?_;trivial
def zhC:XC:=(.r [.mv 2 0,.ex 3 (.opn 140 [2,(.k (.c (.sc (.func (.func 141) #[] #[]))))])])
theorem zhD:zh Tryz.prog [140] 107=some (zhC.ac,[],4):=by kernel_rfl
theorem zkw (W0:World) (id:Nat) (X:List Mark) (hX:X.length≤1000000):zy Tryz.prog W0 140 [.own id X.length,.c (.sc (.func (.func 141) ⟨[]⟩ ⟨[]⟩))] [(id,.row (X.map zm) 3 34)] (qe Mark.path X) (fun _ => .c (.tup [])) (fun S=>[(id,.row (S.map zm) 3 34)]):=by
 have eg:∀ args w,(callFunc 141 args).run Tryz.prog w = .ok (.enter 141 args) w:=enters_of Tryz.func141 (by kernel_rfl) rfl;refine zfG (enc:=vMark) (lt:=ltOf fun x y:Mark=>cmpS x.path y.path) (fun _=>rfl) (fun _=>rfl) (by decide) (fun x y=>zaq _ _) (fun p cap w=>?_) (fun b cap d w hH hb hd=>?_) X hX
 ·exact AnyF.slices_SortFunc_none { Tryz.sortM with } p cap _ w
 ·exact AnyQ.slices_SortFunc Tryz.sortM 3 Tryz.isAgg34 Tryz.sizeOf34 vMark (fun _=>rfl) (fun x v hv=>by simp [vMark] at hv; rcases hv with rfl|rfl|rfl<;>rfl) (fun x y=>cmpS x.path y.path) (swoS Mark.path) 141 #[] b 0 cap d w eg (fun _ _ _ _ x y=>zj9 x y _) hH hb hd
theorem zaJ (W0:World) (X:List Mark) (hX:X.length≤1000000):zy Tryz.prog W0 107 [.own 1 X.length] [(1,.row (X.map zm) 3 34)] (qe Mark.path X) (fun _ => .tup []) (fun S=>[(1,.row (S.map zm) 3 34)]):=by
 refine fW mixed zhD fun hg=>?_
 refine dr ?_;refine oW (zkw W0 1 X hX) rfl ⟨rfl,trivial⟩ rfl rfl JJ fun S hS=>⟨rfl,?_⟩
 refine dr ?_;refine ⟨none,_,_,?_,S,hS,rfl,rfl⟩;refine dr ?_;trivial
end Go.Proofs.YtmkmldepkponaaaGreatDoor

namespace Go.Proofs.YtmkmldepkponaaaGreatDoor
set_option linter.unusedSimpArgs false
set_option linter.unusedVariables false
open Go Go.RowKit
theorem zdD {α:Type} {key:α→Str} {t:List α} {p:Str} {k:Nat} (h:k < t.length) (hp:key t[k]=p) (hn:∀ i (h':i < t.length),i < k→key t[i]≠p):fnd key t p=some t[k]:=by
 unfold fnd;rw [List.find?_eq_some_iff_getElem];exact ⟨by simp [hp],k,h,rfl,fun i hi=>by simpa using hn i (by omega) hi⟩
theorem zdC {α:Type} {key:α→Str} {t:List α} {p:Str} (hn:∀ i (h':i < t.length),key t[i]≠p):fnd key t p=none :=
 jW.2 fun e he=>by obtain ⟨i,hi,rfl⟩:=List.mem_iff_getElem.1 he; exact hn i hi
def noM:Mark:=⟨[],0,[]⟩
def eMarkO:Option Mark→CV
 | none => .tup [zm noM,CB false]
 | some m => .tup [zm m,CB true]
theorem Z7 (o:Option Mark):eMarkO o = .tup [zm (o.getD noM),CB o.isSome]:=by cases o<;>rfl
def zhk:XC:=(.s (.r [.ex 4 (.alloc zE),.m1 5 .n]) (.s (.s (.r [.mv 8 0,.n1 9 8,.m1 10 (.i 0)]) (.blk 0 (.loop (.s (.r [.b1 11 .lss 10 9]) (.s (.ce 11 0) (.s (.blk 1 (.s (.r [.i1 12 3 8 10,.l2 13 3 12,.ex 7 (.alloc zE),.s1 3 7 13]) (.s (.r [.f1 14 0 7,.l1 15 1 14,.mv 16 1,.b1 17 .eql 15 16]) (.cnd 17 (.s (.r [.l2 18 3 7,.s1 3 4 18,.m1 5 .y]) .ret) .skip)))) (.r [.b1 19 .add 10 (.i 1),.mv 10 19]))))))) (.s (.r [.ex 20 (.build zE []),.s1 3 4 20,.m1 5 .n]) .ret)))
theorem zhl:zh Tryz.prog [] 115=some (zhk.ac,[(.cell 4 true 3),(.t 5)],21):=by kernel_rfl
theorem zcU (W0:World) (t:List Ent) (p:Str):Fn Tryz.prog W0 115 [zj t,CS p] (.c (eEntO (find t p))) []:=by
 refine fX mixed zhl fun hg=>?_
 have g1:=jM (hg _ (by simp:zj t∈_));refine dr ?_;refine lp (σ:=Nat) (fun k=>[(1,.c (CS p)),(4,.ptr 64 0),(8,.c (zj t)),(9,I t.length),(10,I k)]) (fun _=>[(64,.box [.c (CS []),(.c (CB false)),.c (CS [])])]) (fun k=>k≤t.length∧∀ i (h':i < t.length),i < k→t[i].path≠p) (fun k=>t.length - k) 0 ⟨by simp,by simp⟩ ?_ ?_
 ·refine dr ?_;trivial
 rintro k ⟨hk,ha⟩;refine dr ?_;apply cP<;>intro h1
 ·refine dr ?_;apply cP<;>intro h2
  ·refine dr ?_;have:find t p=some t[k]:=zdD (key:=Ent.path) (by omega) h2 ha;rw [this]; rfl
  ·refine dr ?_;refine ⟨k+1,⟨by omega,fun i h' hi=>?_⟩,by omega,?_⟩
   ·by_cases e:i=k
    ·subst e; exact h2
    ·exact ha i h' (by omega)
   ·refine dr ?_;trivial
 ·refine dr ?_;have:find t p=none:=zdC (key:=Ent.path) fun i h'=>ha i h' (by omega)
  rw [this]; rfl
def zhq:XC:=(.s (.r [.ex 4 (.alloc [sE,(I 0),sE]),.m1 5 .n]) (.s (.s (.r [.mv 8 0,.n1 9 8,.m1 10 (.i 0)]) (.blk 0 (.loop (.s (.r [.b1 11 .lss 10 9]) (.s (.ce 11 0) (.s (.blk 1 (.s (.r [.i1 12 3 8 10,.l2 13 3 12,.ex 7 (.alloc [sE,(I 0),sE]),.s1 3 7 13]) (.s (.r [.f1 14 0 7,.l1 15 1 14,.mv 16 1,.b1 17 .eql 15 16]) (.cnd 17 (.s (.r [.l2 18 3 7,.s1 3 4 18,.m1 5 .y]) .ret) .skip)))) (.r [.b1 19 .add 10 (.i 1),.mv 10 19]))))))) (.s (.r [.ex 20 (.build [sE,(I 0),sE] []),.s1 3 4 20,.m1 5 .n]) .ret)))
theorem zhr:zh Tryz.prog [] 118=some (zhq.ac,[(.cell 4 true 3),(.t 5)],21):=by kernel_rfl
theorem Jf (W0:World) (t:List Mark) (p:Str):Fn Tryz.prog W0 118 [zd t,CS p] (.c (eMarkO (zt t p))) []:=by
 refine fX mixed zhr fun hg=>?_
 have g1:=jM (hg _ (by simp:zd t∈_));refine dr ?_;refine lp (σ:=Nat) (fun k=>[(1,.c (CS p)),(4,.ptr 64 0),(8,.c (zd t)),(9,I t.length),(10,I k)]) (fun _=>[(64,.box [.c (CS []),(.c (CI 0)),.c (CS [])])]) (fun k=>k≤t.length∧∀ i (h':i < t.length),i < k→t[i].path≠p) (fun k=>t.length - k) 0 ⟨by simp,by simp⟩ ?_ ?_
 ·refine dr ?_;trivial
 rintro k ⟨hk,ha⟩;refine dr ?_;apply cP<;>intro h1
 ·refine dr ?_;apply cP<;>intro h2
  ·refine dr ?_;have:zt t p=some t[k]:=zdD (key:=Mark.path) (by omega) h2 ha;rw [this]; rfl
  ·refine dr ?_;refine ⟨k+1,⟨by omega,fun i h' hi=>?_⟩,by omega,?_⟩
   ·by_cases e:i=k
    ·subst e; exact h2
    ·exact ha i h' (by omega)
   ·refine dr ?_;trivial
 ·refine dr ?_;have:zt t p=none:=zdC (key:=Mark.path) fun i h'=>ha i h' (by omega)
  rw [this]; rfl
def zhc:XC:=(.s (.r [.a2 2 3 77]) (.s (.r [.mv 3 0,.ex 4 (.app true 3 40 77 (.k .nil) 3),.a1 2 4 3 77]) .ret))
theorem zhd:zh Tryz.prog [] 86=some (zhc.ac,[(.t 2)],5):=by kernel_rfl
theorem zcS (W0:World) (t:List Ent) (ht:t.length≤1000000):Fn Tryz.prog W0 86 [zj t] (.c (zj t)) []:=by
 refine fX mixed zhd fun hg=>?_
 refine dr ?_;repeat ((first|refine oB (by simp; omega) ?_|refine oB (by simp) ?_); first|refine dr ?_|exact dz)
 rfl
def zhE:XC:=(.s (.r [.m1 4 (.i 0)]) (.s (.r [.mv 8 1,.c1 9 117 [8],.mv 5 9]) (.s (.s (.r [.mv 10 5,.ex 11 (.bin .eql 10 (.s [47]))]) (.cnd 11 (.s (.r [.m1 4 (.i 0)]) .ret) .skip)) (.s (.r [.mv 13 0,.mv 14 5,.c1 15 115 [13,14],.mv 12 15,.e1 16 12 0,.e1 17 12 1,.ex 6 (.alloc zE),.s1 3 6 16,.mv 7 17]) (.s (.s (.r [.mv 18 7,.u1 19 18]) (.cnd 19 (.s (.r [.m1 4 (.i 2)]) .ret) .skip)) (.s (.s (.r [.f1 20 1 6,.l1 21 1 20,.u1 22 21]) (.cnd 22 (.s (.r [.m1 4 (.i 3)]) .ret) .skip)) (.s (.r [.m1 4 (.i 0)]) .ret)))))))
theorem zhF:zh Tryz.prog [] 116=some (zhE.ac,[(.t 4)],23):=by kernel_rfl
theorem Qb (W0:World) (hM:HM W0) (t:List Ent) (p:Str):Fn Tryz.prog W0 116 [zj t,CS p] (.c (CI (upC2 t p))) []:=by
 refine fX mixed zhF fun hg=>?_
 refine dEr ?_;repeat (refine c0 (Jd W0 hM p) rfl ?_; first|refine dEr ?_|exact dz)
 apply cP<;>intro h1
 ·refine dr ?_;rw [upC2,if_pos h1]<;>rfl
 have hc:=zcU W0 t (pUp p);rw [upC2,if_neg h1];cases hx:find t (pUp p) with
 | none =>
  rw [hx] at hc;refine dEr ?_;repeat (refine c0 hc rfl ?_; first|refine dEr ?_|exact dz)
  try rfl
 | some e =>
  rw [hx] at hc;refine dEr ?_;repeat (refine c0 hc rfl ?_; first|refine dEr ?_|exact dz)
  apply cP<;>intro h2
  ·refine dr ?_;exact congrArg CI (by simp [h2])
  ·refine dr ?_;exact congrArg CI (by simp [h2])
def zg6:XC:=(.s (.r [.m1 2 .n]) (.s (.s (.r [.mv 5 0,.n1 6 5,.b1 7 .gtr 6 (.i 16)]) (.cnd 7 (.rf 2) .skip)) (.s (.s (.r [.mv 8 0,.n1 9 8,.m1 10 (.i 0)]) (.blk 0 (.loop (.s (.r [.b1 11 .lss 10 9]) (.s (.ce 11 0) (.s (.blk 1 (.s (.r [.mv 12 10,.i1 13 3 8 10,.l2 14 3 13,.ex 4 (.alloc zE),.mv 3 12,.s1 3 4 14]) (.s (.s (.r [.f1 15 0 4,.l1 16 1 15,.c1 17 123 [16],.u1 18 17,.mv 19 18,.h1 20 2 4 19,.h2 21 1 20 19,.gf 22 (.call 124 [21]) 19,.gf 23 (.un .not 22) 19,.p1 24 19 23,.mv 25 24,.h1 26 1 4 25,.h2 27 1 26 25,.h3 28 27 25,.g1 29 2 4 28,.g2 30 1 29 28,.gt 31 (.bin .neq 30 (.s [])) 28,.gf 32 (.pick 28 31 .n) 25,.p1 33 25 32]) (.cnd 33 (.rf 2) .skip)) (.s (.s (.d [.mv 34 3,.b1 35 .gtr 34 (.i 0),.mv 36 35,.g3 37 0 36,.g3 38 3 36,.gt 39 (.bin .sub 38 (.i 1)) 36,.gt 40 (.ia 3 37 39) 36,.g1 41 0 40 36,.g2 42 1 41 36,.g1 43 0 4 36,.g2 44 1 43 36,.gt 45 (.bin .geq 42 44) 36,.p2 46 36 45]) (.cnd 46 (.rf 2) .skip)) (.s (.r [.mv 47 0,.f1 48 0 4,.l1 49 1 48,.c1 50 116 [47,49],.b1 51 .neq 50 (.i 0)]) (.cnd 51 (.rf 2) .skip)))))) (.r [.b1 52 .add 10 (.i 1),.mv 10 52]))))))) (.rt 2))))
theorem zg7:zh Tryz.prog [] 85=some (zg6.ac,[(.t 2)],53):=by kernel_rfl
theorem Yf (W0:World) (hM:HM W0) (t:List Ent):Fn Tryz.prog W0 85 [zj t] (.c (CB (tOk t))) []:=by
 refine fX mixed zg7 fun hg=>?_
 have g1:=jM (hg _ (by simp:zj t∈_));have no:¬ TG t→CB false=CB (tOk t):=fun h=>bF (by
  rw [Bool.eq_false_iff]; exact fun e=>h (TG.of e))
 refine dr ?_;apply cP<;>intro h1
 ·refine dr ?_;exact no fun h=>by have:=h.len; omega
 refine dr ?_;refine lp (σ:=Nat) (fun k=>[(0,.c (zj t)),(8,.c (zj t)),(9,I t.length),(10,I k)]) (fun _=>[]) (fun k=>k≤t.length∧∀ j (h:j < t.length),j < k→eok t[j]=true∧zR t (pUp t[j].path)=true∧(0 < j→ltS t[j - 1].path t[j].path=true)) (fun k=>t.length - k) 0 ⟨by simp,by simp⟩ ?_ ?_
 ·refine dr ?_;trivial
 rintro k ⟨hk,ha⟩;refine dr ?_;apply cP<;>intro h2;rotate_left
 ·refine dr ?_;refine bT (QK.2 ⟨by omega,yZ.2 fun j hj=>?_,fun e he=>?_,fun e he=>?_⟩)
  ·exact (ha (j+1) hj (by omega)).2.2 (by omega)
  ·obtain ⟨j,hj,rfl⟩:=List.mem_iff_getElem.1 he;exact (ha j hj (by omega)).1
  ·obtain ⟨j,hj,rfl⟩:=List.mem_iff_getElem.1 he;exact (ha j hj (by omega)).2.1
 have hk':k < t.length:=by omega
 have no1:eok t[k]=false→CB false=CB (tOk t):=fun h=>no fun g=>by
  have:=g.ok _ (List.getElem_mem hk'); rw [h] at this; cases this
 refine dEr ?_;repeat (refine c0 (Ye W0 hM _) rfl ?_; first|refine dEr ?_|exact dz)
 apply cP<;>intro h3
 ·refine dr ?_;exact no1 (by simp [eok,h3])
 refine dEr ?_;repeat (refine c0 (zcT W0 _) rfl ?_; first|refine dEr ?_|exact dz)
 apply cP<;>intro h4
 ·refine dr ?_;exact no1 (by simp [eok,h4])
 refine dr ?_;apply cP<;>intro h5
 ·refine dr ?_;apply cP<;>intro h6
  ·refine dr ?_;exact no1 (by simp [eok,h5,h6])
  ·have hok:eok t[k]=true:=by rw [eok,h3,h4]; simp [h6]
   clear h6;refine dr ?_;apply cP<;>intro h7
   ·refine dr ?_;repeat (refine aM (j:=k - 1) (by omega) (by omega) ?_; first|refine dr ?_|exact dz)
    cases h8:ltS t[k - 1].path t[k].path
    ·refine dr ?_;exact no fun h=>by
      have:=yZ.1 h.srt (k - 1) (by omega);simp only [show k - 1+1=k by omega] at this;rw [h8] at this; cases this
    ·refine dEr ?_;repeat (refine c0 (Qb W0 hM t _) rfl ?_; first|refine dEr ?_|exact dz)
     apply cP<;>intro h9
     ·refine dr ?_;exact no fun h=>h9 ((yn).2 (h.up _ (List.getElem_mem hk')))
     ·refine dr ?_;refine ⟨k+1,⟨by omega,fun j h hj=>?_⟩,by omega,?_⟩
      ·by_cases e:j=k
       ·subst e; exact ⟨hok,yn.1 h9,fun _=>h8⟩
       ·exact ha j h (by omega)
      ·refine dr ?_;trivial
   ·refine dEr ?_;repeat (refine c0 (Qb W0 hM t _) rfl ?_; first|refine dEr ?_|exact dz)
    apply cP<;>intro h9
    ·refine dr ?_;exact no fun h=>h9 ((yn).2 (h.up _ (List.getElem_mem hk')))
    ·refine dr ?_;refine ⟨k+1,⟨by omega,fun j h hj=>?_⟩,by omega,?_⟩
     ·by_cases e:j=k
      ·subst e; exact ⟨hok,yn.1 h9,fun h=>by omega⟩
      ·exact ha j h (by omega)
     ·refine dr ?_;trivial
 ·have hok:eok t[k]=true:=by simp [eok,h3,h4,h5]
  refine dr ?_;apply cP<;>intro h7
  ·refine dr ?_;repeat (refine aM (j:=k - 1) (by omega) (by omega) ?_; first|refine dr ?_|exact dz)
   cases h8:ltS t[k - 1].path t[k].path
   ·refine dr ?_;exact no fun h=>by
     have:=yZ.1 h.srt (k - 1) (by omega);simp only [show k - 1+1=k by omega] at this;rw [h8] at this; cases this
   ·refine dEr ?_;repeat (refine c0 (Qb W0 hM t _) rfl ?_; first|refine dEr ?_|exact dz)
    apply cP<;>intro h9
    ·refine dr ?_;exact no fun h=>h9 ((yn).2 (h.up _ (List.getElem_mem hk')))
    ·refine dr ?_;refine ⟨k+1,⟨by omega,fun j h hj=>?_⟩,by omega,?_⟩
     ·by_cases e:j=k
      ·subst e; exact ⟨hok,yn.1 h9,fun _=>h8⟩
      ·exact ha j h (by omega)
     ·refine dr ?_;trivial
  ·refine dEr ?_;repeat (refine c0 (Qb W0 hM t _) rfl ?_; first|refine dEr ?_|exact dz)
   apply cP<;>intro h9
   ·refine dr ?_;exact no fun h=>h9 ((yn).2 (h.up _ (List.getElem_mem hk')))
   ·refine dr ?_;refine ⟨k+1,⟨by omega,fun j h hj=>?_⟩,by omega,?_⟩
    ·by_cases e:j=k
     ·subst e; exact ⟨hok,yn.1 h9,fun h=>by omega⟩
     ·exact ha j h (by omega)
    ·refine dr ?_;trivial
def zha:XC:=(.s (.r [.m1 4 .n]) (.s (.s (.r [.mv 7 0,.n1 8 7,.m1 9 (.i 0)]) (.blk 0 (.loop (.s (.r [.b1 10 .lss 9 8]) (.s (.ce 10 0) (.s (.blk 1 (.s (.r [.i1 11 3 7 9,.l2 12 3 11,.ex 6 (.alloc [sE,(I 0),sE]),.s1 3 6 12]) (.s (.r [.f1 13 1 6,.l1 14 1 13,.b1 15 .eql 14 (.i 4),.mv 16 15,.g3 17 1 16,.g1 18 0 6 16,.g2 19 1 18 16,.gt 20 (.call 139 [17,19]) 16,.p2 21 16 20]) (.cnd 21 (.rt 4) .skip)))) (.r [.b1 22 .add 9 (.i 1),.mv 9 22]))))))) (.rf 4)))
theorem zhb:zh Tryz.prog [] 106=some (zha.ac,[(.t 4)],23):=by kernel_rfl
def qW (l:List Mark) (p:Str):Bool:=l.any fun m=>m.kind==4&&und2 p m.path
theorem yw (W0:World) (hM:HM W0) (t:List Mark) (p:Str):Fn Tryz.prog W0 106 [zd t,CS p] (.c (CB (qW t p))) []:=by
 refine fX mixed zhb fun hg=>?_
 have g1:=jM (hg _ (by simp:zd t∈_));refine dr ?_;refine lp (σ:=Nat) (fun k=>[(1,.c (CS p)),(7,.c (zd t)),(8,I t.length),(9,I k)]) (fun _=>[]) (fun k=>k≤t.length∧qW (t.take k) p=false) (fun k=>t.length - k) 0 ⟨by simp,by simp [qW]⟩ ?_ ?_
 ·refine dr ?_;trivial
 rintro k ⟨hk,ha⟩;refine dr ?_;apply cP<;>intro h1
 ·have hk':k < t.length:=by omega
  have no:(t[k].kind==4&&und2 p t[k].path)=false→qW (t.take (k+1)) p=false:=fun h=>by
   rw [qW] at ha ⊢;rw [List.take_succ_eq_append_getElem hk',List.any_append,ha]; simpa using h
  have yes:(t[k].kind==4&&und2 p t[k].path)=true→CB true=CB (qW t p):=fun h=>bT (by
   rw [qW,List.any_eq_true]; exact ⟨t[k],List.getElem_mem hk',h⟩)
  refine dr ?_;apply cP<;>intro h2
  ·refine dEr ?_;repeat (refine c0 (zc1 W0 hM _ _) rfl ?_; first|refine dEr ?_|exact dz)
   apply cP<;>intro h3
   ·refine dr ?_;exact yes (by simp [h2,h3])
   ·refine dr ?_;refine ⟨k+1,⟨by omega,no (by simp [h3])⟩,by omega,?_⟩;refine dr ?_;trivial
  ·refine dr ?_;refine ⟨k+1,⟨by omega,no (by simp [h2])⟩,by omega,?_⟩;refine dr ?_;trivial
 ·refine dr ?_;have:k=t.length:=by omega
  subst this;rw [List.take_length] at ha;rw [ha]
theorem zaj {l:List Mark} (h:∀ m∈l,pOk m.path=true) {p:Str} (hp:pOk p=true):qW l p=zQ l p:=by
 rw [Bool.eq_iff_iff,qW,zQ,List.any_eq_true,List.any_eq_true];constructor
 ·rintro ⟨m,hm,h1⟩; exact ⟨m,hm,by rw [← zae hp (h m hm)]; exact h1⟩
 ·rintro ⟨m,hm,h1⟩; exact ⟨m,hm,by rw [zae hp (h m hm)]; exact h1⟩
theorem yM {l:List Mark} (h:LG l) {p:Str} (hp:pOk p=true):qW l p=zQ l p:=zaj (fun _ hm=>h.path hm) hp
def zhm:XC:=(.s (.r [.m1 4 .n]) (.s (.s (.r [.mv 7 0,.n1 8 7,.m1 9 (.i 0)]) (.blk 0 (.loop (.s (.r [.b1 10 .lss 9 8]) (.s (.ce 10 0) (.s (.blk 1 (.s (.r [.i1 11 3 7 9,.l2 12 3 11,.ex 6 (.alloc [sE,(I 0),sE]),.s1 3 6 12]) (.s (.r [.f1 13 1 6,.l1 14 1 13,.b1 15 .neq 14 (.i 2),.mv 16 15,.g1 17 0 6 16,.g2 18 1 17 16,.g3 19 1 16,.gt 20 (.bin .eql 18 19) 16,.g3 21 20 16,.h3 22 1 21,.h1 23 0 6 21,.h2 24 1 23 21,.gf 25 (.call 139 [22,24]) 21,.gt 26 (.pick 21 .y 25) 16,.p2 27 16 26]) (.cnd 27 (.rt 4) .skip)))) (.r [.b1 28 .add 9 (.i 1),.mv 9 28]))))))) (.rf 4)))
theorem zhn:zh Tryz.prog [] 125=some (zhm.ac,[(.t 4)],29):=by kernel_rfl
def yT (l:List Mark) (p:Str):Bool:=l.any fun m=>m.kind != 2&&(m.path==p||und2 p m.path)
theorem zc2 (W0:World) (hM:HM W0) (t:List Mark) (p:Str):Fn Tryz.prog W0 125 [zd t,CS p] (.c (CB (yT t p))) []:=by
 refine fX mixed zhn fun hg=>?_
 have g1:=jM (hg _ (by simp:zd t∈_));refine dr ?_;refine lp (σ:=Nat) (fun k=>[(1,.c (CS p)),(7,.c (zd t)),(8,I t.length),(9,I k)]) (fun _=>[]) (fun k=>k≤t.length∧yT (t.take k) p=false) (fun k=>t.length - k) 0 ⟨by simp,by simp [yT]⟩ ?_ ?_
 ·refine dr ?_;trivial
 rintro k ⟨hk,ha⟩;refine dr ?_;apply cP<;>intro h1
 ·have hk':k < t.length:=by omega
  have no:(t[k].kind != 2&&(t[k].path==p||und2 p t[k].path))=false→yT (t.take (k+1)) p=false:=fun h=>by
   rw [yT] at ha ⊢;rw [List.take_succ_eq_append_getElem hk',List.any_append,ha]; simpa using h
  have yes:(t[k].kind != 2&&(t[k].path==p||und2 p t[k].path))=true→CB true=CB (yT t p):=fun h=>bT (by
   rw [yT,List.any_eq_true]; exact ⟨t[k],List.getElem_mem hk',h⟩)
  refine dr ?_;apply cP<;>intro h2
  ·refine dr ?_;apply cP<;>intro h4
   ·refine dr ?_;exact yes (by simp [h2,h4])
   ·refine dEr ?_;repeat (refine c0 (zc1 W0 hM _ _) rfl ?_; first|refine dEr ?_|exact dz)
    apply cP<;>intro h3
    ·refine dr ?_;exact yes (by simp [h2,h3])
    ·refine dr ?_;refine ⟨k+1,⟨by omega,no (by simp [h3,h4])⟩,by omega,?_⟩;refine dr ?_;trivial
  ·refine dr ?_;refine ⟨k+1,⟨by omega,no (by simp [h2])⟩,by omega,?_⟩;refine dr ?_;trivial
 ·refine dr ?_;have:k=t.length:=by omega
  subst this;rw [List.take_length] at ha;rw [ha]
theorem zdX {l:List Mark} (h:LG l) {p:Str} (hp:pOk p=true):yT l p=zw l p:=by
 rw [Bool.eq_iff_iff,yT,List.any_eq_true];constructor
 ·rintro ⟨m,hm,h1⟩;simp only [Bool.and_eq_true,Bool.or_eq_true,beq_iff_eq,bne_iff_ne] at h1;rw [zae hp (h.path hm)] at h1;exact qg hm h1.1 h1.2
 ·intro h1;obtain ⟨m,hm,hk,hu⟩:=Zm h1;refine ⟨m,hm,?_⟩;simp only [Bool.and_eq_true,Bool.or_eq_true,beq_iff_eq,bne_iff_ne];rw [zae hp (h.path hm)];exact ⟨hk,hu⟩
def zhI:XC:=(.s (.r [.x1 1 0,.m1 2 .n]) (.s (.r [.f1 3 1 1,.l1 4 1 3,.b1 5 .eql 4 (.i 2),.mv 6 5,.h1 7 1 1 6,.h2 8 1 7 6,.gf 9 (.bin .eql 8 (.i 4)) 6,.p1 10 6 9,.mv 2 10]) .ret))
theorem zhJ:zh Tryz.prog [] 126=some (zhI.ac,[(.t 2)],11):=by kernel_rfl
theorem zaH (W0:World) (m:Mark):Fn Tryz.prog W0 126 [zm m] (.c (CB (decide (m.kind=2∨m.kind=4)))) []:=by
 refine fX mixed zhJ fun hg=>?_
 refine dr ?_;apply cP<;>intro h1
 ·refine dr ?_;exact bT (by simp [h1])
 ·refine dr ?_;refine congrArg CB ?_;rw [Bool.eq_iff_iff]; simp [h1,yu]
def zhs:XC:=(.s (.r [.x1 1 0,.m1 2 .n]) (.s (.s (.r [.f1 3 1 1,.l1 4 1 3,.b1 5 .lss 4 (.i 1),.mv 6 5,.h1 7 1 1 6,.h2 8 1 7 6,.gf 9 (.bin .gtr 8 (.i 4)) 6,.p1 10 6 9,.mv 11 10,.h1 12 0 1 11,.h2 13 1 12 11,.gf 14 (.call 123 [13]) 11,.gf 15 (.un .not 14) 11,.p1 16 11 15]) (.cnd 16 (.rf 2) .skip)) (.s (.s (.r [.f1 17 1 1,.l1 18 1 17,.b1 19 .neq 18 (.i 1)]) (.cnd 19 (.s (.r [.f1 20 2 1,.l1 21 1 20,.ex 22 (.bin .eql 21 (.s [])),.mv 2 22]) .ret) .skip)) (.s (.r [.f1 23 2 1,.l1 24 1 23,.c1 25 124 [24],.mv 2 25]) .ret))))
theorem zht:zh Tryz.prog [] 138=some (zhs.ac,[(.t 2)],26):=by kernel_rfl
theorem zk2 (W0:World) (hM:HM W0) (m:Mark):Fn Tryz.prog W0 138 [zm m] (.c (CB (mok m))) []:=by
 refine fX mixed zht fun hg=>?_
 refine dr ?_;apply cP<;>intro h1
 ·refine dr ?_;exact bF (by simp [mok]; omega)
 refine dr ?_;apply cP<;>intro h2
 ·refine dr ?_;exact bF (by simp [mok]; omega)
 refine dEr ?_;repeat (refine c0 (Ye W0 hM _) rfl ?_; first|refine dEr ?_|exact dz)
 apply cP<;>intro h3
 ·refine dr ?_;exact bF (by simp [mok,h3])
 have hk:(decide (1≤m.kind)&&decide (m.kind≤4))=true:=by simp; omega
 refine dr ?_;apply cP<;>intro h4
 ·refine dr ?_;refine congrArg CB ?_;rw [mok,hk,h3,Bool.eq_iff_iff];simp [h4,Ja];intro e; rw [e]; rfl
 ·refine dEr ?_;repeat (refine c0 (zcT W0 _) rfl ?_; first|refine dEr ?_|exact dz)
  refine congrArg CB ?_;rw [mok,hk,h3,Bool.eq_iff_iff];simp [h4]
end Go.Proofs.YtmkmldepkponaaaGreatDoor

namespace Go.Proofs.YtmkmldepkponaaaGreatDoor
set_option linter.unusedSimpArgs false
set_option linter.unusedVariables false
open Go Go.RowKit
def zgS:XC:=(.s (.r [.m1 2 .n]) (.s (.s (.r [.mv 8 0,.n1 9 8,.b1 10 .gtr 9 (.i 32)]) (.cnd 10 (.rf 2) .skip)) (.s (.s (.r [.mv 11 0,.n1 12 11,.m1 13 (.i 0)]) (.blk 0 (.loop (.s (.r [.b1 14 .lss 13 12]) (.s (.ce 14 0) (.s (.blk 1 (.s (.r [.mv 15 13,.i1 16 3 11 13,.l2 17 3 16,.ex 4 (.alloc [sE,(I 0),sE]),.mv 3 15,.s1 3 4 17]) (.s (.s (.r [.l2 18 3 4,.c1 19 138 [18],.u1 20 19]) (.cnd 20 (.rf 2) .skip)) (.s (.s (.d [.mv 21 3,.b1 22 .gtr 21 (.i 0),.mv 23 22,.g3 24 0 23,.g3 25 3 23,.gt 26 (.bin .sub 25 (.i 1)) 23,.gt 27 (.ia 3 24 26) 23,.g1 28 0 27 23,.g2 29 1 28 23,.g1 30 0 4 23,.g2 31 1 30 23,.gt 32 (.bin .geq 29 31) 23,.p2 33 23 32]) (.cnd 33 (.rf 2) .skip)) (.s (.s (.r [.f1 34 0 4,.l1 35 1 34,.c1 36 117 [35],.mv 5 36]) (.s (.r [.mv 37 5,.ex 38 (.bin .neq 37 (.s [47]))]) (.cnd 38 (.s (.r [.mv 40 0,.mv 41 5,.c1 42 118 [40,41],.mv 39 42,.e1 43 39 0,.e1 44 39 1,.ex 6 (.alloc [sE,(I 0),sE]),.s1 3 6 43,.mv 7 44]) (.s (.r [.mv 45 7,.u1 46 45,.mv 47 46,.gf 48 (.ld true 3 6) 47,.gf 49 (.call 126 [48]) 47,.gf 50 (.un .not 49) 47,.p1 51 47 50]) (.cnd 51 (.rf 2) .skip))) .skip))) (.s (.r [.f1 52 1 4,.l1 53 1 52,.b1 54 .eql 53 (.i 3),.mv 55 54,.h1 56 1 4 55,.h2 57 1 56 55,.gf 58 (.bin .eql 57 (.i 4)) 55,.p1 59 55 58,.mv 60 59,.g3 61 0 60,.g1 62 0 4 60,.g2 63 1 62 60,.gt 64 (.call 106 [61,63]) 60,.p2 65 60 64]) (.cnd 65 (.rf 2) .skip))))))) (.r [.b1 66 .add 13 (.i 1),.mv 13 66]))))))) (.rt 2))))
theorem zgT:zh Tryz.prog [] 104=some (zgS.ac,[(.t 2)],67):=by kernel_rfl
theorem J7 (W0:World) (hM:HM W0) (l:List Mark):Fn Tryz.prog W0 104 [zd l] (.c (CB (lOk l))) []:=by
 refine fX mixed zgT fun hg=>?_
 have g1:=jM (hg _ (by simp:zd l∈_));have no:¬ (lOk l=true)→CB false=CB (lOk l):=fun h=>bF (by rw [Bool.eq_false_iff]; exact h)
 refine dr ?_;apply cP<;>intro h1
 ·refine dr ?_;exact no fun h=>by have:=(zV.1 h).1; omega
 refine dr ?_;refine lp (σ:=Nat) (fun k=>[(0,.c (zd l)),(11,.c (zd l)),(12,I l.length),(13,I k)]) (fun _=>[]) (fun k=>k≤l.length∧∀ j (h:j < l.length),j < k→mok l[j]=true∧inD l l[j].path=true∧(0 < j→ltS l[j - 1].path l[j].path=true)∧(2 < l[j].kind→qW l l[j].path=false)) (fun k=>l.length - k) 0 ⟨by simp,by simp⟩ ?_ ?_
 ·refine dr ?_;trivial
 rintro k ⟨hk,ha⟩;refine dr ?_;apply cP<;>intro h2;rotate_left
 ·refine dr ?_;have hs:Srt Mark.path l:=yZ.2 fun j hj=>(ha (j+1) hj (by omega)).2.2.1 (by omega)
  have hm:∀ m∈l,mok m=true:=fun m hm=>by
   obtain ⟨j,hj,rfl⟩:=List.mem_iff_getElem.1 hm;exact (ha j hj (by omega)).1
  refine bT (zV.2 ⟨by omega,hs,hm,fun m hm'=>?_,fun m hm' hk3=>?_⟩)
  ·obtain ⟨j,hj,rfl⟩:=List.mem_iff_getElem.1 hm';exact (ha j hj (by omega)).2.1
  ·rw [← yM ⟨hs,hm⟩ (qz (hm m hm'))];obtain ⟨j,hj,rfl⟩:=List.mem_iff_getElem.1 hm';exact (ha j hj (by omega)).2.2.2 hk3
 have hk':k < l.length:=by omega
 refine dEr ?_;repeat (refine c0 (zk2 W0 hM l[k]) rfl ?_; first|refine dEr ?_|exact dz)
 apply cP<;>intro h3
 ·refine dr ?_;exact no fun h=>by have:=(zV.1 h).2.2.1 _ (List.getElem_mem hk'); rw [h3] at this; cases this
 have hok:mok l[k]=true:=h3;refine dr ?_;apply cP<;>intro h7
 ·refine dr ?_;repeat (refine aM (j:=k - 1) (by omega) (by omega) ?_; first|refine dr ?_|exact dz)
  cases h8:ltS l[k - 1].path l[k].path
  ·refine dr ?_;exact no fun h=>by
    have:=yZ.1 (zV.1 h).2.1 (k - 1) (by omega);simp only [show k - 1+1=k by omega] at this;rw [h8] at this; cases this
  ·have hlast:0 < k→ltS l[k - 1].path l[k].path=true:=fun _=>h8
   refine dr ?_;refine dEr ?_;repeat (refine c0 (Jd W0 hM _) rfl ?_; first|refine dEr ?_|exact dz)
   apply cP<;>intro h9
   ·have hc:=Jf W0 l (pUp l[k].path);rw [Z7] at hc;refine dEr ?_;repeat (refine c0 hc rfl ?_; first|refine dEr ?_|exact dz)
    apply cP<;>intro h90
    ·refine dr ?_;exact no fun h=>by
      rcases qO.1 ((zV.1 h).2.2.2.1 _ (List.getElem_mem hk')) with h' | ⟨m,h1,_⟩
      ·exact h9 h'
      ·rw [h1] at h90; cases h90
    ·obtain ⟨m,hm⟩:=Option.isSome_iff_exists.1 h90;have hc2:=zaH W0 ((zt l (pUp l[k].path)).getD noM);refine dEr ?_;repeat (refine c0 hc2 rfl ?_; first|refine dEr ?_|exact dz)
     apply cP<;>intro h10
     ·refine dr ?_;exact no fun h=>by
       rcases qO.1 ((zV.1 h).2.2.2.1 _ (List.getElem_mem hk')) with h' | ⟨m,h1,h2⟩
       ·exact h9 h'
       ·rw [h1] at h10; exact h10 h2
     ·have hin:inD l l[k].path=true:=qO.2 (.inr ⟨m,hm,by rw [hm] at h10; exact h10⟩);refine dr ?_;apply cP<;>intro h11
      ·refine dEr ?_;repeat (refine c0 (yw W0 hM l _) rfl ?_; first|refine dEr ?_|exact dz)
       apply cP<;>intro h13
       ·refine dr ?_;exact no fun h=>by
         have:=(zV.1 h).2.2.2.2 _ (List.getElem_mem hk') (by omega);rw [yM (LG.of h) (qz hok)] at h13;rw [this] at h13; cases h13
       ·refine dr ?_;refine ⟨k+1,⟨by omega,fun j h hj=>?_⟩,by omega,?_⟩
        ·by_cases e:j=k
         ·subst e; exact ⟨hok,hin,hlast,fun _=>h13⟩
         ·exact ha j h (by omega)
        ·refine dr ?_;trivial
      ·refine dr ?_;apply cP<;>intro h12
       ·refine dEr ?_;repeat (refine c0 (yw W0 hM l _) rfl ?_; first|refine dEr ?_|exact dz)
        apply cP<;>intro h13
        ·refine dr ?_;exact no fun h=>by
          have:=(zV.1 h).2.2.2.2 _ (List.getElem_mem hk') (by omega);rw [yM (LG.of h) (qz hok)] at h13;rw [this] at h13; cases h13
        ·refine dr ?_;refine ⟨k+1,⟨by omega,fun j h hj=>?_⟩,by omega,?_⟩
         ·by_cases e:j=k
          ·subst e; exact ⟨hok,hin,hlast,fun _=>h13⟩
          ·exact ha j h (by omega)
         ·refine dr ?_;trivial
       ·refine dr ?_;refine ⟨k+1,⟨by omega,fun j h hj=>?_⟩,by omega,?_⟩
        ·by_cases e:j=k
         ·subst e; exact ⟨hok,hin,hlast,fun h=>by have:=Zi hok; omega⟩
         ·exact ha j h (by omega)
        ·refine dr ?_;trivial
   ·have hin:inD l l[k].path=true:=qO.2 (.inl h9);refine dr ?_;apply cP<;>intro h11
    ·refine dEr ?_;repeat (refine c0 (yw W0 hM l _) rfl ?_; first|refine dEr ?_|exact dz)
     apply cP<;>intro h13
     ·refine dr ?_;exact no fun h=>by
       have:=(zV.1 h).2.2.2.2 _ (List.getElem_mem hk') (by omega);rw [yM (LG.of h) (qz hok)] at h13;rw [this] at h13; cases h13
     ·refine dr ?_;refine ⟨k+1,⟨by omega,fun j h hj=>?_⟩,by omega,?_⟩
      ·by_cases e:j=k
       ·subst e; exact ⟨hok,hin,hlast,fun _=>h13⟩
       ·exact ha j h (by omega)
      ·refine dr ?_;trivial
    ·refine dr ?_;apply cP<;>intro h12
     ·refine dEr ?_;repeat (refine c0 (yw W0 hM l _) rfl ?_; first|refine dEr ?_|exact dz)
      apply cP<;>intro h13
      ·refine dr ?_;exact no fun h=>by
        have:=(zV.1 h).2.2.2.2 _ (List.getElem_mem hk') (by omega);rw [yM (LG.of h) (qz hok)] at h13;rw [this] at h13; cases h13
      ·refine dr ?_;refine ⟨k+1,⟨by omega,fun j h hj=>?_⟩,by omega,?_⟩
       ·by_cases e:j=k
        ·subst e; exact ⟨hok,hin,hlast,fun _=>h13⟩
        ·exact ha j h (by omega)
       ·refine dr ?_;trivial
     ·refine dr ?_;refine ⟨k+1,⟨by omega,fun j h hj=>?_⟩,by omega,?_⟩
      ·by_cases e:j=k
       ·subst e; exact ⟨hok,hin,hlast,fun h=>by have:=Zi hok; omega⟩
       ·exact ha j h (by omega)
      ·refine dr ?_;trivial
 ·have hlast:0 < k→ltS l[k - 1].path l[k].path=true:=fun h=>by omega
  refine dr ?_;refine dEr ?_;repeat (refine c0 (Jd W0 hM _) rfl ?_; first|refine dEr ?_|exact dz)
  apply cP<;>intro h9
  ·have hc:=Jf W0 l (pUp l[k].path);rw [Z7] at hc;refine dEr ?_;repeat (refine c0 hc rfl ?_; first|refine dEr ?_|exact dz)
   apply cP<;>intro h90
   ·refine dr ?_;exact no fun h=>by
     rcases qO.1 ((zV.1 h).2.2.2.1 _ (List.getElem_mem hk')) with h' | ⟨m,h1,_⟩
     ·exact h9 h'
     ·rw [h1] at h90; cases h90
   ·obtain ⟨m,hm⟩:=Option.isSome_iff_exists.1 h90;have hc2:=zaH W0 ((zt l (pUp l[k].path)).getD noM);refine dEr ?_;repeat (refine c0 hc2 rfl ?_; first|refine dEr ?_|exact dz)
    apply cP<;>intro h10
    ·refine dr ?_;exact no fun h=>by
      rcases qO.1 ((zV.1 h).2.2.2.1 _ (List.getElem_mem hk')) with h' | ⟨m,h1,h2⟩
      ·exact h9 h'
      ·rw [h1] at h10; exact h10 h2
    ·have hin:inD l l[k].path=true:=qO.2 (.inr ⟨m,hm,by rw [hm] at h10; exact h10⟩);refine dr ?_;apply cP<;>intro h11
     ·refine dEr ?_;repeat (refine c0 (yw W0 hM l _) rfl ?_; first|refine dEr ?_|exact dz)
      apply cP<;>intro h13
      ·refine dr ?_;exact no fun h=>by
        have:=(zV.1 h).2.2.2.2 _ (List.getElem_mem hk') (by omega);rw [yM (LG.of h) (qz hok)] at h13;rw [this] at h13; cases h13
      ·refine dr ?_;refine ⟨k+1,⟨by omega,fun j h hj=>?_⟩,by omega,?_⟩
       ·by_cases e:j=k
        ·subst e; exact ⟨hok,hin,hlast,fun _=>h13⟩
        ·exact ha j h (by omega)
       ·refine dr ?_;trivial
     ·refine dr ?_;apply cP<;>intro h12
      ·refine dEr ?_;repeat (refine c0 (yw W0 hM l _) rfl ?_; first|refine dEr ?_|exact dz)
       apply cP<;>intro h13
       ·refine dr ?_;exact no fun h=>by
         have:=(zV.1 h).2.2.2.2 _ (List.getElem_mem hk') (by omega);rw [yM (LG.of h) (qz hok)] at h13;rw [this] at h13; cases h13
       ·refine dr ?_;refine ⟨k+1,⟨by omega,fun j h hj=>?_⟩,by omega,?_⟩
        ·by_cases e:j=k
         ·subst e; exact ⟨hok,hin,hlast,fun _=>h13⟩
         ·exact ha j h (by omega)
        ·refine dr ?_;trivial
      ·refine dr ?_;refine ⟨k+1,⟨by omega,fun j h hj=>?_⟩,by omega,?_⟩
       ·by_cases e:j=k
        ·subst e; exact ⟨hok,hin,hlast,fun h=>by have:=Zi hok; omega⟩
        ·exact ha j h (by omega)
       ·refine dr ?_;trivial
  ·have hin:inD l l[k].path=true:=qO.2 (.inl h9);refine dr ?_;apply cP<;>intro h11
   ·refine dEr ?_;repeat (refine c0 (yw W0 hM l _) rfl ?_; first|refine dEr ?_|exact dz)
    apply cP<;>intro h13
    ·refine dr ?_;exact no fun h=>by
      have:=(zV.1 h).2.2.2.2 _ (List.getElem_mem hk') (by omega);rw [yM (LG.of h) (qz hok)] at h13;rw [this] at h13; cases h13
    ·refine dr ?_;refine ⟨k+1,⟨by omega,fun j h hj=>?_⟩,by omega,?_⟩
     ·by_cases e:j=k
      ·subst e; exact ⟨hok,hin,hlast,fun _=>h13⟩
      ·exact ha j h (by omega)
     ·refine dr ?_;trivial
   ·refine dr ?_;apply cP<;>intro h12
    ·refine dEr ?_;repeat (refine c0 (yw W0 hM l _) rfl ?_; first|refine dEr ?_|exact dz)
     apply cP<;>intro h13
     ·refine dr ?_;exact no fun h=>by
       have:=(zV.1 h).2.2.2.2 _ (List.getElem_mem hk') (by omega);rw [yM (LG.of h) (qz hok)] at h13;rw [this] at h13; cases h13
     ·refine dr ?_;refine ⟨k+1,⟨by omega,fun j h hj=>?_⟩,by omega,?_⟩
      ·by_cases e:j=k
       ·subst e; exact ⟨hok,hin,hlast,fun _=>h13⟩
       ·exact ha j h (by omega)
      ·refine dr ?_;trivial
    ·refine dr ?_;refine ⟨k+1,⟨by omega,fun j h hj=>?_⟩,by omega,?_⟩
     ·by_cases e:j=k
      ·subst e; exact ⟨hok,hin,hlast,fun h=>by have:=Zi hok; omega⟩
      ·exact ha j h (by omega)
     ·refine dr ?_;trivial
def zgU:XC:=(.s (.r [.a2 4 3 77,.m1 5 .n]) (.s (.s (.r [.mv 13 0,.c1 14 104 [13],.u1 15 14,.mv 16 15,.h3 17 1 16,.gf 18 (.call 85 [17]) 16,.gf 19 (.un .not 18) 16,.p1 20 16 19]) (.cnd 20 (.s (.r [.a2 4 3 77,.m1 5 .n]) .ret) .skip)) (.s (.r [.a2 6 3 77]) (.s (.s (.r [.mv 21 1,.n1 22 21,.m1 23 (.i 0)]) (.blk 0 (.loop (.s (.r [.b1 24 .lss 23 22]) (.s (.ce 24 0) (.s (.blk 1 (.s (.r [.i1 25 3 21 23,.l2 26 3 25,.ex 8 (.alloc zE),.s1 3 8 26]) (.s (.r [.mv 28 0,.f1 29 0 8,.l1 30 1 29,.c1 31 118 [28,30],.mv 27 31,.e1 32 27 0,.e1 33 27 1,.ex 9 (.alloc [sE,(I 0),sE]),.s1 3 9 32,.mv 10 33]) (.s (.r [.mv 34 10,.u1 35 34,.mv 36 35,.g3 37 0 36,.g1 38 0 8 36,.g2 39 1 38 36,.gt 40 (.call 125 [37,39]) 36,.gt 41 (.un .not 40) 36,.p2 42 36 41]) (.cnd 42 (.r [.mv 43 6,.l2 44 3 8,.ex 45 (.bsl 3 77 [44]),.ex 46 (.app false 3 40 77 43 45),.a1 6 46 3 77]) .skip))))) (.r [.b1 47 .add 23 (.i 1),.mv 23 47]))))))) (.s (.s (.r [.mv 48 0,.n1 49 48,.m1 50 (.i 0)]) (.blk 2 (.loop (.s (.r [.b1 51 .lss 50 49]) (.s (.ce 51 2) (.s (.blk 3 (.s (.r [.i1 52 3 48 50,.l2 53 3 52,.ex 12 (.alloc [sE,(I 0),sE]),.s1 3 12 53]) (.s (.r [.f1 54 1 12,.l1 55 1 54,.b1 56 .neq 55 (.i 3)]) (.cnd 56 (.d [.mv 57 6,.f1 58 0 12,.l1 59 1 58,.l2 60 3 12,.c1 61 126 [60],.f1 62 2 12,.l1 63 1 62,.ex 64 (.build zE [(0,(1,59)),(1,(1,61)),(2,(1,63))]),.ex 65 (.bsl 3 77 [64]),.ex 66 (.app false 3 40 77 57 65),.a1 6 66 3 77]) .skip)))) (.r [.b1 67 .add 50 (.i 1),.mv 50 67]))))))) (.s (.s (.r [.mv 68 6,.n1 69 68,.b1 70 .gtr 69 (.i 16)]) (.cnd 70 (.s (.r [.a2 4 3 77,.m1 5 .n]) .ret) .skip)) (.s (.r [.mv 71 6,.o1 72 113 [71]]) (.s (.r [.mv 73 6,.a1 4 73 3 77,.m1 5 .y]) .ret))))))))
theorem zgV:zh Tryz.prog [113] 87=some (zgU.ac,[(.t 4),(.t 5)],74):=by kernel_rfl
theorem zcZ (W0:World) (hM:HM W0) (l:List Mark) (t:List Ent):Fn Tryz.prog W0 87 [zd l,zj t] (.c (Q8 (lOn l t))) []:=by
 refine fX mixed zgV fun hg=>?_
 refine dEr ?_;repeat (refine c0 (J7 W0 hM _) rfl ?_; first|refine dEr ?_|exact dz)
 apply cP<;>intro h1
 ·refine dr ?_;rw [lOn,if_neg (by simp [h1])]<;>rfl
 refine dEr ?_;repeat (refine c0 (Yf W0 hM _) rfl ?_; first|refine dEr ?_|exact dz)
 apply cP<;>intro h2
 ·refine dr ?_;rw [lOn,if_neg (by simp [h2])]<;>rfl
 have gl:=LG.of h1;have gt:=TG.of h2;have hll:=(zV.1 h1).1;have htl:=gt.len;have e:lOn l t=if (onX l t).length≤16 then some (jj l t) else none:=by rw [lOn,if_pos (by simp [h1,h2]),zmK h1 gt.srt]
 rw [e];refine dr ?_;refine lp2 (fun (k:Nat) (out:List Ent)=>[(0,.c (zd l)),(6,.own 96 out.length),(21,.c (zj t)),(22,I t.length),(23,I k)]) (fun _ out=>[(96,.row (out.map zv) 3 77)]) (fun k out=>k≤t.length∧out=(t.take k).filter (fun e=>!(zt l e.path).isSome&&!zw l e.path)∧out.length≤k) (fun k _=>t.length - k) 0 [] ⟨by simp,rfl,by simp⟩ ?_ ?_
 ·refine dr ?_;trivial
 rintro k out ⟨hk,ho,hle⟩;refine dr ?_;apply cP<;>intro h3
 ·have hk':k < t.length:=by omega
  have hc:=Jf W0 l t[k].path;rw [Z7] at hc;have hh:=zc2 W0 hM l t[k].path;rw [zdX gl (gt.path (List.getElem_mem hk'))] at hh;refine dEr ?_;repeat (refine c0 hc rfl ?_; first|refine dEr ?_|exact dz)
  apply cP<;>intro h4
  ·refine dEr ?_;repeat (refine c0 hh rfl ?_; first|refine dEr ?_|exact dz)
   apply cP<;>intro h5
   ·refine dr ?_;repeat ((first|refine oB (by simp; omega) ?_|refine oB (by simp) ?_); first|refine dr ?_|exact dz)
    refine ⟨k+1,out++[t[k]],⟨by omega,by rw [Jh hk' (by simp [h4,h5]),ho],by simp; omega⟩,by omega,?_⟩;refine dr ?_;repeat (refine oB (by simp<;>rfl) ?_; first|refine dr ?_|exact dz)
    trivial
   ·refine dr ?_;refine ⟨k+1,out,⟨by omega,by rw [ZG hk' (by simp [h5]),ho],by omega⟩,by omega,?_⟩;refine dr ?_;trivial
  ·refine dr ?_;refine ⟨k+1,out,⟨by omega,by rw [ZG hk' (by simp [h4]),ho],by omega⟩,by omega,?_⟩;refine dr ?_;trivial
 have hkl:k=t.length:=by omega
 rw [hkl,List.take_length] at ho;have hX:onX l t=out++l.filterMap ji:=by rw [onX,ho]
 have hout:out.length≤16:=by omega
 clear ho hle hk h3 hkl;rw [hX];generalize hoo:out=o0 at *;refine dr ?_;refine lp2 (fun (k:Nat) (out:List Ent)=>[(6,.own 96 out.length),(48,.c (zd l)),(49,I l.length),(50,I k)]) (fun _ out=>[(96,.row (out.map zv) 3 77)]) (fun k out=>k≤l.length∧out=o0++(l.take k).filterMap ji∧out.length≤o0.length+k) (fun k _=>l.length - k) 0 o0 ⟨by simp,by simp,by simp⟩ ?_ ?_
 ·refine dr ?_;trivial
 clear hoo;rintro k out ⟨hk,ho,hle⟩;refine dr ?_;apply cP<;>intro h3
 ·have hk':k < l.length:=by omega
  have hmk:=Zi (gl.ok _ (List.getElem_mem hk'));have hn:o0++(l.take (k+1)).filterMap ji=out++(ji l[k]).toList:=by rw [Qe hk',← List.append_assoc,← ho]
  refine dr ?_;apply cP<;>intro h4
  ·have he:ji l[k]=some ⟨l[k].path,decide (l[k].kind=2∨l[k].kind=4),l[k].data⟩:=by
    unfold ji;by_cases h5:l[k].kind=1
    ·rw [if_pos h5]; simp [h5]
    ·rw [if_neg h5,if_pos (by omega)];have:=zeF (gl.ok _ (List.getElem_mem hk')) h5;rw [this]; simp; omega
   rw [he] at hn;refine dEr ?_;repeat ((first|refine c0 (zaH W0 l[k]) rfl ?_|refine oB (by simp; omega) ?_|refine oB (by simp) ?_); first|refine dEr ?_|exact dz)
   refine ⟨k+1,_,⟨by omega,hn.symm,by simp; omega⟩,by omega,?_⟩;refine dr ?_;repeat (refine oB (by simp<;>rfl) ?_; first|refine dr ?_|exact dz)
   trivial
  ·have he:ji l[k]=none:=by unfold ji; rw [if_neg (by omega),if_neg (by omega)]
   rw [he] at hn;refine dr ?_;refine ⟨k+1,out,⟨by omega,by rw [hn]; simp,by omega⟩,by omega,?_⟩;refine dr ?_;trivial
 have hkl:k=l.length:=by omega
 rw [hkl,List.take_length] at ho;rw [← ho];have hX2:onX l t=out:=by rw [hX,ho]
 refine dr ?_;apply cP<;>intro h5
 ·refine dr ?_;rw [if_neg (by omega)]<;>rfl
 ·refine dr ?_;refine oW ((zla W0 out (by omega)).swp 1 96) rfl ⟨rfl,trivial⟩ rfl rfl JJ fun S hS=>⟨rfl,?_⟩
  refine dEr ?_;repeat (refine oB (by simp [hS.len]) ?_; first|refine dEr ?_|exact dz)
  rw [← hX2] at hS;rw [if_pos (by omega),zmL h1 gt.srt hS]<;>rfl
end Go.Proofs.YtmkmldepkponaaaGreatDoor

namespace Go.Proofs.YtmkmldepkponaaaGreatDoor
set_option linter.unusedSimpArgs false
set_option linter.unusedVariables false
open Go Go.RowKit
theorem zed {b:List Mark} {p:Str}:((zt b p).getD noM).kind=kind b p:=by unfold kind; cases zt b p<;>rfl
def zho:XC:=(.s (.r [.a2 4 3 34]) (.s (.r [.a2 5 3 34]) (.s (.s (.r [.mv 14 1,.n1 15 14,.m1 16 (.i 0)]) (.blk 0 (.loop (.s (.r [.b1 17 .lss 16 15]) (.s (.ce 17 0) (.s (.blk 1 (.s (.r [.i1 18 3 14 16,.l2 19 3 18,.ex 7 (.alloc [sE,(I 0),sE]),.s1 3 7 19]) (.s (.r [.mv 21 0,.f1 22 0 7,.l1 23 1 22,.c1 24 118 [21,23],.mv 20 24,.e1 25 20 0,.e1 26 20 1,.ex 8 (.alloc [sE,(I 0),sE]),.s1 3 8 25,.mv 9 26]) (.s (.r [.mv 27 9,.u1 28 27,.mv 29 28,.g3 30 0 29,.g1 31 0 7 29,.g2 32 1 31 29,.gt 33 (.call 125 [30,32]) 29,.gt 34 (.un .not 33) 29,.p2 35 29 34]) (.cnd 35 (.r [.mv 36 5,.l2 37 3 7,.ex 38 (.bsl 3 34 [37]),.ex 39 (.app false 3 40 34 36 38),.a1 5 39 3 34]) .skip))))) (.r [.b1 40 .add 16 (.i 1),.mv 16 40]))))))) (.s (.s (.r [.mv 41 0,.n1 42 41,.m1 43 (.i 0)]) (.blk 2 (.loop (.s (.r [.b1 44 .lss 43 42]) (.s (.ce 44 2) (.s (.blk 3 (.s (.r [.i1 45 3 41 43,.l2 46 3 45,.ex 11 (.alloc [sE,(I 0),sE]),.s1 3 11 46]) (.s (.r [.mv 48 1,.f1 49 0 11,.l1 50 1 49,.c1 51 118 [48,50],.mv 47 51,.e1 52 47 0,.e1 53 47 1,.ex 12 (.alloc [sE,(I 0),sE]),.s1 3 12 52,.mv 13 53]) (.s (.s (.r [.f1 54 1 11,.l1 55 1 54,.b1 56 .eql 55 (.i 2),.mv 57 56,.g3 58 13 57,.p2 59 57 58,.mv 60 59,.g1 61 1 12 60,.g2 62 1 61 60,.gt 63 (.bin .neq 62 (.i 2)) 60,.p2 64 60 63]) (.cnd 64 (.r [.f1 65 1 11,.nu (.st 1 65 (.i 4))]) .skip)) (.r [.mv 66 5,.l2 67 3 11,.ex 68 (.bsl 3 34 [67]),.ex 69 (.app false 3 40 34 66 68),.a1 5 69 3 34]))))) (.r [.b1 70 .add 43 (.i 1),.mv 43 70]))))))) (.s (.r [.mv 71 5,.a1 4 71 3 34]) .ret)))))
theorem zhp:zh Tryz.prog [] 105=some (zho.ac,[(.t 4)],72):=by kernel_rfl
theorem zc3 (W0:World) (hM:HM W0) (a b:List Mark) (ha:lOk a=true) (hb:lOk b=true):Fn Tryz.prog W0 105 [zd a,zd b] (.c (zd (jA a b))) []:=by
 have ga:=LG.of ha;have gb:=LG.of hb;have la:=(zV.1 ha).1;have lb:=(zV.1 hb).1;refine fX mixed zhp fun hg=>?_
 refine dr ?_;refine lp2 (fun (k:Nat) (out:List Mark)=>[(0,.c (zd a)),(1,.c (zd b)),(5,.own 80 out.length),(14,.c (zd b)),(15,I b.length),(16,I k)]) (fun _ out=>[(80,.row (out.map zm) 3 34)]) (fun k out=>k≤b.length∧out=(b.take k).filter (jh a)∧out.length≤k) (fun k _=>b.length - k) 0 [] ⟨by simp,rfl,by simp⟩ ?_ ?_
 ·refine dr ?_;trivial
 rintro k out ⟨hk,ho,hle⟩;refine dr ?_;apply cP<;>intro h3
 ·have hk':k < b.length:=by omega
  have hc:=Jf W0 a b[k].path;rw [Z7] at hc;have hh:=zc2 W0 hM a b[k].path;rw [zdX ga (gb.path (List.getElem_mem hk'))] at hh;refine dEr ?_;repeat (refine c0 hc rfl ?_; first|refine dEr ?_|exact dz)
  apply cP<;>intro h4
  ·have hk0:=ga.kind0.2 (show zt a b[k].path=none by simpa using h4);refine dEr ?_;repeat (refine c0 hh rfl ?_; first|refine dEr ?_|exact dz)
   apply cP<;>intro h5
   ·refine dr ?_;repeat ((first|refine oB (by simp; omega) ?_|refine oB (by simp) ?_); first|refine dr ?_|exact dz)
    refine ⟨k+1,out++[b[k]],⟨by omega,by rw [Jh hk' (by simp [jh,hk0,h5]),ho],by simp; omega⟩,by omega,?_⟩;refine dr ?_;repeat (refine oB (by simp<;>rfl) ?_; first|refine dr ?_|exact dz)
    trivial
   ·refine dr ?_;refine ⟨k+1,out,⟨by omega,by rw [ZG hk' (by simp [jh,h5]),ho],by omega⟩,by omega,?_⟩;refine dr ?_;trivial
  ·have hk0:kind a b[k].path≠0:=fun e=>by rw [ga.kind0.1 e] at h4; cases h4
   refine dr ?_;refine ⟨k+1,out,⟨by omega,by rw [ZG hk' (by simp [jh,hk0]),ho],by omega⟩,by omega,?_⟩;refine dr ?_;trivial
 have hkl:k=b.length:=by omega
 rw [hkl,List.take_length] at ho;have hX:jA a b=out++a.map (zU b):=by rw [jA,ho]
 have hout:out.length≤32:=by omega
 clear ho hle hk h3 hkl;rw [hX];generalize hoo:out=o0 at *;refine dr ?_;refine lp2 (fun (k:Nat) (out:List Mark)=>[(1,.c (zd b)),(5,.own 80 out.length),(41,.c (zd a)),(42,I a.length),(43,I k)]) (fun _ out=>[(80,.row (out.map zm) 3 34)]) (fun k out=>k≤a.length∧out=o0++(a.take k).map (zU b)∧out.length≤o0.length+k) (fun k _=>a.length - k) 0 o0 ⟨by simp,by simp,by simp⟩ ?_ ?_
 ·refine dr ?_;trivial
 clear hoo;rintro k out ⟨hk,ho,hle⟩;refine dr ?_;apply cP<;>intro h3
 ·have hk':k < a.length:=by omega
  have hn:o0++(a.take (k+1)).map (zU b)=out++[zU b a[k]]:=by rw [List.take_succ_eq_append_getElem hk',List.map_append,← List.append_assoc,← ho]; rfl
  have hc:=Jf W0 b a[k].path;rw [Z7] at hc;have fin:∀ x,x=zU b a[k]→out++[x]=o0++(a.take (k+1)).map (zU b):=fun x e=>by rw [hn,e]
  refine dEr ?_;repeat (refine c0 hc rfl ?_; first|refine dEr ?_|exact dz)
  apply cP<;>intro h4
  ·refine dr ?_;apply cP<;>intro h5
   ·have hk0:kind b a[k].path≠0:=fun e=>by rw [gb.kind0.1 e] at h5; cases h5
    refine dr ?_;apply cP<;>intro h6
    ·refine dr ?_;repeat ((first|refine oB (by simp; omega) ?_|refine oB (by simp) ?_); first|refine dr ?_|exact dz)
     rw [zed] at h6;refine ⟨k+1,out++[⟨a[k].path,4,a[k].data⟩],⟨by omega,fin _ (by unfold zU jG; rw [if_pos ⟨h4,hk0,h6⟩]),by simp; omega⟩,by omega,?_⟩;refine dr ?_;repeat (refine oB (by simp<;>rfl) ?_; first|refine dr ?_|exact dz)
     trivial
    ·refine dr ?_;repeat ((first|refine oB (by simp; omega) ?_|refine oB (by simp) ?_); first|refine dr ?_|exact dz)
     rw [zed] at h6;refine ⟨k+1,out++[a[k]],⟨by omega,fin _ (by unfold zU jG; rw [if_neg (fun h=>h.2.2 h6)]),by simp; omega⟩,by omega,?_⟩;refine dr ?_;repeat (refine oB (by simp<;>rfl) ?_; first|refine dr ?_|exact dz)
     trivial
   ·have hk0:=gb.kind0.2 (show zt b a[k].path=none by simpa using h5);refine dr ?_;repeat ((first|refine oB (by simp; omega) ?_|refine oB (by simp) ?_); first|refine dr ?_|exact dz)
    refine ⟨k+1,out++[a[k]],⟨by omega,fin _ (by unfold zU jG; rw [if_neg (fun h=>h.2.1 hk0)]),by simp; omega⟩,by omega,?_⟩;refine dr ?_;repeat (refine oB (by simp<;>rfl) ?_; first|refine dr ?_|exact dz)
    trivial
  ·refine dr ?_;repeat ((first|refine oB (by simp; omega) ?_|refine oB (by simp) ?_); first|refine dr ?_|exact dz)
   refine ⟨k+1,out++[a[k]],⟨by omega,fin _ (by unfold zU jG; rw [if_neg (fun h=>h4 h.1)]),by simp; omega⟩,by omega,?_⟩;refine dr ?_;repeat (refine oB (by simp<;>rfl) ?_; first|refine dr ?_|exact dz)
   trivial
 have hkl:k=a.length:=by omega
 rw [hkl,List.take_length] at ho;refine dr ?_;repeat (refine oB (by simp) ?_; first|refine dr ?_|exact dz)
 rw [← ho]<;>rfl
def zgR:XC:=(.s (.r [.a2 4 3 34,.m1 5 .n]) (.s (.s (.r [.mv 10 0,.c1 11 104 [10],.u1 12 11,.mv 13 12,.h3 14 1 13,.gf 15 (.call 104 [14]) 13,.gf 16 (.un .not 15) 13,.p1 17 13 16]) (.cnd 17 (.s (.r [.a2 4 3 34,.m1 5 .n]) .ret) .skip)) (.s (.r [.mv 18 0,.mv 19 1,.c1 20 105 [18,19],.a1 6 20 3 34]) (.s (.r [.a2 7 3 34]) (.s (.s (.r [.mv 21 6,.n1 22 21,.m1 23 (.i 0)]) (.blk 0 (.loop (.s (.r [.b1 24 .lss 23 22]) (.s (.ce 24 0) (.s (.blk 1 (.s (.r [.i1 25 3 21 23,.l2 26 3 25,.ex 9 (.alloc [sE,(I 0),sE]),.s1 3 9 26]) (.s (.s (.r [.mv 27 6,.f1 28 0 9,.l1 29 1 28,.c1 30 106 [27,29]]) (.cnd 30 (.s (.s (.r [.f1 31 1 9,.l1 32 1 31,.b1 33 .eql 32 (.i 3)]) (.cnd 33 (.exit 1) .skip)) (.s (.r [.f1 34 1 9,.l1 35 1 34,.b1 36 .eql 35 (.i 4)]) (.cnd 36 (.r [.f1 37 1 9,.nu (.st 1 37 (.i 2))]) .skip))) .skip)) (.r [.mv 38 7,.l2 39 3 9,.ex 40 (.bsl 3 34 [39]),.ex 41 (.app false 3 40 34 38 40),.a1 7 41 3 34])))) (.r [.b1 42 .add 23 (.i 1),.mv 23 42]))))))) (.s (.s (.r [.mv 43 7,.n1 44 43,.b1 45 .gtr 44 (.i 32)]) (.cnd 45 (.s (.r [.a2 4 3 34,.m1 5 .n]) .ret) .skip)) (.s (.r [.mv 46 7,.o1 47 107 [46]]) (.s (.r [.mv 48 7,.a1 4 48 3 34,.m1 5 .y]) .ret))))))))
theorem zcm:zh Tryz.prog [107] 72=some (zgR.ac,[(.t 4),(.t 5)],49):=by kernel_rfl
theorem zcY (W0:World) (hM:HM W0) (a b:List Mark):Fn Tryz.prog W0 72 [zd a,zd b] (.c (zcL (jp a b))) []:=by
 refine fX mixed zcm fun hg=>?_
 refine dEr ?_;repeat (refine c0 (J7 W0 hM _) rfl ?_; first|refine dEr ?_|exact dz)
 apply cP<;>intro h1
 ·refine dr ?_;rw [jp,if_neg (by simp [h1])]<;>rfl
 refine dEr ?_;repeat (refine c0 (J7 W0 hM _) rfl ?_; first|refine dEr ?_|exact dz)
 apply cP<;>intro h2
 ·refine dr ?_;rw [jp,if_neg (by simp [h2])]<;>rfl
 have ga:=LG.of h1;have gb:=LG.of h2;have la:=(zV.1 h1).1;have lb:=(zV.1 h2).1;have e:jp a b=if (ya a b).length≤32 then some (jS a b) else none:=by rw [jp,if_pos (by simp [h1,h2]),zeb ga gb]
 have hxl:(jA a b).length≤64:=by
  have:=List.length_filter_le (jh a) b;rw [jA,List.length_append,List.length_map]; omega
 have hxp:∀ m∈jA a b,pOk m.path=true:=fun m hm=>(ZI ga gb).path ((Qk ga gb m).1 hm)
 have hY:ya a b=(jA a b).filterMap (zK (jA a b)):=rfl;rw [e];refine dEr ?_;repeat (refine c0 (zc3 W0 hM a b h1 h2) rfl ?_; first|refine dEr ?_|exact dz)
 rw [hY];generalize hXX:jA a b=X at *;refine lp2 (fun (k:Nat) (out:List Mark)=>[(6,.c (zd X)),(7,.own 112 out.length),(21,.c (zd X)),(22,I X.length),(23,I k)]) (fun _ out=>[(112,.row (out.map zm) 3 34)]) (fun k out=>k≤X.length∧out=(X.take k).filterMap (zK X)∧out.length≤k) (fun k _=>X.length - k) 0 [] ⟨by simp,rfl,by simp⟩ ?_ ?_
 ·refine dr ?_;trivial
 rintro k out ⟨hk,ho,hle⟩;refine dr ?_;apply cP<;>intro h3
 ·have hk':k < X.length:=by omega
  have hn:(X.take (k+1)).filterMap (zK X)=out++(zK X X[k]).toList:=by rw [Qe hk',← ho]
  have hb:=yw W0 hM X X[k].path;rw [zaj hxp (hxp _ (List.getElem_mem hk'))] at hb;refine dEr ?_;repeat (refine c0 hb rfl ?_; first|refine dEr ?_|exact dz)
  apply cP<;>intro h4
  ·refine dr ?_;apply cP<;>intro h5
   ·have e:zK X X[k]=none:=by unfold zK; rw [if_pos h4,if_pos h5]
    rw [e] at hn;refine dr ?_;refine ⟨k+1,out,⟨by omega,by rw [hn]; simp,by omega⟩,by omega,?_⟩;refine dr ?_;trivial
   ·refine dr ?_;apply cP<;>intro h6
    ·have e:zK X X[k]=some ⟨X[k].path,2,X[k].data⟩:=by unfold zK; rw [if_pos h4,if_neg h5,if_pos h6]
     rw [e] at hn;refine dr ?_;repeat ((first|refine oB (by simp; omega) ?_|refine oB (by simp) ?_); first|refine dr ?_|exact dz)
     refine ⟨k+1,out++[⟨X[k].path,2,X[k].data⟩],⟨by omega,by rw [hn]; rfl,by simp; omega⟩,by omega,?_⟩;refine dr ?_;repeat (refine oB (by simp<;>rfl) ?_; first|refine dr ?_|exact dz)
     trivial
    ·have e:zK X X[k]=some X[k]:=by unfold zK; rw [if_pos h4,if_neg h5,if_neg h6]
     rw [e] at hn;refine dr ?_;repeat ((first|refine oB (by simp; omega) ?_|refine oB (by simp) ?_); first|refine dr ?_|exact dz)
     refine ⟨k+1,out++[X[k]],⟨by omega,by rw [hn]; rfl,by simp; omega⟩,by omega,?_⟩;refine dr ?_;repeat (refine oB (by simp<;>rfl) ?_; first|refine dr ?_|exact dz)
     trivial
  ·have e:zK X X[k]=some X[k]:=by unfold zK; rw [if_neg (by simp [h4])]
   rw [e] at hn;refine dr ?_;repeat ((first|refine oB (by simp; omega) ?_|refine oB (by simp) ?_); first|refine dr ?_|exact dz)
   refine ⟨k+1,out++[X[k]],⟨by omega,by rw [hn]; rfl,by simp; omega⟩,by omega,?_⟩;refine dr ?_;repeat (refine oB (by simp<;>rfl) ?_; first|refine dr ?_|exact dz)
   trivial
 have hkl:k=X.length:=by omega
 rw [hkl,List.take_length] at ho;rw [← ho];have hYo:ya a b=out:=by rw [hY,ho]
 refine dr ?_;apply cP<;>intro h5
 ·refine dr ?_;rw [if_neg (by omega)]<;>rfl
 ·refine dr ?_;refine oW ((zaJ W0 out (by omega)).swp 1 112) rfl ⟨rfl,trivial⟩ rfl rfl JJ fun S hS=>⟨rfl,?_⟩
  refine dEr ?_;repeat (refine oB (by simp [hS.len]) ?_; first|refine dEr ?_|exact dz)
  rw [← hYo] at hS;rw [if_pos (by omega),zec ga gb hS]<;>rfl
def zg8:XC:=(.s (.r [.a2 4 1 9]) (.s (.s (.r [.mv 8 0,.c1 9 85 [8],.u1 10 9,.mv 11 10,.h3 12 1 11,.gf 13 (.call 85 [12]) 11,.gf 14 (.un .not 13) 11,.p1 15 11 14]) (.cnd 15 (.s (.r [.a2 4 1 9]) .ret) .skip)) (.s (.r [.a2 5 1 9]) (.s (.r [.m1 6 (.i 0),.m1 7 (.i 0)]) (.s (.blk 0 (.loop (.s (.s (.r [.mv 16 6,.mv 17 0,.n1 18 17,.b1 19 .lss 16 18,.mv 20 19,.h3 21 7 20,.h3 22 1 20,.gf 23 (.len false 22) 20,.gf 24 (.bin .lss 21 23) 20,.p1 25 20 24]) (.ce 25 0)) (.blk 1 (.blk 2 (.s (.d [.mv 48 7,.mv 49 1,.n1 50 49,.b1 51 .eql 48 50,.mv 52 51,.h3 53 6 52,.h3 54 0 52,.gf 55 (.len false 54) 52,.gf 56 (.bin .lss 53 55) 52,.h3 57 56 52,.g3 58 0 57,.g3 59 6 57,.gt 60 (.ia 3 58 59) 57,.g1 61 0 60 57,.g2 62 1 61 57,.g3 63 1 57,.g3 64 7 57,.gt 65 (.ia 3 63 64) 57,.g1 66 0 65 57,.g2 67 1 66 57,.gt 68 (.bin .lss 62 67) 57,.gf 69 (.pick 57 68 .n) 52,.p1 70 52 69,.mv 47 70]) (.cnd 47 (.s (.r [.mv 71 5,.mv 72 0,.mv 73 6,.i1 74 3 72 73,.f1 75 0 74,.l1 76 1 75,.ex 77 (.bsl 1 9 [76]),.ex 78 (.app false 1 16 9 71 77),.a1 5 78 1 9]) (.ic 79 80 6)) (.s (.d [.mv 82 6,.mv 83 0,.n1 84 83,.b1 85 .eql 82 84,.mv 86 85,.h3 87 1 86,.h3 88 7 86,.gf 89 (.ia 3 87 88) 86,.h1 90 0 89 86,.h2 91 1 90 86,.h3 92 0 86,.h3 93 6 86,.gf 94 (.ia 3 92 93) 86,.h1 95 0 94 86,.h2 96 1 95 86,.gf 97 (.bin .lss 91 96) 86,.p1 98 86 97,.mv 81 98]) (.cnd 81 (.s (.r [.mv 99 5,.mv 100 1,.mv 101 7,.i1 102 3 100 101,.f1 103 0 102,.l1 104 1 103,.ex 105 (.bsl 1 9 [104]),.ex 106 (.app false 1 16 9 99 105),.a1 5 106 1 9]) (.ic 107 108 7)) (.s (.s (.d [.mv 26 0,.mv 27 6,.i1 28 3 26 27,.l2 29 3 28,.mv 30 1,.mv 31 7,.i1 32 3 30 31,.l2 33 3 32,.ex 34 (.beq true [.s,.b,.s] 29 33)]) (.cnd 34 (.r [.mv 35 5,.mv 36 0,.mv 37 6,.i1 38 3 36 37,.f1 39 0 38,.l1 40 1 39,.ex 41 (.bsl 1 9 [40]),.ex 42 (.app false 1 16 9 35 41),.a1 5 42 1 9]) .skip)) (.s (.ic 43 44 6) (.ic 45 46 7)))))))))))) (.s (.r [.mv 109 5,.a1 4 109 1 9]) .ret))))))
theorem zg9:zh Tryz.prog [] 114=some (zg8.ac,[(.t 4)],110):=by kernel_rfl
def qU (a b:List Ent):List Str:=if (tOk a&&tOk b)=true then z6 a b else []
theorem zml {x:Ent} {a:List Ent}:zS (x::a) []=x.path::zS a []:=by rw [zS]
theorem zmk {x:Ent} {a:List Ent}:zS [] (x::a)=x.path::zS [] a:=by rw [zS]
theorem zbe {x y:Ent} {a b:List Ent}:zS (x::a) (y::b)=if ltS x.path y.path=true then x.path::zS a (y::b) else if ltS y.path x.path=true then y.path::zS (x::a) b else if x=y then zS a b else x.path::zS a b:=by rw [zS]
theorem zky (W0:World) (hM:HM W0) (a b:List Ent):Fn Tryz.prog W0 114 [zj a,zj b] (.c (jV (qU a b))) []:=by
 refine fX mixed zg9 fun hg=>?_
 refine dEr ?_;repeat (refine c0 (Yf W0 hM _) rfl ?_; first|refine dEr ?_|exact dz)
 apply cP<;>intro h1
 ·refine dr ?_;repeat (refine oB (by simp) ?_; first|refine dr ?_|exact dz)
  rw [qU,if_neg (by simp [h1])]<;>rfl
 refine dEr ?_;repeat (refine c0 (Yf W0 hM _) rfl ?_; first|refine dEr ?_|exact dz)
 apply cP<;>intro h2
 ·refine dr ?_;repeat (refine oB (by simp) ?_; first|refine dr ?_|exact dz)
  rw [qU,if_neg (by simp [h2])]<;>rfl
 have ga:=TG.of h1;have gb:=TG.of h2;have la:=ga.len;have lb:=gb.len;rw [qU,if_pos (by simp [h1,h2]),← zmn ga gb];refine dr ?_;refine lp3 (fun (i j:Nat) (out:List Str)=>[(0,.c (zj a)),(1,.c (zj b)),(5,.own 80 out.length),(6,I i),(7,I j)]) (fun _ _ out=>[(80,.row (out.map CS) 1 9)])
  (fun i j out=>i≤a.length∧j≤b.length∧out++zS (a.drop i) (b.drop j)=zS a b∧out.length≤i+j) (fun i j _=>a.length+b.length - i - j) 0 0 [] ⟨by simp,by simp,by simp,by simp⟩ ?_ ?_
 ·refine dr ?_;trivial
 rintro i j out ⟨hi,hj,ho,hle⟩;have stepA:∀ (h:i < a.length),j=b.length∨(∃ h':j < b.length,ltS a[i].path b[j].path=true)→(out++[a[i].path])++zS (a.drop (i+1)) (b.drop j)=zS a b:=fun h hc=>by
  rw [← ho,List.drop_eq_getElem_cons h];rcases hc with hc | ⟨h',hc⟩
  ·rw [List.drop_of_length_le (l:=b) (by omega),zml]; simp
  ·rw [List.drop_eq_getElem_cons h',zbe,if_pos hc]; simp
 have stepB:∀ (h:j < b.length),i=a.length∨(∃ h':i < a.length,ltS a[i].path b[j].path=false∧ltS b[j].path a[i].path=true)→(out++[b[j].path])++zS (a.drop i) (b.drop (j+1))=zS a b:=fun h hc=>by
  rw [← ho,List.drop_eq_getElem_cons (l:=b) h];rcases hc with hc | ⟨h',hc,hc2⟩
  ·rw [List.drop_of_length_le (l:=a) (by omega),zmk]; simp
  ·rw [List.drop_eq_getElem_cons h',zbe,if_neg (by rw [hc]; simp),if_pos hc2]; simp
 refine dr ?_;apply cP<;>intro hA
 ·have hA':i < a.length:=by omega
  refine dr ?_;apply cP<;>intro hB
  ·refine dr ?_;repeat ((first|refine oB (by simp; omega) ?_|refine oB (by simp) ?_); first|refine dr ?_|exact dz)
   refine ⟨i+1,j,out++[a[i].path],⟨by omega,by omega,stepA hA' (.inl (by omega)),by simp; omega⟩,by omega,?_⟩;refine dr ?_;repeat (refine oB (by simp<;>rfl) ?_; first|refine dr ?_|exact dz)
   trivial
  ·have hB':j < b.length:=by omega
   refine dr ?_;apply cP<;>intro hA2;rotate_left
   ·omega
   refine dr ?_;apply cP<;>intro hC
   ·refine dr ?_;repeat ((first|refine oB (by simp; omega) ?_|refine oB (by simp) ?_); first|refine dr ?_|exact dz)
    refine ⟨i+1,j,out++[a[i].path],⟨by omega,by omega,stepA hA' (.inr ⟨hB',hC⟩),by simp; omega⟩,by omega,?_⟩;refine dr ?_;repeat (refine oB (by simp<;>rfl) ?_; first|refine dr ?_|exact dz)
    trivial
   refine dr ?_;apply cP<;>intro hD
   ·omega
   refine dr ?_;apply cP<;>intro hE
   ·refine dr ?_;repeat ((first|refine oB (by simp; omega) ?_|refine oB (by simp) ?_); first|refine dr ?_|exact dz)
    refine ⟨i,j+1,out++[b[j].path],⟨by omega,by omega,stepB hB' (.inr ⟨hA',hC,hE⟩),by simp; omega⟩,by omega,?_⟩;refine dr ?_;repeat (refine oB (by simp<;>rfl) ?_; first|refine dr ?_|exact dz)
    trivial
   have hm:zS (a.drop i) (b.drop j)=if a[i]=b[j] then zS (a.drop (i+1)) (b.drop (j+1)) else a[i].path::zS (a.drop (i+1)) (b.drop (j+1)):=by
    rw [List.drop_eq_getElem_cons hA',List.drop_eq_getElem_cons hB',zbe,if_neg (by rw [hC]; simp),if_neg (by rw [hE]; simp)]
   refine dr ?_;apply cP<;>intro hF
   ·have hne:a[i]≠b[j]:=by have:=QU a[i] b[j]; rw [hF] at this; simpa using this
    rw [if_neg hne] at hm;refine dr ?_;repeat ((first|refine oB (by simp; omega) ?_|refine oB (by simp) ?_); first|refine dr ?_|exact dz)
    refine ⟨i+1,j+1,out++[a[i].path],⟨by omega,by omega,by rw [← ho,hm]; simp,by simp; omega⟩,by omega,?_⟩;refine dr ?_;repeat (refine oB (by simp<;>rfl) ?_; first|refine dr ?_|exact dz)
    trivial
   ·have heq:a[i]=b[j]:=by have:=QU a[i] b[j]; rw [hF] at this; simpa using this
    rw [if_pos heq] at hm;refine dr ?_;refine ⟨i+1,j+1,out,⟨by omega,by omega,by rw [← ho,hm],by omega⟩,by omega,?_⟩;refine dr ?_;trivial
 ·have hA':i=a.length:=by omega
  refine dr ?_;apply cP<;>intro hB
  ·have hB':j < b.length:=by omega
   refine dr ?_;apply cP<;>intro hB2
   ·omega
   refine dr ?_;apply cP<;>intro hA2
   ·omega
   refine dr ?_;apply cP<;>intro hD;rotate_left
   ·omega
   refine dr ?_;repeat ((first|refine oB (by simp; omega) ?_|refine oB (by simp) ?_); first|refine dr ?_|exact dz)
   refine ⟨i,j+1,out++[b[j].path],⟨by omega,by omega,stepB hB' (.inl hA'),by simp; omega⟩,by omega,?_⟩;refine dr ?_;repeat (refine oB (by simp<;>rfl) ?_; first|refine dr ?_|exact dz)
   trivial
  ·have hj':j=b.length:=by omega
   rw [hA',hj',List.drop_length,List.drop_length,zS,List.append_nil] at ho;refine dr ?_;repeat (refine oB (by simp) ?_; first|refine dr ?_|exact dz)
   rw [← ho]<;>rfl
def zgP:XC:=(.s (.r [.a2 4 3 34]) (.s (.r [.a2 5 3 34]) (.s (.s (.r [.mv 14 0,.mv 15 1,.c1 16 114 [14,15],.n1 17 16,.m1 18 (.i 0)]) (.blk 0 (.loop (.s (.r [.b1 19 .lss 18 17]) (.s (.ce 19 0) (.s (.blk 1 (.s (.r [.i1 20 1 16 18,.l1 21 1 20,.mv 7 21]) (.s (.r [.mv 23 1,.mv 24 7,.c1 25 115 [23,24],.mv 22 25,.e1 26 22 0,.e1 27 22 1,.ex 8 (.alloc zE),.s1 3 8 26,.mv 9 27]) (.blk 2 (.s (.r [.mv 29 9,.mv 30 29,.g1 31 1 8 30,.g2 32 1 31 30,.p2 33 30 32,.mv 28 33]) (.cnd 28 (.r [.mv 34 5,.mv 35 7,.ex 36 (.build [sE,(I 0),sE] [(0,(1,35)),(1,(1,(.i 2)))]),.ex 37 (.bsl 3 34 [36]),.ex 38 (.app false 3 40 34 34 37),.a1 5 38 3 34]) (.s (.r [.mv 40 9,.mv 39 40]) (.cnd 39 (.r [.mv 41 5,.mv 42 7,.f1 43 2 8,.l1 44 1 43,.ex 45 (.build [sE,(I 0),sE] [(0,(1,42)),(1,(1,(.i 1))),(2,(1,44))]),.ex 46 (.bsl 3 34 [45]),.ex 47 (.app false 3 40 34 41 46),.a1 5 47 3 34]) (.s (.r [.mv 49 1,.mv 50 7,.c1 51 116 [49,50],.b1 52 .eql 51 (.i 0),.mv 48 52]) (.cnd 48 (.r [.mv 53 5,.mv 54 7,.ex 55 (.build [sE,(I 0),sE] [(0,(1,54)),(1,(1,(.i 3)))]),.ex 56 (.bsl 3 34 [55]),.ex 57 (.app false 3 40 34 53 56),.a1 5 57 3 34]) .skip)))))))))) (.r [.b1 58 .add 18 (.i 1),.mv 18 58]))))))) (.s (.s (.r [.mv 59 5,.n1 60 59,.m1 61 (.i 0)]) (.blk 3 (.loop (.s (.r [.b1 62 .lss 61 60]) (.s (.ce 62 3) (.s (.blk 4 (.s (.r [.mv 63 61,.mv 10 63]) (.s (.r [.mv 64 5,.mv 65 10,.i1 66 3 64 65,.f1 67 0 66,.l1 68 1 67,.c1 69 117 [68],.mv 11 69]) (.blk 5 (.loop (.s (.s (.r [.mv 70 11,.ex 71 (.bin .neq 70 (.s [47]))]) (.ce 71 5)) (.s (.blk 6 (.s (.r [.mv 75 5,.mv 76 11,.c1 77 118 [75,76],.mv 74 77,.e1 78 74 0,.e1 79 74 1,.ex 12 (.alloc [sE,(I 0),sE]),.s1 3 12 78,.mv 13 79]) (.s (.r [.mv 80 13,.u1 81 80]) (.cnd 81 (.r [.mv 82 5,.mv 83 11,.ex 84 (.build [sE,(I 0),sE] [(0,(1,83)),(1,(1,(.i 2)))]),.ex 85 (.bsl 3 34 [84]),.ex 86 (.app false 3 40 34 82 85),.a1 5 86 3 34]) .skip)))) (.r [.mv 72 11,.c1 73 117 [72],.mv 11 73])))))))) (.r [.b1 87 .add 61 (.i 1),.mv 61 87]))))))) (.s (.r [.mv 88 5,.o1 89 107 [88]]) (.s (.r [.mv 90 5,.a1 4 90 3 34]) .ret))))))
theorem zgQ:zh Tryz.prog [107] 76=some (zgP.ac,[(.t 4)],91):=by kernel_rfl
def Q6 (a b:List Ent):List Mark:=if (tOk a&&tOk b)=true then diff a b else []
theorem ze4 {l l0:List Mark} {u:Str} (h:∃ s,l=l0++s):∃ s,jF l u=l0++s:=by
 obtain ⟨s,rfl⟩:=h;unfold jF;split
 ·exact ⟨s,rfl⟩
 ·exact ⟨s++[⟨u,2,[]⟩],by simp⟩
theorem zb6 {l:List Mark} {u:Str}:(jF l u).length≤l.length+1:=by
 unfold jF; split<;>simp
theorem zot {m:Nat} {q:Str} (h:pUp q=[47]):jl m q=[]:=by
 cases m with
 | zero=>rfl
 | succ m=>unfold jl; rw [if_pos h]
theorem zdH:∀ {us:List Str} {l:List Mark},(us.foldl jF l).length≤l.length+us.length
 | [],l=>by simp
 | u::us,l=>by
  have h:=zdH (us:=us) (l:=jF l u);have h2:=zb6 (l:=l) (u:=u);simp only [List.foldl_cons,List.length_cons]; omega
theorem zgs {l:List Mark} {m:Mark}:(qp l m).length≤l.length+3:=by
 have h:=zdH (us:=jl 3 m.path) (l:=l);have h2:=zb2 3 m.path;unfold qp; omega
theorem zkH (W0:World) (hM:HM W0) (a b:List Ent):Fn Tryz.prog W0 76 [zj a,zj b] (.c (zd (Q6 a b))) []:=by
 refine fX mixed zgQ fun hg=>?_
 have hT:(∀ p∈qU a b,pOk p=true)∧(qU a b).length≤32∧(qU a b≠[]→TG b):=by
  unfold qU;split
  ·rename_i h;simp only [Bool.and_eq_true] at h;have h1:=(y2 h.1).1;have h2:=(y2 h.2).1;have h3:=zgf (a:=a) (b:=b);exact ⟨fun p hp=>zgg h.1 h.2 hp,by omega,fun _=>TG.of h.2⟩
  ·exact ⟨fun p hp=>(by cases hp),by simp,fun h=>absurd rfl h⟩
 obtain ⟨hT1,hT2,hT3⟩:=hT;have hfin:∀ S,qe Mark.path (((qU a b).filterMap (zJ b)).foldl qp ((qU a b).filterMap (zJ b))) S→S=Q6 a b:=by
  intro S hS;unfold qU at hS;unfold Q6;split at hS
  ·rename_i h;rw [if_pos h];simp only [Bool.and_eq_true] at h;exact zkh (TG.of h.1) (TG.of h.2) hS
  ·rename_i h;rw [if_neg h];exact List.Perm.eq_nil hS.1
 refine dEr ?_;repeat (refine c0 (zky W0 hM a b) rfl ?_; first|refine dEr ?_|exact dz)
 generalize qU a b=T at *;refine lp2 (fun (k:Nat) (out:List Mark)=>[(1,.c (zj b)),(5,.own 80 out.length),(16,.c (jV T)),(17,I T.length),(18,I k)]) (fun _ out=>[(80,.row (out.map zm) 3 34)]) (fun k out=>k≤T.length∧out=(T.take k).filterMap (zJ b)∧out.length≤k) (fun k _=>T.length - k) 0 [] ⟨by simp,rfl,by simp⟩ ?_ ?_
 ·refine dr ?_;trivial
 rintro k out ⟨hk,ho,hle⟩;refine dr ?_;apply cP<;>intro h1
 ·have hk':k < T.length:=by omega
  have gb:=hT3 (fun e=>by rw [e] at hk'; simp at hk');have hp:=hT1 _ (List.getElem_mem hk');have hn:(T.take (k+1)).filterMap (zJ b)=out++(zJ b T[k]).toList:=by rw [Qe hk',← ho]
  have hc:=zcU W0 b T[k];cases hx:find b T[k] with
  | some e =>
   rw [hx] at hc;refine dEr ?_;repeat (refine c0 hc rfl ?_; first|refine dEr ?_|exact dz)
   apply cP<;>intro h2
   ·have e1:zJ b T[k]=some ⟨T[k],2,[]⟩:=by
     have:=gb.data (jX hx).2 h2;unfold zJ; rw [jy hp,hx]; simp [h2,this]
    rw [e1] at hn;refine dr ?_;repeat ((first|refine oB (by simp; omega) ?_|refine oB (by simp) ?_); first|refine dr ?_|exact dz)
    refine ⟨k+1,out++[⟨T[k],2,[]⟩],⟨by omega,by rw [hn]; rfl,by simp; omega⟩,by omega,?_⟩;refine dr ?_;repeat (refine oB (by simp<;>rfl) ?_; first|refine dr ?_|exact dz)
    trivial
   ·have e1:zJ b T[k]=some ⟨T[k],1,e.data⟩:=by
     unfold zJ; rw [jy hp,hx]; simp [h2]
    rw [e1] at hn;refine dr ?_;repeat ((first|refine oB (by simp; omega) ?_|refine oB (by simp) ?_); first|refine dr ?_|exact dz)
    refine ⟨k+1,out++[⟨T[k],1,e.data⟩],⟨by omega,by rw [hn]; rfl,by simp; omega⟩,by omega,?_⟩;refine dr ?_;repeat (refine oB (by simp<;>rfl) ?_; first|refine dr ?_|exact dz)
    trivial
  | none =>
   rw [hx] at hc;refine dEr ?_;repeat ((first|refine c0 hc rfl ?_|refine c0 (Qb W0 hM b _) rfl ?_); first|refine dEr ?_|exact dz)
   apply cP<;>intro h2
   ·have e1:zJ b T[k]=some ⟨T[k],3,[]⟩:=by
     unfold zJ; rw [jy hp,hx]; simp only [yn.1 h2,if_true]
    rw [e1] at hn;refine dr ?_;repeat ((first|refine oB (by simp; omega) ?_|refine oB (by simp) ?_); first|refine dr ?_|exact dz)
    refine ⟨k+1,out++[⟨T[k],3,[]⟩],⟨by omega,by rw [hn]; rfl,by simp; omega⟩,by omega,?_⟩;refine dr ?_;repeat (refine oB (by simp<;>rfl) ?_; first|refine dr ?_|exact dz)
    trivial
   ·have e1:zJ b T[k]=none:=by
     have:zR b (pUp T[k])=false:=by
      rw [Bool.eq_false_iff]; exact fun e=>h2 (yn.2 e)
     unfold zJ; rw [jy hp,hx]; simp [this]
    rw [e1] at hn;refine dr ?_;refine ⟨k+1,out,⟨by omega,by rw [hn]; simp,by omega⟩,by omega,?_⟩;refine dr ?_;trivial
 have hkl:k=T.length:=by omega
 rw [hkl,List.take_length] at ho;have hpo:∀ m∈out,pOk m.path=true:=fun m hm=>by
  rw [ho] at hm;obtain ⟨p,hp,e⟩:=List.mem_filterMap.1 hm;rw [yQ e]; exact hT1 p hp
 rw [← ho] at hfin;have hol:out.length≤32:=by omega
 clear ho hle hk h1 hkl hT1 hT2 hT3;generalize hoo:out=D at *;refine dr ?_;refine lp2 (fun (k:Nat) (out:List Mark)=>[(5,.own 80 out.length),(60,I D.length),(61,I k)]) (fun _ out=>[(80,.row (out.map zm) 3 34)]) (fun k out=>k≤D.length∧out=(D.take k).foldl qp D∧out.length≤D.length+3 * k∧∃ s,out=D++s) (fun k _=>D.length - k) 0 D ⟨by simp,by simp,by simp,[],by simp⟩ ?_ ?_
 ·refine dr ?_;trivial
 clear hoo;rintro k out ⟨hk,ho,hle,hs⟩;refine dr ?_;apply cP<;>intro h1
 ·have hk':k < D.length:=by omega
  have hko:k < out.length:=by obtain ⟨s,rfl⟩:=hs; simp; omega
  have hget:out[k]=D[k]:=by
   obtain ⟨s,rfl⟩:=hs;rw [List.getElem_append_left hk']
  have hp:=hpo _ (List.getElem_mem hk');have hn:(D.take (k+1)).foldl qp D=qp out D[k]:=by rw [qL hk',← ho]
  have hnl:=zgs (l:=out) (m:=D[k]);refine dEr ?_;repeat (refine c0 (Jd W0 hM _) rfl ?_; first|refine dEr ?_|exact dz)
  rw [hget];refine lp3 (fun (m:Nat) (q:Str) (o:List Mark)=>[(5,.own 80 o.length),(60,I D.length),(61,I k),(11,.c (CS (pUp q)))]) (fun _ _ o=>[(80,.row (o.map zm) 3 34)])
   (fun m q o=>pOk q=true∧(names q).length≤m∧(jl m q).foldl jF o=qp out D[k]∧o.length+m≤out.length+3∧∃ s,o=D++s) (fun m _ _=>m) 3 D[k].path out ⟨hp,(qS hp).1.2,rfl,by omega,hs⟩ ?_ ?_
  ·refine dr ?_;trivial
  rintro m q o ⟨hq,hqn,hqo,hql,hqs⟩;refine dr ?_;apply cP<;>intro h2
  ·obtain ⟨u1,_,u3⟩:=yh hq h2;cases m with
   | zero=>have:=(qS hq).1.1; omega
   | succ m =>
    have hqo2:(jl m (pUp q)).foldl jF (jF o (pUp q))=qp out D[k]:=by
     rw [← hqo]; conv=>rhs; rw [jl,if_neg h2]
     rfl
    have hal:=zb6 (l:=o) (u:=pUp q);have hc:=Jf W0 o (pUp q);rw [Z7] at hc;refine dEr ?_;repeat (refine c0 hc rfl ?_; first|refine dEr ?_|exact dz)
    apply cP<;>intro h3
    ·have e1:jF o (pUp q)=o++[⟨pUp q,2,[]⟩]:=by unfold jF; rw [if_neg (by simp [h3])]
     refine dEr ?_;repeat ((first|refine oB (by simp; omega) ?_|refine oB (by simp) ?_|refine c0 (Jd W0 hM _) rfl ?_); first|refine dEr ?_|exact dz)
     refine ⟨m,pUp q,jF o (pUp q),⟨u1,by omega,hqo2,by omega,ze4 hqs⟩,by omega,?_⟩;refine dr ?_;repeat (refine oB (by simp [e1]<;>rfl) ?_; first|refine dr ?_|exact dz)
     trivial
    ·have e1:jF o (pUp q)=o:=by unfold jF; rw [if_pos h3]
     refine dEr ?_;repeat (refine c0 (Jd W0 hM _) rfl ?_; first|refine dEr ?_|exact dz)
     refine ⟨m,pUp q,jF o (pUp q),⟨u1,by omega,hqo2,by omega,ze4 hqs⟩,by omega,?_⟩;refine dr ?_;repeat (refine oB (by simp [e1]<;>rfl) ?_; first|refine dr ?_|exact dz)
     trivial
  ·rw [zot h2] at hqo;have hqo:o=qp out D[k]:=hqo;refine dr ?_;refine ⟨k+1,o,⟨by omega,by rw [hn,hqo],by rw [hqo]; omega,hqs⟩,by omega,?_⟩;refine dr ?_;trivial
 have hkl:k=D.length:=by omega
 rw [hkl,List.take_length] at ho;rw [← ho] at hfin;refine dr ?_;refine oW ((zaJ W0 out (by omega)).swp 1 80) rfl ⟨rfl,trivial⟩ rfl rfl JJ fun S hS=>⟨rfl,?_⟩
 refine dEr ?_;repeat (refine oB (by simp [hS.len]) ?_; first|refine dEr ?_|exact dz)
 rw [hfin S hS]<;>rfl
end Go.Proofs.YtmkmldepkponaaaGreatDoor

namespace Go.Proofs.YtmkmldepkponaaaGreatDoor
set_option linter.unusedSimpArgs false
set_option linter.unusedVariables false
open Go Go.RowKit
def Zl (o:Over):Option (List Ent × List Ent):=match jk o with
 | none=>none
 | some t=>match lOn o.upper t with
  | none=>none
  | some x=>if o.upper=diff t x then some (t,x) else none
def eOT:Option (List Ent × List Ent)→CV
 | none => .tup [zj [],zj [],CB false]
 | some x => .tup [zj x.1,zj x.2,CB true]
theorem zeM {o:Over}:oOk o=(Zl o).isSome:=by
 unfold oOk Zl jO;cases jk o with
 | none=>rfl
 | some t =>
  simp only;cases lOn o.upper t with
  | none=>rfl
  | some x =>
   simp only;by_cases h:o.upper=diff t x
   ·rw [if_pos h]; simp [h]
   ·rw [if_neg h]; simp [h]
def zhw:XC:=(.s (.r [.x1 1 0,.a2 2 3 77,.a2 3 3 77,.m1 4 .n]) (.s (.s (.r [.f1 12 0 1,.l1 13 1 12,.c1 14 85 [13],.u1 15 14,.mv 16 15,.h1 17 1 1 16,.h2 18 1 17 16,.gf 19 (.len false 18) 16,.gf 20 (.bin .gtr 19 (.i 4)) 16,.p1 21 16 20]) (.cnd 21 (.s (.r [.a2 2 3 77,.a2 3 3 77,.m1 4 .n]) .ret) .skip)) (.s (.r [.f1 22 0 1,.l1 23 1 22,.c1 24 86 [23],.a1 5 24 3 77]) (.s (.s (.r [.f1 25 1 1,.l1 26 1 25,.n1 27 26,.m1 28 (.i 0)]) (.blk 0 (.loop (.s (.r [.b1 29 .lss 28 27]) (.s (.ce 29 0) (.s (.blk 1 (.s (.r [.i1 30 1 26 28,.l1 31 1 30,.a1 7 31 3 34]) (.s (.r [.mv 33 7,.mv 34 5,.c1 35 87 [33,34],.mv 32 35,.e1 36 32 0,.e1 37 32 1,.a1 8 36 3 77,.mv 9 37]) (.s (.s (.r [.mv 38 9,.u1 39 38]) (.cnd 39 (.s (.r [.a2 2 3 77,.a2 3 3 77,.m1 4 .n]) .ret) .skip)) (.r [.mv 40 8,.a1 5 40 3 77]))))) (.r [.b1 41 .add 28 (.i 1),.mv 28 41]))))))) (.s (.r [.f1 43 2 1,.l1 44 1 43,.mv 45 5,.c1 46 87 [44,45],.mv 42 46,.e1 47 42 0,.e1 48 42 1,.a1 10 47 3 77,.mv 11 48]) (.s (.s (.d [.mv 49 11,.u1 50 49,.mv 51 50,.h1 52 2 1 51,.h2 53 1 52 51,.h3 54 5 51,.h3 55 10 51,.gf 56 (.call 76 [54,55]) 51,.gf 57 (.call 47 [53,56]) 51,.gf 58 (.un .not 57) 51,.p1 59 51 58]) (.cnd 59 (.s (.r [.a2 2 3 77,.a2 3 3 77,.m1 4 .n]) .ret) .skip)) (.s (.r [.mv 60 5,.mv 61 10,.a1 2 60 3 77,.a1 3 61 3 77,.m1 4 .y]) .ret)))))))
theorem zhx:zh Tryz.prog [] 50=some (zhw.ac,[(.t 2),(.t 3),(.t 4)],62):=by kernel_rfl
theorem zk8 (W0:World) (hM:HM W0) (o:Over):Fn Tryz.prog W0 50 [zY o] (.c (eOT (Zl o))) []:=by
 refine fX mixed zhx fun hg=>?_
 have no:jk o=none→CV.tup [zj [],zj [],CB false]=eOT (Zl o):=fun h=>by rw [Zl,h]; rfl
 refine dEr ?_;repeat (refine c0 (Yf W0 hM _) rfl ?_; first|refine dEr ?_|exact dz)
 apply cP<;>intro h1
 ·refine dr ?_;repeat (refine oB (by simp) ?_; first|refine dr ?_|exact dz)
  exact no (by rw [jk,if_neg (by simp [h1])])
 refine dr ?_;apply cP<;>intro h2
 ·refine dr ?_;repeat (refine oB (by simp) ?_; first|refine dr ?_|exact dz)
  exact no (by rw [jk,if_neg (by omega)])
 have hl4:jk o=lowerA o.layers o.base:=by rw [jk,if_pos ⟨h1,by omega⟩]
 have hbl:=(y2 h1).1;refine dEr ?_;repeat (refine c0 (zcS W0 _ (by omega)) rfl ?_; first|refine dEr ?_|exact dz)
 refine lp2 (fun (k:Nat) (t:List Ent)=>[(1,.ptr 16 0),(5,.c (zj t)),(26,.c (zT o.layers)),(27,I o.layers.length),(28,I k)]) (fun _ _=>[(16,.box [.c (zj o.base),.c (zT o.layers),.c (zd o.upper)]),(32,.row [] 3 77),(48,.row [] 3 77)]) (fun k t=>k≤o.layers.length∧lowerA (o.layers.take k) o.base=some t∧tOk t=true) (fun k _=>o.layers.length - k) 0 o.base ⟨by simp,rfl,h1⟩ ?_ ?_
 ·refine dr ?_;trivial
 rintro k t ⟨hk,ha,ht⟩;refine dr ?_;apply cP<;>intro h3
 ·have hk':k < o.layers.length:=by omega
  have hn:lowerA (o.layers.take (k+1)) o.base=lOn o.layers[k] t:=by
   rw [List.take_succ_eq_append_getElem hk',Jw,ha];simp only [lowerA];cases lOn o.layers[k] t<;>rfl
  have hc:=zcZ W0 hM o.layers[k] t;cases hx:lOn o.layers[k] t with
  | none =>
   rw [hx] at hc;refine dEr ?_;repeat ((first|refine c0 hc rfl ?_|refine oB (by simp) ?_); first|refine dEr ?_|exact dz)
   refine no ?_;have e:o.layers=o.layers.take (k+1)++o.layers.drop (k+1):=by rw [List.take_append_drop]
   rw [hl4,e,Jw,hn,hx]
  | some t' =>
   rw [hx] at hc;refine dEr ?_;repeat (refine c0 hc rfl ?_; first|refine dEr ?_|exact dz)
   refine ⟨k+1,t',⟨by omega,by rw [hn,hx],Ju hx⟩,by omega,?_⟩;refine dr ?_;trivial
 have hkl:k=o.layers.length:=by omega
 rw [hkl,List.take_length] at ha;have hl4':jk o=some t:=by rw [hl4,ha]
 have hc:=zcZ W0 hM o.upper t;have e:Zl o=match lOn o.upper t with
  | none=>none
  | some x=>if o.upper=diff t x then some (t,x) else none:=by rw [Zl,hl4']
 rw [e];cases hx:lOn o.upper t with
 | none =>
  rw [hx] at hc;refine dEr ?_;repeat ((first|refine c0 hc rfl ?_|refine oB (by simp) ?_); first|refine dEr ?_|exact dz)
  try rfl
 | some x =>
  rw [hx] at hc;have hd:=zkH W0 hM t x;rw [Q6,if_pos (by simp [ht,Ju hx])] at hd;refine dEr ?_;repeat ((first|refine c0 hc rfl ?_|refine c0 hd rfl ?_|refine c0 (zkI W0 _ _) rfl ?_); first|refine dEr ?_|exact dz)
  apply cP<;>intro h4
  ·refine dr ?_;repeat (refine oB (by simp) ?_; first|refine dr ?_|exact dz)
   show _=eOT (if o.upper=diff t x then some (t,x) else none);rw [if_neg h4]<;>rfl
  ·refine dr ?_;repeat (refine oB (by simp) ?_; first|refine dr ?_|exact dz)
   show _=eOT (if o.upper=diff t x then some (t,x) else none);rw [if_pos h4]<;>rfl
def zgY:XC:=(.s (.r [.x1 1 0,.m1 2 .n]) (.s (.r [.l2 7 3 1,.c1 8 50 [7],.mv 6 8,.e1 9 6 0,.e1 10 6 1,.e1 11 6 2,.a1 3 9 3 77,.a1 4 10 3 77,.mv 5 11]) (.s (.r [.mv 12 5,.mv 2 12]) .ret)))
theorem zgZ:zh Tryz.prog [] 15=some (zgY.ac,[(.t 2)],13):=by kernel_rfl
theorem zc0 (W0:World) (hM:HM W0) (o:Over):Fn Tryz.prog W0 15 [zY o] (.c (CB (oOk o))) []:=by
 refine fX mixed zgZ fun hg=>?_
 have hc:=zk8 W0 hM o;cases hx:Zl o with
 | none =>
  rw [hx] at hc;refine dEr ?_;repeat (refine c0 hc rfl ?_; first|refine dEr ?_|exact dz)
  rw [zeM,hx]<;>rfl
 | some x =>
  rw [hx] at hc;refine dEr ?_;repeat (refine c0 hc rfl ?_; first|refine dEr ?_|exact dz)
  rw [zeM,hx]<;>rfl
end Go.Proofs.YtmkmldepkponaaaGreatDoor

namespace Go.Proofs.YtmkmldepkponaaaGreatDoor
set_option linter.unusedSimpArgs false
set_option linter.unusedVariables false
open Go Go.RowKit
end Go.Proofs.YtmkmldepkponaaaGreatDoor

namespace Go.Proofs.YtmkmldepkponaaaGreatDoor
set_option linter.unusedSimpArgs false
set_option linter.unusedVariables false
open Go Go.RowKit
def zhe:XC:=(.s (.r [.a2 2 3 34]) (.s (.r [.mv 3 0,.ex 4 (.app true 3 40 34 (.k .nil) 3),.a1 2 4 3 34]) .ret))
theorem zhf:zh Tryz.prog [] 67=some (zhe.ac,[(.t 2)],5):=by kernel_rfl
theorem zaF (W0:World) (t:List Mark) (ht:t.length≤1000000):Fn Tryz.prog W0 67 [zd t] (.c (zd t)) []:=by
 refine fX mixed zhf fun hg=>?_
 refine dr ?_;repeat ((first|refine oB (by simp; omega) ?_|refine oB (by simp) ?_); first|refine dr ?_|exact dz)
 rfl
def zhg:XC:=(.s (.r [.x1 1 0,.ex 2 (.alloc [.nil,.nil,.nil])]) (.s (.r [.a2 3 1 25]) (.s (.s (.r [.f1 6 1 1,.l1 7 1 6,.n1 8 7,.m1 9 (.i 0)]) (.blk 0 (.loop (.s (.r [.b1 10 .lss 9 8]) (.s (.ce 10 0) (.s (.blk 1 (.s (.r [.i1 11 1 7 9,.l1 12 1 11,.a1 5 12 3 34]) (.r [.mv 13 3,.mv 14 5,.c1 15 67 [14],.ex 16 (.bsl 1 25 [15]),.ex 17 (.app false 1 24 25 13 16),.a1 3 17 1 25]))) (.r [.b1 18 .add 9 (.i 1),.mv 9 18]))))))) (.s (.d [.f1 19 0 1,.l1 20 1 19,.c1 21 86 [20],.mv 22 3,.f1 23 2 1,.l1 24 1 23,.c1 25 67 [24],.ex 26 (.build [.nil,.nil,.nil] [(0,(1,21)),(1,(1,22)),(2,(1,25))]),.s1 3 2 26]) .ret))))
theorem zhh:zh Tryz.prog [] 70=some (zhg.ac,[(.cell 2 true 3)],27):=by kernel_rfl
theorem zkA (W0:World) (o:Over) (h:OZ 1000000 o):Fn Tryz.prog W0 70 [zY o] (.c (zY o)) []:=by
 refine fX mixed zhh fun hg=>?_
 obtain ⟨z1,z2,z3,z4⟩:=h;refine dr ?_;refine lp (σ:=Nat) (fun k=>[(1,.ptr 16 0),(2,.ptr 32 0),(3,.own 48 k),(7,.c (zT o.layers)),(8,I o.layers.length),(9,I k)]) (fun k=>[(16,.box [.c (zj o.base),.c (zT o.layers),.c (zd o.upper)]),(32,.box [.nil,.nil,.nil]),(48,.row ((o.layers.take k).map zd) 1 25)]) (fun k=>k≤o.layers.length) (fun k=>o.layers.length - k) 0 (by simp) ?_ ?_
 ·refine dr ?_;repeat (refine oB (by simp) ?_; first|refine dr ?_|exact dz)
  trivial
 intro k hk;refine dr ?_;apply cP<;>intro h1
 ·have hk':k < o.layers.length:=by omega
  have hz:=z3 _ (List.getElem_mem hk');refine dEr ?_;repeat ((first|refine c0 (zaF W0 _ hz) rfl ?_|refine oB (by simp; omega) ?_); first|refine dEr ?_|exact dz)
  refine ⟨k+1,by omega,by omega,?_⟩;rw [List.take_succ_eq_append_getElem hk',List.map_append];refine dr ?_;trivial
 have hkl:k=o.layers.length:=by omega
 subst hkl;rw [List.take_length];refine dEr ?_;repeat ((first|refine c0 (zcS W0 _ z1) rfl ?_|refine c0 (zaF W0 _ z4) rfl ?_); first|refine dEr ?_|exact dz)
 rfl
def zgW:XC:=(.s (.r [.x1 1 0,.ex 2 (.alloc [.nil,.nil,.nil]),.m1 3 .n]) (.s (.s (.r [.l2 10 3 1,.c1 11 15 [10],.u1 12 11]) (.cnd 12 (.s (.r [.ex 13 (.build [.nil,.nil,.nil] []),.s1 3 2 13,.m1 3 .n]) .ret) .skip)) (.s (.r [.l2 14 3 1,.c1 15 70 [14],.ex 4 (.alloc [.nil,.nil,.nil]),.s1 3 4 15]) (.s (.s (.r [.f1 16 1 4,.l1 17 1 16,.n1 18 17,.b1 19 .lss 18 (.i 2)]) (.cnd 19 (.s (.r [.l2 20 3 4,.s1 3 2 20,.m1 3 .n]) .ret) .skip)) (.s (.r [.f1 21 1 4,.l1 22 1 21,.ex 23 (.ia 1 22 (.i 0)),.l1 24 1 23,.c1 25 67 [24],.a1 5 25 3 34]) (.s (.s (.r [.f1 26 1 4,.l1 27 1 26,.ex 28 (.slr 1 27 (.some (.i 1)) .none),.n1 29 28,.m1 30 (.i 0)]) (.blk 0 (.loop (.s (.r [.b1 31 .lss 30 29]) (.s (.ce 31 0) (.s (.blk 1 (.s (.r [.i1 32 1 28 30,.l1 33 1 32,.a1 7 33 3 34]) (.s (.r [.mv 35 7,.mv 36 5,.c1 37 72 [35,36],.mv 34 37,.e1 38 34 0,.e1 39 34 1,.a1 8 38 3 34,.mv 9 39]) (.s (.s (.r [.mv 40 9,.u1 41 40]) (.cnd 41 (.s (.r [.l2 42 3 4,.s1 3 2 42,.m1 3 .n]) .ret) .skip)) (.r [.mv 43 8,.a1 5 43 3 34]))))) (.r [.b1 44 .add 30 (.i 1),.mv 30 44]))))))) (.s (.r [.mv 45 5,.ex 46 (.bsl 1 25 [45]),.f1 47 1 4,.s1 1 47 46]) (.s (.r [.l2 48 3 4,.s1 3 2 48,.m1 3 .y]) .ret))))))))
theorem zgX:zh Tryz.prog [] 36=some (zgW.ac,[(.cell 2 true 3),(.t 3)],49):=by kernel_rfl
theorem zkJ (W0:World) (hM:HM W0) (o:Over):Fn Tryz.prog W0 36 [zY o] (.c (eOB (j5 o))) []:=by
 refine fX mixed zgX fun hg=>?_
 refine dEr ?_;repeat (refine c0 (zc0 W0 hM o) rfl ?_; first|refine dEr ?_|exact dz)
 apply cP<;>intro h1
 ·refine dr ?_;rw [j5,if_neg (by simp [h1])]<;>rfl
 have hz:=OS.ok h1;rw [j5,if_pos h1];refine dEr ?_;repeat (refine c0 (zkA W0 o (hz.oz.mono (by omega))) rfl ?_; first|refine dEr ?_|exact dz)
 apply cP<;>intro h2
 ·refine dr ?_;have e:j3 o=none:=by
   unfold j3;split
   ·rename_i a b r he; rw [he] at h2; simp at h2; omega
   ·rfl
  rw [e]<;>rfl
 have h0:0 < o.layers.length:=by omega
 obtain ⟨a,b,r,hl⟩:∃ a b r,o.layers=a::b::r:=by
  cases hl:o.layers with
  | nil=>rw [hl] at h0; simp at h0
  | cons a s=>cases s with
   | nil=>rw [hl] at h2; simp at h2
   | cons b r=>exact ⟨a,b,r,rfl⟩
 have e0:j3 o=jH o.layers[0] (o.layers.drop 1):=by
  have e:o.layers[0]=a:=by simp [hl]
  rw [e];unfold j3;rw [hl]; rfl
 rw [e0];have hn4:=hz.n;have hn5:=hz.l _ (List.getElem_mem h0);have q9:=zaF W0 o.layers[0] (by omega);refine dEr ?_;repeat ((first|refine aM (j:=0) rfl (by omega) ?_|refine c0 q9 rfl ?_|refine sLoM 1 rfl (by omega) ?_); first|refine dEr ?_|exact dz)
 generalize hL:o.layers.drop 1=L at *;have hLn:L.length≤4:=by rw [← hL,List.length_drop]; omega
 refine lp2 (fun (k:Nat) (one:List Mark)=>[(2,.ptr 32 0),(4,.ptr 64 0),(5,.c (zd one)),(28,.c (zT L)),(29,I L.length),(30,I k)]) (fun _ _=>[(32,.box [.nil,.nil,.nil]),(64,.box [.c (zj o.base),.c (zT o.layers),.c (zd o.upper)])]) (fun k one=>k≤L.length∧jH one (L.drop k)=jH o.layers[0] L) (fun k _=>L.length - k) 0 o.layers[0] ⟨by omega,rfl⟩ ?_ ?_
 ·refine dr ?_;trivial
 rintro k one ⟨k2,k3⟩;refine dr ?_;apply cP<;>intro h3
 ·have hk':k < L.length:=by omega
  rw [List.drop_eq_getElem_cons hk',zaO] at k3;have q:=zcY W0 hM L[k] one;cases hj:jp L[k] one with
  | none =>
   rw [hj] at q k3;refine dEr ?_;repeat (refine c0 q rfl ?_; first|refine dEr ?_|exact dz)
   rw [← k3]<;>rfl
  | some j =>
   rw [hj] at q k3;refine dEr ?_;repeat (refine c0 q rfl ?_; first|refine dEr ?_|exact dz)
   refine ⟨k+1,j,⟨by omega,k3⟩,by omega,?_⟩;refine dr ?_;trivial
 ·have hkl:k=L.length:=by omega
  rw [hkl,List.drop_length,jH] at k3;refine dr ?_;rw [← k3]<;>rfl
end Go.Proofs.YtmkmldepkponaaaGreatDoor

namespace Go.Proofs.YtmkmldepkponaaaGreatDoor
set_option linter.unusedSimpArgs false
set_option linter.unusedVariables false
open Go Go.RowKit
theorem zkt (W0:World) (hM:HM W0) (a b x:List Mark) (hx:jp a b=some x):zy Tryz.prog W0 72 [.c (zd a),.c (zd b)] [] (fun _:Unit=>True) (fun _ => .tup [.own 4 x.length,.c (CB true)]) (fun _=>[(4,.row (x.map zm) 3 34)]):=by
 refine zy.swp (R:=fun _ => .tup [.own 112 x.length,.c (CB true)]) (M:=fun _=>[(112,.row (x.map zm) 3 34)]) (vs:=[.c (zd a),.c (zd b)]) (mp:=[]) ?_ 4 112;refine fW mixed zcm fun hg=>?_
 refine dEr ?_;repeat (refine c0 (J7 W0 hM _) rfl ?_; first|refine dEr ?_|exact dz)
 apply cP<;>intro h1
 ·rw [jp,if_neg (by simp [h1])] at hx;cases hx
 refine dEr ?_;repeat (refine c0 (J7 W0 hM _) rfl ?_; first|refine dEr ?_|exact dz)
 apply cP<;>intro h2
 ·rw [jp,if_neg (by simp [h2])] at hx;cases hx
 have ga:=LG.of h1;have gb:=LG.of h2;have la:=(zV.1 h1).1;have lb:=(zV.1 h2).1;have e:jp a b=if (ya a b).length≤32 then some (jS a b) else none:=by rw [jp,if_pos (by simp [h1,h2]),zeb ga gb]
 have hxl:(jA a b).length≤64:=by
  have:=List.length_filter_le (jh a) b;rw [jA,List.length_append,List.length_map]; omega
 have hxp:∀ m∈jA a b,pOk m.path=true:=fun m hm=>(ZI ga gb).path ((Qk ga gb m).1 hm)
 have hY:ya a b=(jA a b).filterMap (zK (jA a b)):=rfl;rw [e] at hx;refine dEr ?_;repeat (refine c0 (zc3 W0 hM a b h1 h2) rfl ?_; first|refine dEr ?_|exact dz)
 rw [hY] at hx;generalize hXX:jA a b=X at *;refine lp2 (fun (k:Nat) (out:List Mark)=>[(6,.c (zd X)),(7,.own 112 out.length),(21,.c (zd X)),(22,I X.length),(23,I k)]) (fun _ out=>[(112,.row (out.map zm) 3 34)]) (fun k out=>k≤X.length∧out=(X.take k).filterMap (zK X)∧out.length≤k) (fun k _=>X.length - k) 0 [] ⟨by simp,rfl,by simp⟩ ?_ ?_
 ·refine dr ?_;trivial
 rintro k out ⟨hk,ho,hle⟩;refine dr ?_;apply cP<;>intro h3
 ·have hk':k < X.length:=by omega
  have hn:(X.take (k+1)).filterMap (zK X)=out++(zK X X[k]).toList:=by rw [Qe hk',← ho]
  have hb:=yw W0 hM X X[k].path;rw [zaj hxp (hxp _ (List.getElem_mem hk'))] at hb;refine dEr ?_;repeat (refine c0 hb rfl ?_; first|refine dEr ?_|exact dz)
  apply cP<;>intro h4
  ·refine dr ?_;apply cP<;>intro h5
   ·have e:zK X X[k]=none:=by unfold zK; rw [if_pos h4,if_pos h5]
    rw [e] at hn;refine dr ?_;refine ⟨k+1,out,⟨by omega,by rw [hn]; simp,by omega⟩,by omega,?_⟩;refine dr ?_;trivial
   ·refine dr ?_;apply cP<;>intro h6
    ·have e:zK X X[k]=some ⟨X[k].path,2,X[k].data⟩:=by unfold zK; rw [if_pos h4,if_neg h5,if_pos h6]
     rw [e] at hn;refine dr ?_;repeat ((first|refine oB (by simp; omega) ?_|refine oB (by simp) ?_); first|refine dr ?_|exact dz)
     refine ⟨k+1,out++[⟨X[k].path,2,X[k].data⟩],⟨by omega,by rw [hn]; rfl,by simp; omega⟩,by omega,?_⟩;refine dr ?_;repeat (refine oB (by simp<;>rfl) ?_; first|refine dr ?_|exact dz)
     trivial
    ·have e:zK X X[k]=some X[k]:=by unfold zK; rw [if_pos h4,if_neg h5,if_neg h6]
     rw [e] at hn;refine dr ?_;repeat ((first|refine oB (by simp; omega) ?_|refine oB (by simp) ?_); first|refine dr ?_|exact dz)
     refine ⟨k+1,out++[X[k]],⟨by omega,by rw [hn]; rfl,by simp; omega⟩,by omega,?_⟩;refine dr ?_;repeat (refine oB (by simp<;>rfl) ?_; first|refine dr ?_|exact dz)
     trivial
  ·have e:zK X X[k]=some X[k]:=by unfold zK; rw [if_neg (by simp [h4])]
   rw [e] at hn;refine dr ?_;repeat ((first|refine oB (by simp; omega) ?_|refine oB (by simp) ?_); first|refine dr ?_|exact dz)
   refine ⟨k+1,out++[X[k]],⟨by omega,by rw [hn]; rfl,by simp; omega⟩,by omega,?_⟩;refine dr ?_;repeat (refine oB (by simp<;>rfl) ?_; first|refine dr ?_|exact dz)
   trivial
 have hkl:k=X.length:=by omega
 rw [hkl,List.take_length] at ho;rw [← ho] at hx;have hYo:ya a b=out:=by rw [hY,ho]
 refine dr ?_;apply cP<;>intro h5
 ·rw [if_neg (by omega)] at hx;cases hx
 ·refine dr ?_;refine oW ((zaJ W0 out (by omega)).swp 1 112) rfl ⟨rfl,trivial⟩ rfl rfl JJ fun S hS=>⟨rfl,?_⟩
  have hSl:=hS.len;rw [if_pos (by omega)] at hx;have hSx:S=x:=(zec ga gb (by rw [hYo]; exact hS)).trans (Option.some.inj hx);subst hSx;refine dEr ?_;refine ⟨none,_,_,?_,(),trivial,rfl,rfl⟩;refine dr ?_;repeat (refine oB (by simp [hS.len]) ?_; first|refine dr ?_|exact dz)
  trivial
end Go.Proofs.YtmkmldepkponaaaGreatDoor

namespace Go.Proofs.YtmkmldepkponaaaGreatDoor
set_option linter.unusedSimpArgs false
set_option linter.unusedVariables false
open Go Go.RowKit
end Go.Proofs.YtmkmldepkponaaaGreatDoor

namespace Go.Proofs.YtmkmldepkponaaaGreatDoor
set_option linter.unusedSimpArgs false
set_option linter.unusedVariables false
open Go Go.RowKit
end Go.Proofs.YtmkmldepkponaaaGreatDoor

namespace Go.Proofs.YtmkmldepkponaaaGreatDoor
set_option linter.unusedSimpArgs false
set_option linter.unusedVariables false
open Go Go.RowKit
end Go.Proofs.YtmkmldepkponaaaGreatDoor

namespace Go.Proofs.YtmkmldepkponaaaGreatDoor
set_option linter.unusedSimpArgs false
set_option linter.unusedVariables false
open Go Go.RowKit
theorem zlQ {W:World} (h:W.ShapedOpen Tryz.prog):HM W :=
 Go.Proofs.cell_of_shapedOpen_int (zero:=#[.int .i64 0]) (t:=3) h (of_decide_eq_true (by kernel_rfl)) (by kernel_rfl) rfl (by kernel_rfl) (by kernel_rfl) Tryz.underlying3
end Go.Proofs.YtmkmldepkponaaaGreatDoor

namespace Go.Proofs.YtmkmldepkponaaaGreatDoor
set_option linter.unusedSimpArgs false
set_option linter.unusedVariables false
open Go Go.RowKit
def ziE:XC:=(.s (.r [.m1 4 (.i 0)]) (.s (.s (.r [.m1 5 (.i 0)]) (.blk 0 (.loop (.s (.s (.r [.mv 6 5,.mv 7 0,.n1 8 7,.b1 9 .lss 6 8]) (.ce 9 0)) (.s (.blk 1 (.s (.r [.mv 12 0,.mv 13 5,.mv 14 1,.c1 15 65 [14],.i1 16 3 12 13,.f1 17 0 16,.s1 1 17 15]) (.s (.ic 18 19 1) (.s (.r [.mv 20 0,.mv 21 5,.mv 22 1,.b1 23 .rem 22 (.i 3),.b1 24 .eql 23 (.i 0),.i1 25 3 20 21,.f1 26 1 25,.s1 1 26 24]) (.s (.ic 27 28 1) (.s (.r [.mv 29 0,.mv 30 5,.mv 31 1,.c1 32 65 [31],.i1 33 3 29 30,.f1 34 2 33,.s1 1 34 32]) (.ic 35 36 1))))))) (.ic 10 11 5)))))) (.s (.r [.mv 37 1,.mv 4 37]) .ret)))
theorem ziF:zh Tryz.prog [] 24=some (ziE.ac,[(.t 4)],38):=by kernel_rfl
theorem zk0 (W0:World):Fn Tryz.prog W0 24 [zj [],CI 1] (.c (CI 1)) []:=by
 refine fX mixed ziF fun hg=>?_
 refine dr ?_;refine lp (σ:=Unit) (fun _=>[(0,.c (zj [])),(1,I 1),(5,I 0)]) (fun _=>[]) (fun _=>True) (fun _=>0) () trivial ?_ ?_
 ·refine dr ?_;trivial
 intro _ _;refine dr ?_;apply cP<;>intro h1
 ·exact absurd h1 (by simp)
 exact dz
end Go.Proofs.YtmkmldepkponaaaGreatDoor

namespace Go.Proofs.YtmkmldepkponaaaGreatDoor
set_option linter.unusedSimpArgs false
set_option linter.unusedVariables false
open Go Go.RowKit
end Go.Proofs.YtmkmldepkponaaaGreatDoor

namespace Go.Proofs.YtmkmldepkponaaaGreatDoor
set_option linter.unusedSimpArgs false
set_option linter.unusedVariables false
open Go Go.RowKit
def ziH:XC:=(.s (.r [.m1 4 (.i 0)]) (.s (.s (.r [.m1 5 (.i 0)]) (.blk 0 (.loop (.s (.s (.r [.mv 6 5,.mv 7 0,.n1 8 7,.b1 9 .lss 6 8]) (.ce 9 0)) (.s (.blk 1 (.r [.mv 12 0,.mv 13 5,.i1 14 1 12 13,.l1 15 1 14,.mv 16 1,.c1 17 64 [15,16],.mv 1 17])) (.ic 10 11 5)))))) (.s (.r [.mv 18 1,.mv 4 18]) .ret)))
theorem ziI:zh Tryz.prog [] 63=some (ziH.ac,[(.t 4)],19):=by kernel_rfl
theorem zk5 (W0:World):Fn Tryz.prog W0 63 [zT [],CI 1] (.c (CI 1)) []:=by
 refine fX mixed ziI fun hg=>?_
 refine dr ?_;refine lp (σ:=Unit) (fun _=>[(0,.c (zT [])),(1,I 1),(5,I 0)]) (fun _=>[]) (fun _=>True) (fun _=>0) () trivial ?_ ?_
 ·refine dr ?_;trivial
 intro _ _;refine dr ?_;apply cP<;>intro h1
 ·exact absurd h1 (by simp)
 exact dz
def ziG:XC:=(.s (.r [.m1 4 (.i 0)]) (.s (.s (.r [.m1 5 (.i 0)]) (.blk 0 (.loop (.s (.s (.r [.mv 6 5,.mv 7 0,.n1 8 7,.b1 9 .lss 6 8]) (.ce 9 0)) (.s (.blk 1 (.s (.r [.mv 12 0,.mv 13 5,.mv 14 1,.c1 15 65 [14],.i1 16 3 12 13,.f1 17 0 16,.s1 1 17 15]) (.s (.ic 18 19 1) (.s (.r [.mv 20 0,.mv 21 5,.mv 22 1,.i1 23 3 20 21,.f1 24 1 23,.s1 1 24 22]) (.s (.ic 25 26 1) (.s (.r [.mv 27 0,.mv 28 5,.mv 29 1,.c1 30 65 [29],.i1 31 3 27 28,.f1 32 2 31,.s1 1 32 30]) (.ic 33 34 1))))))) (.ic 10 11 5)))))) (.s (.r [.mv 35 1,.mv 4 35]) .ret)))
theorem ziJ:zh Tryz.prog [] 64=some (ziG.ac,[(.t 4)],36):=by kernel_rfl
theorem zk4 (W0:World):Fn Tryz.prog W0 64 [zd [],CI 1] (.c (CI 1)) []:=by
 refine fX mixed ziJ fun hg=>?_
 refine dr ?_;refine lp (σ:=Unit) (fun _=>[(0,.c (zd [])),(1,I 1),(5,I 0)]) (fun _=>[]) (fun _=>True) (fun _=>0) () trivial ?_ ?_
 ·refine dr ?_;trivial
 intro _ _;refine dr ?_;apply cP<;>intro h1
 ·exact absurd h1 (by simp)
 exact dz
def ziK:XC:=(.s (.r [.x1 2 0,.m1 4 (.i 0)]) (.s (.r [.f1 5 0 2,.l1 6 1 5,.mv 7 1,.c1 8 24 [6,7],.mv 1 8]) (.s (.r [.f1 9 1 2,.l1 10 1 9,.mv 11 1,.c1 12 63 [10,11],.mv 1 12]) (.s (.r [.f1 13 2 2,.l1 14 1 13,.mv 15 1,.c1 16 64 [14,15],.mv 1 16]) (.s (.r [.mv 17 1,.mv 4 17]) .ret)))))
theorem ziL:zh Tryz.prog [] 23=some (ziK.ac,[(.t 4)],18):=by kernel_rfl
theorem zk6 (W0:World):Fn Tryz.prog W0 23 [zY noO,CI 1] (.c (CI 1)) []:=by
 refine fX mixed ziL fun hg=>?_
 refine dEr ?_;repeat ((first|refine c0 (zk0 W0) rfl ?_|refine c0 (zk5 W0) rfl ?_|refine c0 (zk4 W0) rfl ?_); first|refine dEr ?_|exact dz)
 try rfl
theorem zcX (W0:World):Fn Tryz.prog W0 30 [zY noO,CI 1] (.c (CI 1)) []:=zcW W0 1 noO ⟨by omega,by decide⟩ (by simp [noO]) (by simp [noO]) (by simp [noO]) (by simp [noO])
end Go.Proofs.YtmkmldepkponaaaGreatDoor

namespace Go.Proofs.YtmkmldepkponaaaGreatDoor
set_option linter.unusedSimpArgs false
set_option linter.unusedVariables false
open Go Go.RowKit
theorem zf1 {n:Nat}:∀ {L:List (List Mark)},(∀ l∈L,l.length≤n)→sumL L≤n * L.length
 | [],_=>by simp [sumL]
 | l::L,h=>by
  have h1:=h l (by simp);have h2:=zf1 (L:=L) fun x hx=>h x (by simp [hx])
  have h3:sumL (l::L)=l.length+sumL L:=by simp [sumL]
  rw [h3,List.length_cons,Nat.mul_add];omega
theorem zmr {w:Over} (os:OS w):mkK 1 w≤100000000:=by
 have h:=zf1 os.l;have h1:=os.b;have h2:=os.n;have h3:=os.u;have h4:32 * w.layers.length≤128:=by omega
 rw [mkK,ZW];omega
end Go.Proofs.YtmkmldepkponaaaGreatDoor

namespace Go.Proofs.YtmkmldepkponaaaGreatDoor
set_option linter.unusedSimpArgs false
set_option linter.unusedVariables false
open Go Go.RowKit
def zgF:XC:=(.s (.r [.x1 1 0,.ex 2 (.alloc [.nil,.nil,.nil]),.m1 3 .n]) (.s (.s (.r [.l2 10 3 1,.c1 11 15 [10],.u1 12 11]) (.cnd 12 (.s (.r [.ex 13 (.build [.nil,.nil,.nil] []),.s1 3 2 13,.m1 3 .n]) .ret) .skip)) (.cut (.r [.l2 14 3 1,.o1 15 70 [14],.ex 4 (.alloc [.nil,.nil,.nil]),.s1 3 4 15]) (.s (.s (.r [.f1 16 1 4,.l1 17 1 16,.n1 18 17,.b1 19 .lss 18 (.i 2)]) (.cnd 19 (.s (.r [.l2 20 3 4,.s1 3 2 20,.m1 3 .n]) .ret) .skip)) (.cut (.r [.f1 21 1 4,.l1 22 1 21,.ex 23 (.ia 1 22 (.i 0)),.l1 24 1 23,.o1 25 67 [24],.a1 5 25 3 34]) (.s (.s (.r [.f1 26 1 4,.l1 27 1 26,.ex 28 (.slr 1 27 (.some (.i 1)) .none),.n1 29 28,.m1 30 (.i 0)]) (.blk 0 (.loop (.s (.r [.b1 31 .lss 30 29]) (.s (.ce 31 0) (.s (.blk 1 (.s (.r [.i1 32 1 28 30,.l1 33 1 32,.a1 7 33 3 34]) (.s (.r [.mv 35 7,.mv 36 5,.o1 37 72 [35,36],.mv 34 37,.e1 38 34 0,.e1 39 34 1,.a1 8 38 3 34,.mv 9 39]) (.s (.s (.r [.mv 40 9,.u1 41 40]) (.cnd 41 (.s (.r [.l2 42 3 4,.s1 3 2 42,.m1 3 .n]) .ret) .skip)) (.r [.mv 43 8,.a1 5 43 3 34]))))) (.r [.b1 44 .add 30 (.i 1),.mv 30 44]))))))) (.s (.r [.mv 45 5,.ex 46 (.bsl 1 25 [45]),.f1 47 1 4,.s1 1 47 46]) (.s (.r [.l2 48 3 4,.s1 3 2 48,.m1 3 .y]) .ret))))))))
theorem zgG:zh Tryz.prog [70,67,72] 36=some (zgF.ac,[(.cell 2 true 3),(.t 3)],49):=by kernel_rfl
theorem zku (W0:World) (hM:HM W0) (o:Over) (ho:oOk o=true) (o':Over) (b':Bool) (hp:j5 o=(o',b')):zy Tryz.prog W0 36 [.c (zY o)] [] (fun _:Unit=>True) (fun _ => .tup [ovP 9 o',.c (CB b')]) (fun _=>ovM 9 o'):=by
 refine fW' [] mixed zgG (fun hg=>?_) rfl;have hz:=OS.ok ho;obtain ⟨T,O,fa⟩:=famP 9 3 34 3 (lmL o);have ovT:ovM 9 o=(9,.row (o.base.map zv) 3 77)::(25,.row (o.upper.map zm) 3 34)::(41,.rowP O 25)::T:=by unfold ovM; rw [fa.t,fa.o]
 have q:=zkB W0 o (hz.oz.mono (by omega));rw [ovT] at q;have hsk:∀ {m:XM} {id:Nat},id % 16≠9→lkX (apX T m) id=lkX m id:=fun h=>fa.skip (.inr h)
 rw [j5,if_pos ho] at hp;refine dEr ?_;repeat (refine c0 (zc0 W0 hM o) rfl ?_; first|refine dEr ?_|exact dz)
 apply cP<;>intro h1
 ·exact absurd ho (by simp [h1])
 refine dEr ?_;refine cutz (σ:=Unit) 3 (fun _=>[(2,.ptr 32 0),(3,B false),(4,.ptr 64 0)])
  (fun _=>(32,.box [.nil,.nil,.nil])::(64,.box [.own 9 o.base.length,.own 41 o.layers.length,.own 25 o.upper.length])::(9,.row (o.base.map zv) 3 77)::(25,.row (o.upper.map zm) 3 34)::(41,.rowP O 25)::T) (fun _=>True) ?_ ?_
 ·refine dr ?_;refine oF (cs:=[zY o]) q rfl rfl rfl ⟨(),trivial⟩ fun _ _=>⟨rfl,?_,?_⟩
  ·rw [← ovT];exact zbx rfl rfl rfl fun i=>by show lkX [_,_] _=none; rw [zc (by simp<;>omega),zc (by simp<;>omega)]; rfl
  refine dEr ?_;repeat (refine fT (frX1 ((jY (P:=[_,_,_]) rfl).trans ((hsk (id:=64) (by decide)).trans rfl))) ?_; first|refine dEr ?_|exact dz)
  refine ⟨(),trivial,?_⟩;exact zx.ls ⟨rfl,rfl,rfl,trivial⟩ ⟨(jY (P:=[_,_,_,_]) rfl).trans ((hsk (id:=32) (by decide)).trans rfl),rfl,rfl,rfl,rfl,fa.mmS fun i hi=>by
    show lkX (_::_::_::_::apX T _) _=_;rw [zc (by simp<;>omega),zc (by omega),zc (by omega),zc (by omega),fa.fst hi]⟩ (fun id h=>by cases h)
   (zi rfl (zi rfl (zi rfl (zi rfl (zi (fa.inO fun i hi=>by
    rw [zc (by omega),zc (by omega),zc (by omega),zc (by omega),zc (by omega),fa.row hi]; rfl) fa.inT))))) rfl
 intro _ _;have hn4:=hz.n;have hlm:(lmL o).length=o.layers.length:=by simp [lmL]
 have hOl:O.length=o.layers.length:=fa.len.trans hlm;refine dr ?_;apply cP<;>intro h2
 ·have e:j3 o=none:=by
   unfold j3;split
   ·rename_i a b r he; rw [he] at h2; simp at h2; omega
   ·rfl
  rw [e] at hp;cases hp;refine dr ?_;refine ⟨some 3,_,_,?_,(),trivial,rfl,rfl⟩;refine zx.ls ⟨rfl,trivial⟩ ⟨rfl,rfl,congrArg (fun L=>some (XB.rowP L 25)) fa.o.symm,yD fun i hi=>?_⟩ (fun id h=>by cases h) zbw rfl;show lkX (_::_::_::_::_::T) _=_;rw [zc (by simp<;>omega),zc (by simp<;>omega),zc (by simp<;>omega),zc (by simp<;>omega),zc (by simp<;>omega),fa.row hi]
 have h0:0 < o.layers.length:=by omega
 obtain ⟨a,b,r,hl⟩:∃ a b r,o.layers=a::b::r:=by
  cases hl:o.layers with
  | nil=>rw [hl] at h0; simp at h0
  | cons a s=>cases s with
   | nil=>rw [hl] at h2; simp at h2
   | cons b r=>exact ⟨a,b,r,rfl⟩
 have e0:j3 o=jH o.layers[0] (o.layers.drop 1):=by
  have e:o.layers[0]=a:=by simp [hl]
  rw [e];unfold j3;rw [hl]; rfl
 rw [e0] at hp;have hat:∀ {i:Nat} (h:i < o.layers.length) (h':i < (lmL o).length),(lmL o)[i]=o.layers[i].map zm:=fun _ _=>by simp [lmL]
 have hget:∀ {i:Nat} (h:i < o.layers.length),O[i]? = some (.own (16 * (3+i)+9) o.layers[i].length):=fun {i} h=>by
  rw [fa.get (by omega),hat h]; simp
 have hrow:∀ {i:Nat} (h:i < o.layers.length),lkX T (16 * (3+i)+9)=some (.row (o.layers[i].map zm) 3 34):=fun {i} h=>by
  rw [fa.row (by omega),hat h]
 refine cutz (σ:=Unit) 3 (fun _=>[(2,.ptr 32 0),(3,B false),(4,.ptr 64 0),(5,.own 4 o.layers[0].length)])
  (fun _=>(4,.row (o.layers[0].map zm) 3 34)::(32,.box [.nil,.nil,.nil])::(64,.box [.own 9 o.base.length,.own 41 o.layers.length,.own 25 o.upper.length])::(9,.row (o.base.map zv) 3 77)::(25,.row (o.upper.map zm) 3 34)::(41,.rowP O 25)::T) (fun _=>True) ?_ ?_
 ·refine dr ?_;repeat ((first|refine oB hOl ?_|refine Qw (hget h0) ?_); first|refine dr ?_|exact dz)
  have hl0:o.layers[0].length≤1100000:=by have:=hz.l _ (List.getElem_mem h0); omega
  refine oF (cs:=[zd o.layers[0]]) (zaG W0 o.layers[0] hl0) (onI ((jY (P:=[_,_,_,_,_]) rfl).trans (hrow h0)) (oB lmp rfl)) ?_ (zi ?_ rfl) ⟨(),trivial⟩ fun _ _=>⟨rfl,⟨⟨ZS,(jY (P:=[_,_,_,_,_]) rfl).trans (fa.no (id:=4) (.inl (by decide)))⟩,trivial⟩,?_⟩
  ·exact zi rfl (zi rfl (zi rfl (zi rfl (zi (fa.inO fun i hi=>by
    show (lkX (_::_::_::_::_::T) _).isSome=true;rw [zc (by omega),zc (by omega),zc (by omega),zc (by omega),zc (by omega),fa.row hi]; rfl) fa.inT))))
  ·show (lkX (_::_::_::_::_::T) _).isSome=true;rw [zc (by omega),zc (by omega),zc (by omega),zc (by omega),zc (by omega),hrow h0]; rfl
  refine dEr ?_;refine ⟨(),trivial,?_⟩;exact zx.ls ⟨rfl,rfl,rfl,rfl,trivial⟩ ⟨rfl,rfl,rfl,rfl,rfl,rfl,fa.mmS fun i hi=>by
    show lkX (_::_::_::_::_::_::T) _=_;rw [zc (by omega),zc (by omega),zc (by omega),zc (by omega),zc (by omega),zc (by omega),fa.row hi]⟩ (fun id h=>by cases h)
   (zi rfl (zi rfl (zi rfl (zi rfl (zi rfl (zi (fa.inO fun i hi=>by
    rw [zc (by omega),zc (by omega),zc (by omega),zc (by omega),zc (by omega),zc (by omega),fa.row hi]; rfl) fa.inT)))))) rfl
 intro _ _;refine dr ?_;repeat (refine oB (show 1≤o.layers.length from h0) ?_; first|refine dr ?_|exact dz)
 have hin:∀ {C:List CV},inMX ((4,.row C 3 34)::(32,.box [.nil,.nil,.nil])::(64,.box [.own 9 o.base.length,.own 41 o.layers.length,.own 25 o.upper.length])::(9,.row (o.base.map zv) 3 77)::(25,.row (o.upper.map zm) 3 34)::(41,.rowP O 25)::T)=true:=fun {C}=>zi rfl (zi rfl (zi rfl (zi rfl (zi rfl (zi (fa.inO fun i hi=>by
    rw [zc (by omega),zc (by omega),zc (by omega),zc (by omega),zc (by omega),zc (by omega),fa.row hi]; rfl) fa.inT)))))
 refine lq2 (fun (k:Nat) (y:List Mark)=>[(2,.ptr 32 0),(4,.ptr 64 0),(5,.own 4 y.length),(28,.sl 41 o.layers.length 1 1),(29,.c (CI ((o.layers.length - 1:Nat):Int))),(30,I k)]) (fun _ y=>(4,.row (y.map zm) 3 34)::(32,.box [.nil,.nil,.nil])::(64,.box [.own 9 o.base.length,.own 41 o.layers.length,.own 25 o.upper.length])::(9,.row (o.base.map zv) 3 77)::(25,.row (o.upper.map zm) 3 34)::(41,.rowP O 25)::T)
  (fun k y=>k≤o.layers.length - 1∧jH y ((o.layers.drop 1).drop k)=jH o.layers[0] (o.layers.drop 1)) (fun k _=>o.layers.length - 1 - k) 0 o.layers[0] ⟨by omega,rfl⟩ ?_ ?_
 ·exact zx.ls ⟨rfl,rfl,rfl,rfl,rfl,rfl,trivial⟩ ⟨rfl,rfl,rfl,rfl,rfl,rfl,fa.mmS fun i hi=>by
    show lkX (_::_::_::_::_::_::T) _=_;rw [zc (by omega),zc (by omega),zc (by omega),zc (by omega),zc (by omega),zc (by omega),fa.row hi]⟩ (fun id h=>by cases h) hin rfl
 rintro k y ⟨hk,hfl⟩;refine dr ?_;apply cP<;>intro h3
 ·have hk':1+k < o.layers.length:=by omega
  have hdk:(o.layers.drop 1).drop k=o.layers[1+k]::(o.layers.drop 1).drop (k+1):=by
   have:k < (o.layers.drop 1).length:=by simp; omega
   rw [List.drop_eq_getElem_cons this]
   congr 1
   rw [List.getElem_drop]
  rw [hdk,zaO] at hfl;refine dr ?_;repeat ((first|refine oB hOl ?_|refine Qw (hget hk') ?_); first|refine dr ?_|exact dz)
  have hrk:lkX ((4,.row (y.map zm) 3 34)::(32,.box [.nil,.nil,.nil])::(64,.box [.own 9 o.base.length,.own 41 o.layers.length,.own 25 o.upper.length])::(9,.row (o.base.map zv) 3 77)::(25,.row (o.upper.map zm) 3 34)::(41,.rowP O 25)::T) (16 * (3+(1+k))+9)=some (.row (o.layers[1+k].map zm) 3 34):=by
   show lkX (_::_::_::_::_::_::T) _=_;rw [zc (by omega),zc (by omega),zc (by omega),zc (by omega),zc (by omega),zc (by omega),hrow hk']
  cases hj:jp o.layers[1+k] y with
  | none =>
   have q:=zcY W0 hM o.layers[1+k] y;rw [hj] at q hfl;rw [← hfl] at hp;cases hp;refine oF (cs:=[zd o.layers[1+k],zd y]) q.funW (onI hrk (oB lmp (onI rfl (oB lmp rfl)))) hin (zi (by show (lkX _ _).isSome=true; dsimp only [apX]; rw [hrk]; rfl) rfl) ⟨(),trivial⟩ fun _ _=>⟨rfl,trivial,?_⟩
   refine dEr ?_;refine ⟨some 3,_,_,?_,(),trivial,rfl,rfl⟩;refine zx.ls ⟨rfl,trivial⟩ ⟨rfl,rfl,congrArg (fun L=>some (XB.rowP L 25)) fa.o.symm,yD fun i hi=>?_⟩ (fun id h=>by cases h) zbw rfl;show lkX (_::_::_::_::_::_::T) _=_;rw [zc (by simp<;>omega),zc (by simp<;>omega),zc (by simp<;>omega),zc (by simp<;>omega),zc (by simp<;>omega),zc (by simp<;>omega),fa.row hi]
  | some j =>
   rw [hj] at hfl;have q:zy Tryz.prog W0 72 [.c (zd o.layers[1+k]),.c (zd y)] [] (fun _:Unit=>True) (fun _ => .tup [.own 20 j.length,.c (CB true)]) (fun _=>[(20,.row (j.map zm) 3 34)]):=(zkt W0 hM o.layers[1+k] y j hj).swp 4 20;refine oF (cs:=[zd o.layers[1+k],zd y]) q (onI hrk (oB lmp (onI rfl (oB lmp rfl)))) hin (zi (by show (lkX _ _).isSome=true; dsimp only [apX]; rw [hrk]; rfl) rfl) ⟨(),trivial⟩ fun _ _=>⟨rfl,⟨⟨ZS,(jY (P:=[_,_,_,_,_,_]) rfl).trans (fa.no (id:=20) (.inl (by decide)))⟩,trivial⟩,?_⟩
   refine dEr ?_;refine ⟨k+1,j,⟨by omega,hfl⟩,by omega,?_⟩;have hN:∀ i < (lmL o).length,sw 4 20 (16 * (3+i)+9)=16 * (3+i)+9:=fun i hi=>qB (by omega) (by omega)
   refine zx.rn 4 20 rfl rfl ⟨⟨_,rfl,rfl⟩,⟨_,rfl,rfl⟩,⟨_,rfl,rfl⟩,⟨_,rfl,rfl⟩,⟨_,rfl,rfl⟩,⟨_,rfl,rfl⟩,trivial⟩
    ⟨⟨_,rfl,rfl⟩,⟨_,rfl,rfl⟩,⟨_,rfl,rfl⟩,⟨_,rfl,rfl⟩,⟨_,rfl,rfl⟩,⟨_,rfl,congrArg (fun L=>XB.rowP L 25) (fa.ren hN)⟩,fa.mmR fun i hi=>?_⟩ (fun id h=>by cases h) hin rfl
   rw [hN i hi];show lkX (_::_::_::_::_::_::_::T) _=_;rw [zc (by omega)];rw [zc (by omega),zc (by omega),zc (by omega),zc (by omega),zc (by omega),zc (by omega),fa.row hi]
 have hkl:k=o.layers.length - 1:=by omega
 have hd0:(o.layers.drop 1).drop k=[]:=List.drop_eq_nil_of_le (by simp; omega);rw [hd0,jH] at hfl;rw [← hfl] at hp;cases hp;refine dr ?_;repeat (refine fT (frX1 ((jY (P:=[_,_,_,_,_,_]) rfl).trans (fa.no (id:=736) (.inr (by decide))))) ?_; first|refine dr ?_|exact dz)
 refine ⟨some 3,_,_,?_,(),trivial,rfl,rfl⟩;refine zx.trans (z:=some 3) (F1:=[(0,.tup [.agg [.own 9 o.base.length,.own 736 1,.own 25 o.upper.length],B true])]) (m1:=[(9,.row (o.base.map zv) 3 77),(25,.row (o.upper.map zm) 3 34),(736,.rowP [.own 4 y.length] 25),(4,.row (y.map zm) 3 34)])
  (zx.ls ⟨rfl,trivial⟩ ⟨rfl,rfl,rfl,rfl,trivial⟩ (fun id h=>by cases h) rfl rfl) ?_
 refine zx.trans (z:=some 3) (F1:=[(0,.tup [.agg [.own 9 o.base.length,.own 41 1,.own 25 o.upper.length],B true])]) (m1:=[(9,.row (o.base.map zv) 3 77),(25,.row (o.upper.map zm) 3 34),(41,.rowP [.own 4 y.length] 25),(4,.row (y.map zm) 3 34)])
  (zx.rn 736 41 rfl rfl ⟨⟨_,rfl,rfl⟩,trivial⟩ ⟨⟨_,rfl,rfl⟩,⟨_,rfl,rfl⟩,⟨_,rfl,rfl⟩,⟨_,rfl,rfl⟩,trivial⟩ (fun id h=>by cases h) rfl rfl) ?_
 refine zx.rn 4 57 rfl rfl ⟨⟨_,rfl,rfl⟩,trivial⟩ ⟨⟨_,rfl,rfl⟩,⟨_,rfl,rfl⟩,⟨_,rfl,?_⟩,⟨_,rfl,rfl⟩,trivial⟩ (fun id h=>by cases h) zbw rfl;show XB.rowP [.own 57 y.length] _=XB.rowP [.own 57 (y.map zm).length] _;rw [List.length_map]
end Go.Proofs.YtmkmldepkponaaaGreatDoor

namespace Go.Proofs.YtmkmldepkponaaaGreatDoor
set_option linter.unusedSimpArgs false
set_option linter.unusedVariables false
open Go Go.RowKit
def zhK:XC:=(.s (.r [.x1 1 0,.m1 2 .n]) (.s (.r [.m1 3 (.i 1048576)]) (.s (.r [.l2 14 3 1,.mv 15 3,.c1 16 17 [14,15],.mv 3 16]) (.s (.s (.r [.mv 17 3,.b1 18 .lss 17 (.i 0)]) (.cnd 18 (.rt 2) .skip)) (.s (.r [.l2 20 3 1,.o1 21 19 [20],.c1 22 35 [21],.mv 19 22,.e1 23 19 0,.e1 24 19 1,.ex 4 (.alloc [.nil,.nil,.nil]),.s1 3 4 23,.mv 5 24]) (.cut (.r [.l2 25 3 1,.o1 26 19 [25],.ex 6 (.alloc [.nil,.nil,.nil]),.s1 3 6 26]) (.cut (.r [.l2 28 3 6,.o1 29 36 [28],.mv 27 29,.e1 30 27 0,.e1 31 27 1,.ex 7 (.alloc [.nil,.nil,.nil]),.s1 3 7 30,.mv 8 31]) (.s (.s (.r [.l2 32 3 7,.l2 33 3 4,.c1 34 22 [32,33],.u1 35 34,.mv 36 35,.h3 37 8 36,.h3 38 5 36,.gf 39 (.bb true 37 38) 36,.p1 40 36 39]) (.cnd 40 (.rf 2) .skip)) (.s (.s (.d [.exl 41 (.ld true 3 6),.exl 42 (.ld true 3 1),.exl 43 (.opn 19 [42]),.c1 44 22 [41,43],.u1 45 44]) (.cnd 45 (.rf 2) .skip)) (.s (.r [.m1 9 (.i 1)]) (.cut (.r [.l2 46 3 6,.mv 47 9,.o1 48 23 [46,47],.mv 9 48]) (.s (.s (.r [.mv 49 9,.b1 50 .lss 49 (.i 0),.mv 51 50,.gf 52 (.ld true 3 7) 51,.gf 53 (.ld true 3 4) 51,.gf 54 (.call 22 [52,53]) 51,.gf 55 (.un .not 54) 51,.p1 56 51 55,.mv 57 56,.h3 58 8 57,.h3 59 5 57,.gf 60 (.bb true 58 59) 57,.p1 61 57 60]) (.cnd 61 (.rf 2) .skip)) (.s (.r [.m1 10 (.i 1)]) (.cut (.r [.l2 62 3 7,.mv 63 10,.o1 64 23 [62,63],.mv 10 64]) (.s (.r [.m1 11 (.i 1)]) (.s (.r [.l2 65 3 7,.mv 66 11,.c1 67 30 [65,66],.mv 11 67]) (.s (.s (.r [.mv 68 11,.b1 69 .lss 68 (.i 0)]) (.cnd 69 (.rf 2) .skip)) (.s (.s (.r [.mv 70 11,.mv 71 10,.b1 72 .neq 70 71]) (.cnd 72 (.rf 2) .skip)) (.cut (.r [.l2 74 3 1,.o1 75 19 [74],.o1 76 36 [75],.mv 73 76,.e1 77 73 0,.e1 78 73 1,.ex 12 (.alloc [.nil,.nil,.nil]),.s1 3 12 77,.mv 13 78]) (.s (.s (.r [.l2 79 3 12,.l2 80 3 4,.c1 81 22 [79,80],.u1 82 81,.mv 83 82,.h3 84 13 83,.h3 85 5 83,.gf 86 (.bb true 84 85) 83,.p1 87 83 86]) (.cnd 87 (.rf 2) .skip)) (.s (.r [.m1 11 (.i 1)]) (.s (.r [.l2 88 3 7,.mv 89 11,.c1 90 30 [88,89],.mv 11 90]) (.s (.s (.r [.mv 91 11,.b1 92 .lss 91 (.i 0)]) (.cnd 92 (.rf 2) .skip)) (.s (.s (.r [.mv 93 11,.mv 94 10,.b1 95 .neq 93 94]) (.cnd 95 (.rf 2) .skip)) (.rt 2)))))))))))))))))))))))))
theorem zhL:zh Tryz.prog [19,36,23] 9=some (zhK.ac,[(.t 2)],96):=by kernel_rfl
theorem zkq (W0:World) (hs:W0.ShapedOpen Tryz.prog) (a:Over):Fn Tryz.prog W0 9 [zY a] (.c (CB true)) []:=by
 have hM:=zlQ hs;refine fX' mixed zhL fun hg=>?_
 have z1:=@zoh a 1048576 (by omega);refine dEr ?_;repeat (refine c0 (zlj W0 a _ (by omega)) rfl ?_; first|refine dEr ?_|exact dz)
 apply cP<;>intro h1
 ·exact dz
 have fa:=zog (by omega) (by omega) h1;have qt:=zlo W0 a fa.h1 fa.h2 fa.h3 fa.h4;have qs:=zld W0 a;have qi:=zkJ W0 hM a;have qo:=zlp W0 a fa.h1 fa.h2 fa.h3 fa.h4;have qv:∀ u:Over,Fn Tryz.prog W0 22 [zY u,zY u] (.c (CB true)) []:=fun u=>by
  have:=zkE W0 u u
  rwa [show decide (u=u)=true by simp] at this
 have hmk:mkK 1 a≤100000000:=by have:=@zmq a 1048576 1 (by omega) h1; omega
 have hmk0:=@zeB 1 a;have qm:=zdb W0 1 a ⟨by omega,hmk⟩ fa.h1 fa.h2 fa.h3 fa.h4;obtain ⟨M7,v7⟩:=ovV 7 a (by omega);rw [← v7.e] at qo qm;generalize hw:j5 a=wb at *;obtain ⟨w,b⟩:=wb;rw [show eOB (w,b) = .tup [zY w,CB b] from rfl] at qs qi;refine dEr ?_;repeat ((first|refine oN qt rfl ?_|refine c0 qs rfl ?_); first|refine dEr ?_|exact dz)
 refine cutz (σ:=Unit) 3 (fun _=>[(1,.ptr 16 0),(2,B false),(4,.ptr 64 0),(5,B b),(6,.ptr 96 0)])
  (fun _=>(16,zD a)::(64,zD w)::(96,boxO 7 a)::M7) (fun _=>True) ?_ ?_
 ·refine dr ?_;refine oF (cs:=[zY a]) qo rfl rfl rfl ⟨(),trivial⟩ fun _ _=>⟨rfl,?_,?_⟩
  ·rw [v7.e];exact zbx rfl rfl rfl fun i=>by show lkX [_,_] _=none; rw [zc (by simp<;>omega),zc (by simp<;>omega)]; rfl
  refine dEr ?_;repeat (refine fT (frX1 ((v7.skip (id:=96) (by decide)).trans rfl)) ?_; first|refine dEr ?_|exact dz)
  refine ⟨(),trivial,?_⟩;refine zx.ls ⟨rfl,rfl,rfl,rfl,rfl,trivial⟩ ⟨(zc (by decide)).trans ((v7.skip (id:=16) (by decide)).trans rfl),(zc (by decide)).trans ((v7.skip (id:=64) (by decide)).trans rfl),rfl,v7.mmS (v7.ap.cons (by decide))⟩ (fun id h=>by cases h)
   (zi rfl (zi rfl (zi (((v7.self.cons (by decide)).cons (by decide)).cons (by decide)).inBox (v7.inB (((v7.self.cons (by decide)).cons (by decide)).cons (by decide)))))) rfl
 intro _ _;cases ho:oOk a with
 | false =>
  rw [j5,if_neg (by simp [ho])] at hw;cases hw;have l7:LkO 7 a ((16,zD a)::(64,zD noO)::(96,boxO 7 a)::M7):=((v7.self.cons (by decide)).cons (by decide)).cons (by decide);have t7:LkO 7 a ((16,zD a)::(64,zD noO)::(96,boxO 7 a)::(112,zD noO)::M7):=(((v7.self.cons (by decide)).cons (by decide)).cons (by decide)).cons (by decide);refine cutz (σ:=Unit) 3 (fun _=>[(1,.ptr 16 0),(2,B false),(4,.ptr 64 0),(5,B false),(6,.ptr 96 0),(7,.ptr 112 0),(8,B false)])
   (fun _=>(16,zD a)::(64,zD noO)::(96,boxO 7 a)::(112,zD noO)::M7) (fun _=>True) ?_ ?_
  ·refine dr ?_;refine oF (cs:=[zY a]) qi.funW (l7.snap rfl) (zi rfl (zi rfl (zi l7.inBox (v7.inB l7)))) (zi l7.inBox rfl) ⟨(),trivial⟩ fun _ _=>⟨rfl,trivial,?_⟩
   refine dEr ?_;repeat (refine fT (frX1 ((jY (P:=[_,_,_]) rfl).trans (v7.no (by decide)))) ?_; first|refine dEr ?_|exact dz)
   refine ⟨(),trivial,?_⟩;exact zx.ls ⟨rfl,rfl,rfl,rfl,rfl,rfl,rfl,trivial⟩ ⟨rfl,rfl,rfl,rfl,v7.mmS (l7.cons (by decide))⟩ (fun id h=>by cases h) (zi rfl (zi rfl (zi t7.inBox (zi rfl (v7.inB t7))))) rfl
  intro _ _;refine dEr ?_;repeat ((first|refine c0 (qv noO) rfl ?_|refine kBB ?_); first|refine dEr ?_|exact dz)
  refine oN qt rfl ?_;dsimp only [apX];refine Yz (Q7 fun p hp => .inr (YD hp)) (J4 ⟨rfl,rfl,rfl,rfl,v7.mmS t7⟩ ?_);refine dEr ?_;rw [t7.h1];refine dr ?_;repeat (refine oB (by simp) ?_; first|refine dr ?_|exact dz)
  rw [t7.h3];refine dr ?_;repeat (refine oB (by simp [qR,lmL]) ?_; first|refine dr ?_|exact dz)
  refine Zu t7.h4 ?_;rw [show (lmL a).map CV.row=a.layers.map zd by unfold lmL; rw [List.map_map]; rfl];refine dEr ?_;rw [t7.h2];refine dEr ?_;repeat ((first|refine oB (by simp) ?_|refine c0 (qv a) rfl ?_|refine kBB ?_); first|refine dEr ?_|exact dz)
  refine cutz (σ:=Unit) 3 (fun _=>[(1,.ptr 16 0),(2,B false),(4,.ptr 64 0),(5,B false),(7,.ptr 112 0),(8,B false),(9,I (mkK 1 a))])
   (fun _=>[(16,zD a),(64,zD noO),(112,zD noO)]) (fun _=>True) ?_ ?_
  ·refine dr ?_;refine oW' qm (fun id b hb=>JA (l:=M7) (v7.mmS t7) _ (yb hb)) (v7.inB v7.self) (zi v7.self.inBox rfl) ⟨(),trivial⟩ fun _ _=>⟨fun id h => .inl ?_,?_⟩
   ·rw [v7.e,YO (o':=mkO 1 a) ZO.symm]; exact h
   refine dEr ?_;refine ⟨(),trivial,?_⟩;have hmg:∀ {m:XM} {id:Nat},id % 16≠7→lkX (ju m (ovM 7 (mkO 1 a))) id=lkX m id:=fun h=>by rw [qC,YP h]
   exact zx.ls ⟨rfl,rfl,rfl,rfl,rfl,rfl,rfl,trivial⟩ ⟨(hmg (by decide)).trans rfl,(hmg (by decide)).trans rfl,(hmg (by decide)).trans rfl,trivial⟩ (fun id h=>by cases h) rfl rfl
  intro _ _;refine dEr ?_;repeat ((first|refine klf (by omega) ?_|refine c0 (qv noO) rfl ?_|refine kBB ?_); first|refine dEr ?_|exact dz)
  refine cutz (σ:=Unit) 3 (fun _=>[(1,.ptr 16 0),(2,B false),(4,.ptr 64 0),(5,B false),(7,.ptr 112 0),(8,B false),(10,I 1)])
   (fun _=>[(16,zD a),(64,zD noO),(112,zD noO)]) (fun _=>True) ?_ ?_
  ·refine dr ?_;refine oN (zk6 W0) rfl ?_;refine dEr ?_;refine ⟨(),trivial,?_⟩;exact zx.ls ⟨rfl,rfl,rfl,rfl,rfl,rfl,rfl,trivial⟩ ⟨rfl,rfl,rfl,trivial⟩ (fun id h=>by cases h) rfl rfl
  intro _ _;refine dEr ?_;repeat ((first|refine c0 (zcX W0) rfl ?_|refine klf (by omega) ?_|refine kNN ?_); first|refine dEr ?_|exact dz)
  refine cutz (σ:=Unit) 3 (fun _=>[(1,.ptr 16 0),(2,B false),(4,.ptr 64 0),(5,B false),(7,.ptr 112 0),(8,B false),(10,I 1),(12,.ptr 192 0),(13,B false)])
   (fun _=>[(16,zD a),(64,zD noO),(192,zD noO),(112,zD noO)]) (fun _=>True) ?_ ?_
  ·refine dEr ?_;repeat ((first|refine oN qt rfl ?_|refine oN qi rfl ?_); first|refine dEr ?_|exact dz)
   refine ⟨(),trivial,?_⟩;exact zx.ls ⟨rfl,rfl,rfl,rfl,rfl,rfl,rfl,rfl,rfl,trivial⟩ ⟨rfl,rfl,rfl,rfl,trivial⟩ (fun id h=>by cases h) rfl rfl
  intro _ _;refine dEr ?_;repeat ((first|refine c0 (qv noO) rfl ?_|refine kBB ?_|refine c0 (zcX W0) rfl ?_|refine klf (by omega) ?_|refine kNN ?_); first|refine dEr ?_|exact dz)
 | true =>
 obtain ⟨t,x,g⟩:=OG.of ho;have qx:=zku W0 hM a ho w b hw;have os:OS w:=by have:=@OS.flat a; rw [hw] at this; exact this
 obtain ⟨M9,v9⟩:=ovV 9 w (by omega);rw [← v9.e] at qx;refine cutz (σ:=Unit) 3 (fun _=>[(1,.ptr 16 0),(2,B false),(4,.ptr 64 0),(5,B b),(6,.ptr 96 0),(7,.ptr 112 0),(8,B b)])
  (fun _=>(16,zD a)::(64,zD w)::(96,boxO 7 a)::(112,boxO 9 w)::apX M7 M9) (fun _=>True) ?_ ?_
 ·have l7:LkO 7 a ((16,zD a)::(64,zD w)::(96,boxO 7 a)::M7):=((v7.self.cons (by decide)).cons (by decide)).cons (by decide);refine dr ?_;refine oF (cs:=[zY a]) qx (l7.snap rfl) (zi rfl (zi rfl (zi l7.inBox (v7.inB l7)))) (zi l7.inBox rfl) ⟨(),trivial⟩ fun _ _=>⟨rfl,?_,?_⟩
  ·have hn:∀ id,id % 16=9→lkX ((16,zD a)::(64,zD w)::(96,boxO 7 a)::M7) id=none:=fun id h=>by
    rw [zc (by omega),zc (by omega),zc (by omega),v7.no (by omega)]
   rw [v9.e];exact zbx (hn _ rfl) (hn _ rfl) (hn _ rfl) fun i=>hn _ (by omega)
  refine dEr ?_;repeat (refine fT (frX1 ((v9.skip (id:=112) (by decide)).trans ((jY (P:=[_,_,_]) rfl).trans (v7.no (by decide))))) ?_; first|refine dEr ?_|exact dz)
  refine ⟨(),trivial,?_⟩;have t7:LkO 7 a ((16,zD a)::(64,zD w)::(96,boxO 7 a)::(112,boxO 9 w)::apX M7 M9):=(((v7.ap.cons (by decide)).cons (by decide)).cons (by decide)).cons (by decide);have t9:LkO 9 w ((16,zD a)::(64,zD w)::(96,boxO 7 a)::(112,boxO 9 w)::apX M7 M9):=((((v7.ap2 v9.self (by decide)).cons (by decide)).cons (by decide)).cons (by decide)).cons (by decide);exact zx.ls ⟨rfl,rfl,rfl,rfl,rfl,rfl,rfl,trivial⟩ ⟨(zc (by decide)).trans ((v9.skip (id:=16) (by decide)).trans rfl),(zc (by decide)).trans ((v9.skip (id:=64) (by decide)).trans rfl),(zc (by decide)).trans ((v9.skip (id:=96) (by decide)).trans rfl),rfl,
    zbi (v7.mmS ((v9.ap2 l7 (by decide)).cons (by decide))) (v9.mmS (v9.ap.cons (by decide)))⟩ (fun id h=>by cases h)
   (zi rfl (zi rfl (zi t7.inBox (zi t9.inBox (zcb (v7.inB t7) (v9.inB t9)))))) rfl
 intro _ _;have eLw:(lmL w).map CV.row=w.layers.map zd:=by unfold lmL; rw [List.map_map]; rfl
 have t7:LkO 7 a ((16,zD a)::(64,zD w)::(96,boxO 7 a)::(112,boxO 9 w)::apX M7 M9):=(((v7.ap.cons (by decide)).cons (by decide)).cons (by decide)).cons (by decide);have t9:LkO 9 w ((16,zD a)::(64,zD w)::(96,boxO 7 a)::(112,boxO 9 w)::apX M7 M9):=((((v7.ap2 v9.self (by decide)).cons (by decide)).cons (by decide)).cons (by decide)).cons (by decide);refine dEr ?_;rw [t9.h1];refine dr ?_;repeat (refine oB (by simp) ?_; first|refine dr ?_|exact dz)
 rw [t9.h3];refine dr ?_;repeat (refine oB (by simp [qR,lmL]) ?_; first|refine dr ?_|exact dz)
 refine Zu t9.h4 ?_;rw [eLw];refine dEr ?_;rw [t9.h2];refine dEr ?_;repeat ((first|refine oB (by simp) ?_|refine c0 (qv w) rfl ?_|refine kBB ?_); first|refine dEr ?_|exact dz)
 refine oN qt rfl ?_;dsimp only [apX];refine Yz (Q7 fun p hp => .inr (YD hp)) (J4 ⟨rfl,rfl,rfl,rfl,zbi (v7.mmS t7) (v9.mmS t9)⟩ ?_);refine dEr ?_;rw [t7.h1];refine dr ?_;repeat (refine oB (by simp) ?_; first|refine dr ?_|exact dz)
 rw [t7.h3];refine dr ?_;repeat (refine oB (by simp [qR,lmL]) ?_; first|refine dr ?_|exact dz)
 refine Zu t7.h4 ?_;rw [show (lmL a).map CV.row=a.layers.map zd by unfold lmL; rw [List.map_map]; rfl];refine dEr ?_;rw [t7.h2];refine dEr ?_;repeat ((first|refine oB (by simp) ?_|refine c0 (qv a) rfl ?_|refine kBB ?_); first|refine dEr ?_|exact dz)
 refine cutz (σ:=Unit) 3 (fun _=>[(1,.ptr 16 0),(2,B false),(4,.ptr 64 0),(5,B b),(7,.ptr 112 0),(8,B b),(9,I (mkK 1 a))])
  (fun _=>(16,zD a)::(64,zD w)::(112,boxO 9 w)::M9) (fun _=>True) ?_ ?_
 ·refine dr ?_;refine oW' qm (fun id b hb=>JA (l:=M7) (v7.mmS t7) _ (yb hb)) (v7.inB v7.self) (zi v7.self.inBox rfl) ⟨(),trivial⟩ fun _ _=>⟨fun id h => .inl ?_,?_⟩
  ·rw [v7.e,YO (o':=mkO 1 a) ZO.symm]; exact h
  refine dEr ?_;refine ⟨(),trivial,?_⟩;have hmg:∀ {m:XM} {id:Nat},id % 16≠7→lkX (ju m (ovM 7 (mkO 1 a))) id=lkX m id:=fun h=>by rw [qC,YP h]
  exact zx.ls ⟨rfl,rfl,rfl,rfl,rfl,rfl,rfl,trivial⟩ ⟨(hmg (by decide)).trans rfl,(hmg (by decide)).trans rfl,(hmg (by decide)).trans rfl,v9.mmS (t9.of fun id h=>hmg (by omega))⟩ (fun id h=>by cases h)
   (zi rfl (zi rfl (zi (((v9.self.cons (by decide)).cons (by decide)).cons (by decide)).inBox (v9.inB (((v9.self.cons (by decide)).cons (by decide)).cons (by decide)))))) rfl
 intro _ _;refine dEr ?_;repeat (refine klf (by omega) ?_; first|refine dEr ?_|exact dz)
 have s9:LkO 9 w ((16,zD a)::(64,zD w)::(112,boxO 9 w)::M9):=((v9.self.cons (by decide)).cons (by decide)).cons (by decide);rw [s9.h1];refine dr ?_;repeat (refine oB (by simp) ?_; first|refine dr ?_|exact dz)
 rw [s9.h3];refine dr ?_;repeat (refine oB (by simp [qR,lmL]) ?_; first|refine dr ?_|exact dz)
 refine Zu s9.h4 ?_;rw [eLw];refine dEr ?_;rw [s9.h2];refine dEr ?_;repeat ((first|refine oB (by simp) ?_|refine c0 (qv w) rfl ?_|refine kBB ?_); first|refine dEr ?_|exact dz)
 have hkw:=zmr os;have hkw0:=@zeB 1 w;have qn:=zk3 W0 1 w ⟨by omega,hkw⟩ (by have:=os.b; omega) (by have:=os.n; omega) (fun l hl=>by have:=os.l l hl; omega) (by have:=os.u; omega);have qh:=zcW W0 1 w ⟨by omega,hkw⟩ (by have:=os.b; omega) (by have:=os.n; omega) (fun l hl=>by have:=os.l l hl; omega) (by have:=os.u; omega);obtain ⟨N9,u9⟩:=ovV 9 (mkO 1 w) (by omega);rw [← v9.e,← u9.e] at qn;refine cutz (σ:=Unit) 3 (fun _=>[(1,.ptr 16 0),(2,B false),(4,.ptr 64 0),(5,B b),(7,.ptr 112 0),(8,B b),(10,I (mkK 1 w))])
  (fun _=>(16,zD a)::(64,zD w)::(112,boxO 9 w)::N9) (fun _=>True) ?_ ?_
 ·refine dr ?_;refine oW' qn (fun id b hb=>JA (l:=M9) (v9.mmS s9) _ (yb hb)) (v9.inB v9.self) (zi v9.self.inBox rfl) ⟨(),trivial⟩ fun _ _=>⟨fun id h => .inl ?_,?_⟩
  ·rw [v9.e,YO (o':=mkO 1 w) ZO.symm,← u9.e]; exact h
  refine dEr ?_;refine ⟨(),trivial,?_⟩;have hmg:∀ {m:XM} {id:Nat},id % 16≠9→lkX (ju m N9) id=lkX m id:=fun h=>by rw [qC,u9.no h]
  exact zx.ls ⟨rfl,rfl,rfl,rfl,rfl,rfl,rfl,trivial⟩ ⟨(hmg (by decide)).trans rfl,(hmg (by decide)).trans rfl,(hmg (by decide)).trans rfl,u9.mmS u9.mrg⟩ (fun id h=>by cases h)
   (zi rfl (zi rfl (zi (((u9.self.cons (by decide)).cons (by decide)).cons (by decide)).inBox (u9.inB (((u9.self.cons (by decide)).cons (by decide)).cons (by decide)))))) rfl
 intro _ _;have r9:LkO 9 (mkO 1 w) ((16,zD a)::(64,zD w)::(112,boxO 9 w)::N9):=((u9.self.cons (by decide)).cons (by decide)).cons (by decide);have eLm:(lmL (mkO 1 w)).map CV.row=(mkO 1 w).layers.map zd:=by unfold lmL; rw [List.map_map]; rfl
 refine dEr ?_;dsimp only [apX];rw [r9.h1];refine dr ?_;repeat (refine oB (by simp [mkO,YI]) ?_; first|refine dr ?_|exact dz)
 rw [r9.h3];refine dr ?_;repeat (refine oB (by simp [qR,lmL,ZO]) ?_; first|refine dr ?_|exact dz)
 refine Zu r9.h4 ?_;rw [eLm];refine dEr ?_;dsimp only [apX];rw [r9.h2];refine dEr ?_;repeat ((first|refine oB (by simp [mkO,Qs]) ?_|refine c0 qh rfl ?_|refine klf (by omega) ?_|refine kNN ?_); first|refine dEr ?_|exact dz)
 refine cutz (σ:=Unit) 3 (fun _=>[(1,.ptr 16 0),(2,B false),(4,.ptr 64 0),(5,B b),(7,.ptr 112 0),(8,B b),(10,I (mkK 1 w)),(12,.ptr 192 0),(13,B b)])
  (fun _=>(16,zD a)::(64,zD w)::(192,zD w)::(112,boxO 9 w)::N9) (fun _=>True) ?_ ?_
 ·refine dEr ?_;repeat ((first|refine oN qt rfl ?_|refine oN qi rfl ?_|refine fT (frX1 ((jY (P:=[_,_,_]) rfl).trans (u9.no (id:=192) (by decide)))) ?_); first|refine dEr ?_|exact dz)
  refine ⟨(),trivial,?_⟩;exact zx.ls ⟨rfl,rfl,rfl,rfl,rfl,rfl,rfl,rfl,rfl,trivial⟩ ⟨rfl,rfl,rfl,rfl,u9.mmS (r9.cons (by decide))⟩ (fun id h=>by cases h)
   (zi rfl (zi rfl (zi rfl (zi ((((u9.self.cons (by decide)).cons (by decide)).cons (by decide)).cons (by decide)).inBox (u9.inB ((((u9.self.cons (by decide)).cons (by decide)).cons (by decide)).cons (by decide))))))) rfl
 intro _ _;have p9:LkO 9 (mkO 1 w) ((16,zD a)::(64,zD w)::(192,zD w)::(112,boxO 9 w)::N9):=(((u9.self.cons (by decide)).cons (by decide)).cons (by decide)).cons (by decide);refine dEr ?_;repeat ((first|refine c0 (qv w) rfl ?_|refine kBB ?_); first|refine dEr ?_|exact dz)
 dsimp only [apX];rw [p9.h1];refine dr ?_;repeat (refine oB (by simp [mkO,YI]) ?_; first|refine dr ?_|exact dz)
 rw [p9.h3];refine dr ?_;repeat (refine oB (by simp [qR,lmL,ZO]) ?_; first|refine dr ?_|exact dz)
 refine Zu p9.h4 ?_;rw [eLm];refine dEr ?_;dsimp only [apX];rw [p9.h2];refine dEr ?_;repeat ((first|refine oB (by simp [mkO,Qs]) ?_|refine c0 qh rfl ?_|refine klf (by omega) ?_|refine kNN ?_); first|refine dEr ?_|exact dz)
end Go.Proofs.YtmkmldepkponaaaGreatDoor
