/- The texts Sh1, Ib1, Sh2, Sh3, Ib2, Ib3, Ib4, Ib5, Ib6, Ic1, Id1, Id2, Sd1, Sd2, Sd3, Bm3, Sh4, Qb6, Id3, joined; no condition. -/
import Derived.Test.YtopfccpgdldcdaaGreatDoorWyD
import Derived.Shelf.SlSortCmp.WholeK
import Derived.Laws.Cover1
import Derived.Test.YtopfccpgdldcdaaGreatDoorProg
import Derived.Shelf.SlLaysE0
import Derived.Shelf.SlicesE.Kit
import Derived.Shelf.SlicesQ.Load
import Derived.Shelf.RegionOpenPlain
import Derived.WalkKit
import Derived.Deep.LoopGhost
import Derived.Deep.RegionLaw
import Derived.Lib.Walk
import Derived.Sort.WalkB12
import Derived.Lib.SliceRun
import Derived.Shelf.SlicesQ.IndexFunc
import Derived.Shelf.SlicesE.DeleteFunc

namespace Go.Proofs.YtopfccpgdldcdaaGreatDoor
set_option linter.unusedSimpArgs false
set_option linter.unusedVariables false
open Go Go.RowKit
theorem zfu {c:UInt8}:∀ {a:Str} (b:Str),c ∉ a→Lib.index (a++c::b) [c]=(a.length:Int)
 | [],b,_=>by simp [Lib.index]
 | x::a,b,h=>by
  simp only [List.mem_cons,not_or] at h;have ih:=zfu (a:=a) b h.2;rw [List.cons_append,Lib.index,ih];have e:[c].isPrefixOf (x::(a++c::b))=false:=by simp [List.isPrefixOf,h.1]
  rw [e];simp
theorem zhd {c:UInt8}:∀ (k:Nat) (s:Str),s.count c=k→Lib.splitK [c] 0 k s=cut c s
 | 0,s,h=>by rw [Lib.splitK,YW (List.count_eq_zero.1 h)]
 | k+1,s,h=>by
  have hm:c∈s:=List.count_pos_iff.1 (by omega);obtain ⟨a,b,e,ha⟩:=List.eq_append_cons_of_mem hm;subst e;have hb:b.count c=k:=by
   rw [List.count_append,List.count_eq_zero.2 ha,List.count_cons_self] at h; omega
  rw [Lib.splitK,zfu b ha,if_neg (by simp),YV b ha];have e1:((a.length:Int).toNat+0)=a.length:=by simp
  have e2:((a.length:Int).toNat+[c].length)=a.length+1:=by simp
  rw [e1,e2,List.take_left,List.drop_append,List.drop_of_length_le (by omega)];have e3:a.length+1 - a.length=1:=by omega
  rw [e3];simp only [List.drop_succ_cons,List.drop_zero,List.nil_append];rw [zhd k b hb]
theorem zdT (c:UInt8):∀ (s:Str),∀ n∈cut c s,n.length≤s.length
 | [],n,h=>by simp [cut] at h; simp [h]
 | b::t,n,h=>by
  have ih:=zdT c t;unfold cut at h;split at h
  ·rcases List.mem_cons.1 h with rfl | h
   ·simp
   ·have:=ih n h; simp; omega
  ·split at h
   ·simp at h; subst h; simp
   ·rename_i x r hc;rw [hc] at ih;rcases List.mem_cons.1 h with rfl | h
    ·have:=ih x (by simp); simp; omega
    ·have:=ih n (by simp [h]); simp; omega
def HM (W0:World):Prop:=∃ m,W0.cell? ⟨0,0,none⟩=some (.int .i64 m)
theorem zoN (W0:World) (hM:HM W0) (s:Str) (hs:s.length≤1000000):Fn Tryz.prog W0 128 [CS s,CS [47]] (.c (jo (cut 47 s))) []:=by
 intro κ w vs hB hm hr;obtain ⟨v1,v2,hvs⟩:∃ v1 v2,vs.toList=[v1,v2]:=by
  have:=zb.length hr
  match h:vs.toList with
  | [a,b]=>exact ⟨a,b,rfl⟩
  | [] | [_] | _::_::_::_=>rw [h] at this; simp at this
 rw [hvs] at hr;obtain ⟨r1,r2,_⟩:=hr;cases r1 with | sc _=>?_
 cases r2 with | sc _=>?_
 have hv:vs=#[.string ⟨⟨s⟩⟩,.string ⟨⟨[47]⟩⟩]:=by rw [← hvs]
 subst hv;obtain ⟨m,hc⟩:=hM;have hc':w.cell? ⟨0,0,none⟩=some (.int .i64 m):=by
  rw [Zs (hB.block 0 (yv hc))]; exact hc
 refine (Tryz.strings_Split ⟨⟨s⟩⟩ ⟨⟨[47]⟩⟩ m w (by show s.length < _; omega) hc' (by decide)).mono ?_;rintro e w' ⟨rfl,rfl⟩;have hcount:Lib.countB ⟨⟨s⟩⟩ ⟨⟨[47]⟩⟩=s.count 47:=Lib.count_one 47 s;have hsp:(Lib.splitB ⟨⟨[47]⟩⟩ 0 (Lib.countB ⟨⟨s⟩⟩ ⟨⟨[47]⟩⟩) ⟨⟨s⟩⟩).map (·.data.toList)=cut 47 s:=by
  rw [Lib.splitB_data,hcount]; exact zhd _ s rfl
 generalize hL:Lib.splitB ⟨⟨[47]⟩⟩ 0 (Lib.countB ⟨⟨s⟩⟩ ⟨⟨[47]⟩⟩) ⟨⟨s⟩⟩=L at hsp;have hlen:L.length=Lib.countB ⟨⟨s⟩⟩ ⟨⟨[47]⟩⟩+1:=by rw [← hL]; exact Lib.splitB_all _ (by decide) 0 _ _ rfl
 have hn:L.length=(cut 47 s).length:=by rw [← hsp,List.length_map]
 have hle:s.count 47≤s.length:=List.count_le_length;refine ⟨_,_,[],κ,rfl,⟨rfl,rfl⟩,hm.below (JT w _),?_⟩;rw [← hlen,hn];have hrow:(jo (cut 47 s)) = .row ((cut 47 s).map CS):=rfl;have hcells:((cut 47 s).map CS).flatMap CV.cells=(cut 47 s).map CS:=by
  generalize cut 47 s=l;induction l with
  | nil=>rfl
  | cons a l ih=>rw [List.map_cons,List.flatMap_cons,ih]; rfl
 have key:RepC (w.alloc (.cells (L.map Value.string).toArray 9)) (zi κ []) (.row ((cut 47 s).map CS)) (.slice (some ⟨w.heap.size,0,none⟩) ((cut 47 s).map CS).length (cut 47 s).length):=by
  refine .row (sz:=1) (vs:=L.map Value.string) (by simp; exact zbs 47 s) (by omega) (by simp) (by rw [← hn,hlen,hcount]; unfold maxLen; omega) ?_ ?_ ?_ ?_ ?_ ?_
  ·intro h;have:=hm.mem.live_lt h;omega
  ·intro x hx;obtain ⟨a,_,rfl⟩:=List.mem_map.1 hx;rfl
  ·rw [hcells]; simp [hn]
  ·intro i x v hx hv;rw [hcells,← hsp,List.map_map,List.getElem?_map] at hx;rw [List.getElem?_map] at hv;cases hi:L[i]? with
   | none=>rw [hi] at hx; cases hx
   | some y =>
    rw [hi] at hx hv;cases hx; cases hv;refine .sc ?_;have hmem:y.data.toList∈cut 47 s:=by rw [← hsp]; exact List.mem_map_of_mem (List.mem_of_getElem? hi)
    have:=zdT 47 s _ hmem;show y.size≤maxLen;have e:y.size=y.data.toList.length:=by cases y; rfl
    rw [e]; unfold maxLen; omega
  ·intro v hv;obtain ⟨a,_,rfl⟩:=List.mem_map.1 hv;rfl
  ·intro j v hj;rw [qA (Zh w rfl _)]
   simpa using hj
 rw [List.length_map] at key;exact key
theorem zr7 {w:World} {S:Nat→Prop} {l:List Str} {v:Value} (h:RepC w S (jo l) v):(l=[]∧∃ o cap,v = .slice o 0 cap) ∨
  ∃ b off cap,v = .slice (some ⟨b,off,none⟩) l.length cap∧l.length≤cap∧l≠[]∧∀ (j:Nat) (x:Str),l[j]? = some x→w.cell? ⟨b,off+j,none⟩=some (.string ⟨⟨x⟩⟩):=by
 unfold jo at h;generalize hL:l.map CS=L at h;cases h with
 | nil _=>left; refine ⟨?_,_,_,rfl⟩; simpa using hL
 | @row L b off cap sz vs hne _ hcap _ _ hsz hlen hr _ hc =>
  right;subst hL;have hcells:(l.map CS).flatMap CV.cells=l.map CS:=by
   generalize l=l;induction l with
   | nil=>rfl
   | cons a l ih=>rw [List.map_cons,List.flatMap_cons,ih]; rfl
  refine ⟨b,off,cap,by simp,by simpa using hcap,by simpa using hne,fun j x hx=>?_⟩;rw [hcells] at hlen hr;have hx':(l.map CS)[j]? = some (CS x):=by rw [List.getElem?_map,hx]; rfl
  have hj:j < vs.length:=by
   rw [← hlen,List.length_map];exact (List.getElem?_eq_some_iff.1 hx).1
  have hv:=hr j _ vs[j] hx' (List.getElem?_eq_getElem hj);have:vs[j] = .string ⟨⟨x⟩⟩:=by
   generalize vs[j]=v at hv;cases hv; rfl
  rw [hc j _ (List.getElem?_eq_getElem hj),this]
def Jz (l:List Str):Str:=Lib.join l [47]
theorem zfy:∀ {l:List Str},l≠[]→jn l=47::Jz l
 | [],h=>absurd rfl h
 | x::r,_=>by
  unfold Jz;rw [Lib.join_cons];have:Lib.joinTail [47] r=jn r:=by
   unfold Lib.joinTail jn;rw [List.flatMap_def]; rfl
  rw [this]; rfl
theorem zfz {l:List Str}:(Jz l).length≤(jn l).length:=by
 cases l with
 | nil=>simp [Jz,Lib.join_nil]
 | cons x r=>rw [zfy (by simp)]; simp
theorem zoK (W0:World) (l:List Str) (hl:(jn l).length≤1000000):Fn Tryz.prog W0 196 [jo l,CS [47]] (.c (CS (Jz l))) []:=by
 intro κ w vs hB hm hr;obtain ⟨v1,v2,hvs⟩:∃ v1 v2,vs.toList=[v1,v2]:=by
  have:=zb.length hr
  match h:vs.toList with
  | [a,b]=>exact ⟨a,b,rfl⟩
  | [] | [_] | _::_::_::_=>rw [h] at this; simp at this
 rw [hvs] at hr;obtain ⟨r1,r2,_⟩:=hr;cases r2 with | sc _=>?_
 have hll:l.length≤(jn l).length:=by
  clear r1 hl hvs;induction l with
  | nil=>simp
  | cons a l ih=>simp [jn] at ih ⊢; omega
 have fin:∀ r:Str,r.length≤1000000→Rep κ [] w (.c (CS r)) (.string ⟨⟨r⟩⟩):=fun r h=>RepC.sc (by show ByteArray.size _≤maxLen; unfold maxLen; show r.length≤_; omega)
 rcases zr7 r1 with ⟨rfl,o,cap,rfl⟩ | ⟨b,off,cap,rfl,hcap,hne,hcells⟩
 ·have hv:vs=#[.slice o 0 cap,.string ⟨⟨[47]⟩⟩]:=by rw [← hvs]
  subst hv;refine (Tryz.strings_Join_none o cap ⟨⟨[47]⟩⟩ w).mono ?_;rintro e w' ⟨rfl,rfl⟩;exact ⟨_,_,[],κ,rfl,⟨rfl,rfl⟩,hm,fin [] (by simp)⟩
 ·have hv:vs=#[.slice (some ⟨b,off,none⟩) l.length cap,.string ⟨⟨[47]⟩⟩]:=by rw [← hvs]
  subst hv;have hbk:b < w.heap.size:=by
   cases l with
   | nil=>exact absurd rfl hne
   | cons x r=>exact yv (hcells 0 x rfl)
  have hmap:(l.map fun x=>(⟨⟨x⟩⟩:ByteArray)).map (·.data.toList)=l:=by rw [List.map_map]; exact List.map_id l
  have hj:(Lib.join ((l.map fun x=>(⟨⟨x⟩⟩:ByteArray)).map (·.data.toList)) (⟨⟨[47]⟩⟩:ByteArray).data.toList)=Jz l:=by rw [hmap]; rfl
  have hjl:=zfz (l:=l);have h:=Tryz.strings_Join b off cap (l.map fun x=>⟨⟨x⟩⟩) ⟨⟨[47]⟩⟩ w (fun j x hx=>by
   rw [List.getElem?_map] at hx;cases hi:l[j]? with
   | none=>rw [hi] at hx; cases hx
   | some y=>rw [hi] at hx; cases hx; exact hcells j y hi) hbk (by simp; omega) (by simpa using hcap) (by rw [hj]; omega)
  rw [hj,List.length_map] at h;refine h.mono ?_;rintro e w' ⟨rfl,hw⟩;exact ⟨_,_,[],κ,rfl,⟨rfl,rfl⟩,hm.below hw,RepC.sc (by show ByteArray.size _≤maxLen; unfold maxLen; show (Jz l).length≤_; omega)⟩

def zjR:XC:=(.s (.r [.m1 2 .n]) (.s (.s (.r [.mv 4 0,.ex 5 (.len true 4),.b1 6 .lss 5 (.i 1),.mv 7 6,.h3 8 0 7,.gf 9 (.len true 8) 7,.gf 10 (.bin .gtr 9 (.i 3)) 7,.p1 11 7 10]) (.cnd 11 (.rf 2) .skip)) (.s (.s (.r [.m1 3 (.i 0)]) (.blk 0 (.loop (.s (.s (.r [.mv 12 3,.mv 13 0,.ex 14 (.len true 13),.b1 15 .lss 12 14]) (.ce 15 0)) (.s (.blk 1 (.s (.r [.mv 18 0,.mv 19 3,.ex 20 (.idx 18 19),.b1 21 .lss 20 (.u 97),.mv 22 21,.h3 23 0 22,.h3 24 3 22,.gf 25 (.idx 23 24) 22,.gf 26 (.bin .gtr 25 (.u 122)) 22,.p1 27 22 26]) (.cnd 27 (.rf 2) .skip))) (.ic 16 17 3)))))) (.rt 2))))
theorem zjS:zc Tryz.prog [] 129=some (zjR.ac,[(.t 2)],28):=by kernel_rfl
theorem zpZ (W0:World) (s:Str):Fn Tryz.prog W0 129 [CS s] (.c (CB (jS s))) []:=by
 refine fX mixed zjS fun hg=>?_
 refine dr ?_;apply cP<;>intro h1
 ·refine dr ?_;exact bF (by rw [jS]; simp; omega)
 refine dr ?_;apply cP<;>intro h2
 ·refine dr ?_;exact bF (by rw [jS]; simp; omega)
 refine dr ?_;refine lp (σ:=Nat) (fun k=>[(0,.c (CS s)),(3,I k)]) (fun _=>[]) (fun k=>k≤s.length∧(s.take k).all jZ=true) (fun k=>s.length - k) 0 ⟨by simp,by simp⟩ ?_ ?_
 ·refine dr ?_;trivial
 rintro k ⟨hk,ha⟩;refine dr ?_;apply cP<;>intro h3
 ·have hk':k < s.length:=by omega
  have no:jZ s[k]=false→CB false=CB (jS s):=fun h=>bF (by rw [jS,Jj hk' h]; rfl)
  refine dr ?_;apply cP<;>intro h4
  ·refine dr ?_;exact no (by simp [jZ]; omega)
  ·refine dr ?_;apply cP<;>intro h5
   ·refine dr ?_;exact no (by simp [jZ]; omega)
   ·refine dr ?_;refine ⟨k+1,⟨by omega,yh hk' ha (by simp [jZ]; omega)⟩,by omega,?_⟩;refine dr ?_;trivial
 ·have:k=s.length:=by omega
  subst this;rw [List.take_length] at ha;refine dr ?_;exact bT (by rw [jS,ha]; simp; omega)
def JX (s:Str):CV:=if pOk s=true then .tup [jo (names s),CB true] else .tup [jo [],CB false]
def zj1:XC:=(.s (.r [.a2 2 1 9,.m1 3 .n]) (.s (.s (.r [.mv 7 0,.ex 8 (.bin .eql 7 (.s [])),.mv 9 8,.h3 10 0 9,.gf 11 (.idx 10 (.i 0)) 9,.gf 12 (.bin .neq 11 (.u 47)) 9,.p1 13 9 12,.mv 14 13,.h3 15 0 14,.gf 16 (.len true 15) 14,.gf 17 (.bin .gtr 16 (.i 12)) 14,.p1 18 14 17]) (.cnd 18 (.s (.r [.a2 2 1 9,.m1 3 .n]) .ret) .skip)) (.s (.r [.mv 19 0,.ex 20 (.sls 19 (.some (.i 1)) .none),.ex 21 (.call 128 [20,(.s [47])]),.a1 4 21 1 9]) (.s (.s (.r [.mv 22 4,.n1 23 22,.b1 24 .gtr 23 (.i 3)]) (.cnd 24 (.s (.r [.a2 2 1 9,.m1 3 .n]) .ret) .skip)) (.s (.s (.r [.mv 25 4,.n1 26 25,.m1 27 (.i 0)]) (.blk 0 (.loop (.s (.r [.b1 28 .lss 27 26]) (.s (.ce 28 0) (.s (.blk 1 (.s (.r [.i1 29 1 25 27,.l1 30 1 29,.mv 6 30]) (.s (.r [.mv 31 6,.c1 32 129 [31],.u1 33 32]) (.cnd 33 (.s (.r [.a2 2 1 9,.m1 3 .n]) .ret) .skip)))) (.r [.b1 34 .add 27 (.i 1),.mv 27 34]))))))) (.s (.r [.mv 35 4,.a1 2 35 1 9,.m1 3 .y]) .ret))))))
theorem zj2:zc Tryz.prog [] 71=some (zj1.ac,[(.t 2),(.t 3)],36):=by kernel_rfl
theorem zey (W0:World) (hM:HM W0) (s:Str):Fn Tryz.prog W0 71 [CS s] (.c (JX s)) []:=by
 refine fX mixed zj2 fun hg=>?_
 have no:pOk s=false→CV.tup [jo [],CB false]=JX s:=fun h=>by rw [JX,if_neg (by simp [h])]
 refine dr ?_;apply cP<;>intro h1
 ·refine dr ?_;exact no (by rw [h1]; rfl)
 cases hs:s with
 | nil=>exact absurd hs h1
 | cons b t =>
  rw [← hs];have hl:1≤s.length:=by rw [hs]; simp
  refine dr ?_;apply cP<;>intro h2
  ·refine dr ?_;have:s.head? ≠ some 47:=by
    rw [hs];intro e;have:b=47:=by simpa using e
    subst hs; subst this;exact h2 rfl
   exact no (by
    cases hp:pOk s with
    | false=>rfl
    | true=>exact absurd (qP hp).2.2 this)
  have hb:b=47:=by
   have:(s[0]).toNat=47:=by omega
   subst hs;exact UInt8.toNat_inj.1 this
  refine dr ?_;apply cP<;>intro h3
  ·refine dr ?_;exact no (by
    cases hp:pOk s with
    | false=>rfl
    | true=>have:=(qP hp).2.1; omega)
  refine dr ?_;repeat ((first|refine sLo 1 rfl (by omega) ?_|refine c0 (zoN W0 hM _ (by simp; omega)) rfl ?_); first|refine dr ?_|exact dz)
  intro hg1;have hd:s.drop 1=t:=by rw [hs]; rfl
  rw [hd] at hg1 ⊢;have hp:pOk s=((cut 47 t).all jS&&((cut 47 t).length≤3)):=by
   have hne:=zbs 47 t;have h1c:1≤(cut 47 t).length:=by
    cases hc:cut 47 t with
    | nil=>exact absurd hc hne
    | cons _ _=>simp
   rw [pOk];by_cases h2:s.length < 2
   ·have ht:t=[]:=by
     rw [hs] at h2;cases t with
     | nil=>rfl
     | cons _ _=>simp at h2; omega
    have:names s=[]:=by rw [names,if_pos (.inl h2)]
    rw [this,ht]; simp [cut,jS]
   ·have:names s=cut 47 t:=by
     rw [names,if_neg (by rw [hs] at h2 ⊢; simp at h2 ⊢; exact ⟨h2,hb⟩),hs]; rfl
    rw [this,Bool.eq_iff_iff]; simp [h1c,show s.length≤12 by omega]
  have hn:pOk s=true→names s=cut 47 t:=fun h=>by
   have h2:=(qP h);rw [names,if_neg (by simp [h2.2.2]; omega),hs]; rfl
  generalize cut 47 t=l at *;refine dr ?_;apply cP<;>intro h4
  ·refine dr ?_;exact no (by rw [hp]; simp; omega)
  refine dr ?_;refine lp (σ:=Nat) (fun k=>[(4,.c (jo l)),(25,.c (jo l)),(26,I l.length),(27,I k)]) (fun _=>[]) (fun k=>k≤l.length∧(l.take k).all jS=true) (fun k=>l.length - k) 0 ⟨by simp,by simp⟩ ?_ ?_
  ·refine dr ?_;trivial
  rintro k ⟨hk,ha⟩;refine dr ?_;apply cP<;>intro h5
  ·have hk':k < l.length:=by omega
   refine dEr ?_;repeat (refine c0 (zpZ W0 _) rfl ?_; first|refine dEr ?_|exact dz)
   apply cP<;>intro h6
   ·refine dr ?_;exact no (by rw [hp,Jj hk' h6]; rfl)
   ·refine dr ?_;refine ⟨k+1,⟨by omega,yh hk' ha h6⟩,by omega,?_⟩;refine dr ?_;trivial
  ·have:k=l.length:=by omega
   subst this;rw [List.take_length] at ha;have hy:pOk s=true:=by rw [hp,ha]; simp; omega
   refine dr ?_;rw [JX,if_pos hy,hn hy]
def ziP:XC:=(.s (.r [.m1 2 .n]) (.s (.r [.mv 6 0,.c1 7 71 [6],.mv 5 7,.e1 8 5 0,.e1 9 5 1,.a1 3 8 1 9,.mv 4 9]) (.s (.r [.mv 10 4,.mv 2 10]) .ret)))
theorem ziQ:zc Tryz.prog [] 25=some (ziP.ac,[(.t 2)],11):=by kernel_rfl
theorem qN (W0:World) (hM:HM W0) (s:Str):Fn Tryz.prog W0 25 [CS s] (.c (CB (pOk s))) []:=by
 refine fX mixed ziQ fun hg=>?_
 have hc:=zey W0 hM s;unfold JX at hc;cases hp:pOk s with
 | true =>
  rw [if_pos hp] at hc;refine dr ?_;repeat (refine c0 hc rfl ?_; first|refine dr ?_|exact dz)
  intro hg1;exact dz
 | false =>
  rw [if_neg (by simp [hp])] at hc;refine dr ?_;repeat (refine c0 hc rfl ?_; first|refine dr ?_|exact dz)
  intro hg1;exact dz
def ziT:XC:=(.s (.r [.ex 2 (.mv (.s []))]) (.s (.r [.mv 6 0,.c1 7 71 [6],.mv 5 7,.e1 8 5 0,.e1 9 5 1,.a1 3 8 1 9,.mv 4 9]) (.s (.s (.r [.mv 10 4,.u1 11 10]) (.cnd 11 (.s (.r [.ex 2 (.mv (.s []))]) .ret) .skip)) (.s (.r [.mv 12 3,.mv 13 3,.n1 14 13,.b1 15 .sub 14 (.i 1),.ex 16 (.slr 1 12 .none (.some 15)),.ex 17 (.call 196 [16,(.s [47])]),.ex 18 (.bin .add (.s [47]) 17),.mv 2 18]) .ret))))
theorem ziU:zc Tryz.prog [] 166=some (ziT.ac,[(.t 2)],19):=by kernel_rfl
theorem J2 (W0:World) (hM:HM W0) (s:Str):Fn Tryz.prog W0 166 [CS s] (.c (CS (pUp s))) []:=by
 refine fX mixed ziU fun hg=>?_
 have hc:=zey W0 hM s;unfold JX at hc;cases hp:pOk s with
 | true =>
  rw [if_pos hp] at hc;obtain ⟨⟨h1,h2⟩,h3,h4⟩:=ye hp;have h12:=(qP hp).2.1;have hj:(jn ((names s).take ((names s).length - 1))).length≤12:=by
   have:jn (names s)=jn ((names s).take ((names s).length - 1))++jn ((names s).drop ((names s).length - 1)):=by rw [← zfv,List.take_append_drop]
   have e:=congrArg List.length this;rw [← h4,List.length_append] at e;omega
  have hjl:=zfz (l:=(names s).take ((names s).length - 1));refine dr ?_;repeat (refine c0 hc rfl ?_; first|refine dr ?_|exact dz)
  intro hg1;refine dr ?_;repeat ((first|refine sHiM ((names s).length - 1) (by omega) (by omega) ?_|refine c0 (zoK W0 ((names s).take ((names s).length - 1)) (by omega)) rfl ?_|refine oB (by simp; omega) ?_); first|refine dr ?_|exact dz)
  intro hg2;refine dr ?_;rw [pUp,if_pos hp];have hdl:(names s).take ((names s).length - 1)=(names s).dropLast:=by rw [List.dropLast_eq_take]
  rw [hdl];by_cases hn:(names s).length=1
  ·have:(names s).dropLast=[]:=by
    rw [← List.length_eq_zero_iff,List.length_dropLast]; omega
   rw [if_pos hn,this]; rfl
  ·have:(names s).dropLast≠[]:=by
    intro e; have:=congrArg List.length e; rw [List.length_dropLast] at this; simp at this; omega
   rw [if_neg hn,zfy this]; rfl
 | false =>
  rw [if_neg (by simp [hp])] at hc;refine dr ?_;repeat (refine c0 hc rfl ?_; first|refine dr ?_|exact dz)
  intro hg1;refine dr ?_;rw [pUp,if_neg (by simp [hp])]
def zkj:XC:=(.s (.r [.m1 4 .n]) (.s (.r [.mv 5 0,.ex 6 (.len true 5),.mv 7 1,.ex 8 (.len true 7),.b1 9 .geq 6 8,.mv 10 9,.g3 11 0 10,.g3 12 1 10,.gt 13 (.len true 12) 10,.gt 14 (.sls 11 .none (.some 13)) 10,.g3 15 1 10,.gt 16 (.bin .eql 14 15) 10,.p2 17 10 16,.mv 4 17]) .ret))
theorem zkk:zc Tryz.prog [] 199=some (zkj.ac,[(.t 4)],18):=by kernel_rfl
theorem zp7 (W0:World) (s p:Str):Fn Tryz.prog W0 199 [CS s,CS p] (.c (CB (p.isPrefixOf s))) []:=by
 refine fX mixed zkk fun hg=>?_
 refine dr ?_;apply cP<;>intro h1
 ·refine dr ?_;repeat (refine sHi p.length rfl (by omega) ?_; first|refine dr ?_|exact dz)
  refine congrArg CB ?_;rw [Bool.eq_iff_iff,List.isPrefixOf_iff_prefix,List.prefix_iff_eq_take];simp [qw];exact eq_comm
 ·refine dr ?_;refine bF ?_;rw [Bool.eq_false_iff]; intro h;have:=(List.isPrefixOf_iff_prefix.1 h).length_le;omega
def znB:XC:=(.s (.r [.m1 4 .n]) (.s (.r [.mv 5 0,.mv 6 1,.c1 7 199 [5,6],.mv 4 7]) .ret))
theorem znC:zc Tryz.prog [] 168=some (znB.ac,[(.t 4)],8):=by kernel_rfl
theorem zoG (W0:World) (s p:Str):Fn Tryz.prog W0 168 [CS s,CS p] (.c (CB (p.isPrefixOf s))) []:=by
 refine fX mixed znC fun hg=>?_
 refine dEr ?_;repeat (refine c0 (zp7 W0 _ _) rfl ?_; first|refine dEr ?_|exact dz)
def ziR:XC:=(.s (.r [.m1 4 .n]) (.s (.s (.r [.mv 5 0,.c1 6 25 [5],.u1 7 6]) (.cnd 7 (.rf 4) .skip)) (.s (.s (.r [.mv 8 1,.ex 9 (.bin .eql 8 (.s [47]))]) (.cnd 9 (.rt 4) .skip)) (.s (.r [.mv 10 1,.c1 11 25 [10],.mv 12 11,.g3 13 0 12,.g3 14 1 12,.gt 15 (.bin .add 14 (.s [47])) 12,.gt 16 (.call 168 [13,15]) 12,.p2 17 12 16,.mv 4 17]) .ret))))
theorem ziS:zc Tryz.prog [] 124=some (ziR.ac,[(.t 4)],18):=by kernel_rfl
def und2 (s d:Str):Bool:=pOk s&&(d==[47]||(pOk d&&(d++[47]).isPrefixOf s))
theorem Jf {s d:Str} (hs:pOk s=true) (hd:pOk d=true):und2 s d=und s d:=by
 unfold und2 und; rw [hs,hd]; simp
theorem Q2 (W0:World) (hM:HM W0) (s d:Str):Fn Tryz.prog W0 124 [CS s,CS d] (.c (CB (und2 s d))) []:=by
 refine fX mixed ziS fun hg=>?_
 refine dEr ?_;repeat (refine c0 (qN W0 hM s) rfl ?_; first|refine dEr ?_|exact dz)
 apply cP<;>intro h1
 ·refine dr ?_;exact bF (by simp [und2,h1])
 refine dr ?_;apply cP<;>intro h2
 ·refine dr ?_;exact bT (by simp [und2,h1,h2])
 refine dEr ?_;repeat (refine c0 (qN W0 hM d) rfl ?_; first|refine dEr ?_|exact dz)
 apply cP<;>intro h3
 ·have hl:=(qP h3).2.1;refine dEr ?_;repeat ((first|refine c0 (zoG W0 _ _) rfl ?_|refine oB (by simp; omega) ?_); first|refine dEr ?_|exact dz)
  refine congrArg CB ?_;rw [Bool.eq_iff_iff]; simp [und2,h1,h2,h3]
 ·refine dr ?_;exact bF (by simp [und2,h2,h3])
def zjp:XC:=(.s (.r [.m1 2 .n]) (.s (.s (.r [.mv 6 0,.ex 7 (.len true 6),.b1 8 .gtr 7 (.i 6)]) (.cnd 8 (.rf 2) .skip)) (.s (.s (.r [.m1 3 (.i 0)]) (.blk 0 (.loop (.s (.s (.r [.mv 9 3,.mv 10 0,.ex 11 (.len true 10),.b1 12 .lss 9 11]) (.ce 12 0)) (.s (.blk 1 (.s (.r [.mv 15 0,.mv 16 3,.ex 17 (.idx 15 16),.b1 18 .geq 17 (.u 97),.mv 19 18,.g3 20 0 19,.g3 21 3 19,.gt 22 (.idx 20 21) 19,.gt 23 (.bin .leq 22 (.u 122)) 19,.p2 24 19 23,.mv 4 24]) (.s (.r [.mv 25 0,.mv 26 3,.ex 27 (.idx 25 26),.b1 28 .geq 27 (.u 48),.mv 29 28,.g3 30 0 29,.g3 31 3 29,.gt 32 (.idx 30 31) 29,.gt 33 (.bin .leq 32 (.u 57)) 29,.p2 34 29 33,.mv 5 34]) (.s (.r [.mv 35 4,.u1 36 35,.mv 37 36,.g3 38 5 37,.gt 39 (.un .not 38) 37,.p2 40 37 39]) (.cnd 40 (.rf 2) .skip))))) (.ic 13 14 3)))))) (.rt 2))))
theorem zjq:zc Tryz.prog [] 116=some (zjp.ac,[(.t 2)],41):=by kernel_rfl
theorem zbI (W0:World) (s:Str):Fn Tryz.prog W0 116 [CS s] (.c (CB (qv s))) []:=by
 refine fX mixed zjq fun hg=>?_
 refine dr ?_;apply cP<;>intro h1
 ·refine dr ?_;exact bF (by rw [qv]; simp; omega)
 refine dr ?_;refine lp (σ:=Nat) (fun k=>[(0,.c (CS s)),(3,I k)]) (fun _=>[]) (fun k=>k≤s.length∧(s.take k).all qj=true) (fun k=>s.length - k) 0 ⟨by simp,by simp⟩ ?_ ?_
 ·refine dr ?_;trivial
 rintro k ⟨hk,ha⟩;refine dr ?_;apply cP<;>intro h2
 ·have hk':k < s.length:=by omega
  have no:qj s[k]=false→CB false=CB (qv s):=fun h=>bF (by rw [qv,Jj hk' h]; rfl)
  have nx:qj s[k]=true→∃ x',(x'≤s.length∧(s.take x').all qj=true)∧x'=k+1:=fun h=>⟨k+1,⟨by omega,yh hk' ha h⟩,rfl⟩
  refine dr ?_;apply cP<;>intro h3
  ·refine dr ?_;apply cP<;>intro h4
   ·refine dr ?_;apply cP<;>intro h5
    ·refine dr ?_;apply cP<;>intro h6
     ·refine dr ?_;exact no (by simp [qj,jZ]; omega)
     ·omega
    ·refine dr ?_;refine ⟨k+1,⟨by omega,yh hk' ha (by simp [qj,jZ]; omega)⟩,by omega,?_⟩;refine dr ?_;trivial
   ·omega
  ·refine dr ?_;apply cP<;>intro h4
   ·refine dr ?_;apply cP<;>intro h6
    ·refine dr ?_;exact no (by simp [qj,jZ]; omega)
    ·refine dr ?_;refine ⟨k+1,⟨by omega,yh hk' ha (by simp [qj,jZ]; omega)⟩,by omega,?_⟩;refine dr ?_;trivial
   ·refine dr ?_;exact no (by simp [qj,jZ]; omega)
 ·have:k=s.length:=by omega
  subst this;rw [List.take_length] at ha;refine dr ?_;exact bT (by rw [qv,ha]; simp; omega)

theorem cmpNaN (x:ByteArray) (W:World):Calls Tryz.prog 171 #[.string x] W fun e w'=>e = .returned (.bool false)∧w'=W:=by
 go_enter Tryz.func171,Tryz.ntmps171;go_wp2;go_ret;exact ⟨rfl,rfl⟩
def cmpS (a b:Str):Int:=if ltS a b=true then -1 else if ltS b a=true then 1 else 0
theorem zdR (x y:Str) (W:World):Calls Tryz.prog 127 #[.string ⟨⟨x⟩⟩,.string ⟨⟨y⟩⟩] W fun e w'=>e = .returned (.int .i64 (cmpS x y))∧w'=W:=by
 go_enter Tryz.func127,Tryz.ntmps127;go_wp2_with (go_at_call 171; refine (cmpNaN _ _).mono ?_; rintro e w' ⟨rfl,rfl⟩)
 ·have h:Op.bytesLess x y=true:=by assumption
  go_ret;refine ⟨?_,rfl⟩;rw [cmpS,Z0,if_pos h]; rfl
 ·have h:Op.bytesLess x y=false:=by assumption
  have h2:(!x==y)=true:=by assumption
  go_ret;refine ⟨?_,rfl⟩;have h3:ltS y x=true:=by
   rcases zaJ x y with e | e | e
   ·subst e; simp at h2
   ·rw [Z0,h] at e; cases e
   ·exact e
  rw [cmpS,Z0,if_neg (by simp [h]),if_pos h3]; rfl
 ·have h:Op.bytesLess x y=false:=by assumption
  have h2:(!x==y)=false:=by assumption
  go_ret;refine ⟨?_,rfl⟩;have e:x=y:=by simpa using h2
  subst e;rw [cmpS,yC]; rfl
theorem zbp (a b:Str):decide (cmpS a b < 0)=ltS a b:=by
 unfold cmpS;cases h:ltS a b with
 | true=>simp
 | false =>
  cases h2:ltS b a with
  | true=>simp
  | false=>simp
def vEnt (x:Ent):List Value:=[.string ⟨⟨x.path⟩⟩,(.bool x.dir),.string ⟨⟨x.data⟩⟩]
theorem zn9 (x y:Ent) (W:World):Calls Tryz.prog 126 #[.agg #[.string ⟨⟨x.path⟩⟩,(.bool x.dir),.string ⟨⟨x.data⟩⟩],.agg #[.string ⟨⟨y.path⟩⟩,(.bool y.dir),.string ⟨⟨y.data⟩⟩]] W fun e w'=>e = .returned (.int .i64 (cmpS x.path y.path))∧∃ q os',w'=Sort.grow (W.drewN q) os':=by
 have hcon:=fun W'=>zdR x.path y.path W'
 generalize cmpS x.path y.path=r at hcon ⊢;go_enter Tryz.func126,Tryz.ntmps126;go_wp2_with (go_at_call 127; refine (hcon _).mono ?_; rintro e w' ⟨rfl,rfl⟩);go_ret;exact ⟨rfl,0,_,by rw [Sort.alloc_eq_grow,Sort.alloc_eq_grow,Sort.grow_grow]; rfl⟩
def vMark (x:Mark):List Value:=[.string ⟨⟨x.path⟩⟩,(.int .i64 x.kind),.string ⟨⟨x.data⟩⟩]
theorem zoa (x y:Mark) (W:World):Calls Tryz.prog 198 #[.agg #[.string ⟨⟨x.path⟩⟩,(.int .i64 x.kind),.string ⟨⟨x.data⟩⟩],.agg #[.string ⟨⟨y.path⟩⟩,(.int .i64 y.kind),.string ⟨⟨y.data⟩⟩]] W fun e w'=>e = .returned (.int .i64 (cmpS x.path y.path))∧∃ q os',w'=Sort.grow (W.drewN q) os':=by
 have hcon:=fun W'=>zdR x.path y.path W'
 generalize cmpS x.path y.path=r at hcon ⊢;go_enter Tryz.func198,Tryz.ntmps198;go_wp2_with (go_at_call 127; refine (hcon _).mono ?_; rintro e w' ⟨rfl,rfl⟩);go_ret;exact ⟨rfl,0,_,by rw [Sort.alloc_eq_grow,Sort.alloc_eq_grow,Sort.grow_grow]; rfl⟩

theorem zal {α:Type} [Inhabited α] {enc:α→List Value} {k:Nat} (hk:∀ x,(enc x).length=k):∀ (l:List α) (t:Nat),t < l.length * k→(l.flatMap enc)[t]! = (enc l[t / k]!)[t % k]!
 | [],t,h=>by simp at h
 | a::r,t,h=>by
  have k0:0 < k:=by
   rcases Nat.eq_zero_or_pos k with h0 | h0
   ·subst h0; simp at h
   ·exact h0
  rw [List.flatMap_cons];by_cases ht:t < k
  ·rw [Nat.div_eq_of_lt ht,Nat.mod_eq_of_lt ht];have e:(enc a++r.flatMap enc)[t]? = (enc a)[t]? := List.getElem?_append_left (by rw [hk]; exact ht);simp only [List.getElem!_eq_getElem?_getD,e];simp
  ·have h2:t - k < r.length * k:=by rw [List.length_cons,Nat.add_mul,Nat.one_mul] at h; omega
   have ih:=zal hk r (t - k) h2;have e:(enc a++r.flatMap enc)[t]? = (r.flatMap enc)[t - k]? := by rw [List.getElem?_append_right (by rw [hk]; omega),hk]
   have e1:t / k=(t - k) / k+1:=by
    conv=>lhs; rw [show t=t - k+k by omega]
    exact Nat.add_div_right _ k0
   have e2:t % k=(t - k) % k:=by
    conv=>lhs; rw [show t=t - k+k by omega]
    exact Nat.add_mod_right _ _
   rw [e1,e2];simp only [List.getElem!_eq_getElem?_getD] at ih ⊢;rw [e,ih]; simp
theorem qf {α:Type} {enc:α→List Value} {k:Nat} (hk:∀ x,(enc x).length=k):∀ (l:List α),(l.flatMap enc).length=l.length * k
 | []=>by simp
 | a::r=>by rw [List.flatMap_cons,List.length_append,qf hk r,hk,List.length_cons,Nat.add_mul]; omega
theorem zeR {α:Type} [Inhabited α] {enc:α→List Value} {k:Nat} (hk:∀ x,(enc x).length=k) (l:List α):Sort.flatK enc k l.toArray=(l.flatMap enc).toArray:=by
 refine Sort.ext_get! (by simp [qf hk]) fun t ht=>?_
 have ht':t < l.length * k:=by simpa using ht
 rw [Sort.get_flatK _ _ _ _ (by simpa using ht')];have:=zal hk l t ht';simp only [List.getElem!_eq_getElem?_getD] at this;simp [this]
theorem zrU {w:World} {b:Nat} {F F' rest:List Value} {e:TypeId} {n:Nat} {os:Array Obj} (hb:w.heap[b]? = some (.cells (F++rest).toArray e (0,0))) (hl:F'.length=F.length) :
  (Sort.grow (Sort.putRow id (Sort.ahead w n) b 0 F'.toArray) os).heap[b]? = some (.cells (F'++rest).toArray e (0,0)):=by
 have hlt:b < w.heap.size:=(Array.getElem?_eq_some_iff.1 hb).1;unfold Sort.grow;simp only;rw [Array.getElem?_append_left (by simpa using hlt)];unfold Sort.putRow Sort.mapBlock;simp only [Sort.heap_ahead,Array.getElem?_modify,if_true,hb,Option.map_some,Sort.onCells]
 congr 2
 unfold Sort.putCells;apply Array.ext
 ·simp [hl]
 ·intro i h1 h2;simp only [Array.getElem_mapIdx,List.getElem_toArray];simp at h1;by_cases hi:i < F'.length
  ·rw [if_pos (by simp; omega),List.getElem_append_left hi];simp [hi]
  ·rw [if_neg (by simp; omega),List.getElem_append_right (by omega),List.getElem_append_right (by omega)];simp only [hl]
theorem zrV {w:World} {b k:Nat} {F':List Value} {n:Nat} {os:Array Obj} (hk:k < w.heap.size) (hne:b≠k) :
  (Sort.grow (Sort.putRow id (Sort.ahead w n) b 0 F'.toArray) os).heap[k]? = w.heap[k]? := by
 unfold Sort.grow;simp only;rw [Array.getElem?_append_left (by simpa using hk)];unfold Sort.putRow Sort.mapBlock;simp [Array.getElem?_modify,hne]
section
variable {κ:Kap} {m:Mem} {w:World} {α:Type} {enc:α→List Value} {f:α→CV}
theorem zgE {v u:Value} (h:zd κ m w (.c (.sc v)) u):u=v∧wfv v:=by
 have h:RepC w (zi κ m) (.sc v) u:=h;cases h; exact ⟨rfl,by assumption⟩
theorem zaW:∀ {vs us:List Value},zb (zd κ m w) (vs.map fun v => .c (.sc v)) us→us=vs∧∀ v∈vs,wfv v
 | [],[],_=>⟨rfl,by simp⟩
 | v::vs,u::us,h=>by
  obtain ⟨h1,h2⟩:=zgE h.1;obtain ⟨h3,h4⟩:=zaW h.2;exact ⟨by rw [h1,h3],by simpa using ⟨h2,h4⟩⟩
 | [],_::_,h=>h.elim
 | _::_,[],h=>h.elim
theorem zaZ:∀ {vs:List Value},(∀ v∈vs,wfv v)→zb (zd κ m w) (vs.map fun v => .c (.sc v)) vs
 | [],_=>trivial
 | v::vs,h=>⟨show RepC w (zi κ m) (.sc v) v from .sc (h v (by simp)),zaZ fun u hu=>h u (by simp [hu])⟩
theorem Jm (hf:∀ a,f a = .agg ((enc a).map .sc)):∀ (X:List α),((X.map f).map PV.c).flatMap PV.cells=(X.flatMap enc).map fun v => .c (.sc v)
 | []=>rfl
 | a::X=>by
  rw [List.map_cons,List.map_cons,List.flatMap_cons,List.flatMap_cons,List.map_append,Jm hf X,hf];simp [PV.cells,CV.cells]
end
theorem zg5 {α:Type} [Inhabited α] {P:Program} {W0:World} {F:FuncId} {fv:Value} {T:TypeId} {id k:Nat} {enc:α→List Value} {f:α→CV} {key:α→Str} {lt:α→α→Bool} (hf:∀ a,f a = .agg ((enc a).map .sc)) (hk:∀ x,(enc x).length=k) (h0:0 < k) (hlt:∀ a b,lt a b=ltS (key a) (key b))
  (hnone:∀ p cap w,Calls P F #[.slice p 0 cap,fv] w fun e w'=>e = .returned (.tuple #[])∧w'=w)
  (hsome:∀ b cap (d:Array α) w,Sort.HoldsK enc k w b 0 d→b < w.heap.size→d.size < 4611686018427387904→Calls P F #[.slice (some ⟨b,0,none⟩) d.size cap,fv] w fun e w' =>
   e = .returned (.tuple #[])∧∃ d' n os,Sort.PermIn 0 d.size d d'∧Sort.SortedIn lt 0 d.size d'∧w'=sortWorldK enc k w b 0 n d' os)
  (X:List α) (hX:X.length≤1000000) :
  zw P W0 F [.own id X.length,.c (.sc fv)] [(id,.row (X.map f) k T)] (qF key X) (fun _ => .c (.tup [])) (fun S=>[(id,.row (S.map f) k T)]):=by
 intro κ w vs hB hm hr;obtain ⟨v1,v2,hvs⟩:∃ v1 v2,vs.toList=[v1,v2]:=by
  have:=zb.length hr
  match h:vs.toList with
  | [a,b]=>exact ⟨a,b,rfl⟩
  | [] | [_] | _::_::_::_=>rw [h] at this; simp at this
 rw [hvs] at hr;obtain ⟨r1,r2,_⟩:=hr;have e2:v2=fv:=by
  have r2:RepC w (zi κ (er [(id,.row (X.map f) k T)])) (.sc fv) v2:=r2;cases r2; rfl
 subst e2;obtain ⟨⟨a,cap0,rfl,_⟩,hnm,L,sz,e,g1,g2,g3,_⟩:=r1;have hl:lk (er [(id,XB.row (X.map f) k T)]) id=some (.row ((X.map f).map .c) k T):=by simp [er,lk,XB.er]
 rw [hl] at g1;cases g1;have gO:=g3 (by simp);have hv:vs=#[.slice a X.length cap0,v2]:=by rw [← hvs]
 subst hv;have ret:∀ {κ':Kap} {m':Mem} {w':World},Rep κ' m' w' (.c (.tup [])) (.tuple #[]):=fun {κ' m' w'}=>show RepC w' _ (.tup []) (.tuple [].toArray) from .tup rfl (by simp)
 by_cases hXn:X=[]
 ·subst hXn;refine (hnone a cap0 w).mono ?_;rintro e w' ⟨rfl,rfl⟩;exact ⟨_,_,_,κ,rfl,⟨_,rfl,[],⟨List.Perm.nil,List.Pairwise.nil⟩,rfl,rfl⟩,hm,ret⟩
 obtain ⟨hsz,_,hblk⟩:=hm.mem.blk id _ hl;rcases hblk with ⟨_,hL⟩ | ⟨b,us,rest,hkb,hh,hall⟩
 ·rcases hL with hL | hL
  ·simp at hL; exact absurd hL hXn
  ·have:=ZV hL; simp [maxLen] at this; omega
 unfold ji at gO;rw [hkb] at gO;obtain ⟨cap,arr,e',hsl,hle,hcap,hb2,hsz2⟩:=gO;injection hsl with q1 q2 q3
 subst q1 q3;rw [Jm hf] at hall;obtain ⟨rfl,hwf⟩:=zaW hall;have hblt:b < w.heap.size:=(Array.getElem?_eq_some_iff.1 hh).1;have hfl:=qf hk X;have hH:Sort.HoldsK enc k w b 0 X.toArray:=by
  unfold Sort.HoldsK;rw [zeR hk];intro j hj;have hj':j < (X.flatMap enc).length:=by simpa using hj
  refine ⟨?_,?_⟩
  ·unfold World.cell?;simp only [hh,Nat.zero_add];rw [List.getElem?_toArray,List.getElem?_append_left hj',List.getElem?_eq_getElem hj'];have:(X.flatMap enc).toArray[j]! = (X.flatMap enc)[j]:=by rw [getElem!_pos _ j (by simpa using hj')]; rfl
   exact congrArg some this.symm
  ·unfold World.frozen?;simp only [hh]; simp
 have hs:=hsome b cap0 X.toArray w hH hblt (by simp; omega);simp only [List.size_toArray] at hs;refine hs.mono ?_;rintro e w' ⟨rfl,d',n,os,hp,hsd,rfl⟩;have hds:d'.size=X.length:=by simpa using hp.1
 have hperm:d'.toList.Perm X:=by
  have:=hp.2.2;rw [Array.extract_eq_self_of_le (by omega)] at this
  simpa using this
 have hsorts:qF key X d'.toList:=by
  refine ⟨hperm,?_⟩;rw [List.pairwise_iff_getElem];intro i j hi hj hij;rw [← hlt];have:=hsd i j (Nat.zero_le _) hij (by simpa [hds] using hj)
  simpa [getElem!_pos,show i < d'.size by simpa using hi,show j < d'.size by simpa using hj] using this
 have hwf':∀ v∈d'.toList.flatMap enc,wfv v:=by
  intro v hv;obtain ⟨x,hx,hv⟩:=List.mem_flatMap.1 hv;exact hwf v (List.mem_flatMap.2 ⟨x,hperm.mem_iff.1 hx,hv⟩)
 have hW:sortWorldK enc k w b 0 n d' os=Sort.grow (Sort.putRow _root_.id (Sort.ahead w n) b 0 (d'.toList.flatMap enc).toArray) os:=by
  unfold sortWorldK Sort.putRowK;rw [← zeR hk d'.toList]
 rw [hW];have hl2:(d'.toList.flatMap enc).length=(X.flatMap enc).length:=by rw [qf hk,qf hk]; simp [hds]
 have hheap:=zrU (n:=n) (os:=os) hh hl2;have e1:upd (er [(id,XB.row (X.map f) k T)]) id (.row ((d'.toList.map f).map .c) k T)=er [(id,XB.row (d'.toList.map f) k T)]:=by simp [er,XB.er,upd]
 have hturn:=hm.turn (κ':=κ) (id:=id) (x := .row ((d'.toList.map f).map .c) k T) (y := .row ((X.map f).map .c) k T) (w':=Sort.grow (Sort.putRow _root_.id (Sort.ahead w n) b 0 (d'.toList.flatMap enc).toArray) os)
  hB.size hl rfl rfl rfl (by simp [Sort.grow,Sort.putRow,Sort.mapBlock]) rfl (fun _ _=>rfl) (fun j hj hne=>zrV hj (fun e=>hne (by rw [hkb,e]))) (.inl rfl) (fun cs h=>by cases h)
  (fun L sz e h=>by
   cases h;refine ⟨_,rfl,by simp [hds],fun _=>⟨rfl,fun b' arr e' hb' ha=>?_⟩⟩;rw [hkb] at hb'; cases hb';rw [hh] at ha; cases ha;exact ⟨_,hheap,by simp [hl2]⟩)
  (fun _=>by
   refine ⟨fun x hx=>?_,h0,.inr ⟨b,_,rest,hkb,hheap,?_⟩⟩
   ·obtain ⟨y,hy,rfl⟩:=List.mem_map.1 hx;obtain ⟨z,_,rfl⟩:=List.mem_map.1 hy;rw [hf]; simp [PV.cells,CV.cells,hk]
   ·rw [Jm hf]; exact zaZ hwf') (.inr ⟨b,hkb⟩)
 rw [e1] at hturn;exact ⟨_,_,_,κ,rfl,⟨_,rfl,d'.toList,hsorts,rfl,rfl⟩,hturn.1,ret⟩
instance:Inhabited Ent:=⟨⟨[],false,[]⟩⟩
instance:Inhabited Mark:=⟨⟨[],0,[]⟩⟩
theorem zfT {x y z:Str} (h1:ltS x y=false) (h2:ltS y z=false):ltS x z=false:=by
 rcases Yk h1 with rfl | h3
 ·exact h2
 ·rcases Yk h2 with rfl | h4
  ·exact ZZ h3
  ·exact ZZ (ZC h4 h3)
theorem swoS {α:Type} [Inhabited α] (key:α→Str):Sort.SWO (ltOf fun x y:α=>cmpS (key x) (key y)):=by
 have e:∀ x y:α,ltOf (fun x y:α=>cmpS (key x) (key y)) x y=ltS (key x) (key y):=fun x y=>zbp _ _
 refine ⟨fun x=>?_,fun x y z h1 h2=>?_,fun x y z h1 h2=>?_⟩
 ·rw [e]; exact yC _
 ·rw [e] at *; exact ZC h1 h2
 ·rw [e] at *; exact zfT h1 h2
theorem JJ {α:Type} {key:α→Str} {X:List α}:∃ S,qF key X S:=by
 refine ⟨X.mergeSort (fun a b=>!ltS (key b) (key a)),List.mergeSort_perm _ _,?_⟩;have h:=List.pairwise_mergeSort (le:=fun a b:α=>!ltS (key b) (key a)) (fun a b c h1 h2=>by
  simp only [Bool.not_eq_true'] at *; exact zfT h2 h1) (fun a b=>by
  rcases zaJ (key a) (key b) with h | h | h
  ·rw [h,yC]; rfl
  ·rw [ZZ h]; rfl
  ·rw [ZZ h]; simp) X
 exact h.imp fun h=>by simpa using h
def zj9:XC:=(.r [.mv 2 0,.ex 3 (.opn 125 [2,(.k (.c (.sc (.func (.func 126) #[] #[]))))])])
theorem zka:zc Tryz.prog [125] 61=some (zj9.ac,[],4):=by kernel_rfl
theorem zoL (W0:World) (id:Nat) (X:List Ent) (hX:X.length≤1000000):zw Tryz.prog W0 125 [.own id X.length,.c (.sc (.func (.func 126) ⟨[]⟩ ⟨[]⟩))] [(id,.row (X.map eEnt) 3 46)] (qF Ent.path X) (fun _ => .c (.tup [])) (fun S=>[(id,.row (S.map eEnt) 3 46)]):=by
 have eg:∀ args w,(callFunc 126 args).run Tryz.prog w = .ok (.enter 126 args) w:=enters_of Tryz.func126 (by kernel_rfl) rfl;refine zg5 (enc:=vEnt) (lt:=ltOf fun x y:Ent=>cmpS x.path y.path) (fun _=>rfl) (fun _=>rfl) (by decide) (fun x y=>zbp _ _) (fun p cap w=>?_) (fun b cap d w hH hb hd=>?_) X hX
 ·exact AnyF.slices_SortFunc_none { Tryz.sortE with } p cap _ w
 ·exact AnyQ.slices_SortFunc Tryz.sortE 3 Tryz.isAgg46 Tryz.sizeOf46 vEnt (fun _=>rfl) (fun x v hv=>by simp [vEnt] at hv; rcases hv with rfl|rfl|rfl<;>rfl) (fun x y=>cmpS x.path y.path) (swoS Ent.path) 126 #[] b 0 cap d w eg (fun _ _ _ _ x y=>zn9 x y _) hH hb hd
theorem zah (W0:World) (X:List Ent) (hX:X.length≤1000000):zw Tryz.prog W0 61 [.own 1 X.length] [(1,.row (X.map eEnt) 3 46)] (qF Ent.path X) (fun _ => .tup []) (fun S=>[(1,.row (S.map eEnt) 3 46)]):=by
 refine fW mixed zka fun hg=>?_
 refine dr ?_;refine oW (zoL W0 1 X hX) rfl ⟨rfl,trivial⟩ rfl rfl JJ fun S hS=>⟨rfl,?_⟩
 refine dr ?_;refine ⟨none,_,_,?_,S,hS,rfl,rfl⟩;refine dr ?_;trivial
def zkb:XC:=(.r [.mv 2 0,.ex 3 (.opn 197 [2,(.k (.c (.sc (.func (.func 198) #[] #[]))))])])
theorem zkc:zc Tryz.prog [197] 167=some (zkb.ac,[],4):=by kernel_rfl
theorem zoM (W0:World) (id:Nat) (X:List Mark) (hX:X.length≤1000000):zw Tryz.prog W0 197 [.own id X.length,.c (.sc (.func (.func 198) ⟨[]⟩ ⟨[]⟩))] [(id,.row (X.map ql) 3 148)] (qF Mark.path X) (fun _ => .c (.tup [])) (fun S=>[(id,.row (S.map ql) 3 148)]):=by
 have eg:∀ args w,(callFunc 198 args).run Tryz.prog w = .ok (.enter 198 args) w:=enters_of Tryz.func198 (by kernel_rfl) rfl;refine zg5 (enc:=vMark) (lt:=ltOf fun x y:Mark=>cmpS x.path y.path) (fun _=>rfl) (fun _=>rfl) (by decide) (fun x y=>zbp _ _) (fun p cap w=>?_) (fun b cap d w hH hb hd=>?_) X hX
 ·exact AnyF.slices_SortFunc_none { Tryz.sortM with } p cap _ w
 ·exact AnyQ.slices_SortFunc Tryz.sortM 3 Tryz.isAgg148 Tryz.sizeOf148 vMark (fun _=>rfl) (fun x v hv=>by simp [vMark] at hv; rcases hv with rfl|rfl|rfl<;>rfl) (fun x y=>cmpS x.path y.path) (swoS Mark.path) 198 #[] b 0 cap d w eg (fun _ _ _ _ x y=>zoa x y _) hH hb hd
theorem zp8 (W0:World) (X:List Mark) (hX:X.length≤1000000):zw Tryz.prog W0 167 [.own 1 X.length] [(1,.row (X.map ql) 3 148)] (qF Mark.path X) (fun _ => .tup []) (fun S=>[(1,.row (S.map ql) 3 148)]):=by
 refine fW mixed zkc fun hg=>?_
 refine dr ?_;refine oW (zoM W0 1 X hX) rfl ⟨rfl,trivial⟩ rfl rfl JJ fun S hS=>⟨rfl,?_⟩
 refine dr ?_;refine ⟨none,_,_,?_,S,hS,rfl,rfl⟩;refine dr ?_;trivial

theorem ze0 {α:Type} {key:α→Str} {t:List α} {p:Str} {k:Nat} (h:k < t.length) (hp:key t[k]=p) (hn:∀ i (h':i < t.length),i < k→key t[i]≠p):fnd key t p=some t[k]:=by
 unfold fnd;rw [List.find?_eq_some_iff_getElem];exact ⟨by simp [hp],k,h,rfl,fun i hi=>by simpa using hn i (by omega) hi⟩
theorem zeZ {α:Type} {key:α→Str} {t:List α} {p:Str} (hn:∀ i (h':i < t.length),key t[i]≠p):fnd key t p=none :=
 qt.2 fun e he=>by obtain ⟨i,hi,rfl⟩:=List.mem_iff_getElem.1 he; exact hn i hi
def noM:Mark:=⟨[],0,[]⟩
def eMarkO:Option Mark→CV
 | none => .tup [ql noM,CB false]
 | some m => .tup [ql m,CB true]
theorem Y0 (o:Option Mark):eMarkO o = .tup [ql (o.getD noM),CB o.isSome]:=by cases o<;>rfl
def zjr:XC:=(.s (.r [.ex 4 (.alloc zE),.m1 5 .n]) (.s (.s (.r [.mv 8 0,.n1 9 8,.m1 10 (.i 0)]) (.blk 0 (.loop (.s (.r [.b1 11 .lss 10 9]) (.s (.ce 11 0) (.s (.blk 1 (.s (.r [.i1 12 3 8 10,.l2 13 3 12,.ex 7 (.alloc zE),.s1 3 7 13]) (.s (.r [.f1 14 0 7,.l1 15 1 14,.mv 16 1,.b1 17 .eql 15 16]) (.cnd 17 (.s (.r [.l2 18 3 7,.s1 3 4 18,.m1 5 .y]) .ret) .skip)))) (.r [.b1 19 .add 10 (.i 1),.mv 10 19]))))))) (.s (.r [.ex 20 (.build zE []),.s1 3 4 20,.m1 5 .n]) .ret)))
theorem zjs:zc Tryz.prog [] 72=some (zjr.ac,[(.cell 4 true 3),(.t 5)],21):=by kernel_rfl
theorem Zx (W0:World) (t:List Ent) (p:Str):Fn Tryz.prog W0 72 [za t,CS p] (.c (YZ (find t p))) []:=by
 refine fX mixed zjs fun hg=>?_
 have g1:=jc (hg _ (by simp:za t∈_));refine dr ?_;refine lp (σ:=Nat) (fun k=>[(1,.c (CS p)),(4,.ptr 64 0),(8,.c (za t)),(9,I t.length),(10,I k)]) (fun _=>[(64,.box [.c (CS []),(.c (CB false)),.c (CS [])])]) (fun k=>k≤t.length∧∀ i (h':i < t.length),i < k→t[i].path≠p) (fun k=>t.length - k) 0 ⟨by simp,by simp⟩ ?_ ?_
 ·refine dr ?_;trivial
 rintro k ⟨hk,ha⟩;refine dr ?_;apply cP<;>intro h1
 ·refine dr ?_;apply cP<;>intro h2
  ·refine dr ?_;have:find t p=some t[k]:=ze0 (key:=Ent.path) (by omega) h2 ha;rw [this]; rfl
  ·refine dr ?_;refine ⟨k+1,⟨by omega,fun i h' hi=>?_⟩,by omega,?_⟩
   ·by_cases e:i=k
    ·subst e; exact h2
    ·exact ha i h' (by omega)
   ·refine dr ?_;trivial
 ·refine dr ?_;have:find t p=none:=zeZ (key:=Ent.path) fun i h'=>ha i h' (by omega)
  rw [this]; rfl
def zjL:XC:=(.s (.r [.ex 4 (.alloc [sE,(I 0),sE]),.m1 5 .n]) (.s (.s (.r [.mv 8 0,.n1 9 8,.m1 10 (.i 0)]) (.blk 0 (.loop (.s (.r [.b1 11 .lss 10 9]) (.s (.ce 11 0) (.s (.blk 1 (.s (.r [.i1 12 3 8 10,.l2 13 3 12,.ex 7 (.alloc [sE,(I 0),sE]),.s1 3 7 13]) (.s (.r [.f1 14 0 7,.l1 15 1 14,.mv 16 1,.b1 17 .eql 15 16]) (.cnd 17 (.s (.r [.l2 18 3 7,.s1 3 4 18,.m1 5 .y]) .ret) .skip)))) (.r [.b1 19 .add 10 (.i 1),.mv 10 19]))))))) (.s (.r [.ex 20 (.build [sE,(I 0),sE] []),.s1 3 4 20,.m1 5 .n]) .ret)))
theorem zjM:zc Tryz.prog [] 163=some (zjL.ac,[(.cell 4 true 3),(.t 5)],21):=by kernel_rfl
theorem zag (W0:World) (t:List Mark) (p:Str):Fn Tryz.prog W0 163 [ze t,CS p] (.c (eMarkO (zH t p))) []:=by
 refine fX mixed zjM fun hg=>?_
 have g1:=jc (hg _ (by simp:ze t∈_));refine dr ?_;refine lp (σ:=Nat) (fun k=>[(1,.c (CS p)),(4,.ptr 64 0),(8,.c (ze t)),(9,I t.length),(10,I k)]) (fun _=>[(64,.box [.c (CS []),(.c (CI 0)),.c (CS [])])]) (fun k=>k≤t.length∧∀ i (h':i < t.length),i < k→t[i].path≠p) (fun k=>t.length - k) 0 ⟨by simp,by simp⟩ ?_ ?_
 ·refine dr ?_;trivial
 rintro k ⟨hk,ha⟩;refine dr ?_;apply cP<;>intro h1
 ·refine dr ?_;apply cP<;>intro h2
  ·refine dr ?_;have:zH t p=some t[k]:=ze0 (key:=Mark.path) (by omega) h2 ha;rw [this]; rfl
  ·refine dr ?_;refine ⟨k+1,⟨by omega,fun i h' hi=>?_⟩,by omega,?_⟩
   ·by_cases e:i=k
    ·subst e; exact h2
    ·exact ha i h' (by omega)
   ·refine dr ?_;trivial
 ·refine dr ?_;have:zH t p=none:=zeZ (key:=Mark.path) fun i h'=>ha i h' (by omega)
  rw [this]; rfl
def zjh:XC:=(.s (.r [.a2 2 3 46]) (.s (.r [.mv 3 0,.ex 4 (.app true 3 40 46 (.k .nil) 3),.a1 2 4 3 46]) .ret))
theorem zji:zc Tryz.prog [] 59=some (zjh.ac,[(.t 2)],5):=by kernel_rfl
theorem zbH (W0:World) (t:List Ent) (ht:t.length≤1000000):Fn Tryz.prog W0 59 [za t] (.c (za t)) []:=by
 refine fX mixed zji fun hg=>?_
 refine dr ?_;repeat ((first|refine oB (by simp; omega) ?_|refine oB (by simp) ?_); first|refine dr ?_|exact dz)
 rfl
def zkd:XC:=(.s (.r [.m1 4 (.i 0)]) (.s (.r [.mv 8 1,.c1 9 166 [8],.mv 5 9]) (.s (.s (.r [.mv 10 5,.ex 11 (.bin .eql 10 (.s [47]))]) (.cnd 11 (.s (.r [.m1 4 (.i 0)]) .ret) .skip)) (.s (.r [.mv 13 0,.mv 14 5,.c1 15 72 [13,14],.mv 12 15,.e1 16 12 0,.e1 17 12 1,.ex 6 (.alloc zE),.s1 3 6 16,.mv 7 17]) (.s (.s (.r [.mv 18 7,.u1 19 18]) (.cnd 19 (.s (.r [.m1 4 (.i 2)]) .ret) .skip)) (.s (.s (.r [.f1 20 1 6,.l1 21 1 20,.u1 22 21]) (.cnd 22 (.s (.r [.m1 4 (.i 3)]) .ret) .skip)) (.s (.r [.m1 4 (.i 0)]) .ret)))))))
theorem zke:zc Tryz.prog [] 117=some (zkd.ac,[(.t 4)],23):=by kernel_rfl
theorem ZS (W0:World) (hM:HM W0) (t:List Ent) (p:Str):Fn Tryz.prog W0 117 [za t,CS p] (.c (CI (upC2 t p))) []:=by
 refine fX mixed zke fun hg=>?_
 refine dEr ?_;repeat (refine c0 (J2 W0 hM p) rfl ?_; first|refine dEr ?_|exact dz)
 apply cP<;>intro h1
 ·refine dr ?_;rw [upC2,if_pos h1]<;>rfl
 have hc:=Zx W0 t (pUp p);rw [upC2,if_neg h1];cases hx:find t (pUp p) with
 | none =>
  rw [hx] at hc;refine dEr ?_;repeat (refine c0 hc rfl ?_; first|refine dEr ?_|exact dz)
  try rfl
 | some e =>
  rw [hx] at hc;refine dEr ?_;repeat (refine c0 hc rfl ?_; first|refine dEr ?_|exact dz)
  apply cP<;>intro h2
  ·refine dr ?_;exact congrArg CI (by simp [h2])
  ·refine dr ?_;exact congrArg CI (by simp [h2])
def ziZ:XC:=(.s (.r [.m1 2 .n]) (.s (.s (.r [.mv 5 0,.n1 6 5,.b1 7 .gtr 6 (.i 16)]) (.cnd 7 (.rf 2) .skip)) (.s (.s (.r [.mv 8 0,.n1 9 8,.m1 10 (.i 0)]) (.blk 0 (.loop (.s (.r [.b1 11 .lss 10 9]) (.s (.ce 11 0) (.s (.blk 1 (.s (.r [.mv 12 10,.i1 13 3 8 10,.l2 14 3 13,.ex 4 (.alloc zE),.mv 3 12,.s1 3 4 14]) (.s (.s (.r [.f1 15 0 4,.l1 16 1 15,.c1 17 25 [16],.u1 18 17,.mv 19 18,.h1 20 2 4 19,.h2 21 1 20 19,.gf 22 (.call 116 [21]) 19,.gf 23 (.un .not 22) 19,.p1 24 19 23,.mv 25 24,.h1 26 1 4 25,.h2 27 1 26 25,.h3 28 27 25,.g1 29 2 4 28,.g2 30 1 29 28,.gt 31 (.bin .neq 30 (.s [])) 28,.gf 32 (.pick 28 31 .n) 25,.p1 33 25 32]) (.cnd 33 (.rf 2) .skip)) (.s (.s (.d [.mv 34 3,.b1 35 .gtr 34 (.i 0),.mv 36 35,.g3 37 0 36,.g3 38 3 36,.gt 39 (.bin .sub 38 (.i 1)) 36,.gt 40 (.ia 3 37 39) 36,.g1 41 0 40 36,.g2 42 1 41 36,.g1 43 0 4 36,.g2 44 1 43 36,.gt 45 (.bin .geq 42 44) 36,.p2 46 36 45]) (.cnd 46 (.rf 2) .skip)) (.s (.r [.mv 47 0,.f1 48 0 4,.l1 49 1 48,.c1 50 117 [47,49],.b1 51 .neq 50 (.i 0)]) (.cnd 51 (.rf 2) .skip)))))) (.r [.b1 52 .add 10 (.i 1),.mv 10 52]))))))) (.rt 2))))
theorem zi0:zc Tryz.prog [] 57=some (ziZ.ac,[(.t 2)],53):=by kernel_rfl
theorem J3 (W0:World) (hM:HM W0) (t:List Ent):Fn Tryz.prog W0 57 [za t] (.c (CB (tOk t))) []:=by
 refine fX mixed zi0 fun hg=>?_
 have g1:=jc (hg _ (by simp:za t∈_));have no:¬ TG t→CB false=CB (tOk t):=fun h=>bF (by
  rw [Bool.eq_false_iff]; exact fun e=>h (TG.of e))
 refine dr ?_;apply cP<;>intro h1
 ·refine dr ?_;exact no fun h=>by have:=h.len; omega
 refine dr ?_;refine lp (σ:=Nat) (fun k=>[(0,.c (za t)),(8,.c (za t)),(9,I t.length),(10,I k)]) (fun _=>[]) (fun k=>k≤t.length∧∀ j (h:j < t.length),j < k→eok t[j]=true∧zK t (pUp t[j].path)=true∧(0 < j→ltS t[j - 1].path t[j].path=true)) (fun k=>t.length - k) 0 ⟨by simp,by simp⟩ ?_ ?_
 ·refine dr ?_;trivial
 rintro k ⟨hk,ha⟩;refine dr ?_;apply cP<;>intro h2;rotate_left
 ·refine dr ?_;refine bT (Yv.2 ⟨by omega,ZH.2 fun j hj=>?_,fun e he=>?_,fun e he=>?_⟩)
  ·exact (ha (j+1) hj (by omega)).2.2 (by omega)
  ·obtain ⟨j,hj,rfl⟩:=List.mem_iff_getElem.1 he;exact (ha j hj (by omega)).1
  ·obtain ⟨j,hj,rfl⟩:=List.mem_iff_getElem.1 he;exact (ha j hj (by omega)).2.1
 have hk':k < t.length:=by omega
 have no1:eok t[k]=false→CB false=CB (tOk t):=fun h=>no fun g=>by
  have:=g.ok _ (List.getElem_mem hk'); rw [h] at this; cases this
 refine dEr ?_;repeat (refine c0 (qN W0 hM _) rfl ?_; first|refine dEr ?_|exact dz)
 apply cP<;>intro h3
 ·refine dr ?_;exact no1 (by simp [eok,h3])
 refine dEr ?_;repeat (refine c0 (zbI W0 _) rfl ?_; first|refine dEr ?_|exact dz)
 apply cP<;>intro h4
 ·refine dr ?_;exact no1 (by simp [eok,h4])
 refine dr ?_;apply cP<;>intro h5
 ·refine dr ?_;apply cP<;>intro h6
  ·refine dr ?_;exact no1 (by simp [eok,h5,h6])
  ·have hok:eok t[k]=true:=by rw [eok,h3,h4]; simp [h6]
   clear h6;refine dr ?_;apply cP<;>intro h7
   ·refine dr ?_;repeat (refine aM (j:=k - 1) (by omega) (by omega) ?_; first|refine dr ?_|exact dz)
    cases h8:ltS t[k - 1].path t[k].path
    ·refine dr ?_;exact no fun h=>by
      have:=ZH.1 h.srt (k - 1) (by omega);simp only [show k - 1+1=k by omega] at this;rw [h8] at this; cases this
    ·refine dEr ?_;repeat (refine c0 (ZS W0 hM t _) rfl ?_; first|refine dEr ?_|exact dz)
     apply cP<;>intro h9
     ·refine dr ?_;exact no fun h=>h9 ((yX).2 (h.up _ (List.getElem_mem hk')))
     ·refine dr ?_;refine ⟨k+1,⟨by omega,fun j h hj=>?_⟩,by omega,?_⟩
      ·by_cases e:j=k
       ·subst e; exact ⟨hok,yX.1 h9,fun _=>h8⟩
       ·exact ha j h (by omega)
      ·refine dr ?_;trivial
   ·refine dEr ?_;repeat (refine c0 (ZS W0 hM t _) rfl ?_; first|refine dEr ?_|exact dz)
    apply cP<;>intro h9
    ·refine dr ?_;exact no fun h=>h9 ((yX).2 (h.up _ (List.getElem_mem hk')))
    ·refine dr ?_;refine ⟨k+1,⟨by omega,fun j h hj=>?_⟩,by omega,?_⟩
     ·by_cases e:j=k
      ·subst e; exact ⟨hok,yX.1 h9,fun h=>by omega⟩
      ·exact ha j h (by omega)
     ·refine dr ?_;trivial
 ·have hok:eok t[k]=true:=by simp [eok,h3,h4,h5]
  refine dr ?_;apply cP<;>intro h7
  ·refine dr ?_;repeat (refine aM (j:=k - 1) (by omega) (by omega) ?_; first|refine dr ?_|exact dz)
   cases h8:ltS t[k - 1].path t[k].path
   ·refine dr ?_;exact no fun h=>by
     have:=ZH.1 h.srt (k - 1) (by omega);simp only [show k - 1+1=k by omega] at this;rw [h8] at this; cases this
   ·refine dEr ?_;repeat (refine c0 (ZS W0 hM t _) rfl ?_; first|refine dEr ?_|exact dz)
    apply cP<;>intro h9
    ·refine dr ?_;exact no fun h=>h9 ((yX).2 (h.up _ (List.getElem_mem hk')))
    ·refine dr ?_;refine ⟨k+1,⟨by omega,fun j h hj=>?_⟩,by omega,?_⟩
     ·by_cases e:j=k
      ·subst e; exact ⟨hok,yX.1 h9,fun _=>h8⟩
      ·exact ha j h (by omega)
     ·refine dr ?_;trivial
  ·refine dEr ?_;repeat (refine c0 (ZS W0 hM t _) rfl ?_; first|refine dEr ?_|exact dz)
   apply cP<;>intro h9
   ·refine dr ?_;exact no fun h=>h9 ((yX).2 (h.up _ (List.getElem_mem hk')))
   ·refine dr ?_;refine ⟨k+1,⟨by omega,fun j h hj=>?_⟩,by omega,?_⟩
    ·by_cases e:j=k
     ·subst e; exact ⟨hok,yX.1 h9,fun h=>by omega⟩
     ·exact ha j h (by omega)
    ·refine dr ?_;trivial
def ziX:XC:=(.s (.r [.ex 4 (.alloc zE),.m1 5 .n]) (.s (.s (.r [.mv 6 0,.c1 7 57 [6],.u1 8 7]) (.cnd 8 (.s (.r [.ex 9 (.build zE []),.s1 3 4 9,.m1 5 .n]) .ret) .skip)) (.s (.s (.r [.mv 10 1,.ex 11 (.bin .eql 10 (.s [47]))]) (.cnd 11 (.s (.r [.ex 12 (.build zE [(0,(1,(.s [47]))),(1,(1,.y))]),.s1 3 4 12,.m1 5 .y]) .ret) .skip)) (.s (.r [.mv 13 0,.mv 14 1,.c1 15 72 [13,14],.e1 16 15 0,.e1 17 15 1,.s1 3 4 16,.mv 5 17]) .ret))))
theorem ziY:zc Tryz.prog [] 26=some (ziX.ac,[(.cell 4 true 3),(.t 5)],18):=by kernel_rfl
theorem zeg (W0:World) (hM:HM W0) (t:List Ent) (p:Str):Fn Tryz.prog W0 26 [za t,CS p] (.c (YZ (if tOk t=true then get t p else none))) []:=by
 refine fX mixed ziY fun hg=>?_
 refine dEr ?_;repeat (refine c0 (J3 W0 hM _) rfl ?_; first|refine dEr ?_|exact dz)
 apply cP<;>intro h1
 ·refine dr ?_;rw [if_neg (by simp [h1])]<;>rfl
 rw [if_pos h1];refine dr ?_;apply cP<;>intro h2
 ·refine dr ?_;rw [get,if_pos h2]<;>rfl
 have hc:=Zx W0 t p;rw [qM] at hc;rw [get,if_neg h2,qM];refine dEr ?_;repeat (refine c0 hc rfl ?_; first|refine dEr ?_|exact dz)
 rfl
def zjf:XC:=(.s (.r [.m1 4 .n]) (.s (.s (.r [.mv 7 0,.n1 8 7,.m1 9 (.i 0)]) (.blk 0 (.loop (.s (.r [.b1 10 .lss 9 8]) (.s (.ce 10 0) (.s (.blk 1 (.s (.r [.i1 11 3 7 9,.l2 12 3 11,.ex 6 (.alloc [sE,(I 0),sE]),.s1 3 6 12]) (.s (.r [.f1 13 1 6,.l1 14 1 13,.b1 15 .eql 14 (.i 4),.mv 16 15,.g3 17 1 16,.g1 18 0 6 16,.g2 19 1 18 16,.gt 20 (.call 124 [17,19]) 16,.p2 21 16 20]) (.cnd 21 (.rt 4) .skip)))) (.r [.b1 22 .add 9 (.i 1),.mv 9 22]))))))) (.rf 4)))
theorem zjg:zc Tryz.prog [] 195=some (zjf.ac,[(.t 4)],23):=by kernel_rfl
def yI (l:List Mark) (p:Str):Bool:=l.any fun m=>m.kind==4&&und2 p m.path
theorem ZR (W0:World) (hM:HM W0) (t:List Mark) (p:Str):Fn Tryz.prog W0 195 [ze t,CS p] (.c (CB (yI t p))) []:=by
 refine fX mixed zjg fun hg=>?_
 have g1:=jc (hg _ (by simp:ze t∈_));refine dr ?_;refine lp (σ:=Nat) (fun k=>[(1,.c (CS p)),(7,.c (ze t)),(8,I t.length),(9,I k)]) (fun _=>[]) (fun k=>k≤t.length∧yI (t.take k) p=false) (fun k=>t.length - k) 0 ⟨by simp,by simp [yI]⟩ ?_ ?_
 ·refine dr ?_;trivial
 rintro k ⟨hk,ha⟩;refine dr ?_;apply cP<;>intro h1
 ·have hk':k < t.length:=by omega
  have no:(t[k].kind==4&&und2 p t[k].path)=false→yI (t.take (k+1)) p=false:=fun h=>by
   rw [yI] at ha ⊢;rw [List.take_succ_eq_append_getElem hk',List.any_append,ha]; simpa using h
  have yes:(t[k].kind==4&&und2 p t[k].path)=true→CB true=CB (yI t p):=fun h=>bT (by
   rw [yI,List.any_eq_true]; exact ⟨t[k],List.getElem_mem hk',h⟩)
  refine dr ?_;apply cP<;>intro h2
  ·refine dEr ?_;repeat (refine c0 (Q2 W0 hM _ _) rfl ?_; first|refine dEr ?_|exact dz)
   apply cP<;>intro h3
   ·refine dr ?_;exact yes (by simp [h2,h3])
   ·refine dr ?_;refine ⟨k+1,⟨by omega,no (by simp [h3])⟩,by omega,?_⟩;refine dr ?_;trivial
  ·refine dr ?_;refine ⟨k+1,⟨by omega,no (by simp [h2])⟩,by omega,?_⟩;refine dr ?_;trivial
 ·refine dr ?_;have:k=t.length:=by omega
  subst this;rw [List.take_length] at ha;rw [ha]
theorem zhU {l:List Mark} (h:∀ m∈l,pOk m.path=true) {p:Str} (hp:pOk p=true):yI l p=je l p:=by
 rw [Bool.eq_iff_iff,yI,je,List.any_eq_true,List.any_eq_true];constructor
 ·rintro ⟨m,hm,h1⟩; exact ⟨m,hm,by rw [← Jf hp (h m hm)]; exact h1⟩
 ·rintro ⟨m,hm,h1⟩; exact ⟨m,hm,by rw [Jf hp (h m hm)]; exact h1⟩
theorem Zq {l:List Mark} (h:LG l) {p:Str} (hp:pOk p=true):yI l p=je l p:=zhU (fun _ hm=>h.path hm) hp
def zjv:XC:=(.s (.r [.m1 4 .n]) (.s (.s (.r [.mv 7 0,.n1 8 7,.m1 9 (.i 0)]) (.blk 0 (.loop (.s (.r [.b1 10 .lss 9 8]) (.s (.ce 10 0) (.s (.blk 1 (.s (.r [.i1 11 3 7 9,.l2 12 3 11,.ex 6 (.alloc [sE,(I 0),sE]),.s1 3 6 12]) (.s (.r [.f1 13 1 6,.l1 14 1 13,.b1 15 .neq 14 (.i 2),.mv 16 15,.g1 17 0 6 16,.g2 18 1 17 16,.g3 19 1 16,.gt 20 (.bin .eql 18 19) 16,.g3 21 20 16,.h3 22 1 21,.h1 23 0 6 21,.h2 24 1 23 21,.gf 25 (.call 124 [22,24]) 21,.gt 26 (.pick 21 .y 25) 16,.p2 27 16 26]) (.cnd 27 (.rt 4) .skip)))) (.r [.b1 28 .add 9 (.i 1),.mv 9 28]))))))) (.rf 4)))
theorem zjw:zc Tryz.prog [] 164=some (zjv.ac,[(.t 4)],29):=by kernel_rfl
def ZA (l:List Mark) (p:Str):Bool:=l.any fun m=>m.kind != 2&&(m.path==p||und2 p m.path)
theorem zo8 (W0:World) (hM:HM W0) (t:List Mark) (p:Str):Fn Tryz.prog W0 164 [ze t,CS p] (.c (CB (ZA t p))) []:=by
 refine fX mixed zjw fun hg=>?_
 have g1:=jc (hg _ (by simp:ze t∈_));refine dr ?_;refine lp (σ:=Nat) (fun k=>[(1,.c (CS p)),(7,.c (ze t)),(8,I t.length),(9,I k)]) (fun _=>[]) (fun k=>k≤t.length∧ZA (t.take k) p=false) (fun k=>t.length - k) 0 ⟨by simp,by simp [ZA]⟩ ?_ ?_
 ·refine dr ?_;trivial
 rintro k ⟨hk,ha⟩;refine dr ?_;apply cP<;>intro h1
 ·have hk':k < t.length:=by omega
  have no:(t[k].kind != 2&&(t[k].path==p||und2 p t[k].path))=false→ZA (t.take (k+1)) p=false:=fun h=>by
   rw [ZA] at ha ⊢;rw [List.take_succ_eq_append_getElem hk',List.any_append,ha]; simpa using h
  have yes:(t[k].kind != 2&&(t[k].path==p||und2 p t[k].path))=true→CB true=CB (ZA t p):=fun h=>bT (by
   rw [ZA,List.any_eq_true]; exact ⟨t[k],List.getElem_mem hk',h⟩)
  refine dr ?_;apply cP<;>intro h2
  ·refine dr ?_;apply cP<;>intro h4
   ·refine dr ?_;exact yes (by simp [h2,h4])
   ·refine dEr ?_;repeat (refine c0 (Q2 W0 hM _ _) rfl ?_; first|refine dEr ?_|exact dz)
    apply cP<;>intro h3
    ·refine dr ?_;exact yes (by simp [h2,h3])
    ·refine dr ?_;refine ⟨k+1,⟨by omega,no (by simp [h3,h4])⟩,by omega,?_⟩;refine dr ?_;trivial
  ·refine dr ?_;refine ⟨k+1,⟨by omega,no (by simp [h2])⟩,by omega,?_⟩;refine dr ?_;trivial
 ·refine dr ?_;have:k=t.length:=by omega
  subst this;rw [List.take_length] at ha;rw [ha]
theorem zqR {l:List Mark} (h:LG l) {p:Str} (hp:pOk p=true):ZA l p=zJ l p:=by
 rw [Bool.eq_iff_iff,ZA,List.any_eq_true];constructor
 ·rintro ⟨m,hm,h1⟩;simp only [Bool.and_eq_true,Bool.or_eq_true,beq_iff_eq,bne_iff_ne] at h1;rw [Jf hp (h.path hm)] at h1;exact qO hm h1.1 h1.2
 ·intro h1;obtain ⟨m,hm,hk,hu⟩:=Z5 h1;refine ⟨m,hm,?_⟩;simp only [Bool.and_eq_true,Bool.or_eq_true,beq_iff_eq,bne_iff_ne];rw [Jf hp (h.path hm)];exact ⟨hk,hu⟩
def zkl:XC:=(.s (.r [.x1 1 0,.m1 2 .n]) (.s (.r [.f1 3 1 1,.l1 4 1 3,.b1 5 .eql 4 (.i 2),.mv 6 5,.h1 7 1 1 6,.h2 8 1 7 6,.gf 9 (.bin .eql 8 (.i 4)) 6,.p1 10 6 9,.mv 2 10]) .ret))
theorem zkm:zc Tryz.prog [] 165=some (zkl.ac,[(.t 2)],11):=by kernel_rfl
theorem zbL (W0:World) (m:Mark):Fn Tryz.prog W0 165 [ql m] (.c (CB (decide (m.kind=2∨m.kind=4)))) []:=by
 refine fX mixed zkm fun hg=>?_
 refine dr ?_;apply cP<;>intro h1
 ·refine dr ?_;exact bT (by simp [h1])
 ·refine dr ?_;refine congrArg CB ?_;rw [Bool.eq_iff_iff]; simp [h1,y4]
def zjN:XC:=(.s (.r [.x1 1 0,.m1 2 .n]) (.s (.s (.r [.f1 3 1 1,.l1 4 1 3,.b1 5 .lss 4 (.i 1),.mv 6 5,.h1 7 1 1 6,.h2 8 1 7 6,.gf 9 (.bin .gtr 8 (.i 4)) 6,.p1 10 6 9,.mv 11 10,.h1 12 0 1 11,.h2 13 1 12 11,.gf 14 (.call 25 [13]) 11,.gf 15 (.un .not 14) 11,.p1 16 11 15]) (.cnd 16 (.rf 2) .skip)) (.s (.s (.r [.f1 17 1 1,.l1 18 1 17,.b1 19 .neq 18 (.i 1)]) (.cnd 19 (.s (.r [.f1 20 2 1,.l1 21 1 20,.ex 22 (.bin .eql 21 (.s [])),.mv 2 22]) .ret) .skip)) (.s (.r [.f1 23 2 1,.l1 24 1 23,.c1 25 116 [24],.mv 2 25]) .ret))))
theorem zjO:zc Tryz.prog [] 194=some (zjN.ac,[(.t 2)],26):=by kernel_rfl
theorem zpX (W0:World) (hM:HM W0) (m:Mark):Fn Tryz.prog W0 194 [ql m] (.c (CB (mok m))) []:=by
 refine fX mixed zjO fun hg=>?_
 refine dr ?_;apply cP<;>intro h1
 ·refine dr ?_;exact bF (by simp [mok]; omega)
 refine dr ?_;apply cP<;>intro h2
 ·refine dr ?_;exact bF (by simp [mok]; omega)
 refine dEr ?_;repeat (refine c0 (qN W0 hM _) rfl ?_; first|refine dEr ?_|exact dz)
 apply cP<;>intro h3
 ·refine dr ?_;exact bF (by simp [mok,h3])
 have hk:(decide (1≤m.kind)&&decide (m.kind≤4))=true:=by simp; omega
 refine dr ?_;apply cP<;>intro h4
 ·refine dr ?_;refine congrArg CB ?_;rw [mok,hk,h3,Bool.eq_iff_iff];simp [h4,qw];intro e; rw [e]; rfl
 ·refine dEr ?_;repeat (refine c0 (zbI W0 _) rfl ?_; first|refine dEr ?_|exact dz)
  refine congrArg CB ?_;rw [mok,hk,h3,Bool.eq_iff_iff];simp [h4]

def ziB:XC:=(.s (.r [.m1 2 .n]) (.s (.s (.r [.mv 8 0,.n1 9 8,.b1 10 .gtr 9 (.i 32)]) (.cnd 10 (.rf 2) .skip)) (.s (.s (.r [.mv 11 0,.n1 12 11,.m1 13 (.i 0)]) (.blk 0 (.loop (.s (.r [.b1 14 .lss 13 12]) (.s (.ce 14 0) (.s (.blk 1 (.s (.r [.mv 15 13,.i1 16 3 11 13,.l2 17 3 16,.ex 4 (.alloc [sE,(I 0),sE]),.mv 3 15,.s1 3 4 17]) (.s (.s (.r [.l2 18 3 4,.c1 19 194 [18],.u1 20 19]) (.cnd 20 (.rf 2) .skip)) (.s (.s (.d [.mv 21 3,.b1 22 .gtr 21 (.i 0),.mv 23 22,.g3 24 0 23,.g3 25 3 23,.gt 26 (.bin .sub 25 (.i 1)) 23,.gt 27 (.ia 3 24 26) 23,.g1 28 0 27 23,.g2 29 1 28 23,.g1 30 0 4 23,.g2 31 1 30 23,.gt 32 (.bin .geq 29 31) 23,.p2 33 23 32]) (.cnd 33 (.rf 2) .skip)) (.s (.s (.r [.f1 34 0 4,.l1 35 1 34,.c1 36 166 [35],.mv 5 36]) (.s (.r [.mv 37 5,.ex 38 (.bin .neq 37 (.s [47]))]) (.cnd 38 (.s (.r [.mv 40 0,.mv 41 5,.c1 42 163 [40,41],.mv 39 42,.e1 43 39 0,.e1 44 39 1,.ex 6 (.alloc [sE,(I 0),sE]),.s1 3 6 43,.mv 7 44]) (.s (.r [.mv 45 7,.u1 46 45,.mv 47 46,.gf 48 (.ld true 3 6) 47,.gf 49 (.call 165 [48]) 47,.gf 50 (.un .not 49) 47,.p1 51 47 50]) (.cnd 51 (.rf 2) .skip))) .skip))) (.s (.r [.f1 52 1 4,.l1 53 1 52,.b1 54 .eql 53 (.i 3),.mv 55 54,.h1 56 1 4 55,.h2 57 1 56 55,.gf 58 (.bin .eql 57 (.i 4)) 55,.p1 59 55 58,.mv 60 59,.g3 61 0 60,.g1 62 0 4 60,.g2 63 1 62 60,.gt 64 (.call 195 [61,63]) 60,.p2 65 60 64]) (.cnd 65 (.rf 2) .skip))))))) (.r [.b1 66 .add 13 (.i 1),.mv 13 66]))))))) (.rt 2))))
theorem ziC:zc Tryz.prog [] 162=some (ziB.ac,[(.t 2)],67):=by kernel_rfl
theorem zo4 (W0:World) (hM:HM W0) (l:List Mark):Fn Tryz.prog W0 162 [ze l] (.c (CB (lOk l))) []:=by
 refine fX mixed ziC fun hg=>?_
 have g1:=jc (hg _ (by simp:ze l∈_));have no:¬ (lOk l=true)→CB false=CB (lOk l):=fun h=>bF (by rw [Bool.eq_false_iff]; exact h)
 refine dr ?_;apply cP<;>intro h1
 ·refine dr ?_;exact no fun h=>by have:=(ju.1 h).1; omega
 refine dr ?_;refine lp (σ:=Nat) (fun k=>[(0,.c (ze l)),(11,.c (ze l)),(12,I l.length),(13,I k)]) (fun _=>[]) (fun k=>k≤l.length∧∀ j (h:j < l.length),j < k→mok l[j]=true∧inD l l[j].path=true∧(0 < j→ltS l[j - 1].path l[j].path=true)∧(2 < l[j].kind→yI l l[j].path=false)) (fun k=>l.length - k) 0 ⟨by simp,by simp⟩ ?_ ?_
 ·refine dr ?_;trivial
 rintro k ⟨hk,ha⟩;refine dr ?_;apply cP<;>intro h2;rotate_left
 ·refine dr ?_;have hs:Srt Mark.path l:=ZH.2 fun j hj=>(ha (j+1) hj (by omega)).2.2.1 (by omega)
  have hm:∀ m∈l,mok m=true:=fun m hm=>by
   obtain ⟨j,hj,rfl⟩:=List.mem_iff_getElem.1 hm;exact (ha j hj (by omega)).1
  refine bT (ju.2 ⟨by omega,hs,hm,fun m hm'=>?_,fun m hm' hk3=>?_⟩)
  ·obtain ⟨j,hj,rfl⟩:=List.mem_iff_getElem.1 hm';exact (ha j hj (by omega)).2.1
  ·rw [← Zq ⟨hs,hm⟩ (yc (hm m hm'))];obtain ⟨j,hj,rfl⟩:=List.mem_iff_getElem.1 hm';exact (ha j hj (by omega)).2.2.2 hk3
 have hk':k < l.length:=by omega
 refine dEr ?_;repeat (refine c0 (zpX W0 hM l[k]) rfl ?_; first|refine dEr ?_|exact dz)
 apply cP<;>intro h3
 ·refine dr ?_;exact no fun h=>by have:=(ju.1 h).2.2.1 _ (List.getElem_mem hk'); rw [h3] at this; cases this
 have hok:mok l[k]=true:=h3;refine dr ?_;apply cP<;>intro h7
 ·refine dr ?_;repeat (refine aM (j:=k - 1) (by omega) (by omega) ?_; first|refine dr ?_|exact dz)
  cases h8:ltS l[k - 1].path l[k].path
  ·refine dr ?_;exact no fun h=>by
    have:=ZH.1 (ju.1 h).2.1 (k - 1) (by omega);simp only [show k - 1+1=k by omega] at this;rw [h8] at this; cases this
  ·have hlast:0 < k→ltS l[k - 1].path l[k].path=true:=fun _=>h8
   refine dr ?_;refine dEr ?_;repeat (refine c0 (J2 W0 hM _) rfl ?_; first|refine dEr ?_|exact dz)
   apply cP<;>intro h9
   ·have hc:=zag W0 l (pUp l[k].path);rw [Y0] at hc;refine dEr ?_;repeat (refine c0 hc rfl ?_; first|refine dEr ?_|exact dz)
    apply cP<;>intro h90
    ·refine dr ?_;exact no fun h=>by
      rcases yy.1 ((ju.1 h).2.2.2.1 _ (List.getElem_mem hk')) with h' | ⟨m,h1,_⟩
      ·exact h9 h'
      ·rw [h1] at h90; cases h90
    ·obtain ⟨m,hm⟩:=Option.isSome_iff_exists.1 h90;have hc2:=zbL W0 ((zH l (pUp l[k].path)).getD noM);refine dEr ?_;repeat (refine c0 hc2 rfl ?_; first|refine dEr ?_|exact dz)
     apply cP<;>intro h10
     ·refine dr ?_;exact no fun h=>by
       rcases yy.1 ((ju.1 h).2.2.2.1 _ (List.getElem_mem hk')) with h' | ⟨m,h1,h2⟩
       ·exact h9 h'
       ·rw [h1] at h10; exact h10 h2
     ·have hin:inD l l[k].path=true:=yy.2 (.inr ⟨m,hm,by rw [hm] at h10; exact h10⟩);refine dr ?_;apply cP<;>intro h11
      ·refine dEr ?_;repeat (refine c0 (ZR W0 hM l _) rfl ?_; first|refine dEr ?_|exact dz)
       apply cP<;>intro h13
       ·refine dr ?_;exact no fun h=>by
         have:=(ju.1 h).2.2.2.2 _ (List.getElem_mem hk') (by omega);rw [Zq (LG.of h) (yc hok)] at h13;rw [this] at h13; cases h13
       ·refine dr ?_;refine ⟨k+1,⟨by omega,fun j h hj=>?_⟩,by omega,?_⟩
        ·by_cases e:j=k
         ·subst e; exact ⟨hok,hin,hlast,fun _=>h13⟩
         ·exact ha j h (by omega)
        ·refine dr ?_;trivial
      ·refine dr ?_;apply cP<;>intro h12
       ·refine dEr ?_;repeat (refine c0 (ZR W0 hM l _) rfl ?_; first|refine dEr ?_|exact dz)
        apply cP<;>intro h13
        ·refine dr ?_;exact no fun h=>by
          have:=(ju.1 h).2.2.2.2 _ (List.getElem_mem hk') (by omega);rw [Zq (LG.of h) (yc hok)] at h13;rw [this] at h13; cases h13
        ·refine dr ?_;refine ⟨k+1,⟨by omega,fun j h hj=>?_⟩,by omega,?_⟩
         ·by_cases e:j=k
          ·subst e; exact ⟨hok,hin,hlast,fun _=>h13⟩
          ·exact ha j h (by omega)
         ·refine dr ?_;trivial
       ·refine dr ?_;refine ⟨k+1,⟨by omega,fun j h hj=>?_⟩,by omega,?_⟩
        ·by_cases e:j=k
         ·subst e; exact ⟨hok,hin,hlast,fun h=>by have:=Z3 hok; omega⟩
         ·exact ha j h (by omega)
        ·refine dr ?_;trivial
   ·have hin:inD l l[k].path=true:=yy.2 (.inl h9);refine dr ?_;apply cP<;>intro h11
    ·refine dEr ?_;repeat (refine c0 (ZR W0 hM l _) rfl ?_; first|refine dEr ?_|exact dz)
     apply cP<;>intro h13
     ·refine dr ?_;exact no fun h=>by
       have:=(ju.1 h).2.2.2.2 _ (List.getElem_mem hk') (by omega);rw [Zq (LG.of h) (yc hok)] at h13;rw [this] at h13; cases h13
     ·refine dr ?_;refine ⟨k+1,⟨by omega,fun j h hj=>?_⟩,by omega,?_⟩
      ·by_cases e:j=k
       ·subst e; exact ⟨hok,hin,hlast,fun _=>h13⟩
       ·exact ha j h (by omega)
      ·refine dr ?_;trivial
    ·refine dr ?_;apply cP<;>intro h12
     ·refine dEr ?_;repeat (refine c0 (ZR W0 hM l _) rfl ?_; first|refine dEr ?_|exact dz)
      apply cP<;>intro h13
      ·refine dr ?_;exact no fun h=>by
        have:=(ju.1 h).2.2.2.2 _ (List.getElem_mem hk') (by omega);rw [Zq (LG.of h) (yc hok)] at h13;rw [this] at h13; cases h13
      ·refine dr ?_;refine ⟨k+1,⟨by omega,fun j h hj=>?_⟩,by omega,?_⟩
       ·by_cases e:j=k
        ·subst e; exact ⟨hok,hin,hlast,fun _=>h13⟩
        ·exact ha j h (by omega)
       ·refine dr ?_;trivial
     ·refine dr ?_;refine ⟨k+1,⟨by omega,fun j h hj=>?_⟩,by omega,?_⟩
      ·by_cases e:j=k
       ·subst e; exact ⟨hok,hin,hlast,fun h=>by have:=Z3 hok; omega⟩
       ·exact ha j h (by omega)
      ·refine dr ?_;trivial
 ·have hlast:0 < k→ltS l[k - 1].path l[k].path=true:=fun h=>by omega
  refine dr ?_;refine dEr ?_;repeat (refine c0 (J2 W0 hM _) rfl ?_; first|refine dEr ?_|exact dz)
  apply cP<;>intro h9
  ·have hc:=zag W0 l (pUp l[k].path);rw [Y0] at hc;refine dEr ?_;repeat (refine c0 hc rfl ?_; first|refine dEr ?_|exact dz)
   apply cP<;>intro h90
   ·refine dr ?_;exact no fun h=>by
     rcases yy.1 ((ju.1 h).2.2.2.1 _ (List.getElem_mem hk')) with h' | ⟨m,h1,_⟩
     ·exact h9 h'
     ·rw [h1] at h90; cases h90
   ·obtain ⟨m,hm⟩:=Option.isSome_iff_exists.1 h90;have hc2:=zbL W0 ((zH l (pUp l[k].path)).getD noM);refine dEr ?_;repeat (refine c0 hc2 rfl ?_; first|refine dEr ?_|exact dz)
    apply cP<;>intro h10
    ·refine dr ?_;exact no fun h=>by
      rcases yy.1 ((ju.1 h).2.2.2.1 _ (List.getElem_mem hk')) with h' | ⟨m,h1,h2⟩
      ·exact h9 h'
      ·rw [h1] at h10; exact h10 h2
    ·have hin:inD l l[k].path=true:=yy.2 (.inr ⟨m,hm,by rw [hm] at h10; exact h10⟩);refine dr ?_;apply cP<;>intro h11
     ·refine dEr ?_;repeat (refine c0 (ZR W0 hM l _) rfl ?_; first|refine dEr ?_|exact dz)
      apply cP<;>intro h13
      ·refine dr ?_;exact no fun h=>by
        have:=(ju.1 h).2.2.2.2 _ (List.getElem_mem hk') (by omega);rw [Zq (LG.of h) (yc hok)] at h13;rw [this] at h13; cases h13
      ·refine dr ?_;refine ⟨k+1,⟨by omega,fun j h hj=>?_⟩,by omega,?_⟩
       ·by_cases e:j=k
        ·subst e; exact ⟨hok,hin,hlast,fun _=>h13⟩
        ·exact ha j h (by omega)
       ·refine dr ?_;trivial
     ·refine dr ?_;apply cP<;>intro h12
      ·refine dEr ?_;repeat (refine c0 (ZR W0 hM l _) rfl ?_; first|refine dEr ?_|exact dz)
       apply cP<;>intro h13
       ·refine dr ?_;exact no fun h=>by
         have:=(ju.1 h).2.2.2.2 _ (List.getElem_mem hk') (by omega);rw [Zq (LG.of h) (yc hok)] at h13;rw [this] at h13; cases h13
       ·refine dr ?_;refine ⟨k+1,⟨by omega,fun j h hj=>?_⟩,by omega,?_⟩
        ·by_cases e:j=k
         ·subst e; exact ⟨hok,hin,hlast,fun _=>h13⟩
         ·exact ha j h (by omega)
        ·refine dr ?_;trivial
      ·refine dr ?_;refine ⟨k+1,⟨by omega,fun j h hj=>?_⟩,by omega,?_⟩
       ·by_cases e:j=k
        ·subst e; exact ⟨hok,hin,hlast,fun h=>by have:=Z3 hok; omega⟩
        ·exact ha j h (by omega)
       ·refine dr ?_;trivial
  ·have hin:inD l l[k].path=true:=yy.2 (.inl h9);refine dr ?_;apply cP<;>intro h11
   ·refine dEr ?_;repeat (refine c0 (ZR W0 hM l _) rfl ?_; first|refine dEr ?_|exact dz)
    apply cP<;>intro h13
    ·refine dr ?_;exact no fun h=>by
      have:=(ju.1 h).2.2.2.2 _ (List.getElem_mem hk') (by omega);rw [Zq (LG.of h) (yc hok)] at h13;rw [this] at h13; cases h13
    ·refine dr ?_;refine ⟨k+1,⟨by omega,fun j h hj=>?_⟩,by omega,?_⟩
     ·by_cases e:j=k
      ·subst e; exact ⟨hok,hin,hlast,fun _=>h13⟩
      ·exact ha j h (by omega)
     ·refine dr ?_;trivial
   ·refine dr ?_;apply cP<;>intro h12
    ·refine dEr ?_;repeat (refine c0 (ZR W0 hM l _) rfl ?_; first|refine dEr ?_|exact dz)
     apply cP<;>intro h13
     ·refine dr ?_;exact no fun h=>by
       have:=(ju.1 h).2.2.2.2 _ (List.getElem_mem hk') (by omega);rw [Zq (LG.of h) (yc hok)] at h13;rw [this] at h13; cases h13
     ·refine dr ?_;refine ⟨k+1,⟨by omega,fun j h hj=>?_⟩,by omega,?_⟩
      ·by_cases e:j=k
       ·subst e; exact ⟨hok,hin,hlast,fun _=>h13⟩
       ·exact ha j h (by omega)
      ·refine dr ?_;trivial
    ·refine dr ?_;refine ⟨k+1,⟨by omega,fun j h hj=>?_⟩,by omega,?_⟩
     ·by_cases e:j=k
      ·subst e; exact ⟨hok,hin,hlast,fun h=>by have:=Z3 hok; omega⟩
      ·exact ha j h (by omega)
     ·refine dr ?_;trivial
def ziD:XC:=(.s (.r [.a2 4 3 46,.m1 5 .n]) (.s (.s (.r [.mv 13 0,.c1 14 162 [13],.u1 15 14,.mv 16 15,.h3 17 1 16,.gf 18 (.call 57 [17]) 16,.gf 19 (.un .not 18) 16,.p1 20 16 19]) (.cnd 20 (.s (.r [.a2 4 3 46,.m1 5 .n]) .ret) .skip)) (.s (.r [.a2 6 3 46]) (.s (.s (.r [.mv 21 1,.n1 22 21,.m1 23 (.i 0)]) (.blk 0 (.loop (.s (.r [.b1 24 .lss 23 22]) (.s (.ce 24 0) (.s (.blk 1 (.s (.r [.i1 25 3 21 23,.l2 26 3 25,.ex 8 (.alloc zE),.s1 3 8 26]) (.s (.r [.mv 28 0,.f1 29 0 8,.l1 30 1 29,.c1 31 163 [28,30],.mv 27 31,.e1 32 27 0,.e1 33 27 1,.ex 9 (.alloc [sE,(I 0),sE]),.s1 3 9 32,.mv 10 33]) (.s (.r [.mv 34 10,.u1 35 34,.mv 36 35,.g3 37 0 36,.g1 38 0 8 36,.g2 39 1 38 36,.gt 40 (.call 164 [37,39]) 36,.gt 41 (.un .not 40) 36,.p2 42 36 41]) (.cnd 42 (.r [.mv 43 6,.l2 44 3 8,.ex 45 (.bsl 3 46 [44]),.ex 46 (.app false 3 40 46 43 45),.a1 6 46 3 46]) .skip))))) (.r [.b1 47 .add 23 (.i 1),.mv 23 47]))))))) (.s (.s (.r [.mv 48 0,.n1 49 48,.m1 50 (.i 0)]) (.blk 2 (.loop (.s (.r [.b1 51 .lss 50 49]) (.s (.ce 51 2) (.s (.blk 3 (.s (.r [.i1 52 3 48 50,.l2 53 3 52,.ex 12 (.alloc [sE,(I 0),sE]),.s1 3 12 53]) (.s (.r [.f1 54 1 12,.l1 55 1 54,.b1 56 .neq 55 (.i 3)]) (.cnd 56 (.d [.mv 57 6,.f1 58 0 12,.l1 59 1 58,.l2 60 3 12,.c1 61 165 [60],.f1 62 2 12,.l1 63 1 62,.ex 64 (.build zE [(0,(1,59)),(1,(1,61)),(2,(1,63))]),.ex 65 (.bsl 3 46 [64]),.ex 66 (.app false 3 40 46 57 65),.a1 6 66 3 46]) .skip)))) (.r [.b1 67 .add 50 (.i 1),.mv 50 67]))))))) (.s (.s (.r [.mv 68 6,.n1 69 68,.b1 70 .gtr 69 (.i 16)]) (.cnd 70 (.s (.r [.a2 4 3 46,.m1 5 .n]) .ret) .skip)) (.s (.r [.mv 71 6,.o1 72 61 [71]]) (.s (.r [.mv 73 6,.a1 4 73 3 46,.m1 5 .y]) .ret))))))))
theorem ziE:zc Tryz.prog [61] 114=some (ziD.ac,[(.t 4),(.t 5)],74):=by kernel_rfl
theorem zed (W0:World) (hM:HM W0) (l:List Mark) (t:List Ent):Fn Tryz.prog W0 114 [ze l,za t] (.c (Jr (lOn l t))) []:=by
 refine fX mixed ziE fun hg=>?_
 refine dEr ?_;repeat (refine c0 (zo4 W0 hM _) rfl ?_; first|refine dEr ?_|exact dz)
 apply cP<;>intro h1
 ·refine dr ?_;rw [lOn,if_neg (by simp [h1])]<;>rfl
 refine dEr ?_;repeat (refine c0 (J3 W0 hM _) rfl ?_; first|refine dEr ?_|exact dz)
 apply cP<;>intro h2
 ·refine dr ?_;rw [lOn,if_neg (by simp [h2])]<;>rfl
 have gl:=LG.of h1;have gt:=TG.of h2;have hll:=(ju.1 h1).1;have htl:=gt.len;have e:lOn l t=if (onX l t).length≤16 then some (jG l t) else none:=by rw [lOn,if_pos (by simp [h1,h2]),zrE h1 gt.srt]
 rw [e];refine dr ?_;refine lp2 (fun (k:Nat) (out:List Ent)=>[(0,.c (ze l)),(6,.own 96 out.length),(21,.c (za t)),(22,I t.length),(23,I k)]) (fun _ out=>[(96,.row (out.map eEnt) 3 46)]) (fun k out=>k≤t.length∧out=(t.take k).filter (fun e=>!(zH l e.path).isSome&&!zJ l e.path)∧out.length≤k) (fun k _=>t.length - k) 0 [] ⟨by simp,rfl,by simp⟩ ?_ ?_
 ·refine dr ?_;trivial
 rintro k out ⟨hk,ho,hle⟩;refine dr ?_;apply cP<;>intro h3
 ·have hk':k < t.length:=by omega
  have hc:=zag W0 l t[k].path;rw [Y0] at hc;have hh:=zo8 W0 hM l t[k].path;rw [zqR gl (gt.path (List.getElem_mem hk'))] at hh;refine dEr ?_;repeat (refine c0 hc rfl ?_; first|refine dEr ?_|exact dz)
  apply cP<;>intro h4
  ·refine dEr ?_;repeat (refine c0 hh rfl ?_; first|refine dEr ?_|exact dz)
   apply cP<;>intro h5
   ·refine dr ?_;repeat ((first|refine oB (by simp; omega) ?_|refine oB (by simp) ?_); first|refine dr ?_|exact dz)
    refine ⟨k+1,out++[t[k]],⟨by omega,by rw [qx hk' (by simp [h4,h5]),ho],by simp; omega⟩,by omega,?_⟩;refine dr ?_;repeat (refine oB (by simp<;>rfl) ?_; first|refine dr ?_|exact dz)
    trivial
   ·refine dr ?_;refine ⟨k+1,out,⟨by omega,by rw [qe hk' (by simp [h5]),ho],by omega⟩,by omega,?_⟩;refine dr ?_;trivial
  ·refine dr ?_;refine ⟨k+1,out,⟨by omega,by rw [qe hk' (by simp [h4]),ho],by omega⟩,by omega,?_⟩;refine dr ?_;trivial
 have hkl:k=t.length:=by omega
 rw [hkl,List.take_length] at ho;have hX:onX l t=out++l.filterMap jF:=by rw [onX,ho]
 have hout:out.length≤16:=by omega
 clear ho hle hk h3 hkl;rw [hX];generalize hoo:out=o0 at *;refine dr ?_;refine lp2 (fun (k:Nat) (out:List Ent)=>[(6,.own 96 out.length),(48,.c (ze l)),(49,I l.length),(50,I k)]) (fun _ out=>[(96,.row (out.map eEnt) 3 46)]) (fun k out=>k≤l.length∧out=o0++(l.take k).filterMap jF∧out.length≤o0.length+k) (fun k _=>l.length - k) 0 o0 ⟨by simp,by simp,by simp⟩ ?_ ?_
 ·refine dr ?_;trivial
 clear hoo;rintro k out ⟨hk,ho,hle⟩;refine dr ?_;apply cP<;>intro h3
 ·have hk':k < l.length:=by omega
  have hmk:=Z3 (gl.ok _ (List.getElem_mem hk'));have hn:o0++(l.take (k+1)).filterMap jF=out++(jF l[k]).toList:=by rw [zbX hk',← List.append_assoc,← ho]
  refine dr ?_;apply cP<;>intro h4
  ·have he:jF l[k]=some ⟨l[k].path,decide (l[k].kind=2∨l[k].kind=4),l[k].data⟩:=by
    unfold jF;by_cases h5:l[k].kind=1
    ·rw [if_pos h5]; simp [h5]
    ·rw [if_neg h5,if_pos (by omega)];have:=zf1 (gl.ok _ (List.getElem_mem hk')) h5;rw [this]; simp; omega
   rw [he] at hn;refine dEr ?_;repeat ((first|refine c0 (zbL W0 l[k]) rfl ?_|refine oB (by simp; omega) ?_|refine oB (by simp) ?_); first|refine dEr ?_|exact dz)
   refine ⟨k+1,_,⟨by omega,hn.symm,by simp; omega⟩,by omega,?_⟩;refine dr ?_;repeat (refine oB (by simp<;>rfl) ?_; first|refine dr ?_|exact dz)
   trivial
  ·have he:jF l[k]=none:=by unfold jF; rw [if_neg (by omega),if_neg (by omega)]
   rw [he] at hn;refine dr ?_;refine ⟨k+1,out,⟨by omega,by rw [hn]; simp,by omega⟩,by omega,?_⟩;refine dr ?_;trivial
 have hkl:k=l.length:=by omega
 rw [hkl,List.take_length] at ho;rw [← ho];have hX2:onX l t=out:=by rw [hX,ho]
 refine dr ?_;apply cP<;>intro h5
 ·refine dr ?_;rw [if_neg (by omega)]<;>rfl
 ·refine dr ?_;refine oW ((zah W0 out (by omega)).swp 1 96) rfl ⟨rfl,trivial⟩ rfl rfl JJ fun S hS=>⟨rfl,?_⟩
  refine dEr ?_;repeat (refine oB (by simp [hS.len]) ?_; first|refine dEr ?_|exact dz)
  rw [← hX2] at hS;rw [if_pos (by omega),zrF h1 gt.srt hS]<;>rfl

def zi1:XC:=(.s (.r [.a2 4 1 9]) (.s (.s (.r [.mv 8 0,.c1 9 57 [8],.u1 10 9,.mv 11 10,.h3 12 1 11,.gf 13 (.call 57 [12]) 11,.gf 14 (.un .not 13) 11,.p1 15 11 14]) (.cnd 15 (.s (.r [.a2 4 1 9]) .ret) .skip)) (.s (.r [.a2 5 1 9]) (.s (.r [.m1 6 (.i 0),.m1 7 (.i 0)]) (.s (.blk 0 (.loop (.s (.s (.r [.mv 16 6,.mv 17 0,.n1 18 17,.b1 19 .lss 16 18,.mv 20 19,.h3 21 7 20,.h3 22 1 20,.gf 23 (.len false 22) 20,.gf 24 (.bin .lss 21 23) 20,.p1 25 20 24]) (.ce 25 0)) (.blk 1 (.blk 2 (.s (.d [.mv 48 7,.mv 49 1,.n1 50 49,.b1 51 .eql 48 50,.mv 52 51,.h3 53 6 52,.h3 54 0 52,.gf 55 (.len false 54) 52,.gf 56 (.bin .lss 53 55) 52,.h3 57 56 52,.g3 58 0 57,.g3 59 6 57,.gt 60 (.ia 3 58 59) 57,.g1 61 0 60 57,.g2 62 1 61 57,.g3 63 1 57,.g3 64 7 57,.gt 65 (.ia 3 63 64) 57,.g1 66 0 65 57,.g2 67 1 66 57,.gt 68 (.bin .lss 62 67) 57,.gf 69 (.pick 57 68 .n) 52,.p1 70 52 69,.mv 47 70]) (.cnd 47 (.s (.r [.mv 71 5,.mv 72 0,.mv 73 6,.i1 74 3 72 73,.f1 75 0 74,.l1 76 1 75,.ex 77 (.bsl 1 9 [76]),.ex 78 (.app false 1 16 9 71 77),.a1 5 78 1 9]) (.ic 79 80 6)) (.s (.d [.mv 82 6,.mv 83 0,.n1 84 83,.b1 85 .eql 82 84,.mv 86 85,.h3 87 1 86,.h3 88 7 86,.gf 89 (.ia 3 87 88) 86,.h1 90 0 89 86,.h2 91 1 90 86,.h3 92 0 86,.h3 93 6 86,.gf 94 (.ia 3 92 93) 86,.h1 95 0 94 86,.h2 96 1 95 86,.gf 97 (.bin .lss 91 96) 86,.p1 98 86 97,.mv 81 98]) (.cnd 81 (.s (.r [.mv 99 5,.mv 100 1,.mv 101 7,.i1 102 3 100 101,.f1 103 0 102,.l1 104 1 103,.ex 105 (.bsl 1 9 [104]),.ex 106 (.app false 1 16 9 99 105),.a1 5 106 1 9]) (.ic 107 108 7)) (.s (.s (.d [.mv 26 0,.mv 27 6,.i1 28 3 26 27,.l2 29 3 28,.mv 30 1,.mv 31 7,.i1 32 3 30 31,.l2 33 3 32,.ex 34 (.beq true [.s,.b,.s] 29 33)]) (.cnd 34 (.r [.mv 35 5,.mv 36 0,.mv 37 6,.i1 38 3 36 37,.f1 39 0 38,.l1 40 1 39,.ex 41 (.bsl 1 9 [40]),.ex 42 (.app false 1 16 9 35 41),.a1 5 42 1 9]) .skip)) (.s (.ic 43 44 6) (.ic 45 46 7)))))))))))) (.s (.r [.mv 109 5,.a1 4 109 1 9]) .ret))))))
theorem zi2:zc Tryz.prog [] 20=some (zi1.ac,[(.t 4)],110):=by kernel_rfl
def yi (a b:List Ent):List Str:=if (tOk a&&tOk b)=true then zZ a b else []
theorem zro {x:Ent} {a:List Ent}:z8 (x::a) []=x.path::z8 a []:=by rw [z8]
theorem zrn {x:Ent} {a:List Ent}:z8 [] (x::a)=x.path::z8 [] a:=by rw [z8]
theorem zcs {x y:Ent} {a b:List Ent}:z8 (x::a) (y::b)=if ltS x.path y.path=true then x.path::z8 a (y::b) else if ltS y.path x.path=true then y.path::z8 (x::a) b else if x=y then z8 a b else x.path::z8 a b:=by rw [z8]
theorem zbG (W0:World) (hM:HM W0) (a b:List Ent):Fn Tryz.prog W0 20 [za a,za b] (.c (jo (yi a b))) []:=by
 refine fX mixed zi2 fun hg=>?_
 refine dEr ?_;repeat (refine c0 (J3 W0 hM _) rfl ?_; first|refine dEr ?_|exact dz)
 apply cP<;>intro h1
 ·refine dr ?_;repeat (refine oB (by simp) ?_; first|refine dr ?_|exact dz)
  rw [yi,if_neg (by simp [h1])]<;>rfl
 refine dEr ?_;repeat (refine c0 (J3 W0 hM _) rfl ?_; first|refine dEr ?_|exact dz)
 apply cP<;>intro h2
 ·refine dr ?_;repeat (refine oB (by simp) ?_; first|refine dr ?_|exact dz)
  rw [yi,if_neg (by simp [h2])]<;>rfl
 have ga:=TG.of h1;have gb:=TG.of h2;have la:=ga.len;have lb:=gb.len;rw [yi,if_pos (by simp [h1,h2]),← zrq ga gb];refine dr ?_;refine lp3 (fun (i j:Nat) (out:List Str)=>[(0,.c (za a)),(1,.c (za b)),(5,.own 80 out.length),(6,I i),(7,I j)]) (fun _ _ out=>[(80,.row (out.map CS) 1 9)])
  (fun i j out=>i≤a.length∧j≤b.length∧out++z8 (a.drop i) (b.drop j)=z8 a b∧out.length≤i+j) (fun i j _=>a.length+b.length - i - j) 0 0 [] ⟨by simp,by simp,by simp,by simp⟩ ?_ ?_
 ·refine dr ?_;trivial
 rintro i j out ⟨hi,hj,ho,hle⟩;have stepA:∀ (h:i < a.length),j=b.length∨(∃ h':j < b.length,ltS a[i].path b[j].path=true)→(out++[a[i].path])++z8 (a.drop (i+1)) (b.drop j)=z8 a b:=fun h hc=>by
  rw [← ho,List.drop_eq_getElem_cons h];rcases hc with hc | ⟨h',hc⟩
  ·rw [List.drop_of_length_le (l:=b) (by omega),zro]; simp
  ·rw [List.drop_eq_getElem_cons h',zcs,if_pos hc]; simp
 have stepB:∀ (h:j < b.length),i=a.length∨(∃ h':i < a.length,ltS a[i].path b[j].path=false∧ltS b[j].path a[i].path=true)→(out++[b[j].path])++z8 (a.drop i) (b.drop (j+1))=z8 a b:=fun h hc=>by
  rw [← ho,List.drop_eq_getElem_cons (l:=b) h];rcases hc with hc | ⟨h',hc,hc2⟩
  ·rw [List.drop_of_length_le (l:=a) (by omega),zrn]; simp
  ·rw [List.drop_eq_getElem_cons h',zcs,if_neg (by rw [hc]; simp),if_pos hc2]; simp
 refine dr ?_;apply cP<;>intro hA
 ·have hA':i < a.length:=by omega
  refine dr ?_;apply cP<;>intro hB
  ·refine dr ?_;repeat ((first|refine oB (by simp; omega) ?_|refine oB (by simp) ?_); first|refine dr ?_|exact dz)
   refine ⟨i+1,j,out++[a[i].path],⟨by omega,by omega,stepA hA' (.inl (by omega)),by simp; omega⟩,by omega,?_⟩;refine dr ?_;repeat (refine oB (by simp<;>rfl) ?_; first|refine dr ?_|exact dz)
   trivial
  ·have hB':j < b.length:=by omega
   refine dr ?_;apply cP<;>intro hA2;rotate_left
   ·omega
   refine dr ?_;apply cP<;>intro hC
   ·refine dr ?_;repeat ((first|refine oB (by simp; omega) ?_|refine oB (by simp) ?_); first|refine dr ?_|exact dz)
    refine ⟨i+1,j,out++[a[i].path],⟨by omega,by omega,stepA hA' (.inr ⟨hB',hC⟩),by simp; omega⟩,by omega,?_⟩;refine dr ?_;repeat (refine oB (by simp<;>rfl) ?_; first|refine dr ?_|exact dz)
    trivial
   refine dr ?_;apply cP<;>intro hD
   ·omega
   refine dr ?_;apply cP<;>intro hE
   ·refine dr ?_;repeat ((first|refine oB (by simp; omega) ?_|refine oB (by simp) ?_); first|refine dr ?_|exact dz)
    refine ⟨i,j+1,out++[b[j].path],⟨by omega,by omega,stepB hB' (.inr ⟨hA',hC,hE⟩),by simp; omega⟩,by omega,?_⟩;refine dr ?_;repeat (refine oB (by simp<;>rfl) ?_; first|refine dr ?_|exact dz)
    trivial
   have hm:z8 (a.drop i) (b.drop j)=if a[i]=b[j] then z8 (a.drop (i+1)) (b.drop (j+1)) else a[i].path::z8 (a.drop (i+1)) (b.drop (j+1)):=by
    rw [List.drop_eq_getElem_cons hA',List.drop_eq_getElem_cons hB',zcs,if_neg (by rw [hC]; simp),if_neg (by rw [hE]; simp)]
   refine dr ?_;apply cP<;>intro hF
   ·have hne:a[i]≠b[j]:=by have:=Jk a[i] b[j]; rw [hF] at this; simpa using this
    rw [if_neg hne] at hm;refine dr ?_;repeat ((first|refine oB (by simp; omega) ?_|refine oB (by simp) ?_); first|refine dr ?_|exact dz)
    refine ⟨i+1,j+1,out++[a[i].path],⟨by omega,by omega,by rw [← ho,hm]; simp,by simp; omega⟩,by omega,?_⟩;refine dr ?_;repeat (refine oB (by simp<;>rfl) ?_; first|refine dr ?_|exact dz)
    trivial
   ·have heq:a[i]=b[j]:=by have:=Jk a[i] b[j]; rw [hF] at this; simpa using this
    rw [if_pos heq] at hm;refine dr ?_;refine ⟨i+1,j+1,out,⟨by omega,by omega,by rw [← ho,hm],by omega⟩,by omega,?_⟩;refine dr ?_;trivial
 ·have hA':i=a.length:=by omega
  refine dr ?_;apply cP<;>intro hB
  ·have hB':j < b.length:=by omega
   refine dr ?_;apply cP<;>intro hB2
   ·omega
   refine dr ?_;apply cP<;>intro hA2
   ·omega
   refine dr ?_;apply cP<;>intro hD;rotate_left
   ·omega
   refine dr ?_;repeat ((first|refine oB (by simp; omega) ?_|refine oB (by simp) ?_); first|refine dr ?_|exact dz)
   refine ⟨i,j+1,out++[b[j].path],⟨by omega,by omega,stepB hB' (.inl hA'),by simp; omega⟩,by omega,?_⟩;refine dr ?_;repeat (refine oB (by simp<;>rfl) ?_; first|refine dr ?_|exact dz)
   trivial
  ·have hj':j=b.length:=by omega
   rw [hA',hj',List.drop_length,List.drop_length,z8,List.append_nil] at ho;refine dr ?_;repeat (refine oB (by simp) ?_; first|refine dr ?_|exact dz)
   rw [← ho]<;>rfl
def ziz:XC:=(.s (.r [.a2 4 3 148]) (.s (.r [.a2 5 3 148]) (.s (.s (.r [.mv 14 0,.mv 15 1,.c1 16 20 [14,15],.n1 17 16,.m1 18 (.i 0)]) (.blk 0 (.loop (.s (.r [.b1 19 .lss 18 17]) (.s (.ce 19 0) (.s (.blk 1 (.s (.r [.i1 20 1 16 18,.l1 21 1 20,.mv 7 21]) (.s (.r [.mv 23 1,.mv 24 7,.c1 25 72 [23,24],.mv 22 25,.e1 26 22 0,.e1 27 22 1,.ex 8 (.alloc zE),.s1 3 8 26,.mv 9 27]) (.blk 2 (.s (.r [.mv 29 9,.mv 30 29,.g1 31 1 8 30,.g2 32 1 31 30,.p2 33 30 32,.mv 28 33]) (.cnd 28 (.r [.mv 34 5,.mv 35 7,.ex 36 (.build [sE,(I 0),sE] [(0,(1,35)),(1,(1,(.i 2)))]),.ex 37 (.bsl 3 148 [36]),.ex 38 (.app false 3 40 148 34 37),.a1 5 38 3 148]) (.s (.r [.mv 40 9,.mv 39 40]) (.cnd 39 (.r [.mv 41 5,.mv 42 7,.f1 43 2 8,.l1 44 1 43,.ex 45 (.build [sE,(I 0),sE] [(0,(1,42)),(1,(1,(.i 1))),(2,(1,44))]),.ex 46 (.bsl 3 148 [45]),.ex 47 (.app false 3 40 148 41 46),.a1 5 47 3 148]) (.s (.r [.mv 49 1,.mv 50 7,.c1 51 117 [49,50],.b1 52 .eql 51 (.i 0),.mv 48 52]) (.cnd 48 (.r [.mv 53 5,.mv 54 7,.ex 55 (.build [sE,(I 0),sE] [(0,(1,54)),(1,(1,(.i 3)))]),.ex 56 (.bsl 3 148 [55]),.ex 57 (.app false 3 40 148 53 56),.a1 5 57 3 148]) .skip)))))))))) (.r [.b1 58 .add 18 (.i 1),.mv 18 58]))))))) (.s (.s (.r [.mv 59 5,.n1 60 59,.m1 61 (.i 0)]) (.blk 3 (.loop (.s (.r [.b1 62 .lss 61 60]) (.s (.ce 62 3) (.s (.blk 4 (.s (.r [.mv 63 61,.mv 10 63]) (.s (.r [.mv 64 5,.mv 65 10,.i1 66 3 64 65,.f1 67 0 66,.l1 68 1 67,.c1 69 166 [68],.mv 11 69]) (.blk 5 (.loop (.s (.s (.r [.mv 70 11,.ex 71 (.bin .neq 70 (.s [47]))]) (.ce 71 5)) (.s (.blk 6 (.s (.r [.mv 75 5,.mv 76 11,.c1 77 163 [75,76],.mv 74 77,.e1 78 74 0,.e1 79 74 1,.ex 12 (.alloc [sE,(I 0),sE]),.s1 3 12 78,.mv 13 79]) (.s (.r [.mv 80 13,.u1 81 80]) (.cnd 81 (.r [.mv 82 5,.mv 83 11,.ex 84 (.build [sE,(I 0),sE] [(0,(1,83)),(1,(1,(.i 2)))]),.ex 85 (.bsl 3 148 [84]),.ex 86 (.app false 3 40 148 82 85),.a1 5 86 3 148]) .skip)))) (.r [.mv 72 11,.c1 73 166 [72],.mv 11 73])))))))) (.r [.b1 87 .add 61 (.i 1),.mv 61 87]))))))) (.s (.r [.mv 88 5,.o1 89 167 [88]]) (.s (.r [.mv 90 5,.a1 4 90 3 148]) .ret))))))
theorem ziA:zc Tryz.prog [167] 115=some (ziz.ac,[(.t 4)],91):=by kernel_rfl
def QS (a b:List Ent):List Mark:=if (tOk a&&tOk b)=true then jf a b else []
theorem zgu {l l0:List Mark} {u:Str} (h:∃ s,l=l0++s):∃ s,qd l u=l0++s:=by
 obtain ⟨s,rfl⟩:=h;unfold qd;split
 ·exact ⟨s,rfl⟩
 ·exact ⟨s++[⟨u,2,[]⟩],by simp⟩
theorem zdi {l:List Mark} {u:Str}:(qd l u).length≤l.length+1:=by
 unfold qd; split<;>simp
theorem ztn {m:Nat} {q:Str} (h:pUp q=[47]):jJ m q=[]:=by
 cases m with
 | zero=>rfl
 | succ m=>unfold jJ; rw [if_pos h]
theorem ze4:∀ {us:List Str} {l:List Mark},(us.foldl qd l).length≤l.length+us.length
 | [],l=>by simp
 | u::us,l=>by
  have h:=ze4 (us:=us) (l:=qd l u);have h2:=zdi (l:=l) (u:=u);simp only [List.foldl_cons,List.length_cons]; omega
theorem zhN {l:List Mark} {m:Mark}:(qT l m).length≤l.length+3:=by
 have h:=ze4 (us:=jJ 3 m.path) (l:=l);have h2:=zdd 3 m.path;unfold qT; omega
theorem zec (W0:World) (hM:HM W0) (a b:List Ent):Fn Tryz.prog W0 115 [za a,za b] (.c (ze (QS a b))) []:=by
 refine fX mixed ziA fun hg=>?_
 have hT:(∀ p∈yi a b,pOk p=true)∧(yi a b).length≤32∧(yi a b≠[]→TG b):=by
  unfold yi;split
  ·rename_i h;simp only [Bool.and_eq_true] at h;have h1:=(yu h.1).1;have h2:=(yu h.2).1;have h3:=zc9 (a:=a) (b:=b);exact ⟨fun p hp=>zhw h.1 h.2 hp,by omega,fun _=>TG.of h.2⟩
  ·exact ⟨fun p hp=>(by cases hp),by simp,fun h=>absurd rfl h⟩
 obtain ⟨hT1,hT2,hT3⟩:=hT;have hfin:∀ S,qF Mark.path (((yi a b).filterMap (zY b)).foldl qT ((yi a b).filterMap (zY b))) S→S=QS a b:=by
  intro S hS;unfold yi at hS;unfold QS;split at hS
  ·rename_i h;rw [if_pos h];simp only [Bool.and_eq_true] at h;exact zoo (TG.of h.1) (TG.of h.2) hS
  ·rename_i h;rw [if_neg h];exact List.Perm.eq_nil hS.1
 refine dEr ?_;repeat (refine c0 (zbG W0 hM a b) rfl ?_; first|refine dEr ?_|exact dz)
 generalize yi a b=T at *;refine lp2 (fun (k:Nat) (out:List Mark)=>[(1,.c (za b)),(5,.own 80 out.length),(16,.c (jo T)),(17,I T.length),(18,I k)]) (fun _ out=>[(80,.row (out.map ql) 3 148)]) (fun k out=>k≤T.length∧out=(T.take k).filterMap (zY b)∧out.length≤k) (fun k _=>T.length - k) 0 [] ⟨by simp,rfl,by simp⟩ ?_ ?_
 ·refine dr ?_;trivial
 rintro k out ⟨hk,ho,hle⟩;refine dr ?_;apply cP<;>intro h1
 ·have hk':k < T.length:=by omega
  have gb:=hT3 (fun e=>by rw [e] at hk'; simp at hk');have hp:=hT1 _ (List.getElem_mem hk');have hn:(T.take (k+1)).filterMap (zY b)=out++(zY b T[k]).toList:=by rw [zbX hk',← ho]
  have hc:=Zx W0 b T[k];cases hx:find b T[k] with
  | some e =>
   rw [hx] at hc;refine dEr ?_;repeat (refine c0 hc rfl ?_; first|refine dEr ?_|exact dz)
   apply cP<;>intro h2
   ·have e1:zY b T[k]=some ⟨T[k],2,[]⟩:=by
     have:=gb.data (jX hx).2 h2;unfold zY; rw [jj hp,hx]; simp [h2,this]
    rw [e1] at hn;refine dr ?_;repeat ((first|refine oB (by simp; omega) ?_|refine oB (by simp) ?_); first|refine dr ?_|exact dz)
    refine ⟨k+1,out++[⟨T[k],2,[]⟩],⟨by omega,by rw [hn]; rfl,by simp; omega⟩,by omega,?_⟩;refine dr ?_;repeat (refine oB (by simp<;>rfl) ?_; first|refine dr ?_|exact dz)
    trivial
   ·have e1:zY b T[k]=some ⟨T[k],1,e.data⟩:=by
     unfold zY; rw [jj hp,hx]; simp [h2]
    rw [e1] at hn;refine dr ?_;repeat ((first|refine oB (by simp; omega) ?_|refine oB (by simp) ?_); first|refine dr ?_|exact dz)
    refine ⟨k+1,out++[⟨T[k],1,e.data⟩],⟨by omega,by rw [hn]; rfl,by simp; omega⟩,by omega,?_⟩;refine dr ?_;repeat (refine oB (by simp<;>rfl) ?_; first|refine dr ?_|exact dz)
    trivial
  | none =>
   rw [hx] at hc;refine dEr ?_;repeat ((first|refine c0 hc rfl ?_|refine c0 (ZS W0 hM b _) rfl ?_); first|refine dEr ?_|exact dz)
   apply cP<;>intro h2
   ·have e1:zY b T[k]=some ⟨T[k],3,[]⟩:=by
     unfold zY; rw [jj hp,hx]; simp only [yX.1 h2,if_true]
    rw [e1] at hn;refine dr ?_;repeat ((first|refine oB (by simp; omega) ?_|refine oB (by simp) ?_); first|refine dr ?_|exact dz)
    refine ⟨k+1,out++[⟨T[k],3,[]⟩],⟨by omega,by rw [hn]; rfl,by simp; omega⟩,by omega,?_⟩;refine dr ?_;repeat (refine oB (by simp<;>rfl) ?_; first|refine dr ?_|exact dz)
    trivial
   ·have e1:zY b T[k]=none:=by
     have:zK b (pUp T[k])=false:=by
      rw [Bool.eq_false_iff]; exact fun e=>h2 (yX.2 e)
     unfold zY; rw [jj hp,hx]; simp [this]
    rw [e1] at hn;refine dr ?_;refine ⟨k+1,out,⟨by omega,by rw [hn]; simp,by omega⟩,by omega,?_⟩;refine dr ?_;trivial
 have hkl:k=T.length:=by omega
 rw [hkl,List.take_length] at ho;have hpo:∀ m∈out,pOk m.path=true:=fun m hm=>by
  rw [ho] at hm;obtain ⟨p,hp,e⟩:=List.mem_filterMap.1 hm;rw [Zv e]; exact hT1 p hp
 rw [← ho] at hfin;have hol:out.length≤32:=by omega
 clear ho hle hk h1 hkl hT1 hT2 hT3;generalize hoo:out=D at *;refine dr ?_;refine lp2 (fun (k:Nat) (out:List Mark)=>[(5,.own 80 out.length),(60,I D.length),(61,I k)]) (fun _ out=>[(80,.row (out.map ql) 3 148)]) (fun k out=>k≤D.length∧out=(D.take k).foldl qT D∧out.length≤D.length+3 * k∧∃ s,out=D++s) (fun k _=>D.length - k) 0 D ⟨by simp,by simp,by simp,[],by simp⟩ ?_ ?_
 ·refine dr ?_;trivial
 clear hoo;rintro k out ⟨hk,ho,hle,hs⟩;refine dr ?_;apply cP<;>intro h1
 ·have hk':k < D.length:=by omega
  have hko:k < out.length:=by obtain ⟨s,rfl⟩:=hs; simp; omega
  have hget:out[k]=D[k]:=by
   obtain ⟨s,rfl⟩:=hs;rw [List.getElem_append_left hk']
  have hp:=hpo _ (List.getElem_mem hk');have hn:(D.take (k+1)).foldl qT D=qT out D[k]:=by rw [qX hk',← ho]
  have hnl:=zhN (l:=out) (m:=D[k]);refine dEr ?_;repeat (refine c0 (J2 W0 hM _) rfl ?_; first|refine dEr ?_|exact dz)
  rw [hget];refine lp3 (fun (m:Nat) (q:Str) (o:List Mark)=>[(5,.own 80 o.length),(60,I D.length),(61,I k),(11,.c (CS (pUp q)))]) (fun _ _ o=>[(80,.row (o.map ql) 3 148)])
   (fun m q o=>pOk q=true∧(names q).length≤m∧(jJ m q).foldl qd o=qT out D[k]∧o.length+m≤out.length+3∧∃ s,o=D++s) (fun m _ _=>m) 3 D[k].path out ⟨hp,(ye hp).1.2,rfl,by omega,hs⟩ ?_ ?_
  ·refine dr ?_;trivial
  rintro m q o ⟨hq,hqn,hqo,hql,hqs⟩;refine dr ?_;apply cP<;>intro h2
  ·obtain ⟨u1,_,u3⟩:=yp hq h2;cases m with
   | zero=>have:=(ye hq).1.1; omega
   | succ m =>
    have hqo2:(jJ m (pUp q)).foldl qd (qd o (pUp q))=qT out D[k]:=by
     rw [← hqo]; conv=>rhs; rw [jJ,if_neg h2]
     rfl
    have hal:=zdi (l:=o) (u:=pUp q);have hc:=zag W0 o (pUp q);rw [Y0] at hc;refine dEr ?_;repeat (refine c0 hc rfl ?_; first|refine dEr ?_|exact dz)
    apply cP<;>intro h3
    ·have e1:qd o (pUp q)=o++[⟨pUp q,2,[]⟩]:=by unfold qd; rw [if_neg (by simp [h3])]
     refine dEr ?_;repeat ((first|refine oB (by simp; omega) ?_|refine oB (by simp) ?_|refine c0 (J2 W0 hM _) rfl ?_); first|refine dEr ?_|exact dz)
     refine ⟨m,pUp q,qd o (pUp q),⟨u1,by omega,hqo2,by omega,zgu hqs⟩,by omega,?_⟩;refine dr ?_;repeat (refine oB (by simp [e1]<;>rfl) ?_; first|refine dr ?_|exact dz)
     trivial
    ·have e1:qd o (pUp q)=o:=by unfold qd; rw [if_pos h3]
     refine dEr ?_;repeat (refine c0 (J2 W0 hM _) rfl ?_; first|refine dEr ?_|exact dz)
     refine ⟨m,pUp q,qd o (pUp q),⟨u1,by omega,hqo2,by omega,zgu hqs⟩,by omega,?_⟩;refine dr ?_;repeat (refine oB (by simp [e1]<;>rfl) ?_; first|refine dr ?_|exact dz)
     trivial
  ·rw [ztn h2] at hqo;have hqo:o=qT out D[k]:=hqo;refine dr ?_;refine ⟨k+1,o,⟨by omega,by rw [hn,hqo],by rw [hqo]; omega,hqs⟩,by omega,?_⟩;refine dr ?_;trivial
 have hkl:k=D.length:=by omega
 rw [hkl,List.take_length] at ho;rw [← ho] at hfin;refine dr ?_;refine oW ((zp8 W0 out (by omega)).swp 1 80) rfl ⟨rfl,trivial⟩ rfl rfl JJ fun S hS=>⟨rfl,?_⟩
 refine dEr ?_;repeat (refine oB (by simp [hS.len]) ?_; first|refine dEr ?_|exact dz)
 rw [hfin S hS]<;>rfl

def yd (o:Over):Option (List Ent × List Ent):=match jy o with
 | none=>none
 | some t=>match lOn o.upper t with
  | none=>none
  | some x=>if o.upper=jf t x then some (t,x) else none
def eOT:Option (List Ent × List Ent)→CV
 | none => .tup [za [],za [],CB false]
 | some x => .tup [za x.1,za x.2,CB true]
theorem zcx {o:Over}:oOk o=(yd o).isSome:=by
 unfold oOk yd z7;cases jy o with
 | none=>rfl
 | some t =>
  simp only;cases lOn o.upper t with
  | none=>rfl
  | some x =>
   simp only;by_cases h:o.upper=jf t x
   ·rw [if_pos h]; simp [h]
   ·rw [if_neg h]; simp [h]
theorem zrx {o:Over} {t x:List Ent} (h:yd o=some (t,x)):oOk o=true∧jy o=some t∧z7 o=some x∧o.upper=jf t x:=by
 refine ⟨by rw [zcx,h]; rfl,?_⟩;unfold yd at h;split at h
 ·cases h
 ·rename_i t' h1;split at h
  ·cases h
  ·rename_i x' h2;split at h
   ·rename_i h3; cases h; exact ⟨h1,by rw [z7,h1]; exact h2,h3⟩
   ·cases h
def zjZ:XC:=(.s (.r [.x1 1 0,.a2 2 3 46,.a2 3 3 46,.m1 4 .n]) (.s (.s (.r [.f1 12 0 1,.l1 13 1 12,.c1 14 57 [13],.u1 15 14,.mv 16 15,.h1 17 1 1 16,.h2 18 1 17 16,.gf 19 (.len false 18) 16,.gf 20 (.bin .gtr 19 (.i 4)) 16,.p1 21 16 20]) (.cnd 21 (.s (.r [.a2 2 3 46,.a2 3 3 46,.m1 4 .n]) .ret) .skip)) (.s (.r [.f1 22 0 1,.l1 23 1 22,.c1 24 59 [23],.a1 5 24 3 46]) (.s (.s (.r [.f1 25 1 1,.l1 26 1 25,.n1 27 26,.m1 28 (.i 0)]) (.blk 0 (.loop (.s (.r [.b1 29 .lss 28 27]) (.s (.ce 29 0) (.s (.blk 1 (.s (.r [.i1 30 1 26 28,.l1 31 1 30,.a1 7 31 3 148]) (.s (.r [.mv 33 7,.mv 34 5,.c1 35 114 [33,34],.mv 32 35,.e1 36 32 0,.e1 37 32 1,.a1 8 36 3 46,.mv 9 37]) (.s (.s (.r [.mv 38 9,.u1 39 38]) (.cnd 39 (.s (.r [.a2 2 3 46,.a2 3 3 46,.m1 4 .n]) .ret) .skip)) (.r [.mv 40 8,.a1 5 40 3 46]))))) (.r [.b1 41 .add 28 (.i 1),.mv 28 41]))))))) (.s (.r [.f1 43 2 1,.l1 44 1 43,.mv 45 5,.c1 46 114 [44,45],.mv 42 46,.e1 47 42 0,.e1 48 42 1,.a1 10 47 3 46,.mv 11 48]) (.s (.s (.d [.mv 49 11,.u1 50 49,.mv 51 50,.h1 52 2 1 51,.h2 53 1 52 51,.h3 54 5 51,.h3 55 10 51,.gf 56 (.call 115 [54,55]) 51,.gf 57 (.call 85 [53,56]) 51,.gf 58 (.un .not 57) 51,.p1 59 51 58]) (.cnd 59 (.s (.r [.a2 2 3 46,.a2 3 3 46,.m1 4 .n]) .ret) .skip)) (.s (.r [.mv 60 5,.mv 61 10,.a1 2 60 3 46,.a1 3 61 3 46,.m1 4 .y]) .ret)))))))
theorem zj0:zc Tryz.prog [] 56=some (zjZ.ac,[(.t 2),(.t 3),(.t 4)],62):=by kernel_rfl
theorem zex (W0:World) (hM:HM W0) (o:Over):Fn Tryz.prog W0 56 [jR o] (.c (eOT (yd o))) []:=by
 refine fX mixed zj0 fun hg=>?_
 have no:jy o=none→CV.tup [za [],za [],CB false]=eOT (yd o):=fun h=>by rw [yd,h]; rfl
 refine dEr ?_;repeat (refine c0 (J3 W0 hM _) rfl ?_; first|refine dEr ?_|exact dz)
 apply cP<;>intro h1
 ·refine dr ?_;repeat (refine oB (by simp) ?_; first|refine dr ?_|exact dz)
  exact no (by rw [jy,if_neg (by simp [h1])])
 refine dr ?_;apply cP<;>intro h2
 ·refine dr ?_;repeat (refine oB (by simp) ?_; first|refine dr ?_|exact dz)
  exact no (by rw [jy,if_neg (by omega)])
 have hl4:jy o=jE o.layers o.base:=by rw [jy,if_pos ⟨h1,by omega⟩]
 have hbl:=(yu h1).1;refine dEr ?_;repeat (refine c0 (zbH W0 _ (by omega)) rfl ?_; first|refine dEr ?_|exact dz)
 refine lp2 (fun (k:Nat) (t:List Ent)=>[(1,.ptr 16 0),(5,.c (za t)),(26,.c (zy o.layers)),(27,I o.layers.length),(28,I k)]) (fun _ _=>[(16,.box [.c (za o.base),.c (zy o.layers),.c (ze o.upper)]),(32,.row [] 3 46),(48,.row [] 3 46)]) (fun k t=>k≤o.layers.length∧jE (o.layers.take k) o.base=some t∧tOk t=true) (fun k _=>o.layers.length - k) 0 o.base ⟨by simp,rfl,h1⟩ ?_ ?_
 ·refine dr ?_;trivial
 rintro k t ⟨hk,ha,ht⟩;refine dr ?_;apply cP<;>intro h3
 ·have hk':k < o.layers.length:=by omega
  have hn:jE (o.layers.take (k+1)) o.base=lOn o.layers[k] t:=by
   rw [List.take_succ_eq_append_getElem hk',Ql,ha];simp only [jE];cases lOn o.layers[k] t<;>rfl
  have hc:=zed W0 hM o.layers[k] t;cases hx:lOn o.layers[k] t with
  | none =>
   rw [hx] at hc;refine dEr ?_;repeat ((first|refine c0 hc rfl ?_|refine oB (by simp) ?_); first|refine dEr ?_|exact dz)
   refine no ?_;have e:o.layers=o.layers.take (k+1)++o.layers.drop (k+1):=by rw [List.take_append_drop]
   rw [hl4,e,Ql,hn,hx]
  | some t' =>
   rw [hx] at hc;refine dEr ?_;repeat (refine c0 hc rfl ?_; first|refine dEr ?_|exact dz)
   refine ⟨k+1,t',⟨by omega,by rw [hn,hx],Qj hx⟩,by omega,?_⟩;refine dr ?_;trivial
 have hkl:k=o.layers.length:=by omega
 rw [hkl,List.take_length] at ha;have hl4':jy o=some t:=by rw [hl4,ha]
 have hc:=zed W0 hM o.upper t;have e:yd o=match lOn o.upper t with
  | none=>none
  | some x=>if o.upper=jf t x then some (t,x) else none:=by rw [yd,hl4']
 rw [e];cases hx:lOn o.upper t with
 | none =>
  rw [hx] at hc;refine dEr ?_;repeat ((first|refine c0 hc rfl ?_|refine oB (by simp) ?_); first|refine dEr ?_|exact dz)
  try rfl
 | some x =>
  rw [hx] at hc;have hd:=zec W0 hM t x;rw [QS,if_pos (by simp [ht,Qj hx])] at hd;refine dEr ?_;repeat ((first|refine c0 hc rfl ?_|refine c0 hd rfl ?_|refine c0 (Y7 W0 _ _) rfl ?_); first|refine dEr ?_|exact dz)
  apply cP<;>intro h4
  ·refine dr ?_;repeat (refine oB (by simp) ?_; first|refine dr ?_|exact dz)
   show _=eOT (if o.upper=jf t x then some (t,x) else none);rw [if_neg h4]<;>rfl
  ·refine dr ?_;repeat (refine oB (by simp) ?_; first|refine dr ?_|exact dz)
   show _=eOT (if o.upper=jf t x then some (t,x) else none);rw [if_pos h4]<;>rfl
def ziL:XC:=(.s (.r [.x1 1 0,.a2 2 3 46,.m1 3 .n]) (.s (.r [.l2 8 3 1,.c1 9 56 [8],.mv 7 9,.e1 10 7 0,.e1 11 7 1,.e1 12 7 2,.a1 4 10 3 46,.a1 5 11 3 46,.mv 6 12]) (.s (.r [.mv 13 5,.mv 14 6,.a1 2 13 3 46,.mv 3 14]) .ret)))
theorem ziM:zc Tryz.prog [] 18=some (ziL.ac,[(.t 2),(.t 3)],15):=by kernel_rfl
theorem Q1 (W0:World) (hM:HM W0) (o:Over):Fn Tryz.prog W0 18 [jR o] (.c (Jr (if oOk o=true then z7 o else none))) []:=by
 refine fX mixed ziM fun hg=>?_
 have hc:=zex W0 hM o;cases hx:yd o with
 | none =>
  rw [hx] at hc;refine dEr ?_;repeat (refine c0 hc rfl ?_; first|refine dEr ?_|exact dz)
  rw [zcx,hx]<;>rfl
 | some x =>
  obtain ⟨t,x⟩:=x;obtain ⟨h1,h2,h3,_⟩:=zrx hx;rw [hx] at hc;refine dEr ?_;repeat (refine c0 hc rfl ?_; first|refine dEr ?_|exact dz)
  rw [if_pos h1,h3]<;>rfl

def ziF:XC:=(.s (.r [.x1 1 0,.m1 2 .n]) (.s (.s (.r [.f1 3 1 1,.l1 4 1 3,.c1 5 25 [4],.u1 6 5]) (.cnd 6 (.rf 2) .skip)) (.s (.s (.r [.f1 7 0 1,.l1 8 1 7]) (.blk 0 (.s (.r [.b1 10 .eql 8 (.i 5),.mv 9 10]) (.cnd 9 (.s (.r [.f1 11 2 1,.l1 12 1 11,.c1 13 25 [12],.mv 14 13,.g1 15 3 1 14,.g2 16 1 15 14,.gt 17 (.bin .eql 16 (.s [])) 14,.p2 18 14 17,.mv 2 18]) .ret) (.s (.r [.b1 20 .eql 8 (.i 2),.mv 19 20]) (.cnd 19 (.s (.r [.f1 21 2 1,.l1 22 1 21,.ex 23 (.bin .eql 22 (.s [])),.mv 24 23,.g1 25 3 1 24,.g2 26 1 25 24,.gt 27 (.call 116 [26]) 24,.p2 28 24 27,.mv 2 28]) .ret) (.s (.s (.r [.b1 30 .eql 8 (.i 1),.mv 29 30]) (.cnd 29 .skip (.s (.r [.b1 31 .eql 8 (.i 3),.mv 29 31]) (.cnd 29 .skip (.r [.b1 32 .eql 8 (.i 4),.mv 29 32]))))) (.cnd 29 (.s (.r [.f1 33 2 1,.l1 34 1 33,.ex 35 (.bin .eql 34 (.s [])),.mv 36 35,.g1 37 3 1 36,.g2 38 1 37 36,.gt 39 (.bin .eql 38 (.s [])) 36,.p2 40 36 39,.mv 2 40]) .ret) .skip)))))))) (.rf 2))))
theorem ziG:zc Tryz.prog [] 118=some (ziF.ac,[(.t 2)],41):=by kernel_rfl
theorem zo5 (W0:World) (hM:HM W0) (op:Op):Fn Tryz.prog W0 118 [eOp op] (.c (CB (zP op))) []:=by
 refine fX mixed ziG fun hg=>?_
 have ht:∀ b:Bool,b=zP op→CB b=CB (zP op):=fun b h=>by rw [h]
 refine dEr ?_;repeat (refine c0 (qN W0 hM _) rfl ?_; first|refine dEr ?_|exact dz)
 apply cP<;>intro h1
 ·refine dr ?_;exact ht _ (by simp [zP,h1])
 refine dr ?_;apply cP<;>intro h2
 ·refine dEr ?_;repeat (refine c0 (qN W0 hM _) rfl ?_; first|refine dEr ?_|exact dz)
  apply cP<;>intro h3
  ·refine dr ?_;exact ht _ (by rw [qw]; simp [zP,h1,h2,h3])
  ·refine dr ?_;exact ht _ (by simp [zP,h2,h3])
 refine dr ?_;apply cP<;>intro h3
 ·refine dr ?_;apply cP<;>intro h4
  ·refine dEr ?_;repeat (refine c0 (zbI W0 _) rfl ?_; first|refine dEr ?_|exact dz)
   exact ht _ (by simp [zP,h1,h3,h4])
  ·refine dr ?_;exact ht _ (by simp [zP,h3,h4])
 refine dr ?_;apply cP<;>intro h4
 ·refine dr ?_;apply cP<;>intro h8;rotate_left
  ·exact absurd h4 h8
  refine dr ?_;apply cP<;>intro h9
  ·refine dr ?_;exact ht _ (by rw [qw]; simp [zP,h1,h8,h9]; intro hd; rw [hd]; decide)
  ·refine dr ?_;exact ht _ (by simp [zP,h8,h9])
 refine dr ?_;apply cP<;>intro h5
 ·refine dr ?_;apply cP<;>intro h8;rotate_left
  ·exact absurd h5 h8
  refine dr ?_;apply cP<;>intro h9
  ·refine dr ?_;exact ht _ (by rw [qw]; simp [zP,h1,h8,h9]; intro hd; rw [hd]; decide)
  ·refine dr ?_;exact ht _ (by simp [zP,h8,h9])
 refine dr ?_;apply cP<;>intro h8
 ·refine dr ?_;apply cP<;>intro h9
  ·refine dr ?_;exact ht _ (by rw [qw]; simp [zP,h1,h8,h9]; intro hd; rw [hd]; decide)
  ·refine dr ?_;exact ht _ (by simp [zP,h8,h9])
 refine dr ?_;exact ht _ (by
  have:¬ (1≤op.kind∧op.kind≤5):=by omega
  unfold zP;by_cases h8:1≤op.kind
  ·have:¬ op.kind≤5:=by omega
   simp [this]
  ·simp [h8])
def zjJ:XC:=(.s (.r [.x1 3 1,.m1 4 (.i 0)]) (.s (.s (.r [.mv 8 0,.f1 9 1 3,.l1 10 1 9,.c1 11 117 [8,10],.mv 5 11]) (.s (.r [.mv 12 5,.b1 13 .neq 12 (.i 0)]) (.cnd 13 (.s (.r [.mv 14 5,.mv 4 14]) .ret) .skip))) (.s (.s (.r [.mv 16 0,.f1 17 1 3,.l1 18 1 17,.c1 19 72 [16,18],.mv 15 19,.e1 20 15 0,.e1 21 15 1,.ex 6 (.alloc zE),.s1 3 6 20,.mv 7 21]) (.s (.r [.mv 22 7]) (.cnd 22 (.s (.r [.m1 4 (.i 4)]) .ret) .skip))) (.s (.s (.r [.mv 23 0,.n1 24 23,.b1 25 .geq 24 (.i 16)]) (.cnd 25 (.s (.r [.m1 4 (.i 8)]) .ret) .skip)) (.s (.r [.m1 4 (.i 0)]) .ret)))))
theorem zjK:zc Tryz.prog [] 119=some (zjJ.ac,[(.t 4)],26):=by kernel_rfl
theorem zpW (W0:World) (hM:HM W0) (t:List Ent) (op:Op) (hp:pOk op.path=true):Fn Tryz.prog W0 119 [za t,eOp op] (.c (CI (newC t op.path))) []:=by
 refine fX mixed zjK fun hg=>?_
 have h0:=ZS W0 hM t op.path;rw [zba] at h0;have h1:=Zx W0 t op.path;rw [qM] at h1;have e:newC t op.path=if upC t op.path≠0 then upC t op.path else if (find t op.path).isSome=true then 4 else if 16≤t.length then 8 else 0:=by rw [← jj hp]; rfl
 refine dEr ?_;repeat (refine c0 h0 rfl ?_; first|refine dEr ?_|exact dz)
 apply cP<;>intro h2
 ·refine dr ?_;rw [e,if_pos h2]
 refine dEr ?_;repeat (refine c0 h1 rfl ?_; first|refine dEr ?_|exact dz)
 apply cP<;>intro h3
 ·refine dr ?_;rw [e,if_neg (by simp [h2]),if_pos h3]
 refine dr ?_;apply cP<;>intro h4
 ·refine dr ?_;rw [e,if_neg (by simp [h2]),if_neg (by simp [h3]),if_pos (by omega)]
 ·refine dr ?_;rw [e,if_neg (by simp [h2]),if_neg (by simp [h3]),if_neg (by omega)]
def zj3:XC:=(.s (.r [.x1 3 1,.m1 4 (.i 0)]) (.s (.s (.r [.mv 8 0,.f1 9 1 3,.l1 10 1 9,.c1 11 117 [8,10],.mv 5 11]) (.s (.r [.mv 12 5,.b1 13 .neq 12 (.i 0)]) (.cnd 13 (.s (.r [.mv 14 5,.mv 4 14]) .ret) .skip))) (.s (.r [.mv 16 0,.f1 17 1 3,.l1 18 1 17,.c1 19 72 [16,18],.mv 15 19,.e1 20 15 0,.e1 21 15 1,.ex 6 (.alloc zE),.s1 3 6 20,.mv 7 21]) (.s (.s (.r [.mv 22 7,.mv 23 22,.g1 24 1 6 23,.g2 25 1 24 23,.p2 26 23 25]) (.cnd 26 (.s (.r [.m1 4 (.i 5)]) .ret) .skip)) (.s (.s (.r [.mv 27 7,.u1 28 27,.mv 29 28,.g3 30 0 29,.gt 31 (.len false 30) 29,.gt 32 (.bin .geq 31 (.i 16)) 29,.p2 33 29 32]) (.cnd 33 (.s (.r [.m1 4 (.i 8)]) .ret) .skip)) (.s (.r [.m1 4 (.i 0)]) .ret))))))
theorem zj4:zc Tryz.prog [] 120=some (zj3.ac,[(.t 4)],34):=by kernel_rfl
theorem zp3 (W0:World) (hM:HM W0) (t:List Ent) (op:Op) (hp:pOk op.path=true):Fn Tryz.prog W0 120 [za t,eOp op] (.c (CI (putC t op.path))) []:=by
 refine fX mixed zj4 fun hg=>?_
 have h0:=ZS W0 hM t op.path;rw [zba] at h0;have h1:=Zx W0 t op.path;rw [qM] at h1;have e:newC t op.path=if upC t op.path≠0 then upC t op.path else if (find t op.path).isSome=true then 4 else if 16≤t.length then 8 else 0:=by rw [← jj hp]; rfl
 have hu:upC t op.path≠4:=by unfold upC; split<;>(try split)<;>omega
 have e2:putC t op.path=if upC t op.path≠0 then upC t op.path else if (find t op.path).isSome=true then (if ((find t op.path).getD noE).dir=true then 5 else 0) else if 16≤t.length then 8 else 0:=by
  unfold putC;rw [e,jj hp];by_cases h2:upC t op.path≠0
  ·rw [if_pos h2,if_pos h2,if_neg hu]
  ·rw [if_neg h2,if_neg h2];by_cases h3:(find t op.path).isSome=true
   ·rw [if_pos h3,if_pos h3,if_pos rfl]
   ·rw [if_neg h3,if_neg h3,if_neg (by split<;>omega)]
 rw [e2];refine dEr ?_;repeat (refine c0 h0 rfl ?_; first|refine dEr ?_|exact dz)
 apply cP<;>intro h2
 ·refine dr ?_;rw [if_pos h2]
 rw [if_neg (by simp [h2])];refine dEr ?_;repeat (refine c0 h1 rfl ?_; first|refine dEr ?_|exact dz)
 apply cP<;>intro h3
 ·rw [if_pos h3];refine dr ?_;apply cP<;>intro h4
  ·refine dr ?_;rw [if_pos h4]
  ·rw [if_neg (by simp [h4])];refine dr ?_;apply cP<;>intro h5
   ·rw [h3] at h5; cases h5
   ·exact dz
 ·rw [if_neg (by simp [h3])];refine dr ?_;apply cP<;>intro h5
  ·refine dr ?_;apply cP<;>intro h6
   ·refine dr ?_;rw [if_pos (by omega)]
   ·refine dr ?_;rw [if_neg (by omega)]
  ·rw [h3] at h5; cases h5
def zj5:XC:=(.s (.r [.x1 3 1,.m1 4 (.i 0)]) (.s (.r [.mv 8 0,.f1 9 1 3,.l1 10 1 9,.c1 11 72 [8,10],.mv 7 11,.e1 12 7 0,.e1 13 7 1,.ex 5 (.alloc zE),.s1 3 5 12,.mv 6 13]) (.s (.s (.r [.mv 14 6,.u1 15 14]) (.cnd 15 (.s (.r [.m1 4 (.i 2)]) .ret) .skip)) (.s (.s (.r [.f1 16 1 5,.l1 17 1 16]) (.cnd 17 (.s (.r [.m1 4 (.i 5)]) .ret) .skip)) (.s (.r [.m1 4 (.i 0)]) .ret)))))
theorem zj6:zc Tryz.prog [] 121=some (zj5.ac,[(.t 4)],18):=by kernel_rfl
theorem zp5 (W0:World) (t:List Ent) (op:Op):Fn Tryz.prog W0 121 [za t,eOp op] (.c (CI (match find t op.path with | none=>2 | some e=>if e.dir=true then 5 else 0))) []:=by
 refine fX mixed zj6 fun hg=>?_
 have h1:=Zx W0 t op.path;cases hf:find t op.path with
 | none =>
  rw [hf] at h1;refine dEr ?_;repeat (refine c0 h1 rfl ?_; first|refine dEr ?_|exact dz)
  try trivial
 | some e =>
  rw [hf] at h1;refine dEr ?_;repeat (refine c0 h1 rfl ?_; first|refine dEr ?_|exact dz)
  apply cP<;>intro h2
  ·refine dr ?_;simp [h2]
  ·refine dr ?_;simp [h2]
def ziN:XC:=(.s (.r [.ex 6 (.mv (.s [])),.m1 7 .n]) (.s (.s (.r [.mv 9 0,.c1 10 25 [9],.u1 11 10,.mv 12 11,.h3 13 1 12,.gf 14 (.call 25 [13]) 12,.gf 15 (.un .not 14) 12,.p1 16 12 15,.mv 17 16,.h3 18 2 17,.gf 19 (.call 25 [18]) 17,.gf 20 (.un .not 19) 17,.p1 21 17 20]) (.cnd 21 (.s (.r [.ex 6 (.mv (.s [])),.m1 7 .n]) .ret) .skip)) (.s (.s (.r [.mv 22 0,.mv 23 1,.b1 24 .neq 22 23,.mv 25 24,.g3 26 0 25,.g3 27 1 25,.gt 28 (.call 124 [26,27]) 25,.gt 29 (.un .not 28) 25,.p2 30 25 29]) (.cnd 30 (.s (.r [.mv 31 0,.mv 6 31,.m1 7 .y]) .ret) .skip)) (.s (.r [.mv 32 2,.mv 33 0,.mv 34 1,.ex 35 (.len true 34),.ex 36 (.sls 33 (.some 35) .none),.b1 37 .add 32 36,.mv 8 37]) (.s (.s (.r [.mv 38 8,.c1 39 25 [38],.u1 40 39]) (.cnd 40 (.s (.r [.ex 6 (.mv (.s [])),.m1 7 .n]) .ret) .skip)) (.s (.r [.mv 41 8,.mv 6 41,.m1 7 .y]) .ret))))))
theorem ziO:zc Tryz.prog [] 60=some (ziN.ac,[(.t 6),(.t 7)],42):=by kernel_rfl
theorem zef (W0:World) (hM:HM W0) (s f t:Str):Fn Tryz.prog W0 60 [CS s,CS f,CS t] (.c (eOpt (jw s f t))) []:=by
 refine fX mixed ziO fun hg=>?_
 have q1:=qN W0 hM s;have q2:=qN W0 hM f;have q3:=qN W0 hM t;cases h1:pOk s with
 | false =>
  rw [h1] at q1;refine dEr ?_;repeat (refine c0 q1 rfl ?_; first|refine dEr ?_|exact dz)
  rw [jw,if_neg (by simp [h1])]<;>rfl
 | true =>
 rw [h1] at q1;cases h2:pOk f with
 | false =>
  rw [h2] at q2;refine dEr ?_;repeat ((first|refine c0 q1 rfl ?_|refine c0 q2 rfl ?_); first|refine dEr ?_|exact dz)
  rw [jw,if_neg (by simp [h2])]<;>rfl
 | true =>
 rw [h2] at q2;cases h3:pOk t with
 | false =>
  rw [h3] at q3;refine dEr ?_;repeat ((first|refine c0 q1 rfl ?_|refine c0 q2 rfl ?_|refine c0 q3 rfl ?_); first|refine dEr ?_|exact dz)
  rw [jw,if_neg (by simp [h3])]<;>rfl
 | true =>
 rw [h3] at q3;have hl1:=(qP h1).2.1;have hl3:=(qP h3).2.1;refine dEr ?_;repeat ((first|refine c0 q1 rfl ?_|refine c0 q2 rfl ?_|refine c0 q3 rfl ?_); first|refine dEr ?_|exact dz)
 apply cP<;>intro h4
 ·have q4:=Q2 W0 hM s f;rw [Jf h1 h2] at q4;refine dEr ?_;repeat (refine c0 q4 rfl ?_; first|refine dEr ?_|exact dz)
  apply cP<;>intro h5
  ·refine dr ?_;rw [jw,if_pos (by simp [h1,h2,h3]),if_pos (by simp [h4,h5])]<;>rfl
  ·have hle:f.length≤s.length:=by
    obtain ⟨r,hr⟩:=zhz (ZG h2) h5;rw [hr]; simp
   have hu:¬ (s != f&&!und s f)=true:=by simp [h5]
   refine dEr ?_;repeat ((first|refine sLo f.length rfl hle ?_|refine oB (by simp; omega) ?_|refine c0 (qN W0 hM _) rfl ?_); first|refine dEr ?_|exact dz)
   apply cP<;>intro h9
   ·refine dr ?_;rw [jw,if_pos (by simp [h1,h2,h3]),if_neg hu,if_neg (by simp [h9])]<;>rfl
   ·refine dr ?_;rw [jw,if_pos (by simp [h1,h2,h3]),if_neg hu,if_pos h9]<;>rfl
 ·have hle:f.length≤s.length:=by rw [h4]; exact Nat.le_refl _
  have hu:¬ (s != f&&!und s f)=true:=by simp [h4]
  refine dEr ?_;repeat ((first|refine sLo f.length rfl hle ?_|refine oB (by simp; omega) ?_|refine c0 (qN W0 hM _) rfl ?_); first|refine dEr ?_|exact dz)
  apply cP<;>intro h9
  ·refine dr ?_;rw [jw,if_pos (by simp [h1,h2,h3]),if_neg hu,if_neg (by simp [h9])]<;>rfl
  ·refine dr ?_;rw [jw,if_pos (by simp [h1,h2,h3]),if_neg hu,if_pos h9]<;>rfl
def zj7:XC:=(.s (.r [.x1 3 1,.m1 4 (.i 0)]) (.s (.r [.mv 10 0,.f1 11 1 3,.l1 12 1 11,.c1 13 72 [10,12],.mv 9 13,.e1 14 9 0,.e1 15 9 1,.ex 5 (.alloc zE),.s1 3 5 14,.mv 6 15]) (.s (.s (.r [.mv 16 6,.u1 17 16]) (.cnd 17 (.s (.r [.m1 4 (.i 2)]) .ret) .skip)) (.s (.s (.r [.f1 18 1 5,.l1 19 1 18,.u1 20 19]) (.cnd 20 (.s (.r [.m1 4 (.i 3)]) .ret) .skip)) (.s (.s (.r [.mv 21 0,.n1 22 21,.m1 23 (.i 0)]) (.blk 0 (.loop (.s (.r [.b1 24 .lss 23 22]) (.s (.ce 24 0) (.s (.blk 1 (.s (.r [.i1 25 3 21 23,.l2 26 3 25,.ex 8 (.alloc zE),.s1 3 8 26]) (.s (.r [.f1 27 0 8,.l1 28 1 27,.f1 29 1 3,.l1 30 1 29,.c1 31 124 [28,30]]) (.cnd 31 (.s (.r [.m1 4 (.i 6)]) .ret) .skip)))) (.r [.b1 32 .add 23 (.i 1),.mv 23 32]))))))) (.s (.r [.m1 4 (.i 0)]) .ret))))))
theorem zj8:zc Tryz.prog [] 122=some (zj7.ac,[(.t 4)],33):=by kernel_rfl
theorem zp6 (W0:World) (hM:HM W0) (t:List Ent) (op:Op):Fn Tryz.prog W0 122 [za t,eOp op] (.c (CI (match find t op.path with | none=>2 | some e=>if e.dir=false then 3 else if t.any (fun e=>und2 e.path op.path)=true then 6 else 0))) []:=by
 refine fX mixed zj8 fun hg=>?_
 have g1:=jc (hg _ (by simp:za t∈_));have h1:=Zx W0 t op.path;cases hf:find t op.path with
 | none =>
  rw [hf] at h1;refine dEr ?_;repeat (refine c0 h1 rfl ?_; first|refine dEr ?_|exact dz)
  try trivial
 | some e =>
  rw [hf] at h1;refine dEr ?_;repeat (refine c0 h1 rfl ?_; first|refine dEr ?_|exact dz)
  apply cP<;>intro h2
  ·refine dr ?_;simp [h2]
  refine dr ?_;refine lp (σ:=Nat) (fun k=>[(3,.ptr 48 0),(21,.c (za t)),(22,I t.length),(23,I k)]) (fun _=>[(48,.box [.c (CI op.kind),.c (CS op.path),.c (CS op.dest),.c (CS op.data)])]) (fun k=>k≤t.length∧∀ i (h':i < t.length),i < k→und2 t[i].path op.path=false) (fun k=>t.length - k) 0 ⟨by simp,by simp⟩ ?_ ?_
  ·refine dr ?_;trivial
  rintro k ⟨hk,ha⟩;refine dr ?_;apply cP<;>intro h3
  ·have hk':k < t.length:=by omega
   refine dEr ?_;repeat (refine c0 (Q2 W0 hM _ _) rfl ?_; first|refine dEr ?_|exact dz)
   apply cP<;>intro h4
   ·refine dr ?_;simp only [h2,Bool.true_eq_false,if_false];rw [if_pos];exact List.any_eq_true.2 ⟨_,List.getElem_mem hk',h4⟩
   ·refine dr ?_;refine ⟨k+1,⟨by omega,fun i h' hi=>?_⟩,by omega,?_⟩
    ·by_cases e:i=k
     ·subst e; exact h4
     ·exact ha i h' (by omega)
    ·refine dr ?_;trivial
  ·refine dr ?_;simp only [h2,Bool.true_eq_false,if_false];rw [if_neg];simp only [List.any_eq_true,not_exists,not_and];intro x hx;obtain ⟨i,hi,rfl⟩:=List.mem_iff_getElem.1 hx;simp [ha i hi (by omega)]
def zjP:XC:=(.s (.r [.x1 3 1,.m1 4 (.i 0)]) (.s (.s (.r [.mv 15 0,.f1 16 1 3,.l1 17 1 16,.c1 18 72 [15,17],.mv 14 18,.e1 19 14 0,.e1 20 14 1,.ex 5 (.alloc zE),.s1 3 5 19,.mv 6 20]) (.s (.r [.mv 21 6,.u1 22 21]) (.cnd 22 (.s (.r [.m1 4 (.i 2)]) .ret) .skip))) (.s (.s (.r [.mv 23 0,.f1 24 2 3,.l1 25 1 24,.c1 26 117 [23,25],.mv 7 26]) (.s (.r [.mv 27 7,.b1 28 .neq 27 (.i 0)]) (.cnd 28 (.s (.r [.mv 29 7,.mv 4 29]) .ret) .skip))) (.s (.s (.r [.mv 31 0,.f1 32 2 3,.l1 33 1 32,.c1 34 72 [31,33],.mv 30 34,.e1 35 30 0,.e1 36 30 1,.ex 8 (.alloc zE),.s1 3 8 35,.mv 9 36]) (.s (.r [.mv 37 9]) (.cnd 37 (.s (.r [.m1 4 (.i 4)]) .ret) .skip))) (.s (.s (.r [.f1 38 2 3,.l1 39 1 38,.f1 40 1 3,.l1 41 1 40,.c1 42 124 [39,41]]) (.cnd 42 (.s (.r [.m1 4 (.i 7)]) .ret) .skip)) (.s (.s (.r [.mv 43 0,.n1 44 43,.m1 45 (.i 0)]) (.blk 0 (.loop (.s (.r [.b1 46 .lss 45 44]) (.s (.ce 46 0) (.s (.blk 1 (.s (.r [.i1 47 3 43 45,.l2 48 3 47,.ex 11 (.alloc zE),.s1 3 11 48]) (.s (.r [.f1 50 0 11,.l1 51 1 50,.f1 52 1 3,.l1 53 1 52,.f1 54 2 3,.l1 55 1 54,.c1 56 60 [51,53,55],.mv 49 56,.e1 57 49 0,.e1 58 49 1,.mv 12 57,.mv 13 58]) (.s (.r [.mv 59 13,.u1 60 59]) (.cnd 60 (.s (.r [.m1 4 (.i 8)]) .ret) .skip))))) (.r [.b1 61 .add 45 (.i 1),.mv 45 61]))))))) (.s (.r [.m1 4 (.i 0)]) .ret)))))))
theorem zjQ:zc Tryz.prog [] 123=some (zjP.ac,[(.t 4)],62):=by kernel_rfl
theorem zpY (W0:World) (hM:HM W0) (t:List Ent) (op:Op) (hp:pOk op.path=true) (hq:pOk op.dest=true):Fn Tryz.prog W0 123 [za t,eOp op] (.c (CI (zaN t op))) []:=by
 refine fX mixed zjQ fun hg=>?_
 have g1:=jc (hg _ (by simp:za t∈_));have h1:=Zx W0 t op.path;have h2:=ZS W0 hM t op.dest;have h3:=Zx W0 t op.dest;have h4:=Q2 W0 hM op.dest op.path;rw [qM] at h1 h3;rw [zba] at h2;rw [Jf hq hp] at h4;unfold zaN;refine dEr ?_;repeat (refine c0 h1 rfl ?_; first|refine dEr ?_|exact dz)
 apply cP<;>intro k1
 ·refine dr ?_;rw [if_pos k1]<;>rfl
 rw [if_neg (by simp [k1])];refine dEr ?_;repeat (refine c0 h2 rfl ?_; first|refine dEr ?_|exact dz)
 apply cP<;>intro k2
 ·refine dr ?_;rw [if_pos k2]<;>rfl
 rw [if_neg (by simp [k2])];refine dEr ?_;repeat (refine c0 h3 rfl ?_; first|refine dEr ?_|exact dz)
 apply cP<;>intro k3
 ·refine dr ?_;rw [if_pos k3]<;>rfl
 rw [if_neg (by simp [k3])];refine dEr ?_;repeat (refine c0 h4 rfl ?_; first|refine dEr ?_|exact dz)
 apply cP<;>intro k4
 ·refine dr ?_;rw [if_pos k4]<;>rfl
 rw [if_neg (by simp [k4])];refine dr ?_;refine lp (σ:=Nat) (fun k=>[(3,.ptr 48 0),(43,.c (za t)),(44,I t.length),(45,I k)]) (fun _=>[(48,.box [.c (CI op.kind),.c (CS op.path),.c (CS op.dest),.c (CS op.data)])]) (fun k=>k≤t.length∧∀ i (h':i < t.length),i < k→(jw t[i].path op.path op.dest).isSome=true) (fun k=>t.length - k) 0 ⟨by simp,by simp⟩ ?_ ?_
 ·refine dr ?_;trivial
 rintro k ⟨hk,ha⟩;refine dr ?_;apply cP<;>intro h5
 ·have hk':k < t.length:=by omega
  have q:=zef W0 hM t[k].path op.path op.dest;rw [Y1] at q;refine dEr ?_;repeat (refine c0 q rfl ?_; first|refine dEr ?_|exact dz)
  apply cP<;>intro h6
  ·refine dr ?_;rw [if_neg];intro hall;have:=List.all_eq_true.1 hall _ (List.getElem_mem hk');rw [h6] at this; cases this
  ·refine dr ?_;refine ⟨k+1,⟨by omega,fun i h' hi=>?_⟩,by omega,?_⟩
   ·by_cases e:i=k
    ·subst e; exact h6
    ·exact ha i h' (by omega)
   ·refine dr ?_;trivial
 ·refine dr ?_;rw [if_pos];rw [List.all_eq_true];intro x hx;obtain ⟨i,hi,rfl⟩:=List.mem_iff_getElem.1 hx;exact ha i hi (by omega)
def zjV:XC:=(.s (.r [.x1 3 1,.m1 4 (.i 0)]) (.s (.s (.r [.l2 5 4 3,.c1 6 118 [5],.u1 7 6]) (.cnd 7 (.s (.r [.m1 4 (.i 1)]) .ret) .skip)) (.s (.s (.r [.f1 8 0 3,.l1 9 1 8]) (.blk 0 (.s (.r [.b1 11 .eql 9 (.i 1),.mv 10 11]) (.cnd 10 (.s (.r [.mv 12 0,.l2 13 4 3,.c1 14 119 [12,13],.mv 4 14]) .ret) (.s (.r [.b1 16 .eql 9 (.i 2),.mv 15 16]) (.cnd 15 (.s (.r [.mv 17 0,.l2 18 4 3,.c1 19 120 [17,18],.mv 4 19]) .ret) (.s (.r [.b1 21 .eql 9 (.i 3),.mv 20 21]) (.cnd 20 (.s (.r [.mv 22 0,.l2 23 4 3,.c1 24 121 [22,23],.mv 4 24]) .ret) (.s (.r [.b1 26 .eql 9 (.i 4),.mv 25 26]) (.cnd 25 (.s (.r [.mv 27 0,.l2 28 4 3,.c1 29 122 [27,28],.mv 4 29]) .ret) .skip)))))))))) (.s (.r [.mv 30 0,.l2 31 4 3,.c1 32 123 [30,31],.mv 4 32]) .ret))))
theorem zjW:zc Tryz.prog [] 58=some (zjV.ac,[(.t 4)],33):=by kernel_rfl
theorem zp1 (W0:World) (hM:HM W0) (t:List Ent) (op:Op) (ht:TG t):Fn Tryz.prog W0 58 [za t,eOp op] (.c (CI (if zP op=true then jO t op else 1))) []:=by
 refine fX mixed zjW fun hg=>?_
 refine dEr ?_;repeat (refine c0 (zo5 W0 hM _) rfl ?_; first|refine dEr ?_|exact dz)
 apply cP<;>intro h1
 ·refine dr ?_;rw [if_neg (by simp [h1])]<;>rfl
 rw [if_pos h1];have hp:=Qt h1;have hk:=zcC h1;unfold jO;refine dr ?_;apply cP<;>intro h2
 ·rw [if_pos h2];refine dEr ?_;repeat (refine c0 (zpW W0 hM t op hp) rfl ?_; first|refine dEr ?_|exact dz)
  try rfl
 rw [if_neg h2];refine dr ?_;apply cP<;>intro h3
 ·rw [if_pos h3];refine dEr ?_;repeat (refine c0 (zp3 W0 hM t op hp) rfl ?_; first|refine dEr ?_|exact dz)
  try rfl
 rw [if_neg h3];refine dr ?_;apply cP<;>intro h4
 ·rw [if_neg (by omega)];have e:offC t op=(match find t op.path with | none=>2 | some e=>if e.dir=true then 5 else 0):=by
   unfold offC;rw [jj hp];cases hf:find t op.path with
   | none=>rfl
   | some e =>
    simp only;by_cases hd:e.dir=true
    ·rw [if_pos ⟨h4,hd⟩,if_pos hd]
    ·have hkn:kids t op.path=[]:=zfB ht hp (by
      unfold zK;rw [jj hp,hf]
      simpa using hd)
     rw [if_neg (by simp [hd]),if_neg (by omega),if_neg (by simp [hkn]),if_neg hd]
  rw [e];refine dEr ?_;repeat (refine c0 (zp5 W0 t op) rfl ?_; first|refine dEr ?_|exact dz)
  try rfl
 refine dr ?_;apply cP<;>intro h5
 ·rw [if_neg (by omega)];have e:offC t op=(match find t op.path with | none=>2 | some e=>if e.dir=false then 3 else if t.any (fun e=>und2 e.path op.path)=true then 6 else 0):=by
   unfold offC;rw [jj hp];cases hf:find t op.path with
   | none=>rfl
   | some e =>
    simp only;rw [if_neg (by omega)];by_cases hd:e.dir=false
    ·rw [if_pos ⟨h5,hd⟩,if_pos hd]
    ·rw [if_neg (by simp [hd]),if_neg hd];have hkb:=zq4 ht hp;have ha:(t.any (fun e=>und2 e.path op.path)=true)↔∃ e∈t,und e.path op.path=true:=by
      rw [List.any_eq_true];constructor
      ·rintro ⟨x,hx,h⟩; exact ⟨x,hx,by rw [← Jf (ht.path hx) hp]; exact h⟩
      ·rintro ⟨x,hx,h⟩; exact ⟨x,hx,by rw [Jf (ht.path hx) hp]; exact h⟩
     by_cases hx:kids t op.path=[]
     ·rw [if_neg (by simp [hx]),if_neg];rw [ha,← hkb]; simp [hx]
     ·rw [if_pos (List.length_pos_iff.2 hx),if_pos];rw [ha,← hkb]; exact hx
  rw [e];refine dEr ?_;repeat (refine c0 (zp6 W0 hM t op) rfl ?_; first|refine dEr ?_|exact dz)
  try rfl
 have h6:op.kind=5:=by omega
 rw [if_pos h6];have hq:=(op_5 h1 h6).1;have e:movC t op=zaN t op:=by
  unfold movC zaN;rw [jj hp,jj hq]
 rw [e];refine dEr ?_;repeat (refine c0 (zpY W0 hM t op hp hq) rfl ?_; first|refine dEr ?_|exact dz)
 try rfl
def ziV:XC:=(.s (.r [.x1 3 1,.a2 4 3 46,.m1 5 (.i 0)]) (.s (.s (.r [.mv 10 0,.c1 11 57 [10],.u1 12 11]) (.cnd 12 (.s (.r [.a2 4 3 46,.m1 5 (.i 1)]) .ret) .skip)) (.s (.s (.r [.mv 13 0,.l2 14 4 3,.c1 15 58 [13,14],.mv 6 15]) (.s (.r [.mv 16 6,.b1 17 .neq 16 (.i 0)]) (.cnd 17 (.s (.r [.mv 18 0,.c1 19 59 [18],.mv 20 6,.a1 4 19 3 46,.mv 5 20]) .ret) .skip))) (.s (.r [.a2 7 3 46]) (.s (.s (.r [.mv 21 0,.n1 22 21,.m1 23 (.i 0)]) (.blk 0 (.loop (.s (.r [.b1 24 .lss 23 22]) (.s (.ce 24 0) (.s (.blk 1 (.s (.r [.i1 25 3 21 23,.l2 26 3 25,.ex 9 (.alloc zE),.s1 3 9 26]) (.s (.s (.r [.f1 27 0 3,.l1 28 1 27,.b1 29 .eql 28 (.i 5)]) (.cnd 29 (.r [.f1 31 0 9,.l1 32 1 31,.f1 33 1 3,.l1 34 1 33,.f1 35 2 3,.l1 36 1 35,.c1 37 60 [32,34,36],.mv 30 37,.e1 38 30 0,.e1 39 30 1,.f1 40 0 9,.s1 1 40 38]) (.s (.r [.f1 41 0 9,.l1 42 1 41,.f1 43 1 3,.l1 44 1 43,.b1 45 .eql 42 44]) (.cnd 45 (.exit 1) .skip)))) (.r [.mv 46 7,.l2 47 3 9,.ex 48 (.bsl 3 46 [47]),.ex 49 (.app false 3 40 46 46 48),.a1 7 49 3 46])))) (.r [.b1 50 .add 23 (.i 1),.mv 23 50]))))))) (.s (.s (.r [.f1 51 0 3,.l1 52 1 51,.b1 53 .eql 52 (.i 1),.mv 54 53,.h1 55 0 3 54,.h2 56 1 55 54,.gf 57 (.bin .eql 56 (.i 2)) 54,.p1 58 54 57]) (.cnd 58 (.r [.mv 59 7,.f1 60 1 3,.l1 61 1 60,.f1 62 0 3,.l1 63 1 62,.b1 64 .eql 63 (.i 1),.f1 65 3 3,.l1 66 1 65,.ex 67 (.build zE [(0,(1,61)),(1,(1,64)),(2,(1,66))]),.ex 68 (.bsl 3 46 [67]),.ex 69 (.app false 3 40 46 59 68),.a1 7 69 3 46]) .skip)) (.s (.r [.mv 70 7,.o1 71 61 [70]]) (.s (.r [.mv 72 7,.a1 4 72 3 46,.m1 5 (.i 0)]) .ret))))))))
theorem ziW:zc Tryz.prog [61] 19=some (ziV.ac,[(.t 4),(.t 5)],73):=by kernel_rfl
theorem Q3 (W0:World) (hM:HM W0) (t:List Ent) (op:Op):Fn Tryz.prog W0 19 [za t,eOp op] (.c (eTD (zx t op))) []:=by
 refine fX mixed ziW fun hg=>?_
 refine dEr ?_;repeat (refine c0 (J3 W0 hM _) rfl ?_; first|refine dEr ?_|exact dz)
 apply cP<;>intro h1
 ·refine dr ?_;rw [zx,if_neg (by simp [h1])]<;>rfl
 have gt:=TG.of h1;have hl:=gt.len;rw [zx,if_pos h1];refine dEr ?_;repeat (refine c0 (zp1 W0 hM t op gt) rfl ?_; first|refine dEr ?_|exact dz)
 apply cP<;>intro h2
 ·refine dEr ?_;repeat (refine c0 (zbH W0 t (by omega)) rfl ?_; first|refine dEr ?_|exact dz)
  by_cases h3:zP op=true
  ·rw [if_pos h3] at h2 ⊢;rw [if_neg h2,if_pos h3]<;>rfl
  ·rw [if_neg h3,if_neg h3]<;>rfl
 have h3:zP op=true:=by
  by_cases h3:zP op=true
  ·exact h3
  ·rw [if_neg h3] at h2; omega
 rw [if_pos h3] at h2;rw [if_pos h3,if_pos h2];refine dr ?_;refine lp2 (fun (k:Nat) (out:List Ent)=>[(3,.ptr 48 0),(7,.own 112 out.length),(21,.c (za t)),(22,I t.length),(23,I k)]) (fun _ out=>[(48,.box [.c (CI op.kind),.c (CS op.path),.c (CS op.dest),.c (CS op.data)]),(112,.row (out.map eEnt) 3 46)]) (fun k out=>k≤t.length∧out=(if op.kind=5 then (t.take k).map (jl op.path op.dest) else (t.take k).filter fun e=>e.path != op.path)∧out.length≤k) (fun k _=>t.length - k) 0 [] ⟨by simp,by simp,by simp⟩ ?_ ?_
 ·refine dr ?_;trivial
 rintro k out ⟨hk,ho,hle⟩;refine dr ?_;apply cP<;>intro h4
 ·have hk':k < t.length:=by omega
  refine dr ?_;apply cP<;>intro h5
  ·have hm:=MV.of gt h3 h5 (by unfold jO at h2; rw [if_neg (by omega),if_neg (by omega),if_pos h5] at h2; exact h2);have hs:=hm.all _ (List.getElem_mem hk');have q:=zef W0 hM t[k].path op.path op.dest;rw [Y1] at q;refine dEr ?_;repeat ((first|refine c0 q rfl ?_|refine oB (by simp; omega) ?_|refine oB (by simp) ?_); first|refine dEr ?_|exact dz)
   refine ⟨k+1,out++[jl op.path op.dest t[k]],⟨by omega,?_,by simp; omega⟩,by omega,?_⟩
   ·rw [if_pos h5] at ho ⊢;rw [List.take_succ_eq_append_getElem hk',List.map_append,ho]<;>rfl
   ·refine dr ?_;repeat (refine oB (by simp<;>rfl) ?_; first|refine dr ?_|exact dz)
    trivial
  ·refine dr ?_;apply cP<;>intro h6
   ·refine dr ?_;refine ⟨k+1,out,⟨by omega,?_,by omega⟩,by omega,?_⟩
    ·rw [if_neg h5] at ho ⊢;rw [qe hk' (by simp [h6]),ho]
    ·refine dr ?_;trivial
   ·refine dr ?_;repeat ((first|refine oB (by simp; omega) ?_|refine oB (by simp) ?_); first|refine dr ?_|exact dz)
    refine ⟨k+1,out++[t[k]],⟨by omega,?_,by simp; omega⟩,by omega,?_⟩
    ·rw [if_neg h5] at ho ⊢;rw [qx hk' (by simp [h6]),ho]
    ·refine dr ?_;repeat (refine oB (by simp<;>rfl) ?_; first|refine dr ?_|exact dz)
     trivial
 have hkl:k=t.length:=by omega
 rw [hkl,List.take_length] at ho;have hb:eqI op.kind 1=(op.kind==1):=by rw [Bool.eq_iff_iff,qG]; simp
 have hX:out.map eEnt++[CV.agg [CS op.path,CB (eqI op.kind 1),CS op.data]]=(out++[(⟨op.path,op.kind==1,op.data⟩:Ent)]).map eEnt:=by rw [hb,List.map_append]<;>rfl
 have hn:out.length+1=(out++[(⟨op.path,op.kind==1,op.data⟩:Ent)]).length:=by simp
 have fin:∀ S,qF Ent.path (doX t op) S→S=doT t op:=fun S hS=>zoq gt h3 h2 hS
 refine dr ?_;apply cP<;>intro h5
 ·have e:doX t op=out++[⟨op.path,op.kind==1,op.data⟩]:=by
   unfold doX; rw [if_neg (by omega),if_pos (.inl h5),ho,if_neg (by omega)]
  rw [e] at fin;refine dr ?_;repeat ((first|refine oB (by simp; omega) ?_|refine oB (by simp) ?_); first|refine dr ?_|exact dz)
  refine oW ((zah W0 (out++[⟨op.path,op.kind==1,op.data⟩]) (by simp; omega)).swp 1 112) (congrArg (fun n=>[PV.own 112 n]) hn) ⟨congrArg (fun r=>some (XB.row r 3 46)) hX,trivial⟩ rfl rfl JJ fun S hS=>⟨rfl,?_⟩
  refine dEr ?_;repeat (refine oB (by simp [hS.len]) ?_; first|refine dEr ?_|exact dz)
  rw [fin S hS]<;>rfl
 ·refine dr ?_;apply cP<;>intro h6
  ·have e:doX t op=out++[⟨op.path,op.kind==1,op.data⟩]:=by
    unfold doX; rw [if_neg (by omega),if_pos (.inr h6),ho,if_neg (by omega)]
   rw [e] at fin;refine dr ?_;repeat ((first|refine oB (by simp; omega) ?_|refine oB (by simp) ?_); first|refine dr ?_|exact dz)
   refine oW ((zah W0 (out++[⟨op.path,op.kind==1,op.data⟩]) (by simp; omega)).swp 1 112) (congrArg (fun n=>[PV.own 112 n]) hn) ⟨congrArg (fun r=>some (XB.row r 3 46)) hX,trivial⟩ rfl rfl JJ fun S hS=>⟨rfl,?_⟩
   refine dEr ?_;repeat (refine oB (by simp [hS.len]) ?_; first|refine dEr ?_|exact dz)
   rw [fin S hS]<;>rfl
  ·have e:doX t op=out:=by
    unfold doX;by_cases h7:op.kind=5
    ·rw [if_pos h7] at ho ⊢; exact ho.symm
    ·rw [if_neg h7] at ho ⊢; rw [if_neg (by omega)]; exact ho.symm
   rw [e] at fin;refine dr ?_;refine oW ((zah W0 out (by omega)).swp 1 112) rfl ⟨rfl,trivial⟩ rfl rfl JJ fun S hS=>⟨rfl,?_⟩
   refine dEr ?_;repeat (refine oB (by simp [hS.len]) ?_; first|refine dEr ?_|exact dz)
   rw [fin S hS]<;>rfl

def zjj:XC:=(.s (.r [.a2 2 3 148]) (.s (.r [.mv 3 0,.ex 4 (.app true 3 40 148 (.k .nil) 3),.a1 2 4 3 148]) .ret))
theorem zjk:zc Tryz.prog [] 158=some (zjj.ac,[(.t 2)],5):=by kernel_rfl
theorem zd8 (W0:World) (t:List Mark) (ht:t.length≤1000000):Fn Tryz.prog W0 158 [ze t] (.c (ze t)) []:=by
 refine fX mixed zjk fun hg=>?_
 refine dr ?_;repeat ((first|refine oB (by simp; omega) ?_|refine oB (by simp) ?_); first|refine dr ?_|exact dz)
 rfl
def zjl:XC:=(.s (.r [.x1 1 0,.ex 2 (.alloc [.nil,.nil,.nil])]) (.s (.r [.a2 3 1 25]) (.s (.s (.r [.f1 6 1 1,.l1 7 1 6,.n1 8 7,.m1 9 (.i 0)]) (.blk 0 (.loop (.s (.r [.b1 10 .lss 9 8]) (.s (.ce 10 0) (.s (.blk 1 (.s (.r [.i1 11 1 7 9,.l1 12 1 11,.a1 5 12 3 148]) (.r [.mv 13 3,.mv 14 5,.c1 15 158 [14],.ex 16 (.bsl 1 25 [15]),.ex 17 (.app false 1 24 25 13 16),.a1 3 17 1 25]))) (.r [.b1 18 .add 9 (.i 1),.mv 9 18]))))))) (.s (.d [.f1 19 0 1,.l1 20 1 19,.c1 21 59 [20],.mv 22 3,.f1 23 2 1,.l1 24 1 23,.c1 25 158 [24],.ex 26 (.build [.nil,.nil,.nil] [(0,(1,21)),(1,(1,22)),(2,(1,25))]),.s1 3 2 26]) .ret))))
theorem zjm:zc Tryz.prog [] 102=some (zjl.ac,[(.cell 2 true 3)],27):=by kernel_rfl
theorem zd9 (W0:World) (o:Over) (h:OZ 1000000 o):Fn Tryz.prog W0 102 [jR o] (.c (jR o)) []:=by
 refine fX mixed zjm fun hg=>?_
 obtain ⟨z1,z2,z3,z4⟩:=h;refine dr ?_;refine lp (σ:=Nat) (fun k=>[(1,.ptr 16 0),(2,.ptr 32 0),(3,.own 48 k),(7,.c (zy o.layers)),(8,I o.layers.length),(9,I k)]) (fun k=>[(16,.box [.c (za o.base),.c (zy o.layers),.c (ze o.upper)]),(32,.box [.nil,.nil,.nil]),(48,.row ((o.layers.take k).map ze) 1 25)]) (fun k=>k≤o.layers.length) (fun k=>o.layers.length - k) 0 (by simp) ?_ ?_
 ·refine dr ?_;repeat (refine oB (by simp) ?_; first|refine dr ?_|exact dz)
  trivial
 intro k hk;refine dr ?_;apply cP<;>intro h1
 ·have hk':k < o.layers.length:=by omega
  have hz:=z3 _ (List.getElem_mem hk');refine dEr ?_;repeat ((first|refine c0 (zd8 W0 _ hz) rfl ?_|refine oB (by simp; omega) ?_); first|refine dEr ?_|exact dz)
  refine ⟨k+1,by omega,by omega,?_⟩;rw [List.take_succ_eq_append_getElem hk',List.map_append];refine dr ?_;trivial
 have hkl:k=o.layers.length:=by omega
 subst hkl;rw [List.take_length];refine dEr ?_;repeat ((first|refine c0 (zbH W0 _ z1) rfl ?_|refine c0 (zd8 W0 _ z4) rfl ?_); first|refine dEr ?_|exact dz)
 rfl
def ziH:XC:=(.s (.r [.x1 2 0,.x1 3 1,.ex 4 (.alloc [.nil,.nil,.nil]),.m1 5 (.i 0)]) (.s (.r [.l2 13 3 2,.c1 14 56 [13],.mv 12 14,.e1 15 12 0,.e1 16 12 1,.e1 17 12 2,.a1 6 15 3 46,.a1 7 16 3 46,.mv 8 17]) (.s (.s (.r [.mv 18 8,.u1 19 18]) (.cnd 19 (.s (.r [.ex 20 (.build [.nil,.nil,.nil] []),.s1 3 4 20,.m1 5 (.i 1)]) .ret) .skip)) (.s (.r [.l2 21 3 2,.c1 22 102 [21],.ex 9 (.alloc [.nil,.nil,.nil]),.s1 3 9 22]) (.s (.r [.mv 24 7,.l2 25 4 3,.c1 26 19 [24,25],.mv 23 26,.e1 27 23 0,.e1 28 23 1,.a1 10 27 3 46,.mv 11 28]) (.s (.s (.r [.mv 29 11,.b1 30 .eql 29 (.i 0)]) (.cnd 30 (.r [.mv 31 6,.mv 32 10,.c1 33 115 [31,32],.f1 34 2 9,.s1 1 34 33]) .skip)) (.s (.r [.l2 35 3 9,.mv 36 11,.s1 3 4 35,.mv 5 36]) .ret)))))))
theorem ziI:zc Tryz.prog [] 104=some (ziH.ac,[(.cell 4 true 3),(.t 5)],37):=by kernel_rfl
theorem zrw {o:Over} {t x:List Ent} (g:OG o t x):yd o=some (t,x):=by
 unfold yd;rw [g.low];simp only;rw [g.on];simp only;rw [if_pos g.up]
theorem zrv {o:Over} (h:oOk o=false):yd o=none:=by
 rw [zcx] at h;cases hx:yd o with
 | none=>rfl
 | some x=>rw [hx] at h; cases h
theorem zo6 (W0:World) (hM:HM W0) (o:Over) (op:Op):Fn Tryz.prog W0 104 [jR o,eOp op] (.c (eOC (oDo o op))) []:=by
 refine fX mixed ziI fun hg=>?_
 have q:=zex W0 hM o;cases h1:oOk o with
 | false =>
  rw [zrv h1] at q;refine dEr ?_;repeat (refine c0 q rfl ?_; first|refine dEr ?_|exact dz)
  rw [oDo,if_neg (by simp [h1])]<;>rfl
 | true =>
  obtain ⟨t,x,g⟩:=OG.of h1;rw [zrw g] at q;rw [g.doEq];have q2:=Q3 W0 hM x op;have q3:=zd9 W0 o (g.os.oz.mono (by omega));have q4:=(QC g.gx (op:=op));generalize zx x op=r at *;obtain ⟨y,c⟩:=r;refine dEr ?_;repeat ((first|refine c0 q rfl ?_|refine c0 q3 rfl ?_|refine c0 q2 rfl ?_); first|refine dEr ?_|exact dz)
  apply cP<;>intro h2
  ·obtain ⟨_,_,k1,k2⟩:=q4 h2;simp only at k1;have q5:=zec W0 hM t y;rw [QS,if_pos (by rw [k1,g.gt,k2]; rfl)] at q5;refine dEr ?_;repeat (refine c0 q5 rfl ?_; first|refine dEr ?_|exact dz)
   rw [if_pos h2,h2]<;>rfl
  ·refine dr ?_;rw [if_neg h2]<;>rfl

theorem zrl {α:Type} {q:α→Bool} {l:List α} {k:Nat} (hn:∀ x∈l.take k,q x=false):∀ i (h':i < l.length),i < k→q l[i]=false:=fun i h' hi=>by
 refine hn _ ?_;rw [List.mem_take_iff_getElem];exact ⟨i,by omega,rfl⟩
theorem zb4 {α:Type} {q:α→Bool} {l:List α} {k:Nat} (h:k < l.length) (hn:∀ x∈l.take k,q x=false) (hp:q l[k]=true):gIdx q l=(k:Int):=zb3 h hp (zrl hn)
def zkh:XC:=(.s (.r [.m1 6 .n]) (.s (.r [.mv 7 0,.mv 8 1,.b1 9 .geq 7 8,.mv 10 9,.g3 11 0 10,.g3 12 2 10,.gt 13 (.bin .leq 11 12) 10,.p2 14 10 13,.mv 6 14]) .ret))
theorem zki:zc Tryz.prog [] 73=some (zkh.ac,[(.t 6)],15):=by kernel_rfl
theorem ZT (W0:World) (n a b:Int):Fn Tryz.prog W0 73 [CI n,CI a,CI b] (.c (CB (tb (a≤n∧n≤b)))) []:=by
 refine fX mixed zki fun hg=>?_
 refine dr ?_;apply cP<;>intro h1
 ·refine dr ?_;rw [za6];exact congrArg CB (tb_c ⟨fun h=>⟨h1,h⟩,fun h=>h.2⟩)
 ·refine dr ?_;exact pF fun h=>by have:=h.1; omega
def zjD:XC:=(.s (.r [.m1 2 .n]) (.s (.r [.mv 3 0,.c1 4 73 [3,(.i 0),(.i 2)],.mv 2 4]) .ret))
theorem zjE:zc Tryz.prog [] 49=some (zjD.ac,[(.t 2)],5):=by kernel_rfl
theorem zaa (W0:World) (n:Int):Fn Tryz.prog W0 49 [CI n] (.c (CB (tb (isW n)))) []:=by
 refine fX mixed zjE fun hg=>?_
 refine dEr ?_;repeat (refine c0 (ZT W0 n 0 2) rfl ?_; first|refine dEr ?_|exact dz)
 exact congrArg CB (tb_c ⟨fun h=>⟨h.1,by have:=h.2; omega⟩,fun h=>⟨h.1,by have:=h.2; omega⟩⟩)
def zix:XC:=(.s (.r [.x1 2 0,.m1 3 .n]) (.s (.r [.f1 4 0 2,.l1 5 1 4,.l1 6 1 1,.b1 7 .eql 5 6,.mv 3 7]) .ret))
theorem ziy:zc Tryz.prog [] 113=some (zix.ac,[(.t 3)],8):=by kernel_rfl
theorem zo2 (W0:World) (h:Hold) (p:Str):zw Tryz.prog W0 113 [.c (zF h),.ptr 9 0] [(9,.box [.c (CS p)])] (fun _:Unit=>True) (fun _ => .c (CB (h.path==p))) (fun _=>[(9,.box [.c (CS p)])]):=by
 refine fW mixed ziy fun hg=>?_
 rw [show (h.path==p)=eqS h.path p from (qw _ _).symm];refine dr ?_;refine ⟨none,_,_,?_,(),trivial,rfl,rfl⟩;refine dr ?_;trivial
def zkt:XC:=(.s (.r [.x1 3 0,.m1 4 .n]) (.s (.r [.f1 5 0 3,.l1 6 1 5,.l1 7 1 1,.b1 8 .eql 6 7,.mv 9 8,.g1 10 1 3 9,.g2 11 1 10 9,.g2 12 1 2 9,.gt 13 (.bin .eql 11 12) 9,.p2 14 9 13,.mv 4 14]) .ret))
theorem zku:zc Tryz.prog [] 173=some (zkt.ac,[(.t 4)],15):=by kernel_rfl
theorem zpU (W0:World) (l:Lease) (who:Int) (p:Str):zw Tryz.prog W0 173 [.c (jt l),.ptr 9 0,.ptr 12 0] [(9,.box [.c (CI who)]),(12,.box [.c (CS p)])] (fun _:Unit=>True) (fun _ => .c (CB (l.who==who&&l.path==p))) (fun _=>[(9,.box [.c (CI who)]),(12,.box [.c (CS p)])]):=by
 refine fW mixed zku fun hg=>?_
 refine dr ?_;apply cP<;>intro h1
 ·rw [show (l.who==who&&l.path==p)=eqS l.path p by rw [qw]; simp [h1]];refine dr ?_;refine ⟨none,_,_,?_,(),trivial,rfl,rfl⟩;refine dr ?_;trivial
 ·rw [show (l.who==who&&l.path==p)=false by simp [h1]];refine dr ?_;refine ⟨none,_,_,?_,(),trivial,rfl,rfl⟩;refine dr ?_;trivial
def zih:XC:=(.s (.r [.m1 4 (.i 0)]) (.s (.s (.r [.mv 6 0,.n1 7 6,.m1 8 (.i 0)]) (.blk 0 (.loop (.s (.r [.b1 9 .lss 8 7]) (.s (.ce 9 0) (.s (.blk 1 (.s (.r [.mv 10 8,.mv 5 10]) (.s (.r [.mv 11 1,.mv 12 0,.mv 13 5,.i1 14 7 12 13,.l2 15 7 14,.ex 16 (.opv 11 [15])]) (.cnd 16 (.s (.r [.mv 17 5,.mv 4 17]) .ret) .skip)))) (.r [.b1 18 .add 8 (.i 1),.mv 8 18]))))))) (.s (.r [.ex 4 (.mv (.k (.c (.sc (.int .i64 (.negSucc 0))))))]) .ret)))
theorem zii:zc Tryz.prog [999998] 112=some (zih.ac,[(.t 4)],19):=by kernel_rfl
theorem zoH (W0:World) (l:List Hold) (p:Str) (hl:l.length≤9223372036854775807):zw Tryz.prog W0 112 [.c (zf l),.fn 113 [9]] [(9,.box [.c (CS p)])] (fun _:Unit=>True) (fun _ => .c (CI (hAt l p))) (fun _=>[(9,.box [.c (CS p)])]):=by
 refine fW mixed zii fun hg=>?_
 refine dr ?_;refine lp (σ:=Nat) (fun k=>[(0,.c (zf l)),(1,.fn 113 [9]),(7,I l.length),(8,I k)]) (fun _=>[(9,.box [.c (CS p)])]) (fun k=>k≤l.length∧∀ x∈l.take k,(x.path==p)=false) (fun k=>l.length - k) 0 ⟨by omega,by simp⟩ ?_ ?_
 ·refine dr ?_;trivial
 rintro k ⟨hk,hA⟩;refine dr ?_;apply cP<;>intro h1
 ·have hk':k < l.length:=by omega
  refine dr ?_;refine ⟨by kernel_rfl,?_⟩;refine dr ?_;refine oW (zo2 W0 l[k] p) rfl ⟨rfl,trivial⟩ rfl rfl ⟨(),trivial⟩ fun _ _=>⟨rfl,?_⟩
  refine dEr ?_;apply cP<;>intro h2
  ·rw [hAt,zb4 hk' hA h2];refine dr ?_;refine ⟨none,_,_,?_,(),trivial,rfl,rfl⟩;refine dr ?_;trivial
  ·refine dr ?_;refine ⟨k+1,⟨by omega,zcw hk' hA h2⟩,by omega,?_⟩;refine dr ?_;trivial
 have hkl:k=l.length:=by omega
 rw [hkl,List.take_length] at hA;rw [hAt,zb5 hA];refine dr ?_;refine ⟨none,_,_,?_,(),trivial,rfl,rfl⟩;refine dr ?_;trivial
def zij:XC:=(.s (.r [.m1 4 (.i 0)]) (.s (.s (.r [.mv 6 0,.n1 7 6,.m1 8 (.i 0)]) (.blk 0 (.loop (.s (.r [.b1 9 .lss 8 7]) (.s (.ce 9 0) (.s (.blk 1 (.s (.r [.mv 10 8,.mv 5 10]) (.s (.r [.mv 11 1,.mv 12 0,.mv 13 5,.i1 14 4 12 13,.l2 15 4 14,.ex 16 (.opv 11 [15])]) (.cnd 16 (.s (.r [.mv 17 5,.mv 4 17]) .ret) .skip)))) (.r [.b1 18 .add 8 (.i 1),.mv 8 18]))))))) (.s (.r [.ex 4 (.mv (.k (.c (.sc (.int .i64 (.negSucc 0))))))]) .ret)))
theorem zik:zc Tryz.prog [999998] 159=some (zij.ac,[(.t 4)],19):=by kernel_rfl
theorem zoI (W0:World) (l:List Lease) (who:Int) (p:Str) (hl:l.length≤9223372036854775807):zw Tryz.prog W0 159 [.c (zv l),.fn 173 [9,12]] [(9,.box [.c (CI who)]),(12,.box [.c (CS p)])] (fun _:Unit=>True) (fun _ => .c (CI (lAt l who p))) (fun _=>[(9,.box [.c (CI who)]),(12,.box [.c (CS p)])]):=by
 refine fW mixed zik fun hg=>?_
 refine dr ?_;refine lp (σ:=Nat) (fun k=>[(0,.c (zv l)),(1,.fn 173 [9,12]),(7,I l.length),(8,I k)]) (fun _=>[(9,.box [.c (CI who)]),(12,.box [.c (CS p)])]) (fun k=>k≤l.length∧∀ x∈l.take k,(x.who==who&&x.path==p)=false) (fun k=>l.length - k) 0 ⟨by omega,by simp⟩ ?_ ?_
 ·refine dr ?_;trivial
 rintro k ⟨hk,hA⟩;refine dr ?_;apply cP<;>intro h1
 ·have hk':k < l.length:=by omega
  refine dr ?_;refine ⟨by kernel_rfl,?_⟩;refine dr ?_;refine oW (zpU W0 l[k] who p) rfl ⟨rfl,rfl,trivial⟩ rfl rfl ⟨(),trivial⟩ fun _ _=>⟨rfl,?_⟩
  refine dEr ?_;apply cP<;>intro h2
  ·rw [lAt,zb4 hk' hA h2];refine dr ?_;refine ⟨none,_,_,?_,(),trivial,rfl,rfl⟩;refine dr ?_;trivial
  ·refine dr ?_;refine ⟨k+1,⟨by omega,zcw hk' hA h2⟩,by omega,?_⟩;refine dr ?_;trivial
 have hkl:k=l.length:=by omega
 rw [hkl,List.take_length] at hA;rw [lAt,zb5 hA];refine dr ?_;refine ⟨none,_,_,?_,(),trivial,rfl,rfl⟩;refine dr ?_;trivial
def zjx:XC:=(.s (.r [.x1 3 1,.m1 4 (.i 0)]) (.s (.r [.mv 5 0,.ex 6 (.fnv 113 [3]),.o1 7 112 [5,6],.mv 4 7]) .ret))
theorem zjy:zc Tryz.prog [112] 55=some (zjx.ac,[(.t 4)],8):=by kernel_rfl
theorem Zy (W0:World) (l:List Hold) (p:Str):Fn Tryz.prog W0 55 [zf l,CS p] (.c (CI (hAt l p))) []:=by
 refine fX mixed zjy fun hg=>?_
 have g1:l.length≤9223372036854775807:=jc (hg _ (by simp:zf l∈_));refine dr ?_;refine oW ((zoH W0 l p g1).swp 9 48) rfl ⟨rfl,trivial⟩ rfl rfl ⟨(),trivial⟩ fun _ _=>⟨rfl,?_⟩
 exact dz
def zjF:XC:=(.s (.r [.x1 4 1,.x1 5 2,.m1 6 (.i 0)]) (.s (.r [.mv 7 0,.ex 8 (.fnv 173 [4,5]),.o1 9 159 [7,8],.mv 6 9]) .ret))
theorem zjG:zc Tryz.prog [159] 130=some (zjF.ac,[(.t 6)],10):=by kernel_rfl
theorem zaf (W0:World) (l:List Lease) (who:Int) (p:Str):Fn Tryz.prog W0 130 [zv l,CI who,CS p] (.c (CI (lAt l who p))) []:=by
 refine fX mixed zjG fun hg=>?_
 have g1:l.length≤9223372036854775807:=jc (hg _ (by simp:zv l∈_));refine dr ?_;refine oW (((zoI W0 l who p g1).swp 9 64).swp 12 80) rfl ⟨rfl,rfl,trivial⟩ rfl rfl ⟨(),trivial⟩ fun _ _=>⟨rfl,?_⟩
 exact dz
def zjH:XC:=(.s (.r [.x1 1 0,.m1 2 .n]) (.s (.s (.r [.f1 5 5 1,.l1 6 1 5,.n1 7 6,.m1 8 (.i 0)]) (.blk 0 (.loop (.s (.r [.b1 9 .lss 8 7]) (.s (.ce 9 0) (.s (.blk 1 (.s (.r [.mv 10 8,.i1 11 4 6 8,.l2 12 4 11,.ex 4 (.alloc [(I 0),sE,(I 0),(I 0)]),.mv 3 10,.s1 4 4 12]) (.s (.s (.r [.f1 13 0 4,.l1 14 1 13,.c1 15 49 [14],.u1 16 15,.mv 17 16,.h1 18 1 4 17,.h2 19 1 18 17,.gf 20 (.call 25 [19]) 17,.gf 21 (.un .not 20) 17,.p1 22 17 21,.mv 23 22,.h1 24 2 4 23,.h2 25 1 24 23,.h1 26 4 1 23,.h2 27 1 26 23,.gf 28 (.call 73 [25,(.i 1),27]) 23,.gf 29 (.un .not 28) 23,.p1 30 23 29,.mv 31 30,.h1 32 3 4 31,.h2 33 1 32 31,.h1 34 3 1 31,.h2 35 1 34 31,.gf 36 (.bin .add 35 (.i 5)) 31,.gf 37 (.bin .gtr 33 36) 31,.p1 38 31 37]) (.cnd 38 (.rf 2) .skip)) (.s (.r [.f1 39 5 1,.l1 40 1 39,.f1 41 0 4,.l1 42 1 41,.f1 43 1 4,.l1 44 1 43,.c1 45 130 [40,42,44],.mv 46 3,.b1 47 .neq 45 46]) (.cnd 47 (.rf 2) .skip))))) (.r [.b1 48 .add 8 (.i 1),.mv 8 48]))))))) (.rt 2)))
theorem zjI:zc Tryz.prog [] 75=some (zjH.ac,[(.t 2)],49):=by kernel_rfl
theorem zrg {w:Wld}:LsOk w↔(∀ l∈w.leases,LsG w l)∧∀ i (h:i < w.leases.length),lAt w.leases w.leases[i].who w.leases[i].path=(i:Int):=by
 have h0:(∀ i (h:i < w.leases.length),lAt w.leases w.leases[i].who w.leases[i].path=(i:Int))↔w.leases.Pairwise LsD:=by
  refine (firsts (R:=lKey) (fun a=>by simp [lKey]) (l:=w.leases)).trans ?_;constructor<;>intro h<;>refine h.imp ?_
  ·intro a b hab; simp only [lKey,Bool.and_eq_false_imp,beq_iff_eq,beq_eq_false_iff_ne] at hab;exact fun hh=>hab hh.1 hh.2
  ·intro a b hab; simp only [lKey,Bool.and_eq_false_imp,beq_iff_eq,beq_eq_false_iff_ne];exact fun h1 h2=>hab ⟨h1,h2⟩
 exact ⟨fun h=>⟨h.g,h0.2 h.d⟩,fun h=>⟨h.1,h0.1 h.2⟩⟩
theorem zpV (W0:World) (hM:HM W0) (w:Wld) (hp:w.clock≤10000):Fn Tryz.prog W0 75 [zB w] (.c (CB (tb (LsOk w)))) []:=by
 refine fX mixed zjI fun hg=>?_
 have g0:=yN (hg _ (by simp:zB w∈_));have g1:w.leases.length≤9223372036854775807:=jc (g0 _ (by simp:zv w.leases∈_));have g2:=goodI (g0 _ (by simp:CI w.clock∈_));rw [tb_c zrg];refine dr ?_;refine lp (σ:=Nat) (fun k=>[(1,.ptr 16 0),(6,.c (zv w.leases)),(7,I w.leases.length),(8,I k)]) (fun _=>[(16,wBx w)]) (fun k=>k≤w.leases.length∧(∀ l∈w.leases.take k,LsG w l)∧∀ i (h:i < w.leases.length),i < k→lAt w.leases w.leases[i].who w.leases[i].path=(i:Int)) (fun k=>w.leases.length - k) 0 ⟨by omega,by simp,fun i _ h=>by omega⟩ ?_ ?_
 ·refine dr ?_;trivial
 rintro k ⟨hk,hA,hP⟩;refine dr ?_;apply cP<;>intro h1;rotate_left
 ·have hkl:k=w.leases.length:=by omega
  rw [hkl,List.take_length] at hA;refine dr ?_;exact pT ⟨hA,fun i hi=>hP i hi (by omega)⟩
 have hk':k < w.leases.length:=by omega
 have no:¬ LsG w w.leases[k]→CB false=CB (tb ((∀ l∈w.leases,LsG w l)∧∀ i (h:i < w.leases.length),lAt w.leases w.leases[i].who w.leases[i].path=(i:Int))):=fun h=>pF fun hh=>h (hh.1 _ (List.getElem_mem hk'))
 refine dEr ?_;repeat (refine c0 (zaa W0 _) rfl ?_; first|refine dEr ?_|exact dz)
 apply cP<;>intro a1
 ·refine dr ?_;exact no fun h=>a1 h.1
 refine dEr ?_;repeat (refine c0 (qN W0 hM _) rfl ?_; first|refine dEr ?_|exact dz)
 apply cP<;>intro a2
 ·refine dr ?_;exact no fun h=>by rw [h.2.1] at a2; cases a2
 refine dEr ?_;repeat (refine c0 (ZT W0 _ _ _) rfl ?_; first|refine dEr ?_|exact dz)
 apply cP<;>intro a3
 ·refine dr ?_;exact no fun h=>a3 ⟨h.2.2.1,h.2.2.2.1⟩
 refine dr ?_;repeat (refine oB (by omega) ?_; first|refine dr ?_|exact dz)
 apply cP<;>intro a5
 ·refine dr ?_;exact no fun h=>by have:=h.2.2.2.2; omega
 refine dEr ?_;repeat (refine c0 (zaf W0 _ _ _) rfl ?_; first|refine dEr ?_|exact dz)
 apply cP<;>intro a6
 ·refine dr ?_;exact pF fun hh=>a6 (hh.2 k hk')
 refine dr ?_;refine ⟨k+1,⟨by omega,fun l hl=>?_,fun i hi hik=>?_⟩,by omega,?_⟩
 ·rw [List.take_succ_eq_append_getElem hk'] at hl;rcases List.mem_append.1 hl with h' | h'
  ·exact hA l h'
  ·rw [List.mem_singleton.1 h']; exact ⟨a1,a2,a3.1,a3.2,by omega⟩
 ·by_cases e:i=k
  ·subst e; exact a6
  ·exact hP i hi (by omega)
 refine dr ?_;trivial
def zjB:XC:=(.s (.r [.x1 1 0,.m1 2 .n]) (.s (.s (.r [.f1 7 6 1,.l1 8 1 7,.n1 9 8,.m1 10 (.i 0)]) (.blk 0 (.loop (.s (.r [.b1 11 .lss 10 9]) (.s (.ce 11 0) (.s (.blk 1 (.s (.r [.i1 12 1 8 10,.l1 13 1 12,.a1 4 13 7 48]) (.s (.r [.mv 14 4,.n1 15 14,.m1 16 (.i 0)]) (.blk 2 (.loop (.s (.r [.b1 17 .lss 16 15]) (.s (.ce 17 2) (.s (.blk 3 (.s (.r [.mv 18 16,.i1 19 7 14 16,.l2 20 7 19,.ex 6 (.alloc [sE,(B false),sE,(B false),sE,(I 0),(I 0)]),.mv 5 18,.s1 7 6 20]) (.s (.r [.f1 21 0 6,.l1 22 1 21,.c1 23 25 [22],.u1 24 23,.mv 25 24,.h1 26 5 6 25,.h2 27 1 26 25,.h1 28 4 1 25,.h2 29 1 28 25,.gf 30 (.call 73 [27,(.i 0),29]) 25,.gf 31 (.un .not 30) 25,.p1 32 25 31,.mv 33 32,.h3 34 4 33,.h1 35 0 6 33,.h2 36 1 35 33,.gf 37 (.call 55 [34,36]) 33,.h3 38 5 33,.gf 39 (.bin .neq 37 38) 33,.p1 40 33 39]) (.cnd 40 (.rf 2) .skip)))) (.r [.b1 41 .add 16 (.i 1),.mv 16 41]))))))))) (.r [.b1 42 .add 10 (.i 1),.mv 10 42]))))))) (.rt 2)))
theorem zjC:zc Tryz.prog [] 76=some (zjB.ac,[(.t 2)],43):=by kernel_rfl
theorem zfk {w:Wld} {L:List Hold}:HsOk w L↔(∀ h∈L,pOk h.path=true∧0≤h.num∧h.num≤w.count)∧∀ i (h:i < L.length),hAt L L[i].path=(i:Int):=by
 have h0:(∀ i (h:i < L.length),hAt L L[i].path=(i:Int))↔L.Pairwise fun a b=>a.path≠b.path:=by
  refine (firsts (R:=hKey) (fun a=>by simp [hKey]) (l:=L)).trans ?_;constructor<;>intro h<;>refine h.imp ?_
  ·intro a b hab; simpa [hKey] using hab
  ·intro a b hab; simpa [hKey] using hab
 exact ⟨fun h=>⟨h.g,h0.2 h.d⟩,fun h=>⟨h.1,h0.1 h.2⟩⟩
theorem zo3 (W0:World) (hM:HM W0) (w:Wld):Fn Tryz.prog W0 76 [zB w] (.c (CB (tb (∀ l∈w.holds,HsOk w l)))) []:=by
 refine fX mixed zjC fun hg=>?_
 have g0:=yN (hg _ (by simp:zB w∈_));have g1:w.holds.length≤9223372036854775807:=jc (g0 _ (by simp:jC w.holds∈_));refine dr ?_;refine lp (σ:=Nat) (fun j=>[(1,.ptr 16 0),(8,.c (jC w.holds)),(9,I w.holds.length),(10,I j)]) (fun _=>[(16,wBx w)]) (fun j=>j≤w.holds.length∧∀ l∈w.holds.take j,HsOk w l) (fun j=>w.holds.length - j) 0 ⟨by omega,by simp⟩ ?_ ?_
 ·refine dr ?_;trivial
 rintro j ⟨hj,hA⟩;refine dr ?_;apply cP<;>intro h1;rotate_left
 ·have hkl:j=w.holds.length:=by omega
  rw [hkl,List.take_length] at hA;refine dr ?_;exact pT hA
 have hj':j < w.holds.length:=by omega
 have g2:w.holds[j].length≤9223372036854775807:=by
  have:=zav (g0 _ (by simp:jC w.holds∈_)) _ (List.getElem_mem hj') (zf w.holds[j]) (by simp [zf,CV.cells]);exact jc this
 have hmj:=List.getElem_mem hj';have next:HsOk w w.holds[j]→∀ l∈w.holds.take (j+1),HsOk w l:=fun h l hl=>by
  rw [List.take_succ_eq_append_getElem hj'] at hl;rcases List.mem_append.1 hl with h' | h'
  ·exact hA l h'
  ·rw [List.mem_singleton.1 h']; exact h
 have no:¬ HsOk w w.holds[j]→CB false=CB (tb (∀ l∈w.holds,HsOk w l)):=fun h=>pF fun hh=>h (hh _ hmj)
 refine dr ?_;refine lp (σ:=Nat) (fun k=>[(1,.ptr 16 0),(4,.c (zf w.holds[j])),(8,.c (jC w.holds)),(9,I w.holds.length),(10,I j),(14,.c (zf w.holds[j])),(15,I w.holds[j].length),(16,I k)]) (fun _=>[(16,wBx w)]) (fun k=>k≤w.holds[j].length∧(∀ h∈w.holds[j].take k,pOk h.path=true∧0≤h.num∧h.num≤w.count)∧∀ i (h:i < w.holds[j].length),i < k→hAt w.holds[j] w.holds[j][i].path=(i:Int)) (fun k=>w.holds[j].length - k) 0 ⟨by omega,by simp,fun i _ h=>by omega⟩ ?_ ?_
 ·refine dr ?_;trivial
 rintro k ⟨hk,hB,hP⟩;refine dr ?_;apply cP<;>intro b1;rotate_left
 ·have hkl:k=w.holds[j].length:=by omega
  rw [hkl,List.take_length] at hB;refine dr ?_;refine ⟨j+1,⟨by omega,next (zfk.2 ⟨hB,fun i hi=>hP i hi (by omega)⟩)⟩,by omega,?_⟩;refine dr ?_;trivial
 have hk':k < w.holds[j].length:=by omega
 refine dEr ?_;repeat (refine c0 (qN W0 hM _) rfl ?_; first|refine dEr ?_|exact dz)
 apply cP<;>intro a1
 ·refine dr ?_;exact no fun h=>by rw [(h.g _ (List.getElem_mem hk')).1] at a1; cases a1
 refine dEr ?_;repeat (refine c0 (ZT W0 _ _ _) rfl ?_; first|refine dEr ?_|exact dz)
 apply cP<;>intro a2
 ·refine dr ?_;exact no fun h=>a2 (h.g _ (List.getElem_mem hk')).2
 refine dEr ?_;repeat (refine c0 (Zy W0 _ _) rfl ?_; first|refine dEr ?_|exact dz)
 apply cP<;>intro a3
 ·refine dr ?_;exact no fun h=>a3 ((zfk.1 h).2 k hk')
 refine dr ?_;refine ⟨k+1,⟨by omega,fun l hl=>?_,fun i hi hik=>?_⟩,by omega,?_⟩
 ·rw [List.take_succ_eq_append_getElem hk'] at hl;rcases List.mem_append.1 hl with h' | h'
  ·exact hB l h'
  ·rw [List.mem_singleton.1 h']; exact ⟨a1,a2.1,a2.2⟩
 ·by_cases e:i=k
  ·subst e; exact a3
  ·exact hP i hi (by omega)
 refine dr ?_;trivial
def zjT:XC:=(.s (.r [.x1 1 0,.m1 2 .n]) (.s (.s (.r [.f1 5 8 1,.l1 6 1 5,.n1 7 6,.b1 8 .gtr 7 (.i 12)]) (.cnd 8 (.rf 2) .skip)) (.s (.s (.r [.f1 9 8 1,.l1 10 1 9,.n1 11 10,.m1 12 (.i 0)]) (.blk 0 (.loop (.s (.r [.b1 13 .lss 12 11]) (.s (.ce 13 0) (.s (.blk 1 (.s (.r [.i1 14 9 10 12,.l2 15 9 14,.ex 4 (.alloc [(I 0),(I 0),sE,(B false),sE,(B false),sE,(I 0),(I 0)]),.s1 9 4 15]) (.s (.s (.r [.f1 16 0 4,.l1 17 1 16,.c1 18 73 [17,(.i 1),(.i 4)],.u1 19 18,.mv 20 19,.h1 21 1 4 20,.h2 22 1 21 20,.gf 23 (.call 49 [22]) 20,.gf 24 (.un .not 23) 20,.p1 25 20 24,.mv 26 25,.h1 27 2 4 26,.h1 28 0 27 26,.h2 29 1 28 26,.gf 30 (.call 25 [29]) 26,.gf 31 (.un .not 30) 26,.p1 32 26 31,.mv 33 32,.h1 34 2 4 33,.h1 35 5 34 33,.h2 36 1 35 33,.h1 37 4 1 33,.h2 38 1 37 33,.gf 39 (.call 73 [36,(.i 0),38]) 33,.gf 40 (.un .not 39) 33,.p1 41 33 40]) (.cnd 41 (.rf 2) .skip)) (.s (.r [.f1 42 0 4,.l1 43 1 42,.b1 44 .neq 43 (.i 2),.mv 45 44,.g1 46 2 4 45,.gt 47 (.ld true 7 46) 45,.g1 48 2 4 45,.g1 49 0 48 45,.g2 50 1 49 45,.g1 51 2 4 45,.g1 52 5 51 45,.g2 53 1 52 45,.gt 54 (.build [sE,(B false),sE,(B false),sE,(I 0),(I 0)] [(0,(1,50)),(5,(1,53))]) 45,.gt 55 (.beq true [.s,.b,.s,.b,.s,(.i .i64),(.i .i64)] 47 54) 45,.p2 56 45 55]) (.cnd 56 (.rf 2) .skip))))) (.r [.b1 57 .add 12 (.i 1),.mv 12 57]))))))) (.rt 2))))
theorem zjU:zc Tryz.prog [] 74=some (zjT.ac,[(.t 2)],58):=by kernel_rfl
theorem zp0 (W0:World) (hM:HM W0) (w:Wld):Fn Tryz.prog W0 74 [zB w] (.c (CB (tb (w.net.length≤12∧∀ m∈w.net,NtOk w m)))) []:=by
 refine fX mixed zjU fun hg=>?_
 have g0:=yN (hg _ (by simp:zB w∈_));have g1:w.net.length≤9223372036854775807:=jc (g0 _ (by simp:jM w.net∈_));refine dr ?_;apply cP<;>intro h0
 ·refine dr ?_;exact pF fun h=>by omega
 refine dr ?_;refine lp (σ:=Nat) (fun k=>[(1,.ptr 16 0),(10,.c (jM w.net)),(11,I w.net.length),(12,I k)]) (fun _=>[(16,wBx w)]) (fun k=>k≤w.net.length∧∀ m∈w.net.take k,NtOk w m) (fun k=>w.net.length - k) 0 ⟨by omega,by simp⟩ ?_ ?_
 ·refine dr ?_;trivial
 rintro k ⟨hk,hA⟩;refine dr ?_;apply cP<;>intro h1;rotate_left
 ·have hkl:k=w.net.length:=by omega
  rw [hkl,List.take_length] at hA;refine dr ?_;exact pT ⟨by omega,hA⟩
 have hk':k < w.net.length:=by omega
 have hmk:=List.getElem_mem hk';have next:NtOk w w.net[k]→∀ m∈w.net.take (k+1),NtOk w m:=fun h l hl=>by
  rw [List.take_succ_eq_append_getElem hk'] at hl;rcases List.mem_append.1 hl with h' | h'
  ·exact hA l h'
  ·rw [List.mem_singleton.1 h']; exact h
 have no:¬ NtOk w w.net[k]→CB false=CB (tb (w.net.length≤12∧∀ m∈w.net,NtOk w m)):=fun h=>pF fun hh=>h (hh.2 _ hmk)
 refine dEr ?_;repeat (refine c0 (ZT W0 _ _ _) rfl ?_; first|refine dEr ?_|exact dz)
 apply cP<;>intro a1
 ·refine dr ?_;exact no fun h=>a1 h.kind
 refine dEr ?_;repeat (refine c0 (zaa W0 _) rfl ?_; first|refine dEr ?_|exact dz)
 apply cP<;>intro a2
 ·refine dr ?_;exact no fun h=>a2 h.who
 refine dEr ?_;repeat (refine c0 (qN W0 hM _) rfl ?_; first|refine dEr ?_|exact dz)
 apply cP<;>intro a3
 ·refine dr ?_;exact no fun h=>by rw [h.path] at a3; cases a3
 refine dEr ?_;repeat (refine c0 (ZT W0 _ _ _) rfl ?_; first|refine dEr ?_|exact dz)
 apply cP<;>intro a4
 ·refine dr ?_;exact no fun h=>a4 h.num
 refine dr ?_;apply cP<;>intro a5
 ·refine dr ?_;rw [show (eqS w.net[k].hold.path w.net[k].hold.path&&(eqB w.net[k].hold.has false&&(eqS w.net[k].hold.ent.path []&&(eqB w.net[k].hold.ent.dir false&&(eqS w.net[k].hold.ent.data []&&(eqI w.net[k].hold.num w.net[k].hold.num&&(eqI w.net[k].hold.til 0&&true)))))))=decide (w.net[k].hold=JF w.net[k].hold) from zbk w.net[k].hold (JF w.net[k].hold)];apply cP<;>intro a6
  ·refine dr ?_;exact no fun h=>a6 (h.plain a5)
  ·refine dr ?_;refine ⟨k+1,⟨by omega,next ⟨a1,a2,a3,a4,fun _=>a6⟩⟩,by omega,?_⟩;refine dr ?_;trivial
 ·refine dr ?_;refine ⟨k+1,⟨by omega,next ⟨a1,a2,a3,a4,fun h=>absurd a5 h⟩⟩,by omega,?_⟩;refine dr ?_;trivial
def zkf:XC:=(.s (.r [.x1 2 0,.m1 4 .n]) (.s (.s (.r [.f1 7 9 2,.l1 8 1 7,.u1 9 8]) (.cnd 9 (.s (.r [.f1 10 10 2,.l2 11 4 10,.ex 12 (.build [(I 0),sE,sE,sE] []),.ex 13 (.beq false [(.i .i64),.s,.s,.s] 11 12),.mv 4 13]) .ret) .skip)) (.s (.r [.mv 15 1,.f1 16 10 2,.l2 17 4 16,.c1 18 19 [15,17],.mv 14 18,.e1 19 14 0,.e1 20 14 1,.a1 5 19 3 46,.mv 6 20]) (.s (.r [.mv 21 6,.b1 22 .eql 21 (.i 0),.mv 4 22]) .ret))))
theorem zkg:zc Tryz.prog [] 77=some (zkf.ac,[(.t 4)],23):=by kernel_rfl
theorem zqk (W0:World) (hM:HM W0) (w:Wld) (t:List Ent):Fn Tryz.prog W0 77 [zB w,za t] (.c (CB (tb (WtOk w t)))) []:=by
 refine fX mixed zkg fun hg=>?_
 refine dr ?_;apply cP<;>intro h1
 ·refine dr ?_;rw [show (eqI w.op.kind 0&&(eqS w.op.path []&&(eqS w.op.dest []&&(eqS w.op.data []&&true))))=decide (w.op=ja) from bqOp w.op ja];by_cases h2:w.op=ja
  ·rw [decide_eq_true h2];exact pT ⟨fun _=>h2,fun h=>by rw [h1] at h; cases h⟩
  ·rw [decide_eq_false h2];exact pF fun h=>h2 (h.1 h1)
 ·refine dEr ?_;repeat (refine c0 (Q3 W0 hM t w.op) rfl ?_; first|refine dEr ?_|exact dz)
  refine congrArg CB ?_;rw [Bool.eq_iff_iff,qG,tb_i];exact ⟨fun h=>⟨fun h2=>(by rw [h1] at h2; cases h2),fun _=>h⟩,fun h=>h.2 h1⟩
def zjz:XC:=(.s (.r [.x1 4 0,.x1 7 3,.m1 8 .n]) (.s (.r [.mv 14 1,.f1 15 0 7,.l1 16 1 15,.c1 17 26 [14,16],.mv 13 17,.e1 18 13 0,.e1 19 13 1,.ex 9 (.alloc zE),.s1 3 9 18,.mv 10 19]) (.s (.s (.r [.f1 20 1 7,.l1 21 1 20,.mv 22 10,.ex 23 (.bb true 21 22),.mv 24 23,.h1 25 2 7 24,.gf 26 (.ld true 3 25) 24,.gf 27 (.ld true 3 9) 24,.gf 28 (.beq true [.s,.b,.s] 26 27) 24,.p1 29 24 28]) (.cnd 29 (.rf 8) .skip)) (.s (.r [.f1 30 5 4,.l1 31 1 30,.mv 32 2,.f1 33 0 7,.l1 34 1 33,.c1 35 130 [31,32,34],.mv 11 35]) (.s (.s (.r [.mv 36 11,.b1 37 .lss 36 (.i 0)]) (.cnd 37 (.rf 8) .skip)) (.s (.r [.f1 38 5 4,.l1 39 1 38,.mv 40 11,.i1 41 4 39 40,.l2 42 4 41,.ex 12 (.alloc [(I 0),sE,(I 0),(I 0)]),.s1 4 12 42]) (.s (.r [.f1 43 3 12,.l1 44 1 43,.f1 45 3 4,.l1 46 1 45,.b1 47 .gtr 44 46,.mv 48 47,.g1 49 2 12 48,.g2 50 1 49 48,.g1 51 5 7 48,.g2 52 1 51 48,.gt 53 (.bin .geq 50 52) 48,.p2 54 48 53,.mv 55 54,.g1 56 3 12 55,.g2 57 1 56 55,.g1 58 6 7 55,.g2 59 1 58 55,.gt 60 (.bin .geq 57 59) 55,.p2 61 55 60,.mv 8 61]) .ret)))))))
theorem zjA:zc Tryz.prog [] 131=some (zjz.ac,[(.t 8)],62):=by kernel_rfl
theorem zea (W0:World) (hM:HM W0) (w:Wld) (t:List Ent) (who:Int) (h:Hold) (ht:tOk t=true) (ha:w.clock < h.til):Fn Tryz.prog W0 131 [zB w,za t,CI who,zF h] (.c (CB (tb (So w t who h)))) []:=by
 refine fX mixed zjA fun hg=>?_
 have hc:=zeg W0 hM t h.path;rw [if_pos ht,qM] at hc;rw [tb_c (zcW ha)];have hla:=zaf W0 w.leases who h.path;have hcs:=@Yg w.leases who h.path;generalize (get t h.path)=x at *;generalize (jk w.leases who h.path)=y at *;generalize (lAt w.leases who h.path)=z at *;refine dEr ?_;repeat (refine c0 hc rfl ?_; first|refine dEr ?_|exact dz)
 apply cP<;>intro h2
 ·refine dr ?_;exact pF fun hh=>h2 hh.1.symm
 refine dr ?_;rw [Jk];apply cP<;>intro h3
 ·refine dr ?_;exact pF fun hh=>h3 hh.2.1.symm
 refine dEr ?_;repeat (refine c0 hla rfl ?_; first|refine dEr ?_|exact dz)
 rcases hcs with ⟨e1,e2⟩ | ⟨j,hj,e1,e2⟩
 ·subst e1 e2;apply cP<;>intro h4
  ·refine dr ?_;exact pF fun hh=>by cases hh.2.2.1
  ·omega
 subst e1 e2;apply cP<;>intro h4
 ·omega
 refine dr ?_;apply cP<;>intro h5;rotate_left
 ·refine dr ?_;exact pF fun hh=>by have h1:w.clock < w.leases[j].til:=hh.2.2.2.1; omega
 refine dr ?_;apply cP<;>intro h6;rotate_left
 ·refine dr ?_;exact pF fun hh=>by have h1:h.num≤w.leases[j].num:=hh.2.2.2.2.1; omega
 refine dr ?_;rw [za6];exact congrArg CB (tb_c ⟨fun h7=>⟨h2.symm,h3.symm,rfl,h5,h6,h7⟩,fun hh=>hh.2.2.2.2.2⟩)

theorem goodHd {w:Wld} (g0:∀ x∈[za w.over.base,zy w.over.layers,ze w.over.upper,CI w.clock,CI w.count,zv w.leases,jC w.holds,jU w.floors,jM w.net,CB w.waits,CI w.op.kind,CS w.op.path,CS w.op.dest,CS w.op.data],Good x) {j:Nat} (h:j < w.holds.length):w.holds[j].length≤9223372036854775807:=by
 have:=zav (g0 _ (by simp:jC w.holds∈_)) _ (List.getElem_mem h) (zf w.holds[j]) (by simp [zf,CV.cells]);exact jc this
def zjt:XC:=(.s (.r [.x1 2 0,.m1 4 .n]) (.s (.s (.r [.f1 12 6 2,.l1 13 1 12,.n1 14 13,.m1 15 (.i 0)]) (.blk 0 (.loop (.s (.r [.b1 16 .lss 15 14]) (.s (.ce 16 0) (.s (.blk 1 (.s (.r [.mv 17 15,.i1 18 1 13 15,.l1 19 1 18,.mv 5 17,.a1 6 19 7 48]) (.s (.r [.mv 20 6,.n1 21 20,.m1 22 (.i 0)]) (.blk 2 (.loop (.s (.r [.b1 23 .lss 22 21]) (.s (.ce 23 2) (.s (.blk 3 (.s (.r [.i1 24 7 20 22,.l2 25 7 24,.ex 8 (.alloc [sE,(B false),sE,(B false),sE,(I 0),(I 0)]),.s1 7 8 25]) (.s (.r [.f1 26 6 8,.l1 27 1 26,.f1 28 3 2,.l1 29 1 28,.b1 30 .gtr 27 29,.mv 31 30,.gt 32 (.ld true 14 2) 31,.g3 33 1 31,.g3 34 5 31,.gt 35 (.ld true 7 8) 31,.gt 36 (.call 131 [32,33,34,35]) 31,.gt 37 (.un .not 36) 31,.p2 38 31 37]) (.cnd 38 (.rf 4) .skip)))) (.r [.b1 39 .add 22 (.i 1),.mv 22 39]))))))))) (.r [.b1 40 .add 15 (.i 1),.mv 15 40]))))))) (.s (.s (.r [.f1 41 8 2,.l1 42 1 41,.n1 43 42,.m1 44 (.i 0)]) (.blk 4 (.loop (.s (.r [.b1 45 .lss 44 43]) (.s (.ce 45 4) (.s (.blk 5 (.s (.r [.i1 46 9 42 44,.l2 47 9 46,.ex 10 (.alloc [(I 0),(I 0),sE,(B false),sE,(B false),sE,(I 0),(I 0)]),.s1 9 10 47]) (.s (.d [.f1 48 0 10,.l1 49 1 48,.b1 50 .eql 49 (.i 2),.mv 51 50,.g1 52 2 10 51,.g1 53 6 52 51,.g2 54 1 53 51,.g1 55 3 2 51,.g2 56 1 55 51,.gt 57 (.bin .gtr 54 56) 51,.p2 58 51 57,.mv 59 58,.g1 60 2 10 59,.g1 61 5 60 59,.g2 62 1 61 59,.g1 63 7 2 59,.g2 64 1 63 59,.g1 65 1 10 59,.g2 66 1 65 59,.gt 67 (.ia 1 64 66) 59,.g2 68 1 67 59,.gt 69 (.bin .gtr 62 68) 59,.p2 70 59 69,.mv 11 70]) (.s (.r [.mv 71 11,.mv 72 71,.gt 73 (.ld true 14 2) 72,.g3 74 1 72,.g1 75 1 10 72,.g2 76 1 75 72,.g1 77 2 10 72,.gt 78 (.ld true 7 77) 72,.gt 79 (.call 131 [73,74,76,78]) 72,.gt 80 (.un .not 79) 72,.p2 81 72 80]) (.cnd 81 (.rf 4) .skip))))) (.r [.b1 82 .add 44 (.i 1),.mv 44 82]))))))) (.rt 4))))
theorem zju:zc Tryz.prog [] 78=some (zjt.ac,[(.t 4)],83):=by kernel_rfl
theorem zo1 (W0:World) (hM:HM W0) (w:Wld) (t:List Ent) (ht:tOk t=true) (hl:w.holds.length=3) (hf:w.floors.length=3) (hw:∀ m∈w.net,isW m.who):Fn Tryz.prog W0 78 [zB w,za t] (.c (CB (tb (HeldOk w t)))) []:=by
 refine fX mixed zju fun hg=>?_
 have g0:=yN (hg _ (by simp:zB w∈_));have g1:w.net.length≤9223372036854775807:=jc (g0 _ (by simp:jM w.net∈_));refine dr ?_;refine lp (σ:=Nat) (fun j=>[(1,.c (za t)),(2,.ptr 32 0),(13,.c (jC w.holds)),(14,I w.holds.length),(15,I j)]) (fun _=>[(32,wBx w)]) (fun j=>j≤w.holds.length∧∀ i:Nat,i < j→∀ h∈hdW w i,So w t i h) (fun j=>w.holds.length - j) 0 ⟨by omega,fun i h=>by omega⟩ ?_ ?_
 ·refine dr ?_;trivial
 rintro j ⟨hj,hA⟩;refine dr ?_;apply cP<;>intro h1
 ·have hj':j < w.holds.length:=by omega
  have g2:=goodHd g0 hj';have ehd:=zce hj';refine dr ?_;refine lp (σ:=Nat) (fun k=>[(1,.c (za t)),(2,.ptr 32 0),(5,I j),(13,.c (jC w.holds)),(14,I w.holds.length),(15,I j),(20,.c (zf w.holds[j])),(21,I w.holds[j].length),(22,I k)]) (fun _=>[(32,wBx w)]) (fun k=>k≤w.holds[j].length∧∀ h∈w.holds[j].take k,So w t j h) (fun k=>w.holds[j].length - k) 0 ⟨by omega,by simp⟩ ?_ ?_
  ·refine dr ?_;trivial
  rintro k ⟨hk,hB⟩;refine dr ?_;apply cP<;>intro b1;rotate_left
  ·have hkl:k=w.holds[j].length:=by omega
   rw [hkl,List.take_length] at hB;refine dr ?_;refine ⟨j+1,⟨by omega,fun i hi h hh=>?_⟩,by omega,?_⟩
   ·by_cases e:i=j
    ·subst e; rw [ehd] at hh; exact hB h hh
    ·exact hA i (by omega) h hh
   refine dr ?_;trivial
  have hk':k < w.holds[j].length:=by omega
  have next:So w t j w.holds[j][k]→∀ h∈w.holds[j].take (k+1),So w t j h:=fun h l hl=>by
   rw [List.take_succ_eq_append_getElem hk'] at hl;rcases List.mem_append.1 hl with h' | h'
   ·exact hB l h'
   ·rw [List.mem_singleton.1 h']; exact h
  refine dr ?_;apply cP<;>intro b2
  ·refine dEr ?_;repeat (refine c0 (zea W0 hM w t (j:Int) w.holds[j][k] ht b2) rfl ?_; first|refine dEr ?_|exact dz)
   apply cP<;>intro b3
   ·refine dr ?_;exact pF fun hh=>b3 (hh.1 j (by omega) _ (by rw [ehd]; exact List.getElem_mem hk'))
   ·refine dr ?_;refine ⟨k+1,⟨by omega,next b3⟩,by omega,?_⟩;refine dr ?_;trivial
  ·refine dr ?_;refine ⟨k+1,⟨by omega,next fun hh=>by omega⟩,by omega,?_⟩;refine dr ?_;trivial
 have hA:∀ i:Nat,i < 3→∀ h∈hdW w i,So w t i h:=fun i hi=>hA i (by omega)
 refine dr ?_;refine lp (σ:=Nat) (fun k=>[(1,.c (za t)),(2,.ptr 32 0),(42,.c (jM w.net)),(43,I w.net.length),(44,I k)]) (fun _=>[(32,wBx w)]) (fun k=>k≤w.net.length∧∀ m∈w.net.take k,YC w m→So w t m.who m.hold) (fun k=>w.net.length - k) 0 ⟨by omega,by simp⟩ ?_ ?_
 ·refine dr ?_;trivial
 rintro k ⟨hk,hB⟩;refine dr ?_;apply cP<;>intro c1;rotate_left
 ·have hkl:k=w.net.length:=by omega
  rw [hkl,List.take_length] at hB;refine dr ?_;exact pT ⟨hA,hB⟩
 have hk':k < w.net.length:=by omega
 have hmk:=List.getElem_mem hk';have hwk:=hw _ hmk;have next:(YC w w.net[k]→So w t w.net[k].who w.net[k].hold)→∀ m∈w.net.take (k+1),YC w m→So w t m.who m.hold:=fun h l hl=>by
  rw [List.take_succ_eq_append_getElem hk'] at hl;rcases List.mem_append.1 hl with h' | h'
  ·exact hB l h'
  ·rw [List.mem_singleton.1 h']; exact h
 refine dr ?_;apply cP<;>intro c2;rotate_left
 ·refine dr ?_;refine ⟨k+1,⟨by omega,next fun hh=>absurd hh.1 c2⟩,by omega,?_⟩;refine dr ?_;trivial
 refine dr ?_;apply cP<;>intro c3;rotate_left
 ·refine dr ?_;refine ⟨k+1,⟨by omega,next fun hh=>by have:=hh.2.1; omega⟩,by omega,?_⟩;refine dr ?_;trivial
 refine dr ?_;repeat (refine aFl hwk hf ?_; first|refine dr ?_|exact dz)
 apply cP<;>intro c4;rotate_left
 ·refine dr ?_;refine ⟨k+1,⟨by omega,next fun hh=>by have:=hh.2.2; omega⟩,by omega,?_⟩;refine dr ?_;trivial
 refine dEr ?_;repeat (refine c0 (zea W0 hM w t w.net[k].who w.net[k].hold ht c3) rfl ?_; first|refine dEr ?_|exact dz)
 apply cP<;>intro c5
 ·refine dr ?_;exact pF fun hh=>c5 (hh.2 _ hmk ⟨c2,c3,c4⟩)
 ·refine dr ?_;refine ⟨k+1,⟨by omega,next fun _=>c5⟩,by omega,?_⟩;refine dr ?_;trivial
def zjd:XC:=(.s (.r [.x1 1 0,.m1 2 .n]) (.s (.s (.r [.f1 6 8 1,.l1 7 1 6,.n1 8 7,.m1 9 (.i 0)]) (.blk 0 (.loop (.s (.r [.b1 10 .lss 9 8]) (.s (.ce 10 0) (.s (.blk 1 (.s (.r [.i1 11 9 7 9,.l2 12 9 11,.ex 4 (.alloc [(I 0),(I 0),sE,(B false),sE,(B false),sE,(I 0),(I 0)]),.s1 9 4 12]) (.s (.s (.r [.f1 13 0 4,.l1 14 1 13,.b1 15 .neq 14 (.i 4)]) (.cnd 15 (.exit 1) .skip)) (.s (.s (.d [.f1 16 2 4,.f1 17 5 16,.l1 18 1 17,.f1 19 7 1,.l1 20 1 19,.f1 21 1 4,.l1 22 1 21,.i1 23 1 20 22,.l1 24 1 23,.b1 25 .gtr 18 24]) (.cnd 25 (.rf 2) .skip)) (.s (.d [.f1 26 6 1,.l1 27 1 26,.f1 28 1 4,.l1 29 1 28,.i1 30 1 27 29,.l1 31 1 30,.f1 32 2 4,.f1 33 0 32,.l1 34 1 33,.c1 35 55 [31,34],.mv 5 35]) (.s (.d [.mv 36 5,.b1 37 .geq 36 (.i 0),.mv 38 37,.g1 39 6 1 38,.g2 40 1 39 38,.g1 41 1 4 38,.g2 42 1 41 38,.gt 43 (.ia 1 40 42) 38,.g2 44 1 43 38,.g3 45 5 38,.gt 46 (.ia 7 44 45) 38,.g1 47 5 46 38,.g2 48 1 47 38,.g1 49 2 4 38,.g1 50 5 49 38,.g2 51 1 50 38,.gt 52 (.bin .leq 48 51) 38,.p2 53 38 52]) (.cnd 53 (.rf 2) .skip))))))) (.r [.b1 54 .add 9 (.i 1),.mv 9 54]))))))) (.rt 2)))
theorem zje:zc Tryz.prog [] 79=some (zjd.ac,[(.t 2)],55):=by kernel_rfl
theorem zoQ (W0:World) (w:Wld) (hl:w.holds.length=3) (hf:w.floors.length=3) (hw:∀ m∈w.net,isW m.who) (hs:∀ l∈w.holds,HsOk w l):Fn Tryz.prog W0 79 [zB w] (.c (CB (tb (BackOk w)))) []:=by
 refine fX mixed zje fun hg=>?_
 have g0:=yN (hg _ (by simp:zB w∈_));have g1:w.net.length≤9223372036854775807:=jc (g0 _ (by simp:jM w.net∈_));refine dr ?_;refine lp (σ:=Nat) (fun k=>[(1,.ptr 16 0),(7,.c (jM w.net)),(8,I w.net.length),(9,I k)]) (fun _=>[(16,wBx w)]) (fun k=>k≤w.net.length∧∀ m∈w.net.take k,m.kind=4→Jg w m) (fun k=>w.net.length - k) 0 ⟨by omega,by simp⟩ ?_ ?_
 ·refine dr ?_;trivial
 rintro k ⟨hk,hA⟩;refine dr ?_;apply cP<;>intro h1;rotate_left
 ·have hkl:k=w.net.length:=by omega
  rw [hkl,List.take_length] at hA;refine dr ?_;exact pT hA
 have hk':k < w.net.length:=by omega
 have hmk:=List.getElem_mem hk';have hwk:=hw _ hmk;have next:(w.net[k].kind=4→Jg w w.net[k])→∀ m∈w.net.take (k+1),m.kind=4→Jg w m:=fun h l hl=>by
  rw [List.take_succ_eq_append_getElem hk'] at hl;rcases List.mem_append.1 hl with h' | h'
  ·exact hA l h'
  ·rw [List.mem_singleton.1 h']; exact h
 have hsk:HsOk w (hdW w w.net[k].who):=by
  obtain ⟨i,hi,e⟩:=ZX hwk;exact hs _ ((zcp hl).2 ⟨i,hi,by rw [e]⟩)
 have hgf:=zfe hsk.d (p:=w.net[k].hold.path) (n:=w.net[k].hold.num);have hha:=Zy W0 (hdW w w.net[k].who) w.net[k].hold.path;have hcs:=yP (hdW w w.net[k].who) w.net[k].hold.path;refine dr ?_;apply cP<;>intro c1
 ·refine dr ?_;refine ⟨k+1,⟨by omega,next fun hh=>absurd hh c1⟩,by omega,?_⟩;refine dr ?_;trivial
 refine dr ?_;repeat (refine aFl hwk hf ?_; first|refine dr ?_|exact dz)
 apply cP<;>intro c2
 ·refine dr ?_;exact pF fun hh=>by have:=(hh _ hmk c1).1; omega
 refine dEr ?_;repeat ((first|refine aHd hwk hl ?_|refine c0 hha rfl ?_); first|refine dEr ?_|exact dz)
 rcases hcs with ⟨e1,e2⟩ | ⟨j,hj,e1,e2,e3⟩
 ·rw [e1];apply cP<;>intro c3
  ·omega
  refine dr ?_;refine ⟨k+1,⟨by omega,next fun _=>⟨by omega,hgf.2 fun j hj hh=>by rw [e1] at hh; omega⟩⟩,by omega,?_⟩;refine dr ?_;trivial
 rw [e1];apply cP<;>intro c3;rotate_left
 ·omega
 refine dr ?_;repeat (refine aHd hwk hl ?_; first|refine dr ?_|exact dz)
 apply cP<;>intro c4
 ·refine dr ?_;exact pF fun hh=>by have:=hgf.1 (hh _ hmk c1).2 j hj e1; omega
 ·refine dr ?_;refine ⟨k+1,⟨by omega,next fun _=>⟨by omega,hgf.2 fun i hi hh=>?_⟩⟩,by omega,?_⟩
  ·rw [e1] at hh;obtain rfl:i=j:=by omega
   omega
  refine dr ?_;trivial
def zi7:XC:=(.s (.r [.x1 1 0,.m1 2 .n]) (.s (.r [.f1 8 0 1,.l2 9 3 8,.c1 10 18 [9],.mv 7 10,.e1 11 7 0,.e1 12 7 1,.a1 3 11 3 46,.mv 4 12]) (.s (.s (.r [.mv 13 4,.u1 14 13,.mv 15 14,.h1 16 3 1 15,.h2 17 1 16 15,.gf 18 (.call 73 [17,(.i 0),(.i 10000)]) 15,.gf 19 (.un .not 18) 15,.p1 20 15 19,.mv 21 20,.h1 22 4 1 21,.h2 23 1 22 21,.gf 24 (.call 73 [23,(.i 0),(.i 10000)]) 21,.gf 25 (.un .not 24) 21,.p1 26 21 25]) (.cnd 26 (.rf 2) .skip)) (.s (.s (.r [.f1 27 6 1,.l1 28 1 27,.n1 29 28,.b1 30 .neq 29 (.i 3),.mv 31 30,.h1 32 7 1 31,.h2 33 1 32 31,.gf 34 (.len false 33) 31,.gf 35 (.bin .neq 34 (.i 3)) 31,.p1 36 31 35]) (.cnd 36 (.rf 2) .skip)) (.s (.s (.r [.f1 37 7 1,.l1 38 1 37,.n1 39 38,.m1 40 (.i 0)]) (.blk 0 (.loop (.s (.r [.b1 41 .lss 40 39]) (.s (.ce 41 0) (.s (.blk 1 (.s (.r [.i1 42 1 38 40,.l1 43 1 42,.mv 6 43]) (.s (.r [.mv 44 6,.f1 45 4 1,.l1 46 1 45,.c1 47 73 [44,(.i 0),46],.u1 48 47]) (.cnd 48 (.rf 2) .skip)))) (.r [.b1 49 .add 40 (.i 1),.mv 40 49]))))))) (.s (.r [.l2 50 14 1,.c1 51 74 [50],.mv 52 51,.gt 53 (.ld true 14 1) 52,.gt 54 (.call 75 [53]) 52,.p2 55 52 54,.mv 56 55,.gt 57 (.ld true 14 1) 56,.gt 58 (.call 76 [57]) 56,.p2 59 56 58,.mv 60 59,.gt 61 (.ld true 14 1) 60,.g3 62 3 60,.gt 63 (.call 77 [61,62]) 60,.p2 64 60 63,.mv 65 64,.gt 66 (.ld true 14 1) 65,.g3 67 3 65,.gt 68 (.call 78 [66,67]) 65,.p2 69 65 68,.mv 70 69,.gt 71 (.ld true 14 1) 70,.gt 72 (.call 79 [71]) 70,.p2 73 70 72,.mv 2 73]) .ret))))))
theorem zi8:zc Tryz.prog [] 28=some (zi7.ac,[(.t 2)],74):=by kernel_rfl
theorem Y9 (W0:World) (hM:HM W0) (w:Wld):Fn Tryz.prog W0 28 [zB w] (.c (CB (tb (WG w)))) []:=by
 refine fX mixed zi8 fun hg=>?_
 have hv:=Q1 W0 hM w.over;have g0:=yN (hg _ (by simp:zB w∈_));have g1:w.floors.length≤9223372036854775807:=jc (g0 _ (by simp:jU w.floors∈_));rw [tb_c zrR];cases h1:oOk w.over with
 | false =>
  rw [h1] at hv;refine dEr ?_;repeat (refine c0 hv rfl ?_; first|refine dEr ?_|exact dz)
  exact pF fun h=>by rw [h.ov] at h1; cases h1
 | true =>
  obtain ⟨t',x,g⟩:=OG.of h1;have ev:vwG w.over=x:=g.vwG;rw [h1,if_pos rfl,g.vw] at hv;refine dEr ?_;repeat ((first|refine c0 hv rfl ?_|refine c0 (ZT W0 _ _ _) rfl ?_); first|refine dEr ?_|exact dz)
  apply cP<;>intro a1
  ·refine dr ?_;exact pF fun h=>a1 h.ck
  refine dEr ?_;repeat (refine c0 (ZT W0 _ _ _) rfl ?_; first|refine dEr ?_|exact dz)
  apply cP<;>intro a2
  ·refine dr ?_;exact pF fun h=>a2 h.ct
  refine dr ?_;apply cP<;>intro a3
  ·refine dr ?_;exact pF fun h=>by have:=h.hl; omega
  refine dr ?_;apply cP<;>intro a4
  ·refine dr ?_;exact pF fun h=>by have:=h.fl; omega
  have hl:w.holds.length=3:=by omega
  have hf:w.floors.length=3:=by omega
  refine dr ?_;refine lp (σ:=Nat) (fun k=>[(1,.ptr 16 0),(3,.c (za x)),(38,.c (jU w.floors)),(39,I w.floors.length),(40,I k)]) (fun _=>[(16,wBx w)]) (fun k=>k≤w.floors.length∧∀ f∈w.floors.take k,0≤f∧f≤w.count) (fun k=>w.floors.length - k) 0 ⟨by omega,by simp⟩ ?_ ?_
  ·refine dr ?_;trivial
  rintro k ⟨hk,hA⟩;refine dr ?_;apply cP<;>intro b1
  ·have hk':k < w.floors.length:=by omega
   refine dEr ?_;repeat (refine c0 (ZT W0 _ _ _) rfl ?_; first|refine dEr ?_|exact dz)
   apply cP<;>intro b2
   ·refine dr ?_;exact pF fun h=>b2 (h.fr _ (List.getElem_mem hk'))
   ·refine dr ?_;refine ⟨k+1,⟨by omega,fun l hl=>?_⟩,by omega,?_⟩
    ·rw [List.take_succ_eq_append_getElem hk'] at hl;rcases List.mem_append.1 hl with h' | h'
     ·exact hA l h'
     ·rw [List.mem_singleton.1 h']; exact b2
    refine dr ?_;trivial
  have hkl:k=w.floors.length:=by omega
  rw [hkl,List.take_length] at hA;refine dEr ?_;repeat (refine c0 (zp0 W0 hM w) rfl ?_; first|refine dEr ?_|exact dz)
  apply cP<;>intro c1;rotate_left
  ·refine dr ?_;exact pF fun h=>c1 ⟨h.nl,h.nt⟩
  refine dEr ?_;repeat (refine c0 (zpV W0 hM w a1.2) rfl ?_; first|refine dEr ?_|exact dz)
  apply cP<;>intro c2;rotate_left
  ·refine dr ?_;exact pF fun h=>c2 h.ls
  refine dEr ?_;repeat (refine c0 (zo3 W0 hM w) rfl ?_; first|refine dEr ?_|exact dz)
  apply cP<;>intro c3;rotate_left
  ·refine dr ?_;exact pF fun h=>c3 h.hs
  refine dEr ?_;repeat (refine c0 (zqk W0 hM w x) rfl ?_; first|refine dEr ?_|exact dz)
  apply cP<;>intro c4;rotate_left
  ·refine dr ?_;exact pF fun h=>c4 (by have:=h.wt; rwa [ev] at this)
  have hwm:∀ m∈w.net,isW m.who:=fun m hm=>(c1.2 m hm).who
  refine dEr ?_;repeat (refine c0 (zo1 W0 hM w x g.gx hl hf hwm) rfl ?_; first|refine dEr ?_|exact dz)
  apply cP<;>intro c5;rotate_left
  ·refine dr ?_;exact pF fun h=>c5 (by have:=h.he; rwa [ev] at this)
  refine dEr ?_;repeat (refine c0 (zoQ W0 w hl hf hwm c3) rfl ?_; first|refine dEr ?_|exact dz)
  exact congrArg CB (tb_c ⟨fun h=>⟨h1,a1,a2,hl,hf,hA,c1.1,c1.2,c2,c3,by rw [ev]; exact c4,by rw [ev]; exact c5,h⟩,fun h=>h.bk⟩)
def zjX:XC:=(.s (.r [.x1 2 0,.x1 3 1,.a2 4 1 9]) (.s (.r [.f1 10 0 2,.l2 11 3 10,.c1 12 18 [11],.mv 9 12,.e1 13 9 0,.e1 14 9 1,.a1 5 13 3 46,.mv 6 14]) (.s (.r [.mv 16 5,.l2 17 4 3,.c1 18 19 [16,17],.mv 15 18,.e1 19 15 0,.e1 20 15 1,.a1 7 19 3 46,.mv 8 20]) (.s (.s (.r [.mv 21 8,.b1 22 .neq 21 (.i 0)]) (.cnd 22 (.s (.r [.a2 4 1 9]) .ret) .skip)) (.s (.r [.mv 23 5,.mv 24 7,.c1 25 20 [23,24],.a1 4 25 1 9]) .ret)))))
theorem zjY:zc Tryz.prog [] 39=some (zjX.ac,[(.t 4)],26):=by kernel_rfl
theorem zp2 (W0:World) (hM:HM W0) (w:Wld) (op:Op) (h:oOk w.over=true):Fn Tryz.prog W0 39 [zB w,eOp op] (.c (jo (jQ w op))) []:=by
 refine fX mixed zjY fun hg=>?_
 have hv:=Q1 W0 hM w.over;obtain ⟨t',x,g⟩:=OG.of h;have ev:vwG w.over=x:=g.vwG;rw [h,if_pos rfl,g.vw] at hv;have hd:=Q3 W0 hM x op;have e:jQ w op=if (zx x op).2=0 then zZ x (zx x op).1 else []:=by unfold jQ; rw [ev]
 rw [e];have hq:=QC g.gx (op:=op);have ht:=zbG W0 hM x (zx x op).1;generalize zx x op=r at *;refine dEr ?_;repeat ((first|refine c0 hv rfl ?_|refine c0 hd rfl ?_); first|refine dEr ?_|exact dz)
 apply cP<;>intro h1
 ·refine dr ?_;repeat (refine oB (by simp) ?_; first|refine dr ?_|exact dz)
  rw [if_neg h1]<;>rfl
 ·obtain ⟨_,_,q1,q2⟩:=hq h1;rw [yi,if_pos (by rw [g.gx,q1,q2]; rfl)] at ht;refine dEr ?_;repeat (refine c0 ht rfl ?_; first|refine dEr ?_|exact dz)
  rw [if_pos h1]<;>rfl
def zil:XC:=(.s (.r [.m1 4 (.i 0)]) (.s (.s (.r [.mv 6 0,.n1 7 6,.m1 8 (.i 0)]) (.blk 0 (.loop (.s (.r [.b1 9 .lss 8 7]) (.s (.ce 9 0) (.s (.blk 1 (.s (.r [.mv 10 8,.mv 5 10]) (.s (.r [.mv 11 1,.mv 12 0,.mv 13 5,.i1 14 1 12 13,.l1 15 1 14,.b1 16 .eql 11 15]) (.cnd 16 (.s (.r [.mv 17 5,.mv 4 17]) .ret) .skip)))) (.r [.b1 18 .add 8 (.i 1),.mv 8 18]))))))) (.s (.r [.ex 4 (.mv (.k (.c (.sc (.int .i64 (.negSucc 0))))))]) .ret)))
theorem zim:zc Tryz.prog [] 95=some (zil.ac,[(.t 4)],19):=by kernel_rfl
theorem zoJ (W0:World) (l:List Str) (p:Str):Fn Tryz.prog W0 95 [jo l,CS p] (.c (CI (gIdx (fun x=>x==p) l))) []:=by
 refine fX mixed zim fun hg=>?_
 have g1:l.length≤9223372036854775807:=jc (hg _ (by simp:jo l∈_));refine dr ?_;refine lp (σ:=Nat) (fun k=>[(0,.c (jo l)),(1,.c (CS p)),(7,I l.length),(8,I k)]) (fun _=>[]) (fun k=>k≤l.length∧∀ x∈l.take k,(x==p)=false) (fun k=>l.length - k) 0 ⟨by omega,by simp⟩ ?_ ?_
 ·refine dr ?_;trivial
 rintro k ⟨hk,hA⟩;refine dr ?_;apply cP<;>intro h1
 ·have hk':k < l.length:=by omega
  refine dr ?_;apply cP<;>intro h2
  ·refine dr ?_;rw [zb4 hk' hA (by simp [h2])]
  ·refine dr ?_;refine ⟨k+1,⟨by omega,zcw hk' hA (by simp; exact fun h=>h2 h.symm)⟩,by omega,?_⟩;refine dr ?_;trivial
 have hkl:k=l.length:=by omega
 rw [hkl,List.take_length] at hA;rw [zb5 hA];refine dr ?_;rfl
def zhZ:XC:=(.s (.r [.m1 4 .n]) (.s (.r [.mv 5 0,.mv 6 1,.c1 7 95 [5,6],.b1 8 .geq 7 (.i 0),.mv 4 8]) .ret))
theorem zh0:zc Tryz.prog [] 40=some (zhZ.ac,[(.t 4)],9):=by kernel_rfl
theorem zbE (W0:World) (l:List Str) (p:Str):Fn Tryz.prog W0 40 [jo l,CS p] (.c (CB (l.contains p))) []:=by
 refine fX mixed zh0 fun hg=>?_
 refine dEr ?_;repeat (refine c0 (zoJ W0 l p) rfl ?_; first|refine dEr ?_|exact dz)
 refine congrArg CB ?_;rw [Bool.eq_iff_iff,zaD,List.contains_eq_mem,decide_eq_true_iff];rcases Jw (fun x=>x==p) l with ⟨h1,_,h3⟩ | ⟨j,hj,h1,_,h2,_⟩
 ·rw [h1];exact ⟨fun h=>by omega,fun h=>by have:=h3 p h; simp at this⟩
 ·rw [h1];refine ⟨fun _=>?_,fun _=>by omega⟩;have e:l[j]=p:=by simpa using h2
  rw [← e]; exact List.getElem_mem hj
def zi3:XC:=(.s (.r [.x1 2 0,.x1 3 1,.a2 4 4 59]) (.s (.s (.r [.l2 9 14 2,.c1 10 28 [9],.u1 11 10]) (.cnd 11 (.s (.r [.a2 4 4 59]) .ret) .skip)) (.s (.r [.l2 12 14 2,.l2 13 4 3,.c1 14 39 [12,13],.a1 5 14 1 9]) (.s (.r [.a2 6 4 59]) (.s (.s (.r [.f1 15 5 2,.l1 16 1 15,.n1 17 16,.m1 18 (.i 0)]) (.blk 0 (.loop (.s (.r [.b1 19 .lss 18 17]) (.s (.ce 19 0) (.s (.blk 1 (.s (.r [.i1 20 4 16 18,.l2 21 4 20,.ex 8 (.alloc [(I 0),sE,(I 0),(I 0)]),.s1 4 8 21]) (.s (.r [.f1 22 3 8,.l1 23 1 22,.f1 24 3 2,.l1 25 1 24,.b1 26 .gtr 23 25,.mv 27 26,.g3 28 5 27,.g1 29 1 8 27,.g2 30 1 29 27,.gt 31 (.call 40 [28,30]) 27,.p2 32 27 31]) (.cnd 32 (.r [.mv 33 6,.l2 34 4 8,.ex 35 (.bsl 4 59 [34]),.ex 36 (.app false 4 40 59 33 35),.a1 6 36 4 59]) .skip)))) (.r [.b1 37 .add 18 (.i 1),.mv 18 37]))))))) (.s (.r [.mv 38 6,.a1 4 38 4 59]) .ret))))))
theorem zi4:zc Tryz.prog [] 13=some (zi3.ac,[(.t 4)],39):=by kernel_rfl
theorem zbK (W0:World) (hM:HM W0) (w:Wld) (op:Op) (hl:w.leases.length≤1000000):Fn Tryz.prog W0 13 [zB w,eOp op] (.c (zv (wBars w op))) []:=by
 refine fX mixed zi4 fun hg=>?_
 refine dEr ?_;repeat (refine c0 (Y9 W0 hM w) rfl ?_; first|refine dEr ?_|exact dz)
 apply cP<;>intro h0
 ·refine dr ?_;repeat (refine oB (by simp) ?_; first|refine dr ?_|exact dz)
  unfold wBars; rw [if_neg h0]<;>rfl
 have ew:wBars w op=zI w op:=by unfold wBars; rw [if_pos h0]
 rw [ew,YI];have ht:=zp2 W0 hM w op h0.ov;generalize jQ w op=ts at *;refine dEr ?_;repeat (refine c0 ht rfl ?_; first|refine dEr ?_|exact dz)
 refine lp2 (fun (k:Nat) (out:List Lease)=>[(2,.ptr 32 0),(5,.c (jo ts)),(6,.own 96 out.length),(16,.c (zv w.leases)),(17,I w.leases.length),(18,I k)]) (fun _ out=>[(32,wBx w),(96,.row (out.map jt) 4 59)]) (fun k out=>k≤w.leases.length∧out=(w.leases.take k).filter (fun l=>decide (w.clock < l.til)&&ts.contains l.path)∧out.length≤k) (fun k _=>w.leases.length - k) 0 [] ⟨by simp,rfl,by simp⟩ ?_ ?_
 ·refine dr ?_;trivial
 rintro k out ⟨hk,ho,hle⟩;refine dr ?_;apply cP<;>intro h1
 ·have hk':k < w.leases.length:=by omega
  refine dr ?_;apply cP<;>intro h2
  ·refine dEr ?_;repeat (refine c0 (zbE W0 ts _) rfl ?_; first|refine dEr ?_|exact dz)
   apply cP<;>intro h3
   ·refine dr ?_;repeat ((first|refine oB (by simp; omega) ?_|refine oB (by simp) ?_); first|refine dr ?_|exact dz)
    refine ⟨k+1,out++[w.leases[k]],⟨by omega,by rw [qx hk' (by rw [decide_eq_true h2,h3]<;>rfl),ho],by simp; omega⟩,by omega,?_⟩;refine dr ?_;repeat (refine oB (by simp<;>rfl) ?_; first|refine dr ?_|exact dz)
    trivial
   ·refine dr ?_;refine ⟨k+1,out,⟨by omega,by rw [qe hk' (by rw [h3,Bool.and_false]),ho],by omega⟩,by omega,?_⟩;refine dr ?_;trivial
  ·refine dr ?_;refine ⟨k+1,out,⟨by omega,by rw [qe hk' (by rw [decide_eq_false (by omega),Bool.false_and]),ho],by omega⟩,by omega,?_⟩;refine dr ?_;trivial
 have hkl:k=w.leases.length:=by omega
 rw [hkl,List.take_length] at ho;refine dr ?_;repeat (refine oB (by simp) ?_; first|refine dr ?_|exact dz)
 rw [← ho]<;>rfl
def zi9:XC:=(.s (.r [.x1 3 0,.ex 6 (.alloc zE),.m1 7 .n,.m1 8 .n]) (.s (.s (.r [.l2 10 14 3,.c1 11 28 [10],.u1 12 11,.mv 13 12,.h3 14 1 13,.gf 15 (.call 49 [14]) 13,.gf 16 (.un .not 15) 13,.p1 17 13 16]) (.cnd 17 (.s (.r [.ex 18 (.build zE []),.s1 3 6 18,.m1 7 .n,.m1 8 .n]) .ret) .skip)) (.s (.r [.f1 19 6 3,.l1 20 1 19,.mv 21 1,.i1 22 1 20 21,.l1 23 1 22,.mv 24 2,.c1 25 55 [23,24],.mv 9 25]) (.s (.s (.d [.mv 26 9,.b1 27 .lss 26 (.i 0),.mv 28 27,.h1 29 6 3 28,.h2 30 1 29 28,.h3 31 1 28,.gf 32 (.ia 1 30 31) 28,.h2 33 1 32 28,.h3 34 9 28,.gf 35 (.ia 7 33 34) 28,.h1 36 6 35 28,.h2 37 1 36 28,.h1 38 3 3 28,.h2 39 1 38 28,.gf 40 (.bin .leq 37 39) 28,.p1 41 28 40]) (.cnd 41 (.s (.r [.ex 42 (.build zE []),.s1 3 6 42,.m1 7 .n,.m1 8 .n]) .ret) .skip)) (.s (.d [.f1 43 6 3,.exo [96] 44 (.ld false 1 43),.mv 45 1,.exo [96] 46 (.ia 1 44 45),.exo [96] 47 (.ld false 1 46),.mv 48 9,.exo [96] 49 (.ia 7 47 48),.f1 50 2 49,.exo [96] 51 (.ld true 3 50),.f1 52 6 3,.exo [96] 53 (.ld false 1 52),.mv 54 1,.exo [96] 55 (.ia 1 53 54),.exo [96] 56 (.ld false 1 55),.mv 57 9,.exo [96] 58 (.ia 7 56 57),.f1 59 1 58,.exo [96] 60 (.ld false 1 59),.nuo [96] (.st 3 6 51),.mv 7 60,.m1 8 .y]) .ret)))))
theorem zja:zc Tryz.prog [1000096] 17=some (zi9.ac,[(.cell 6 true 3),(.t 7),(.t 8)],61):=by kernel_rfl
theorem zeh (W0:World) (hM:HM W0) (w:Wld) (who:Int) (p:Str):Fn Tryz.prog W0 17 [zB w,CI who,CS p] (.c (eWR (wRead w who p))) []:=by
 refine fX mixed zja fun hg=>?_
 refine dEr ?_;repeat (refine c0 (Y9 W0 hM w) rfl ?_; first|refine dEr ?_|exact dz)
 apply cP<;>intro h1
 ·refine dr ?_;rw [zhI (fun hh=>h1 hh.1)]<;>rfl
 refine dEr ?_;repeat (refine c0 (zaa W0 who) rfl ?_; first|refine dEr ?_|exact dz)
 apply cP<;>intro h2
 ·refine dr ?_;rw [zhI (fun hh=>h2 hh.2)]<;>rfl
 rw [ztr h1 h2];have hl:=h1.pl.hl;have hd:(hdW w who).Pairwise fun a b=>a.path≠b.path:=by
  obtain ⟨i,hi,e⟩:=ZX h2;rw [e]; exact (h1.hd i hi).d
 have hcs:=yP (hdW w who) p;have hon:=@zaz (hdW w who) hd;refine dEr ?_;repeat ((first|refine aHd h2 hl ?_|refine c0 (Zy W0 _ _) rfl ?_); first|refine dEr ?_|exact dz)
 rcases hcs with ⟨e1,e2⟩ | ⟨j,hj,e1,e2,e3⟩
 ·rw [e1];apply cP<;>intro h3
  ·rw [zeN (fun x hx=>by have:=e2 x hx; simp [this])];refine dr ?_;rfl
  ·omega
 rw [e1];apply cP<;>intro h3
 ·omega
 refine dr ?_;repeat (refine aHd h2 hl ?_; first|refine dr ?_|exact dz)
 apply cP<;>intro h4
 ·rw [zeN (fun x hx=>by
   obtain ⟨i,hi,rfl⟩:=List.mem_iff_getElem.1 hx;by_cases hij:i=j
   ·subst hij; rw [decide_eq_false (by omega),Bool.and_false]
   ·have:=hon hj i hi hij;rw [e2] at this;simp [this])]
  refine dr ?_;rfl
 ·rw [zqm hj (fun x hx=>by
   obtain ⟨i,hi,rfl⟩:=List.mem_iff_getElem.1 hx;rw [List.length_take] at hi;have:=e3 i (by omega) (by omega);rw [List.getElem_take];simp [this]) (by rw [e2,decide_eq_true h4]; simp)]
  refine dr ?_;repeat (refine aHd h2 hl ?_; first|refine dr ?_|exact dz)
  rfl

section
open Go.Shelf Go.Lib Go.Sort
variable {P:Program} {ρ:Ren}
theorem Qg (b:Nat) {e:TypeId} {z:Nat × Nat}:∀ (vs:List Value) (o:Nat) (w:World) (A:List Value),w.heap[b]? = some (.cells A.toArray e z)→o+vs.length≤A.length →
  (w.setCells b o vs).heap[b]? = some (.cells (A.take o++vs++A.drop (o+vs.length)).toArray e z)
 | [],o,w,A,h,_=>by simpa [World.setCells] using h
 | v::r,o,w,A,h,hl=>by
  have hl':o+(r.length+1)≤A.length:=hl;rw [World.setCells];have h1:(w.setCell ⟨b,o,none⟩ v).heap[b]? = some (.cells (A.set o v).toArray e z):=by
   unfold World.setCell;simp [Array.getElem?_modify,h]
  rw [Qg b r (o+1) _ _ h1 (by simp; omega)]
  congr 2
  rw [List.set_eq_take_append_cons_drop,if_pos (by omega)];have ht:(A.take o).length=o:=by simp; omega
  rw [List.take_append,List.drop_append,ht,List.take_of_length_le (by omega),show (A.take o).drop (o+1+r.length)=[] from List.drop_eq_nil_of_le (by omega),show o+1 - o=1 by omega,show o+1+r.length - o=r.length+1 by omega];simp;rw [show o+1+r.length=o+(r.length+1) by omega]
theorem zsc (w:World) (t e ty:TypeId) (z:Value) (zs:List Value) (ht:P.underlying t=some (.slice e)) (hv:∀ w,(zeroValue e).run P w = .ok z w) (hz:z.cells=zs.toArray) (h1:∀ u∈zs,u.oneCell'=true) (b o c:Nat)
  (hc:∀ j,j < zs.length→(w.cell? ⟨b,o+j,none⟩).isSome=true) (hf:∀ j,j < zs.length→w.frozen? ⟨b,o+j,none⟩=false) :
  (Builtin.clear_ #[t] ty #[.slice (some ⟨b,o,none⟩) 1 c]).run P w = .ok (.tuple #[]) (w.setCells b o zs):=by
 have hzc:(Builtin.zeroCells z.cells 1).toList=zs:=by
  rw [hz];simp [Builtin.zeroCells];apply List.ext_getElem
  ·simp
  ·intro i g1 g2;simp [Nat.mod_eq_of_lt g2,g2]
 have hst:=run_storeCells_cells (P:=P) b o zs 0 w (by simpa using hc) (by simpa using hf) h1;simp only [Nat.add_zero] at hst;simp [Builtin.clear_,run_underlying ht,hv,hzc,hst]
set_option maxHeartbeats 4000000 in
set_option maxRecDepth 1000000 in
theorem zbu (L:SlLaysE0.n45 P ρ) (k:Nat) (i0:TypeInfo) (hi0:P.info? (ρ.t 23)=some i0) (hz1:i0.size=k) (h0:0 < k) (z:Value) (zs:List Value) (v23:∀ w,(zeroValue (ρ.t 23)).run P w = .ok z w) (hz:z.cells=zs.toArray) (hzl:zs.length=k) (hz2:∀ u∈zs,u.oneCell'=true)
  (z23:∀ w,(Go.sizeOf (ρ.t 23)).run P w = .ok k w)
  (b cap i j n:Nat) (hji:j=i+1) (F rest:List Value) (e:TypeId) (w:World) (hF:F.length=n * k) (h1:∀ u∈F,u.oneCell'=true) (hb:w.heap[b]? = some (.cells (F++rest).toArray e (0,0))) (hi:i < n) (hcap:n≤cap) (hm:cap≤9223372036854775807) :
  Calls P (ρ.f 45) #[.slice (some ⟨b,0,none⟩) n cap,.int .i64 i,.int .i64 j] w fun e w'=>e = .returned (.slice (some ⟨b,0,none⟩) (n - 1) cap)∧w'=(w.drew.setCells b (i * k) (F.drop (j * k))).setCells b ((n - 1) * k) zs:=by
 have mixed:=L.mixed; have t0:=L.t0; have a0:=L.a0; have z0:=L.z0; have v0:=L.v0; have t3:=L.t3; have a3:=L.a3; have z3:=L.z3; have v3:=L.v3; have t4:=L.t4; have a4:=L.a4; have z4:=L.z4; have v4:=L.v4; have t22:=L.t22; have a22:=L.a22; have z22:=L.z22; have v22:=L.v22;obtain ⟨news,hnews⟩:∃ news,news=F.drop (j * k):=⟨_,rfl⟩;have hlen:news.length=(n - j) * k:=by rw [hnews,List.length_drop,hF,Nat.sub_mul]
 have hcell:∀ t,t < n * k→w.drew.cell? ⟨b,t,none⟩=F[t]? ∧ w.drew.frozen? ⟨b,t,none⟩=false:=fun t ht=>by
  have hb':w.drew.heap[b]? = some (.cells (F++rest).toArray e (0,0)):=hb;refine ⟨?_,?_⟩
  ·unfold World.cell?;simp only [hb'];rw [List.getElem?_toArray,List.getElem?_append_left (by omega)]; rfl
  ·unfold World.frozen?;simp only [hb']; simp
 obtain ⟨A,hA,hsrc⟩:∃ A:Addr,(if cap=j then some (⟨b,0,none⟩:Addr) else some ⟨b,j * k,none⟩)=some A∧Go.RowKit.Hid (∀ t u,news[t]? = some u→w.drew.cell? (A.add t)=some u):=by
  by_cases h:cap=j
  ·refine ⟨⟨b,0,none⟩,by simp [h],fun t u hu=>?_⟩;have hl0:news.length=0:=by rw [hlen,show n - j=0 by omega,Nat.zero_mul]
   rw [List.length_eq_zero_iff.1 hl0] at hu;simp at hu
  ·refine ⟨⟨b,j * k,none⟩,by simp [h],fun t u hu=>?_⟩;have ht:t < (n - j) * k:=by
    have:=(List.getElem?_eq_some_iff.1 hu).1
    rwa [hlen] at this
   rw [hnews,List.getElem?_drop] at hu;have hlt:j * k+t < n * k:=(List.getElem?_eq_some_iff.1 hu).1 |> fun h=>by rwa [hF] at h
   rw [Addr.add_lit,(hcell _ hlt).1,hu]
 have bnd:j * k≤n * k:=Nat.mul_le_mul_right k (by omega);have s1:Go.RowKit.Hid (news.length=(n - j) * k):=hlen;have s2:Go.RowKit.Hid (∀ u∈news,u.oneCell'=true):=by
  intro u hu;rw [hnews] at hu;exact h1 u (List.mem_of_mem_drop hu)
 have s3:Go.RowKit.Hid (∀ t,t < news.length→(w.drew.cell? ⟨b,0+i * k+t,none⟩).isSome=true∧w.drew.frozen? ⟨b,0+i * k+t,none⟩=false):=by
  intro t ht;rw [hlen,Nat.sub_mul] at ht;have e1:j * k=i * k+k:=by rw [hji,Nat.add_mul,Nat.one_mul]
  have:=hcell (0+i * k+t) (by omega);rw [this.1];exact ⟨by rw [List.getElem?_eq_getElem (by omega)]; rfl,this.2⟩
 obtain ⟨W1,hW1⟩:∃ W1,W1=w.drew.setCells b (0+i * k) news:=⟨_,rfl⟩;have hcl:∀ ty,(Builtin.clear_ #[ρ.t 22] ty #[.slice (some ⟨b,(i+(n - j)) * k,none⟩) (n - (i+(n - j))) (cap - (i+(n - j)))]).run P W1 = .ok (.tuple #[]) (W1.setCells b ((i+(n - j)) * k) zs):=fun ty=>by
  rw [show n - (i+(n - j))=1 by omega];have hs:∀ t,t < n * k→(W1.cell? ⟨b,t,none⟩).isSome=true∧W1.frozen? ⟨b,t,none⟩=false:=fun t ht=>by
   have hb':w.drew.heap[b]? = some (.cells (F++rest).toArray e (0,0)):=hb;have e1:j * k=i * k+k:=by rw [hji,Nat.add_mul,Nat.one_mul]
   have h2:=Qg b news (0+i * k) w.drew _ hb' (by rw [List.length_append,hlen,Nat.sub_mul]; omega);rw [← hW1] at h2;refine ⟨?_,?_⟩
   ·unfold World.cell?;simp only [h2];rw [List.getElem?_toArray,List.getElem?_eq_getElem (by simp [hlen,Nat.sub_mul]; omega)]; rfl
   ·unfold World.frozen?;simp only [h2]; simp
  have e1:(i+(n - j)) * k+k=n * k:=by rw [show n=i+(n - j)+1 by omega,Nat.add_mul _ 1,Nat.one_mul]; congr 2; congr 1; omega
  exact zsc W1 _ _ ty z zs t22 v23 hz hz2 b _ _ (fun t ht=>(hs _ (by omega)).1) fun t ht=>(hs _ (by omega)).2
 have hW:Go.RowKit.Hid (W1=w.drew.setCells b (0+i * k) news):=hW1;have X:Aside (W1=w.drew.setCells b (0+i * k) news∧news=F.drop (j * k)):=⟨hW1,hnews⟩;have hic:i≤cap:=by omega
 have hjc:j≤cap:=by omega
 have hjn:j≤n:=by omega
 have hij:i≤j:=by omega
 have heq:¬ i=j:=by omega
 have J:Aside (j=i+1):=hji;clear hW1 hcell hnews hlen hb hji;obtain ⟨_,_,FG⟩:=L.f45;go_enter FG,SlBodyN.n45_ntmps ρ;go_wp2_with fail;go_region_law_o (refine step_append_room rfl (.tmp 22) (.tmp 25) (ρ.t 22) rfl (ρ.t 23) i0 k t22 hi0 hz1 b 0 i cap (by simp [Act.eval,Act.put]) A (n - j) (cap - j) news (by simp [Act.eval,Act.put]) s1.out hsrc.out s2.out (by omega) s3.out ?_; rw [← hW.out]);go_wp2;go_ret;have hJ:=J.out;obtain ⟨x1,x2⟩:=X.out;refine ⟨by rw [show n - 1=i+(n - j) by omega]; rfl,?_⟩;rw [x1,x2,Nat.zero_add,show i+(n - j)=n - 1 by omega]
end
theorem zak {α:Type} {enc:α→List Value} {k:Nat} (hk:∀ x,(enc x).length=k):∀ (X:List α) (i:Nat),(X.take i).flatMap enc=(X.flatMap enc).take (i * k)
 | [],i=>by simp
 | a::r,0=>by simp
 | a::r,i+1=>by
  have e:(i+1) * k=k+i * k:=by rw [Nat.add_mul,Nat.one_mul,Nat.add_comm]
  rw [List.take_succ_cons,List.flatMap_cons,List.flatMap_cons,zak hk r i,e,List.take_append,hk,List.take_of_length_le (l:=enc a) (by rw [hk]; omega),show k+i * k - k=i * k by omega]
theorem zbV {α:Type} {enc:α→List Value} {k:Nat} (hk:∀ x,(enc x).length=k):∀ (X:List α) (i:Nat),(X.drop i).flatMap enc=(X.flatMap enc).drop (i * k)
 | [],i=>by simp
 | a::r,0=>by simp
 | a::r,i+1=>by
  have e:(i+1) * k=k+i * k:=by rw [Nat.add_mul,Nat.one_mul,Nat.add_comm]
  rw [List.drop_succ_cons,List.flatMap_cons,zbV hk r i,e,List.drop_append,hk,show (enc a).drop (k+i * k)=[] from List.drop_eq_nil_of_le (by rw [hk]; omega),show k+i * k - k=i * k by omega,List.nil_append]
theorem zqq {α:Type} {enc:α→List Value} {k:Nat} (hk:∀ x,(enc x).length=k) (X:List α) (i:Nat):(X.eraseIdx i).flatMap enc=(X.flatMap enc).take (i * k)++(X.flatMap enc).drop ((i+1) * k):=by
 rw [List.eraseIdx_eq_take_drop_succ,List.flatMap_append,zak hk,zbV hk]
theorem MW.hand {W0 w w':World} {κ:Kap} {id id2 b sz:Nat} {L L2:List PV} {e:TypeId} (hne:id2≠id) (hm:MW W0 w κ [(id,.row L sz e)] κ [(id,.row L sz e)] w) (hL:L.length≤maxLen) (h0:0 < sz) (hkb:κ id=some b)
  (hos:w'.os=w.os) (htape:w'.tape=w.tape) (hout:w'.output=w.output) (hsize:w'.heap.size=w.heap.size) (hoth:∀ c,c < w.heap.size→c≠b→w'.heap[c]? = w.heap[c]?)
  (hB:qi (zh (zh κ id none) id2 (some b)) [(id,.row (jL sz) sz e),(id2,.row L2 sz e)] w' id2 (.row L2 sz e)) :
  MW W0 w κ [(id,.row L sz e)] (zh (zh κ id none) id2 (some b)) [(id,.row (jL sz) sz e),(id2,.row L2 sz e)] w':=by
 have hl:lk [(id,Blk.row L sz e)] id=some (.row L sz e):=by simp [lk]
 have k1:zh (zh κ id none) id2 (some b) id=none:=by simp [zh,Ne.symm hne]
 have k2:zh (zh κ id none) id2 (some b) id2=some b:=by simp [zh]
 have hlk:∀ i,(lk [(id,Blk.row (jL sz) sz e),(id2,Blk.row L2 sz e)] i).isSome=true→i=id∨i=id2:=fun i h=>by
  rw [zp] at h;split at h
  ·rename_i h1; exact .inl h1
  ·rw [zp] at h;split at h
   ·rename_i h1; exact .inr h1
   ·simp [lk] at h
 have hown:∀ c,Own (zh (zh κ id none) id2 (some b)) [(id,Blk.row (jL sz) sz e),(id2,Blk.row L2 sz e)] c↔c=b:=fun c=>by
  constructor
  ·rintro ⟨i,h1,h2⟩;rcases hlk i h1 with rfl|rfl
   ·rw [k1] at h2; cases h2
   ·rw [k2] at h2; cases h2; rfl
  ·rintro rfl;exact ⟨id2,by simp [zp,hne],k2⟩
 have hown0:∀ c,Own κ [(id,Blk.row L sz e)] c↔c=b:=fun c=>by
  constructor
  ·rintro ⟨i,h1,h2⟩;by_cases hi:i=id
   ·subst hi; rw [hkb] at h2; cases h2; rfl
   ·simp [zp,hi,lk] at h1
  ·rintro rfl;exact ⟨id,by simp [hl],hkb⟩
 have hlive:∀ c,zi (zh (zh κ id none) id2 (some b)) [(id,Blk.row (jL sz) sz e),(id2,Blk.row L2 sz e)] c↔zi κ [(id,Blk.row L sz e)] c:=fun c=>by
  unfold zi; rw [hown,hown0]; rfl
 have hdl:=YX sz;have hcell:∀ c o v,¬ zi κ [(id,Blk.row L sz e)] c→w.cell? ⟨c,o,none⟩=some v→w'.cell? ⟨c,o,none⟩=some v:=fun c o v hc hv=>by
  have hcb:c≠b:=by rintro rfl; exact hc (.inr ((hown0 c).2 rfl))
  have:=hoth c (yv hv) hcb;unfold World.cell? at hv ⊢;rw [this]; exact hv
 refine ⟨⟨fun i x hx=>?_,fun i j c hi hj h1 h2=>?_,fun c hc=>by have:=hm.mem.sb c hc; omega,fun i c hi h1=>?_⟩,fun c hc=>hm.low c ((hlive c).1 hc),
  ⟨fun i cs hx=>?_,fun i L' sz' e' hx=>?_,fun c o v hc hv=>⟨fun h=>hc ((hlive c).1 h),hcell c o v hc hv⟩⟩,⟨hos,htape,hout,by omega,fun c hc hn=>hoth c hc fun h=>hn ((hown0 c).2 h)⟩,fun i c hi h1=>?_,rfl⟩
 ·rw [zp] at hx;split at hx
  ·rename_i h; subst h;cases hx;refine ⟨fun x hx=>?_,h0,.inl ⟨k1,.inr ⟨[],rfl⟩⟩⟩;rw [QR hx];cases sz with
   | zero=>omega
   | succ n=>simp [yl,PV.cells]
  ·rw [zp] at hx;split at hx
   ·rename_i h; subst h;cases hx;exact hB
   ·simp [lk] at hx
 ·rcases hlk i hi with rfl|rfl
  ·rw [k1] at h1; cases h1
  ·rcases hlk j hj with rfl|rfl
   ·rw [k1] at h2; cases h2
   ·rfl
 ·rcases hlk i hi with rfl|rfl
  ·rw [k1] at h1; cases h1
  ·rw [k2] at h1; cases h1;exact hm.mem.sd id b (by simp [hl]) hkb
 ·rw [zp] at hx;split at hx
  ·cases hx
  ·simp [lk] at hx
 ·rw [zp] at hx;split at hx
  ·rename_i h; subst h;cases hx;exact ⟨jL sz,by simp [zp],by omega,fun h=>by omega,fun _ C hq hC=>absurd (zau (hC.symm.trans (zca _).symm)) hq⟩
  ·simp [lk] at hx
 ·rcases hlk i hi with rfl|rfl
  ·rw [k1] at h1; cases h1
  ·rw [k2] at h1; cases h1;exact .inl ((hown0 b).2 rfl)
theorem zbv {α:Type} {P:Program} {W0:World} {Fd:FuncId} {T:TypeId} {k:Nat} {enc:α→List Value} {f:α→CV} (zs:List Value) (hf:∀ a,f a = .agg ((enc a).map .sc)) (hk:∀ x,(enc x).length=k) (h0:0 < k) (h1:∀ x,∀ v∈enc x,v.oneCell'=true) (hzl:zs.length=k)
  (hd:∀ (b cap i j n:Nat) (_:j=i+1) (F rest:List Value) (e:TypeId) (w:World),F.length=n * k→(∀ u∈F,u.oneCell'=true)→w.heap[b]? = some (.cells (F++rest).toArray e (0,0))→i < n→n≤cap→cap≤9223372036854775807 →
   Calls P Fd #[.slice (some ⟨b,0,none⟩) n cap,.int .i64 i,.int .i64 j] w fun e w'=>e = .returned (.slice (some ⟨b,0,none⟩) (n - 1) cap)∧w'=(w.drew.setCells b (i * k) (F.drop (j * k))).setCells b ((n - 1) * k) zs)
  (X:List α) (i:Nat) (hi:i < X.length) (id id2:Nat) (hne:id2≠id) (hX:X.length≤1000000) :
  zw P W0 Fd [.own id X.length,.c (CI i),.c (CI ((i:Int)+1))] [(id,.row (X.map f) k T)] (fun _:Unit=>True) (fun _ => .own id2 (X.length - 1)) (fun _=>[(id,.dead k T),(id2,.row ((X.eraseIdx i).map f) k T)]):=by
 intro κ w vs hB hm hr;obtain ⟨v1,v2,v3,hvs⟩:∃ v1 v2 v3,vs.toList=[v1,v2,v3]:=by
  have:=zb.length hr
  match h:vs.toList with
  | [a,b,c]=>exact ⟨a,b,c,rfl⟩
  | [] | [_] | [_,_] | _::_::_::_::_=>rw [h] at this; simp at this
 rw [hvs] at hr;obtain ⟨r1,r2,r3,_⟩:=hr;have e2:v2 = .int .i64 i:=by
  have r2:RepC w (zi κ (er [(id,.row (X.map f) k T)])) (CI i) v2:=r2;cases r2; rfl
 have e3:v3 = .int .i64 (i+1:Nat):=by
  have r3:RepC w (zi κ (er [(id,.row (X.map f) k T)])) (CI (i+1:Nat)) v3:=r3;cases r3; rfl
 subst e2 e3;obtain ⟨⟨a,cap0,rfl,_⟩,hnm,L,sz,e,g1,g2,g3,_⟩:=r1;have hl:lk (er [(id,XB.row (X.map f) k T)]) id=some (.row ((X.map f).map .c) k T):=by simp [er,lk,XB.er]
 rw [hl] at g1;cases g1;have gO:=g3 (by simp);have hv:vs=#[.slice a X.length cap0,.int .i64 i,.int .i64 (i+1:Nat)]:=by rw [← hvs]
 subst hv;obtain ⟨hsz,_,hblk⟩:=hm.mem.blk id _ hl;rcases hblk with ⟨_,hL⟩ | ⟨b,us,rest,hkb,hh,hall⟩
 ·rcases hL with hL | hL
  ·simp at hL; subst hL; simp at hi
  ·have:=ZV hL; simp [maxLen] at this; omega
 unfold ji at gO;rw [hkb] at gO;obtain ⟨cap,arr,e',hsl,hle,hcap,hb2,hsz2⟩:=gO;injection hsl with q1 q2 q3
 subst q1 q3;rw [Jm hf] at hall;obtain ⟨rfl,hwf⟩:=zaW hall;have hblt:b < w.heap.size:=(Array.getElem?_eq_some_iff.1 hh).1;have hfl:=qf hk X;have hone:∀ u∈X.flatMap enc,u.oneCell'=true:=fun u hu=>by
  obtain ⟨x,_,hx⟩:=List.mem_flatMap.1 hu; exact h1 x u hx
 refine (hd b cap0 i (i+1) X.length rfl _ rest _ w hfl hone hh hi hle (by simpa [maxLen] using hcap)).mono ?_;rintro e w' ⟨rfl,rfl⟩;have hb':w.drew.heap[b]? = some (.cells (X.flatMap enc++rest).toArray T (0,0)):=hh;have bnd:(i+1) * k≤X.length * k:=Nat.mul_le_mul_right k hi;have e1:(i+1) * k=i * k+k:=by rw [Nat.add_mul,Nat.one_mul]
 have e4:(X.length - 1) * k=X.length * k - k:=by rw [Nat.sub_mul,Nat.one_mul]
 have hdl:((X.flatMap enc).drop ((i+1) * k)).length=X.length * k - (i+1) * k:=by rw [List.length_drop,hfl]
 have htl:((X.flatMap enc).take (i * k)).length=i * k:=by rw [List.length_take,hfl]; omega
 have p1:=Qg b ((X.flatMap enc).drop ((i+1) * k)) (i * k) w.drew _ hb' (by rw [List.length_append,hdl,hfl]; omega);have a1:(X.flatMap enc++rest).take (i * k)=(X.flatMap enc).take (i * k):=List.take_append_of_le_length (by rw [hfl]; omega);have a2:(X.flatMap enc++rest).drop (i * k+((X.flatMap enc).drop ((i+1) * k)).length)=(X.flatMap enc).drop ((X.length - 1) * k)++rest:=by
  rw [hdl,List.drop_append_of_le_length (by rw [hfl]; omega)]; congr 2; omega
 rw [a1,a2] at p1;have hlk2:((X.flatMap enc).drop ((X.length - 1) * k)).length=k:=by rw [List.length_drop,hfl,e4]; omega
 have p2:=Qg b zs ((X.length - 1) * k) _ _ p1 (by simp only [List.length_append,hdl,htl,hlk2,hzl]; omega);have a3:((X.flatMap enc).take (i * k)++(X.flatMap enc).drop ((i+1) * k)++((X.flatMap enc).drop ((X.length - 1) * k)++rest)).take ((X.length - 1) * k)=(X.eraseIdx i).flatMap enc:=by
  rw [List.take_append_of_le_length (by rw [List.length_append,hdl,htl]; omega),List.take_of_length_le (by rw [List.length_append,hdl,htl]; omega),zqq hk]
 have a4:((X.flatMap enc).take (i * k)++(X.flatMap enc).drop ((i+1) * k)++((X.flatMap enc).drop ((X.length - 1) * k)++rest)).drop ((X.length - 1) * k+zs.length)=rest:=by
  rw [List.drop_append,List.drop_eq_nil_of_le (by rw [List.length_append,hdl,htl]; omega),List.nil_append,List.drop_append,List.drop_eq_nil_of_le (by rw [hlk2,List.length_append,hdl,htl]; omega),List.nil_append,hlk2,List.length_append,hdl,htl,hzl];rw [show (X.length - 1) * k+k - (i * k+(X.length * k - (i+1) * k)) - k=0 by omega]; rfl
 rw [a3,a4] at p2;have hwf':∀ v∈(X.eraseIdx i).flatMap enc,wfv v:=by
  intro v hv;obtain ⟨x,hx,hv⟩:=List.mem_flatMap.1 hv;exact hwf v (List.mem_flatMap.2 ⟨x,(List.eraseIdx_sublist X i).subset hx,hv⟩)
 have hel:(X.eraseIdx i).length=X.length - 1:=by rw [List.length_eraseIdx,if_pos hi]
 rw [List.append_assoc] at p2;generalize hw:(w.drew.setCells b (i * k) ((X.flatMap enc).drop ((i+1) * k))).setCells b ((X.length - 1) * k) zs=w' at p2 ⊢;have hk1:w'.os=w.os:=by
  have tp:∀ (vs:List Value) (o:Nat) (u:World),(u.setCells b o vs).os=u.os:=by
   intro vs;induction vs with
   | nil=>intro o u; rfl
   | cons v r ih=>intro o u; rw [World.setCells,ih]; rfl
  rw [← hw,tp,tp]; rfl
 have hk2:w'.output=w.output:=by
  have tp:∀ (vs:List Value) (o:Nat) (u:World),(u.setCells b o vs).output=u.output:=by
   intro vs;induction vs with
   | nil=>intro o u; rfl
   | cons v r ih=>intro o u; rw [World.setCells,ih]; rfl
  rw [← hw,tp,tp]; rfl
 have hk3:w'.tape=w.tape:=by
  have tp:∀ (vs:List Value) (o:Nat) (u:World),(u.setCells b o vs).tape=u.tape:=by
   intro vs;induction vs with
   | nil=>intro o u; rfl
   | cons v r ih=>intro o u; rw [World.setCells,ih]; rfl
  rw [← hw,tp,tp]; rfl
 have hk4:w'.heap.size=w.heap.size:=by
  have tp:∀ (vs:List Value) (o:Nat) (u:World),(u.setCells b o vs).heap.size=u.heap.size:=by
   intro vs;induction vs with
   | nil=>intro o u; rfl
   | cons v r ih=>intro o u; rw [World.setCells,ih]; simp [World.setCell]
  rw [← hw,tp,tp]; rfl
 have hk5:∀ c,c < w.heap.size→c≠b→w'.heap[c]? = w.heap[c]? := fun c hc hcb=>by
  have tp:∀ (vs:List Value) (o:Nat) (u:World),(u.setCells b o vs).heap[c]? = u.heap[c]? := by
   intro vs;induction vs with
   | nil=>intro o u; rfl
   | cons v r ih =>
    intro o u; rw [World.setCells,ih];simp [World.setCell,Array.getElem?_modify,Ne.symm hcb]
  rw [← hw,tp,tp]; rfl
 have hmw:=MW.hand (L2:=((X.eraseIdx i).map f).map .c) (w':=w') hne hm (by simp [maxLen]; omega) h0 hkb hk1 hk3 hk2 hk4 hk5 (by
  refine ⟨fun x hx=>?_,h0,.inr ⟨b,_,zs++rest,by simp [zh],p2,?_⟩⟩
  ·obtain ⟨y,hy,rfl⟩:=List.mem_map.1 hx;obtain ⟨z,_,rfl⟩:=List.mem_map.1 hy;rw [hf]; simp [PV.cells,CV.cells,hk]
  ·rw [Jm hf]; exact zaZ hwf')
 refine ⟨_,_,_,_,rfl,⟨[(id,.dead k T),(id2,.row ((X.eraseIdx i).map f) k T)],rfl,(),trivial,rfl,rfl⟩,hmw,?_⟩;refine ⟨⟨_,_,rfl,hcap⟩,by omega,_,k,T,by rw [er,er,zp,if_neg hne,zp,if_pos rfl]; rfl,by simp [hel],fun _=>?_,.no (by simp [maxLen]; omega)⟩;unfold ji;rw [show zh (zh κ id none) id2 (some b) id2=some b by simp [zh]];refine ⟨cap0,_,T,rfl,by omega,hcap,p2,?_⟩;rw [hh] at hb2;cases hb2;have:(X.flatMap enc++rest).length=cap0 * k:=by simpa using hsz2
 rw [List.length_append,hfl] at this;simp only [List.size_toArray,List.length_append,qf hk,hel,hzl,e4];have:k≤X.length * k:=by omega
 omega

section
open Go.Shelf Go.Lib Go.Sort
variable {P:Program} {ρ:Ren} {α:Type} [Inhabited α]
structure Beside (b:Nat) (w W:World):Prop where
 os:W.os=w.os
 tape:W.tape=w.tape
 output:W.output=w.output
 size:w.heap.size≤W.heap.size
 block:∀ c,c < w.heap.size→c≠b→W.heap[c]? = w.heap[c]?
theorem Beside.of {b:Nat} {w W:World} (h:Below w.heap.size w W):Beside b w W:=⟨h.os,h.tape,h.output,h.size,fun c hc _=>h.block c hc⟩
theorem Beside.trans {b:Nat} {w W V:World} (h:Beside b w W) (k:Beside b W V):Beside b w V :=
 ⟨k.os.trans h.os,k.tape.trans h.tape,k.output.trans h.output,Nat.le_trans h.size k.size,fun c hc hb=>(k.block c (Nat.lt_of_lt_of_le hc h.size) hb).trans (h.block c hc hb)⟩
theorem zcQ (b:Nat):∀ (vs:List Value) (o:Nat) (u:World),(u.setCells b o vs).os=u.os∧(u.setCells b o vs).tape=u.tape∧(u.setCells b o vs).output=u.output∧(u.setCells b o vs).heap.size=u.heap.size
 | [],_,_=>⟨rfl,rfl,rfl,rfl⟩
 | v::r,o,u=>by
  obtain ⟨h1,h2,h3,h4⟩:=zcQ b r (o+1) (u.setCell ⟨b,o,none⟩ v);rw [World.setCells];exact ⟨h1,h2,h3,by rw [h4]; simp [World.setCell]⟩
theorem zgS (b:Nat) {c:Nat} (hc:c≠b):∀ (vs:List Value) (o:Nat) (u:World),(u.setCells b o vs).heap[c]? = u.heap[c]?
 | [],_,_=>rfl
 | v::r,o,u=>by
  rw [World.setCells,zgS b hc r];simp [World.setCell,Array.getElem?_modify,Ne.symm hc]
theorem Beside.set {b:Nat} {w:World} (vs:List Value) (o:Nat):Beside b w (w.setCells b o vs):=by
 obtain ⟨h1,h2,h3,h4⟩:=zcQ b vs o w;exact ⟨h1,h2,h3,by omega,fun c _ hc=>zgS b hc vs o w⟩
theorem zbi {W:World} {b:Nat} {F rest:List Value} {e:TypeId} (h:W.heap[b]? = some (.cells (F++rest).toArray e (0,0))) {t:Nat} (ht:t < F.length):W.cell? ⟨b,t,none⟩=F[t]? ∧ W.frozen? ⟨b,t,none⟩=false:=by
 refine ⟨?_,?_⟩
 ·unfold World.cell?;simp only [h];rw [List.getElem?_toArray,List.getElem?_append_left ht]; rfl
 ·unfold World.frozen?;simp only [h]; simp
theorem zeT {enc:α→List Value} {k:Nat} (hk:∀ x,(enc x).length=k) (l:List α) (j i:Nat) (hj:j < l.length) (hi:i < k):(l.flatMap enc)[j * k+i]? = (enc l[j]!)[i]? := by
 have h0:0 < k:=by omega
 have ht:j * k+i < l.length * k:=by
  have:=Nat.mul_le_mul_right k (show j+1≤l.length from hj);rw [Nat.add_mul,Nat.one_mul] at this;omega
 have h:=zal hk l (j * k+i) ht;have e1:(j * k+i) / k=j:=by rw [Nat.mul_comm,Nat.mul_add_div h0,Nat.div_eq_of_lt hi]; omega
 have e2:(j * k+i) % k=i:=by rw [Nat.mul_comm,Nat.mul_add_mod,Nat.mod_eq_of_lt hi]
 rw [e1,e2] at h;rw [List.getElem?_eq_getElem (by rw [qf hk]; exact ht),List.getElem?_eq_getElem (by rw [hk]; exact hi)];rw [getElem!_pos (l.flatMap enc) _ (by rw [qf hk]; exact ht),getElem!_pos (enc l[j]!) i (by rw [hk]; exact hi)] at h;rw [h]
theorem ztu {z:Value} {k:Nat} {zr:α} {enc:α→List Value} (hk:∀ x,(enc x).length=k) (h0:0 < k) (hz:z.cells=(enc zr).toArray) (m:Nat):(Builtin.zeroCells z.cells m).toList=(List.replicate m zr).flatMap enc:=by
 rw [hz];simp only [Builtin.zeroCells];apply List.ext_getElem
 ·simp [hk,qf hk,Nat.mul_comm]
 ·intro i g1 g2;rw [qf hk,List.length_replicate] at g2;have h:=zal hk (List.replicate m zr) i (by rw [List.length_replicate]; exact g2);have hd:i / k < m:=Nat.div_lt_of_lt_mul (by rw [Nat.mul_comm]; exact g2);have hm:i % k < k:=Nat.mod_lt _ h0;rw [getElem!_pos _ i (by rw [qf hk,List.length_replicate]; exact g2),getElem!_pos (List.replicate m zr) (i / k) (by rw [List.length_replicate]; exact hd),List.getElem_replicate,getElem!_pos (enc zr) _ (by rw [hk]; exact hm)] at h;rw [h];simp [hk];rw [List.getElem?_eq_getElem (by rw [hk]; exact hm)]; rfl
theorem zsd (w:World) (t e ty:TypeId) (z:Value) (ht:P.underlying t=some (.slice e)) (hv:∀ w,(zeroValue e).run P w = .ok z w) (zs:List Value) (b o n c:Nat) (hn:0 < n) (hz:(Builtin.zeroCells z.cells n).toList=zs) (h1:∀ u∈zs,u.oneCell'=true)
  (hc:∀ j,j < zs.length→(w.cell? ⟨b,o+j,none⟩).isSome=true) (hf:∀ j,j < zs.length→w.frozen? ⟨b,o+j,none⟩=false) :
  (Builtin.clear_ #[t] ty #[.slice (some ⟨b,o,none⟩) n c]).run P w = .ok (.tuple #[]) (w.setCells b o zs):=by
 have hst:=run_storeCells_cells (P:=P) b o zs 0 w (by simpa using hc) (by simpa using hf) h1;simp only [Nat.add_zero] at hst;obtain ⟨n,rfl⟩:∃ m,n=m+1:=⟨n - 1,by omega⟩;simp [Builtin.clear_,run_underlying ht,hv,hz,hst]
omit [Inhabited α] in
theorem zqs {enc:α→List Value} {k:Nat} (hk:∀ x,(enc x).length=k) (X:List α) (i:Nat) (u:α) (hi:i < X.length):(X.flatMap enc).take (i * k)++enc u++(X.flatMap enc).drop (i * k+k)=(X.set i u).flatMap enc:=by
 rw [List.set_eq_take_append_cons_drop,if_pos hi,List.flatMap_append,List.flatMap_cons,zak hk,zbV hk,Nat.add_mul,Nat.one_mul,List.append_assoc]
omit [Inhabited α] in
theorem zr8 {enc:α→List Value} {k:Nat} (hk:∀ x,(enc x).length=k) {W:World} {b:Nat} {X:List α} {rest:List Value} {e:TypeId} (hW:W.heap[b]? = some (.cells (X.flatMap enc++rest).toArray e (0,0))) (i:Nat) (hi:i < X.length) (u:α) :
  (W.setCells b (i * k) (enc u)).heap[b]? = some (.cells ((X.set i u).flatMap enc++rest).toArray e (0,0)):=by
 have hl:=qf hk X;have hb:=Nat.mul_le_mul_right k (show i+1≤X.length from hi);rw [Nat.add_mul,Nat.one_mul] at hb;have p1:=Qg b (enc u) (i * k) W _ hW (by rw [List.length_append,hl,hk]; omega);rw [p1,← zqs hk X i u hi,hk,List.take_append_of_le_length (by rw [hl]; omega),List.drop_append_of_le_length (by rw [hl]; omega),List.append_assoc,List.append_assoc,List.append_assoc]
omit [Inhabited α] in
theorem zr9 {enc:α→List Value} {k:Nat} (hk:∀ x,(enc x).length=k) {W:World} {b:Nat} {X:List α} {rest:List Value} {e:TypeId} (hW:W.heap[b]? = some (.cells (X.flatMap enc++rest).toArray e (0,0))) (i n:Nat) (zr:α) (hn:X.length=n) (hi:i≤n) :
  (W.setCells b (i * k) ((List.replicate (n - i) zr).flatMap enc)).heap[b]? = some (.cells ((X.take i++List.replicate (n - i) zr).flatMap enc++rest).toArray e (0,0)):=by
 have hl:=qf hk X;have hz:((List.replicate (n - i) zr).flatMap enc).length=(n - i) * k:=by rw [qf hk,List.length_replicate]
 have hb:i * k+(n - i) * k=n * k:=by rw [← Nat.add_mul]; congr 1; omega
 have p1:=Qg b ((List.replicate (n - i) zr).flatMap enc) (i * k) W _ hW (by rw [List.length_append,hl,hz,hn]; omega);rw [p1,hz,hb,List.take_append_of_le_length (by rw [hl,hn]; omega),List.drop_append_of_le_length (by rw [hl,hn]; omega),List.drop_eq_nil_of_le (by rw [hl,hn]; omega),List.nil_append,List.flatMap_append,zak hk,List.append_assoc]
theorem zq3 {kp:Nat→Bool} {d dk:Array α} {m i:Nat} (h:KeptInv kp d m i dk) (hi:i≤d.size):dk.toList.take i=keptUpTo kp d m:=by
 apply List.ext_getElem?;intro j;by_cases hj:j < i
 ·have hd:j < dk.size:=by have:=h.size; omega
  rw [List.getElem?_take,if_pos hj,h.low j hj,getElem!_pos dk j hd]; simp [hd]
 ·rw [List.getElem?_take,if_neg hj,List.getElem?_eq_none (by rw [h.len]; omega)]
end

theorem MW.handG {W0 w w':World} {κ:Kap} {id id2 sz:Nat} {L L2:List PV} {e:TypeId} {m1:Mem} (hne:id2≠id) (hi1:lk m1 id=none) (hi2:lk m1 id2=none)
  (hm:MW W0 w κ ((id,.row L sz e)::m1) κ ((id,.row L sz e)::m1) w) (hL:L.length≤maxLen) (h0:0 < sz)
  (hos:w'.os=w.os) (htape:w'.tape=w.tape) (hout:w'.output=w.output) (hsize:w.heap.size≤w'.heap.size) (hoth:∀ c,c < w.heap.size→κ id≠some c→w'.heap[c]? = w.heap[c]?)
  (hB:qi (zh (zh κ id none) id2 (κ id)) ((id,.row (jL sz) sz e)::(id2,.row L2 sz e)::m1) w' id2 (.row L2 sz e)) :
  MW W0 w κ ((id,.row L sz e)::m1) (zh (zh κ id none) id2 (κ id)) ((id,.row (jL sz) sz e)::(id2,.row L2 sz e)::m1) w':=by
 have k1:zh (zh κ id none) id2 (κ id) id=none:=by simp [zh,Ne.symm hne]
 have k2:zh (zh κ id none) id2 (κ id) id2=κ id:=by simp [zh]
 have k3:∀ i,i≠id→i≠id2→zh (zh κ id none) id2 (κ id) i=κ i:=fun i h1 h2=>by simp [zh,h1,h2]
 have kS:(zh (zh κ id none) id2 (κ id)).S=κ.S:=rfl;have l1:lk ((id,Blk.row L sz e)::m1) id=some (.row L sz e):=by simp [lk]
 have l2:∀ i,i≠id→lk ((id,Blk.row L sz e)::m1) i=lk m1 i:=fun i h=>by rw [zp,if_neg h]
 have l3:lk ((id,Blk.row (jL sz) sz e)::(id2,.row L2 sz e)::m1) id=some (.row (jL sz) sz e):=by simp [lk]
 have l4:lk ((id,Blk.row (jL sz) sz e)::(id2,.row L2 sz e)::m1) id2=some (.row L2 sz e):=by rw [zp,if_neg hne,zp,if_pos rfl]
 have l5:∀ i,i≠id→i≠id2→lk ((id,Blk.row (jL sz) sz e)::(id2,.row L2 sz e)::m1) i=lk m1 i:=fun i h1 h2=>by rw [zp,if_neg h1,zp,if_neg h2]
 generalize hκ:zh (zh κ id none) id2 (κ id)=κ' at *;generalize hm':((id,Blk.row (jL sz) sz e)::(id2,.row L2 sz e)::m1)=m' at *;generalize hmm:((id,Blk.row L sz e)::m1)=m at *;have ne2:∀ i,(lk m i).isSome=true→i≠id2:=fun i h=>by
  rintro rfl;rw [l2 _ hne,hi2] at h; cases h
 have hown:∀ c,Own κ' m' c↔Own κ m c:=fun c=>by
  constructor
  ·rintro ⟨i,h1,h2⟩;by_cases hi:i=id
   ·subst hi; rw [k1] at h2; cases h2
   by_cases hj:i=id2
   ·subst hj; rw [k2] at h2; exact ⟨id,by simp [l1],h2⟩
   ·rw [l5 i hi hj] at h1; rw [k3 i hi hj] at h2;exact ⟨i,by rw [l2 i hi]; exact h1,h2⟩
  ·rintro ⟨i,h1,h2⟩;have hj:=ne2 i h1;by_cases hi:i=id
   ·subst hi; exact ⟨id2,by simp [l4],by rw [k2]; exact h2⟩
   ·rw [l2 i hi] at h1;exact ⟨i,by rw [l5 i hi hj]; exact h1,by rw [k3 i hi hj]; exact h2⟩
 have hlive:∀ c,zi κ' m' c↔zi κ m c:=fun c=>by unfold zi; rw [hown,kS]
 have hdl:=YX sz;have hcell:∀ c o v,¬ zi κ m c→w.cell? ⟨c,o,none⟩=some v→w'.cell? ⟨c,o,none⟩=some v:=fun c o v hc hv=>by
  have hcb:κ id≠some c:=fun h=>hc (.inr ⟨id,by simp [l1],h⟩)
  have:=hoth c (yv hv) hcb;unfold World.cell? at hv ⊢;rw [this]; exact hv
 have other:∀ i c,i≠id→(lk m i).isSome=true→κ i=some c→c < w.heap.size→w'.heap[c]? = w.heap[c]? := fun i c hi hs hk hc =>
  hoth c hc fun h=>hi (hm.mem.inj i id c hs (by simp [l1]) hk h)
 have hpres:Pres κ m w κ' m' w':=by
  refine ⟨fun i cs hx=>?_,fun i L' sz' e' hx=>?_,fun c o v hc hv=>⟨fun h=>hc ((hlive c).1 h),hcell c o v hc hv⟩⟩
  ·have hj:=ne2 i (by simp [hx]);have hi:i≠id:=by rintro rfl; rw [l1] at hx; cases hx
   rw [l2 i hi] at hx;exact ⟨⟨cs,by rw [l5 i hi hj]; exact hx⟩,k3 i hi hj⟩
  ·have hj:=ne2 i (by simp [hx]);by_cases hi:i=id
   ·subst hi;rw [l1] at hx; cases hx;exact ⟨jL sz,l3,by omega,fun h=>by omega,fun _ C hq hC=>absurd (zau (hC.symm.trans (zca _).symm)) hq⟩
   ·have hx':=hx;rw [l2 i hi] at hx;refine ⟨L',by rw [l5 i hi hj]; exact hx,Nat.le_refl _,fun _=>⟨k3 i hi hj,fun b arr e'' hb ha=>⟨arr,?_,rfl⟩⟩,fun hn C _ _ => .inl ⟨rfl,by rw [← k3 i hi hj]; exact hn⟩⟩;rw [other i b hi (by simp [hx']) hb (Array.getElem?_eq_some_iff.1 ha).1]; exact ha
 refine ⟨⟨fun i x hx=>?_,fun i j c hi hj h1 h2=>?_,fun c hc=>by have:=hm.mem.sb c (by rw [← kS]; exact hc); omega,fun i c hi h1 h2=>?_⟩,fun c hc=>hm.low c ((hlive c).1 hc),hpres,
  ⟨hos,htape,hout,hsize,fun c hc hn=>hoth c hc fun h=>hn ⟨id,by simp [l1],h⟩⟩,fun i c hi h1 => .inl ((hown c).1 ⟨i,hi,h1⟩),kS⟩
 ·by_cases hi:i=id
  ·subst hi;rw [l3] at hx; cases hx;refine ⟨fun x hx=>?_,h0,.inl ⟨k1,.inr ⟨[],rfl⟩⟩⟩;rw [QR hx];cases sz with
   | zero=>omega
   | succ n=>simp [yl,PV.cells]
  by_cases hj:i=id2
  ·subst hj;rw [l4] at hx; cases hx;exact hB
  rw [l5 i hi hj] at hx;have hx':lk m i=some x:=by rw [l2 i hi]; exact hx
  have old:=hm.mem.blk i x hx';cases x with
  | box cs =>
   obtain ⟨b,vs,e2,g1,g2,g3⟩:=old;exact ⟨b,vs,e2,by rw [k3 i hi hj]; exact g1,by rw [other i b hi (by simp [hx']) g1 (Array.getElem?_eq_some_iff.1 g2).1]; exact g2,g3.imp fun _ _ r=>zd.pres hpres r⟩
  | row L3 sz3 e3 =>
   obtain ⟨g0,g1,g2⟩:=old;refine ⟨g0,g1,?_⟩;rcases g2 with ⟨g2,g3⟩ | ⟨b,vs,rest,g2,g3,g4⟩
   ·exact .inl ⟨by rw [k3 i hi hj]; exact g2,g3⟩
   ·exact .inr ⟨b,vs,rest,by rw [k3 i hi hj]; exact g2,by rw [other i b hi (by simp [hx']) g2 (Array.getElem?_eq_some_iff.1 g3).1]; exact g3,g4.imp fun _ _ r=>zd.pres hpres r⟩
 ·have key:∀ i,(lk m' i).isSome=true→κ' i=some c→∃ i',(lk m i').isSome=true∧κ i'=some c∧((i=id2∧i'=id)∨(i'=i∧i≠id∧i≠id2)):=fun i h1 h2=>by
   by_cases hi:i=id
   ·subst hi; rw [k1] at h2; cases h2
   by_cases hj:i=id2
   ·subst hj; rw [k2] at h2; exact ⟨id,by simp [l1],h2,.inl ⟨rfl,rfl⟩⟩
   ·rw [l5 i hi hj] at h1; rw [k3 i hi hj] at h2;exact ⟨i,by rw [l2 i hi]; exact h1,h2,.inr ⟨rfl,hi,hj⟩⟩
  obtain ⟨i',a1,a2,a3⟩:=key i hi h1;obtain ⟨j',b1,b2,b3⟩:=key j hj h2;have:=hm.mem.inj i' j' c a1 b1 a2 b2;rcases a3 with ⟨a3,a4⟩ | ⟨a3,a4,a5⟩<;>rcases b3 with ⟨b3,b4⟩ | ⟨b3,b4,b5⟩<;>omega
 ·obtain ⟨i',a1,a2⟩:=(hown c).1 ⟨i,hi,h1⟩;exact hm.mem.sd i' c a1 a2 (by rw [← kS]; exact h2)
theorem zdj {α β:Type} {R:α→β→Prop}:∀ {a:List α} {b:List β} {i:Nat} {x:α},zb R a b→a[i]? = some x→∃ y,b[i]? = some y∧R x y
 | _::_,y::_,0,_,h,e=>by
  simp at e; subst e;exact ⟨y,rfl,h.1⟩
 | _::_,_::_,i+1,_,h,e=>by
  simp at e;obtain ⟨y,h1,h2⟩:=zdj h.2 e;exact ⟨y,by simpa using h1,h2⟩
 | [],_,_,_,_,e=>by simp at e
 | _::_,[],_,_,h,_=>h.elim
theorem zoh {α:Type} {P:Program} {W0:World} {Fd:FuncId} {T:TypeId} {k:Nat} {enc:α→List Value} {f:α→CV} (zr:α) (hf:∀ a,f a = .agg ((enc a).map .sc)) (hk:∀ x,(enc x).length=k) (h0:0 < k)
  {p:α→Bool} {g:Nat} {n:Int}
  (hnone:∀ o fv w,Calls P Fd #[.slice o 0 0,fv] w fun e w'=>e = .returned (.slice o 0 0)∧w'=w)
  (hd:∀ (b cap:Nat) (X:List α) (rest:List Value) (e:TypeId) (w:World) (lb:Array Value),(∀ (W:World) (x:α),Beside b w W→Calls P g (#[.agg (enc x).toArray]++lb) W fun e w'=>e = .returned (.bool (p x))∧Below W.heap.size W w') →
   w.heap[b]? = some (.cells (X.flatMap enc++rest).toArray e (0,0))→X.length≤cap→cap≤9223372036854775807→Calls P Fd #[.slice (some ⟨b,0,none⟩) X.length cap,.func (.func g) #[] lb] w fun e' w' =>
    e' = .returned (.slice (some ⟨b,0,none⟩) (X.filter fun x=>!p x).length cap)∧Beside b w w' ∧
    w'.heap[b]? = some (.cells (((X.filter fun x=>!p x)++List.replicate (X.length - (X.filter fun x=>!p x).length) zr).flatMap enc++rest).toArray e (0,0)))
  (hcl:∀ (W:World) (x:α) (c9 b4:Nat),W.cell? ⟨c9,0,none⟩=some (.pointer (some ⟨b4,0,none⟩))→W.cell? ⟨b4,3,none⟩=some (.int .i64 n)→Calls P g (#[.agg (enc x).toArray]++#[.pointer (some ⟨c9,0,none⟩)]) W fun e w'=>e = .returned (.bool (p x))∧Below W.heap.size W w')
  (X:List α) (hX:X.length≤1000000) (id id2 i9 i4:Nat) (m1:XM) (cs:List PV) (hne:id2≠id) (hi1:lkX m1 id=none) (hi2:lkX m1 id2=none) (h9:lkX m1 i9=some (.box [.ptr i4 0])) (h4:lkX m1 i4=some (.box cs)) (h3:cs[3]? = some (I n)) :
  zw P W0 Fd [.own id X.length,.fn g [i9]] ((id,.row (X.map f) k T)::m1) (fun _:Unit=>True) (fun _ => .own id2 (X.filter fun x=>!p x).length) (fun _=>(id,.dead k T)::(id2,.row ((X.filter fun x=>!p x).map f) k T)::m1):=by
 intro κ w vs hB hm hr;obtain ⟨v1,v2,hvs⟩:∃ v1 v2,vs.toList=[v1,v2]:=by
  have:=zb.length hr
  match h:vs.toList with
  | [a,b]=>exact ⟨a,b,rfl⟩
  | [] | [_] | _::_::_::_=>rw [h] at this; simp at this
 rw [hvs] at hr;obtain ⟨r1,r2,_⟩:=hr;obtain ⟨⟨a,cap0,rfl,_⟩,hnm,L,sz,e,g1,g2,g3,_⟩:=r1;have eer:er ((id,XB.row (X.map f) k T)::m1)=(id,.row ((X.map f).map .c) k T)::er m1:=rfl;rw [eer] at hm g1 r2;have hl:lk ((id,Blk.row ((X.map f).map .c) k T)::er m1) id=some (.row ((X.map f).map .c) k T):=by simp [lk]
 rw [hl] at g1;cases g1;have gO:=g3 (by simp);have j1:lk (er m1) id=none:=by rw [zU,hi1]; rfl
 have j2:lk (er m1) id2=none:=by rw [zU,hi2]; rfl
 have n9:i9≠id:=by rintro rfl; rw [hi1] at h9; cases h9
 have n4:i4≠id:=by rintro rfl; rw [hi1] at h4; cases h4
 have j9:lk ((id,Blk.row ((X.map f).map .c) k T)::er m1) i9=some (.box [.ptr i4 0]):=by rw [zp,if_neg n9,zU,h9]; rfl
 have j4:lk ((id,Blk.row ((X.map f).map .c) k T)::er m1) i4=some (.box cs):=by rw [zp,if_neg n4,zU,h4]; rfl
 have hid:(lk ((id,Blk.row ((X.map f).map .c) k T)::er m1) id).isSome=true:=by rw [hl]; rfl
 obtain ⟨bs,rfl,hbs⟩:=r2;obtain ⟨c9,rfl⟩:∃ c,bs=[c]:=by
  have:=zb.length hbs
  match bs with
  | [c]=>exact ⟨c,rfl⟩
  | [] | _::_::_=>simp at this
 obtain ⟨⟨_,hk9⟩,_⟩:=hbs;obtain ⟨b9,vs9,e9,q1,q2,q3⟩:=hm.mem.blk i9 _ j9;rw [hk9] at q1; cases q1;obtain ⟨u9,rfl⟩:∃ u,vs9=[u]:=by
  have:=zb.length q3
  match vs9 with
  | [c]=>exact ⟨c,rfl⟩
  | [] | _::_::_=>simp at this
 obtain ⟨b4,cs',_,hk4,rfl⟩:=q3.1;obtain ⟨b4',vs4,e4,q4,q5,q6⟩:=hm.mem.blk i4 _ j4;rw [hk4] at q4; cases q4;obtain ⟨u3,q7,q8⟩:=zdj q6 h3;obtain ⟨rfl,_⟩:=zgE q8;have hv:vs=#[.slice a X.length cap0,.func (.func g) #[] #[.pointer (some ⟨c9,0,none⟩)]]:=by
  have:=congrArg List.toArray hvs
  simpa using this
 subst hv;have c9c:w.cell? ⟨c9,0,none⟩=some (.pointer (some ⟨b4,0,none⟩)):=by unfold World.cell?; simp [q2]
 have c4c:w.cell? ⟨b4,3,none⟩=some (.int .i64 n):=by unfold World.cell?; simp [q5,q7]
 have hmm:∀ {w':World} {b:Option Nat},κ id=b→w'.os=w.os→w'.tape=w.tape→w'.output=w.output→w.heap.size≤w'.heap.size→(∀ c,c < w.heap.size→b≠some c→w'.heap[c]? = w.heap[c]?) →
   qi (zh (zh κ id none) id2 b) ((id,.row (jL k) k T)::(id2,.row (((X.filter fun x=>!p x).map f).map .c) k T)::er m1) w' id2 (.row (((X.filter fun x=>!p x).map f).map .c) k T) →
   MW W0 w κ ((id,.row ((X.map f).map .c) k T)::er m1) (zh (zh κ id none) id2 b) ((id,.row (jL k) k T)::(id2,.row (((X.filter fun x=>!p x).map f).map .c) k T)::er m1) w':=fun hb h1 h2 h3 h4 h5 h6=>by
  subst hb;exact MW.handG hne j1 j2 hm (by simp [maxLen]; omega) h0 h1 h2 h3 h4 h5 h6
 have fl:(X.filter fun x=>!p x).length≤X.length:=List.length_filter_le _ _;have szs:∀ (Y:List α),∀ x∈(Y.map f).map PV.c,x.cells.length=k:=fun Y x hx=>by
  obtain ⟨y,hy,rfl⟩:=List.mem_map.1 hx;obtain ⟨z,_,rfl⟩:=List.mem_map.1 hy;rw [hf]; simp [PV.cells,CV.cells,hk]
 have lkn:lk ((id,Blk.row (jL k) k T)::(id2,.row (((X.filter fun x=>!p x).map f).map .c) k T)::er m1) id2=some (.row (((X.filter fun x=>!p x).map f).map .c) k T):=by rw [zp,if_neg hne,zp,if_pos rfl]
 obtain ⟨hsz,_,hblk⟩:=hm.mem.blk id _ hl;cases hkb:κ id with
 | none =>
  have hX0:X=[]:=by
   rcases hblk with ⟨_,hL⟩ | ⟨b,us,rest,hkb',_⟩
   ·rcases hL with hL | hL
    ·simpa using hL
    ·have:=ZV hL; simp [maxLen] at this; omega
   ·rw [hkb] at hkb'; cases hkb'
  subst hX0;unfold ji at gO;rw [hkb] at gO;obtain ⟨o,hsl⟩:=gO;injection hsl with q1 q2 q3
  subst q1 q3;refine (hnone a _ w).mono ?_;rintro e w' ⟨rfl,rfl⟩;have hmw:=hmm hkb rfl rfl rfl (Nat.le_refl _) (fun _ _ _=>rfl) ⟨szs _,h0,.inl ⟨by simp [zh],.inl rfl⟩⟩;refine ⟨_,_,_,_,rfl,⟨_,rfl,(),trivial,rfl,rfl⟩,hmw,?_⟩;refine ⟨⟨_,_,rfl,Nat.zero_le _⟩,Nat.zero_le _,_,k,T,lkn,Nat.zero_le _,fun _=>?_,.no (by simp [maxLen])⟩;unfold ji;rw [show zh (zh κ id none) id2 none id2=none by simp [zh]];exact ⟨a,rfl⟩
 | some b =>
  rcases hblk with ⟨hkb',_⟩ | ⟨b',us,rest,hkb',hh,hall⟩
  ·rw [hkb] at hkb'; cases hkb'
  rw [hkb] at hkb'; cases hkb';unfold ji at gO;rw [hkb] at gO;obtain ⟨cap,arr,e',hsl,hle,hcap,hb2,hsz2⟩:=gO;injection hsl with q1' q2' q3'
  subst q1' q3';rw [Jm hf] at hall;obtain ⟨rfl,hwf⟩:=zaW hall;have d9:c9≠b:=by rintro rfl; exact n9 (hm.mem.inj i9 id c9 (by rw [j9]; rfl) hid hk9 hkb)
  have d4:b4≠b:=by rintro rfl; exact n4 (hm.mem.inj i4 id b4 (by rw [j4]; rfl) hid hk4 hkb)
  have s9:c9 < w.heap.size:=(Array.getElem?_eq_some_iff.1 q2).1;have s4:b4 < w.heap.size:=(Array.getElem?_eq_some_iff.1 q5).1;refine (hd b cap0 X rest _ w _ (fun W x hW=>hcl W x c9 b4 ?_ ?_) hh hle (by simpa [maxLen] using hcap)).mono ?_
  ·rw [Zs (hW.block c9 s9 d9)]; exact c9c
  ·rw [Zs (hW.block b4 s4 d4)]; exact c4c
  rintro e w' ⟨rfl,hbe,p2⟩;have hfl:=qf hk X;rw [List.flatMap_append,List.append_assoc] at p2;have hwf':∀ v∈(X.filter fun x=>!p x).flatMap enc,wfv v:=by
   intro v hv;obtain ⟨x,hx,hv⟩:=List.mem_flatMap.1 hv;exact hwf v (List.mem_flatMap.2 ⟨x,(List.mem_filter.1 hx).1,hv⟩)
  have hmw:=hmm hkb hbe.os hbe.tape hbe.output hbe.size (fun c hc hcb=>hbe.block c hc fun h=>hcb (by rw [h])) ⟨szs _,h0,.inr ⟨b,_,_,by simp [zh],p2,by rw [Jm hf]; exact zaZ hwf'⟩⟩;refine ⟨_,_,_,_,rfl,⟨_,rfl,(),trivial,rfl,rfl⟩,hmw,?_⟩;refine ⟨⟨_,_,rfl,hcap⟩,by omega,_,k,T,lkn,by simp,fun _=>?_,.no (by simp [maxLen]; omega)⟩;unfold ji;rw [show zh (zh κ id none) id2 (some b) id2=some b by simp [zh]];refine ⟨cap0,_,_,rfl,by omega,hcap,p2,?_⟩;rw [hh] at hb2;cases hb2;have h5:(X.flatMap enc++rest).length=cap0 * k:=by simpa using hsz2
  rw [List.length_append,hfl] at h5;have hrl:((List.replicate (X.length - (X.filter fun x=>!p x).length) zr).flatMap enc).length=(X.length - (X.filter fun x=>!p x).length) * k:=by rw [qf hk,List.length_replicate]
  have h6:(X.filter fun x=>!p x).length * k+(X.length - (X.filter fun x=>!p x).length) * k=X.length * k:=by rw [← Nat.add_mul]; congr 1; omega
  rw [List.size_toArray,List.length_append,List.length_append,qf hk,hrl];omega

def zh9:XC:=(.s (.r [.m1 4 .n]) (.s (.s (.r [.mv 6 0,.n1 7 6,.mv 8 1,.n1 9 8,.b1 10 .neq 7 9]) (.cnd 10 (.rf 4) .skip)) (.s (.s (.r [.mv 11 0,.n1 12 11,.m1 13 (.i 0)]) (.blk 0 (.loop (.s (.r [.b1 14 .lss 13 12]) (.s (.ce 14 0) (.s (.blk 1 (.s (.r [.mv 15 13,.mv 5 15]) (.s (.d [.mv 16 0,.mv 17 5,.i1 18 1 16 17,.l1 19 1 18,.mv 20 1,.mv 21 5,.i1 22 1 20 21,.l1 23 1 22,.b1 24 .neq 19 23]) (.cnd 24 (.rf 4) .skip)))) (.r [.b1 25 .add 13 (.i 1),.mv 13 25]))))))) (.rt 4))))
theorem zia:zc Tryz.prog [] 66=some (zh9.ac,[(.t 4)],26):=by kernel_rfl
theorem zoA (W0:World) (a b:List Int):Fn Tryz.prog W0 66 [jU a,jU b] (.c (CB (decide (a=b)))) []:=by
 refine fX mixed zia fun hg=>?_
 have g1:=jc (hg _ (by simp:jU a∈_));refine dr ?_;apply cP<;>intro h1
 ·conv=>whnf
  exact dF (ZE (by omega))
 refine dr ?_;refine lp (σ:=Nat) (fun k=>[(0,.c (jU a)),(1,.c (jU b)),(12,I a.length),(13,I k)]) (fun _=>[]) (fun k=>k≤a.length∧a.take k=b.take k) (fun k=>a.length - k) 0 ⟨by simp,by simp⟩ ?_ ?_
 ·refine dr ?_;trivial
 rintro k ⟨hk,he⟩;refine dr ?_;apply cP<;>intro h2
 ·refine dr ?_;apply cP<;>intro h3;rotate_left
  ·refine dr ?_;refine ⟨k+1,⟨by omega,ZJ (by omega) (by omega) he h3⟩,by omega,?_⟩;refine dr ?_;trivial
  ·conv=>whnf
   exact dF (ZD (k:=k) (by omega) (by omega) h3)
 ·refine dr ?_;have:k=a.length:=by omega
  subst this;exact dT (Zw (by omega) he)
def zir:XC:=(.s (.r [.m1 4 .n]) (.s (.r [.mv 5 0,.mv 6 1,.c1 7 63 [5,6],.mv 4 7]) .ret))
theorem zis:zc Tryz.prog [] 62=some (zir.ac,[(.t 4)],8):=by kernel_rfl
theorem zoO (W0:World) (a b:List Hold):Fn Tryz.prog W0 62 [zf a,zf b] (.c (CB (decide (a=b)))) []:=by
 refine fX mixed zis fun hg=>?_
 refine dr ?_;repeat (refine c0 (zoz W0 a b) rfl ?_; first|refine dr ?_|exact dz)
def zh3:XC:=(.s (.r [.m1 6 .n]) (.s (.s (.r [.mv 10 0,.n1 11 10,.mv 12 1,.n1 13 12,.b1 14 .neq 11 13]) (.cnd 14 (.rf 6) .skip)) (.s (.s (.r [.mv 15 0,.n1 16 15,.m1 17 (.i 0)]) (.blk 0 (.loop (.s (.r [.b1 18 .lss 17 16]) (.s (.ce 18 0) (.s (.blk 1 (.s (.r [.mv 19 17,.i1 20 1 15 17,.l1 21 1 20,.mv 7 19,.a1 8 21 7 48]) (.s (.r [.mv 22 1,.mv 23 7,.i1 24 1 22 23,.l1 25 1 24,.a1 9 25 7 48]) (.s (.r [.mv 26 2,.mv 27 8,.mv 28 9,.ex 29 (.callv 26 [27,28]),.u1 30 29]) (.cnd 30 (.rf 6) .skip))))) (.r [.b1 31 .add 17 (.i 1),.mv 17 31]))))))) (.rt 6))))
theorem zh4:zc Tryz.prog [] 65=some (zh3.ac,[(.t 6)],32):=by kernel_rfl
theorem zox (W0:World) (a b:List (List Hold)):Fn Tryz.prog W0 65 [jC a,jC b,.sc (.func (.func 62) #[] #[])] (.c (CB (decide (a=b)))) []:=by
 refine fX mixed zh4 fun hg=>?_
 have g1:=jc (hg _ (by simp:jC a∈_));refine dr ?_;apply cP<;>intro h1
 ·conv=>whnf
  exact dF (ZE (by omega))
 refine dr ?_;refine lp (σ:=Nat) (fun k=>[(0,.c (jC a)),(1,.c (jC b)),(2,.c (.sc (.func (.func 62) #[] #[]))),(15,.c (jC a)),(16,I a.length),(17,I k)]) (fun _=>[]) (fun k=>k≤a.length∧a.take k=b.take k) (fun k=>a.length - k) 0 ⟨by simp,by simp⟩ ?_ ?_
 ·refine dr ?_;trivial
 rintro k ⟨hk,he⟩;refine dr ?_;apply cP<;>intro h2
 ·refine dr ?_;repeat ((first|refine oB ⟨by kernel_rfl,by simp⟩ ?_|refine c0 (zoO W0 _ _) rfl ?_); first|refine dr ?_|exact dz)
  apply cP<;>intro h3;rotate_left
  ·refine dr ?_;refine ⟨k+1,⟨by omega,ZJ (by omega) (by omega) he (by simpa using h3)⟩,by omega,?_⟩;refine dr ?_;trivial
  ·conv=>whnf
   exact dF (ZD (k:=k) (by omega) (by omega) (by simpa using h3))
 ·refine dr ?_;have:k=a.length:=by omega
  subst this;exact dT (Zw (by omega) he)
def zjb:XC:=(.s (.r [.x1 2 0,.x1 3 1,.m1 4 .n]) (.s (.r [.ex 5 (.mv (.k (.c (.sc (.func (.func 62) #[] #[])))))]) (.s (.r [.f1 6 0 2,.l2 7 3 6,.f1 8 0 3,.l2 9 3 8,.c1 10 32 [7,9],.mv 11 10,.g1 12 3 2 11,.g2 13 1 12 11,.g1 14 3 3 11,.g2 15 1 14 11,.gt 16 (.bin .eql 13 15) 11,.p2 17 11 16,.mv 18 17,.g1 19 4 2 18,.g2 20 1 19 18,.g1 21 4 3 18,.g2 22 1 21 18,.gt 23 (.bin .eql 20 22) 18,.p2 24 18 23,.mv 25 24,.g1 26 5 2 25,.g2 27 1 26 25,.g1 28 5 3 25,.g2 29 1 28 25,.gt 30 (.call 64 [27,29]) 25,.p2 31 25 30,.mv 32 31,.g1 33 6 2 32,.g2 34 1 33 32,.g1 35 6 3 32,.g2 36 1 35 32,.g3 37 5 32,.gt 38 (.call 65 [34,36,37]) 32,.p2 39 32 38,.mv 40 39,.g1 41 7 2 40,.g2 42 1 41 40,.g1 43 7 3 40,.g2 44 1 43 40,.gt 45 (.call 66 [42,44]) 40,.p2 46 40 45,.mv 47 46,.g1 48 8 2 47,.g2 49 1 48 47,.g1 50 8 3 47,.g2 51 1 50 47,.gt 52 (.call 67 [49,51]) 47,.p2 53 47 52,.mv 54 53,.g1 55 9 2 54,.g2 56 1 55 54,.g1 57 9 3 54,.g2 58 1 57 54,.gt 59 (.bb false 56 58) 54,.p2 60 54 59,.mv 61 60,.g1 62 10 2 61,.gt 63 (.ld true 4 62) 61,.g1 64 10 3 61,.gt 65 (.ld true 4 64) 61,.gt 66 (.beq false [(.i .i64),.s,.s,.s] 63 65) 61,.p2 67 61 66,.mv 4 67]) .ret)))
theorem zjc:zc Tryz.prog [] 21=some (zjb.ac,[(.t 4)],68):=by kernel_rfl
theorem zo7 (W0:World) (a b:Wld):Fn Tryz.prog W0 21 [zB a,zB b] (.c (CB (decide (a=b)))) []:=by
 refine fX mixed zjc fun hg=>?_
 refine dr ?_;repeat (refine c0 (zee W0 a.over b.over) rfl ?_; first|refine dr ?_|exact dz)
 apply cP<;>intro h1;rotate_left
 ·refine dr ?_;exact dF fun e=>by simp [e] at h1
 refine dr ?_;apply cP<;>intro h2;rotate_left
 ·refine dr ?_;exact dF fun e=>by simp [e] at h2
 refine dr ?_;apply cP<;>intro h3;rotate_left
 ·refine dr ?_;exact dF fun e=>by simp [e] at h3
 refine dr ?_;repeat (refine c0 (zoB W0 a.leases b.leases) rfl ?_; first|refine dr ?_|exact dz)
 apply cP<;>intro h4;rotate_left
 ·refine dr ?_;exact dF fun e=>by simp [e] at h4
 refine dr ?_;repeat (refine c0 (zox W0 a.holds b.holds) rfl ?_; first|refine dr ?_|exact dz)
 apply cP<;>intro h5;rotate_left
 ·refine dr ?_;exact dF fun e=>by simp [e] at h5
 refine dr ?_;repeat (refine c0 (zoA W0 a.floors b.floors) rfl ?_; first|refine dr ?_|exact dz)
 apply cP<;>intro h6;rotate_left
 ·refine dr ?_;exact dF fun e=>by simp [e] at h6
 refine dr ?_;repeat (refine c0 (zoD W0 a.net b.net) rfl ?_; first|refine dr ?_|exact dz)
 apply cP<;>intro h7;rotate_left
 ·refine dr ?_;exact dF fun e=>by simp [e] at h7
 refine dr ?_;apply cP<;>intro h8;rotate_left
 ·refine dr ?_;exact dF fun e=>by simp [e] at h8
 refine dr ?_;rw [bqOp];exact congrArg CB (by cases a; cases b; simp_all)

instance:Inhabited Lease:=⟨⟨0,[],0,0⟩⟩
def jK (x:Lease):List Value:=[.int .i64 x.who,.string ⟨⟨x.path⟩⟩,.int .i64 x.num,.int .i64 x.til]
def Yz (x:Hold):List Value:=[.string ⟨⟨x.path⟩⟩,.bool x.has,.string ⟨⟨x.ent.path⟩⟩,.bool x.ent.dir,.string ⟨⟨x.ent.data⟩⟩,.int .i64 x.num,.int .i64 x.til]
def vMsg (x:Msg):List Value:=[.int .i64 x.kind,.int .i64 x.who,.string ⟨⟨x.hold.path⟩⟩,.bool x.hold.has,.string ⟨⟨x.hold.ent.path⟩⟩,.bool x.hold.ent.dir,.string ⟨⟨x.hold.ent.data⟩⟩,.int .i64 x.hold.num,.int .i64 x.hold.til]
theorem zdf (x:Lease):∀ v∈jK x,v.oneCell'=true:=fun v hv=>by
 simp only [jK,List.mem_cons,List.not_mem_nil,or_false] at hv;rcases hv with rfl|rfl|rfl|rfl<;>rfl
theorem zfr:(Tryz.prog.info? 59).isSome=true:=by kernel_rfl
theorem zbF (W0:World) (X:List Lease) (i:Nat) (hi:i < X.length) (id id2:Nat) (hne:id2≠id) (hX:X.length≤1000000) :
  zw Tryz.prog W0 160 [.own id X.length,.c (CI i),.c (CI ((i:Int)+1))] [(id,.row (X.map jt) 4 59)] (fun _:Unit=>True) (fun _ => .own id2 (X.length - 1)) (fun _=>[(id,.dead 4 59),(id2,.row ((X.eraseIdx i).map jt) 4 59)]) :=
 zbv (enc:=jK) (jK ⟨0,[],0,0⟩) (fun _=>rfl) (fun _=>rfl) (by decide) zdf rfl
  (fun b cap i j n hji F rest e w hF h1 hb hi hcap hm=>zbu Tryz.delLease 4 ((Tryz.prog.info? 59).get zfr) (Option.some_get zfr).symm (by kernel_rfl) (by decide) _ (jK ⟨0,[],0,0⟩) Tryz.zeroValue59 rfl rfl (zdf _) Tryz.sizeOf59 b cap i j n hji F rest e w hF h1 hb hi hcap hm) X i hi id id2 hne hX
theorem zhB (x:Hold):∀ v∈Yz x,v.oneCell'=true:=fun v hv=>by
 simp only [Yz,List.mem_cons,List.not_mem_nil,or_false] at hv;rcases hv with rfl|rfl|rfl|rfl|rfl|rfl|rfl<;>rfl
theorem zfq:(Tryz.prog.info? 48).isSome=true:=by kernel_rfl
theorem J1 (W0:World) (X:List Hold) (i:Nat) (hi:i < X.length) (id id2:Nat) (hne:id2≠id) (hX:X.length≤1000000) :
  zw Tryz.prog W0 161 [.own id X.length,.c (CI i),.c (CI ((i:Int)+1))] [(id,.row (X.map zF) 7 48)] (fun _:Unit=>True) (fun _ => .own id2 (X.length - 1)) (fun _=>[(id,.dead 7 48),(id2,.row ((X.eraseIdx i).map zF) 7 48)]) :=
 zbv (enc:=Yz) (Yz ⟨[],false,⟨[],false,[]⟩,0,0⟩) (fun _=>rfl) (fun _=>rfl) (by decide) zhB rfl
  (fun b cap i j n hji F rest e w hF h1 hb hi hcap hm=>zbu Tryz.delHold 7 ((Tryz.prog.info? 48).get zfq) (Option.some_get zfq).symm (by kernel_rfl) (by decide) _ (Yz ⟨[],false,⟨[],false,[]⟩,0,0⟩) Tryz.zeroValue48 rfl rfl (zhB _) Tryz.sizeOf48 b cap i j n hji F rest e w hF h1 hb hi hcap hm) X i hi id id2 hne hX
theorem zhC (x:Msg):∀ v∈vMsg x,v.oneCell'=true:=fun v hv=>by
 simp only [vMsg,List.mem_cons,List.not_mem_nil,or_false] at hv;rcases hv with rfl|rfl|rfl|rfl|rfl|rfl|rfl|rfl|rfl<;>rfl
theorem zfs:(Tryz.prog.info? 67).isSome=true:=by kernel_rfl
theorem zou (W0:World) (X:List Msg) (i:Nat) (hi:i < X.length) (id id2:Nat) (hne:id2≠id) (hX:X.length≤1000000) :
  zw Tryz.prog W0 107 [.own id X.length,.c (CI i),.c (CI ((i:Int)+1))] [(id,.row (X.map eMsg) 9 67)] (fun _:Unit=>True) (fun _ => .own id2 (X.length - 1)) (fun _=>[(id,.dead 9 67),(id2,.row ((X.eraseIdx i).map eMsg) 9 67)]) :=
 zbv (enc:=vMsg) (vMsg ⟨0,0,⟨[],false,⟨[],false,[]⟩,0,0⟩⟩) (fun _=>rfl) (fun _=>rfl) (by decide) zhC rfl
  (fun b cap i j n hji F rest e w hF h1 hb hi hcap hm=>zbu Tryz.delMsg 9 ((Tryz.prog.info? 67).get zfs) (Option.some_get zfs).symm (by kernel_rfl) (by decide) _ (vMsg ⟨0,0,⟨[],false,⟨[],false,[]⟩,0,0⟩⟩) Tryz.zeroValue67 rfl rfl (zhC _) Tryz.sizeOf67 b cap i j n hji F rest e w hF h1 hb hi hcap hm) X i hi id id2 hne hX
theorem zob (x:Lease) (n:Int) (c9 b4:Nat) (W:World) (h9:W.cell? ⟨c9,0,none⟩=some (.pointer (some ⟨b4,0,none⟩))) (h4:W.cell? ⟨b4,3,none⟩=some (.int .i64 n)) :
  Calls Tryz.prog 106 (#[.agg (jK x).toArray]++#[.pointer (some ⟨c9,0,none⟩)]) W fun e w'=>e = .returned (.bool (decide (x.til≤n)))∧Below W.heap.size W w':=by
 have l9:c9 < W.heap.size:=yv h9;have l4:b4 < W.heap.size:=yv h4;have hmx:Tryz.prog.follows Departure.mixedOrders=true:=mixed;unfold jK;go_enter Tryz.func106,Tryz.ntmps106;go_wp2_with fail;go_big_region_o;all_goals go_wp2
 go_ret;exact ⟨rfl,((Below.refl _ _).alloc (Nat.le_refl _) _).drew⟩
theorem zfH {W:World} {b:Nat} {dk:Array Lease} {rest:List Value} {e:TypeId} (h:W.heap[b]? = some (.cells (dk.toList.flatMap jK++rest).toArray e (0,0))) {j:Nat} (hj:j < dk.size) :
  (W.cell? ⟨b,j * 4,none⟩=some (.int .i64 dk[j]!.who)∧W.cell? ⟨b,j * 4+1,none⟩=some (.string ⟨⟨dk[j]!.path⟩⟩)∧W.cell? ⟨b,j * 4+2,none⟩=some (.int .i64 dk[j]!.num)∧W.cell? ⟨b,j * 4+3,none⟩=some (.int .i64 dk[j]!.til)) ∧
  W.frozen? ⟨b,j * 4,none⟩=false∧W.frozen? ⟨b,j * 4+1,none⟩=false∧W.frozen? ⟨b,j * 4+2,none⟩=false∧W.frozen? ⟨b,j * 4+3,none⟩=false:=by
 have hk:∀ x,(jK x).length=4:=fun _=>rfl
 have hj':j < dk.toList.length:=by simpa using hj
 have hl:(dk.toList.flatMap jK).length=dk.size * 4:=by rw [qf hk]; simp
 have key:∀ i,i < 4→W.cell? ⟨b,j * 4+i,none⟩=(jK dk[j]!)[i]? ∧ W.frozen? ⟨b,j * 4+i,none⟩=false:=fun i hi=>by
  obtain ⟨c1,c2⟩:=zbi h (t:=j * 4+i) (by omega);rw [zeT hk _ j i hj' hi,getElem!_pos dk.toList j hj'] at c1;refine ⟨?_,c2⟩;rw [c1,getElem!_pos dk j hj]; simp
 exact ⟨⟨(key 0 (by omega)).1,(key 1 (by omega)).1,(key 2 (by omega)).1,(key 3 (by omega)).1⟩,(key 0 (by omega)).2,(key 1 (by omega)).2,(key 2 (by omega)).2,(key 3 (by omega)).2⟩
theorem zra {wr w':World} {a b c d:Value} {e:TypeId} (h:RowKit.Below (wr.alloc (.cells #[a,b,c,d] e (0,0))).heap.size (wr.alloc (.cells #[a,b,c,d] e (0,0))) w') :
  w'.cell? ⟨wr.heap.size,0,none⟩=some a∧w'.cell? ⟨wr.heap.size,1,none⟩=some b∧w'.cell? ⟨wr.heap.size,2,none⟩=some c∧w'.cell? ⟨wr.heap.size,3,none⟩=some d:=by
 have hs:wr.heap.size < (wr.alloc (.cells #[a,b,c,d] e (0,0))).heap.size:=by show _ < (wr.heap.push _).size; rw [Array.size_push]; omega
 have key:∀ i,w'.cell? ⟨wr.heap.size,i,none⟩=(wr.alloc (.cells #[a,b,c,d] e (0,0))).cell? ⟨wr.heap.size,i,none⟩:=fun i=>h.cell (p:=⟨wr.heap.size,i,none⟩) hs
 have hp:(wr.alloc (.cells #[a,b,c,d] e (0,0))).heap[wr.heap.size]? = some (.cells #[a,b,c,d] e (0,0)):=by show (wr.heap.push _)[wr.heap.size]? = _; simp
 refine ⟨?_,?_,?_,?_⟩<;>rw [key]<;>unfold World.cell? <;> simp only [hp]<;>rfl
theorem zoi (o:Option Addr) (fv:Value) (w:World):Calls Tryz.prog 105 #[.slice o 0 0,fv] w fun e w'=>e = .returned (.slice o 0 0)∧w'=w:=by
 have hIF:∀ w,Calls Tryz.prog 159 #[.slice o 0 0,fv] w fun e w'=>e = .returned (.int .i64 (-1))∧w'=w:=fun w=>by
  go_enter Tryz.func159,Tryz.ntmps159;go_wp2;go_loopg [5,8] 0 (fun _ _ s8 wr=>s8 = .int .i64 0∧wr=w)
  case atStart=>exact ⟨rfl,rfl⟩
  case round =>
   obtain ⟨rfl,rfl⟩:=hrel;go_wp2;go_ret;exact ⟨rfl,rfl⟩
 go_enter Tryz.func105,Tryz.ntmps105;go_wp2_with (go_at_call 159; refine (hIF _).mono ?_; rintro e w' ⟨rfl,rfl⟩);go_ret;exact ⟨rfl,rfl⟩
section
open Go.Shelf Go.Lib Go.Sort
set_option maxHeartbeats 4000000 in
set_option maxRecDepth 1000000 in
theorem zog (p:Lease→Bool) (g:Nat) (lb:Array Value) (eg:∀ args w,(callFunc g args).run Tryz.prog w = .ok (.enter g args) w)
  (b cap:Nat) (d:Array Lease) (rest:List Value) (e:TypeId) (w:World)
  (hp:∀ (W:World) (x:Lease),Beside b w W→Calls Tryz.prog g (#[.agg (jK x).toArray]++lb) W fun e w'=>e = .returned (.bool (p x))∧RowKit.Below W.heap.size W w')
  (hb:w.heap[b]? = some (.cells (d.toList.flatMap jK++rest).toArray e (0,0))) (hcap:d.size≤cap) (hm:cap≤9223372036854775807) :
  Calls Tryz.prog 105 #[.slice (some ⟨b,0,none⟩) d.size cap,.func (.func g) #[] lb] w fun e' w' =>
   e' = .returned (.slice (some ⟨b,0,none⟩) (d.toList.filter fun x=>!p x).length cap)∧Beside b w w' ∧
   w'.heap[b]? = some (.cells (((d.toList.filter fun x=>!p x)++List.replicate (d.size - (d.toList.filter fun x=>!p x).length) (⟨0,[],0,0⟩:Lease)).flatMap jK++rest).toArray e (0,0)):=by
 have hk:∀ x,(jK x).length=4:=fun _=>rfl
 have hblt:b < w.heap.size:=(Array.getElem?_eq_some_iff.1 hb).1;have tl:∀ j,j < d.size→d.toList[j]! = d[j]! := fun j hj=>by rw [getElem!_pos d j hj,getElem!_pos d.toList j (by simpa using hj)]; simp
 have hIF:=AnyQ.slices_IndexFunc Tryz.idxLease 4 Tryz.isAgg59 Tryz.sizeOf59 jK hk p g lb eg b 0 d.size cap d.toList w (fun W x hW=>(hp W x (Beside.of hW)).mono fun _ _ ⟨h1,h2⟩=>⟨h1,hW.trans (h2.mono hW.size)⟩) (by simp) (by omega) hblt (fun j hj i v hv=>by
  have hi:i < 4:=(List.getElem?_eq_some_iff.1 hv).1;have ht:j * 4+i < (d.toList.flatMap jK).length:=by rw [qf hk]; omega
  rw [Nat.zero_add,(zbi hb ht).1,zeT hk _ j i hj hi]; exact hv)
 rw [show d.toList.take d.size=d.toList from List.take_of_length_le (by simp)] at hIF;obtain ⟨kp,HK⟩:∃ kp:Nat→Bool,Go.RowKit.Hid (kp=fun j=>!p d[j]!):=⟨_,rfl⟩;have hfil:(d.toList.filter fun x=>!p x)=keptUpTo kp d d.size:=by rw [HK.out]; exact (keptUpTo_filter (fun x=>!p x) d).symm
 rw [hfil];rcases idxByFrom_spec (fun _ y=>p y) default d.toList 0 with ⟨e1,hall⟩ | ⟨k0,hk0,e1,ht,hall⟩
 ·have e2:Lib.idxBy (fun _ y=>p y) d.toList default = -1:=e1;rw [e2] at hIF;have hkeep:∀ j,j < d.size→kp j=true:=fun j hj=>by rw [HK.out]; show (!p d[j]!)=true; rw [← tl j hj,hall j (by simpa using hj)]; rfl
  have e3:keptUpTo kp d d.size=d.toList:=by rw [keptUpTo_all kp d _ hkeep,range_map_get]
  have HB:Aside (b < w.heap.size∧w.heap[b]? = some (.cells (d.toList.flatMap jK++rest).toArray e (0,0))):=⟨hblt,hb⟩;clear hb hp hblt;go_enter Tryz.func105,Tryz.ntmps105;go_wp2_with (go_at_call 159; refine hIF.mono ?_; rintro e w' ⟨rfl,q0⟩);go_ret;rw [e3];refine ⟨by simp,Beside.of q0,?_⟩;rw [q0.block b HB.out.1,HB.out.2];simp
 ·have hk0':k0 < d.size:=by simpa using hk0
  have e2:Lib.idxBy (fun _ y=>p y) d.toList default=(k0:Int):=by unfold Lib.idxBy; rw [e1]; simp
  rw [e2] at hIF;have hkeep:∀ j,j < k0→kp j=true:=fun j hj=>by rw [HK.out]; show (!p d[j]!)=true; rw [← tl j (by omega),hall j hj]; rfl
  have hdrop:kp k0=false:=by rw [HK.out]; show (!p d[k0]!)=false; rw [← tl k0 hk0']; rw [show p d.toList[k0]! = true from ht]; rfl
  have hne1:((k0:Int) == -1)=false:=beq_eq_false_iff_ne.2 (by omega);have HP:Aside _:=hp;have HKK:Go.RowKit.Hid (∀ x,(jK x).length=4):=hk;have HB:Aside (b < w.heap.size∧w.heap[b]? = some (.cells (d.toList.flatMap jK++rest).toArray e (0,0))):=⟨hblt,hb⟩;clear hb hp hblt hall ht e1 e2 tl hk;go_enter Tryz.func105,Tryz.ntmps105;go_wp2_with (go_at_call 159; refine hIF.mono ?_; rintro e w' ⟨rfl,q0⟩);go_loopg [5,6,7] d.size (fun gg s5 s6 _ wr=>∃ (i j:Nat) (dk:Array Lease),s5 = .int .i64 i∧s6 = .int .i64 j∧j≤d.size∧d.size - j≤gg∧b < wr.heap.size∧Aside (Beside b w wr)∧Aside (wr.heap[b]? = some (.cells (dk.toList.flatMap jK++rest).toArray e (0,0)))∧Aside (KeptInv kp d j i dk))
  case atStart=>exact ⟨k0,k0+1,d,rfl,by go_num,by omega,by omega,Nat.lt_of_lt_of_le HB.out.1 q0.size,Beside.of q0,by show _=_; rw [q0.block b HB.out.1]; exact HB.out.2,KeptInv.start hkeep hdrop⟩
  case round =>
   obtain ⟨i,j,dk,rfl,rfl,hjd,hgg,hbw,BW,HW,I2⟩:=hrel;have hij:=I2.out.lt;have hds:=I2.out.size;by_cases hlt:j < d.size
   ·have hltz:(j:Int) < (d.size:Int):=by omega
    obtain ⟨⟨c0,c1,c2,c3⟩,_⟩:=zfH HW.out (show j < dk.size by omega);rw [I2.out.high j (by omega)] at c0 c1 c2 c3;have hcall:=fun W (h:Beside b w W)=>HP.out W d[j]! h
    have hpu:Aside (d[j]! = d[j]!):=rfl;obtain ⟨u,C⟩:∃ u,Aside (d[j]! = u):=⟨_,rfl⟩;rw [C.out] at c0 c1 c2 c3 hcall;unfold jK at hcall;clear hpu;have bes:∀ {o:Obj} {w':World},RowKit.Below (wr.alloc o).heap.size (wr.alloc o) w'→RowKit.Below wr.heap.size wr w':=fun {o w'} h=>((RowKit.Below.refl _ wr).alloc (Nat.le_refl _) o).trans (h.mono (by show wr.heap.size≤(wr.heap.push o).size; rw [Array.size_push]; omega))
    have bal:∀ (o:Obj),Beside b w (wr.alloc o):=fun o=>BW.out.trans (Beside.of ((RowKit.Below.refl _ wr).alloc (Nat.le_refl _) o))
    have BE:Aside _:=@bes;have BA:Aside _:=bal;have HCC:Aside _:=hcall;clear bes bal hcall;cases hq:p u with
    | false =>
     have keep:Aside (KeptInv kp d (j+1) (i+1) (dk.setIfInBounds i u)):=by
      have:=I2.out.keep hlt (by rw [HK.out]; show (!p d[j]!)=true; rw [C.out,hq]; rfl)
      rwa [C.out] at this
     go_wp2_with (go_at_fn g; refine (HCC.out _ (BA.out _)).mono ?_; rw [hq]; rintro e w' ⟨rfl,hb'⟩; have hb2:=BE.out hb'; have hbw':=Nat.lt_of_lt_of_le hbw hb2.size; obtain ⟨q0,q1,q2,q3⟩:=zra hb'; obtain ⟨⟨a0,a1,a2,a3⟩,f0,f1,f2,f3⟩:=zfH ((hb2.block b hbw).trans HW.out) (show i < dk.size by omega));go_roundg (d.size - (j+1))
     case measure=>omega
     case rel =>
      have hs:=zr8 HKK.out ((hb2.block b hbw).trans HW.out) i (by simp; omega) u;have hse:(((w'.setCell ⟨b,i * 4,none⟩ (.int .i64 u.who)).setCell ⟨b,i * 4+1,none⟩ (.string ⟨⟨u.path⟩⟩)).setCell ⟨b,i * 4+2,none⟩ (.int .i64 u.num)).setCell ⟨b,i * 4+3,none⟩ (.int .i64 u.til)=w'.setCells b (i * 4) (jK u):=rfl;have hbe:Beside b w (w'.setCells b (i * 4) (jK u)):=(BW.out.trans (Beside.of hb2)).trans (Beside.set _ _);refine ⟨i+1,j+1,dk.setIfInBounds i u,by go_num,by go_num,by omega,Nat.le_refl _,?_,(show Aside _ from ?_),(show Aside _ from ?_),keep⟩
      ·rw [hse,(zcQ b (jK u) (i * 4) w').2.2.2]; exact hbw'
      ·rw [hse]; exact hbe
      ·show _=_;rw [hse,hs]; simp
    | true =>
     go_wp2_with (go_at_fn g; refine (HCC.out _ (BA.out _)).mono ?_; rw [hq]; rintro e w' ⟨rfl,hb'⟩);go_roundg (d.size - (j+1))
     case measure=>omega
     case rel=>exact ⟨i,j+1,dk,rfl,by go_num,by omega,Nat.le_refl _,Nat.lt_of_lt_of_le hbw (BE.out hb').size,BW.out.trans (Beside.of (BE.out hb')),((BE.out hb').block b hbw).trans HW.out,I2.out.skip (by rw [HK.out]; show (!p d[j]!)=false; rw [C.out,hq]; rfl)⟩
   ·obtain rfl:j=d.size:=by omega
    have hltz:¬ (d.size:Int) < (d.size:Int):=by omega
    have hzl:((List.replicate (d.size - i) (⟨0,[],0,0⟩:Lease)).flatMap jK).length=(d.size - i) * 4:=by rw [qf HKK.out,List.length_replicate]
    have hin:∀ t,t < (d.size - i) * 4→(wr.cell? ⟨b,i * 4+t,none⟩).isSome=true∧wr.frozen? ⟨b,i * 4+t,none⟩=false:=fun t ht=>by
     have hl:(dk.toList.flatMap jK).length=d.size * 4:=by rw [qf HKK.out]; simp [hds]
     have ht':i * 4+t < (dk.toList.flatMap jK).length:=by omega
     obtain ⟨c1,c2⟩:=zbi HW.out ht';rw [c1];exact ⟨by rw [List.getElem?_eq_getElem ht']; rfl,c2⟩
    have hcl:∀ ty,(Builtin.clear_ #[28] ty #[.slice (some ⟨b,i * 4,none⟩) (d.size - i) (cap - i)]).run Tryz.prog wr = .ok (.tuple #[]) (wr.setCells b (i * 4) ((List.replicate (d.size - i) (⟨0,[],0,0⟩:Lease)).flatMap jK)) :=
     fun ty=>zsd wr _ _ ty _ Tryz.underlying28 Tryz.zeroValue59 _ b (i * 4) _ _ (by omega) (ztu HKK.out (by decide) rfl _) (fun u hu=>by obtain ⟨x,_,hx⟩:=List.mem_flatMap.1 hu; exact zdf x u hx) (fun t ht=>(hin t (by omega)).1) (fun t ht=>(hin t (by omega)).2)
    clear hin hzl;go_wp2;go_ret;have hI:=I2.out;refine ⟨by rw [hI.len]; rfl,BW.out.trans (Beside.set _ _),?_⟩;rw [hI.len,← zq3 hI (by omega)];exact (zr9 HKK.out HW.out i d.size (⟨0,[],0,0⟩:Lease) (by simp [hds]) (by omega)).trans (by rw [List.flatMap_append,List.append_assoc])
end
theorem zov (W0:World) (X:List Lease) (hX:X.length≤1000000) (id id2 i9 i4:Nat) (m1:XM) (cs:List PV) (n:Int) (hne:id2≠id) (hi1:lkX m1 id=none) (hi2:lkX m1 id2=none) (h9:lkX m1 i9=some (.box [.ptr i4 0])) (h4:lkX m1 i4=some (.box cs)) (h3:cs[3]? = some (I n)) :
  zw Tryz.prog W0 105 [.own id X.length,.fn 106 [i9]] ((id,.row (X.map jt) 4 59)::m1) (fun _:Unit=>True) (fun _ => .own id2 (X.filter fun x=>!decide (x.til≤n)).length) (fun _=>(id,.dead 4 59)::(id2,.row ((X.filter fun x=>!decide (x.til≤n)).map jt) 4 59)::m1):=by
 have eg:∀ args w,(callFunc 106 args).run Tryz.prog w = .ok (.enter 106 args) w:=enters_of Tryz.func106 (by kernel_rfl) rfl;refine zoh (enc:=jK) (p:=fun x=>decide (x.til≤n)) (⟨0,[],0,0⟩:Lease) (fun _=>rfl) (fun _=>rfl) (by decide) zoi (fun b cap X rest e w lb hp hb hle hm=>?_) (fun W x c9 b4 g9 g4=>zob x n c9 b4 W g9 g4) X hX id id2 i9 i4 m1 cs hne hi1 hi2 h9 h4 h3;have:=zog (fun x=>decide (x.til≤n)) 106 lb eg b cap X.toArray rest e w hp (by simpa using hb) (by simpa using hle) hm
 simpa using this

theorem Yw {α:Type} {l:List α} (h:l.length=3):∃ a b c,l=[a,b,c]:=by
 match l,h with
 | [a,b,c],_=>exact ⟨a,b,c,rfl⟩

abbrev wCx (l n:Nat) (w:Wld):List PV:=[.c (za w.over.base),.c (zy w.over.layers),.c (ze w.over.upper),I w.clock,I w.count,.own l w.leases.length,.own 6 3,.own 10 w.floors.length,.own n w.net.length,B w.waits,I w.op.kind,.c (CS w.op.path),.c (CS w.op.dest),.c (CS w.op.data)]
abbrev wMx (l a b c n:Nat) (w:Wld):XM:=[(4,.box (wCx l n w)),(l,.row (w.leases.map jt) 4 59),(6,.rowP [.own a (hdW w 0).length,.own b (hdW w 1).length,.own c (hdW w 2).length] 44),(a,.row ((hdW w 0).map zF) 7 48),(b,.row ((hdW w 1).map zF) 7 48),(c,.row ((hdW w 2).map zF) 7 48),(10,.row (w.floors.map CI) 1 3),(n,.row (w.net.map eMsg) 9 67)]
abbrev wMp (w:Wld):XM:=wMx 5 7 8 9 11 w
abbrev wMl (b:Bool) (w:Wld):XM:=match b with
 | true=>(5,.dead 4 59)::wMx 1600 7 8 9 11 w
 | false=>wMp w
abbrev wM0 (b:Bool) (w:Wld):XM:=match b with
 | true=>(7,.dead 7 48)::wMx 5 1616 8 9 11 w
 | false=>wMp w
abbrev wM1 (b:Bool) (w:Wld):XM:=match b with
 | true=>(8,.dead 7 48)::wMx 5 7 1616 9 11 w
 | false=>wMp w
abbrev wM2 (b:Bool) (w:Wld):XM:=match b with
 | true=>(9,.dead 7 48)::wMx 5 7 8 1616 11 w
 | false=>wMp w
theorem holds3 {w:Wld} (h:w.holds.length=3):w.holds=[hdW w 0,hdW w 1,hdW w 2]:=by
 obtain ⟨a,b,c,e⟩:=Yw h;unfold hdW; rw [e]; rfl
abbrev eWldP (w:Wld):CV := .agg [za w.over.base,zy w.over.layers,ze w.over.upper,CI w.clock,CI w.count,zv w.leases,.row [zf (hdW w 0),zf (hdW w 1),zf (hdW w 2)],jU w.floors,jM w.net,CB w.waits,CI w.op.kind,CS w.op.path,CS w.op.dest,CS w.op.data]
theorem Y2 {w:Wld} (h:w.holds.length=3):eWldP w=zB w:=by
 have:=holds3 h;show CV.agg [za w.over.base,zy w.over.layers,ze w.over.upper,CI w.clock,CI w.count,zv w.leases,jC [hdW w 0,hdW w 1,hdW w 2],jU w.floors,jM w.net,CB w.waits,CI w.op.kind,CS w.op.path,CS w.op.dest,CS w.op.data]=zB w;rw [← this]; rfl
def zkv:XC:=(.s (.r [.x1 2 0,.x1 3 1,.a2 4 1 9]) (.s (.r [.f1 10 0 2,.l2 11 3 10,.c1 12 18 [11],.mv 9 12,.e1 13 9 0,.e1 14 9 1,.a1 5 13 3 46,.mv 6 14]) (.s (.r [.mv 16 5,.l2 17 4 3,.c1 18 19 [16,17],.mv 15 18,.e1 19 15 0,.e1 20 15 1,.a1 7 19 3 46,.mv 8 20]) (.s (.s (.r [.mv 21 8,.b1 22 .neq 21 (.i 0)]) (.cnd 22 (.s (.r [.a2 4 1 9]) .ret) .skip)) (.s (.r [.mv 23 5,.mv 24 7,.c1 25 20 [23,24],.a1 4 25 1 9]) .ret)))))
theorem zkw:zc Tryz.prog [] 39=some (zkv.ac,[(.t 4)],26):=by kernel_rfl
abbrev wRx (w:Wld):XM:=[(5,.row (w.leases.map jt) 4 59),(6,.rowP [.own 7 (hdW w 0).length,.own 8 (hdW w 1).length,.own 9 (hdW w 2).length] 44),(7,.row ((hdW w 0).map zF) 7 48),(8,.row ((hdW w 1).map zF) 7 48),(9,.row ((hdW w 2).map zF) 7 48),(10,.row (w.floors.map CI) 1 3),(11,.row (w.net.map eMsg) 9 67)]
theorem zew (W0:World) (hM:HM W0) (w:Wld) (op:Op) (h:oOk w.over=true):zw Tryz.prog W0 39 [.agg (wCx 5 11 w),.c (eOp op)] (wRx w) (fun _:Unit=>True) (fun _ => .c (jo (jQ w op))) (fun _=>wRx w):=by
 refine fW mixed zkw fun hg=>?_
 have hv:=Q1 W0 hM w.over;obtain ⟨t',x,g⟩:=OG.of h;have ev:vwG w.over=x:=g.vwG;rw [h,if_pos rfl,g.vw] at hv;have hd:=Q3 W0 hM x op;have e:jQ w op=if (zx x op).2=0 then zZ x (zx x op).1 else []:=by unfold jQ; rw [ev]
 rw [e];have hq:=QC g.gx (op:=op);have ht:=zbG W0 hM x (zx x op).1;generalize zx x op=r at *;refine dEr ?_;repeat ((first|refine c0 hv rfl ?_|refine c0 hd rfl ?_); first|refine dEr ?_|exact dz)
 apply cP<;>intro h1
 ·rw [if_neg h1];refine dr ?_;repeat (refine oB (by simp) ?_; first|refine dr ?_|exact dz)
  refine ⟨some 3,_,_,?_,(),trivial,rfl,rfl⟩;refine zj.trans (z:=none) (zj.nilF _ 0 rfl) ?_;refine dr ?_;repeat (refine oB (by simp) ?_; first|refine dr ?_|exact dz)
  trivial
 ·obtain ⟨_,_,q1,q2⟩:=hq h1;rw [yi,if_pos (by rw [g.gx,q1,q2]; rfl)] at ht;rw [if_pos h1];refine dEr ?_;repeat (refine c0 ht rfl ?_; first|refine dEr ?_|exact dz)
  refine ⟨none,_,_,?_,(),trivial,rfl,rfl⟩;refine dr ?_;repeat (refine oB (by simp) ?_; first|refine dr ?_|exact dz)
  trivial
def zit:XC:=(.s (.r [.x1 2 0,.x1 3 1,.a2 4 4 59]) (.s (.s (.r [.l2 9 14 2,.c1 10 28 [9],.u1 11 10]) (.cnd 11 (.s (.r [.a2 4 4 59]) .ret) .skip)) (.s (.r [.l2 12 14 2,.l2 13 4 3,.o1 14 39 [12,13],.a1 5 14 1 9]) (.s (.r [.a2 6 4 59]) (.s (.s (.r [.f1 15 5 2,.l1 16 1 15,.n1 17 16,.m1 18 (.i 0)]) (.blk 0 (.loop (.s (.r [.b1 19 .lss 18 17]) (.s (.ce 19 0) (.s (.blk 1 (.s (.r [.i1 20 4 16 18,.l2 21 4 20,.ex 8 (.alloc [(I 0),sE,(I 0),(I 0)]),.s1 4 8 21]) (.s (.r [.f1 22 3 8,.l1 23 1 22,.f1 24 3 2,.l1 25 1 24,.b1 26 .gtr 23 25,.mv 27 26,.g3 28 5 27,.g1 29 1 8 27,.g2 30 1 29 27,.gt 31 (.call 40 [28,30]) 27,.p2 32 27 31]) (.cnd 32 (.r [.mv 33 6,.l2 34 4 8,.ex 35 (.bsl 4 59 [34]),.ex 36 (.app false 4 40 59 33 35),.a1 6 36 4 59]) .skip)))) (.r [.b1 37 .add 18 (.i 1),.mv 18 37]))))))) (.s (.r [.mv 38 6,.a1 4 38 4 59]) .ret))))))
theorem ziu:zc Tryz.prog [39] 13=some (zit.ac,[(.t 4)],39):=by kernel_rfl
theorem zoP (W0:World) (hM:HM W0) (w:Wld) (op:Op) (h:WG w) (hl:w.leases.length≤1000000):zw Tryz.prog W0 13 [.agg (wCx 5 11 w),.c (eOp op)] (wRx w) (fun _:Unit=>True) (fun _ => .c (zv (zI w op))) (fun _=>wRx w):=by
 refine fW mixed ziu fun hg=>?_
 have hok:=Y9 W0 hM w;rw [← Y2 h.pl.hl,tb_t h] at hok;have ht:=zew W0 hM w op h.ov;rw [YI];generalize jQ w op=ts at *;refine dr ?_;refine c0 hok rfl ?_;refine dEr ?_;refine oW ht rfl ⟨rfl,rfl,rfl,rfl,rfl,rfl,rfl,trivial⟩ rfl rfl ⟨(),trivial⟩ fun _ _=>⟨rfl,?_⟩
 refine dEr ?_;refine lp2 (fun (k:Nat) (out:List Lease)=>[(2,.ptr 32 0),(5,.c (jo ts)),(6,.own 96 out.length),(16,.own 5 w.leases.length),(17,I w.leases.length),(18,I k)]) (fun _ out=>[(32,.box (wCx 5 11 w)),(96,.row (out.map jt) 4 59)]++wRx w) (fun k out=>k≤w.leases.length∧out=(w.leases.take k).filter (fun l=>decide (w.clock < l.til)&&ts.contains l.path)∧out.length≤k) (fun k _=>w.leases.length - k) 0 [] ⟨by simp,rfl,by simp⟩ ?_ ?_
 ·refine dr ?_;trivial
 rintro k out ⟨hk,ho,hle⟩;refine dr ?_;apply cP<;>intro h1
 ·have hk':k < w.leases.length:=by omega
  refine dr ?_;apply cP<;>intro h2
  ·refine dEr ?_;repeat (refine c0 (zbE W0 ts _) rfl ?_; first|refine dEr ?_|exact dz)
   apply cP<;>intro h3
   ·refine dr ?_;repeat ((first|refine oB (by simp; omega) ?_|refine oB (by simp) ?_); first|refine dr ?_|exact dz)
    refine ⟨k+1,out++[w.leases[k]],⟨by omega,by rw [qx hk' (by rw [decide_eq_true h2,h3]<;>rfl),ho],by simp; omega⟩,by omega,?_⟩;refine dr ?_;repeat (refine oB (by simp<;>rfl) ?_; first|refine dr ?_|exact dz)
    trivial
   ·refine dr ?_;refine ⟨k+1,out,⟨by omega,by rw [qe hk' (by rw [h3,Bool.and_false]),ho],by omega⟩,by omega,?_⟩;refine dr ?_;trivial
  ·refine dr ?_;refine ⟨k+1,out,⟨by omega,by rw [qe hk' (by rw [decide_eq_false (by omega),Bool.false_and]),ho],by omega⟩,by omega,?_⟩;refine dr ?_;trivial
 have hkl:k=w.leases.length:=by omega
 rw [hkl,List.take_length] at ho;rw [← ho];refine dr ?_;repeat (refine oB (by simp) ?_; first|refine dr ?_|exact dz)
 refine ⟨some 96,_,_,?_,(),trivial,rfl,rfl⟩;refine dr ?_;repeat (refine oB (by simp<;>rfl) ?_; first|refine dr ?_|exact dz)
 trivial
def znX:XC:=(.s (.r [.x1 3 1]) (.s (.r [.mv 4 0,.k1 5 4,.f1 6 8 5,.l1 7 1 6,.n1 8 7,.b1 9 .lss 8 (.i 12)]) (.cnd 9 (.d [.mv 10 0,.mv 11 0,.k1 12 11,.f1 13 8 12,.l1 14 1 13,.l2 15 9 3,.ex 16 (.bsl 9 67 [15]),.ex 17 (.app false 9 96 67 14 16),.k1 18 10,.f1 19 8 18,.s1 1 19 17]) .skip)))
theorem znY:zc Tryz.prog [] 50=some (znX.ac,[],20):=by kernel_rfl
theorem Za (W0:World) (w:Wld) (m:Msg) (h:w.net.length≤1000):zw Tryz.prog W0 50 [.ptr 4 0,.c (eMsg m)] (wMp w) (fun _:Unit=>True) (fun _ => .tup []) (fun _=>wMp (zT w m)):=by
 refine fW mixed znY fun hg=>?_
 refine dr ?_;apply cP<;>intro h1
 ·rw [zgR (by omega)];refine dr ?_;repeat ((first|refine oB (by simp; omega) ?_|refine oB (by simp) ?_); first|refine dr ?_|exact dz)
  refine ⟨none,_,_,?_,(),trivial,rfl,rfl⟩;refine dr ?_;repeat ((first|refine oB (congrArg (fun y=>XB.box [.c (za w.over.base),.c (zy w.over.layers),.c (ze w.over.upper),I w.clock,I w.count,.own 5 w.leases.length,.own 6 3,.own 10 w.floors.length,y,B w.waits,I w.op.kind,.c (CS w.op.path),.c (CS w.op.dest),.c (CS w.op.data)]) QF) ?_|refine oB xrow1 ?_); first|refine dr ?_|exact dz)
  trivial
 ·rw [zgP (by omega)];refine dr ?_;refine ⟨none,_,_,?_,(),trivial,rfl,rfl⟩;refine dr ?_;trivial
def znV:XC:=(.s (.r [.mv 6 1,.n1 7 6,.m1 8 (.i 0)]) (.blk 0 (.loop (.s (.r [.b1 9 .lss 8 7]) (.s (.ce 9 0) (.s (.blk 1 (.s (.r [.i1 10 4 6 8,.l2 11 4 10,.ex 5 (.alloc [(I 0),sE,(I 0),(I 0)]),.s1 4 5 11]) (.d [.mv 12 0,.f1 13 0 5,.l1 14 1 13,.f1 15 1 5,.l1 16 1 15,.mv 17 0,.k1 18 17,.f1 19 4 18,.l1 20 1 19,.ex 21 (.build [sE,(B false),sE,(B false),sE,(I 0),(I 0)] [(0,(1,16)),(5,(1,20))]),.ex 22 (.build [(I 0),(I 0),sE,(B false),sE,(B false),sE,(I 0),(I 0)] [(0,(1,(.i 3))),(1,(1,14)),(2,(7,21))]),.o1 23 50 [12,22]]))) (.r [.b1 24 .add 8 (.i 1),.mv 8 24])))))))
theorem znW:zc Tryz.prog [50] 103=some (znV.ac,[],25):=by kernel_rfl
theorem zp4 (W0:World) (w:Wld) (b:List Lease) (h:w.net.length≤1000) (hb:b.length≤1000000):zw Tryz.prog W0 103 [.ptr 4 0,.c (zv b)] (wMp w) (fun _:Unit=>True) (fun _ => .tup []) (fun _=>wMp (jT w b)):=by
 refine fW mixed znW fun hg=>?_
 refine dr ?_;refine lp2 (fun (k:Nat) (x:Wld)=>[(0,.ptr 4 0),(6,.c (zv b)),(7,I b.length),(8,I k)]) (fun _ x=>wMp x) (fun k x=>k≤b.length∧x=jT w (b.take k)∧x.net.length≤1000) (fun k _=>b.length - k) 0 w ⟨by omega,rfl,h⟩ ?_ ?_
 ·refine dr ?_;trivial
 rintro k x ⟨hk,hx,hn⟩;refine dr ?_;apply cP<;>intro h1
 ·have hk':k < b.length:=by omega
  have hc:x.count=w.count:=by rw [hx]; exact Zl.2.2.1
  refine dr ?_;refine oW (Za W0 x (rclM x.count b[k]) hn) rfl ⟨rfl,rfl,rfl,rfl,rfl,rfl,rfl,rfl,trivial⟩ rfl rfl ⟨(),trivial⟩ fun _ _=>⟨rfl,?_⟩
  refine dEr ?_;refine ⟨k+1,zT x (rclM x.count b[k]),⟨by omega,by rw [zgC hk',← hx,hc],zgQ hn⟩,by omega,?_⟩;refine dr ?_;trivial
 ·have hkl:k=b.length:=by omega
  rw [hkl,List.take_length] at hx;rw [← hx];refine dr ?_;refine ⟨none,_,_,?_,(),trivial,rfl,rfl⟩;refine dr ?_;trivial
def zn1:XC:=(.s (.r [.m1 2 (.i 0)]) (.s (.s (.r [.mv 4 0,.k1 5 4,.f1 6 9 5,.l1 7 1 6,.u1 8 7]) (.cnd 8 (.s (.r [.m1 2 (.i 22)]) .ret) .skip)) (.s (.d [.mv 9 0,.k1 10 9,.l2 11 14 10,.mv 12 0,.k1 13 12,.f1 14 10 13,.l2 15 4 14,.o1 16 13 [11,15],.a1 3 16 4 59]) (.s (.s (.r [.mv 17 3,.n1 18 17,.b1 19 .gtr 18 (.i 0)]) (.cnd 19 (.s (.r [.mv 20 0,.mv 21 3,.o1 22 103 [20,21]]) (.s (.r [.m1 2 (.i 20)]) .ret)) .skip)) (.s (.d [.mv 24 0,.mv 25 0,.k1 26 25,.f1 27 0 26,.l2 28 3 27,.mv 29 0,.k1 30 29,.f1 31 10 30,.l2 32 4 31,.c1 33 104 [28,32],.mv 23 33,.e1 34 23 0,.e1 35 23 1,.k1 36 24,.f1 37 0 36,.s1 3 37 34]) (.s (.r [.mv 38 0,.mv 39 0,.ex 40 (.build [(I 0),sE,sE,sE] []),.k1 41 38,.f1 42 9 41,.nu (.st 1 42 .n),.k1 43 39,.f1 44 10 43,.s1 4 44 40]) (.s (.r [.m1 2 (.i 0)]) .ret)))))))
theorem zn2:zc Tryz.prog [103,13] 52=some (zn1.ac,[(.t 2)],45):=by kernel_rfl
theorem zeC (W0:World) (hM:HM W0) (w:Wld) (h:WG w) (hl:w.leases.length≤1000000):zw Tryz.prog W0 52 [.ptr 4 0] (wMp w) (fun _:Unit=>True) (fun _ => .c (CI (jI w).2)) (fun _=>wMp (jI w).1):=by
 refine fW mixed zn2 fun hg=>?_
 have hn:w.net.length≤1000:=by have:=h.pl.nl; omega
 have hb:=zoP W0 hM w w.op h hl;have hbl:(zI w w.op).length≤1000000:=Nat.le_trans (List.length_filter_le _ _) hl;have ho:=zo6 W0 hM w.over w.op;have hw:jI w=if w.waits=false then (w,22) else if zI w w.op≠[] then (jT w (zI w w.op),20)
  else ({ w with over:=(oDo w.over w.op).1,waits:=false,op:=ja },0):=rfl
 rw [hw];generalize hb2:zI w w.op=b at *;generalize oDo w.over w.op=o2 at *;refine dr ?_;apply cP<;>intro h1
 ·rw [if_pos h1];refine dr ?_;refine ⟨none,_,_,?_,(),trivial,rfl,rfl⟩;refine dr ?_;trivial
 rw [if_neg (by simp [h1])];refine dr ?_;refine oW hb rfl ⟨rfl,rfl,rfl,rfl,rfl,rfl,rfl,trivial⟩ rfl rfl ⟨(),trivial⟩ fun _ _=>⟨rfl,?_⟩
 refine dEr ?_;apply cP<;>intro h3
 ·rw [if_pos (by rintro rfl; simp at h3)];refine dr ?_;refine oW (zp4 W0 w b hn hbl) rfl ⟨rfl,rfl,rfl,rfl,rfl,rfl,rfl,rfl,trivial⟩ rfl rfl ⟨(),trivial⟩ fun _ _=>⟨rfl,?_⟩
  refine dEr ?_;refine ⟨none,_,_,?_,(),trivial,rfl,rfl⟩;refine dr ?_;trivial
 ·have hb0:b=[]:=List.eq_nil_of_length_eq_zero (by omega);rw [if_neg (by simp [hb0])];refine dEr ?_;repeat (refine c0 ho rfl ?_; first|refine dEr ?_|exact dz)
  refine ⟨none,_,_,?_,(),trivial,rfl,rfl⟩;refine dr ?_;trivial
def zn3:XC:=(.s (.r [.x1 3 1,.m1 4 (.i 0)]) (.s (.s (.r [.mv 9 0,.k1 10 9,.f1 11 9 10,.l1 12 1 11]) (.cnd 12 (.s (.r [.m1 4 (.i 21)]) .ret) .skip)) (.s (.r [.mv 14 0,.k1 15 14,.f1 16 0 15,.l2 17 3 16,.c1 18 18 [17],.mv 13 18,.e1 19 13 0,.e1 20 13 1,.a1 5 19 3 46,.mv 6 20]) (.s (.s (.r [.mv 22 5,.l2 23 4 3,.c1 24 19 [22,23],.mv 21 24,.e1 25 21 0,.e1 26 21 1,.a1 7 25 3 46,.mv 8 26]) (.s (.r [.mv 27 8,.b1 28 .neq 27 (.i 0)]) (.cnd 28 (.s (.r [.mv 29 8,.mv 4 29]) .ret) .skip))) (.s (.d [.mv 30 0,.mv 31 0,.exo [4] 32 (.ld true 4 3),.k1 33 30,.f1 34 9 33,.nuo [4] (.st 1 34 .y),.k1 35 31,.f1 36 10 35,.nuo [4] (.st 4 36 32)]) (.s (.r [.mv 37 0,.o1 38 52 [37],.mv 4 38]) .ret))))))
theorem zn4:zc Tryz.prog [52,1000004] 51=some (zn3.ac,[(.t 4)],39):=by kernel_rfl
theorem zts {w:Wld} {op:Op} (h:WG w) (h1:w.waits=false) (h2:(zx (vwG w.over) op).2=0):jI { w with waits:=true,op:=op }=jq w op:=by
 have e:zI { w with waits:=true,op:=op } op=zI w op:=rfl;unfold jI;rw [if_neg (by simp)];show (if zI { w with waits:=true,op:=op } op≠[] then (jT { w with waits:=true,op:=op } (zI { w with waits:=true,op:=op } op),20) else (({ w with over:=(oDo w.over op).1,waits:=false,op:=ja }:Wld),0))=_;rw [e];by_cases hb:zI w op=[]
 ·rw [if_neg (fun hh=>hh hb)];unfold jq;rw [if_neg (by simp [h1]),if_neg (fun hh=>hh h2),if_neg (fun hh=>hh hb),← h.idle h1]
 ·rw [if_pos hb];unfold jq;rw [if_neg (by simp [h1]),if_neg (fun hh=>hh h2),if_pos hb]
theorem zql (W0:World) (hM:HM W0) (w:Wld) (op:Op) (h:WG w) (hl:w.leases.length≤1000000):zw Tryz.prog W0 51 [.ptr 4 0,.c (eOp op)] (wMp w) (fun _:Unit=>True) (fun _ => .c (CI (jq w op).2)) (fun _=>wMp (jq w op).1):=by
 refine fW mixed zn4 fun hg=>?_
 have hv:=Q1 W0 hM w.over;rw [if_pos h.ov,zbd h] at hv;have hd:=Q3 W0 hM (vwG w.over) op;have wt:=@zts w op h;have ht:=zeC W0 hM { w with waits:=true,op:=op };have hw1:w.waits=true→jq w op=(w,21):=fun h1=>by unfold jq; rw [if_pos h1]
 have hw2:w.waits=false→(zx (vwG w.over) op).2≠0→jq w op=(w,(zx (vwG w.over) op).2):=fun h1 h2=>by unfold jq; rw [if_neg (by simp [h1]),if_pos h2]
 have hg2:(zx (vwG w.over) op).2=0→WG { w with waits:=true,op:=op }:=h.wait;generalize zx (vwG w.over) op=r at *;refine dr ?_;apply cP<;>intro h1
 ·rw [hw1 h1];refine dr ?_;refine ⟨none,_,_,?_,(),trivial,rfl,rfl⟩;refine dr ?_;trivial
 refine dEr ?_;repeat ((first|refine c0 hv rfl ?_|refine c0 hd rfl ?_); first|refine dEr ?_|exact dz)
 apply cP<;>intro h2
 ·rw [hw2 h1 h2];refine dr ?_;refine ⟨none,_,_,?_,(),trivial,rfl,rfl⟩;refine dr ?_;trivial
 rw [← wt h1 h2];refine dr ?_;refine oW (ht (hg2 h2) hl) rfl ⟨rfl,rfl,rfl,rfl,rfl,rfl,rfl,rfl,trivial⟩ rfl rfl ⟨(),trivial⟩ fun _ _=>⟨rfl,?_⟩
 refine dEr ?_;refine ⟨none,_,_,?_,(),trivial,rfl,rfl⟩;refine dr ?_;trivial
def znZ:XC:=(.s (.r [.x1 1 0]) (.s (.d [.l1 2 1 1,.l1 3 1 1,.k1 4 3,.f1 5 3 4,.l1 6 1 5,.b1 7 .add 6 (.i 1),.ex 8 (.mm false 7 (.i 10000)),.k1 9 2,.f1 10 3 9,.s1 1 10 8]) (.d [.exo [5,1600] 11 (.ld false 1 1),.exo [5,1600] 12 (.ld false 1 1),.k1 13 12,.f1 14 5 13,.exo [5,1600] 15 (.ld false 1 14),.ex 16 (.fnv 106 [1]),.exo [5,1600] 17 (.opn 105 [15,16]),.k1 18 11,.f1 19 5 18,.s1 1 19 17])))
theorem zn0:zc Tryz.prog [105,1000005,1001600] 53=some (znZ.ac,[],20):=by kernel_rfl
theorem zqj (W0:World) (w:Wld) (h:WG w) (hl:w.leases.length≤1000000):zw Tryz.prog W0 53 [.ptr 4 0] (wMp w) (fun _:Unit=>True) (fun _ => .tup []) (fun _=>wMl true (yE w)):=by
 refine fW mixed zn0 fun hg=>?_
 have hc:=h.pl.ck;have e0:yE w={ w with clock:=min (w.clock+1) 10000,leases:=w.leases.filter fun l=>!decide (l.til≤min (w.clock+1) 10000) }:=by
  have e1:qc w=min (w.clock+1) 10000:=by unfold qc; split<;>omega
  unfold yE;rw [e1]
  congr 1
  refine List.filter_congr fun x _=>?_
  rw [Bool.eq_iff_iff]; simp
 rw [e0];refine dr ?_;repeat (refine oB (by omega) ?_; first|refine dr ?_|exact dz)
 refine oW (zov W0 w.leases hl 5 1600 16 4 [(16,.box [.ptr 4 0]),(4,.box (wCx 5 11 { w with clock:=min (w.clock+1) 10000 })),(6,.rowP [.own 7 (hdW w 0).length,.own 8 (hdW w 1).length,.own 9 (hdW w 2).length] 44),(7,.row ((hdW w 0).map zF) 7 48),(8,.row ((hdW w 1).map zF) 7 48),(9,.row ((hdW w 2).map zF) 7 48),(10,.row (w.floors.map CI) 1 3),(11,.row (w.net.map eMsg) 9 67)] (wCx 5 11 { w with clock:=min (w.clock+1) 10000 }) (min (w.clock+1) 10000) (by decide) rfl rfl rfl rfl rfl) rfl ⟨rfl,rfl,rfl,rfl,rfl,rfl,rfl,rfl,rfl,trivial⟩ rfl rfl ⟨(),trivial⟩ fun _ _=>⟨rfl,?_⟩
 refine dEr ?_;refine ⟨none,_,_,?_,(),trivial,rfl,rfl⟩;refine dr ?_;trivial
def znF:XC:=(.s (.r [.mv 9 0,.k1 10 9,.f1 11 5 10,.l1 12 1 11,.mv 13 1,.mv 14 2,.c1 15 130 [12,13,14],.mv 8 15]) (.s (.r [.mv 16 8,.b1 17 .geq 16 (.i 0),.mv 18 17,.g3 19 0 18,.gt 20 (.nck 19) 18,.g1 21 5 20 18,.g2 22 1 21 18,.g3 23 8 18,.gt 24 (.ia 4 22 23) 18,.g1 25 2 24 18,.g2 26 1 25 18,.g3 27 3 18,.gt 28 (.bin .leq 26 27) 18,.p2 29 18 28]) (.cnd 29 (.r [.mv 30 0,.mv 31 0,.k1 32 31,.f1 33 5 32,.l1 34 1 33,.mv 35 8,.mv 36 8,.b1 37 .add 36 (.i 1),.o1 38 160 [34,35,37],.k1 39 30,.f1 40 5 39,.s1 1 40 38]) .skip)))
theorem znG:zc Tryz.prog [160] 111=some (znF.ac,[],41):=by kernel_rfl
theorem zoU (W0:World) (w:Wld) (who:Int) (p:Str) (num:Int) (h:WG w) (hl:w.leases.length≤1000000):zw Tryz.prog W0 111 [.ptr 4 0,.c (CI who),.c (CS p),.c (CI num)] (wMp w) (fun _:Bool=>True) (fun _ => .tup []) (fun b=>wMl b { w with leases:=jm w.leases who p num }):=by
 refine fW mixed znG fun hg=>?_
 have ho:=zgc h.ls.d (who:=who) (n:=num) (p:=p);have hla:=zaf W0 w.leases who p;refine dEr ?_;repeat (refine c0 hla rfl ?_; first|refine dEr ?_|exact dz)
 rcases @Yg w.leases who p with ⟨e1,e2⟩ | ⟨j,hj,e1,e2⟩
 ·rw [e2] at ho;rw [e1,show jm w.leases who p num=w.leases from ho];apply cP<;>intro h3
  ·omega
  refine dr ?_;refine ⟨none,_,_,?_,false,trivial,rfl,rfl⟩;refine dr ?_;trivial
 rw [e2,e1] at ho;have ho:jm w.leases who p num=if w.leases[j].num≤num then w.leases.eraseIdx (j:Int).toNat else w.leases:=ho
 rw [e1,ho];apply cP<;>intro h3;rotate_left
 ·omega
 refine dr ?_;apply cP<;>intro h4
 ·rw [if_pos h4];refine dr ?_;refine oW (zbF W0 w.leases j hj 5 1600 (by decide) hl) rfl ⟨rfl,trivial⟩ rfl rfl ⟨(),trivial⟩ fun _ _=>⟨rfl,?_⟩
  refine dEr ?_;refine ⟨none,_,_,?_,true,trivial,rfl,rfl⟩;refine dr ?_;repeat (refine oB (by simp [List.length_eraseIdx,hj]) ?_; first|refine dr ?_|exact dz)
  trivial
 ·rw [if_neg (Int.not_le.2 h4)];refine dr ?_;refine ⟨none,_,_,?_,false,trivial,rfl,rfl⟩;refine dr ?_;trivial
theorem zhE {w:Wld} {L:List Hold} {f:List Int} (h:w.holds.length=3):hdW { w with holds:=w.holds.set 0 L,floors:=f } 0=L∧hdW { w with holds:=w.holds.set 0 L,floors:=f } 1=hdW w 1∧hdW { w with holds:=w.holds.set 0 L,floors:=f } 2=hdW w 2:=by
 obtain ⟨a,b,c,e⟩:=Yw h;unfold hdW; simp only [e]; exact ⟨rfl,rfl,rfl⟩
theorem zhF {w:Wld} {L:List Hold} {f:List Int} (h:w.holds.length=3):hdW { w with holds:=w.holds.set 1 L,floors:=f } 0=hdW w 0∧hdW { w with holds:=w.holds.set 1 L,floors:=f } 1=L∧hdW { w with holds:=w.holds.set 1 L,floors:=f } 2=hdW w 2:=by
 obtain ⟨a,b,c,e⟩:=Yw h;unfold hdW; simp only [e]; exact ⟨rfl,rfl,rfl⟩
theorem zhG {w:Wld} {L:List Hold} {f:List Int} (h:w.holds.length=3):hdW { w with holds:=w.holds.set 2 L,floors:=f } 0=hdW w 0∧hdW { w with holds:=w.holds.set 2 L,floors:=f } 1=hdW w 1∧hdW { w with holds:=w.holds.set 2 L,floors:=f } 2=L:=by
 obtain ⟨a,b,c,e⟩:=Yw h;unfold hdW; simp only [e]; exact ⟨rfl,rfl,rfl⟩
theorem qz {l a b c n:Nat} {w:Wld} {H:List (List Hold)} {f:List Int} {x y z:List Hold} (s:hdW { w with holds:=H,floors:=f } 0=x∧hdW { w with holds:=H,floors:=f } 1=y∧hdW { w with holds:=H,floors:=f } 2=z):wMx l a b c n { w with holds:=H,floors:=f }=[(4,.box (wCx l n { w with floors:=f })),(l,.row (w.leases.map jt) 4 59),(6,.rowP [.own a x.length,.own b y.length,.own c z.length] 44),(a,.row (x.map zF) 7 48),(b,.row (y.map zF) 7 48),(c,.row (z.map zF) 7 48),(10,.row (f.map CI) 1 3),(n,.row (w.net.map eMsg) 9 67)]:=by
 obtain ⟨rfl,rfl,rfl⟩:=s; rfl
def znJ:XC:=(.s (.r [.x1 5 2]) (.s (.s (.d [.f1 8 6 5,.l1 9 1 8,.mv 10 0,.k1 11 10,.f1 12 3 11,.l1 13 1 12,.b1 14 .leq 9 13,.mv 15 14,.h1 16 5 5 15,.h2 17 1 16 15,.h3 18 0 15,.gf 19 (.nck 18) 15,.h1 20 7 19 15,.h2 21 1 20 15,.h3 22 1 15,.gf 23 (.ia 1 21 22) 15,.h2 24 1 23 15,.gf 25 (.bin .leq 17 24) 15,.p1 26 15 25]) (.cnd 26 .ret .skip)) (.s (.r [.mv 27 0,.k1 28 27,.f1 29 6 28,.l1 30 1 29,.mv 31 1,.i1 32 1 30 31,.l1 33 1 32,.a1 6 33 7 48]) (.s (.s (.r [.mv 34 6,.f1 35 0 5,.l1 36 1 35,.c1 37 55 [34,36],.mv 7 37]) (.s (.r [.mv 38 7,.b1 39 .geq 38 (.i 0)]) (.cnd 39 (.s (.s (.d [.mv 40 6,.mv 41 7,.i1 42 7 40 41,.f1 43 5 42,.l1 44 1 43,.f1 45 5 5,.l1 46 1 45,.b1 47 .geq 44 46]) (.cnd 47 .ret .skip)) (.r [.mv 48 6,.mv 49 7,.mv 50 7,.b1 51 .add 50 (.i 1),.o1 52 161 [48,49,51],.a1 6 52 7 48])) .skip))) (.d [.mv 53 0,.k1 54 53,.f1 55 6 54,.exo [7,1616] 56 (.ld false 1 55),.mv 57 1,.mv 58 6,.exo [7,1616] 59 (.ld true 7 5),.exo [7,1616] 60 (.bsl 7 48 [59]),.exo [7,1616] 61 (.app false 7 80 48 58 60),.exo [7,1616] 62 (.ia 1 56 57),⟨.none,(.st 1 62 61),.none,false,[7,1616]⟩])))))
theorem znK:zc Tryz.prog [161,1000007,1001616] 109=some (znJ.ac,[],63):=by kernel_rfl
theorem zoV (W0:World) (w:Wld) (x:Hold) (h:WG w) (hz:HZ 1000000 w):zw Tryz.prog W0 109 [.ptr 4 0,I 0,.c (zF x)] (wMp w) (fun _:Bool=>True) (fun _ => .tup []) (fun b=>wM0 b (if w.clock < x.til∧flW w 0 < x.num then { w with holds:=w.holds.set 0 (jh (hdW w 0) x) } else w)):=by
 have hw:isW 0:=⟨by omega,by omega⟩;have f3:=h.pl.fl;have s:=@zhE w (jh (hdW w 0) x) w.floors h.pl.hl;have hd:(hdW w 0).Pairwise fun a b=>a.path≠b.path:=(h.hd 0 (by omega)).d
 have hlen:(hdW w 0).length≤1000000:=yQ hz 0;have ht:=zc7 hd (h:=x);have hcs:=yP (hdW w 0) x.path;have hha:=Zy W0 (hdW w 0) x.path;refine fW mixed znK fun hg=>?_
 refine dr ?_;apply cP<;>intro c1
 ·rw [if_neg (by omega)];refine dr ?_;refine ⟨none,_,_,?_,false,trivial,rfl,rfl⟩;refine dr ?_;trivial
 refine dr ?_;repeat ((first|refine oB (by rw [f3]; decide) ?_|refine aFl hw f3 ?_); first|refine dr ?_|exact dz)
 apply cP<;>intro c2
 ·rw [if_neg (by omega)];refine dr ?_;refine ⟨none,_,_,?_,false,trivial,rfl,rfl⟩;refine dr ?_;trivial
 rw [if_pos ⟨by omega,by omega⟩];refine dEr ?_;repeat ((first|refine oB (by decide) ?_|refine c0 hha rfl ?_); first|refine dEr ?_|exact dz)
 rcases hcs with ⟨e1,e2⟩ | ⟨j,hj,e1,e2,e3⟩
 ·rw [e1];apply cP<;>intro c3
  ·omega
  have tk:=ht.2.2 e1;refine dr ?_;repeat ((first|refine oB (by decide) ?_|refine oB (by simp; omega) ?_|refine oB (by simp) ?_); first|refine dr ?_|exact dz)
  refine ⟨none,_,_,?_,false,trivial,rfl,(qz s).symm⟩;rw [tk];refine dr ?_;repeat (refine oB (by simp<;>rfl) ?_; first|refine dr ?_|exact dz)
  trivial
 rw [e1];apply cP<;>intro c3;rotate_left
 ·omega
 refine dr ?_;apply cP<;>intro c4
 ·have tk:=ht.1 j hj e1 c4;refine dr ?_;refine ⟨none,_,_,?_,false,trivial,rfl,(qz s).symm⟩;rw [tk];refine dr ?_;trivial
 have tk:=ht.2.1 j hj e1 (by omega);refine dr ?_;refine oW (J1 W0 (hdW w 0) j hj 7 1616 (by decide) hlen) rfl ⟨rfl,trivial⟩ rfl rfl ⟨(),trivial⟩ fun _ _=>⟨rfl,?_⟩
 refine dEr ?_;repeat ((first|refine oB (by decide) ?_|refine oB (by simp [List.length_eraseIdx,hj]) ?_|refine oB (by simp; omega) ?_|refine oB (by simp) ?_); first|refine dEr ?_|exact dz)
 refine ⟨none,_,_,?_,true,trivial,rfl,congrArg (List.cons _) (qz s).symm⟩;rw [tk];refine dr ?_;repeat (refine oB (by simp [List.length_eraseIdx,hj]<;>rfl) ?_; first|refine dr ?_|exact dz)
 trivial
def znL:XC:=(.s (.r [.x1 5 2]) (.s (.s (.d [.f1 8 6 5,.l1 9 1 8,.mv 10 0,.k1 11 10,.f1 12 3 11,.l1 13 1 12,.b1 14 .leq 9 13,.mv 15 14,.h1 16 5 5 15,.h2 17 1 16 15,.h3 18 0 15,.gf 19 (.nck 18) 15,.h1 20 7 19 15,.h2 21 1 20 15,.h3 22 1 15,.gf 23 (.ia 1 21 22) 15,.h2 24 1 23 15,.gf 25 (.bin .leq 17 24) 15,.p1 26 15 25]) (.cnd 26 .ret .skip)) (.s (.r [.mv 27 0,.k1 28 27,.f1 29 6 28,.l1 30 1 29,.mv 31 1,.i1 32 1 30 31,.l1 33 1 32,.a1 6 33 7 48]) (.s (.s (.r [.mv 34 6,.f1 35 0 5,.l1 36 1 35,.c1 37 55 [34,36],.mv 7 37]) (.s (.r [.mv 38 7,.b1 39 .geq 38 (.i 0)]) (.cnd 39 (.s (.s (.d [.mv 40 6,.mv 41 7,.i1 42 7 40 41,.f1 43 5 42,.l1 44 1 43,.f1 45 5 5,.l1 46 1 45,.b1 47 .geq 44 46]) (.cnd 47 .ret .skip)) (.r [.mv 48 6,.mv 49 7,.mv 50 7,.b1 51 .add 50 (.i 1),.o1 52 161 [48,49,51],.a1 6 52 7 48])) .skip))) (.d [.mv 53 0,.k1 54 53,.f1 55 6 54,.exo [8,1616] 56 (.ld false 1 55),.mv 57 1,.mv 58 6,.exo [8,1616] 59 (.ld true 7 5),.exo [8,1616] 60 (.bsl 7 48 [59]),.exo [8,1616] 61 (.app false 7 80 48 58 60),.exo [8,1616] 62 (.ia 1 56 57),⟨.none,(.st 1 62 61),.none,false,[8,1616]⟩])))))
theorem znM:zc Tryz.prog [161,1000008,1001616] 109=some (znL.ac,[],63):=by kernel_rfl
theorem zoW (W0:World) (w:Wld) (x:Hold) (h:WG w) (hz:HZ 1000000 w):zw Tryz.prog W0 109 [.ptr 4 0,I 1,.c (zF x)] (wMp w) (fun _:Bool=>True) (fun _ => .tup []) (fun b=>wM1 b (if w.clock < x.til∧flW w 1 < x.num then { w with holds:=w.holds.set 1 (jh (hdW w 1) x) } else w)):=by
 have hw:isW 1:=⟨by omega,by omega⟩;have f3:=h.pl.fl;have s:=@zhF w (jh (hdW w 1) x) w.floors h.pl.hl;have hd:(hdW w 1).Pairwise fun a b=>a.path≠b.path:=(h.hd 1 (by omega)).d
 have hlen:(hdW w 1).length≤1000000:=yQ hz 1;have ht:=zc7 hd (h:=x);have hcs:=yP (hdW w 1) x.path;have hha:=Zy W0 (hdW w 1) x.path;refine fW mixed znM fun hg=>?_
 refine dr ?_;apply cP<;>intro c1
 ·rw [if_neg (by omega)];refine dr ?_;refine ⟨none,_,_,?_,false,trivial,rfl,rfl⟩;refine dr ?_;trivial
 refine dr ?_;repeat ((first|refine oB (by rw [f3]; decide) ?_|refine aFl hw f3 ?_); first|refine dr ?_|exact dz)
 apply cP<;>intro c2
 ·rw [if_neg (by omega)];refine dr ?_;refine ⟨none,_,_,?_,false,trivial,rfl,rfl⟩;refine dr ?_;trivial
 rw [if_pos ⟨by omega,by omega⟩];refine dEr ?_;repeat ((first|refine oB (by decide) ?_|refine c0 hha rfl ?_); first|refine dEr ?_|exact dz)
 rcases hcs with ⟨e1,e2⟩ | ⟨j,hj,e1,e2,e3⟩
 ·rw [e1];apply cP<;>intro c3
  ·omega
  have tk:=ht.2.2 e1;refine dr ?_;repeat ((first|refine oB (by decide) ?_|refine oB (by simp; omega) ?_|refine oB (by simp) ?_); first|refine dr ?_|exact dz)
  refine ⟨none,_,_,?_,false,trivial,rfl,(qz s).symm⟩;rw [tk];refine dr ?_;repeat (refine oB (by simp<;>rfl) ?_; first|refine dr ?_|exact dz)
  trivial
 rw [e1];apply cP<;>intro c3;rotate_left
 ·omega
 refine dr ?_;apply cP<;>intro c4
 ·have tk:=ht.1 j hj e1 c4;refine dr ?_;refine ⟨none,_,_,?_,false,trivial,rfl,(qz s).symm⟩;rw [tk];refine dr ?_;trivial
 have tk:=ht.2.1 j hj e1 (by omega);refine dr ?_;refine oW (J1 W0 (hdW w 1) j hj 8 1616 (by decide) hlen) rfl ⟨rfl,trivial⟩ rfl rfl ⟨(),trivial⟩ fun _ _=>⟨rfl,?_⟩
 refine dEr ?_;repeat ((first|refine oB (by decide) ?_|refine oB (by simp [List.length_eraseIdx,hj]) ?_|refine oB (by simp; omega) ?_|refine oB (by simp) ?_); first|refine dEr ?_|exact dz)
 refine ⟨none,_,_,?_,true,trivial,rfl,congrArg (List.cons _) (qz s).symm⟩;rw [tk];refine dr ?_;repeat (refine oB (by simp [List.length_eraseIdx,hj]<;>rfl) ?_; first|refine dr ?_|exact dz)
 trivial
def znN:XC:=(.s (.r [.x1 5 2]) (.s (.s (.d [.f1 8 6 5,.l1 9 1 8,.mv 10 0,.k1 11 10,.f1 12 3 11,.l1 13 1 12,.b1 14 .leq 9 13,.mv 15 14,.h1 16 5 5 15,.h2 17 1 16 15,.h3 18 0 15,.gf 19 (.nck 18) 15,.h1 20 7 19 15,.h2 21 1 20 15,.h3 22 1 15,.gf 23 (.ia 1 21 22) 15,.h2 24 1 23 15,.gf 25 (.bin .leq 17 24) 15,.p1 26 15 25]) (.cnd 26 .ret .skip)) (.s (.r [.mv 27 0,.k1 28 27,.f1 29 6 28,.l1 30 1 29,.mv 31 1,.i1 32 1 30 31,.l1 33 1 32,.a1 6 33 7 48]) (.s (.s (.r [.mv 34 6,.f1 35 0 5,.l1 36 1 35,.c1 37 55 [34,36],.mv 7 37]) (.s (.r [.mv 38 7,.b1 39 .geq 38 (.i 0)]) (.cnd 39 (.s (.s (.d [.mv 40 6,.mv 41 7,.i1 42 7 40 41,.f1 43 5 42,.l1 44 1 43,.f1 45 5 5,.l1 46 1 45,.b1 47 .geq 44 46]) (.cnd 47 .ret .skip)) (.r [.mv 48 6,.mv 49 7,.mv 50 7,.b1 51 .add 50 (.i 1),.o1 52 161 [48,49,51],.a1 6 52 7 48])) .skip))) (.d [.mv 53 0,.k1 54 53,.f1 55 6 54,.exo [9,1616] 56 (.ld false 1 55),.mv 57 1,.mv 58 6,.exo [9,1616] 59 (.ld true 7 5),.exo [9,1616] 60 (.bsl 7 48 [59]),.exo [9,1616] 61 (.app false 7 80 48 58 60),.exo [9,1616] 62 (.ia 1 56 57),⟨.none,(.st 1 62 61),.none,false,[9,1616]⟩])))))
theorem znO:zc Tryz.prog [161,1000009,1001616] 109=some (znN.ac,[],63):=by kernel_rfl
theorem zoX (W0:World) (w:Wld) (x:Hold) (h:WG w) (hz:HZ 1000000 w):zw Tryz.prog W0 109 [.ptr 4 0,I 2,.c (zF x)] (wMp w) (fun _:Bool=>True) (fun _ => .tup []) (fun b=>wM2 b (if w.clock < x.til∧flW w 2 < x.num then { w with holds:=w.holds.set 2 (jh (hdW w 2) x) } else w)):=by
 have hw:isW 2:=⟨by omega,by omega⟩;have f3:=h.pl.fl;have s:=@zhG w (jh (hdW w 2) x) w.floors h.pl.hl;have hd:(hdW w 2).Pairwise fun a b=>a.path≠b.path:=(h.hd 2 (by omega)).d
 have hlen:(hdW w 2).length≤1000000:=yQ hz 2;have ht:=zc7 hd (h:=x);have hcs:=yP (hdW w 2) x.path;have hha:=Zy W0 (hdW w 2) x.path;refine fW mixed znO fun hg=>?_
 refine dr ?_;apply cP<;>intro c1
 ·rw [if_neg (by omega)];refine dr ?_;refine ⟨none,_,_,?_,false,trivial,rfl,rfl⟩;refine dr ?_;trivial
 refine dr ?_;repeat ((first|refine oB (by rw [f3]; decide) ?_|refine aFl hw f3 ?_); first|refine dr ?_|exact dz)
 apply cP<;>intro c2
 ·rw [if_neg (by omega)];refine dr ?_;refine ⟨none,_,_,?_,false,trivial,rfl,rfl⟩;refine dr ?_;trivial
 rw [if_pos ⟨by omega,by omega⟩];refine dEr ?_;repeat ((first|refine oB (by decide) ?_|refine c0 hha rfl ?_); first|refine dEr ?_|exact dz)
 rcases hcs with ⟨e1,e2⟩ | ⟨j,hj,e1,e2,e3⟩
 ·rw [e1];apply cP<;>intro c3
  ·omega
  have tk:=ht.2.2 e1;refine dr ?_;repeat ((first|refine oB (by decide) ?_|refine oB (by simp; omega) ?_|refine oB (by simp) ?_); first|refine dr ?_|exact dz)
  refine ⟨none,_,_,?_,false,trivial,rfl,(qz s).symm⟩;rw [tk];refine dr ?_;repeat (refine oB (by simp<;>rfl) ?_; first|refine dr ?_|exact dz)
  trivial
 rw [e1];apply cP<;>intro c3;rotate_left
 ·omega
 refine dr ?_;apply cP<;>intro c4
 ·have tk:=ht.1 j hj e1 c4;refine dr ?_;refine ⟨none,_,_,?_,false,trivial,rfl,(qz s).symm⟩;rw [tk];refine dr ?_;trivial
 have tk:=ht.2.1 j hj e1 (by omega);refine dr ?_;refine oW (J1 W0 (hdW w 2) j hj 9 1616 (by decide) hlen) rfl ⟨rfl,trivial⟩ rfl rfl ⟨(),trivial⟩ fun _ _=>⟨rfl,?_⟩
 refine dEr ?_;repeat ((first|refine oB (by decide) ?_|refine oB (by simp [List.length_eraseIdx,hj]) ?_|refine oB (by simp; omega) ?_|refine oB (by simp) ?_); first|refine dEr ?_|exact dz)
 refine ⟨none,_,_,?_,true,trivial,rfl,congrArg (List.cons _) (qz s).symm⟩;rw [tk];refine dr ?_;repeat (refine oB (by simp [List.length_eraseIdx,hj]<;>rfl) ?_; first|refine dr ?_|exact dz)
 trivial
end Go.Proofs.YtopfccpgdldcdaaGreatDoor
