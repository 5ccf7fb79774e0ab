/- The texts Pd7, Shelf, Sh1, Ib1, Sh2, Sh3, Ib2, Ib3, Ib4, Ib5, Ib6, Ic1, Id1, Id2, Bm3, Cm1, Dm1, Dm2, Lb1, Lc1, Ld1, joined; no condition. -/
import Derived.Test.YteheahbjaddooaaGreatDoorWqD
import Derived.Shelf.Strings.Builder1
import Derived.Shelf.Strings.Builder2
import Derived.Shelf.Strings.OnBuilder
import Derived.Shelf.Small.Bits
import Derived.Shelf.Strconv.Itoa0
import Derived.Shelf.Strings.Search1
import Derived.Shelf.Strings.Search2
import Derived.Shelf.Strings.Search3
import Derived.Shelf.Strings.Count
import Derived.Shelf.LaysM
import Derived.Shelf.Strings.Shaped
import Derived.Shelf.Strings.Split
import Derived.Shelf.Unicode.DecodeSlow
import Derived.Ground.SlgnProg
import Derived.Shelf.SlicesE.Equal
import Derived.Shelf.SlLaysE0
import Derived.Shelf.SlLaysH0
import Derived.Ground.SlgfProg
import Derived.Shelf.SlGeneric
import Derived.Shelf.SlSortCmp.NoneTotal
import Derived.Ground.SlsfProg
import Derived.Test.YteheahbjaddooaaGreatDoorProg
import Derived.Shelf.SlSortCmp.WholeK
import Derived.Laws.Cover1
import Derived.OpenShut
import Derived.Carry
import Derived.ChangeSame
import Derived.ProofKit
import Derived.Test.YteheahbjaddooaaGreatDoorRows
import Derived.Test.YteheahbjaddooaaGreatDoorCards
import Derived.Test.YteheahbjaddooaaGreatDoorTie
import Derived.Deep.DeepHandedRow
import Derived.Lib.LaidTab
import Derived.Sort.Row

namespace Go.Proofs.YteheahbjaddooaaGreatDoor
set_option linter.unusedSimpArgs false
set_option linter.unusedVariables false
open Go Go.RowKit
def Y0:XC:=(.s (.r [.ex 1 (.box 0),.ex 2 (.alloc [.nil,.nil,.nil,(I 0),(I 0),.nil,.nil,.nil,.nil,(B false),(I 0),sE,sE,sE])]) (.s (.d [.l2 3 3 1,.c1 4 102 [3],.ex 5 (.mks 1 24 56 (.c (.row [])) (.i 3)),.ex 6 (.mks 1 8 3 (I 0) (.i 3)),.ex 7 (.build [.nil,.nil,.nil,(I 0),(I 0),.nil,.nil,.nil,.nil,(B false),(I 0),sE,sE,sE] [(0,(3,4)),(6,(1,5)),(7,(1,6))]),.s1 14 2 7]) .ret))
theorem Y1:compF Tryz.prog [] 72=some (Y0.ac,[(.cell 2 true 14)],8):=by kernel_rfl
theorem zgj (W0:World) (o:Over) (h:OZ 1000000 o):FunW Tryz.prog W0 72 [.c (eOver o)] [] (fun _:Unit=>True) (fun _ => .agg [.c (eEnts o.base),.c (eMarkss o.layers),.c (eMarks o.upper),I 0,I 0,.nil,.own 80 3,.own 96 3,.nil,B false,I 0,.c (CS []),.c (CS []),.c (CS [])])
  (fun _=>[(80,.row (([[],[],[]]:List (List Hold)).map eHolds) 1 56),(96,.row (([0,0,0]:List Int).map CI) 1 3)]):=by
 refine funW (c:=Y0) mixed Y1 (by simp) rfl rfl fun hg=>?_
 refine dEr ?_
 repeat ((first | refine c0 (jw W0 o h) rfl ?_ | refine nE (j:=3) rfl ?_ | refine oB (by simp) ?_); first | refine dEr ?_ | exact dz)
 refine ⟨none,_,_,?_,(),trivial,rfl,rfl⟩
 refine dr ?_
 repeat (refine oB (by simp) ?_; first | refine dr ?_ | exact dz)
 trivial
theorem zgi (W0:World) (o:Over) (h:OZ 1000000 o):FunW Tryz.prog W0 72 [.c (eOver o)] [] (fun _:Unit=>True) (fun _ => .agg [.c (eEnts o.base),.c (eMarkss o.layers),.c (eMarks o.upper),I 0,I 0,.nil,.own 4 3,.own 5 3,.nil,B false,I 0,.c (CS []),.c (CS []),.c (CS [])])
  (fun _=>[(4,.row (([[],[],[]]:List (List Hold)).map eHolds) 1 56),(5,.row (([0,0,0]:List Int).map CI) 1 3)]):=((zgj W0 o h).swp 80 4).swp 96 5
theorem KeepS.newB {k0:List Nat} {A:Fr} {m:XM} (bx:Nat) (o:Over) (hb:lkX m bx=some (.box [.c (eEnts o.base),.c (eMarkss o.layers),.c (eMarks o.upper),I 0,I 0,.nil,.own 4 3,.own 5 3,.nil,B false,I 0,.c (CS []),.c (CS []),.c (CS [])])) (h6:lkX m 6=none) (hne:bx≠6)
  {F2:Fr} {m2:XM} {z:Option Nat} (h:KeepX k0 z A ((6,.row [] 9 55)::updX (updX m bx (.box [.c (eEnts o.base),.c (eMarkss o.layers),.c (eMarks o.upper),I 0,I 0,.c (.row []),.own 4 3,.own 5 3,.nil,B false,I 0,.c (CS []),.c (CS []),.c (CS [])])) bx (.box [.c (eEnts o.base),.c (eMarkss o.layers),.c (eMarks o.upper),I 0,I 0,.c (.row []),.own 4 3,.own 5 3,.own 6 0,B false,I 0,.c (CS []),.c (CS []),.c (CS [])])) F2 m2):KeepX k0 (some 3) A m F2 m2:=by
 refine KeepS.trans (z:=some 3) (KeepS.nilC bx _ [.c (eEnts o.base),.c (eMarkss o.layers),.c (eMarks o.upper),I 0,I 0,.c (.row []),.own 4 3,.own 5 3,.nil,B false,I 0,.c (CS []),.c (CS []),.c (CS [])] hb ⟨nc0,nc0,nc0,nc0,nc0,nc1,nc0,nc0,nc0,nc0,nc0,nc0,nc0,nc0,trivial⟩) ?_
 have key:∀ {m:XM} {b b':XB},lkX m bx=some b→lkX (updX m bx b') bx=some b':=by
  intro m b b' hm
  induction m with
  | nil=>cases hm
  | cons p l ih =>
   obtain ⟨k,x⟩:=p
   rw [lkX] at hm
   rw [updX]
   cases hk:Nat.beq k bx with
   | true=>simp only [lkX]; rw [Nat.eq_of_beq_eq_true hk]; simp
   | false =>
    have hk':Nat.beq bx k=false:=by
     cases h':Nat.beq bx k with
     | false=>rfl
     | true=>rw [Nat.eq_of_beq_eq_true h'] at hk; simp at hk
    rw [hk'] at hm
    simp only [lkX,hk']
    exact ih hm
 have key2:∀ {m:XM} {b':XB},lkX m 6=none→lkX (updX m bx b') 6=none:=by
  intro m b' hm
  induction m with
  | nil=>rfl
  | cons p l ih =>
   obtain ⟨k,x⟩:=p
   rw [lkX] at hm
   rw [updX]
   cases hk6:Nat.beq 6 k with
   | true=>rw [hk6] at hm; cases hm
   | false =>
    rw [hk6] at hm
    cases hk:Nat.beq k bx with
    | true=>simp only [lkX,hk6]; exact hm
    | false=>simp only [lkX,hk6]; exact ih hm
 exact KeepS.trans (KeepS.nilS bx _ [.c (eEnts o.base),.c (eMarkss o.layers),.c (eMarks o.upper),I 0,I 0,.c (.row []),.own 4 3,.own 5 3,.own 6 0,B false,I 0,.c (CS []),.c (CS []),.c (CS [])] 6 9 55 (by omega) (key hb) (key2 h6) ⟨nr0,nr0,nr0,nr0,nr0,nr0,nr0,nr0,nr1,nr0,nr0,nr0,nr0,nr0,trivial⟩) h
def Y4:XC:=(.s (.r [.ex 3 (.box 0),.ex 6 (.alloc [sE,(B false),sE]),.m1 7 .n,.m1 8 .n]) (.s (.s (.r [.l2 11 14 3,.c1 12 21 [11],.ex 13 (.un .not 12),.mv 14 13,.gf 15 (.mv 1) 14,.gf 16 (.call 37 [15]) 14,.gf 17 (.un .not 16) 14,.ex 18 (.pick 14 .y 17)]) (.cnd 18 (.s (.r [.ex 19 (.build [sE,(B false),sE] []),.s1 3 6 19,.m1 7 .n,.m1 8 .n]) .ret) .skip)) (.s (.r [.f1 20 6 3,.l1 21 1 20,.mv 22 1,.i1 23 1 21 22,.l1 24 1 23,.a1 9 24 7 53]) (.s (.s (.r [.m1 10 (.i 0)]) (.blk 0 (.loop (.s (.s (.r [.mv 25 10,.mv 26 9,.n1 27 26,.b1 28 .lss 25 27]) (.cnd 28 .skip (.exit 0))) (.s (.blk 1 (.s (.d [.mv 31 9,.mv 32 10,.i1 33 7 31 32,.f1 34 0 33,.l1 35 1 34,.mv 36 2,.b1 37 .eql 35 36,.mv 38 37,.gt 39 (.fa 3 3) 38,.gt 40 (.ld false 1 39) 38,.gt 41 (.mv 9) 38,.gt 42 (.mv 10) 38,.gt 43 (.ia 7 41 42) 38,.gt 44 (.fa 6 43) 38,.gt 45 (.ld false 1 44) 38,.gt 46 (.bin .lss 40 45) 38,.ex 47 (.pick 38 46 .n)]) (.cnd 47 (.s (.d [.mv 48 9,.mv 49 10,.exo [96] 50 (.ia 7 48 49),.f1 51 2 50,.exo [96] 52 (.ld true 3 51),.mv 53 9,.mv 54 10,.exo [96] 55 (.ia 7 53 54),.f1 56 1 55,.exo [96] 57 (.ld false 1 56),.nuo [96] (.st 3 6 52),.mv 7 57,.m1 8 .y]) .ret) .skip))) (.r [.mv 29 10,.b1 30 .add 29 (.i 1),.mv 10 30])))))) (.s (.r [.ex 58 (.build [sE,(B false),sE] []),.s1 3 6 58,.m1 7 .n,.m1 8 .n]) .ret)))))
theorem Y5:compF Tryz.prog [1000096] 13=some (Y4.ac,[(.cell 6 true 3),(.t 7),(.t 8)],59):=by kernel_rfl
def eWR (r:Option (Ent × Bool)):CV := .tup [eEnt (r.getD (noE,false)).1,CB (r.getD (noE,false)).2,CB r.isSome]
theorem zn5 {w:Wld} {who:Int} {p:Str} (h:¬ (WG w∧isW who)):wRead w who p=none:=by unfold wRead; rw [if_neg h]
theorem zn7 {w:Wld} {who:Int} {p:Str} (h:WG w) (h2:isW who):wRead w who p=((hdW w who).find? fun h=>h.path==p&&decide (w.clock < h.til)).map fun h=>(h.ent,h.has):=by unfold wRead; rw [if_pos ⟨h,h2⟩]
theorem zgA {α:Type} {q:α→Bool} {l:List α} {k:Nat} (h:k < l.length) (hn:∀ x∈l.take k,q x=false) (h1:q l[k]=true):l.find? q=some l[k]:=by
 have e:l.find? q=(l.take k++(l[k]::l.drop (k+1))).find? q:=by rw [← List.drop_eq_getElem_cons h,List.take_append_drop]
 have e2:(l.take k).find? q=none:=List.find?_eq_none.2 fun x hx=>by rw [hn x hx]; simp
 rw [e,List.find?_append,e2,List.find?_cons,h1]; rfl
theorem zgB {α:Type} {q:α→Bool} {l:List α} (hn:∀ x∈l,q x=false):l.find? q=none:=List.find?_eq_none.2 fun x hx=>by rw [hn x hx]; simp
theorem zjU {α:Type} {q:α→Bool} {l:List α} {k:Nat} (h:k < l.length) (hn:∀ x∈l.take k,q x=false) (h1:q l[k]=false):∀ x∈l.take (k+1),q x=false:=fun x hx=>by
 rw [List.take_succ_eq_append_getElem h] at hx
 rcases List.mem_append.1 hx with h' | h'
 ·exact hn x h'
 ·rw [List.mem_singleton.1 h']; exact h1
theorem zgl (W0:World) (w:Wld) (who:Int) (p:Str):Fn Tryz.prog W0 13 [eWld w,CI who,CS p] (.c (eWR (wRead w who p))) []:=by
 refine fnX (c:=Y4) mixed Y5 (by simp) rfl fun hg=>?_
 have g0:=goodAgg (hg _ (by simp:eWld w∈_))
 refine dEr ?_
 repeat (refine c0 (zgk W0 w) rfl ?_; first | refine dEr ?_ | exact dz)
 refine cP ?_ ?_<;>intro h1
 ·refine dr ?_
  rw [zn5 (fun hh=>h1 hh.1)]<;>rfl
 refine dEr ?_
 repeat (refine c0 (jz W0 who) rfl ?_; first | refine dEr ?_ | exact dz)
 refine cP ?_ ?_<;>intro h2
 ·refine dr ?_
  rw [zn5 (fun hh=>h2 hh.2)]<;>rfl
 rw [zn7 h1 h2]
 have g1:(hdW w who).length≤9223372036854775807:=by
  have hk:who.toNat < w.holds.length:=by have:=h2.1; have:=h2.2; have:=h1.pl.hl; omega
  have e:hdW w who=w.holds[who.toNat]:=by unfold hdW; rw [List.getD_eq_getElem?_getD,List.getElem?_eq_getElem hk]; rfl
  have:=goodRow' (g0 _ (by simp:eHoldss w.holds∈_)) _ (List.getElem_mem hk) (eHolds w.holds[who.toNat]) (by simp [eHolds,CV.cells])
  rw [e]; exact goodRow this
 refine dr ?_
 repeat (refine aHd h2 h1.pl.hl ?_; first | refine dr ?_ | exact dz)
 generalize hdW w who=L at *
 refine lp (σ:=Nat) (fun k=>[(2,.c (CS p)),(3,.ptr 48 0),(6,.ptr 96 0),(9,.c (eHolds L)),(10,I k)]) (fun _=>[(48,wBx w),(96,.box [.c (CS []),B false,.c (CS [])])]) (fun k=>k≤L.length∧∀ x∈L.take k,(x.path==p&&decide (w.clock < x.til))=false) (fun k=>L.length - k) 0 ⟨by omega,by simp⟩ ?_ ?_
 ·refine dr ?_
  trivial
 rintro k ⟨hk,hA⟩
 refine dr ?_
 refine cP ?_ ?_<;>intro h3
 ·have hk':k < L.length:=by omega
  refine dr ?_
  refine cP ?_ ?_<;>intro h4
  ·refine dr ?_
   refine cP ?_ ?_<;>intro h5
   ·rw [zgA hk' hA (by rw [h4,decide_eq_true h5]; simp)]
    refine dr ?_
    rfl
   ·refine dr ?_
    refine ⟨k+1,⟨by omega,zjU hk' hA (by rw [decide_eq_false (by omega),Bool.and_false])⟩,by omega,?_⟩
    refine dr ?_
    trivial
  ·refine dr ?_
   refine ⟨k+1,⟨by omega,zjU hk' hA (by simp [h4])⟩,by omega,?_⟩
   refine dr ?_
   trivial
 have hkl:k=L.length:=by omega
 rw [hkl,List.take_length] at hA
 rw [zgB hA]
 refine dr ?_
 rfl
end Go.Proofs.YteheahbjaddooaaGreatDoor

namespace Go.Proofs
open Go.Shelf
def Tryz.lays156_ren:Go.Shelf.Ren:=⟨fun | 156=>195 | 165=>230 | 166=>231 | 169=>232 | 240=>247 | 241=>248 | 276=>263 | 277=>264 | n=>n,fun | 31=>119 | 9=>9 | 3=>3 | 4=>4 | 0=>0 | 20=>20 | 72=>217 | 76=>221 | 70=>215 | 37=>22 | 75=>220 | 127=>233 | 164=>245 | 5=>5 | 80=>223 | n=>n,fun | n=>n⟩
theorem Tryz.lays156:Go.Proofs.Lays.n156 Tryz.prog Tryz.lays156_ren:={
 mixed:=by kernel_rfl
 f156:=Tryz.func195.trans (congrArg some (by kernel_rfl))
 f165:=Tryz.func230.trans (congrArg some (by kernel_rfl))
 f166:=Tryz.func231.trans (congrArg some (by kernel_rfl))
 f169:=Tryz.func232.trans (congrArg some (by kernel_rfl))
 f240:=Tryz.func247.trans (congrArg some (by kernel_rfl))
 f241:=Tryz.func248.trans (congrArg some (by kernel_rfl))
 f276:=Tryz.func263.trans (congrArg some (by kernel_rfl))
 f277:=Tryz.func264.trans (congrArg some (by kernel_rfl))
 t0:=Tryz.underlying0
 a0:=Tryz.isAgg0
 z0:=Tryz.sizeOf0
 v0:=Tryz.zeroValue0
 t3:=Tryz.underlying3
 a3:=Tryz.isAgg3
 z3:=Tryz.sizeOf3
 v3:=Tryz.zeroValue3
 t4:=Tryz.underlying4
 a4:=Tryz.isAgg4
 z4:=Tryz.sizeOf4
 v4:=Tryz.zeroValue4
 t9:=Tryz.underlying9
 a9:=Tryz.isAgg9
 z9:=Tryz.sizeOf9
 v9:=Tryz.zeroValue9
 t20:=Tryz.underlying20
 a20:=Tryz.isAgg20
 z20:=Tryz.sizeOf20
 v20:=Tryz.zeroValue20
 t31:=Tryz.underlying119
 a31:=Tryz.isAgg119
 z31:=Tryz.sizeOf119
 v31:=Tryz.zeroValue119
 t37:=Tryz.underlying22
 a37:=Tryz.isAgg22
 z37:=Tryz.sizeOf22
 v37:=Tryz.zeroValue22
 t70:=Tryz.underlying215
 a70:=Tryz.isAgg215
 z70:=Tryz.sizeOf215
 v70:=Tryz.zeroValue215
 t72:=Tryz.underlying217
 a72:=Tryz.isAgg217
 z72:=Tryz.sizeOf217
 v72:=Tryz.zeroValue217
 t75:=Tryz.underlying220
 a75:=Tryz.isAgg220
 z75:=Tryz.sizeOf220
 v75:=Tryz.zeroValue220
 t76:=Tryz.underlying221
 a76:=Tryz.isAgg221
 z76:=Tryz.sizeOf221
 v76:=Tryz.zeroValue221
 t127:=Tryz.underlying233
 a127:=Tryz.isAgg233
 z127:=Tryz.sizeOf233
 v127:=Tryz.zeroValue233
 t164:=Tryz.underlying245
 a164:=Tryz.isAgg245
 z164:=Tryz.sizeOf245
 v164:=Tryz.zeroValue245 }
theorem Tryz.Builder_Extra_156:Builder.Extra Tryz.prog Tryz.lays156_ren:={
 sizeBuilder:=by kernel_rfl
 liesBuilder:=by kernel_rfl
 t5:=Tryz.underlying5
 a5:=Tryz.isAgg5
 z5:=Tryz.sizeOf5
 v5:=Tryz.zeroValue5
 infoByte:=by kernel_rfl
 cellsByte:=by kernel_rfl
 sizeByte:=by kernel_rfl
 neB5:=by decide }
open Go.RowKit in
theorem Tryz.strings_Join_none (a:Option Addr) (c:Nat) (sep:ByteArray) (w:World) :
  Calls Tryz.prog 195 #[.slice a 0 c,.string sep] w fun e w'=>e = .returned (.string ⟨#[]⟩)∧w'=w:=Any.strings_Join_none Tryz.lays156 Tryz.Builder_Extra_156 a c sep w
open Go.RowKit in
theorem Tryz.strings_Join (bk o c:Nat) (xs:List ByteArray) (sep:ByteArray) (w:World) (hcells:∀ (j:Nat) x,xs[j]? = some x→w.cell? ⟨bk,o+j,none⟩=some (.string x)) (hbk:bk < w.heap.size) (hN:xs.length≤140737488355328) (hcap:xs.length≤c) (hlen:(Lib.join (xs.map (·.data.toList)) sep.data.toList).length≤140737488355328) :
  Calls Tryz.prog 195 #[.slice (some ⟨bk,o,none⟩) xs.length c,.string sep] w fun e w'=>e = .returned (.string ⟨(Lib.join (xs.map (·.data.toList)) sep.data.toList).toArray⟩)∧Below w.heap.size w w':=Any.strings_Join Tryz.lays156 Tryz.Builder_Extra_156 bk o c xs sep w hcells hbk hN hcap hlen
def Tryz.lays146_ren:Go.Shelf.Ren:=⟨fun | 146=>182 | 221=>215 | 268=>238 | 138=>239 | 143=>240 | 195=>258 | 197=>259 | 218=>260 | 219=>261 | 260=>268 | 217=>269 | 225=>270 | 224=>271 | 267=>272 | 266=>274 | 314=>275 | n=>n,fun | 9=>9 | 31=>119 | 3=>3 | 4=>4 | 0=>0 | 105=>239 | 21=>21 | 5=>5 | 46=>186 | 119=>251 | 139=>254 | 138=>253 | 146=>255 | 51=>211 | n=>n,fun | 1=>0 | 3=>1 | 4=>2 | n=>n⟩
theorem Tryz.lays146:Go.Proofs.Lays.n146 Tryz.prog Tryz.lays146_ren:={
 mixed:=by kernel_rfl
 f138:=Tryz.func239.trans (congrArg some (by kernel_rfl))
 f143:=Tryz.func240.trans (congrArg some (by kernel_rfl))
 f146:=Tryz.func182.trans (congrArg some (by kernel_rfl))
 f195:=Tryz.func258.trans (congrArg some (by kernel_rfl))
 f197:=Tryz.func259.trans (congrArg some (by kernel_rfl))
 f217:=Tryz.func269.trans (congrArg some (by kernel_rfl))
 f218:=Tryz.func260.trans (congrArg some (by kernel_rfl))
 f219:=Tryz.func261.trans (congrArg some (by kernel_rfl))
 f221:=Tryz.func215.trans (congrArg some (by kernel_rfl))
 f224:=Tryz.func271.trans (congrArg some (by kernel_rfl))
 f225:=Tryz.func270.trans (congrArg some (by kernel_rfl))
 f260:=Tryz.func268.trans (congrArg some (by kernel_rfl))
 f266:=Tryz.func274.trans (congrArg some (by kernel_rfl))
 f267:=Tryz.func272.trans (congrArg some (by kernel_rfl))
 f268:=Tryz.func238.trans (congrArg some (by kernel_rfl))
 f314:=Tryz.func275.trans (congrArg some (by kernel_rfl))
 t0:=Tryz.underlying0
 a0:=Tryz.isAgg0
 z0:=Tryz.sizeOf0
 v0:=Tryz.zeroValue0
 t3:=Tryz.underlying3
 a3:=Tryz.isAgg3
 z3:=Tryz.sizeOf3
 v3:=Tryz.zeroValue3
 t4:=Tryz.underlying4
 a4:=Tryz.isAgg4
 z4:=Tryz.sizeOf4
 v4:=Tryz.zeroValue4
 t5:=Tryz.underlying5
 a5:=Tryz.isAgg5
 z5:=Tryz.sizeOf5
 v5:=Tryz.zeroValue5
 t9:=Tryz.underlying9
 a9:=Tryz.isAgg9
 z9:=Tryz.sizeOf9
 v9:=Tryz.zeroValue9
 t21:=Tryz.underlying21
 a21:=Tryz.isAgg21
 z21:=Tryz.sizeOf21
 v21:=Tryz.zeroValue21
 t31:=Tryz.underlying119
 a31:=Tryz.isAgg119
 z31:=Tryz.sizeOf119
 v31:=Tryz.zeroValue119
 t46:=Tryz.underlying186
 a46:=Tryz.isAgg186
 z46:=Tryz.sizeOf186
 v46:=Tryz.zeroValue186
 t51:=Tryz.underlying211
 a51:=Tryz.isAgg211
 z51:=Tryz.sizeOf211
 v51:=Tryz.zeroValue211
 t105:=Tryz.underlying239
 a105:=Tryz.isAgg239
 z105:=Tryz.sizeOf239
 v105:=Tryz.zeroValue239
 t119:=Tryz.underlying251
 a119:=Tryz.isAgg251
 z119:=Tryz.sizeOf251
 t138:=Tryz.underlying253
 a138:=Tryz.isAgg253
 z138:=Tryz.sizeOf253
 v138:=Tryz.zeroValue253
 t139:=Tryz.underlying254
 a139:=Tryz.isAgg254
 z139:=Tryz.sizeOf254
 v139:=Tryz.zeroValue254
 t146:=Tryz.underlying255
 a146:=Tryz.isAgg255
 z146:=Tryz.sizeOf255
 v146:=Tryz.zeroValue255
 g1:=by kernel_rfl
 g3:=by kernel_rfl
 g4:=by kernel_rfl }
open Go.RowKit Go.Lib in
theorem Tryz.strings_Split (s sep:ByteArray) (m:Int) (w:World) (hs:s.size < 4294967281) (hm:w.cell? ⟨0,0,none⟩=some (.int .i64 m)) (h1:1≤sep.size) :
  Calls Tryz.prog 182 #[.string s,.string sep] w fun e w' =>
   e = .returned (.slice (some ⟨w.heap.size,0,none⟩) (Lib.countB s sep+1) (Lib.countB s sep+1))∧w'=w.alloc (.cells ((Lib.splitB sep 0 (Lib.countB s sep) s).map Value.string).toArray 9):=Any.strings_Split Tryz.lays146 (by kernel_rfl) s sep m w hs hm h1
def Tryz.sortE_ren:Go.Shelf.Ren:=⟨fun | 6=>146 | 15=>190 | 14=>189 | 28=>226 | 29=>227 | 20=>218 | 21=>219 | 22=>220 | 23=>221 | 24=>222 | 25=>223 | 26=>224 | 27=>225 | 46=>241 | 47=>242 | 48=>243 | 49=>244 | 50=>245 | 57=>262 | n=>n,fun | 22=>23 | 24=>39 | 25=>155 | 3=>3 | 39=>186 | 0=>0 | 53=>211 | 55=>213 | 4=>4 | 46=>204 | 45=>203 | 50=>208 | 5=>5 | 9=>9 | 66=>227 | 70=>231 | 76=>242 | 77=>243 | n=>n,fun | n=>n⟩
theorem Tryz.sortE:Go.Proofs.SlLaysF0.n6 Tryz.prog Tryz.sortE_ren:={
 mixed:=by kernel_rfl
 f6:=⟨Tryz.f146.name,by decide,Tryz.func146.trans (congrArg some (by kernel_rfl))⟩
 f14:=⟨Tryz.f189.name,by decide,Tryz.func189.trans (congrArg some (by kernel_rfl))⟩
 f15:=Tryz.func190.trans (congrArg some (by kernel_rfl))
 f20:=⟨Tryz.f218.name,by decide,Tryz.func218.trans (congrArg some (by kernel_rfl))⟩
 f21:=⟨Tryz.f219.name,by decide,Tryz.func219.trans (congrArg some (by kernel_rfl))⟩
 f22:=⟨Tryz.f220.name,by decide,Tryz.func220.trans (congrArg some (by kernel_rfl))⟩
 f23:=⟨Tryz.f221.name,by decide,Tryz.func221.trans (congrArg some (by kernel_rfl))⟩
 f24:=⟨Tryz.f222.name,by decide,Tryz.func222.trans (congrArg some (by kernel_rfl))⟩
 f25:=⟨Tryz.f223.name,by decide,Tryz.func223.trans (congrArg some (by kernel_rfl))⟩
 f26:=⟨Tryz.f224.name,by decide,Tryz.func224.trans (congrArg some (by kernel_rfl))⟩
 f27:=⟨Tryz.f225.name,by decide,Tryz.func225.trans (congrArg some (by kernel_rfl))⟩
 f28:=Tryz.func226.trans (congrArg some (by kernel_rfl))
 f29:=Tryz.func227.trans (congrArg some (by kernel_rfl))
 f46:=⟨Tryz.f241.name,by decide,Tryz.func241.trans (congrArg some (by kernel_rfl))⟩
 f47:=Tryz.func242.trans (congrArg some (by kernel_rfl))
 f48:=Tryz.func243.trans (congrArg some (by kernel_rfl))
 f49:=⟨Tryz.f244.name,by decide,Tryz.func244.trans (congrArg some (by kernel_rfl))⟩
 f50:=⟨Tryz.f245.name,by decide,Tryz.func245.trans (congrArg some (by kernel_rfl))⟩
 f57:=⟨Tryz.f262.name,by decide,Tryz.func262.trans (congrArg some (by kernel_rfl))⟩
 t0:=Tryz.underlying0
 a0:=Tryz.isAgg0
 z0:=Tryz.sizeOf0
 v0:=Tryz.zeroValue0
 t3:=Tryz.underlying3
 a3:=Tryz.isAgg3
 z3:=Tryz.sizeOf3
 v3:=Tryz.zeroValue3
 t4:=Tryz.underlying4
 a4:=Tryz.isAgg4
 z4:=Tryz.sizeOf4
 v4:=Tryz.zeroValue4
 t5:=Tryz.underlying5
 a5:=Tryz.isAgg5
 z5:=Tryz.sizeOf5
 v5:=Tryz.zeroValue5
 t9:=Tryz.underlying9
 a9:=Tryz.isAgg9
 z9:=Tryz.sizeOf9
 v9:=Tryz.zeroValue9
 t22:=Tryz.underlying23
 a22:=Tryz.isAgg23
 z22:=Tryz.sizeOf23
 v22:=Tryz.zeroValue23
 t25:=Tryz.underlying155
 a25:=Tryz.isAgg155
 z25:=Tryz.sizeOf155
 v25:=Tryz.zeroValue155
 t39:=Tryz.underlying186
 a39:=Tryz.isAgg186
 z39:=Tryz.sizeOf186
 v39:=Tryz.zeroValue186
 t45:=Tryz.underlying203
 a45:=Tryz.isAgg203
 z45:=Tryz.sizeOf203
 v45:=Tryz.zeroValue203
 t46:=Tryz.underlying204
 a46:=Tryz.isAgg204
 z46:=Tryz.sizeOf204
 v46:=Tryz.zeroValue204
 t50:=Tryz.underlying208
 a50:=Tryz.isAgg208
 z50:=Tryz.sizeOf208
 v50:=Tryz.zeroValue208
 t53:=Tryz.underlying211
 a53:=Tryz.isAgg211
 z53:=Tryz.sizeOf211
 v53:=Tryz.zeroValue211
 t55:=Tryz.underlying213
 a55:=Tryz.isAgg213
 z55:=Tryz.sizeOf213
 v55:=Tryz.zeroValue213
 t66:=Tryz.underlying227
 a66:=Tryz.isAgg227
 z66:=Tryz.sizeOf227
 v66:=Tryz.zeroValue227
 t70:=Tryz.underlying231
 a70:=Tryz.isAgg231
 z70:=Tryz.sizeOf231
 v70:=Tryz.zeroValue231
 t76:=Tryz.underlying242
 a76:=Tryz.isAgg242
 z76:=Tryz.sizeOf242
 v76:=Tryz.zeroValue242
 t77:=Tryz.underlying243
 a77:=Tryz.isAgg243
 z77:=Tryz.sizeOf243
 v77:=Tryz.zeroValue243 }
def Tryz.sortM_ren:Go.Shelf.Ren:=⟨fun | 6=>196 | 15=>190 | 14=>233 | 28=>226 | 29=>227 | 20=>249 | 21=>250 | 22=>251 | 23=>252 | 24=>253 | 25=>254 | 26=>255 | 27=>256 | 46=>265 | 47=>242 | 48=>243 | 49=>266 | 50=>267 | 57=>273 | n=>n,fun | 22=>25 | 24=>133 | 25=>192 | 3=>3 | 39=>186 | 0=>0 | 53=>211 | 55=>213 | 4=>4 | 46=>204 | 45=>203 | 50=>208 | 5=>5 | 9=>9 | 66=>227 | 70=>231 | 76=>242 | 77=>243 | n=>n,fun | n=>n⟩
theorem Tryz.sortM:Go.Proofs.SlLaysF0.n6 Tryz.prog Tryz.sortM_ren:={
 mixed:=by kernel_rfl
 f6:=⟨Tryz.f196.name,by decide,Tryz.func196.trans (congrArg some (by kernel_rfl))⟩
 f14:=⟨Tryz.f233.name,by decide,Tryz.func233.trans (congrArg some (by kernel_rfl))⟩
 f15:=Tryz.func190.trans (congrArg some (by kernel_rfl))
 f20:=⟨Tryz.f249.name,by decide,Tryz.func249.trans (congrArg some (by kernel_rfl))⟩
 f21:=⟨Tryz.f250.name,by decide,Tryz.func250.trans (congrArg some (by kernel_rfl))⟩
 f22:=⟨Tryz.f251.name,by decide,Tryz.func251.trans (congrArg some (by kernel_rfl))⟩
 f23:=⟨Tryz.f252.name,by decide,Tryz.func252.trans (congrArg some (by kernel_rfl))⟩
 f24:=⟨Tryz.f253.name,by decide,Tryz.func253.trans (congrArg some (by kernel_rfl))⟩
 f25:=⟨Tryz.f254.name,by decide,Tryz.func254.trans (congrArg some (by kernel_rfl))⟩
 f26:=⟨Tryz.f255.name,by decide,Tryz.func255.trans (congrArg some (by kernel_rfl))⟩
 f27:=⟨Tryz.f256.name,by decide,Tryz.func256.trans (congrArg some (by kernel_rfl))⟩
 f28:=Tryz.func226.trans (congrArg some (by kernel_rfl))
 f29:=Tryz.func227.trans (congrArg some (by kernel_rfl))
 f46:=⟨Tryz.f265.name,by decide,Tryz.func265.trans (congrArg some (by kernel_rfl))⟩
 f47:=Tryz.func242.trans (congrArg some (by kernel_rfl))
 f48:=Tryz.func243.trans (congrArg some (by kernel_rfl))
 f49:=⟨Tryz.f266.name,by decide,Tryz.func266.trans (congrArg some (by kernel_rfl))⟩
 f50:=⟨Tryz.f267.name,by decide,Tryz.func267.trans (congrArg some (by kernel_rfl))⟩
 f57:=⟨Tryz.f273.name,by decide,Tryz.func273.trans (congrArg some (by kernel_rfl))⟩
 t0:=Tryz.underlying0
 a0:=Tryz.isAgg0
 z0:=Tryz.sizeOf0
 v0:=Tryz.zeroValue0
 t3:=Tryz.underlying3
 a3:=Tryz.isAgg3
 z3:=Tryz.sizeOf3
 v3:=Tryz.zeroValue3
 t4:=Tryz.underlying4
 a4:=Tryz.isAgg4
 z4:=Tryz.sizeOf4
 v4:=Tryz.zeroValue4
 t5:=Tryz.underlying5
 a5:=Tryz.isAgg5
 z5:=Tryz.sizeOf5
 v5:=Tryz.zeroValue5
 t9:=Tryz.underlying9
 a9:=Tryz.isAgg9
 z9:=Tryz.sizeOf9
 v9:=Tryz.zeroValue9
 t22:=Tryz.underlying25
 a22:=Tryz.isAgg25
 z22:=Tryz.sizeOf25
 v22:=Tryz.zeroValue25
 t25:=Tryz.underlying192
 a25:=Tryz.isAgg192
 z25:=Tryz.sizeOf192
 v25:=Tryz.zeroValue192
 t39:=Tryz.underlying186
 a39:=Tryz.isAgg186
 z39:=Tryz.sizeOf186
 v39:=Tryz.zeroValue186
 t45:=Tryz.underlying203
 a45:=Tryz.isAgg203
 z45:=Tryz.sizeOf203
 v45:=Tryz.zeroValue203
 t46:=Tryz.underlying204
 a46:=Tryz.isAgg204
 z46:=Tryz.sizeOf204
 v46:=Tryz.zeroValue204
 t50:=Tryz.underlying208
 a50:=Tryz.isAgg208
 z50:=Tryz.sizeOf208
 v50:=Tryz.zeroValue208
 t53:=Tryz.underlying211
 a53:=Tryz.isAgg211
 z53:=Tryz.sizeOf211
 v53:=Tryz.zeroValue211
 t55:=Tryz.underlying213
 a55:=Tryz.isAgg213
 z55:=Tryz.sizeOf213
 v55:=Tryz.zeroValue213
 t66:=Tryz.underlying227
 a66:=Tryz.isAgg227
 z66:=Tryz.sizeOf227
 v66:=Tryz.zeroValue227
 t70:=Tryz.underlying231
 a70:=Tryz.isAgg231
 z70:=Tryz.sizeOf231
 v70:=Tryz.zeroValue231
 t76:=Tryz.underlying242
 a76:=Tryz.isAgg242
 z76:=Tryz.sizeOf242
 v76:=Tryz.zeroValue242
 t77:=Tryz.underlying243
 a77:=Tryz.isAgg243
 z77:=Tryz.sizeOf243
 v77:=Tryz.zeroValue243 }
end Go.Proofs

namespace Go.Proofs.YteheahbjaddooaaGreatDoor
set_option linter.unusedSimpArgs false
set_option linter.unusedVariables false
open Go Go.RowKit
theorem zio {c:UInt8}:∀ {a:Str} (b:Str),c ∉ a→Lib.index (a++c::b) [c]=(a.length:Int)
 | [],b,_=>by simp [Lib.index]
 | x::a,b,h=>by
  simp only [List.mem_cons,not_or] at h
  have ih:=zio (a:=a) b h.2
  rw [List.cons_append,Lib.index,ih]
  have e:[c].isPrefixOf (x::(a++c::b))=false:=by simp [List.isPrefixOf,h.1]
  rw [e]
  simp
theorem zmI {c:UInt8}:∀ (k:Nat) (s:Str),s.count c=k→Lib.splitK [c] 0 k s=cut c s
 | 0,s,h=>by rw [Lib.splitK,zde (List.count_eq_zero.1 h)]
 | k+1,s,h=>by
  have hm:c∈s:=List.count_pos_iff.1 (by omega)
  obtain ⟨a,b,e,ha⟩:=List.eq_append_cons_of_mem hm
  subst e
  have hb:b.count c=k:=by
   rw [List.count_append,List.count_eq_zero.2 ha,List.count_cons_self] at h; omega
  rw [Lib.splitK,zio b ha,if_neg (by simp),zda b ha]
  have e1:((a.length:Int).toNat+0)=a.length:=by simp
  have e2:((a.length:Int).toNat+[c].length)=a.length+1:=by simp
  rw [e1,e2,List.take_left,List.drop_append,List.drop_of_length_le (by omega)]
  have e3:a.length+1 - a.length=1:=by omega
  rw [e3]
  simp only [List.drop_succ_cons,List.drop_zero,List.nil_append]
  rw [zmI k b hb]
theorem zdc (c:UInt8):∀ (s:Str),∀ n∈cut c s,n.length≤s.length
 | [],n,h=>by simp [cut] at h; simp [h]
 | b::t,n,h=>by
  have ih:=zdc c t
  unfold cut at h
  split at h
  ·rcases List.mem_cons.1 h with rfl | h
   ·simp
   ·have:=ih n h; simp; omega
  ·split at h
   ·simp at h; subst h; simp
   ·rename_i x r hc
    rw [hc] at ih
    rcases List.mem_cons.1 h with rfl | h
    ·have:=ih x (by simp); simp; omega
    ·have:=ih n (by simp [h]); simp; omega
def HM (W0:World):Prop:=∃ m,W0.cell? ⟨0,0,none⟩=some (.int .i64 m)
theorem zee (W0:World) (hM:HM W0) (s:Str) (hs:s.length≤1000000):Fn Tryz.prog W0 182 [CS s,CS [47]] (.c (eStrs (cut 47 s))) []:=by
 intro κ w vs hB hm hr
 obtain ⟨v1,v2,hvs⟩:∃ v1 v2,vs.toList=[v1,v2]:=by
  have:=All2.length hr
  match h:vs.toList with
  | [a,b]=>exact ⟨a,b,rfl⟩
  | [] | [_] | _::_::_::_=>rw [h] at this; simp at this
 rw [hvs] at hr
 obtain ⟨r1,r2,_⟩:=hr
 cases r1 with | sc _=>?_
 cases r2 with | sc _=>?_
 have hv:vs=#[.string ⟨⟨s⟩⟩,.string ⟨⟨[47]⟩⟩]:=by rw [← hvs]
 subst hv
 obtain ⟨m,hc⟩:=hM
 have hc':w.cell? ⟨0,0,none⟩=some (.int .i64 m):=by
  rw [zr (hB.block 0 (zs hc))]; exact hc
 refine (Tryz.strings_Split ⟨⟨s⟩⟩ ⟨⟨[47]⟩⟩ m w (by show s.length < _; omega) hc' (by decide)).mono ?_
 rintro e w' ⟨rfl,rfl⟩
 have hcount:Lib.countB ⟨⟨s⟩⟩ ⟨⟨[47]⟩⟩=s.count 47:=Lib.count_one 47 s
 have hsp:(Lib.splitB ⟨⟨[47]⟩⟩ 0 (Lib.countB ⟨⟨s⟩⟩ ⟨⟨[47]⟩⟩) ⟨⟨s⟩⟩).map (·.data.toList)=cut 47 s:=by
  rw [Lib.splitB_data,hcount]; exact zmI _ s rfl
 generalize hL:Lib.splitB ⟨⟨[47]⟩⟩ 0 (Lib.countB ⟨⟨s⟩⟩ ⟨⟨[47]⟩⟩) ⟨⟨s⟩⟩=L at hsp
 have hlen:L.length=Lib.countB ⟨⟨s⟩⟩ ⟨⟨[47]⟩⟩+1:=by rw [← hL]; exact Lib.splitB_all _ (by decide) 0 _ _ rfl
 have hn:L.length=(cut 47 s).length:=by rw [← hsp,List.length_map]
 have hle:s.count 47≤s.length:=List.count_le_length
 refine ⟨_,_,[],κ,rfl,⟨rfl,rfl⟩,hm.below (zn w _),?_⟩
 rw [← hlen,hn]
 have hrow:(eStrs (cut 47 s)) = .row ((cut 47 s).map CS):=rfl
 have hcells:((cut 47 s).map CS).flatMap CV.cells=(cut 47 s).map CS:=by
  generalize cut 47 s=l
  induction l with
  | nil=>rfl
  | cons a l ih=>rw [List.map_cons,List.flatMap_cons,ih]; rfl
 have key:RepC (w.alloc (.cells (L.map Value.string).toArray 9)) (Live κ []) (.row ((cut 47 s).map CS)) (.slice (some ⟨w.heap.size,0,none⟩) ((cut 47 s).map CS).length (cut 47 s).length):=by
  refine .row (sz:=1) (vs:=L.map Value.string) (by simp; exact zdd 47 s) (by omega) (by simp) (by rw [← hn,hlen,hcount]; unfold maxLen; omega) ?_ ?_ ?_ ?_ ?_ ?_
  ·intro h
   have:=hm.mem.live_lt h
   omega
  ·intro x hx
   obtain ⟨a,_,rfl⟩:=List.mem_map.1 hx
   rfl
  ·rw [hcells]; simp [hn]
  ·intro i x v hx hv
   rw [hcells,← hsp,List.map_map,List.getElem?_map] at hx
   rw [List.getElem?_map] at hv
   cases hi:L[i]? with
   | none=>rw [hi] at hx; cases hx
   | some y =>
    rw [hi] at hx hv
    cases hx; cases hv
    refine .sc ?_
    have hmem:y.data.toList∈cut 47 s:=by rw [← hsp]; exact List.mem_map_of_mem (List.mem_of_getElem? hi)
    have:=zdc 47 s _ hmem
    show y.size≤maxLen
    have e:y.size=y.data.toList.length:=by cases y; rfl
    rw [e]; unfold maxLen; omega
  ·intro v hv
   obtain ⟨a,_,rfl⟩:=List.mem_map.1 hv
   rfl
  ·intro j v hj
   rw [zu (qd w rfl _)]
   simpa using hj
 rw [List.length_map] at key
 exact key
theorem zlm {w:World} {S:Nat→Prop} {l:List Str} {v:Value} (h:RepC w S (eStrs l) v):(l=[]∧∃ o cap,v = .slice o 0 cap) ∨
  ∃ b off cap,v = .slice (some ⟨b,off,none⟩) l.length cap∧l.length≤cap∧l≠[]∧∀ (j:Nat) (x:Str),l[j]? = some x→w.cell? ⟨b,off+j,none⟩=some (.string ⟨⟨x⟩⟩):=by
 unfold eStrs at h
 generalize hL:l.map CS=L at h
 cases h with
 | nil _=>left; refine ⟨?_,_,_,rfl⟩; simpa using hL
 | @row L b off cap sz vs hne _ hcap _ _ hsz hlen hr _ hc =>
  right
  subst hL
  have hcells:(l.map CS).flatMap CV.cells=l.map CS:=by
   generalize l=l
   induction l with
   | nil=>rfl
   | cons a l ih=>rw [List.map_cons,List.flatMap_cons,ih]; rfl
  refine ⟨b,off,cap,by simp,by simpa using hcap,by simpa using hne,fun j x hx=>?_⟩
  rw [hcells] at hlen hr
  have hx':(l.map CS)[j]? = some (CS x):=by rw [List.getElem?_map,hx]; rfl
  have hj:j < vs.length:=by
   rw [← hlen,List.length_map]
   exact (List.getElem?_eq_some_iff.1 hx).1
  have hv:=hr j _ vs[j] hx' (List.getElem?_eq_getElem hj)
  have:vs[j] = .string ⟨⟨x⟩⟩:=by
   generalize vs[j]=v at hv
   cases hv; rfl
  rw [hc j _ (List.getElem?_eq_getElem hj),this]
def joinS (l:List Str):Str:=Lib.join l [47]
theorem ziv:∀ {l:List Str},l≠[]→jn l=47::joinS l
 | [],h=>absurd rfl h
 | x::r,_=>by
  unfold joinS
  rw [Lib.join_cons]
  have:Lib.joinTail [47] r=jn r:=by
   unfold Lib.joinTail jn
   rw [List.flatMap_def]; rfl
  rw [this]; rfl
theorem ziw {l:List Str}:(joinS l).length≤(jn l).length:=by
 cases l with
 | nil=>simp [joinS,Lib.join_nil]
 | cons x r=>rw [ziv (by simp)]; simp
theorem zeb (W0:World) (l:List Str) (hl:(jn l).length≤1000000):Fn Tryz.prog W0 195 [eStrs l,CS [47]] (.c (CS (joinS l))) []:=by
 intro κ w vs hB hm hr
 obtain ⟨v1,v2,hvs⟩:∃ v1 v2,vs.toList=[v1,v2]:=by
  have:=All2.length hr
  match h:vs.toList with
  | [a,b]=>exact ⟨a,b,rfl⟩
  | [] | [_] | _::_::_::_=>rw [h] at this; simp at this
 rw [hvs] at hr
 obtain ⟨r1,r2,_⟩:=hr
 cases r2 with | sc _=>?_
 have hll:l.length≤(jn l).length:=by
  clear r1 hl hvs
  induction l with
  | nil=>simp
  | cons a l ih=>simp [jn] at ih ⊢; omega
 have fin:∀ r:Str,r.length≤1000000→Rep κ [] w (.c (CS r)) (.string ⟨⟨r⟩⟩):=fun r h=>RepC.sc (by show ByteArray.size _≤maxLen; unfold maxLen; show r.length≤_; omega)
 rcases zlm r1 with ⟨rfl,o,cap,rfl⟩ | ⟨b,off,cap,rfl,hcap,hne,hcells⟩
 ·have hv:vs=#[.slice o 0 cap,.string ⟨⟨[47]⟩⟩]:=by rw [← hvs]
  subst hv
  refine (Tryz.strings_Join_none o cap ⟨⟨[47]⟩⟩ w).mono ?_
  rintro e w' ⟨rfl,rfl⟩
  exact ⟨_,_,[],κ,rfl,⟨rfl,rfl⟩,hm,fin [] (by simp)⟩
 ·have hv:vs=#[.slice (some ⟨b,off,none⟩) l.length cap,.string ⟨⟨[47]⟩⟩]:=by rw [← hvs]
  subst hv
  have hbk:b < w.heap.size:=by
   cases l with
   | nil=>exact absurd rfl hne
   | cons x r=>exact zs (hcells 0 x rfl)
  have hmap:(l.map fun x=>(⟨⟨x⟩⟩:ByteArray)).map (·.data.toList)=l:=by rw [List.map_map]; exact List.map_id l
  have hj:(Lib.join ((l.map fun x=>(⟨⟨x⟩⟩:ByteArray)).map (·.data.toList)) (⟨⟨[47]⟩⟩:ByteArray).data.toList)=joinS l:=by rw [hmap]; rfl
  have hjl:=ziw (l:=l)
  have h:=Tryz.strings_Join b off cap (l.map fun x=>⟨⟨x⟩⟩) ⟨⟨[47]⟩⟩ w (fun j x hx=>by
   rw [List.getElem?_map] at hx
   cases hi:l[j]? with
   | none=>rw [hi] at hx; cases hx
   | some y=>rw [hi] at hx; cases hx; exact hcells j y hi) hbk (by simp; omega) (by simpa using hcap) (by rw [hj]; omega)
  rw [hj,List.length_map] at h
  refine h.mono ?_
  rintro e w' ⟨rfl,hw⟩
  exact ⟨_,_,[],κ,rfl,⟨rfl,rfl⟩,hm.below hw,RepC.sc (by show ByteArray.size _≤maxLen; unfold maxLen; show (joinS l).length≤_; omega)⟩
end Go.Proofs.YteheahbjaddooaaGreatDoor

namespace Go.Proofs.YteheahbjaddooaaGreatDoor
set_option linter.unusedSimpArgs false
set_option linter.unusedVariables false
open Go Go.RowKit
def QC:XC:=(.s (.r [.m1 2 .n]) (.s (.s (.r [.mv 4 0,.ex 5 (.len true 4),.b1 6 .lss 5 (.i 1),.mv 7 6,.gf 8 (.mv 0) 7,.gf 9 (.len true 8) 7,.gf 10 (.bin .gtr 9 (.i 3)) 7,.ex 11 (.pick 7 .y 10)]) (.cnd 11 (.s (.r [.m1 2 .n]) .ret) .skip)) (.s (.s (.r [.m1 3 (.i 0)]) (.blk 0 (.loop (.s (.s (.r [.mv 12 3,.mv 13 0,.ex 14 (.len true 13),.b1 15 .lss 12 14]) (.cnd 15 .skip (.exit 0))) (.s (.blk 1 (.s (.r [.mv 18 0,.mv 19 3,.ex 20 (.idx 18 19),.b1 21 .lss 20 (.u 97),.mv 22 21,.gf 23 (.mv 0) 22,.gf 24 (.mv 3) 22,.gf 25 (.idx 23 24) 22,.gf 26 (.bin .gtr 25 (.u 122)) 22,.ex 27 (.pick 22 .y 26)]) (.cnd 27 (.s (.r [.m1 2 .n]) .ret) .skip))) (.r [.mv 16 3,.b1 17 .add 16 (.i 1),.mv 3 17])))))) (.s (.r [.m1 2 .y]) .ret))))
theorem QD:compF Tryz.prog [] 183=some (QC.ac,[(.t 2)],28):=by kernel_rfl
theorem zfU (W0:World) (s:Str):Fn Tryz.prog W0 183 [CS s] (.c (CB (nameOk s))) []:=by
 refine fnX (c:=QC) mixed QD (by simp) rfl fun hg=>?_
 refine dr ?_
 refine cP ?_ ?_<;>intro h1
 ·refine dr ?_
  exact bF (by rw [nameOk]; simp; omega)
 refine dr ?_
 refine cP ?_ ?_<;>intro h2
 ·refine dr ?_
  exact bF (by rw [nameOk]; simp; omega)
 refine dr ?_
 refine lp (σ:=Nat) (fun k=>[(0,.c (CS s)),(3,I k)]) (fun _=>[]) (fun k=>k≤s.length∧(s.take k).all lower=true) (fun k=>s.length - k) 0 ⟨by simp,by simp⟩ ?_ ?_
 ·refine dr ?_
  trivial
 rintro k ⟨hk,ha⟩
 refine dr ?_
 refine cP ?_ ?_<;>intro h3
 ·have hk':k < s.length:=by omega
  have no:lower s[k]=false→CB false=CB (nameOk s):=fun h=>bF (by rw [nameOk,zh hk' h]; rfl)
  refine dr ?_
  refine cP ?_ ?_<;>intro h4
  ·refine dr ?_
   exact no (by simp [lower]; omega)
  ·refine dr ?_
   refine cP ?_ ?_<;>intro h5
   ·refine dr ?_
    exact no (by simp [lower]; omega)
   ·refine dr ?_
    refine ⟨k+1,⟨by omega,y3 hk' ha (by simp [lower]; omega)⟩,by omega,?_⟩
    refine dr ?_
    trivial
 ·have:k=s.length:=by omega
  subst this
  rw [List.take_length] at ha
  refine dr ?_
  exact bT (by rw [nameOk,ha]; simp; omega)
def eNames (s:Str):CV:=if pOk s=true then .tup [eStrs (names s),CB true] else .tup [eStrs [],CB false]
def QK:XC:=(.s (.r [.ex 2 (.asn (.k .nil) 1 9),.m1 3 .n]) (.s (.s (.r [.mv 7 0,.ex 8 (.bin .eql 7 (.s [])),.mv 9 8,.gf 10 (.mv 0) 9,.gf 11 (.idx 10 (.i 0)) 9,.gf 12 (.bin .neq 11 (.u 47)) 9,.ex 13 (.pick 9 .y 12),.mv 14 13,.gf 15 (.mv 0) 14,.gf 16 (.len true 15) 14,.gf 17 (.bin .gtr 16 (.i 12)) 14,.ex 18 (.pick 14 .y 17)]) (.cnd 18 (.s (.r [.ex 2 (.asn (.k .nil) 1 9),.m1 3 .n]) .ret) .skip)) (.s (.r [.mv 19 0,.ex 20 (.sls 19 (.some (.i 1)) .none),.ex 21 (.call 182 [20,(.s [47])]),.a1 4 21 1 9]) (.s (.s (.r [.mv 22 4,.n1 23 22,.b1 24 .gtr 23 (.i 3)]) (.cnd 24 (.s (.r [.ex 2 (.asn (.k .nil) 1 9),.m1 3 .n]) .ret) .skip)) (.s (.s (.r [.mv 25 4,.n1 26 25,.m1 27 (.i 0)]) (.blk 0 (.loop (.s (.r [.b1 28 .lss 27 26]) (.s (.cnd 28 .skip (.exit 0)) (.s (.blk 1 (.s (.r [.i1 29 1 25 27,.l1 30 1 29,.mv 6 30]) (.s (.r [.mv 31 6,.c1 32 183 [31],.ex 33 (.un .not 32)]) (.cnd 33 (.s (.r [.ex 2 (.asn (.k .nil) 1 9),.m1 3 .n]) .ret) .skip)))) (.r [.b1 34 .add 27 (.i 1),.mv 27 34]))))))) (.s (.r [.mv 35 4,.a1 2 35 1 9,.m1 3 .y]) .ret))))))
theorem QL:compF Tryz.prog [] 127=some (QK.ac,[(.t 2),(.t 3)],36):=by kernel_rfl
theorem zfY (W0:World) (hM:HM W0) (s:Str):Fn Tryz.prog W0 127 [CS s] (.c (eNames s)) []:=by
 refine fnX (c:=QK) mixed QL (by simp) rfl fun hg=>?_
 have no:pOk s=false→CV.tup [eStrs [],CB false]=eNames s:=fun h=>by rw [eNames,if_neg (by simp [h])]
 refine dr ?_
 refine cP ?_ ?_<;>intro h1
 ·refine dr ?_
  exact no (by rw [h1]; rfl)
 cases hs:s with
 | nil=>exact absurd hs h1
 | cons b t =>
  rw [← hs]
  have hl:1≤s.length:=by rw [hs]; simp
  refine dr ?_
  refine cP ?_ ?_<;>intro h2
  ·refine dr ?_
   have:s.head? ≠ some 47:=by
    rw [hs]
    intro e
    have:b=47:=by simpa using e
    subst hs; subst this
    exact h2 rfl
   exact no (by
    cases hp:pOk s with
    | false=>rfl
    | true=>exact absurd (yr hp).2.2 this)
  have hb:b=47:=by
   have:(s[0]).toNat=47:=by omega
   subst hs
   exact UInt8.toNat_inj.1 this
  refine dr ?_
  refine cP ?_ ?_<;>intro h3
  ·refine dr ?_
   exact no (by
    cases hp:pOk s with
    | false=>rfl
    | true=>have:=(yr hp).2.1; omega)
  refine dr ?_
  repeat ((first | refine sLo 1 rfl (by omega) ?_ | refine c0 (zee W0 hM _ (by simp; omega)) rfl ?_); first | refine dr ?_ | exact dz)
  intro hg1
  have hd:s.drop 1=t:=by rw [hs]; rfl
  rw [hd] at hg1 ⊢
  have hp:pOk s=((cut 47 t).all nameOk&&((cut 47 t).length≤3)):=by
   have hne:=zdd 47 t
   have h1c:1≤(cut 47 t).length:=by
    cases hc:cut 47 t with
    | nil=>exact absurd hc hne
    | cons _ _=>simp
   rw [pOk]
   by_cases h2:s.length < 2
   ·have ht:t=[]:=by
     rw [hs] at h2
     cases t with
     | nil=>rfl
     | cons _ _=>simp at h2; omega
    have:names s=[]:=by rw [names,if_pos (.inl h2)]
    rw [this,ht]; simp [cut,nameOk]
   ·have:names s=cut 47 t:=by
     rw [names,if_neg (by rw [hs] at h2 ⊢; simp at h2 ⊢; exact ⟨h2,hb⟩),hs]; rfl
    rw [this,Bool.eq_iff_iff]; simp [h1c,show s.length≤12 by omega]
  have hn:pOk s=true→names s=cut 47 t:=fun h=>by
   have h2:=(yr h)
   rw [names,if_neg (by simp [h2.2.2]; omega),hs]; rfl
  generalize cut 47 t=l at *
  refine dr ?_
  refine cP ?_ ?_<;>intro h4
  ·refine dr ?_
   exact no (by rw [hp]; simp; omega)
  refine dr ?_
  refine lp (σ:=Nat) (fun k=>[(4,.c (eStrs l)),(25,.c (eStrs l)),(26,I l.length),(27,I k)]) (fun _=>[]) (fun k=>k≤l.length∧(l.take k).all nameOk=true) (fun k=>l.length - k) 0 ⟨by simp,by simp⟩ ?_ ?_
  ·refine dr ?_
   trivial
  rintro k ⟨hk,ha⟩
  refine dr ?_
  refine cP ?_ ?_<;>intro h5
  ·have hk':k < l.length:=by omega
   refine dEr ?_
   repeat (refine c0 (zfU W0 _) rfl ?_; first | refine dEr ?_ | exact dz)
   refine cP ?_ ?_<;>intro h6
   ·refine dr ?_
    exact no (by rw [hp,zh hk' h6]; rfl)
   ·refine dr ?_
    refine ⟨k+1,⟨by omega,y3 hk' ha h6⟩,by omega,?_⟩
    refine dr ?_
    trivial
  ·have:k=l.length:=by omega
   subst this
   rw [List.take_length] at ha
   have hy:pOk s=true:=by rw [hp,ha]; simp; omega
   refine dr ?_
   rw [eNames,if_pos hy,hn hy]
def JK:XC:=(.s (.r [.m1 2 .n]) (.s (.r [.mv 6 0,.c1 7 127 [6],.mv 5 7,.e1 8 5 0,.e1 9 5 1,.a1 3 8 1 9,.mv 4 9]) (.s (.r [.mv 10 4,.mv 2 10]) .ret)))
theorem JL:compF Tryz.prog [] 79=some (JK.ac,[(.t 2)],11):=by kernel_rfl
theorem ji (W0:World) (hM:HM W0) (s:Str):Fn Tryz.prog W0 79 [CS s] (.c (CB (pOk s))) []:=by
 refine fnX (c:=JK) mixed JL (by simp) rfl fun hg=>?_
 have hc:=zfY W0 hM s
 unfold eNames at hc
 cases hp:pOk s with
 | true =>
  rw [if_pos hp] at hc
  refine dr ?_
  repeat (refine c0 hc rfl ?_; first | refine dr ?_ | exact dz)
  intro hg1
  exact dz
 | false =>
  rw [if_neg (by simp [hp])] at hc
  refine dr ?_
  repeat (refine c0 hc rfl ?_; first | refine dr ?_ | exact dz)
  intro hg1
  exact dz
def JO:XC:=(.s (.r [.ex 2 (.mv (.s []))]) (.s (.r [.mv 6 0,.c1 7 127 [6],.mv 5 7,.e1 8 5 0,.e1 9 5 1,.a1 3 8 1 9,.mv 4 9]) (.s (.s (.r [.mv 10 4,.ex 11 (.un .not 10)]) (.cnd 11 (.s (.r [.ex 2 (.mv (.s []))]) .ret) .skip)) (.s (.r [.mv 12 3,.mv 13 3,.n1 14 13,.b1 15 .sub 14 (.i 1),.ex 16 (.slr 1 12 .none (.some 15)),.ex 17 (.call 195 [16,(.s [47])]),.ex 18 (.bin .add (.s [47]) 17),.mv 2 18]) .ret))))
theorem JP:compF Tryz.prog [] 159=some (JO.ac,[(.t 2)],19):=by kernel_rfl
theorem jk (W0:World) (hM:HM W0) (s:Str):Fn Tryz.prog W0 159 [CS s] (.c (CS (pUp s))) []:=by
 refine fnX (c:=JO) mixed JP (by simp) rfl fun hg=>?_
 have hc:=zfY W0 hM s
 unfold eNames at hc
 cases hp:pOk s with
 | true =>
  rw [if_pos hp] at hc
  obtain ⟨⟨h1,h2⟩,h3,h4⟩:=yt hp
  have h12:=(yr hp).2.1
  have hj:(jn ((names s).take ((names s).length - 1))).length≤12:=by
   have:jn (names s)=jn ((names s).take ((names s).length - 1))++jn ((names s).drop ((names s).length - 1)):=by rw [← zip,List.take_append_drop]
   have e:=congrArg List.length this
   rw [← h4,List.length_append] at e
   omega
  have hjl:=ziw (l:=(names s).take ((names s).length - 1))
  refine dr ?_
  repeat (refine c0 hc rfl ?_; first | refine dr ?_ | exact dz)
  intro hg1
  refine dr ?_
  repeat ((first | refine sHiM ((names s).length - 1) (by omega) (by omega) ?_ | refine c0 (zeb W0 ((names s).take ((names s).length - 1)) (by omega)) rfl ?_ | refine oB (by simp; omega) ?_); first | refine dr ?_ | exact dz)
  intro hg2
  refine dr ?_
  rw [pUp,if_pos hp]
  have hdl:(names s).take ((names s).length - 1)=(names s).dropLast:=by rw [List.dropLast_eq_take]
  rw [hdl]
  by_cases hn:(names s).length=1
  ·have:(names s).dropLast=[]:=by
    rw [← List.length_eq_zero_iff,List.length_dropLast]; omega
   rw [if_pos hn,this]; rfl
  ·have:(names s).dropLast≠[]:=by
    intro e; have:=congrArg List.length e; rw [List.length_dropLast] at this; simp at this; omega
   rw [if_neg hn,ziv this]; rfl
 | false =>
  rw [if_neg (by simp [hp])] at hc
  refine dr ?_
  repeat (refine c0 hc rfl ?_; first | refine dr ?_ | exact dz)
  intro hg1
  refine dr ?_
  rw [pUp,if_neg (by simp [hp])]
def Q2:XC:=(.s (.r [.m1 4 .n]) (.s (.r [.mv 5 0,.ex 6 (.len true 5),.mv 7 1,.ex 8 (.len true 7),.b1 9 .geq 6 8,.mv 10 9,.gt 11 (.mv 0) 10,.gt 12 (.mv 1) 10,.gt 13 (.len true 12) 10,.gt 14 (.sls 11 .none (.some 13)) 10,.gt 15 (.mv 1) 10,.gt 16 (.bin .eql 14 15) 10,.ex 17 (.pick 10 16 .n),.mv 4 17]) .ret))
theorem Q3:compF Tryz.prog [] 217=some (Q2.ac,[(.t 4)],18):=by kernel_rfl
theorem zf2 (W0:World) (s p:Str):Fn Tryz.prog W0 217 [CS s,CS p] (.c (CB (p.isPrefixOf s))) []:=by
 refine fnX (c:=Q2) mixed Q3 (by simp) rfl fun hg=>?_
 refine dr ?_
 refine cP ?_ ?_<;>intro h1
 ·refine dr ?_
  repeat (refine sHi p.length rfl (by omega) ?_; first | refine dr ?_ | exact dz)
  refine congrArg CB ?_
  rw [Bool.eq_iff_iff,List.isPrefixOf_iff_prefix,List.prefix_iff_eq_take]
  simp [zV]
  exact eq_comm
 ·refine dr ?_
  refine bF ?_
  rw [Bool.eq_false_iff]; intro h
  have:=(List.isPrefixOf_iff_prefix.1 h).length_le
  omega
def zcy:XC:=(.s (.r [.m1 4 .n]) (.s (.r [.mv 5 0,.mv 6 1,.c1 7 217 [5,6],.mv 4 7]) .ret))
theorem zcz:compF Tryz.prog [] 188=some (zcy.ac,[(.t 4)],8):=by kernel_rfl
theorem zd8 (W0:World) (s p:Str):Fn Tryz.prog W0 188 [CS s,CS p] (.c (CB (p.isPrefixOf s))) []:=by
 refine fnX (c:=zcy) mixed zcz (by simp) rfl fun hg=>?_
 refine dEr ?_
 repeat (refine c0 (zf2 W0 _ _) rfl ?_; first | refine dEr ?_ | exact dz)
def JM:XC:=(.s (.r [.m1 4 .n]) (.s (.s (.r [.mv 5 0,.c1 6 79 [5],.ex 7 (.un .not 6)]) (.cnd 7 (.s (.r [.m1 4 .n]) .ret) .skip)) (.s (.s (.r [.mv 8 1,.ex 9 (.bin .eql 8 (.s [47]))]) (.cnd 9 (.s (.r [.m1 4 .y]) .ret) .skip)) (.s (.r [.mv 10 1,.c1 11 79 [10],.mv 12 11,.gt 13 (.mv 0) 12,.gt 14 (.mv 1) 12,.gt 15 (.bin .add 14 (.s [47])) 12,.gt 16 (.call 188 [13,15]) 12,.ex 17 (.pick 12 16 .n),.mv 4 17]) .ret))))
theorem JN:compF Tryz.prog [] 145=some (JM.ac,[(.t 4)],18):=by kernel_rfl
def und2 (s d:Str):Bool:=pOk s&&(d==[47]||(pOk d&&(d++[47]).isPrefixOf s))
theorem y9 {s d:Str} (hs:pOk s=true) (hd:pOk d=true):und2 s d=und s d:=by
 unfold und2 und; rw [hs,hd]; simp
theorem jj (W0:World) (hM:HM W0) (s d:Str):Fn Tryz.prog W0 145 [CS s,CS d] (.c (CB (und2 s d))) []:=by
 refine fnX (c:=JM) mixed JN (by simp) rfl fun hg=>?_
 refine dEr ?_
 repeat (refine c0 (ji W0 hM s) rfl ?_; first | refine dEr ?_ | exact dz)
 refine cP ?_ ?_<;>intro h1
 ·refine dr ?_
  exact bF (by simp [und2,h1])
 refine dr ?_
 refine cP ?_ ?_<;>intro h2
 ·refine dr ?_
  exact bT (by simp [und2,h1,h2])
 refine dEr ?_
 repeat (refine c0 (ji W0 hM d) rfl ?_; first | refine dEr ?_ | exact dz)
 refine cP ?_ ?_<;>intro h3
 ·have hl:=(yr h3).2.1
  refine dEr ?_
  repeat ((first | refine c0 (zd8 W0 _ _) rfl ?_ | refine oB (by simp; omega) ?_); first | refine dEr ?_ | exact dz)
  refine congrArg CB ?_
  rw [Bool.eq_iff_iff]; simp [und2,h1,h2,h3]
 ·refine dr ?_
  exact bF (by simp [und2,h2,h3])
def Qa:XC:=(.s (.r [.m1 2 .n]) (.s (.s (.r [.mv 6 0,.ex 7 (.len true 6),.b1 8 .gtr 7 (.i 6)]) (.cnd 8 (.s (.r [.m1 2 .n]) .ret) .skip)) (.s (.s (.r [.m1 3 (.i 0)]) (.blk 0 (.loop (.s (.s (.r [.mv 9 3,.mv 10 0,.ex 11 (.len true 10),.b1 12 .lss 9 11]) (.cnd 12 .skip (.exit 0))) (.s (.blk 1 (.s (.r [.mv 15 0,.mv 16 3,.ex 17 (.idx 15 16),.b1 18 .geq 17 (.u 97),.mv 19 18,.gt 20 (.mv 0) 19,.gt 21 (.mv 3) 19,.gt 22 (.idx 20 21) 19,.gt 23 (.bin .leq 22 (.u 122)) 19,.ex 24 (.pick 19 23 .n),.mv 4 24]) (.s (.r [.mv 25 0,.mv 26 3,.ex 27 (.idx 25 26),.b1 28 .geq 27 (.u 48),.mv 29 28,.gt 30 (.mv 0) 29,.gt 31 (.mv 3) 29,.gt 32 (.idx 30 31) 29,.gt 33 (.bin .leq 32 (.u 57)) 29,.ex 34 (.pick 29 33 .n),.mv 5 34]) (.s (.r [.mv 35 4,.ex 36 (.un .not 35),.mv 37 36,.gt 38 (.mv 5) 37,.gt 39 (.un .not 38) 37,.ex 40 (.pick 37 39 .n)]) (.cnd 40 (.s (.r [.m1 2 .n]) .ret) .skip))))) (.r [.mv 13 3,.b1 14 .add 13 (.i 1),.mv 3 14])))))) (.s (.r [.m1 2 .y]) .ret))))
theorem Qb:compF Tryz.prog [] 100=some (Qa.ac,[(.t 2)],41):=by kernel_rfl
theorem zej (W0:World) (s:Str):Fn Tryz.prog W0 100 [CS s] (.c (CB (dataOk s))) []:=by
 refine fnX (c:=Qa) mixed Qb (by simp) rfl fun hg=>?_
 refine dr ?_
 refine cP ?_ ?_<;>intro h1
 ·refine dr ?_
  exact bF (by rw [dataOk]; simp; omega)
 refine dr ?_
 refine lp (σ:=Nat) (fun k=>[(0,.c (CS s)),(3,I k)]) (fun _=>[]) (fun k=>k≤s.length∧(s.take k).all alnum=true) (fun k=>s.length - k) 0 ⟨by simp,by simp⟩ ?_ ?_
 ·refine dr ?_
  trivial
 rintro k ⟨hk,ha⟩
 refine dr ?_
 refine cP ?_ ?_<;>intro h2
 ·have hk':k < s.length:=by omega
  have no:alnum s[k]=false→CB false=CB (dataOk s):=fun h=>bF (by rw [dataOk,zh hk' h]; rfl)
  have nx:alnum s[k]=true→∃ x',(x'≤s.length∧(s.take x').all alnum=true)∧x'=k+1:=fun h=>⟨k+1,⟨by omega,y3 hk' ha h⟩,rfl⟩
  refine dr ?_
  refine cP ?_ ?_<;>intro h3
  ·refine dr ?_
   refine cP ?_ ?_<;>intro h4
   ·refine dr ?_
    refine cP ?_ ?_<;>intro h5
    ·refine dr ?_
     refine cP ?_ ?_<;>intro h6
     ·refine dr ?_
      exact no (by simp [alnum,lower]; omega)
     ·omega
    ·refine dr ?_
     refine ⟨k+1,⟨by omega,y3 hk' ha (by simp [alnum,lower]; omega)⟩,by omega,?_⟩
     refine dr ?_
     trivial
   ·omega
  ·refine dr ?_
   refine cP ?_ ?_<;>intro h4
   ·refine dr ?_
    refine cP ?_ ?_<;>intro h6
    ·refine dr ?_
     exact no (by simp [alnum,lower]; omega)
    ·refine dr ?_
     refine ⟨k+1,⟨by omega,y3 hk' ha (by simp [alnum,lower]; omega)⟩,by omega,?_⟩
     refine dr ?_
     trivial
   ·refine dr ?_
    exact no (by simp [alnum,lower]; omega)
 ·have:k=s.length:=by omega
  subst this
  rw [List.take_length] at ha
  refine dr ?_
  exact bT (by rw [dataOk,ha]; simp; omega)
end Go.Proofs.YteheahbjaddooaaGreatDoor

namespace Go.Proofs.YteheahbjaddooaaGreatDoor
set_option linter.unusedSimpArgs false
set_option linter.unusedVariables false
open Go Go.RowKit
theorem cmpNaN (x:ByteArray) (W:World):Calls Tryz.prog 191 #[.string x] W fun e w'=>e = .returned (.bool false)∧w'=W:=by
 go_enter Tryz.func191,Tryz.ntmps191
 go_wp2
 go_ret
 exact ⟨rfl,rfl⟩
def cmpS (a b:Str):Int:=if ltS a b=true then -1 else if ltS b a=true then 1 else 0
theorem cmpCompare (x y:Str) (W:World):Calls Tryz.prog 148 #[.string ⟨⟨x⟩⟩,.string ⟨⟨y⟩⟩] W fun e w'=>e = .returned (.int .i64 (cmpS x y))∧w'=W:=by
 go_enter Tryz.func148,Tryz.ntmps148
 go_wp2_with (go_at_call 191; refine (cmpNaN _ _).mono ?_; rintro e w' ⟨rfl,rfl⟩)
 ·have h:Op.bytesLess x y=true:=by assumption
  go_ret
  refine ⟨?_,rfl⟩
  rw [cmpS,qN,if_pos h]; rfl
 ·have h:Op.bytesLess x y=false:=by assumption
  have h2:(!x==y)=true:=by assumption
  go_ret
  refine ⟨?_,rfl⟩
  have h3:ltS y x=true:=by
   rcases zjg x y with e | e | e
   ·subst e; simp at h2
   ·rw [qN,h] at e; cases e
   ·exact e
  rw [cmpS,qN,if_neg (by simp [h]),if_pos h3]; rfl
 ·have h:Op.bytesLess x y=false:=by assumption
  have h2:(!x==y)=false:=by assumption
  go_ret
  refine ⟨?_,rfl⟩
  have e:x=y:=by simpa using h2
  subst e
  rw [cmpS,qP]; rfl
theorem zc1 (a b:Str):decide (cmpS a b < 0)=ltS a b:=by
 unfold cmpS
 cases h:ltS a b with
 | true=>simp
 | false =>
  cases h2:ltS b a with
  | true=>simp
  | false=>simp
def vEnt (x:Ent):List Value:=[.string ⟨⟨x.path⟩⟩,(.bool x.dir),.string ⟨⟨x.data⟩⟩]
theorem zcZ (x y:Ent) (W:World):Calls Tryz.prog 147 #[.agg #[.string ⟨⟨x.path⟩⟩,(.bool x.dir),.string ⟨⟨x.data⟩⟩],.agg #[.string ⟨⟨y.path⟩⟩,(.bool y.dir),.string ⟨⟨y.data⟩⟩]] W fun e w'=>e = .returned (.int .i64 (cmpS x.path y.path))∧∃ q os',w'=Sort.grow (W.drewN q) os':=by
 have hcon:=fun W'=>cmpCompare x.path y.path W'
 generalize cmpS x.path y.path=r at hcon ⊢
 go_enter Tryz.func147,Tryz.ntmps147
 go_wp2_with (go_at_call 148; refine (hcon _).mono ?_; rintro e w' ⟨rfl,rfl⟩)
 go_ret
 exact ⟨rfl,0,_,by rw [Sort.alloc_eq_grow,Sort.alloc_eq_grow,Sort.grow_grow]; rfl⟩
def vMark (x:Mark):List Value:=[.string ⟨⟨x.path⟩⟩,(.int .i64 x.kind),.string ⟨⟨x.data⟩⟩]
theorem zc0 (x y:Mark) (W:World):Calls Tryz.prog 197 #[.agg #[.string ⟨⟨x.path⟩⟩,(.int .i64 x.kind),.string ⟨⟨x.data⟩⟩],.agg #[.string ⟨⟨y.path⟩⟩,(.int .i64 y.kind),.string ⟨⟨y.data⟩⟩]] W fun e w'=>e = .returned (.int .i64 (cmpS x.path y.path))∧∃ q os',w'=Sort.grow (W.drewN q) os':=by
 have hcon:=fun W'=>cmpCompare x.path y.path W'
 generalize cmpS x.path y.path=r at hcon ⊢
 go_enter Tryz.func197,Tryz.ntmps197
 go_wp2_with (go_at_call 148; refine (hcon _).mono ?_; rintro e w' ⟨rfl,rfl⟩)
 go_ret
 exact ⟨rfl,0,_,by rw [Sort.alloc_eq_grow,Sort.alloc_eq_grow,Sort.grow_grow]; rfl⟩
end Go.Proofs.YteheahbjaddooaaGreatDoor

namespace Go.Proofs.YteheahbjaddooaaGreatDoor
set_option linter.unusedSimpArgs false
set_option linter.unusedVariables false
open Go Go.RowKit
theorem zgQ {α:Type} [Inhabited α] {enc:α→List Value} {k:Nat} (hk:∀ x,(enc x).length=k):∀ (l:List α) (t:Nat),t < l.length * k→(l.flatMap enc)[t]! = (enc l[t / k]!)[t % k]!
 | [],t,h=>by simp at h
 | a::r,t,h=>by
  have k0:0 < k:=by
   rcases Nat.eq_zero_or_pos k with h0 | h0
   ·subst h0; simp at h
   ·exact h0
  rw [List.flatMap_cons]
  by_cases ht:t < k
  ·rw [Nat.div_eq_of_lt ht,Nat.mod_eq_of_lt ht]
   have e:(enc a++r.flatMap enc)[t]? = (enc a)[t]? := List.getElem?_append_left (by rw [hk]; exact ht)
   simp only [List.getElem!_eq_getElem?_getD,e]
   simp
  ·have h2:t - k < r.length * k:=by rw [List.length_cons,Nat.add_mul,Nat.one_mul] at h; omega
   have ih:=zgQ hk r (t - k) h2
   have e:(enc a++r.flatMap enc)[t]? = (r.flatMap enc)[t - k]? := by rw [List.getElem?_append_right (by rw [hk]; omega),hk]
   have e1:t / k=(t - k) / k+1:=by
    conv=>lhs; rw [show t=t - k+k by omega]
    exact Nat.add_div_right _ k0
   have e2:t % k=(t - k) % k:=by
    conv=>lhs; rw [show t=t - k+k by omega]
    exact Nat.add_mod_right _ _
   rw [e1,e2]
   simp only [List.getElem!_eq_getElem?_getD] at ih ⊢
   rw [e,ih]; simp
theorem jQ {α:Type} {enc:α→List Value} {k:Nat} (hk:∀ x,(enc x).length=k):∀ (l:List α),(l.flatMap enc).length=l.length * k
 | []=>by simp
 | a::r=>by rw [List.flatMap_cons,List.length_append,jQ hk r,hk,List.length_cons,Nat.add_mul]; omega
theorem zgI {α:Type} [Inhabited α] {enc:α→List Value} {k:Nat} (hk:∀ x,(enc x).length=k) (l:List α):Sort.flatK enc k l.toArray=(l.flatMap enc).toArray:=by
 refine Sort.ext_get! (by simp [jQ hk]) fun t ht=>?_
 have ht':t < l.length * k:=by simpa using ht
 rw [Sort.get_flatK _ _ _ _ (by simpa using ht')]
 have:=zgQ hk l t ht'
 simp only [List.getElem!_eq_getElem?_getD] at this
 simp [this]
theorem zkW {w:World} {b:Nat} {F F' rest:List Value} {e:TypeId} {n:Nat} {os:Array Obj} (hb:w.heap[b]? = some (.cells (F++rest).toArray e (0,0))) (hl:F'.length=F.length) :
  (Sort.grow (Sort.putRow id (Sort.ahead w n) b 0 F'.toArray) os).heap[b]? = some (.cells (F'++rest).toArray e (0,0)):=by
 have hlt:b < w.heap.size:=(Array.getElem?_eq_some_iff.1 hb).1
 unfold Sort.grow
 simp only
 rw [Array.getElem?_append_left (by simpa using hlt)]
 unfold Sort.putRow Sort.mapBlock
 simp only [Sort.heap_ahead,Array.getElem?_modify,if_true,hb,Option.map_some,Sort.onCells]
 congr 2
 unfold Sort.putCells
 apply Array.ext
 ·simp [hl]
 ·intro i h1 h2
  simp only [Array.getElem_mapIdx,List.getElem_toArray]
  simp at h1
  by_cases hi:i < F'.length
  ·rw [if_pos (by simp; omega),List.getElem_append_left hi]
   simp [hi]
  ·rw [if_neg (by simp; omega),List.getElem_append_right (by omega),List.getElem_append_right (by omega)]
   simp only [hl]
theorem zk0 {w:World} {b k:Nat} {F':List Value} {n:Nat} {os:Array Obj} (hk:k < w.heap.size) (hne:b≠k) :
  (Sort.grow (Sort.putRow id (Sort.ahead w n) b 0 F'.toArray) os).heap[k]? = w.heap[k]? := by
 unfold Sort.grow
 simp only
 rw [Array.getElem?_append_left (by simpa using hk)]
 unfold Sort.putRow Sort.mapBlock
 simp [Array.getElem?_modify,hne]
section
variable {κ:Kap} {m:Mem} {w:World} {α:Type} {enc:α→List Value} {f:α→CV}
theorem zld {v u:Value} (h:Rep1 κ m w (.c (.sc v)) u):u=v∧wfv v:=by
 have h:RepC w (Live κ m) (.sc v) u:=h
 cases h; exact ⟨rfl,by assumption⟩
theorem zle:∀ {vs us:List Value},All2 (Rep1 κ m w) (vs.map fun v => .c (.sc v)) us→us=vs∧∀ v∈vs,wfv v
 | [],[],_=>⟨rfl,by simp⟩
 | v::vs,u::us,h=>by
  obtain ⟨h1,h2⟩:=zld h.1
  obtain ⟨h3,h4⟩:=zle h.2
  exact ⟨by rw [h1,h3],by simpa using ⟨h2,h4⟩⟩
 | [],_::_,h=>h.elim
 | _::_,[],h=>h.elim
theorem zlF:∀ {vs:List Value},(∀ v∈vs,wfv v)→All2 (Rep1 κ m w) (vs.map fun v => .c (.sc v)) vs
 | [],_=>trivial
 | v::vs,h=>⟨show RepC w (Live κ m) (.sc v) v from .sc (h v (by simp)),zlF fun u hu=>h u (by simp [hu])⟩
theorem zcH (hf:∀ a,f a = .agg ((enc a).map .sc)):∀ (X:List α),((X.map f).map PV.c).flatMap PV.cells=(X.flatMap enc).map fun v => .c (.sc v)
 | []=>rfl
 | a::X=>by
  rw [List.map_cons,List.map_cons,List.flatMap_cons,List.flatMap_cons,List.map_append,zcH hf X,hf]
  simp [PV.cells,CV.cells]
end
theorem zma {α:Type} [Inhabited α] {P:Program} {W0:World} {F:FuncId} {fv:Value} {T:TypeId} {id k:Nat} {enc:α→List Value} {f:α→CV} {key:α→Str} {lt:α→α→Bool} (hf:∀ a,f a = .agg ((enc a).map .sc)) (hk:∀ x,(enc x).length=k) (h0:0 < k) (hlt:∀ a b,lt a b=ltS (key a) (key b))
  (hnone:∀ p cap w,Calls P F #[.slice p 0 cap,fv] w fun e w'=>e = .returned (.tuple #[])∧w'=w)
  (hsome:∀ b cap (d:Array α) w,Sort.HoldsK enc k w b 0 d→b < w.heap.size→d.size < 4611686018427387904→Calls P F #[.slice (some ⟨b,0,none⟩) d.size cap,fv] w fun e w' =>
   e = .returned (.tuple #[])∧∃ d' n os,Sort.PermIn 0 d.size d d'∧Sort.SortedIn lt 0 d.size d'∧w'=sortWorldK enc k w b 0 n d' os)
  (X:List α) (hX:X.length≤1000000) :
  FunW P W0 F [.own id X.length,.c (.sc fv)] [(id,.row (X.map f) k T)] (Sorts key X) (fun _ => .c (.tup [])) (fun S=>[(id,.row (S.map f) k T)]):=by
 intro κ w vs hB hm hr
 obtain ⟨v1,v2,hvs⟩:∃ v1 v2,vs.toList=[v1,v2]:=by
  have:=All2.length hr
  match h:vs.toList with
  | [a,b]=>exact ⟨a,b,rfl⟩
  | [] | [_] | _::_::_::_=>rw [h] at this; simp at this
 rw [hvs] at hr
 obtain ⟨r1,r2,_⟩:=hr
 have e2:v2=fv:=by
  have r2:RepC w (Live κ (er [(id,.row (X.map f) k T)])) (.sc fv) v2:=r2
  cases r2; rfl
 subst e2
 obtain ⟨⟨a,cap0,rfl,_⟩,hnm,L,sz,e,g1,g2,g3,_⟩:=r1
 have hl:lk (er [(id,XB.row (X.map f) k T)]) id=some (.row ((X.map f).map .c) k T):=by simp [er,lk,XB.er]
 rw [hl] at g1
 cases g1
 have gO:=g3 (by simp)
 have hv:vs=#[.slice a X.length cap0,v2]:=by rw [← hvs]
 subst hv
 have ret:∀ {κ':Kap} {m':Mem} {w':World},Rep κ' m' w' (.c (.tup [])) (.tuple #[]):=fun {κ' m' w'}=>show RepC w' _ (.tup []) (.tuple [].toArray) from .tup rfl (by simp)
 by_cases hXn:X=[]
 ·subst hXn
  refine (hnone a cap0 w).mono ?_
  rintro e w' ⟨rfl,rfl⟩
  exact ⟨_,_,_,κ,rfl,⟨_,rfl,[],⟨List.Perm.nil,List.Pairwise.nil⟩,rfl,rfl⟩,hm,ret⟩
 obtain ⟨hsz,_,hblk⟩:=hm.mem.blk id _ hl
 rcases hblk with ⟨_,hL⟩ | ⟨b,us,rest,hkb,hh,hall⟩
 ·rcases hL with hL | hL
  ·simp at hL; exact absurd hL hXn
  ·have:=qb hL; simp [maxLen] at this; omega
 unfold OwnV at gO
 rw [hkb] at gO
 obtain ⟨cap,arr,e',hsl,hle,hcap,hb2,hsz2⟩:=gO
 injection hsl with q1 q2 q3
 subst q1 q3
 rw [zcH hf] at hall
 obtain ⟨rfl,hwf⟩:=zle hall
 have hblt:b < w.heap.size:=(Array.getElem?_eq_some_iff.1 hh).1
 have hfl:=jQ hk X
 have hH:Sort.HoldsK enc k w b 0 X.toArray:=by
  unfold Sort.HoldsK
  rw [zgI hk]
  intro j hj
  have hj':j < (X.flatMap enc).length:=by simpa using hj
  refine ⟨?_,?_⟩
  ·unfold World.cell?
   simp only [hh,Nat.zero_add]
   rw [List.getElem?_toArray,List.getElem?_append_left hj',List.getElem?_eq_getElem hj']
   have:(X.flatMap enc).toArray[j]! = (X.flatMap enc)[j]:=by rw [getElem!_pos _ j (by simpa using hj')]; rfl
   exact congrArg some this.symm
  ·unfold World.frozen?
   simp only [hh]; simp
 have hs:=hsome b cap0 X.toArray w hH hblt (by simp; omega)
 simp only [List.size_toArray] at hs
 refine hs.mono ?_
 rintro e w' ⟨rfl,d',n,os,hp,hsd,rfl⟩
 have hds:d'.size=X.length:=by simpa using hp.1
 have hperm:d'.toList.Perm X:=by
  have:=hp.2.2
  rw [Array.extract_eq_self_of_le (by omega)] at this
  simpa using this
 have hsorts:Sorts key X d'.toList:=by
  refine ⟨hperm,?_⟩
  rw [List.pairwise_iff_getElem]
  intro i j hi hj hij
  rw [← hlt]
  have:=hsd i j (Nat.zero_le _) hij (by simpa [hds] using hj)
  simpa [getElem!_pos,show i < d'.size by simpa using hi,show j < d'.size by simpa using hj] using this
 have hwf':∀ v∈d'.toList.flatMap enc,wfv v:=by
  intro v hv
  obtain ⟨x,hx,hv⟩:=List.mem_flatMap.1 hv
  exact hwf v (List.mem_flatMap.2 ⟨x,hperm.mem_iff.1 hx,hv⟩)
 have hW:sortWorldK enc k w b 0 n d' os=Sort.grow (Sort.putRow _root_.id (Sort.ahead w n) b 0 (d'.toList.flatMap enc).toArray) os:=by
  unfold sortWorldK Sort.putRowK
  rw [← zgI hk d'.toList]
 rw [hW]
 have hl2:(d'.toList.flatMap enc).length=(X.flatMap enc).length:=by rw [jQ hk,jQ hk]; simp [hds]
 have hheap:=zkW (n:=n) (os:=os) hh hl2
 have e1:upd (er [(id,XB.row (X.map f) k T)]) id (.row ((d'.toList.map f).map .c) k T)=er [(id,XB.row (d'.toList.map f) k T)]:=by simp [er,XB.er,upd]
 have hturn:=hm.turn (κ':=κ) (id:=id) (x := .row ((d'.toList.map f).map .c) k T) (y := .row ((X.map f).map .c) k T) (w':=Sort.grow (Sort.putRow _root_.id (Sort.ahead w n) b 0 (d'.toList.flatMap enc).toArray) os)
  hB.size hl rfl rfl rfl (by simp [Sort.grow,Sort.putRow,Sort.mapBlock]) rfl (fun _ _=>rfl) (fun j hj hne=>zk0 hj (fun e=>hne (by rw [hkb,e]))) (.inl rfl) (fun cs h=>by cases h)
  (fun L sz e h=>by
   cases h
   refine ⟨_,rfl,by simp [hds],fun _=>⟨rfl,fun b' arr e' hb' ha=>?_⟩⟩
   rw [hkb] at hb'; cases hb'
   rw [hh] at ha; cases ha
   exact ⟨_,hheap,by simp [hl2]⟩)
  (fun _=>by
   refine ⟨fun x hx=>?_,h0,.inr ⟨b,_,rest,hkb,hheap,?_⟩⟩
   ·obtain ⟨y,hy,rfl⟩:=List.mem_map.1 hx
    obtain ⟨z,_,rfl⟩:=List.mem_map.1 hy
    rw [hf]; simp [PV.cells,CV.cells,hk]
   ·rw [zcH hf]; exact zlF hwf') (.inr ⟨b,hkb⟩)
 rw [e1] at hturn
 exact ⟨_,_,_,κ,rfl,⟨_,rfl,d'.toList,hsorts,rfl,rfl⟩,hturn.1,ret⟩
instance:Inhabited Ent:=⟨⟨[],false,[]⟩⟩
instance:Inhabited Mark:=⟨⟨[],0,[]⟩⟩
theorem zjf {x y z:Str} (h1:ltS x y=false) (h2:ltS y z=false):ltS x z=false:=by
 rcases qO h1 with rfl | h3
 ·exact h2
 ·rcases qO h2 with rfl | h4
  ·exact qL h3
  ·exact qL (qS h4 h3)
theorem swoS {α:Type} [Inhabited α] (key:α→Str):Sort.SWO (ltOf fun x y:α=>cmpS (key x) (key y)):=by
 have e:∀ x y:α,ltOf (fun x y:α=>cmpS (key x) (key y)) x y=ltS (key x) (key y):=fun x y=>zc1 _ _
 refine ⟨fun x=>?_,fun x y z h1 h2=>?_,fun x y z h1 h2=>?_⟩
 ·rw [e]; exact qP _
 ·rw [e] at *; exact qS h1 h2
 ·rw [e] at *; exact zjf h1 h2
theorem yL {α:Type} {key:α→Str} {X:List α}:∃ S,Sorts key X S:=by
 refine ⟨X.mergeSort (fun a b=>!ltS (key b) (key a)),List.mergeSort_perm _ _,?_⟩
 have h:=List.pairwise_mergeSort (le:=fun a b:α=>!ltS (key b) (key a)) (fun a b c h1 h2=>by
  simp only [Bool.not_eq_true'] at *; exact zjf h2 h1) (fun a b=>by
  rcases zjg (key a) (key b) with h | h | h
  ·rw [h,qP]; rfl
  ·rw [qL h]; rfl
  ·rw [qL h]; simp) X
 exact h.imp fun h=>by simpa using h
def QS:XC:=(.r [.mv 2 0,.ex 3 (.opn 146 [2,(.k (.c (.sc (.func (.func 147) #[] #[]))))])])
theorem QT:compF Tryz.prog [146] 90=some (QS.ac,[],4):=by kernel_rfl
theorem zec (W0:World) (id:Nat) (X:List Ent) (hX:X.length≤1000000):FunW Tryz.prog W0 146 [.own id X.length,.c (.sc (.func (.func 147) ⟨[]⟩ ⟨[]⟩))] [(id,.row (X.map eEnt) 3 39)] (Sorts Ent.path X) (fun _ => .c (.tup [])) (fun S=>[(id,.row (S.map eEnt) 3 39)]):=by
 have eg:∀ args w,(callFunc 147 args).run Tryz.prog w = .ok (.enter 147 args) w:=enters_of Tryz.func147 (by kernel_rfl) rfl
 refine zma (enc:=vEnt) (lt:=ltOf fun x y:Ent=>cmpS x.path y.path) (fun _=>rfl) (fun _=>rfl) (by decide) (fun x y=>zc1 _ _) (fun p cap w=>?_) (fun b cap d w hH hb hd=>?_) X hX
 ·exact AnyF.slices_SortFunc_none { Tryz.sortE with } p cap _ w
 ·exact AnyQ.slices_SortFunc Tryz.sortE 3 Tryz.isAgg39 Tryz.sizeOf39 vEnt (fun _=>rfl) (fun x v hv=>by simp [vEnt] at hv; rcases hv with rfl | rfl | rfl<;>rfl) (fun x y=>cmpS x.path y.path) (swoS Ent.path) 147 #[] b 0 cap d w eg (fun _ _ _ _ x y=>zcZ x y _) hH hb hd
theorem zf3 (W0:World) (X:List Ent) (hX:X.length≤1000000):FunW Tryz.prog W0 90 [.own 1 X.length] [(1,.row (X.map eEnt) 3 39)] (Sorts Ent.path X) (fun _ => .tup []) (fun S=>[(1,.row (S.map eEnt) 3 39)]):=by
 refine funW (c:=QS) mixed QT (by simp) rfl rfl fun hg=>?_
 refine dr ?_
 refine oW (zec W0 1 X hX) rfl ⟨rfl,trivial⟩ rfl rfl yL fun S hS=>⟨rfl,?_⟩
 refine dr ?_
 refine ⟨none,_,_,?_,S,hS,rfl,rfl⟩
 refine dr ?_
 trivial
def QU:XC:=(.r [.mv 2 0,.ex 3 (.opn 196 [2,(.k (.c (.sc (.func (.func 197) #[] #[]))))])])
theorem QV:compF Tryz.prog [196] 160=some (QU.ac,[],4):=by kernel_rfl
theorem zed (W0:World) (id:Nat) (X:List Mark) (hX:X.length≤1000000):FunW Tryz.prog W0 196 [.own id X.length,.c (.sc (.func (.func 197) ⟨[]⟩ ⟨[]⟩))] [(id,.row (X.map eMark) 3 133)] (Sorts Mark.path X) (fun _ => .c (.tup [])) (fun S=>[(id,.row (S.map eMark) 3 133)]):=by
 have eg:∀ args w,(callFunc 197 args).run Tryz.prog w = .ok (.enter 197 args) w:=enters_of Tryz.func197 (by kernel_rfl) rfl
 refine zma (enc:=vMark) (lt:=ltOf fun x y:Mark=>cmpS x.path y.path) (fun _=>rfl) (fun _=>rfl) (by decide) (fun x y=>zc1 _ _) (fun p cap w=>?_) (fun b cap d w hH hb hd=>?_) X hX
 ·exact AnyF.slices_SortFunc_none { Tryz.sortM with } p cap _ w
 ·exact AnyQ.slices_SortFunc Tryz.sortM 3 Tryz.isAgg133 Tryz.sizeOf133 vMark (fun _=>rfl) (fun x v hv=>by simp [vMark] at hv; rcases hv with rfl | rfl | rfl<;>rfl) (fun x y=>cmpS x.path y.path) (swoS Mark.path) 197 #[] b 0 cap d w eg (fun _ _ _ _ x y=>zc0 x y _) hH hb hd
theorem zf4 (W0:World) (X:List Mark) (hX:X.length≤1000000):FunW Tryz.prog W0 160 [.own 1 X.length] [(1,.row (X.map eMark) 3 133)] (Sorts Mark.path X) (fun _ => .tup []) (fun S=>[(1,.row (S.map eMark) 3 133)]):=by
 refine funW (c:=QU) mixed QV (by simp) rfl rfl fun hg=>?_
 refine dr ?_
 refine oW (zed W0 1 X hX) rfl ⟨rfl,trivial⟩ rfl rfl yL fun S hS=>⟨rfl,?_⟩
 refine dr ?_
 refine ⟨none,_,_,?_,S,hS,rfl,rfl⟩
 refine dr ?_
 trivial
end Go.Proofs.YteheahbjaddooaaGreatDoor

namespace Go.Proofs.YteheahbjaddooaaGreatDoor
set_option linter.unusedSimpArgs false
set_option linter.unusedVariables false
open Go Go.RowKit
theorem zgW {α:Type} {key:α→Str} {t:List α} {p:Str} {k:Nat} (h:k < t.length) (hp:key t[k]=p) (hn:∀ i (h':i < t.length),i < k→key t[i]≠p):fnd key t p=some t[k]:=by
 unfold fnd
 rw [List.find?_eq_some_iff_getElem]
 exact ⟨by simp [hp],k,h,rfl,fun i hi=>by simpa using hn i (by omega) hi⟩
theorem zgT {α:Type} {key:α→Str} {t:List α} {p:Str} (hn:∀ i (h':i < t.length),key t[i]≠p):fnd key t p=none :=
 jU.2 fun e he=>by obtain ⟨i,hi,rfl⟩:=List.mem_iff_getElem.1 he; exact hn i hi
def noM:Mark:=⟨[],0,[]⟩
def eMarkO:Option Mark→CV
 | none => .tup [eMark noM,CB false]
 | some m => .tup [eMark m,CB true]
theorem zdA (o:Option Mark):eMarkO o = .tup [eMark (o.getD noM),CB o.isSome]:=by cases o<;>rfl
def Qc:XC:=(.s (.r [.ex 4 (.alloc [sE,(B false),sE]),.m1 5 .n]) (.s (.s (.r [.mv 8 0,.n1 9 8,.m1 10 (.i 0)]) (.blk 0 (.loop (.s (.r [.b1 11 .lss 10 9]) (.s (.cnd 11 .skip (.exit 0)) (.s (.blk 1 (.s (.r [.i1 12 3 8 10,.l2 13 3 12,.ex 7 (.alloc [sE,(B false),sE]),.s1 3 7 13]) (.s (.r [.f1 14 0 7,.l1 15 1 14,.mv 16 1,.b1 17 .eql 15 16]) (.cnd 17 (.s (.r [.l2 18 3 7,.s1 3 4 18,.m1 5 .y]) .ret) .skip)))) (.r [.b1 19 .add 10 (.i 1),.mv 10 19]))))))) (.s (.r [.ex 20 (.build [sE,(B false),sE] []),.s1 3 4 20,.m1 5 .n]) .ret)))
theorem Qd:compF Tryz.prog [] 44=some (Qc.ac,[(.cell 4 true 3),(.t 5)],21):=by kernel_rfl
theorem jh (W0:World) (t:List Ent) (p:Str):Fn Tryz.prog W0 44 [eEnts t,CS p] (.c (eEntO (find t p))) []:=by
 refine fnX (c:=Qc) mixed Qd (by simp) rfl fun hg=>?_
 have g1:=goodRow (hg _ (by simp:eEnts t∈_))
 refine dr ?_
 refine lp (σ:=Nat) (fun k=>[(1,.c (CS p)),(4,.ptr 64 0),(8,.c (eEnts t)),(9,I t.length),(10,I k)]) (fun _=>[(64,.box [.c (CS []),(.c (CB false)),.c (CS [])])]) (fun k=>k≤t.length∧∀ i (h':i < t.length),i < k→t[i].path≠p) (fun k=>t.length - k) 0 ⟨by simp,by simp⟩ ?_ ?_
 ·refine dr ?_
  trivial
 rintro k ⟨hk,ha⟩
 refine dr ?_
 refine cP ?_ ?_<;>intro h1
 ·refine dr ?_
  refine cP ?_ ?_<;>intro h2
  ·refine dr ?_
   have:find t p=some t[k]:=zgW (key:=Ent.path) (by omega) h2 ha
   rw [this]; rfl
  ·refine dr ?_
   refine ⟨k+1,⟨by omega,fun i h' hi=>?_⟩,by omega,?_⟩
   ·by_cases e:i=k
    ·subst e; exact h2
    ·exact ha i h' (by omega)
   ·refine dr ?_
    trivial
 ·refine dr ?_
  have:find t p=none:=zgT (key:=Ent.path) fun i h'=>ha i h' (by omega)
  rw [this]; rfl
def Qw:XC:=(.s (.r [.ex 4 (.alloc [sE,(I 0),sE]),.m1 5 .n]) (.s (.s (.r [.mv 8 0,.n1 9 8,.m1 10 (.i 0)]) (.blk 0 (.loop (.s (.r [.b1 11 .lss 10 9]) (.s (.cnd 11 .skip (.exit 0)) (.s (.blk 1 (.s (.r [.i1 12 3 8 10,.l2 13 3 12,.ex 7 (.alloc [sE,(I 0),sE]),.s1 3 7 13]) (.s (.r [.f1 14 0 7,.l1 15 1 14,.mv 16 1,.b1 17 .eql 15 16]) (.cnd 17 (.s (.r [.l2 18 3 7,.s1 3 4 18,.m1 5 .y]) .ret) .skip)))) (.r [.b1 19 .add 10 (.i 1),.mv 10 19]))))))) (.s (.r [.ex 20 (.build [sE,(I 0),sE] []),.s1 3 4 20,.m1 5 .n]) .ret)))
theorem Qx:compF Tryz.prog [] 155=some (Qw.ac,[(.cell 4 true 3),(.t 5)],21):=by kernel_rfl
theorem zfR (W0:World) (t:List Mark) (p:Str):Fn Tryz.prog W0 155 [eMarks t,CS p] (.c (eMarkO (mfind t p))) []:=by
 refine fnX (c:=Qw) mixed Qx (by simp) rfl fun hg=>?_
 have g1:=goodRow (hg _ (by simp:eMarks t∈_))
 refine dr ?_
 refine lp (σ:=Nat) (fun k=>[(1,.c (CS p)),(4,.ptr 64 0),(8,.c (eMarks t)),(9,I t.length),(10,I k)]) (fun _=>[(64,.box [.c (CS []),(.c (CI 0)),.c (CS [])])]) (fun k=>k≤t.length∧∀ i (h':i < t.length),i < k→t[i].path≠p) (fun k=>t.length - k) 0 ⟨by simp,by simp⟩ ?_ ?_
 ·refine dr ?_
  trivial
 rintro k ⟨hk,ha⟩
 refine dr ?_
 refine cP ?_ ?_<;>intro h1
 ·refine dr ?_
  refine cP ?_ ?_<;>intro h2
  ·refine dr ?_
   have:mfind t p=some t[k]:=zgW (key:=Mark.path) (by omega) h2 ha
   rw [this]; rfl
  ·refine dr ?_
   refine ⟨k+1,⟨by omega,fun i h' hi=>?_⟩,by omega,?_⟩
   ·by_cases e:i=k
    ·subst e; exact h2
    ·exact ha i h' (by omega)
   ·refine dr ?_
    trivial
 ·refine dr ?_
  have:mfind t p=none:=zgT (key:=Mark.path) fun i h'=>ha i h' (by omega)
  rw [this]; rfl
def J8:XC:=(.s (.r [.ex 2 (.asn (.k .nil) 3 39)]) (.s (.r [.mv 3 0,.ex 4 (.app true 3 40 39 (.k .nil) 3),.a1 2 4 3 39]) .ret))
theorem J9:compF Tryz.prog [] 88=some (J8.ac,[(.t 2)],5):=by kernel_rfl
theorem zei (W0:World) (t:List Ent) (ht:t.length≤1000000):Fn Tryz.prog W0 88 [eEnts t] (.c (eEnts t)) []:=by
 refine fnX (c:=J8) mixed J9 (by simp) rfl fun hg=>?_
 refine dr ?_
 repeat ((first | refine oB (by simp; omega) ?_ | refine oB (by simp) ?_); first | refine dr ?_ | exact dz)
 rfl
def QW:XC:=(.s (.r [.m1 4 (.i 0)]) (.s (.r [.mv 8 1,.c1 9 159 [8],.mv 5 9]) (.s (.s (.r [.mv 10 5,.ex 11 (.bin .eql 10 (.s [47]))]) (.cnd 11 (.s (.r [.m1 4 (.i 0)]) .ret) .skip)) (.s (.r [.mv 13 0,.mv 14 5,.c1 15 44 [13,14],.mv 12 15,.e1 16 12 0,.e1 17 12 1,.ex 6 (.alloc [sE,(B false),sE]),.s1 3 6 16,.mv 7 17]) (.s (.s (.r [.mv 18 7,.ex 19 (.un .not 18)]) (.cnd 19 (.s (.r [.m1 4 (.i 2)]) .ret) .skip)) (.s (.s (.r [.f1 20 1 6,.l1 21 1 20,.ex 22 (.un .not 21)]) (.cnd 22 (.s (.r [.m1 4 (.i 3)]) .ret) .skip)) (.s (.r [.m1 4 (.i 0)]) .ret)))))))
theorem QX:compF Tryz.prog [] 101=some (QW.ac,[(.t 4)],23):=by kernel_rfl
theorem jH (W0:World) (hM:HM W0) (t:List Ent) (p:Str):Fn Tryz.prog W0 101 [eEnts t,CS p] (.c (CI (upC2 t p))) []:=by
 refine fnX (c:=QW) mixed QX (by simp) rfl fun hg=>?_
 refine dEr ?_
 repeat (refine c0 (jk W0 hM p) rfl ?_; first | refine dEr ?_ | exact dz)
 refine cP ?_ ?_<;>intro h1
 ·refine dr ?_
  rw [upC2,if_pos h1]<;>rfl
 have hc:=jh W0 t (pUp p)
 rw [upC2,if_neg h1]
 cases hx:find t (pUp p) with
 | none =>
  rw [hx] at hc
  refine dEr ?_
  repeat (refine c0 hc rfl ?_; first | refine dEr ?_ | exact dz)
  try rfl
 | some e =>
  rw [hx] at hc
  refine dEr ?_
  repeat (refine c0 hc rfl ?_; first | refine dEr ?_ | exact dz)
  refine cP ?_ ?_<;>intro h2
  ·refine dr ?_
   exact congrArg CI (by simp [h2])
  ·refine dr ?_
   exact congrArg CI (by simp [h2])
def JU:XC:=(.s (.r [.m1 2 .n]) (.s (.s (.r [.mv 5 0,.n1 6 5,.b1 7 .gtr 6 (.i 16)]) (.cnd 7 (.s (.r [.m1 2 .n]) .ret) .skip)) (.s (.s (.r [.mv 8 0,.n1 9 8,.m1 10 (.i 0)]) (.blk 0 (.loop (.s (.r [.b1 11 .lss 10 9]) (.s (.cnd 11 .skip (.exit 0)) (.s (.blk 1 (.s (.r [.mv 12 10,.i1 13 3 8 10,.l2 14 3 13,.ex 4 (.alloc [sE,(B false),sE]),.mv 3 12,.s1 3 4 14]) (.s (.s (.r [.f1 15 0 4,.l1 16 1 15,.c1 17 79 [16],.ex 18 (.un .not 17),.mv 19 18,.gf 20 (.fa 2 4) 19,.gf 21 (.ld false 1 20) 19,.gf 22 (.call 100 [21]) 19,.gf 23 (.un .not 22) 19,.ex 24 (.pick 19 .y 23),.mv 25 24,.gf 26 (.fa 1 4) 25,.gf 27 (.ld false 1 26) 25,.gf 28 (.mv 27) 25,.gt 29 (.fa 2 4) 28,.gt 30 (.ld false 1 29) 28,.gt 31 (.bin .neq 30 (.s [])) 28,.gf 32 (.pick 28 31 .n) 25,.ex 33 (.pick 25 .y 32)]) (.cnd 33 (.s (.r [.m1 2 .n]) .ret) .skip)) (.s (.s (.d [.mv 34 3,.b1 35 .gtr 34 (.i 0),.mv 36 35,.gt 37 (.mv 0) 36,.gt 38 (.mv 3) 36,.gt 39 (.bin .sub 38 (.i 1)) 36,.gt 40 (.ia 3 37 39) 36,.gt 41 (.fa 0 40) 36,.gt 42 (.ld false 1 41) 36,.gt 43 (.fa 0 4) 36,.gt 44 (.ld false 1 43) 36,.gt 45 (.bin .geq 42 44) 36,.ex 46 (.pick 36 45 .n)]) (.cnd 46 (.s (.r [.m1 2 .n]) .ret) .skip)) (.s (.r [.mv 47 0,.f1 48 0 4,.l1 49 1 48,.c1 50 101 [47,49],.b1 51 .neq 50 (.i 0)]) (.cnd 51 (.s (.r [.m1 2 .n]) .ret) .skip)))))) (.r [.b1 52 .add 10 (.i 1),.mv 10 52]))))))) (.s (.r [.m1 2 .y]) .ret))))
theorem JV:compF Tryz.prog [] 43=some (JU.ac,[(.t 2)],53):=by kernel_rfl
theorem jl (W0:World) (hM:HM W0) (t:List Ent):Fn Tryz.prog W0 43 [eEnts t] (.c (CB (tOk t))) []:=by
 refine fnX (c:=JU) mixed JV (by simp) rfl fun hg=>?_
 have g1:=goodRow (hg _ (by simp:eEnts t∈_))
 have no:¬ TG t→CB false=CB (tOk t):=fun h=>bF (by
  rw [Bool.eq_false_iff]; exact fun e=>h (TG.of e))
 refine dr ?_
 refine cP ?_ ?_<;>intro h1
 ·refine dr ?_
  exact no fun h=>by have:=h.len; omega
 refine dr ?_
 refine lp (σ:=Nat) (fun k=>[(0,.c (eEnts t)),(8,.c (eEnts t)),(9,I t.length),(10,I k)]) (fun _=>[]) (fun k=>k≤t.length∧∀ j (h:j < t.length),j < k→eok t[j]=true∧isDir t (pUp t[j].path)=true∧(0 < j→ltS t[j - 1].path t[j].path=true)) (fun k=>t.length - k) 0 ⟨by simp,by simp⟩ ?_ ?_
 ·refine dr ?_
  trivial
 rintro k ⟨hk,ha⟩
 refine dr ?_
 refine cP ?_ ?_<;>intro h2
 rotate_left
 ·refine dr ?_
  refine bT (yZ.2 ⟨by omega,yP.2 fun j hj=>?_,fun e he=>?_,fun e he=>?_⟩)
  ·exact (ha (j+1) hj (by omega)).2.2 (by omega)
  ·obtain ⟨j,hj,rfl⟩:=List.mem_iff_getElem.1 he
   exact (ha j hj (by omega)).1
  ·obtain ⟨j,hj,rfl⟩:=List.mem_iff_getElem.1 he
   exact (ha j hj (by omega)).2.1
 have hk':k < t.length:=by omega
 have no1:eok t[k]=false→CB false=CB (tOk t):=fun h=>no fun g=>by
  have:=g.ok _ (List.getElem_mem hk'); rw [h] at this; cases this
 refine dEr ?_
 repeat (refine c0 (ji W0 hM _) rfl ?_; first | refine dEr ?_ | exact dz)
 refine cP ?_ ?_<;>intro h3
 ·refine dr ?_
  exact no1 (by simp [eok,h3])
 refine dEr ?_
 repeat (refine c0 (zej W0 _) rfl ?_; first | refine dEr ?_ | exact dz)
 refine cP ?_ ?_<;>intro h4
 ·refine dr ?_
  exact no1 (by simp [eok,h4])
 refine dr ?_
 refine cP ?_ ?_<;>intro h5
 ·refine dr ?_
  refine cP ?_ ?_<;>intro h6
  ·refine dr ?_
   exact no1 (by simp [eok,h5,h6])
  ·have hok:eok t[k]=true:=by rw [eok,h3,h4]; simp [h6]
   clear h6
   refine dr ?_
   refine cP ?_ ?_<;>intro h7
   ·refine dr ?_
    repeat (refine aM (j:=k - 1) (by omega) (by omega) ?_; first | refine dr ?_ | exact dz)
    cases h8:ltS t[k - 1].path t[k].path
    ·refine dr ?_
     exact no fun h=>by
      have:=yP.1 h.srt (k - 1) (by omega)
      simp only [show k - 1+1=k by omega] at this
      rw [h8] at this; cases this
    ·refine dEr ?_
     repeat (refine c0 (jH W0 hM t _) rfl ?_; first | refine dEr ?_ | exact dz)
     refine cP ?_ ?_<;>intro h9
     ·refine dr ?_
      exact no fun h=>h9 ((Zc).2 (h.up _ (List.getElem_mem hk')))
     ·refine dr ?_
      refine ⟨k+1,⟨by omega,fun j h hj=>?_⟩,by omega,?_⟩
      ·by_cases e:j=k
       ·subst e; exact ⟨hok,Zc.1 h9,fun _=>h8⟩
       ·exact ha j h (by omega)
      ·refine dr ?_
       trivial
   ·refine dEr ?_
    repeat (refine c0 (jH W0 hM t _) rfl ?_; first | refine dEr ?_ | exact dz)
    refine cP ?_ ?_<;>intro h9
    ·refine dr ?_
     exact no fun h=>h9 ((Zc).2 (h.up _ (List.getElem_mem hk')))
    ·refine dr ?_
     refine ⟨k+1,⟨by omega,fun j h hj=>?_⟩,by omega,?_⟩
     ·by_cases e:j=k
      ·subst e; exact ⟨hok,Zc.1 h9,fun h=>by omega⟩
      ·exact ha j h (by omega)
     ·refine dr ?_
      trivial
 ·have hok:eok t[k]=true:=by simp [eok,h3,h4,h5]
  refine dr ?_
  refine cP ?_ ?_<;>intro h7
  ·refine dr ?_
   repeat (refine aM (j:=k - 1) (by omega) (by omega) ?_; first | refine dr ?_ | exact dz)
   cases h8:ltS t[k - 1].path t[k].path
   ·refine dr ?_
    exact no fun h=>by
     have:=yP.1 h.srt (k - 1) (by omega)
     simp only [show k - 1+1=k by omega] at this
     rw [h8] at this; cases this
   ·refine dEr ?_
    repeat (refine c0 (jH W0 hM t _) rfl ?_; first | refine dEr ?_ | exact dz)
    refine cP ?_ ?_<;>intro h9
    ·refine dr ?_
     exact no fun h=>h9 ((Zc).2 (h.up _ (List.getElem_mem hk')))
    ·refine dr ?_
     refine ⟨k+1,⟨by omega,fun j h hj=>?_⟩,by omega,?_⟩
     ·by_cases e:j=k
      ·subst e; exact ⟨hok,Zc.1 h9,fun _=>h8⟩
      ·exact ha j h (by omega)
     ·refine dr ?_
      trivial
  ·refine dEr ?_
   repeat (refine c0 (jH W0 hM t _) rfl ?_; first | refine dEr ?_ | exact dz)
   refine cP ?_ ?_<;>intro h9
   ·refine dr ?_
    exact no fun h=>h9 ((Zc).2 (h.up _ (List.getElem_mem hk')))
   ·refine dr ?_
    refine ⟨k+1,⟨by omega,fun j h hj=>?_⟩,by omega,?_⟩
    ·by_cases e:j=k
     ·subst e; exact ⟨hok,Zc.1 h9,fun h=>by omega⟩
     ·exact ha j h (by omega)
    ·refine dr ?_
     trivial
def JS:XC:=(.s (.r [.ex 4 (.alloc [sE,(B false),sE]),.m1 5 .n]) (.s (.s (.r [.mv 6 0,.c1 7 43 [6],.ex 8 (.un .not 7)]) (.cnd 8 (.s (.r [.ex 9 (.build [sE,(B false),sE] []),.s1 3 4 9,.m1 5 .n]) .ret) .skip)) (.s (.s (.r [.mv 10 1,.ex 11 (.bin .eql 10 (.s [47]))]) (.cnd 11 (.s (.r [.ex 12 (.build [sE,(B false),sE] [(0,(1,(.s [47]))),(1,(1,.y))]),.s1 3 4 12,.m1 5 .y]) .ret) .skip)) (.s (.r [.mv 13 0,.mv 14 1,.c1 15 44 [13,14],.e1 16 15 0,.e1 17 15 1,.s1 3 4 16,.mv 5 17]) .ret))))
theorem JT:compF Tryz.prog [] 15=some (JS.ac,[(.cell 4 true 3),(.t 5)],18):=by kernel_rfl
theorem zez (W0:World) (hM:HM W0) (t:List Ent) (p:Str):Fn Tryz.prog W0 15 [eEnts t,CS p] (.c (eEntO (if tOk t=true then get t p else none))) []:=by
 refine fnX (c:=JS) mixed JT (by simp) rfl fun hg=>?_
 refine dEr ?_
 repeat (refine c0 (jl W0 hM _) rfl ?_; first | refine dEr ?_ | exact dz)
 refine cP ?_ ?_<;>intro h1
 ·refine dr ?_
  rw [if_neg (by simp [h1])]<;>rfl
 rw [if_pos h1]
 refine dr ?_
 refine cP ?_ ?_<;>intro h2
 ·refine dr ?_
  rw [get,if_pos h2]<;>rfl
 have hc:=jh W0 t p
 rw [zL] at hc
 rw [get,if_neg h2,zL]
 refine dEr ?_
 repeat (refine c0 hc rfl ?_; first | refine dEr ?_ | exact dz)
 rfl
def J6:XC:=(.s (.r [.m1 4 .n]) (.s (.s (.r [.mv 7 0,.n1 8 7,.m1 9 (.i 0)]) (.blk 0 (.loop (.s (.r [.b1 10 .lss 9 8]) (.s (.cnd 10 .skip (.exit 0)) (.s (.blk 1 (.s (.r [.i1 11 3 7 9,.l2 12 3 11,.ex 6 (.alloc [sE,(I 0),sE]),.s1 3 6 12]) (.s (.r [.f1 13 1 6,.l1 14 1 13,.b1 15 .eql 14 (.i 4),.mv 16 15,.gt 17 (.mv 1) 16,.gt 18 (.fa 0 6) 16,.gt 19 (.ld false 1 18) 16,.gt 20 (.call 145 [17,19]) 16,.ex 21 (.pick 16 20 .n)]) (.cnd 21 (.s (.r [.m1 4 .y]) .ret) .skip)))) (.r [.b1 22 .add 9 (.i 1),.mv 9 22]))))))) (.s (.r [.m1 4 .n]) .ret)))
theorem J7:compF Tryz.prog [] 194=some (J6.ac,[(.t 4)],23):=by kernel_rfl
def bare2 (l:List Mark) (p:Str):Bool:=l.any fun m=>m.kind==4&&und2 p m.path
theorem jg (W0:World) (hM:HM W0) (t:List Mark) (p:Str):Fn Tryz.prog W0 194 [eMarks t,CS p] (.c (CB (bare2 t p))) []:=by
 refine fnX (c:=J6) mixed J7 (by simp) rfl fun hg=>?_
 have g1:=goodRow (hg _ (by simp:eMarks t∈_))
 refine dr ?_
 refine lp (σ:=Nat) (fun k=>[(1,.c (CS p)),(7,.c (eMarks t)),(8,I t.length),(9,I k)]) (fun _=>[]) (fun k=>k≤t.length∧bare2 (t.take k) p=false) (fun k=>t.length - k) 0 ⟨by simp,by simp [bare2]⟩ ?_ ?_
 ·refine dr ?_
  trivial
 rintro k ⟨hk,ha⟩
 refine dr ?_
 refine cP ?_ ?_<;>intro h1
 ·have hk':k < t.length:=by omega
  have no:(t[k].kind==4&&und2 p t[k].path)=false→bare2 (t.take (k+1)) p=false:=fun h=>by
   rw [bare2] at ha ⊢
   rw [List.take_succ_eq_append_getElem hk',List.any_append,ha]; simpa using h
  have yes:(t[k].kind==4&&und2 p t[k].path)=true→CB true=CB (bare2 t p):=fun h=>bT (by
   rw [bare2,List.any_eq_true]; exact ⟨t[k],List.getElem_mem hk',h⟩)
  refine dr ?_
  refine cP ?_ ?_<;>intro h2
  ·refine dEr ?_
   repeat (refine c0 (jj W0 hM _ _) rfl ?_; first | refine dEr ?_ | exact dz)
   refine cP ?_ ?_<;>intro h3
   ·refine dr ?_
    exact yes (by simp [h2,h3])
   ·refine dr ?_
    refine ⟨k+1,⟨by omega,no (by simp [h3])⟩,by omega,?_⟩
    refine dr ?_
    trivial
  ·refine dr ?_
   refine ⟨k+1,⟨by omega,no (by simp [h2])⟩,by omega,?_⟩
   refine dr ?_
   trivial
 ·refine dr ?_
  have:k=t.length:=by omega
  subst this
  rw [List.take_length] at ha
  rw [ha]
theorem ZF {l:List Mark} (h:∀ m∈l,pOk m.path=true) {p:Str} (hp:pOk p=true):bare2 l p=bare l p:=by
 rw [Bool.eq_iff_iff,bare2,bare,List.any_eq_true,List.any_eq_true]
 constructor
 ·rintro ⟨m,hm,h1⟩; exact ⟨m,hm,by rw [← y9 hp (h m hm)]; exact h1⟩
 ·rintro ⟨m,hm,h1⟩; exact ⟨m,hm,by rw [y9 hp (h m hm)]; exact h1⟩
theorem zj {l:List Mark} (h:LG l) {p:Str} (hp:pOk p=true):bare2 l p=bare l p:=ZF (fun _ hm=>h.path hm) hp
def Qg:XC:=(.s (.r [.m1 4 .n]) (.s (.s (.r [.mv 7 0,.n1 8 7,.m1 9 (.i 0)]) (.blk 0 (.loop (.s (.r [.b1 10 .lss 9 8]) (.s (.cnd 10 .skip (.exit 0)) (.s (.blk 1 (.s (.r [.i1 11 3 7 9,.l2 12 3 11,.ex 6 (.alloc [sE,(I 0),sE]),.s1 3 6 12]) (.s (.r [.f1 13 1 6,.l1 14 1 13,.b1 15 .neq 14 (.i 2),.mv 16 15,.gt 17 (.fa 0 6) 16,.gt 18 (.ld false 1 17) 16,.gt 19 (.mv 1) 16,.gt 20 (.bin .eql 18 19) 16,.gt 21 (.mv 20) 16,.gf 22 (.mv 1) 21,.gf 23 (.fa 0 6) 21,.gf 24 (.ld false 1 23) 21,.gf 25 (.call 145 [22,24]) 21,.gt 26 (.pick 21 .y 25) 16,.ex 27 (.pick 16 26 .n)]) (.cnd 27 (.s (.r [.m1 4 .y]) .ret) .skip)))) (.r [.b1 28 .add 9 (.i 1),.mv 9 28]))))))) (.s (.r [.m1 4 .n]) .ret)))
theorem Qh:compF Tryz.prog [] 156=some (Qg.ac,[(.t 4)],29):=by kernel_rfl
def hides2 (l:List Mark) (p:Str):Bool:=l.any fun m=>m.kind != 2&&(m.path==p||und2 p m.path)
theorem zeB (W0:World) (hM:HM W0) (t:List Mark) (p:Str):Fn Tryz.prog W0 156 [eMarks t,CS p] (.c (CB (hides2 t p))) []:=by
 refine fnX (c:=Qg) mixed Qh (by simp) rfl fun hg=>?_
 have g1:=goodRow (hg _ (by simp:eMarks t∈_))
 refine dr ?_
 refine lp (σ:=Nat) (fun k=>[(1,.c (CS p)),(7,.c (eMarks t)),(8,I t.length),(9,I k)]) (fun _=>[]) (fun k=>k≤t.length∧hides2 (t.take k) p=false) (fun k=>t.length - k) 0 ⟨by simp,by simp [hides2]⟩ ?_ ?_
 ·refine dr ?_
  trivial
 rintro k ⟨hk,ha⟩
 refine dr ?_
 refine cP ?_ ?_<;>intro h1
 ·have hk':k < t.length:=by omega
  have no:(t[k].kind != 2&&(t[k].path==p||und2 p t[k].path))=false→hides2 (t.take (k+1)) p=false:=fun h=>by
   rw [hides2] at ha ⊢
   rw [List.take_succ_eq_append_getElem hk',List.any_append,ha]; simpa using h
  have yes:(t[k].kind != 2&&(t[k].path==p||und2 p t[k].path))=true→CB true=CB (hides2 t p):=fun h=>bT (by
   rw [hides2,List.any_eq_true]; exact ⟨t[k],List.getElem_mem hk',h⟩)
  refine dr ?_
  refine cP ?_ ?_<;>intro h2
  ·refine dr ?_
   refine cP ?_ ?_<;>intro h4
   ·refine dr ?_
    exact yes (by simp [h2,h4])
   ·refine dEr ?_
    repeat (refine c0 (jj W0 hM _ _) rfl ?_; first | refine dEr ?_ | exact dz)
    refine cP ?_ ?_<;>intro h3
    ·refine dr ?_
     exact yes (by simp [h2,h3])
    ·refine dr ?_
     refine ⟨k+1,⟨by omega,no (by simp [h3,h4])⟩,by omega,?_⟩
     refine dr ?_
     trivial
  ·refine dr ?_
   refine ⟨k+1,⟨by omega,no (by simp [h2])⟩,by omega,?_⟩
   refine dr ?_
   trivial
 ·refine dr ?_
  have:k=t.length:=by omega
  subst this
  rw [List.take_length] at ha
  rw [ha]
theorem zh2 {l:List Mark} (h:LG l) {p:Str} (hp:pOk p=true):hides2 l p=hides l p:=by
 rw [Bool.eq_iff_iff,hides2,List.any_eq_true]
 constructor
 ·rintro ⟨m,hm,h1⟩
  simp only [Bool.and_eq_true,Bool.or_eq_true,beq_iff_eq,bne_iff_ne] at h1
  rw [y9 hp (h.path hm)] at h1
  exact qe hm h1.1 h1.2
 ·intro h1
  obtain ⟨m,hm,hk,hu⟩:=yg h1
  refine ⟨m,hm,?_⟩
  simp only [Bool.and_eq_true,Bool.or_eq_true,beq_iff_eq,bne_iff_ne]
  rw [y9 hp (h.path hm)]
  exact ⟨hk,hu⟩
def Q4:XC:=(.s (.r [.ex 1 (.box 0),.m1 2 .n]) (.s (.r [.f1 3 1 1,.l1 4 1 3,.b1 5 .eql 4 (.i 2),.mv 6 5,.gf 7 (.fa 1 1) 6,.gf 8 (.ld false 1 7) 6,.gf 9 (.bin .eql 8 (.i 4)) 6,.ex 10 (.pick 6 .y 9),.mv 2 10]) .ret))
theorem Q5:compF Tryz.prog [] 157=some (Q4.ac,[(.t 2)],11):=by kernel_rfl
theorem zeC (W0:World) (m:Mark):Fn Tryz.prog W0 157 [eMark m] (.c (CB (decide (m.kind=2∨m.kind=4)))) []:=by
 refine fnX (c:=Q4) mixed Q5 (by simp) rfl fun hg=>?_
 refine dr ?_
 refine cP ?_ ?_<;>intro h1
 ·refine dr ?_
  exact bT (by simp [h1])
 ·refine dr ?_
  refine congrArg CB ?_
  rw [Bool.eq_iff_iff]; simp [h1,zS]
def Qy:XC:=(.s (.r [.ex 1 (.box 0),.m1 2 .n]) (.s (.s (.r [.f1 3 1 1,.l1 4 1 3,.b1 5 .lss 4 (.i 1),.mv 6 5,.gf 7 (.fa 1 1) 6,.gf 8 (.ld false 1 7) 6,.gf 9 (.bin .gtr 8 (.i 4)) 6,.ex 10 (.pick 6 .y 9),.mv 11 10,.gf 12 (.fa 0 1) 11,.gf 13 (.ld false 1 12) 11,.gf 14 (.call 79 [13]) 11,.gf 15 (.un .not 14) 11,.ex 16 (.pick 11 .y 15)]) (.cnd 16 (.s (.r [.m1 2 .n]) .ret) .skip)) (.s (.s (.r [.f1 17 1 1,.l1 18 1 17,.b1 19 .neq 18 (.i 1)]) (.cnd 19 (.s (.r [.f1 20 2 1,.l1 21 1 20,.ex 22 (.bin .eql 21 (.s [])),.mv 2 22]) .ret) .skip)) (.s (.r [.f1 23 2 1,.l1 24 1 23,.c1 25 100 [24],.mv 2 25]) .ret))))
theorem Qz:compF Tryz.prog [] 193=some (Qy.ac,[(.t 2)],26):=by kernel_rfl
theorem zfS (W0:World) (hM:HM W0) (m:Mark):Fn Tryz.prog W0 193 [eMark m] (.c (CB (mok m))) []:=by
 refine fnX (c:=Qy) mixed Qz (by simp) rfl fun hg=>?_
 refine dr ?_
 refine cP ?_ ?_<;>intro h1
 ·refine dr ?_
  exact bF (by simp [mok]; omega)
 refine dr ?_
 refine cP ?_ ?_<;>intro h2
 ·refine dr ?_
  exact bF (by simp [mok]; omega)
 refine dEr ?_
 repeat (refine c0 (ji W0 hM _) rfl ?_; first | refine dEr ?_ | exact dz)
 refine cP ?_ ?_<;>intro h3
 ·refine dr ?_
  exact bF (by simp [mok,h3])
 have hk:(decide (1≤m.kind)&&decide (m.kind≤4))=true:=by simp; omega
 refine dr ?_
 refine cP ?_ ?_<;>intro h4
 ·refine dr ?_
  refine congrArg CB ?_
  rw [mok,hk,h3,Bool.eq_iff_iff]
  simp [h4,zV]
  intro e; rw [e]; rfl
 ·refine dEr ?_
  repeat (refine c0 (zej W0 _) rfl ?_; first | refine dEr ?_ | exact dz)
  refine congrArg CB ?_
  rw [mok,hk,h3,Bool.eq_iff_iff]
  simp [h4]
end Go.Proofs.YteheahbjaddooaaGreatDoor

namespace Go.Proofs.YteheahbjaddooaaGreatDoor
set_option linter.unusedSimpArgs false
set_option linter.unusedVariables false
open Go Go.RowKit
def Jy:XC:=(.s (.r [.m1 2 .n]) (.s (.s (.r [.mv 8 0,.n1 9 8,.b1 10 .gtr 9 (.i 32)]) (.cnd 10 (.s (.r [.m1 2 .n]) .ret) .skip)) (.s (.s (.r [.mv 11 0,.n1 12 11,.m1 13 (.i 0)]) (.blk 0 (.loop (.s (.r [.b1 14 .lss 13 12]) (.s (.cnd 14 .skip (.exit 0)) (.s (.blk 1 (.s (.r [.mv 15 13,.i1 16 3 11 13,.l2 17 3 16,.ex 4 (.alloc [sE,(I 0),sE]),.mv 3 15,.s1 3 4 17]) (.s (.s (.r [.l2 18 3 4,.c1 19 193 [18],.ex 20 (.un .not 19)]) (.cnd 20 (.s (.r [.m1 2 .n]) .ret) .skip)) (.s (.s (.d [.mv 21 3,.b1 22 .gtr 21 (.i 0),.mv 23 22,.gt 24 (.mv 0) 23,.gt 25 (.mv 3) 23,.gt 26 (.bin .sub 25 (.i 1)) 23,.gt 27 (.ia 3 24 26) 23,.gt 28 (.fa 0 27) 23,.gt 29 (.ld false 1 28) 23,.gt 30 (.fa 0 4) 23,.gt 31 (.ld false 1 30) 23,.gt 32 (.bin .geq 29 31) 23,.ex 33 (.pick 23 32 .n)]) (.cnd 33 (.s (.r [.m1 2 .n]) .ret) .skip)) (.s (.s (.r [.f1 34 0 4,.l1 35 1 34,.c1 36 159 [35],.mv 5 36]) (.s (.r [.mv 37 5,.ex 38 (.bin .neq 37 (.s [47]))]) (.cnd 38 (.s (.r [.mv 40 0,.mv 41 5,.c1 42 155 [40,41],.mv 39 42,.e1 43 39 0,.e1 44 39 1,.ex 6 (.alloc [sE,(I 0),sE]),.s1 3 6 43,.mv 7 44]) (.s (.r [.mv 45 7,.ex 46 (.un .not 45),.mv 47 46,.gf 48 (.ld true 3 6) 47,.gf 49 (.call 157 [48]) 47,.gf 50 (.un .not 49) 47,.ex 51 (.pick 47 .y 50)]) (.cnd 51 (.s (.r [.m1 2 .n]) .ret) .skip))) .skip))) (.s (.r [.f1 52 1 4,.l1 53 1 52,.b1 54 .eql 53 (.i 3),.mv 55 54,.gf 56 (.fa 1 4) 55,.gf 57 (.ld false 1 56) 55,.gf 58 (.bin .eql 57 (.i 4)) 55,.ex 59 (.pick 55 .y 58),.mv 60 59,.gt 61 (.mv 0) 60,.gt 62 (.fa 0 4) 60,.gt 63 (.ld false 1 62) 60,.gt 64 (.call 194 [61,63]) 60,.ex 65 (.pick 60 64 .n)]) (.cnd 65 (.s (.r [.m1 2 .n]) .ret) .skip))))))) (.r [.b1 66 .add 13 (.i 1),.mv 13 66]))))))) (.s (.r [.m1 2 .y]) .ret))))
theorem Jz:compF Tryz.prog [] 154=some (Jy.ac,[(.t 2)],67):=by kernel_rfl
theorem zer (W0:World) (hM:HM W0) (l:List Mark):Fn Tryz.prog W0 154 [eMarks l] (.c (CB (lOk l))) []:=by
 refine fnX (c:=Jy) mixed Jz (by simp) rfl fun hg=>?_
 have g1:=goodRow (hg _ (by simp:eMarks l∈_))
 have no:¬ (lOk l=true)→CB false=CB (lOk l):=fun h=>bF (by rw [Bool.eq_false_iff]; exact h)
 refine dr ?_
 refine cP ?_ ?_<;>intro h1
 ·refine dr ?_
  exact no fun h=>by have:=(qn.1 h).1; omega
 refine dr ?_
 refine lp (σ:=Nat) (fun k=>[(0,.c (eMarks l)),(11,.c (eMarks l)),(12,I l.length),(13,I k)]) (fun _=>[]) (fun k=>k≤l.length∧∀ j (h:j < l.length),j < k→mok l[j]=true∧inD l l[j].path=true∧(0 < j→ltS l[j - 1].path l[j].path=true)∧(2 < l[j].kind→bare2 l l[j].path=false)) (fun k=>l.length - k) 0 ⟨by simp,by simp⟩ ?_ ?_
 ·refine dr ?_
  trivial
 rintro k ⟨hk,ha⟩
 refine dr ?_
 refine cP ?_ ?_<;>intro h2
 rotate_left
 ·refine dr ?_
  have hs:Srt Mark.path l:=yP.2 fun j hj=>(ha (j+1) hj (by omega)).2.2.1 (by omega)
  have hm:∀ m∈l,mok m=true:=fun m hm=>by
   obtain ⟨j,hj,rfl⟩:=List.mem_iff_getElem.1 hm
   exact (ha j hj (by omega)).1
  refine bT (qn.2 ⟨by omega,hs,hm,fun m hm'=>?_,fun m hm' hk3=>?_⟩)
  ·obtain ⟨j,hj,rfl⟩:=List.mem_iff_getElem.1 hm'
   exact (ha j hj (by omega)).2.1
  ·rw [← zj ⟨hs,hm⟩ (yb (hm m hm'))]
   obtain ⟨j,hj,rfl⟩:=List.mem_iff_getElem.1 hm'
   exact (ha j hj (by omega)).2.2.2 hk3
 have hk':k < l.length:=by omega
 refine dEr ?_
 repeat (refine c0 (zfS W0 hM l[k]) rfl ?_; first | refine dEr ?_ | exact dz)
 refine cP ?_ ?_<;>intro h3
 ·refine dr ?_
  exact no fun h=>by have:=(qn.1 h).2.2.1 _ (List.getElem_mem hk'); rw [h3] at this; cases this
 have hok:mok l[k]=true:=h3
 refine dr ?_
 refine cP ?_ ?_<;>intro h7
 ·refine dr ?_
  repeat (refine aM (j:=k - 1) (by omega) (by omega) ?_; first | refine dr ?_ | exact dz)
  cases h8:ltS l[k - 1].path l[k].path
  ·refine dr ?_
   exact no fun h=>by
    have:=yP.1 (qn.1 h).2.1 (k - 1) (by omega)
    simp only [show k - 1+1=k by omega] at this
    rw [h8] at this; cases this
  ·have hlast:0 < k→ltS l[k - 1].path l[k].path=true:=fun _=>h8
   refine dr ?_
   refine dEr ?_
   repeat (refine c0 (jk W0 hM _) rfl ?_; first | refine dEr ?_ | exact dz)
   refine cP ?_ ?_<;>intro h9
   ·have hc:=zfR W0 l (pUp l[k].path)
    rw [zdA] at hc
    refine dEr ?_
    repeat (refine c0 hc rfl ?_; first | refine dEr ?_ | exact dz)
    refine cP ?_ ?_<;>intro h90
    ·refine dr ?_
     exact no fun h=>by
      rcases qg.1 ((qn.1 h).2.2.2.1 _ (List.getElem_mem hk')) with h' | ⟨m,h1,_⟩
      ·exact h9 h'
      ·rw [h1] at h90; cases h90
    ·obtain ⟨m,hm⟩:=Option.isSome_iff_exists.1 h90
     have hc2:=zeC W0 ((mfind l (pUp l[k].path)).getD noM)
     refine dEr ?_
     repeat (refine c0 hc2 rfl ?_; first | refine dEr ?_ | exact dz)
     refine cP ?_ ?_<;>intro h10
     ·refine dr ?_
      exact no fun h=>by
       rcases qg.1 ((qn.1 h).2.2.2.1 _ (List.getElem_mem hk')) with h' | ⟨m,h1,h2⟩
       ·exact h9 h'
       ·rw [h1] at h10; exact h10 h2
     ·have hin:inD l l[k].path=true:=qg.2 (.inr ⟨m,hm,by rw [hm] at h10; exact h10⟩)
      refine dr ?_
      refine cP ?_ ?_<;>intro h11
      ·refine dEr ?_
       repeat (refine c0 (jg W0 hM l _) rfl ?_; first | refine dEr ?_ | exact dz)
       refine cP ?_ ?_<;>intro h13
       ·refine dr ?_
        exact no fun h=>by
         have:=(qn.1 h).2.2.2.2 _ (List.getElem_mem hk') (by omega)
         rw [zj (LG.of h) (yb hok)] at h13
         rw [this] at h13; cases h13
       ·refine dr ?_
        refine ⟨k+1,⟨by omega,fun j h hj=>?_⟩,by omega,?_⟩
        ·by_cases e:j=k
         ·subst e; exact ⟨hok,hin,hlast,fun _=>h13⟩
         ·exact ha j h (by omega)
        ·refine dr ?_
         trivial
      ·refine dr ?_
       refine cP ?_ ?_<;>intro h12
       ·refine dEr ?_
        repeat (refine c0 (jg W0 hM l _) rfl ?_; first | refine dEr ?_ | exact dz)
        refine cP ?_ ?_<;>intro h13
        ·refine dr ?_
         exact no fun h=>by
          have:=(qn.1 h).2.2.2.2 _ (List.getElem_mem hk') (by omega)
          rw [zj (LG.of h) (yb hok)] at h13
          rw [this] at h13; cases h13
        ·refine dr ?_
         refine ⟨k+1,⟨by omega,fun j h hj=>?_⟩,by omega,?_⟩
         ·by_cases e:j=k
          ·subst e; exact ⟨hok,hin,hlast,fun _=>h13⟩
          ·exact ha j h (by omega)
         ·refine dr ?_
          trivial
       ·refine dr ?_
        refine ⟨k+1,⟨by omega,fun j h hj=>?_⟩,by omega,?_⟩
        ·by_cases e:j=k
         ·subst e; exact ⟨hok,hin,hlast,fun h=>by have:=ya hok; omega⟩
         ·exact ha j h (by omega)
        ·refine dr ?_
         trivial
   ·have hin:inD l l[k].path=true:=qg.2 (.inl h9)
    refine dr ?_
    refine cP ?_ ?_<;>intro h11
    ·refine dEr ?_
     repeat (refine c0 (jg W0 hM l _) rfl ?_; first | refine dEr ?_ | exact dz)
     refine cP ?_ ?_<;>intro h13
     ·refine dr ?_
      exact no fun h=>by
       have:=(qn.1 h).2.2.2.2 _ (List.getElem_mem hk') (by omega)
       rw [zj (LG.of h) (yb hok)] at h13
       rw [this] at h13; cases h13
     ·refine dr ?_
      refine ⟨k+1,⟨by omega,fun j h hj=>?_⟩,by omega,?_⟩
      ·by_cases e:j=k
       ·subst e; exact ⟨hok,hin,hlast,fun _=>h13⟩
       ·exact ha j h (by omega)
      ·refine dr ?_
       trivial
    ·refine dr ?_
     refine cP ?_ ?_<;>intro h12
     ·refine dEr ?_
      repeat (refine c0 (jg W0 hM l _) rfl ?_; first | refine dEr ?_ | exact dz)
      refine cP ?_ ?_<;>intro h13
      ·refine dr ?_
       exact no fun h=>by
        have:=(qn.1 h).2.2.2.2 _ (List.getElem_mem hk') (by omega)
        rw [zj (LG.of h) (yb hok)] at h13
        rw [this] at h13; cases h13
      ·refine dr ?_
       refine ⟨k+1,⟨by omega,fun j h hj=>?_⟩,by omega,?_⟩
       ·by_cases e:j=k
        ·subst e; exact ⟨hok,hin,hlast,fun _=>h13⟩
        ·exact ha j h (by omega)
       ·refine dr ?_
        trivial
     ·refine dr ?_
      refine ⟨k+1,⟨by omega,fun j h hj=>?_⟩,by omega,?_⟩
      ·by_cases e:j=k
       ·subst e; exact ⟨hok,hin,hlast,fun h=>by have:=ya hok; omega⟩
       ·exact ha j h (by omega)
      ·refine dr ?_
       trivial
 ·have hlast:0 < k→ltS l[k - 1].path l[k].path=true:=fun h=>by omega
  refine dr ?_
  refine dEr ?_
  repeat (refine c0 (jk W0 hM _) rfl ?_; first | refine dEr ?_ | exact dz)
  refine cP ?_ ?_<;>intro h9
  ·have hc:=zfR W0 l (pUp l[k].path)
   rw [zdA] at hc
   refine dEr ?_
   repeat (refine c0 hc rfl ?_; first | refine dEr ?_ | exact dz)
   refine cP ?_ ?_<;>intro h90
   ·refine dr ?_
    exact no fun h=>by
     rcases qg.1 ((qn.1 h).2.2.2.1 _ (List.getElem_mem hk')) with h' | ⟨m,h1,_⟩
     ·exact h9 h'
     ·rw [h1] at h90; cases h90
   ·obtain ⟨m,hm⟩:=Option.isSome_iff_exists.1 h90
    have hc2:=zeC W0 ((mfind l (pUp l[k].path)).getD noM)
    refine dEr ?_
    repeat (refine c0 hc2 rfl ?_; first | refine dEr ?_ | exact dz)
    refine cP ?_ ?_<;>intro h10
    ·refine dr ?_
     exact no fun h=>by
      rcases qg.1 ((qn.1 h).2.2.2.1 _ (List.getElem_mem hk')) with h' | ⟨m,h1,h2⟩
      ·exact h9 h'
      ·rw [h1] at h10; exact h10 h2
    ·have hin:inD l l[k].path=true:=qg.2 (.inr ⟨m,hm,by rw [hm] at h10; exact h10⟩)
     refine dr ?_
     refine cP ?_ ?_<;>intro h11
     ·refine dEr ?_
      repeat (refine c0 (jg W0 hM l _) rfl ?_; first | refine dEr ?_ | exact dz)
      refine cP ?_ ?_<;>intro h13
      ·refine dr ?_
       exact no fun h=>by
        have:=(qn.1 h).2.2.2.2 _ (List.getElem_mem hk') (by omega)
        rw [zj (LG.of h) (yb hok)] at h13
        rw [this] at h13; cases h13
      ·refine dr ?_
       refine ⟨k+1,⟨by omega,fun j h hj=>?_⟩,by omega,?_⟩
       ·by_cases e:j=k
        ·subst e; exact ⟨hok,hin,hlast,fun _=>h13⟩
        ·exact ha j h (by omega)
       ·refine dr ?_
        trivial
     ·refine dr ?_
      refine cP ?_ ?_<;>intro h12
      ·refine dEr ?_
       repeat (refine c0 (jg W0 hM l _) rfl ?_; first | refine dEr ?_ | exact dz)
       refine cP ?_ ?_<;>intro h13
       ·refine dr ?_
        exact no fun h=>by
         have:=(qn.1 h).2.2.2.2 _ (List.getElem_mem hk') (by omega)
         rw [zj (LG.of h) (yb hok)] at h13
         rw [this] at h13; cases h13
       ·refine dr ?_
        refine ⟨k+1,⟨by omega,fun j h hj=>?_⟩,by omega,?_⟩
        ·by_cases e:j=k
         ·subst e; exact ⟨hok,hin,hlast,fun _=>h13⟩
         ·exact ha j h (by omega)
        ·refine dr ?_
         trivial
      ·refine dr ?_
       refine ⟨k+1,⟨by omega,fun j h hj=>?_⟩,by omega,?_⟩
       ·by_cases e:j=k
        ·subst e; exact ⟨hok,hin,hlast,fun h=>by have:=ya hok; omega⟩
        ·exact ha j h (by omega)
       ·refine dr ?_
        trivial
  ·have hin:inD l l[k].path=true:=qg.2 (.inl h9)
   refine dr ?_
   refine cP ?_ ?_<;>intro h11
   ·refine dEr ?_
    repeat (refine c0 (jg W0 hM l _) rfl ?_; first | refine dEr ?_ | exact dz)
    refine cP ?_ ?_<;>intro h13
    ·refine dr ?_
     exact no fun h=>by
      have:=(qn.1 h).2.2.2.2 _ (List.getElem_mem hk') (by omega)
      rw [zj (LG.of h) (yb hok)] at h13
      rw [this] at h13; cases h13
    ·refine dr ?_
     refine ⟨k+1,⟨by omega,fun j h hj=>?_⟩,by omega,?_⟩
     ·by_cases e:j=k
      ·subst e; exact ⟨hok,hin,hlast,fun _=>h13⟩
      ·exact ha j h (by omega)
     ·refine dr ?_
      trivial
   ·refine dr ?_
    refine cP ?_ ?_<;>intro h12
    ·refine dEr ?_
     repeat (refine c0 (jg W0 hM l _) rfl ?_; first | refine dEr ?_ | exact dz)
     refine cP ?_ ?_<;>intro h13
     ·refine dr ?_
      exact no fun h=>by
       have:=(qn.1 h).2.2.2.2 _ (List.getElem_mem hk') (by omega)
       rw [zj (LG.of h) (yb hok)] at h13
       rw [this] at h13; cases h13
     ·refine dr ?_
      refine ⟨k+1,⟨by omega,fun j h hj=>?_⟩,by omega,?_⟩
      ·by_cases e:j=k
       ·subst e; exact ⟨hok,hin,hlast,fun _=>h13⟩
       ·exact ha j h (by omega)
      ·refine dr ?_
       trivial
    ·refine dr ?_
     refine ⟨k+1,⟨by omega,fun j h hj=>?_⟩,by omega,?_⟩
     ·by_cases e:j=k
      ·subst e; exact ⟨hok,hin,hlast,fun h=>by have:=ya hok; omega⟩
      ·exact ha j h (by omega)
     ·refine dr ?_
      trivial
def JA:XC:=(.s (.r [.ex 4 (.asn (.k .nil) 3 39),.m1 5 .n]) (.s (.s (.r [.mv 13 0,.c1 14 154 [13],.ex 15 (.un .not 14),.mv 16 15,.gf 17 (.mv 1) 16,.gf 18 (.call 43 [17]) 16,.gf 19 (.un .not 18) 16,.ex 20 (.pick 16 .y 19)]) (.cnd 20 (.s (.r [.ex 4 (.asn (.k .nil) 3 39),.m1 5 .n]) .ret) .skip)) (.s (.r [.ex 6 (.asn (.k .nil) 3 39)]) (.s (.s (.r [.mv 21 1,.n1 22 21,.m1 23 (.i 0)]) (.blk 0 (.loop (.s (.r [.b1 24 .lss 23 22]) (.s (.cnd 24 .skip (.exit 0)) (.s (.blk 1 (.s (.r [.i1 25 3 21 23,.l2 26 3 25,.ex 8 (.alloc [sE,(B false),sE]),.s1 3 8 26]) (.s (.r [.mv 28 0,.f1 29 0 8,.l1 30 1 29,.c1 31 155 [28,30],.mv 27 31,.e1 32 27 0,.e1 33 27 1,.ex 9 (.alloc [sE,(I 0),sE]),.s1 3 9 32,.mv 10 33]) (.s (.r [.mv 34 10,.ex 35 (.un .not 34),.mv 36 35,.gt 37 (.mv 0) 36,.gt 38 (.fa 0 8) 36,.gt 39 (.ld false 1 38) 36,.gt 40 (.call 156 [37,39]) 36,.gt 41 (.un .not 40) 36,.ex 42 (.pick 36 41 .n)]) (.cnd 42 (.r [.mv 43 6,.l2 44 3 8,.ex 45 (.bsl 3 39 [44]),.ex 46 (.app false 3 40 39 43 45),.a1 6 46 3 39]) .skip))))) (.r [.b1 47 .add 23 (.i 1),.mv 23 47]))))))) (.s (.s (.r [.mv 48 0,.n1 49 48,.m1 50 (.i 0)]) (.blk 2 (.loop (.s (.r [.b1 51 .lss 50 49]) (.s (.cnd 51 .skip (.exit 2)) (.s (.blk 3 (.s (.r [.i1 52 3 48 50,.l2 53 3 52,.ex 12 (.alloc [sE,(I 0),sE]),.s1 3 12 53]) (.s (.r [.f1 54 1 12,.l1 55 1 54,.b1 56 .neq 55 (.i 3)]) (.cnd 56 (.d [.mv 57 6,.f1 58 0 12,.l1 59 1 58,.l2 60 3 12,.c1 61 157 [60],.f1 62 2 12,.l1 63 1 62,.ex 64 (.build [sE,(B false),sE] [(0,(1,59)),(1,(1,61)),(2,(1,63))]),.ex 65 (.bsl 3 39 [64]),.ex 66 (.app false 3 40 39 57 65),.a1 6 66 3 39]) .skip)))) (.r [.b1 67 .add 50 (.i 1),.mv 50 67]))))))) (.s (.s (.r [.mv 68 6,.n1 69 68,.b1 70 .gtr 69 (.i 16)]) (.cnd 70 (.s (.r [.ex 4 (.asn (.k .nil) 3 39),.m1 5 .n]) .ret) .skip)) (.s (.r [.mv 71 6,.o1 72 90 [71]]) (.s (.r [.mv 73 6,.a1 4 73 3 39,.m1 5 .y]) .ret))))))))
theorem JB:compF Tryz.prog [90] 98=some (JA.ac,[(.t 4),(.t 5)],74):=by kernel_rfl
theorem zes (W0:World) (hM:HM W0) (l:List Mark) (t:List Ent):Fn Tryz.prog W0 98 [eMarks l,eEnts t] (.c (eEntsO (lOn l t))) []:=by
 refine fnX (c:=JA) mixed JB (by simp) rfl fun hg=>?_
 refine dEr ?_
 repeat (refine c0 (zer W0 hM _) rfl ?_; first | refine dEr ?_ | exact dz)
 refine cP ?_ ?_<;>intro h1
 ·refine dr ?_
  rw [lOn,if_neg (by simp [h1])]<;>rfl
 refine dEr ?_
 repeat (refine c0 (jl W0 hM _) rfl ?_; first | refine dEr ?_ | exact dz)
 refine cP ?_ ?_<;>intro h2
 ·refine dr ?_
  rw [lOn,if_neg (by simp [h2])]<;>rfl
 have gl:=LG.of h1
 have gt:=TG.of h2
 have hll:=(qn.1 h1).1
 have htl:=gt.len
 have e:lOn l t=if (onX l t).length≤16 then some (onRaw l t) else none:=by rw [lOn,if_pos (by simp [h1,h2]),zkh h1 gt.srt]
 rw [e]
 refine dr ?_
 refine lp2 (fun (k:Nat) (out:List Ent)=>[(0,.c (eMarks l)),(6,.own 96 out.length),(21,.c (eEnts t)),(22,I t.length),(23,I k)]) (fun _ out=>[(96,.row (out.map eEnt) 3 39)]) (fun k out=>k≤t.length∧out=(t.take k).filter (fun e=>!(mfind l e.path).isSome&&!hides l e.path)∧out.length≤k) (fun k _=>t.length - k) 0 [] ⟨by simp,rfl,by simp⟩ ?_ ?_
 ·refine dr ?_
  trivial
 rintro k out ⟨hk,ho,hle⟩
 refine dr ?_
 refine cP ?_ ?_<;>intro h3
 ·have hk':k < t.length:=by omega
  have hc:=zfR W0 l t[k].path
  rw [zdA] at hc
  have hh:=zeB W0 hM l t[k].path
  rw [zh2 gl (gt.path (List.getElem_mem hk'))] at hh
  refine dEr ?_
  repeat (refine c0 hc rfl ?_; first | refine dEr ?_ | exact dz)
  refine cP ?_ ?_<;>intro h4
  ·refine dEr ?_
   repeat (refine c0 hh rfl ?_; first | refine dEr ?_ | exact dz)
   refine cP ?_ ?_<;>intro h5
   ·refine dr ?_
    repeat ((first | refine oB (by simp; omega) ?_ | refine oB (by simp) ?_); first | refine dr ?_ | exact dz)
    refine ⟨k+1,out++[t[k]],⟨by omega,by rw [jK hk' (by simp [h4,h5]),ho],by simp; omega⟩,by omega,?_⟩
    refine dr ?_
    repeat (refine oB (by simp<;>rfl) ?_; first | refine dr ?_ | exact dz)
    trivial
   ·refine dr ?_
    refine ⟨k+1,out,⟨by omega,by rw [jJ hk' (by simp [h5]),ho],by omega⟩,by omega,?_⟩
    refine dr ?_
    trivial
  ·refine dr ?_
   refine ⟨k+1,out,⟨by omega,by rw [jJ hk' (by simp [h4]),ho],by omega⟩,by omega,?_⟩
   refine dr ?_
   trivial
 have hkl:k=t.length:=by omega
 rw [hkl,List.take_length] at ho
 have hX:onX l t=out++l.filterMap onEnt:=by rw [onX,ho]
 have hout:out.length≤16:=by omega
 clear ho hle hk h3 hkl
 rw [hX]
 generalize hoo:out=o0 at *
 refine dr ?_
 refine lp2 (fun (k:Nat) (out:List Ent)=>[(6,.own 96 out.length),(48,.c (eMarks l)),(49,I l.length),(50,I k)]) (fun _ out=>[(96,.row (out.map eEnt) 3 39)]) (fun k out=>k≤l.length∧out=o0++(l.take k).filterMap onEnt∧out.length≤o0.length+k) (fun k _=>l.length - k) 0 o0 ⟨by simp,by simp,by simp⟩ ?_ ?_
 ·refine dr ?_
  trivial
 clear hoo
 rintro k out ⟨hk,ho,hle⟩
 refine dr ?_
 refine cP ?_ ?_<;>intro h3
 ·have hk':k < l.length:=by omega
  have hmk:=ya (gl.ok _ (List.getElem_mem hk'))
  have hn:o0++(l.take (k+1)).filterMap onEnt=out++(onEnt l[k]).toList:=by rw [zgR hk',← List.append_assoc,← ho]
  refine dr ?_
  refine cP ?_ ?_<;>intro h4
  ·have he:onEnt l[k]=some ⟨l[k].path,decide (l[k].kind=2∨l[k].kind=4),l[k].data⟩:=by
    unfold onEnt
    by_cases h5:l[k].kind=1
    ·rw [if_pos h5]; simp [h5]
    ·rw [if_neg h5,if_pos (by omega)]
     have:=zjH (gl.ok _ (List.getElem_mem hk')) h5
     rw [this]; simp; omega
   rw [he] at hn
   refine dEr ?_
   repeat ((first | refine c0 (zeC W0 l[k]) rfl ?_ | refine oB (by simp; omega) ?_ | refine oB (by simp) ?_); first | refine dEr ?_ | exact dz)
   refine ⟨k+1,_,⟨by omega,hn.symm,by simp; omega⟩,by omega,?_⟩
   refine dr ?_
   repeat (refine oB (by simp<;>rfl) ?_; first | refine dr ?_ | exact dz)
   trivial
  ·have he:onEnt l[k]=none:=by unfold onEnt; rw [if_neg (by omega),if_neg (by omega)]
   rw [he] at hn
   refine dr ?_
   refine ⟨k+1,out,⟨by omega,by rw [hn]; simp,by omega⟩,by omega,?_⟩
   refine dr ?_
   trivial
 have hkl:k=l.length:=by omega
 rw [hkl,List.take_length] at ho
 rw [← ho]
 have hX2:onX l t=out:=by rw [hX,ho]
 refine dr ?_
 refine cP ?_ ?_<;>intro h5
 ·refine dr ?_
  rw [if_neg (by omega)]<;>rfl
 ·refine dr ?_
  refine oW ((zf3 W0 out (by omega)).swp 1 96) rfl ⟨rfl,trivial⟩ rfl rfl yL fun S hS=>⟨rfl,?_⟩
  refine dEr ?_
  repeat (refine oB (by simp [hS.len]) ?_; first | refine dEr ?_ | exact dz)
  rw [← hX2] at hS
  rw [if_pos (by omega),zkk h1 gt.srt hS]<;>rfl
end Go.Proofs.YteheahbjaddooaaGreatDoor

namespace Go.Proofs.YteheahbjaddooaaGreatDoor
set_option linter.unusedSimpArgs false
set_option linter.unusedVariables false
open Go Go.RowKit
def JW:XC:=(.s (.r [.ex 4 (.asn (.k .nil) 1 9)]) (.s (.s (.r [.mv 8 0,.c1 9 43 [8],.ex 10 (.un .not 9),.mv 11 10,.gf 12 (.mv 1) 11,.gf 13 (.call 43 [12]) 11,.gf 14 (.un .not 13) 11,.ex 15 (.pick 11 .y 14)]) (.cnd 15 (.s (.r [.ex 4 (.asn (.k .nil) 1 9)]) .ret) .skip)) (.s (.r [.ex 5 (.asn (.k .nil) 1 9)]) (.s (.r [.m1 6 (.i 0),.m1 7 (.i 0)]) (.s (.blk 0 (.loop (.s (.s (.r [.mv 16 6,.mv 17 0,.n1 18 17,.b1 19 .lss 16 18,.mv 20 19,.gf 21 (.mv 7) 20,.gf 22 (.mv 1) 20,.gf 23 (.len false 22) 20,.gf 24 (.bin .lss 21 23) 20,.ex 25 (.pick 20 .y 24)]) (.cnd 25 .skip (.exit 0))) (.blk 1 (.blk 2 (.s (.d [.mv 48 7,.mv 49 1,.n1 50 49,.b1 51 .eql 48 50,.mv 52 51,.gf 53 (.mv 6) 52,.gf 54 (.mv 0) 52,.gf 55 (.len false 54) 52,.gf 56 (.bin .lss 53 55) 52,.gf 57 (.mv 56) 52,.gt 58 (.mv 0) 57,.gt 59 (.mv 6) 57,.gt 60 (.ia 3 58 59) 57,.gt 61 (.fa 0 60) 57,.gt 62 (.ld false 1 61) 57,.gt 63 (.mv 1) 57,.gt 64 (.mv 7) 57,.gt 65 (.ia 3 63 64) 57,.gt 66 (.fa 0 65) 57,.gt 67 (.ld false 1 66) 57,.gt 68 (.bin .lss 62 67) 57,.gf 69 (.pick 57 68 .n) 52,.ex 70 (.pick 52 .y 69),.mv 47 70]) (.cnd 47 (.s (.r [.mv 71 5,.mv 72 0,.mv 73 6,.i1 74 3 72 73,.f1 75 0 74,.l1 76 1 75,.ex 77 (.bsl 1 9 [76]),.ex 78 (.app false 1 16 9 71 77),.a1 5 78 1 9]) (.r [.mv 79 6,.b1 80 .add 79 (.i 1),.mv 6 80])) (.s (.d [.mv 82 6,.mv 83 0,.n1 84 83,.b1 85 .eql 82 84,.mv 86 85,.gf 87 (.mv 1) 86,.gf 88 (.mv 7) 86,.gf 89 (.ia 3 87 88) 86,.gf 90 (.fa 0 89) 86,.gf 91 (.ld false 1 90) 86,.gf 92 (.mv 0) 86,.gf 93 (.mv 6) 86,.gf 94 (.ia 3 92 93) 86,.gf 95 (.fa 0 94) 86,.gf 96 (.ld false 1 95) 86,.gf 97 (.bin .lss 91 96) 86,.ex 98 (.pick 86 .y 97),.mv 81 98]) (.cnd 81 (.s (.r [.mv 99 5,.mv 100 1,.mv 101 7,.i1 102 3 100 101,.f1 103 0 102,.l1 104 1 103,.ex 105 (.bsl 1 9 [104]),.ex 106 (.app false 1 16 9 99 105),.a1 5 106 1 9]) (.r [.mv 107 7,.b1 108 .add 107 (.i 1),.mv 7 108])) (.s (.s (.d [.mv 26 0,.mv 27 6,.i1 28 3 26 27,.l2 29 3 28,.mv 30 1,.mv 31 7,.i1 32 3 30 31,.l2 33 3 32,.ex 34 (.beq true [.s,.b,.s] 29 33)]) (.cnd 34 (.r [.mv 35 5,.mv 36 0,.mv 37 6,.i1 38 3 36 37,.f1 39 0 38,.l1 40 1 39,.ex 41 (.bsl 1 9 [40]),.ex 42 (.app false 1 16 9 35 41),.a1 5 42 1 9]) .skip)) (.s (.r [.mv 43 6,.b1 44 .add 43 (.i 1),.mv 6 44]) (.r [.mv 45 7,.b1 46 .add 45 (.i 1),.mv 7 46])))))))))))) (.s (.r [.mv 109 5,.a1 4 109 1 9]) .ret))))))
theorem JX:compF Tryz.prog [] 158=some (JW.ac,[(.t 4)],110):=by kernel_rfl
def turnedO (a b:List Ent):List Str:=if (tOk a&&tOk b)=true then turned a b else []
theorem zjz {x:Ent} {a:List Ent}:mergeT (x::a) []=x.path::mergeT a []:=by rw [mergeT]
theorem zjy {x:Ent} {a:List Ent}:mergeT [] (x::a)=x.path::mergeT [] a:=by rw [mergeT]
theorem zjw {x y:Ent} {a b:List Ent}:mergeT (x::a) (y::b)=if ltS x.path y.path=true then x.path::mergeT a (y::b) else if ltS y.path x.path=true then y.path::mergeT (x::a) b else if x=y then mergeT a b else x.path::mergeT a b:=by rw [mergeT]
theorem zef (W0:World) (hM:HM W0) (a b:List Ent):Fn Tryz.prog W0 158 [eEnts a,eEnts b] (.c (eStrs (turnedO a b))) []:=by
 refine fnX (c:=JW) mixed JX (by simp) rfl fun hg=>?_
 refine dEr ?_
 repeat (refine c0 (jl W0 hM _) rfl ?_; first | refine dEr ?_ | exact dz)
 refine cP ?_ ?_<;>intro h1
 ·refine dr ?_
  repeat (refine oB (by simp) ?_; first | refine dr ?_ | exact dz)
  rw [turnedO,if_neg (by simp [h1])]<;>rfl
 refine dEr ?_
 repeat (refine c0 (jl W0 hM _) rfl ?_; first | refine dEr ?_ | exact dz)
 refine cP ?_ ?_<;>intro h2
 ·refine dr ?_
  repeat (refine oB (by simp) ?_; first | refine dr ?_ | exact dz)
  rw [turnedO,if_neg (by simp [h2])]<;>rfl
 have ga:=TG.of h1
 have gb:=TG.of h2
 have la:=ga.len
 have lb:=gb.len
 rw [turnedO,if_pos (by simp [h1,h2]),← zjB ga gb]
 refine dr ?_
 refine lp3 (fun (i j:Nat) (out:List Str)=>[(0,.c (eEnts a)),(1,.c (eEnts b)),(5,.own 80 out.length),(6,I i),(7,I j)]) (fun _ _ out=>[(80,.row (out.map CS) 1 9)])
  (fun i j out=>i≤a.length∧j≤b.length∧out++mergeT (a.drop i) (b.drop j)=mergeT a b∧out.length≤i+j) (fun i j _=>a.length+b.length - i - j) 0 0 [] ⟨by simp,by simp,by simp,by simp⟩ ?_ ?_
 ·refine dr ?_
  trivial
 rintro i j out ⟨hi,hj,ho,hle⟩
 have stepA:∀ (h:i < a.length),j=b.length∨(∃ h':j < b.length,ltS a[i].path b[j].path=true)→(out++[a[i].path])++mergeT (a.drop (i+1)) (b.drop j)=mergeT a b:=fun h hc=>by
  rw [← ho,List.drop_eq_getElem_cons h]
  rcases hc with hc | ⟨h',hc⟩
  ·rw [List.drop_of_length_le (l:=b) (by omega),zjz]; simp
  ·rw [List.drop_eq_getElem_cons h',zjw,if_pos hc]; simp
 have stepB:∀ (h:j < b.length),i=a.length∨(∃ h':i < a.length,ltS a[i].path b[j].path=false∧ltS b[j].path a[i].path=true)→(out++[b[j].path])++mergeT (a.drop i) (b.drop (j+1))=mergeT a b:=fun h hc=>by
  rw [← ho,List.drop_eq_getElem_cons (l:=b) h]
  rcases hc with hc | ⟨h',hc,hc2⟩
  ·rw [List.drop_of_length_le (l:=a) (by omega),zjy]; simp
  ·rw [List.drop_eq_getElem_cons h',zjw,if_neg (by rw [hc]; simp),if_pos hc2]; simp
 refine dr ?_
 refine cP ?_ ?_<;>intro hA
 ·have hA':i < a.length:=by omega
  refine dr ?_
  refine cP ?_ ?_<;>intro hB
  ·refine dr ?_
   repeat ((first | refine oB (by simp; omega) ?_ | refine oB (by simp) ?_); first | refine dr ?_ | exact dz)
   refine ⟨i+1,j,out++[a[i].path],⟨by omega,by omega,stepA hA' (.inl (by omega)),by simp; omega⟩,by omega,?_⟩
   refine dr ?_
   repeat (refine oB (by simp<;>rfl) ?_; first | refine dr ?_ | exact dz)
   trivial
  ·have hB':j < b.length:=by omega
   refine dr ?_
   refine cP ?_ ?_<;>intro hA2
   rotate_left
   ·omega
   refine dr ?_
   refine cP ?_ ?_<;>intro hC
   ·refine dr ?_
    repeat ((first | refine oB (by simp; omega) ?_ | refine oB (by simp) ?_); first | refine dr ?_ | exact dz)
    refine ⟨i+1,j,out++[a[i].path],⟨by omega,by omega,stepA hA' (.inr ⟨hB',hC⟩),by simp; omega⟩,by omega,?_⟩
    refine dr ?_
    repeat (refine oB (by simp<;>rfl) ?_; first | refine dr ?_ | exact dz)
    trivial
   refine dr ?_
   refine cP ?_ ?_<;>intro hD
   ·omega
   refine dr ?_
   refine cP ?_ ?_<;>intro hE
   ·refine dr ?_
    repeat ((first | refine oB (by simp; omega) ?_ | refine oB (by simp) ?_); first | refine dr ?_ | exact dz)
    refine ⟨i,j+1,out++[b[j].path],⟨by omega,by omega,stepB hB' (.inr ⟨hA',hC,hE⟩),by simp; omega⟩,by omega,?_⟩
    refine dr ?_
    repeat (refine oB (by simp<;>rfl) ?_; first | refine dr ?_ | exact dz)
    trivial
   have hm:mergeT (a.drop i) (b.drop j)=if a[i]=b[j] then mergeT (a.drop (i+1)) (b.drop (j+1)) else a[i].path::mergeT (a.drop (i+1)) (b.drop (j+1)):=by
    rw [List.drop_eq_getElem_cons hA',List.drop_eq_getElem_cons hB',zjw,if_neg (by rw [hC]; simp),if_neg (by rw [hE]; simp)]
   refine dr ?_
   refine cP ?_ ?_<;>intro hF
   ·have hne:a[i]≠b[j]:=by have:=bqEnt a[i] b[j]; rw [hF] at this; simpa using this
    rw [if_neg hne] at hm
    refine dr ?_
    repeat ((first | refine oB (by simp; omega) ?_ | refine oB (by simp) ?_); first | refine dr ?_ | exact dz)
    refine ⟨i+1,j+1,out++[a[i].path],⟨by omega,by omega,by rw [← ho,hm]; simp,by simp; omega⟩,by omega,?_⟩
    refine dr ?_
    repeat (refine oB (by simp<;>rfl) ?_; first | refine dr ?_ | exact dz)
    trivial
   ·have heq:a[i]=b[j]:=by have:=bqEnt a[i] b[j]; rw [hF] at this; simpa using this
    rw [if_pos heq] at hm
    refine dr ?_
    refine ⟨i+1,j+1,out,⟨by omega,by omega,by rw [← ho,hm],by omega⟩,by omega,?_⟩
    refine dr ?_
    trivial
 ·have hA':i=a.length:=by omega
  refine dr ?_
  refine cP ?_ ?_<;>intro hB
  ·have hB':j < b.length:=by omega
   refine dr ?_
   refine cP ?_ ?_<;>intro hB2
   ·omega
   refine dr ?_
   refine cP ?_ ?_<;>intro hA2
   ·omega
   refine dr ?_
   refine cP ?_ ?_<;>intro hD
   rotate_left
   ·omega
   refine dr ?_
   repeat ((first | refine oB (by simp; omega) ?_ | refine oB (by simp) ?_); first | refine dr ?_ | exact dz)
   refine ⟨i,j+1,out++[b[j].path],⟨by omega,by omega,stepB hB' (.inl hA'),by simp; omega⟩,by omega,?_⟩
   refine dr ?_
   repeat (refine oB (by simp<;>rfl) ?_; first | refine dr ?_ | exact dz)
   trivial
  ·have hj':j=b.length:=by omega
   rw [hA',hj',List.drop_length,List.drop_length,mergeT,List.append_nil] at ho
   refine dr ?_
   repeat (refine oB (by simp) ?_; first | refine dr ?_ | exact dz)
   rw [← ho]<;>rfl
def Jw:XC:=(.s (.r [.ex 4 (.asn (.k .nil) 3 133)]) (.s (.r [.ex 5 (.asn (.k .nil) 3 133)]) (.s (.s (.r [.mv 14 0,.mv 15 1,.c1 16 158 [14,15],.n1 17 16,.m1 18 (.i 0)]) (.blk 0 (.loop (.s (.r [.b1 19 .lss 18 17]) (.s (.cnd 19 .skip (.exit 0)) (.s (.blk 1 (.s (.r [.i1 20 1 16 18,.l1 21 1 20,.mv 7 21]) (.s (.r [.mv 23 1,.mv 24 7,.c1 25 44 [23,24],.mv 22 25,.e1 26 22 0,.e1 27 22 1,.ex 8 (.alloc [sE,(B false),sE]),.s1 3 8 26,.mv 9 27]) (.blk 2 (.s (.r [.mv 29 9,.mv 30 29,.gt 31 (.fa 1 8) 30,.gt 32 (.ld false 1 31) 30,.ex 33 (.pick 30 32 .n),.mv 28 33]) (.cnd 28 (.r [.mv 34 5,.mv 35 7,.ex 36 (.build [sE,(I 0),sE] [(0,(1,35)),(1,(1,(.i 2)))]),.ex 37 (.bsl 3 133 [36]),.ex 38 (.app false 3 40 133 34 37),.a1 5 38 3 133]) (.s (.r [.mv 40 9,.mv 39 40]) (.cnd 39 (.r [.mv 41 5,.mv 42 7,.f1 43 2 8,.l1 44 1 43,.ex 45 (.build [sE,(I 0),sE] [(0,(1,42)),(1,(1,(.i 1))),(2,(1,44))]),.ex 46 (.bsl 3 133 [45]),.ex 47 (.app false 3 40 133 41 46),.a1 5 47 3 133]) (.s (.r [.mv 49 1,.mv 50 7,.c1 51 101 [49,50],.b1 52 .eql 51 (.i 0),.mv 48 52]) (.cnd 48 (.r [.mv 53 5,.mv 54 7,.ex 55 (.build [sE,(I 0),sE] [(0,(1,54)),(1,(1,(.i 3)))]),.ex 56 (.bsl 3 133 [55]),.ex 57 (.app false 3 40 133 53 56),.a1 5 57 3 133]) .skip)))))))))) (.r [.b1 58 .add 18 (.i 1),.mv 18 58]))))))) (.s (.s (.r [.mv 59 5,.n1 60 59,.m1 61 (.i 0)]) (.blk 3 (.loop (.s (.r [.b1 62 .lss 61 60]) (.s (.cnd 62 .skip (.exit 3)) (.s (.blk 4 (.s (.r [.mv 63 61,.mv 10 63]) (.s (.r [.mv 64 5,.mv 65 10,.i1 66 3 64 65,.f1 67 0 66,.l1 68 1 67,.c1 69 159 [68],.mv 11 69]) (.blk 5 (.loop (.s (.s (.r [.mv 70 11,.ex 71 (.bin .neq 70 (.s [47]))]) (.cnd 71 .skip (.exit 5))) (.s (.blk 6 (.s (.r [.mv 75 5,.mv 76 11,.c1 77 155 [75,76],.mv 74 77,.e1 78 74 0,.e1 79 74 1,.ex 12 (.alloc [sE,(I 0),sE]),.s1 3 12 78,.mv 13 79]) (.s (.r [.mv 80 13,.ex 81 (.un .not 80)]) (.cnd 81 (.r [.mv 82 5,.mv 83 11,.ex 84 (.build [sE,(I 0),sE] [(0,(1,83)),(1,(1,(.i 2)))]),.ex 85 (.bsl 3 133 [84]),.ex 86 (.app false 3 40 133 82 85),.a1 5 86 3 133]) .skip)))) (.r [.mv 72 11,.c1 73 159 [72],.mv 11 73])))))))) (.r [.b1 87 .add 61 (.i 1),.mv 61 87]))))))) (.s (.r [.mv 88 5,.o1 89 160 [88]]) (.s (.r [.mv 90 5,.a1 4 90 3 133]) .ret))))))
theorem Jx:compF Tryz.prog [160] 99=some (Jw.ac,[(.t 4)],91):=by kernel_rfl
def diffO (a b:List Ent):List Mark:=if (tOk a&&tOk b)=true then diff a b else []
theorem zkP {l l0:List Mark} {u:Str} (h:∃ s,l=l0++s):∃ s,addUp l u=l0++s:=by
 obtain ⟨s,rfl⟩:=h
 unfold addUp
 split
 ·exact ⟨s,rfl⟩
 ·exact ⟨s++[⟨u,2,[]⟩],by simp⟩
theorem Zi {l:List Mark} {u:Str}:(addUp l u).length≤l.length+1:=by
 unfold addUp; split<;>simp
theorem znV {m:Nat} {q:Str} (h:pUp q=[47]):upsN m q=[]:=by
 cases m with
 | zero=>rfl
 | succ m=>unfold upsN; rw [if_pos h]
theorem zg5:∀ {us:List Str} {l:List Mark},(us.foldl addUp l).length≤l.length+us.length
 | [],l=>by simp
 | u::us,l=>by
  have h:=zg5 (us:=us) (l:=addUp l u)
  have h2:=Zi (l:=l) (u:=u)
  simp only [List.foldl_cons,List.length_cons]; omega
theorem Zj {l:List Mark} {m:Mark}:(addUps l m).length≤l.length+3:=by
 have h:=zg5 (us:=upsN 3 m.path) (l:=l)
 have h2:=znU 3 m.path
 unfold addUps; omega
theorem zeq (W0:World) (hM:HM W0) (a b:List Ent):Fn Tryz.prog W0 99 [eEnts a,eEnts b] (.c (eMarks (diffO a b))) []:=by
 refine fnX (c:=Jw) mixed Jx (by simp) rfl fun hg=>?_
 have hT:(∀ p∈turnedO a b,pOk p=true)∧(turnedO a b).length≤32∧(turnedO a b≠[]→TG b):=by
  unfold turnedO
  split
  ·rename_i h
   simp only [Bool.and_eq_true] at h
   have h1:=(yY h.1).1
   have h2:=(yY h.2).1
   have h3:=znE (a:=a) (b:=b)
   exact ⟨fun p hp=>znF h.1 h.2 hp,by omega,fun _=>TG.of h.2⟩
  ·exact ⟨fun p hp=>(by cases hp),by simp,fun h=>absurd rfl h⟩
 obtain ⟨hT1,hT2,hT3⟩:=hT
 have hfin:∀ S,Sorts Mark.path (((turnedO a b).filterMap (difM b)).foldl addUps ((turnedO a b).filterMap (difM b))) S→S=diffO a b:=by
  intro S hS
  unfold turnedO at hS
  unfold diffO
  split at hS
  ·rename_i h
   rw [if_pos h]
   simp only [Bool.and_eq_true] at h
   exact zdp (TG.of h.1) (TG.of h.2) hS
  ·rename_i h
   rw [if_neg h]
   exact List.Perm.eq_nil hS.1
 refine dEr ?_
 repeat (refine c0 (zef W0 hM a b) rfl ?_; first | refine dEr ?_ | exact dz)
 generalize turnedO a b=T at *
 refine lp2 (fun (k:Nat) (out:List Mark)=>[(1,.c (eEnts b)),(5,.own 80 out.length),(16,.c (eStrs T)),(17,I T.length),(18,I k)]) (fun _ out=>[(80,.row (out.map eMark) 3 133)]) (fun k out=>k≤T.length∧out=(T.take k).filterMap (difM b)∧out.length≤k) (fun k _=>T.length - k) 0 [] ⟨by simp,rfl,by simp⟩ ?_ ?_
 ·refine dr ?_
  trivial
 rintro k out ⟨hk,ho,hle⟩
 refine dr ?_
 refine cP ?_ ?_<;>intro h1
 ·have hk':k < T.length:=by omega
  have gb:=hT3 (fun e=>by rw [e] at hk'; simp at hk')
  have hp:=hT1 _ (List.getElem_mem hk')
  have hn:(T.take (k+1)).filterMap (difM b)=out++(difM b T[k]).toList:=by rw [zgR hk',← ho]
  have hc:=jh W0 b T[k]
  cases hx:find b T[k] with
  | some e =>
   rw [hx] at hc
   refine dEr ?_
   repeat (refine c0 hc rfl ?_; first | refine dEr ?_ | exact dz)
   refine cP ?_ ?_<;>intro h2
   ·have e1:difM b T[k]=some ⟨T[k],2,[]⟩:=by
     have:=gb.data (jN hx).2 h2
     unfold difM; rw [j7 hp,hx]; simp [h2,this]
    rw [e1] at hn
    refine dr ?_
    repeat ((first | refine oB (by simp; omega) ?_ | refine oB (by simp) ?_); first | refine dr ?_ | exact dz)
    refine ⟨k+1,out++[⟨T[k],2,[]⟩],⟨by omega,by rw [hn]; rfl,by simp; omega⟩,by omega,?_⟩
    refine dr ?_
    repeat (refine oB (by simp<;>rfl) ?_; first | refine dr ?_ | exact dz)
    trivial
   ·have e1:difM b T[k]=some ⟨T[k],1,e.data⟩:=by
     unfold difM; rw [j7 hp,hx]; simp [h2]
    rw [e1] at hn
    refine dr ?_
    repeat ((first | refine oB (by simp; omega) ?_ | refine oB (by simp) ?_); first | refine dr ?_ | exact dz)
    refine ⟨k+1,out++[⟨T[k],1,e.data⟩],⟨by omega,by rw [hn]; rfl,by simp; omega⟩,by omega,?_⟩
    refine dr ?_
    repeat (refine oB (by simp<;>rfl) ?_; first | refine dr ?_ | exact dz)
    trivial
  | none =>
   rw [hx] at hc
   refine dEr ?_
   repeat ((first | refine c0 hc rfl ?_ | refine c0 (jH W0 hM b _) rfl ?_); first | refine dEr ?_ | exact dz)
   refine cP ?_ ?_<;>intro h2
   ·have e1:difM b T[k]=some ⟨T[k],3,[]⟩:=by
     unfold difM; rw [j7 hp,hx]; simp only [Zc.1 h2,if_true]
    rw [e1] at hn
    refine dr ?_
    repeat ((first | refine oB (by simp; omega) ?_ | refine oB (by simp) ?_); first | refine dr ?_ | exact dz)
    refine ⟨k+1,out++[⟨T[k],3,[]⟩],⟨by omega,by rw [hn]; rfl,by simp; omega⟩,by omega,?_⟩
    refine dr ?_
    repeat (refine oB (by simp<;>rfl) ?_; first | refine dr ?_ | exact dz)
    trivial
   ·have e1:difM b T[k]=none:=by
     have:isDir b (pUp T[k])=false:=by
      rw [Bool.eq_false_iff]; exact fun e=>h2 (Zc.2 e)
     unfold difM; rw [j7 hp,hx]; simp [this]
    rw [e1] at hn
    refine dr ?_
    refine ⟨k+1,out,⟨by omega,by rw [hn]; simp,by omega⟩,by omega,?_⟩
    refine dr ?_
    trivial
 have hkl:k=T.length:=by omega
 rw [hkl,List.take_length] at ho
 have hpo:∀ m∈out,pOk m.path=true:=fun m hm=>by
  rw [ho] at hm
  obtain ⟨p,hp,e⟩:=List.mem_filterMap.1 hm
  rw [zI e]; exact hT1 p hp
 rw [← ho] at hfin
 have hol:out.length≤32:=by omega
 clear ho hle hk h1 hkl hT1 hT2 hT3
 generalize hoo:out=D at *
 refine dr ?_
 refine lp2 (fun (k:Nat) (out:List Mark)=>[(5,.own 80 out.length),(60,I D.length),(61,I k)]) (fun _ out=>[(80,.row (out.map eMark) 3 133)]) (fun k out=>k≤D.length∧out=(D.take k).foldl addUps D∧out.length≤D.length+3 * k∧∃ s,out=D++s) (fun k _=>D.length - k) 0 D ⟨by simp,by simp,by simp,[],by simp⟩ ?_ ?_
 ·refine dr ?_
  trivial
 clear hoo
 rintro k out ⟨hk,ho,hle,hs⟩
 refine dr ?_
 refine cP ?_ ?_<;>intro h1
 ·have hk':k < D.length:=by omega
  have hko:k < out.length:=by obtain ⟨s,rfl⟩:=hs; simp; omega
  have hget:out[k]=D[k]:=by
   obtain ⟨s,rfl⟩:=hs
   rw [List.getElem_append_left hk']
  have hp:=hpo _ (List.getElem_mem hk')
  have hn:(D.take (k+1)).foldl addUps D=addUps out D[k]:=by rw [jX hk',← ho]
  have hnl:=Zj (l:=out) (m:=D[k])
  refine dEr ?_
  repeat (refine c0 (jk W0 hM _) rfl ?_; first | refine dEr ?_ | exact dz)
  rw [hget]
  refine lp3 (fun (m:Nat) (q:Str) (o:List Mark)=>[(5,.own 80 o.length),(60,I D.length),(61,I k),(11,.c (CS (pUp q)))]) (fun _ _ o=>[(80,.row (o.map eMark) 3 133)])
   (fun m q o=>pOk q=true∧(names q).length≤m∧(upsN m q).foldl addUp o=addUps out D[k]∧o.length+m≤out.length+3∧∃ s,o=D++s) (fun m _ _=>m) 3 D[k].path out ⟨hp,(yt hp).1.2,rfl,by omega,hs⟩ ?_ ?_
  ·refine dr ?_
   trivial
  rintro m q o ⟨hq,hqn,hqo,hql,hqs⟩
  refine dr ?_
  refine cP ?_ ?_<;>intro h2
  ·obtain ⟨u1,_,u3⟩:=yv hq h2
   cases m with
   | zero=>have:=(yt hq).1.1; omega
   | succ m =>
    have hqo2:(upsN m (pUp q)).foldl addUp (addUp o (pUp q))=addUps out D[k]:=by
     rw [← hqo]; conv=>rhs; rw [upsN,if_neg h2]
     rfl
    have hal:=Zi (l:=o) (u:=pUp q)
    have hc:=zfR W0 o (pUp q)
    rw [zdA] at hc
    refine dEr ?_
    repeat (refine c0 hc rfl ?_; first | refine dEr ?_ | exact dz)
    refine cP ?_ ?_<;>intro h3
    ·have e1:addUp o (pUp q)=o++[⟨pUp q,2,[]⟩]:=by unfold addUp; rw [if_neg (by simp [h3])]
     refine dEr ?_
     repeat ((first | refine oB (by simp; omega) ?_ | refine oB (by simp) ?_ | refine c0 (jk W0 hM _) rfl ?_); first | refine dEr ?_ | exact dz)
     refine ⟨m,pUp q,addUp o (pUp q),⟨u1,by omega,hqo2,by omega,zkP hqs⟩,by omega,?_⟩
     refine dr ?_
     repeat (refine oB (by simp [e1]<;>rfl) ?_; first | refine dr ?_ | exact dz)
     trivial
    ·have e1:addUp o (pUp q)=o:=by unfold addUp; rw [if_pos h3]
     refine dEr ?_
     repeat (refine c0 (jk W0 hM _) rfl ?_; first | refine dEr ?_ | exact dz)
     refine ⟨m,pUp q,addUp o (pUp q),⟨u1,by omega,hqo2,by omega,zkP hqs⟩,by omega,?_⟩
     refine dr ?_
     repeat (refine oB (by simp [e1]<;>rfl) ?_; first | refine dr ?_ | exact dz)
     trivial
  ·rw [znV h2] at hqo
   have hqo:o=addUps out D[k]:=hqo
   refine dr ?_
   refine ⟨k+1,o,⟨by omega,by rw [hn,hqo],by rw [hqo]; omega,hqs⟩,by omega,?_⟩
   refine dr ?_
   trivial
 have hkl:k=D.length:=by omega
 rw [hkl,List.take_length] at ho
 rw [← ho] at hfin
 refine dr ?_
 refine oW ((zf4 W0 out (by omega)).swp 1 80) rfl ⟨rfl,trivial⟩ rfl rfl yL fun S hS=>⟨rfl,?_⟩
 refine dEr ?_
 repeat (refine oB (by simp [hS.len]) ?_; first | refine dEr ?_ | exact dz)
 rw [hfin S hS]<;>rfl
end Go.Proofs.YteheahbjaddooaaGreatDoor

namespace Go.Proofs.YteheahbjaddooaaGreatDoor
set_option linter.unusedSimpArgs false
set_option linter.unusedVariables false
open Go Go.RowKit
def oTrees (o:Over):Option (List Ent × List Ent):=match lower4 o with
 | none=>none
 | some t=>match lOn o.upper t with
  | none=>none
  | some x=>if o.upper=diff t x then some (t,x) else none
def eOT:Option (List Ent × List Ent)→CV
 | none => .tup [eEnts [],eEnts [],CB false]
 | some x => .tup [eEnts x.1,eEnts x.2,CB true]
theorem zjY {o:Over}:oOk o=(oTrees o).isSome:=by
 unfold oOk oTrees view4
 cases lower4 o with
 | none=>rfl
 | some t =>
  simp only
  cases lOn o.upper t with
  | none=>rfl
  | some x =>
   simp only
   by_cases h:o.upper=diff t x
   ·rw [if_pos h]; simp [h]
   ·rw [if_neg h]; simp [h]
theorem zjZ {o:Over} {t x:List Ent} (h:oTrees o=some (t,x)):oOk o=true∧lower4 o=some t∧view4 o=some x∧o.upper=diff t x:=by
 refine ⟨by rw [zjY,h]; rfl,?_⟩
 unfold oTrees at h
 split at h
 ·cases h
 ·rename_i t' h1
  split at h
  ·cases h
  ·rename_i x' h2
   split at h
   ·rename_i h3; cases h; exact ⟨h1,by rw [view4,h1]; exact h2,h3⟩
   ·cases h
def QI:XC:=(.s (.r [.ex 1 (.box 0),.ex 2 (.asn (.k .nil) 3 39),.ex 3 (.asn (.k .nil) 3 39),.m1 4 .n]) (.s (.s (.r [.f1 12 0 1,.l1 13 1 12,.c1 14 43 [13],.ex 15 (.un .not 14),.mv 16 15,.gf 17 (.fa 1 1) 16,.gf 18 (.ld false 1 17) 16,.gf 19 (.len false 18) 16,.gf 20 (.bin .gtr 19 (.i 4)) 16,.ex 21 (.pick 16 .y 20)]) (.cnd 21 (.s (.r [.ex 2 (.asn (.k .nil) 3 39),.ex 3 (.asn (.k .nil) 3 39),.m1 4 .n]) .ret) .skip)) (.s (.r [.f1 22 0 1,.l1 23 1 22,.c1 24 88 [23],.a1 5 24 3 39]) (.s (.s (.r [.f1 25 1 1,.l1 26 1 25,.n1 27 26,.m1 28 (.i 0)]) (.blk 0 (.loop (.s (.r [.b1 29 .lss 28 27]) (.s (.cnd 29 .skip (.exit 0)) (.s (.blk 1 (.s (.r [.i1 30 1 26 28,.l1 31 1 30,.a1 7 31 3 133]) (.s (.r [.mv 33 7,.mv 34 5,.c1 35 98 [33,34],.mv 32 35,.e1 36 32 0,.e1 37 32 1,.a1 8 36 3 39,.mv 9 37]) (.s (.s (.r [.mv 38 9,.ex 39 (.un .not 38)]) (.cnd 39 (.s (.r [.ex 2 (.asn (.k .nil) 3 39),.ex 3 (.asn (.k .nil) 3 39),.m1 4 .n]) .ret) .skip)) (.r [.mv 40 8,.a1 5 40 3 39]))))) (.r [.b1 41 .add 28 (.i 1),.mv 28 41]))))))) (.s (.r [.f1 43 2 1,.l1 44 1 43,.mv 45 5,.c1 46 98 [44,45],.mv 42 46,.e1 47 42 0,.e1 48 42 1,.a1 10 47 3 39,.mv 11 48]) (.s (.s (.d [.mv 49 11,.ex 50 (.un .not 49),.mv 51 50,.gf 52 (.fa 2 1) 51,.gf 53 (.ld false 1 52) 51,.gf 54 (.mv 5) 51,.gf 55 (.mv 10) 51,.gf 56 (.call 99 [54,55]) 51,.gf 57 (.call 86 [53,56]) 51,.gf 58 (.un .not 57) 51,.ex 59 (.pick 51 .y 58)]) (.cnd 59 (.s (.r [.ex 2 (.asn (.k .nil) 3 39),.ex 3 (.asn (.k .nil) 3 39),.m1 4 .n]) .ret) .skip)) (.s (.r [.mv 60 5,.mv 61 10,.a1 2 60 3 39,.a1 3 61 3 39,.m1 4 .y]) .ret)))))))
theorem QJ:compF Tryz.prog [] 42=some (QI.ac,[(.t 2),(.t 3),(.t 4)],62):=by kernel_rfl
theorem zfX (W0:World) (hM:HM W0) (o:Over):Fn Tryz.prog W0 42 [eOver o] (.c (eOT (oTrees o))) []:=by
 refine fnX (c:=QI) mixed QJ (by simp) rfl fun hg=>?_
 have no:lower4 o=none→CV.tup [eEnts [],eEnts [],CB false]=eOT (oTrees o):=fun h=>by rw [oTrees,h]; rfl
 refine dEr ?_
 repeat (refine c0 (jl W0 hM _) rfl ?_; first | refine dEr ?_ | exact dz)
 refine cP ?_ ?_<;>intro h1
 ·refine dr ?_
  repeat (refine oB (by simp) ?_; first | refine dr ?_ | exact dz)
  exact no (by rw [lower4,if_neg (by simp [h1])])
 refine dr ?_
 refine cP ?_ ?_<;>intro h2
 ·refine dr ?_
  repeat (refine oB (by simp) ?_; first | refine dr ?_ | exact dz)
  exact no (by rw [lower4,if_neg (by omega)])
 have hl4:lower4 o=lowerA o.layers o.base:=by rw [lower4,if_pos ⟨h1,by omega⟩]
 have hbl:=(yY h1).1
 refine dEr ?_
 repeat (refine c0 (zei W0 _ (by omega)) rfl ?_; first | refine dEr ?_ | exact dz)
 refine lp2 (fun (k:Nat) (t:List Ent)=>[(1,.ptr 16 0),(5,.c (eEnts t)),(26,.c (eMarkss o.layers)),(27,I o.layers.length),(28,I k)]) (fun _ _=>[(16,.box [.c (eEnts o.base),.c (eMarkss o.layers),.c (eMarks o.upper)]),(32,.row [] 3 39),(48,.row [] 3 39)]) (fun k t=>k≤o.layers.length∧lowerA (o.layers.take k) o.base=some t∧tOk t=true) (fun k _=>o.layers.length - k) 0 o.base ⟨by simp,rfl,h1⟩ ?_ ?_
 ·refine dr ?_
  trivial
 rintro k t ⟨hk,ha,ht⟩
 refine dr ?_
 refine cP ?_ ?_<;>intro h3
 ·have hk':k < o.layers.length:=by omega
  have hn:lowerA (o.layers.take (k+1)) o.base=lOn o.layers[k] t:=by
   rw [List.take_succ_eq_append_getElem hk',qK,ha]
   simp only [lowerA]
   cases lOn o.layers[k] t<;>rfl
  have hc:=zes W0 hM o.layers[k] t
  cases hx:lOn o.layers[k] t with
  | none =>
   rw [hx] at hc
   refine dEr ?_
   repeat ((first | refine c0 hc rfl ?_ | refine oB (by simp) ?_); first | refine dEr ?_ | exact dz)
   refine no ?_
   have e:o.layers=o.layers.take (k+1)++o.layers.drop (k+1):=by rw [List.take_append_drop]
   rw [hl4,e,qK,hn,hx]
  | some t' =>
   rw [hx] at hc
   refine dEr ?_
   repeat (refine c0 hc rfl ?_; first | refine dEr ?_ | exact dz)
   refine ⟨k+1,t',⟨by omega,by rw [hn,hx],qp hx⟩,by omega,?_⟩
   refine dr ?_
   trivial
 have hkl:k=o.layers.length:=by omega
 rw [hkl,List.take_length] at ha
 have hl4':lower4 o=some t:=by rw [hl4,ha]
 have hc:=zes W0 hM o.upper t
 have e:oTrees o=match lOn o.upper t with
  | none=>none
  | some x=>if o.upper=diff t x then some (t,x) else none:=by rw [oTrees,hl4']
 rw [e]
 cases hx:lOn o.upper t with
 | none =>
  rw [hx] at hc
  refine dEr ?_
  repeat ((first | refine c0 hc rfl ?_ | refine oB (by simp) ?_); first | refine dEr ?_ | exact dz)
  try rfl
 | some x =>
  rw [hx] at hc
  have hd:=zeq W0 hM t x
  rw [diffO,if_pos (by simp [ht,qp hx])] at hd
  refine dEr ?_
  repeat ((first | refine c0 hc rfl ?_ | refine c0 hd rfl ?_ | refine c0 (zet W0 _ _) rfl ?_); first | refine dEr ?_ | exact dz)
  refine cP ?_ ?_<;>intro h4
  ·refine dr ?_
   repeat (refine oB (by simp) ?_; first | refine dr ?_ | exact dz)
   show _=eOT (if o.upper=diff t x then some (t,x) else none)
   rw [if_neg h4]<;>rfl
  ·refine dr ?_
   repeat (refine oB (by simp) ?_; first | refine dr ?_ | exact dz)
   show _=eOT (if o.upper=diff t x then some (t,x) else none)
   rw [if_pos h4]<;>rfl
def JG:XC:=(.s (.r [.ex 1 (.box 0),.ex 2 (.asn (.k .nil) 3 39),.m1 3 .n]) (.s (.r [.l2 8 3 1,.c1 9 42 [8],.mv 7 9,.e1 10 7 0,.e1 11 7 1,.e1 12 7 2,.a1 4 10 3 39,.a1 5 11 3 39,.mv 6 12]) (.s (.r [.mv 13 5,.mv 14 6,.a1 2 13 3 39,.mv 3 14]) .ret)))
theorem JH:compF Tryz.prog [] 14=some (JG.ac,[(.t 2),(.t 3)],15):=by kernel_rfl
theorem zew (W0:World) (hM:HM W0) (o:Over):Fn Tryz.prog W0 14 [eOver o] (.c (eEntsO (if oOk o=true then view4 o else none))) []:=by
 refine fnX (c:=JG) mixed JH (by simp) rfl fun hg=>?_
 have hc:=zfX W0 hM o
 cases hx:oTrees o with
 | none =>
  rw [hx] at hc
  refine dEr ?_
  repeat (refine c0 hc rfl ?_; first | refine dEr ?_ | exact dz)
  rw [zjY,hx]<;>rfl
 | some x =>
  obtain ⟨t,x⟩:=x
  obtain ⟨h1,h2,h3,_⟩:=zjZ hx
  rw [hx] at hc
  refine dEr ?_
  repeat (refine c0 hc rfl ?_; first | refine dEr ?_ | exact dz)
  rw [if_pos h1,h3]<;>rfl
end Go.Proofs.YteheahbjaddooaaGreatDoor

namespace Go.Proofs.YteheahbjaddooaaGreatDoor
set_option linter.unusedSimpArgs false
set_option linter.unusedVariables false
open Go Go.RowKit
def JC:XC:=(.s (.r [.ex 1 (.box 0),.m1 2 .n]) (.s (.s (.r [.f1 3 1 1,.l1 4 1 3,.c1 5 79 [4],.ex 6 (.un .not 5)]) (.cnd 6 (.s (.r [.m1 2 .n]) .ret) .skip)) (.s (.s (.r [.f1 7 0 1,.l1 8 1 7]) (.blk 0 (.s (.r [.b1 10 .eql 8 (.i 5),.mv 9 10]) (.cnd 9 (.s (.r [.f1 11 2 1,.l1 12 1 11,.c1 13 79 [12],.mv 14 13,.gt 15 (.fa 3 1) 14,.gt 16 (.ld false 1 15) 14,.gt 17 (.bin .eql 16 (.s [])) 14,.ex 18 (.pick 14 17 .n),.mv 2 18]) .ret) (.s (.r [.b1 20 .eql 8 (.i 2),.mv 19 20]) (.cnd 19 (.s (.r [.f1 21 2 1,.l1 22 1 21,.ex 23 (.bin .eql 22 (.s [])),.mv 24 23,.gt 25 (.fa 3 1) 24,.gt 26 (.ld false 1 25) 24,.gt 27 (.call 100 [26]) 24,.ex 28 (.pick 24 27 .n),.mv 2 28]) .ret) (.s (.s (.r [.b1 30 .eql 8 (.i 1),.mv 29 30]) (.cnd 29 .skip (.s (.r [.b1 31 .eql 8 (.i 3),.mv 29 31]) (.cnd 29 .skip (.r [.b1 32 .eql 8 (.i 4),.mv 29 32]))))) (.cnd 29 (.s (.r [.f1 33 2 1,.l1 34 1 33,.ex 35 (.bin .eql 34 (.s [])),.mv 36 35,.gt 37 (.fa 3 1) 36,.gt 38 (.ld false 1 37) 36,.gt 39 (.bin .eql 38 (.s [])) 36,.ex 40 (.pick 36 39 .n),.mv 2 40]) .ret) .skip)))))))) (.s (.r [.m1 2 .n]) .ret))))
theorem JD:compF Tryz.prog [] 139=some (JC.ac,[(.t 2)],41):=by kernel_rfl
theorem zeu (W0:World) (hM:HM W0) (op:Op):Fn Tryz.prog W0 139 [eOp op] (.c (CB (opOkB op))) []:=by
 refine fnX (c:=JC) mixed JD (by simp) rfl fun hg=>?_
 have ht:∀ b:Bool,b=opOkB op→CB b=CB (opOkB op):=fun b h=>by rw [h]
 refine dEr ?_
 repeat (refine c0 (ji W0 hM _) rfl ?_; first | refine dEr ?_ | exact dz)
 refine cP ?_ ?_<;>intro h1
 ·refine dr ?_
  exact ht _ (by simp [opOkB,h1])
 refine dr ?_
 refine cP ?_ ?_<;>intro h2
 ·refine dEr ?_
  repeat (refine c0 (ji W0 hM _) rfl ?_; first | refine dEr ?_ | exact dz)
  refine cP ?_ ?_<;>intro h3
  ·refine dr ?_
   exact ht _ (by rw [zV]; simp [opOkB,h1,h2,h3])
  ·refine dr ?_
   exact ht _ (by simp [opOkB,h2,h3])
 refine dr ?_
 refine cP ?_ ?_<;>intro h3
 ·refine dr ?_
  refine cP ?_ ?_<;>intro h4
  ·refine dEr ?_
   repeat (refine c0 (zej W0 _) rfl ?_; first | refine dEr ?_ | exact dz)
   exact ht _ (by simp [opOkB,h1,h3,h4])
  ·refine dr ?_
   exact ht _ (by simp [opOkB,h3,h4])
 refine dr ?_
 refine cP ?_ ?_<;>intro h4
 ·refine dr ?_
  refine cP ?_ ?_<;>intro h8
  rotate_left
  ·exact absurd h4 h8
  refine dr ?_
  refine cP ?_ ?_<;>intro h9
  ·refine dr ?_
   exact ht _ (by rw [zV]; simp [opOkB,h1,h8,h9]; intro hd; rw [hd]; decide)
  ·refine dr ?_
   exact ht _ (by simp [opOkB,h8,h9])
 refine dr ?_
 refine cP ?_ ?_<;>intro h5
 ·refine dr ?_
  refine cP ?_ ?_<;>intro h8
  rotate_left
  ·exact absurd h5 h8
  refine dr ?_
  refine cP ?_ ?_<;>intro h9
  ·refine dr ?_
   exact ht _ (by rw [zV]; simp [opOkB,h1,h8,h9]; intro hd; rw [hd]; decide)
  ·refine dr ?_
   exact ht _ (by simp [opOkB,h8,h9])
 refine dr ?_
 refine cP ?_ ?_<;>intro h8
 ·refine dr ?_
  refine cP ?_ ?_<;>intro h9
  ·refine dr ?_
   exact ht _ (by rw [zV]; simp [opOkB,h1,h8,h9]; intro hd; rw [hd]; decide)
  ·refine dr ?_
   exact ht _ (by simp [opOkB,h8,h9])
 refine dr ?_
 exact ht _ (by
  have:¬ (1≤op.kind∧op.kind≤5):=by omega
  unfold opOkB
  by_cases h8:1≤op.kind
  ·have:¬ op.kind≤5:=by omega
   simp [this]
  ·simp [h8])
def Qu:XC:=(.s (.r [.ex 3 (.box 1),.m1 4 (.i 0)]) (.s (.s (.r [.mv 8 0,.f1 9 1 3,.l1 10 1 9,.c1 11 101 [8,10],.mv 5 11]) (.s (.r [.mv 12 5,.b1 13 .neq 12 (.i 0)]) (.cnd 13 (.s (.r [.mv 14 5,.mv 4 14]) .ret) .skip))) (.s (.s (.r [.mv 16 0,.f1 17 1 3,.l1 18 1 17,.c1 19 44 [16,18],.mv 15 19,.e1 20 15 0,.e1 21 15 1,.ex 6 (.alloc [sE,(B false),sE]),.s1 3 6 20,.mv 7 21]) (.s (.r [.mv 22 7]) (.cnd 22 (.s (.r [.m1 4 (.i 4)]) .ret) .skip))) (.s (.s (.r [.mv 23 0,.n1 24 23,.b1 25 .geq 24 (.i 16)]) (.cnd 25 (.s (.r [.m1 4 (.i 8)]) .ret) .skip)) (.s (.r [.m1 4 (.i 0)]) .ret)))))
theorem Qv:compF Tryz.prog [] 140=some (Qu.ac,[(.t 4)],26):=by kernel_rfl
theorem zfQ (W0:World) (hM:HM W0) (t:List Ent) (op:Op) (hp:pOk op.path=true):Fn Tryz.prog W0 140 [eEnts t,eOp op] (.c (CI (newC t op.path))) []:=by
 refine fnX (c:=Qu) mixed Qv (by simp) rfl fun hg=>?_
 have h0:=jH W0 hM t op.path
 rw [znP] at h0
 have h1:=jh W0 t op.path
 rw [zL] at h1
 have e:newC t op.path=if upC t op.path≠0 then upC t op.path else if (find t op.path).isSome=true then 4 else if 16≤t.length then 8 else 0:=by rw [← j7 hp]; rfl
 refine dEr ?_
 repeat (refine c0 h0 rfl ?_; first | refine dEr ?_ | exact dz)
 refine cP ?_ ?_<;>intro h2
 ·refine dr ?_
  rw [e,if_pos h2]
 refine dEr ?_
 repeat (refine c0 h1 rfl ?_; first | refine dEr ?_ | exact dz)
 refine cP ?_ ?_<;>intro h3
 ·refine dr ?_
  rw [e,if_neg (by simp [h2]),if_pos h3]
 refine dr ?_
 refine cP ?_ ?_<;>intro h4
 ·refine dr ?_
  rw [e,if_neg (by simp [h2]),if_neg (by simp [h3]),if_pos (by omega)]
 ·refine dr ?_
  rw [e,if_neg (by simp [h2]),if_neg (by simp [h3]),if_neg (by omega)]
def QM:XC:=(.s (.r [.ex 3 (.box 1),.m1 4 (.i 0)]) (.s (.s (.r [.mv 8 0,.f1 9 1 3,.l1 10 1 9,.c1 11 101 [8,10],.mv 5 11]) (.s (.r [.mv 12 5,.b1 13 .neq 12 (.i 0)]) (.cnd 13 (.s (.r [.mv 14 5,.mv 4 14]) .ret) .skip))) (.s (.r [.mv 16 0,.f1 17 1 3,.l1 18 1 17,.c1 19 44 [16,18],.mv 15 19,.e1 20 15 0,.e1 21 15 1,.ex 6 (.alloc [sE,(B false),sE]),.s1 3 6 20,.mv 7 21]) (.s (.s (.r [.mv 22 7,.mv 23 22,.gt 24 (.fa 1 6) 23,.gt 25 (.ld false 1 24) 23,.ex 26 (.pick 23 25 .n)]) (.cnd 26 (.s (.r [.m1 4 (.i 5)]) .ret) .skip)) (.s (.s (.r [.mv 27 7,.ex 28 (.un .not 27),.mv 29 28,.gt 30 (.mv 0) 29,.gt 31 (.len false 30) 29,.gt 32 (.bin .geq 31 (.i 16)) 29,.ex 33 (.pick 29 32 .n)]) (.cnd 33 (.s (.r [.m1 4 (.i 8)]) .ret) .skip)) (.s (.r [.m1 4 (.i 0)]) .ret))))))
theorem QN:compF Tryz.prog [] 141=some (QM.ac,[(.t 4)],34):=by kernel_rfl
theorem zfZ (W0:World) (hM:HM W0) (t:List Ent) (op:Op) (hp:pOk op.path=true):Fn Tryz.prog W0 141 [eEnts t,eOp op] (.c (CI (putC t op.path))) []:=by
 refine fnX (c:=QM) mixed QN (by simp) rfl fun hg=>?_
 have h0:=jH W0 hM t op.path
 rw [znP] at h0
 have h1:=jh W0 t op.path
 rw [zL] at h1
 have e:newC t op.path=if upC t op.path≠0 then upC t op.path else if (find t op.path).isSome=true then 4 else if 16≤t.length then 8 else 0:=by rw [← j7 hp]; rfl
 have hu:upC t op.path≠4:=by unfold upC; split<;>(try split)<;>omega
 have e2:putC t op.path=if upC t op.path≠0 then upC t op.path else if (find t op.path).isSome=true then (if ((find t op.path).getD noE).dir=true then 5 else 0) else if 16≤t.length then 8 else 0:=by
  unfold putC
  rw [e,j7 hp]
  by_cases h2:upC t op.path≠0
  ·rw [if_pos h2,if_pos h2,if_neg hu]
  ·rw [if_neg h2,if_neg h2]
   by_cases h3:(find t op.path).isSome=true
   ·rw [if_pos h3,if_pos h3,if_pos rfl]
   ·rw [if_neg h3,if_neg h3,if_neg (by split<;>omega)]
 rw [e2]
 refine dEr ?_
 repeat (refine c0 h0 rfl ?_; first | refine dEr ?_ | exact dz)
 refine cP ?_ ?_<;>intro h2
 ·refine dr ?_
  rw [if_pos h2]
 rw [if_neg (by simp [h2])]
 refine dEr ?_
 repeat (refine c0 h1 rfl ?_; first | refine dEr ?_ | exact dz)
 refine cP ?_ ?_<;>intro h3
 ·rw [if_pos h3]
  refine dr ?_
  refine cP ?_ ?_<;>intro h4
  ·refine dr ?_
   rw [if_pos h4]
  ·rw [if_neg (by simp [h4])]
   refine dr ?_
   refine cP ?_ ?_<;>intro h5
   ·rw [h3] at h5; cases h5
   ·exact dz
 ·rw [if_neg (by simp [h3])]
  refine dr ?_
  refine cP ?_ ?_<;>intro h5
  ·refine dr ?_
   refine cP ?_ ?_<;>intro h6
   ·refine dr ?_
    rw [if_pos (by omega)]
   ·refine dr ?_
    rw [if_neg (by omega)]
  ·rw [h3] at h5; cases h5
def QO:XC:=(.s (.r [.ex 3 (.box 1),.m1 4 (.i 0)]) (.s (.r [.mv 8 0,.f1 9 1 3,.l1 10 1 9,.c1 11 44 [8,10],.mv 7 11,.e1 12 7 0,.e1 13 7 1,.ex 5 (.alloc [sE,(B false),sE]),.s1 3 5 12,.mv 6 13]) (.s (.s (.r [.mv 14 6,.ex 15 (.un .not 14)]) (.cnd 15 (.s (.r [.m1 4 (.i 2)]) .ret) .skip)) (.s (.s (.r [.f1 16 1 5,.l1 17 1 16]) (.cnd 17 (.s (.r [.m1 4 (.i 5)]) .ret) .skip)) (.s (.r [.m1 4 (.i 0)]) .ret)))))
theorem QP:compF Tryz.prog [] 142=some (QO.ac,[(.t 4)],18):=by kernel_rfl
theorem zf0 (W0:World) (t:List Ent) (op:Op):Fn Tryz.prog W0 142 [eEnts t,eOp op] (.c (CI (match find t op.path with | none=>2 | some e=>if e.dir=true then 5 else 0))) []:=by
 refine fnX (c:=QO) mixed QP (by simp) rfl fun hg=>?_
 have h1:=jh W0 t op.path
 cases hf:find t op.path with
 | none =>
  rw [hf] at h1
  refine dEr ?_
  repeat (refine c0 h1 rfl ?_; first | refine dEr ?_ | exact dz)
  try trivial
 | some e =>
  rw [hf] at h1
  refine dEr ?_
  repeat (refine c0 h1 rfl ?_; first | refine dEr ?_ | exact dz)
  refine cP ?_ ?_<;>intro h2
  ·refine dr ?_
   simp [h2]
  ·refine dr ?_
   simp [h2]
def JI:XC:=(.s (.r [.ex 6 (.mv (.s [])),.m1 7 .n]) (.s (.s (.r [.mv 9 0,.c1 10 79 [9],.ex 11 (.un .not 10),.mv 12 11,.gf 13 (.mv 1) 12,.gf 14 (.call 79 [13]) 12,.gf 15 (.un .not 14) 12,.ex 16 (.pick 12 .y 15),.mv 17 16,.gf 18 (.mv 2) 17,.gf 19 (.call 79 [18]) 17,.gf 20 (.un .not 19) 17,.ex 21 (.pick 17 .y 20)]) (.cnd 21 (.s (.r [.ex 6 (.mv (.s [])),.m1 7 .n]) .ret) .skip)) (.s (.s (.r [.mv 22 0,.mv 23 1,.b1 24 .neq 22 23,.mv 25 24,.gt 26 (.mv 0) 25,.gt 27 (.mv 1) 25,.gt 28 (.call 145 [26,27]) 25,.gt 29 (.un .not 28) 25,.ex 30 (.pick 25 29 .n)]) (.cnd 30 (.s (.r [.mv 31 0,.mv 6 31,.m1 7 .y]) .ret) .skip)) (.s (.r [.mv 32 2,.mv 33 0,.mv 34 1,.ex 35 (.len true 34),.ex 36 (.sls 33 (.some 35) .none),.b1 37 .add 32 36,.mv 8 37]) (.s (.s (.r [.mv 38 8,.c1 39 79 [38],.ex 40 (.un .not 39)]) (.cnd 40 (.s (.r [.ex 6 (.mv (.s [])),.m1 7 .n]) .ret) .skip)) (.s (.r [.mv 41 8,.mv 6 41,.m1 7 .y]) .ret))))))
theorem JJ:compF Tryz.prog [] 89=some (JI.ac,[(.t 6),(.t 7)],42):=by kernel_rfl
theorem zex (W0:World) (hM:HM W0) (s f t:Str):Fn Tryz.prog W0 89 [CS s,CS f,CS t] (.c (eOpt (pMove s f t))) []:=by
 refine fnX (c:=JI) mixed JJ (by simp) rfl fun hg=>?_
 have q1:=ji W0 hM s
 have q2:=ji W0 hM f
 have q3:=ji W0 hM t
 cases h1:pOk s with
 | false =>
  rw [h1] at q1
  refine dEr ?_
  repeat (refine c0 q1 rfl ?_; first | refine dEr ?_ | exact dz)
  rw [pMove,if_neg (by simp [h1])]<;>rfl
 | true =>
 rw [h1] at q1
 cases h2:pOk f with
 | false =>
  rw [h2] at q2
  refine dEr ?_
  repeat ((first | refine c0 q1 rfl ?_ | refine c0 q2 rfl ?_); first | refine dEr ?_ | exact dz)
  rw [pMove,if_neg (by simp [h2])]<;>rfl
 | true =>
 rw [h2] at q2
 cases h3:pOk t with
 | false =>
  rw [h3] at q3
  refine dEr ?_
  repeat ((first | refine c0 q1 rfl ?_ | refine c0 q2 rfl ?_ | refine c0 q3 rfl ?_); first | refine dEr ?_ | exact dz)
  rw [pMove,if_neg (by simp [h3])]<;>rfl
 | true =>
 rw [h3] at q3
 have hl1:=(yr h1).2.1
 have hl3:=(yr h3).2.1
 refine dEr ?_
 repeat ((first | refine c0 q1 rfl ?_ | refine c0 q2 rfl ?_ | refine c0 q3 rfl ?_); first | refine dEr ?_ | exact dz)
 refine cP ?_ ?_<;>intro h4
 ·have q4:=jj W0 hM s f
  rw [y9 h1 h2] at q4
  refine dEr ?_
  repeat (refine c0 q4 rfl ?_; first | refine dEr ?_ | exact dz)
  refine cP ?_ ?_<;>intro h5
  ·refine dr ?_
   rw [pMove,if_pos (by simp [h1,h2,h3]),if_pos (by simp [h4,h5])]<;>rfl
  ·have hle:f.length≤s.length:=by
    obtain ⟨r,hr⟩:=znO (yi h2) h5
    rw [hr]; simp
   have hu:¬ (s != f&&!und s f)=true:=by simp [h5]
   refine dEr ?_
   repeat ((first | refine sLo f.length rfl hle ?_ | refine oB (by simp; omega) ?_ | refine c0 (ji W0 hM _) rfl ?_); first | refine dEr ?_ | exact dz)
   refine cP ?_ ?_<;>intro h9
   ·refine dr ?_
    rw [pMove,if_pos (by simp [h1,h2,h3]),if_neg hu,if_neg (by simp [h9])]<;>rfl
   ·refine dr ?_
    rw [pMove,if_pos (by simp [h1,h2,h3]),if_neg hu,if_pos h9]<;>rfl
 ·have hle:f.length≤s.length:=by rw [h4]; exact Nat.le_refl _
  have hu:¬ (s != f&&!und s f)=true:=by simp [h4]
  refine dEr ?_
  repeat ((first | refine sLo f.length rfl hle ?_ | refine oB (by simp; omega) ?_ | refine c0 (ji W0 hM _) rfl ?_); first | refine dEr ?_ | exact dz)
  refine cP ?_ ?_<;>intro h9
  ·refine dr ?_
   rw [pMove,if_pos (by simp [h1,h2,h3]),if_neg hu,if_neg (by simp [h9])]<;>rfl
  ·refine dr ?_
   rw [pMove,if_pos (by simp [h1,h2,h3]),if_neg hu,if_pos h9]<;>rfl
def QQ:XC:=(.s (.r [.ex 3 (.box 1),.m1 4 (.i 0)]) (.s (.r [.mv 10 0,.f1 11 1 3,.l1 12 1 11,.c1 13 44 [10,12],.mv 9 13,.e1 14 9 0,.e1 15 9 1,.ex 5 (.alloc [sE,(B false),sE]),.s1 3 5 14,.mv 6 15]) (.s (.s (.r [.mv 16 6,.ex 17 (.un .not 16)]) (.cnd 17 (.s (.r [.m1 4 (.i 2)]) .ret) .skip)) (.s (.s (.r [.f1 18 1 5,.l1 19 1 18,.ex 20 (.un .not 19)]) (.cnd 20 (.s (.r [.m1 4 (.i 3)]) .ret) .skip)) (.s (.s (.r [.mv 21 0,.n1 22 21,.m1 23 (.i 0)]) (.blk 0 (.loop (.s (.r [.b1 24 .lss 23 22]) (.s (.cnd 24 .skip (.exit 0)) (.s (.blk 1 (.s (.r [.i1 25 3 21 23,.l2 26 3 25,.ex 8 (.alloc [sE,(B false),sE]),.s1 3 8 26]) (.s (.r [.f1 27 0 8,.l1 28 1 27,.f1 29 1 3,.l1 30 1 29,.c1 31 145 [28,30]]) (.cnd 31 (.s (.r [.m1 4 (.i 6)]) .ret) .skip)))) (.r [.b1 32 .add 23 (.i 1),.mv 23 32]))))))) (.s (.r [.m1 4 (.i 0)]) .ret))))))
theorem QR:compF Tryz.prog [] 143=some (QQ.ac,[(.t 4)],33):=by kernel_rfl
theorem zf1 (W0:World) (hM:HM W0) (t:List Ent) (op:Op):Fn Tryz.prog W0 143 [eEnts t,eOp op] (.c (CI (match find t op.path with | none=>2 | some e=>if e.dir=false then 3 else if t.any (fun e=>und2 e.path op.path)=true then 6 else 0))) []:=by
 refine fnX (c:=QQ) mixed QR (by simp) rfl fun hg=>?_
 have g1:=goodRow (hg _ (by simp:eEnts t∈_))
 have h1:=jh W0 t op.path
 cases hf:find t op.path with
 | none =>
  rw [hf] at h1
  refine dEr ?_
  repeat (refine c0 h1 rfl ?_; first | refine dEr ?_ | exact dz)
  try trivial
 | some e =>
  rw [hf] at h1
  refine dEr ?_
  repeat (refine c0 h1 rfl ?_; first | refine dEr ?_ | exact dz)
  refine cP ?_ ?_<;>intro h2
  ·refine dr ?_
   simp [h2]
  refine dr ?_
  refine lp (σ:=Nat) (fun k=>[(3,.ptr 48 0),(21,.c (eEnts t)),(22,I t.length),(23,I k)]) (fun _=>[(48,.box [.c (CI op.kind),.c (CS op.path),.c (CS op.dest),.c (CS op.data)])]) (fun k=>k≤t.length∧∀ i (h':i < t.length),i < k→und2 t[i].path op.path=false) (fun k=>t.length - k) 0 ⟨by simp,by simp⟩ ?_ ?_
  ·refine dr ?_
   trivial
  rintro k ⟨hk,ha⟩
  refine dr ?_
  refine cP ?_ ?_<;>intro h3
  ·have hk':k < t.length:=by omega
   refine dEr ?_
   repeat (refine c0 (jj W0 hM _ _) rfl ?_; first | refine dEr ?_ | exact dz)
   refine cP ?_ ?_<;>intro h4
   ·refine dr ?_
    simp only [h2,Bool.true_eq_false,if_false]
    rw [if_pos]
    exact List.any_eq_true.2 ⟨_,List.getElem_mem hk',h4⟩
   ·refine dr ?_
    refine ⟨k+1,⟨by omega,fun i h' hi=>?_⟩,by omega,?_⟩
    ·by_cases e:i=k
     ·subst e; exact h4
     ·exact ha i h' (by omega)
    ·refine dr ?_
     trivial
  ·refine dr ?_
   simp only [h2,Bool.true_eq_false,if_false]
   rw [if_neg]
   simp only [List.any_eq_true,not_exists,not_and]
   intro x hx
   obtain ⟨i,hi,rfl⟩:=List.mem_iff_getElem.1 hx
   simp [ha i hi (by omega)]
def QA:XC:=(.s (.r [.ex 3 (.box 1),.m1 4 (.i 0)]) (.s (.s (.r [.mv 15 0,.f1 16 1 3,.l1 17 1 16,.c1 18 44 [15,17],.mv 14 18,.e1 19 14 0,.e1 20 14 1,.ex 5 (.alloc [sE,(B false),sE]),.s1 3 5 19,.mv 6 20]) (.s (.r [.mv 21 6,.ex 22 (.un .not 21)]) (.cnd 22 (.s (.r [.m1 4 (.i 2)]) .ret) .skip))) (.s (.s (.r [.mv 23 0,.f1 24 2 3,.l1 25 1 24,.c1 26 101 [23,25],.mv 7 26]) (.s (.r [.mv 27 7,.b1 28 .neq 27 (.i 0)]) (.cnd 28 (.s (.r [.mv 29 7,.mv 4 29]) .ret) .skip))) (.s (.s (.r [.mv 31 0,.f1 32 2 3,.l1 33 1 32,.c1 34 44 [31,33],.mv 30 34,.e1 35 30 0,.e1 36 30 1,.ex 8 (.alloc [sE,(B false),sE]),.s1 3 8 35,.mv 9 36]) (.s (.r [.mv 37 9]) (.cnd 37 (.s (.r [.m1 4 (.i 4)]) .ret) .skip))) (.s (.s (.r [.f1 38 2 3,.l1 39 1 38,.f1 40 1 3,.l1 41 1 40,.c1 42 145 [39,41]]) (.cnd 42 (.s (.r [.m1 4 (.i 7)]) .ret) .skip)) (.s (.s (.r [.mv 43 0,.n1 44 43,.m1 45 (.i 0)]) (.blk 0 (.loop (.s (.r [.b1 46 .lss 45 44]) (.s (.cnd 46 .skip (.exit 0)) (.s (.blk 1 (.s (.r [.i1 47 3 43 45,.l2 48 3 47,.ex 11 (.alloc [sE,(B false),sE]),.s1 3 11 48]) (.s (.r [.f1 50 0 11,.l1 51 1 50,.f1 52 1 3,.l1 53 1 52,.f1 54 2 3,.l1 55 1 54,.c1 56 89 [51,53,55],.mv 49 56,.e1 57 49 0,.e1 58 49 1,.mv 12 57,.mv 13 58]) (.s (.r [.mv 59 13,.ex 60 (.un .not 59)]) (.cnd 60 (.s (.r [.m1 4 (.i 8)]) .ret) .skip))))) (.r [.b1 61 .add 45 (.i 1),.mv 45 61]))))))) (.s (.r [.m1 4 (.i 0)]) .ret)))))))
theorem QB:compF Tryz.prog [] 144=some (QA.ac,[(.t 4)],62):=by kernel_rfl
theorem zfT (W0:World) (hM:HM W0) (t:List Ent) (op:Op) (hp:pOk op.path=true) (hq:pOk op.dest=true):Fn Tryz.prog W0 144 [eEnts t,eOp op] (.c (CI (movC2 t op))) []:=by
 refine fnX (c:=QA) mixed QB (by simp) rfl fun hg=>?_
 have g1:=goodRow (hg _ (by simp:eEnts t∈_))
 have h1:=jh W0 t op.path
 have h2:=jH W0 hM t op.dest
 have h3:=jh W0 t op.dest
 have h4:=jj W0 hM op.dest op.path
 rw [zL] at h1 h3
 rw [znP] at h2
 rw [y9 hq hp] at h4
 unfold movC2
 refine dEr ?_
 repeat (refine c0 h1 rfl ?_; first | refine dEr ?_ | exact dz)
 refine cP ?_ ?_<;>intro k1
 ·refine dr ?_
  rw [if_pos k1]<;>rfl
 rw [if_neg (by simp [k1])]
 refine dEr ?_
 repeat (refine c0 h2 rfl ?_; first | refine dEr ?_ | exact dz)
 refine cP ?_ ?_<;>intro k2
 ·refine dr ?_
  rw [if_pos k2]<;>rfl
 rw [if_neg (by simp [k2])]
 refine dEr ?_
 repeat (refine c0 h3 rfl ?_; first | refine dEr ?_ | exact dz)
 refine cP ?_ ?_<;>intro k3
 ·refine dr ?_
  rw [if_pos k3]<;>rfl
 rw [if_neg (by simp [k3])]
 refine dEr ?_
 repeat (refine c0 h4 rfl ?_; first | refine dEr ?_ | exact dz)
 refine cP ?_ ?_<;>intro k4
 ·refine dr ?_
  rw [if_pos k4]<;>rfl
 rw [if_neg (by simp [k4])]
 refine dr ?_
 refine lp (σ:=Nat) (fun k=>[(3,.ptr 48 0),(43,.c (eEnts t)),(44,I t.length),(45,I k)]) (fun _=>[(48,.box [.c (CI op.kind),.c (CS op.path),.c (CS op.dest),.c (CS op.data)])]) (fun k=>k≤t.length∧∀ i (h':i < t.length),i < k→(pMove t[i].path op.path op.dest).isSome=true) (fun k=>t.length - k) 0 ⟨by simp,by simp⟩ ?_ ?_
 ·refine dr ?_
  trivial
 rintro k ⟨hk,ha⟩
 refine dr ?_
 refine cP ?_ ?_<;>intro h5
 ·have hk':k < t.length:=by omega
  have q:=zex W0 hM t[k].path op.path op.dest
  rw [zdB] at q
  refine dEr ?_
  repeat (refine c0 q rfl ?_; first | refine dEr ?_ | exact dz)
  refine cP ?_ ?_<;>intro h6
  ·refine dr ?_
   rw [if_neg]
   intro hall
   have:=List.all_eq_true.1 hall _ (List.getElem_mem hk')
   rw [h6] at this; cases this
  ·refine dr ?_
   refine ⟨k+1,⟨by omega,fun i h' hi=>?_⟩,by omega,?_⟩
   ·by_cases e:i=k
    ·subst e; exact h6
    ·exact ha i h' (by omega)
   ·refine dr ?_
    trivial
 ·refine dr ?_
  rw [if_pos]
  rw [List.all_eq_true]
  intro x hx
  obtain ⟨i,hi,rfl⟩:=List.mem_iff_getElem.1 hx
  exact ha i hi (by omega)
def QG:XC:=(.s (.r [.ex 3 (.box 1),.m1 4 (.i 0)]) (.s (.s (.r [.l2 5 4 3,.c1 6 139 [5],.ex 7 (.un .not 6)]) (.cnd 7 (.s (.r [.m1 4 (.i 1)]) .ret) .skip)) (.s (.s (.r [.f1 8 0 3,.l1 9 1 8]) (.blk 0 (.s (.r [.b1 11 .eql 9 (.i 1),.mv 10 11]) (.cnd 10 (.s (.r [.mv 12 0,.l2 13 4 3,.c1 14 140 [12,13],.mv 4 14]) .ret) (.s (.r [.b1 16 .eql 9 (.i 2),.mv 15 16]) (.cnd 15 (.s (.r [.mv 17 0,.l2 18 4 3,.c1 19 141 [17,18],.mv 4 19]) .ret) (.s (.r [.b1 21 .eql 9 (.i 3),.mv 20 21]) (.cnd 20 (.s (.r [.mv 22 0,.l2 23 4 3,.c1 24 142 [22,23],.mv 4 24]) .ret) (.s (.r [.b1 26 .eql 9 (.i 4),.mv 25 26]) (.cnd 25 (.s (.r [.mv 27 0,.l2 28 4 3,.c1 29 143 [27,28],.mv 4 29]) .ret) .skip)))))))))) (.s (.r [.mv 30 0,.l2 31 4 3,.c1 32 144 [30,31],.mv 4 32]) .ret))))
theorem QH:compF Tryz.prog [] 87=some (QG.ac,[(.t 4)],33):=by kernel_rfl
theorem zfW (W0:World) (hM:HM W0) (t:List Ent) (op:Op) (ht:TG t):Fn Tryz.prog W0 87 [eEnts t,eOp op] (.c (CI (if opOkB op=true then codeT t op else 1))) []:=by
 refine fnX (c:=QG) mixed QH (by simp) rfl fun hg=>?_
 refine dEr ?_
 repeat (refine c0 (zeu W0 hM _) rfl ?_; first | refine dEr ?_ | exact dz)
 refine cP ?_ ?_<;>intro h1
 ·refine dr ?_
  rw [if_neg (by simp [h1])]<;>rfl
 rw [if_pos h1]
 have hp:=yq h1
 have hk:=zks h1
 unfold codeT
 refine dr ?_
 refine cP ?_ ?_<;>intro h2
 ·rw [if_pos h2]
  refine dEr ?_
  repeat (refine c0 (zfQ W0 hM t op hp) rfl ?_; first | refine dEr ?_ | exact dz)
  try rfl
 rw [if_neg h2]
 refine dr ?_
 refine cP ?_ ?_<;>intro h3
 ·rw [if_pos h3]
  refine dEr ?_
  repeat (refine c0 (zfZ W0 hM t op hp) rfl ?_; first | refine dEr ?_ | exact dz)
  try rfl
 rw [if_neg h3]
 refine dr ?_
 refine cP ?_ ?_<;>intro h4
 ·rw [if_neg (by omega)]
  have e:offC t op=(match find t op.path with | none=>2 | some e=>if e.dir=true then 5 else 0):=by
   unfold offC
   rw [j7 hp]
   cases hf:find t op.path with
   | none=>rfl
   | some e =>
    simp only
    by_cases hd:e.dir=true
    ·rw [if_pos ⟨h4,hd⟩,if_pos hd]
    ·have hkn:kids t op.path=[]:=ziC ht hp (by
      unfold isDir
      rw [j7 hp,hf]
      simpa using hd)
     rw [if_neg (by simp [hd]),if_neg (by omega),if_neg (by simp [hkn]),if_neg hd]
  rw [e]
  refine dEr ?_
  repeat (refine c0 (zf0 W0 t op) rfl ?_; first | refine dEr ?_ | exact dz)
  try rfl
 refine dr ?_
 refine cP ?_ ?_<;>intro h5
 ·rw [if_neg (by omega)]
  have e:offC t op=(match find t op.path with | none=>2 | some e=>if e.dir=false then 3 else if t.any (fun e=>und2 e.path op.path)=true then 6 else 0):=by
   unfold offC
   rw [j7 hp]
   cases hf:find t op.path with
   | none=>rfl
   | some e =>
    simp only
    rw [if_neg (by omega)]
    by_cases hd:e.dir=false
    ·rw [if_pos ⟨h5,hd⟩,if_pos hd]
    ·rw [if_neg (by simp [hd]),if_neg hd]
     have hkb:=ziB ht hp
     have ha:(t.any (fun e=>und2 e.path op.path)=true)↔∃ e∈t,und e.path op.path=true:=by
      rw [List.any_eq_true]
      constructor
      ·rintro ⟨x,hx,h⟩; exact ⟨x,hx,by rw [← y9 (ht.path hx) hp]; exact h⟩
      ·rintro ⟨x,hx,h⟩; exact ⟨x,hx,by rw [y9 (ht.path hx) hp]; exact h⟩
     by_cases hx:kids t op.path=[]
     ·rw [if_neg (by simp [hx]),if_neg]
      rw [ha,← hkb]; simp [hx]
     ·rw [if_pos (List.length_pos_iff.2 hx),if_pos]
      rw [ha,← hkb]; exact hx
  rw [e]
  refine dEr ?_
  repeat (refine c0 (zf1 W0 hM t op) rfl ?_; first | refine dEr ?_ | exact dz)
  try rfl
 have h6:op.kind=5:=by omega
 rw [if_pos h6]
 have hq:=(op_5 h1 h6).1
 have e:movC t op=movC2 t op:=by
  unfold movC movC2
  rw [j7 hp,j7 hq]
 rw [e]
 refine dEr ?_
 repeat (refine c0 (zfT W0 hM t op hp hq) rfl ?_; first | refine dEr ?_ | exact dz)
 try rfl
def JQ:XC:=(.s (.r [.ex 3 (.box 1),.ex 4 (.asn (.k .nil) 3 39),.m1 5 (.i 0)]) (.s (.s (.r [.mv 10 0,.c1 11 43 [10],.ex 12 (.un .not 11)]) (.cnd 12 (.s (.r [.ex 4 (.asn (.k .nil) 3 39),.m1 5 (.i 1)]) .ret) .skip)) (.s (.s (.r [.mv 13 0,.l2 14 4 3,.c1 15 87 [13,14],.mv 6 15]) (.s (.r [.mv 16 6,.b1 17 .neq 16 (.i 0)]) (.cnd 17 (.s (.r [.mv 18 0,.c1 19 88 [18],.mv 20 6,.a1 4 19 3 39,.mv 5 20]) .ret) .skip))) (.s (.r [.ex 7 (.asn (.k .nil) 3 39)]) (.s (.s (.r [.mv 21 0,.n1 22 21,.m1 23 (.i 0)]) (.blk 0 (.loop (.s (.r [.b1 24 .lss 23 22]) (.s (.cnd 24 .skip (.exit 0)) (.s (.blk 1 (.s (.r [.i1 25 3 21 23,.l2 26 3 25,.ex 9 (.alloc [sE,(B false),sE]),.s1 3 9 26]) (.s (.s (.r [.f1 27 0 3,.l1 28 1 27,.b1 29 .eql 28 (.i 5)]) (.cnd 29 (.r [.f1 31 0 9,.l1 32 1 31,.f1 33 1 3,.l1 34 1 33,.f1 35 2 3,.l1 36 1 35,.c1 37 89 [32,34,36],.mv 30 37,.e1 38 30 0,.e1 39 30 1,.f1 40 0 9,.s1 1 40 38]) (.s (.r [.f1 41 0 9,.l1 42 1 41,.f1 43 1 3,.l1 44 1 43,.b1 45 .eql 42 44]) (.cnd 45 (.exit 1) .skip)))) (.r [.mv 46 7,.l2 47 3 9,.ex 48 (.bsl 3 39 [47]),.ex 49 (.app false 3 40 39 46 48),.a1 7 49 3 39])))) (.r [.b1 50 .add 23 (.i 1),.mv 23 50]))))))) (.s (.s (.r [.f1 51 0 3,.l1 52 1 51,.b1 53 .eql 52 (.i 1),.mv 54 53,.gf 55 (.fa 0 3) 54,.gf 56 (.ld false 1 55) 54,.gf 57 (.bin .eql 56 (.i 2)) 54,.ex 58 (.pick 54 .y 57)]) (.cnd 58 (.r [.mv 59 7,.f1 60 1 3,.l1 61 1 60,.f1 62 0 3,.l1 63 1 62,.b1 64 .eql 63 (.i 1),.f1 65 3 3,.l1 66 1 65,.ex 67 (.build [sE,(B false),sE] [(0,(1,61)),(1,(1,64)),(2,(1,66))]),.ex 68 (.bsl 3 39 [67]),.ex 69 (.app false 3 40 39 59 68),.a1 7 69 3 39]) .skip)) (.s (.r [.mv 70 7,.o1 71 90 [70]]) (.s (.r [.mv 72 7,.a1 4 72 3 39,.m1 5 (.i 0)]) .ret))))))))
theorem JR:compF Tryz.prog [90] 31=some (JQ.ac,[(.t 4),(.t 5)],73):=by kernel_rfl
theorem zey (W0:World) (hM:HM W0) (t:List Ent) (op:Op):Fn Tryz.prog W0 31 [eEnts t,eOp op] (.c (eTD (treeDo t op))) []:=by
 refine fnX (c:=JQ) mixed JR (by simp) rfl fun hg=>?_
 refine dEr ?_
 repeat (refine c0 (jl W0 hM _) rfl ?_; first | refine dEr ?_ | exact dz)
 refine cP ?_ ?_<;>intro h1
 ·refine dr ?_
  rw [treeDo,if_neg (by simp [h1])]<;>rfl
 have gt:=TG.of h1
 have hl:=gt.len
 rw [treeDo,if_pos h1]
 refine dEr ?_
 repeat (refine c0 (zfW W0 hM t op gt) rfl ?_; first | refine dEr ?_ | exact dz)
 refine cP ?_ ?_<;>intro h2
 ·refine dEr ?_
  repeat (refine c0 (zei W0 t (by omega)) rfl ?_; first | refine dEr ?_ | exact dz)
  by_cases h3:opOkB op=true
  ·rw [if_pos h3] at h2 ⊢
   rw [if_neg h2,if_pos h3]<;>rfl
  ·rw [if_neg h3,if_neg h3]<;>rfl
 have h3:opOkB op=true:=by
  by_cases h3:opOkB op=true
  ·exact h3
  ·rw [if_neg h3] at h2; omega
 rw [if_pos h3] at h2
 rw [if_pos h3,if_pos h2]
 refine dr ?_
 refine lp2 (fun (k:Nat) (out:List Ent)=>[(3,.ptr 48 0),(7,.own 112 out.length),(21,.c (eEnts t)),(22,I t.length),(23,I k)]) (fun _ out=>[(48,.box [.c (CI op.kind),.c (CS op.path),.c (CS op.dest),.c (CS op.data)]),(112,.row (out.map eEnt) 3 39)]) (fun k out=>k≤t.length∧out=(if op.kind=5 then (t.take k).map (movE op.path op.dest) else (t.take k).filter fun e=>e.path != op.path)∧out.length≤k) (fun k _=>t.length - k) 0 [] ⟨by simp,by simp,by simp⟩ ?_ ?_
 ·refine dr ?_
  trivial
 rintro k out ⟨hk,ho,hle⟩
 refine dr ?_
 refine cP ?_ ?_<;>intro h4
 ·have hk':k < t.length:=by omega
  refine dr ?_
  refine cP ?_ ?_<;>intro h5
  ·have hm:=MV.of gt h3 h5 (by unfold codeT at h2; rw [if_neg (by omega),if_neg (by omega),if_pos h5] at h2; exact h2)
   have hs:=hm.all _ (List.getElem_mem hk')
   have q:=zex W0 hM t[k].path op.path op.dest
   rw [zdB] at q
   refine dEr ?_
   repeat ((first | refine c0 q rfl ?_ | refine oB (by simp; omega) ?_ | refine oB (by simp) ?_); first | refine dEr ?_ | exact dz)
   refine ⟨k+1,out++[movE op.path op.dest t[k]],⟨by omega,?_,by simp; omega⟩,by omega,?_⟩
   ·rw [if_pos h5] at ho ⊢
    rw [List.take_succ_eq_append_getElem hk',List.map_append,ho]<;>rfl
   ·refine dr ?_
    repeat (refine oB (by simp<;>rfl) ?_; first | refine dr ?_ | exact dz)
    trivial
  ·refine dr ?_
   refine cP ?_ ?_<;>intro h6
   ·refine dr ?_
    refine ⟨k+1,out,⟨by omega,?_,by omega⟩,by omega,?_⟩
    ·rw [if_neg h5] at ho ⊢
     rw [jJ hk' (by simp [h6]),ho]
    ·refine dr ?_
     trivial
   ·refine dr ?_
    repeat ((first | refine oB (by simp; omega) ?_ | refine oB (by simp) ?_); first | refine dr ?_ | exact dz)
    refine ⟨k+1,out++[t[k]],⟨by omega,?_,by simp; omega⟩,by omega,?_⟩
    ·rw [if_neg h5] at ho ⊢
     rw [jK hk' (by simp [h6]),ho]
    ·refine dr ?_
     repeat (refine oB (by simp<;>rfl) ?_; first | refine dr ?_ | exact dz)
     trivial
 have hkl:k=t.length:=by omega
 rw [hkl,List.take_length] at ho
 have hb:eqI op.kind 1=(op.kind==1):=by rw [Bool.eq_iff_iff,zT]; simp
 have hX:out.map eEnt++[CV.agg [CS op.path,CB (eqI op.kind 1),CS op.data]]=(out++[(⟨op.path,op.kind==1,op.data⟩:Ent)]).map eEnt:=by rw [hb,List.map_append]<;>rfl
 have hn:out.length+1=(out++[(⟨op.path,op.kind==1,op.data⟩:Ent)]).length:=by simp
 have fin:∀ S,Sorts Ent.path (doX t op) S→S=doT t op:=fun S hS=>zdw gt h3 h2 hS
 refine dr ?_
 refine cP ?_ ?_<;>intro h5
 ·have e:doX t op=out++[⟨op.path,op.kind==1,op.data⟩]:=by
   unfold doX; rw [if_neg (by omega),if_pos (.inl h5),ho,if_neg (by omega)]
  rw [e] at fin
  refine dr ?_
  repeat ((first | refine oB (by simp; omega) ?_ | refine oB (by simp) ?_); first | refine dr ?_ | exact dz)
  refine oW ((zf3 W0 (out++[⟨op.path,op.kind==1,op.data⟩]) (by simp; omega)).swp 1 112) (congrArg (fun n=>[PV.own 112 n]) hn) ⟨congrArg (fun r=>some (XB.row r 3 39)) hX,trivial⟩ rfl rfl yL fun S hS=>⟨rfl,?_⟩
  refine dEr ?_
  repeat (refine oB (by simp [hS.len]) ?_; first | refine dEr ?_ | exact dz)
  rw [fin S hS]<;>rfl
 ·refine dr ?_
  refine cP ?_ ?_<;>intro h6
  ·have e:doX t op=out++[⟨op.path,op.kind==1,op.data⟩]:=by
    unfold doX; rw [if_neg (by omega),if_pos (.inr h6),ho,if_neg (by omega)]
   rw [e] at fin
   refine dr ?_
   repeat ((first | refine oB (by simp; omega) ?_ | refine oB (by simp) ?_); first | refine dr ?_ | exact dz)
   refine oW ((zf3 W0 (out++[⟨op.path,op.kind==1,op.data⟩]) (by simp; omega)).swp 1 112) (congrArg (fun n=>[PV.own 112 n]) hn) ⟨congrArg (fun r=>some (XB.row r 3 39)) hX,trivial⟩ rfl rfl yL fun S hS=>⟨rfl,?_⟩
   refine dEr ?_
   repeat (refine oB (by simp [hS.len]) ?_; first | refine dEr ?_ | exact dz)
   rw [fin S hS]<;>rfl
  ·have e:doX t op=out:=by
    unfold doX
    by_cases h7:op.kind=5
    ·rw [if_pos h7] at ho ⊢; exact ho.symm
    ·rw [if_neg h7] at ho ⊢; rw [if_neg (by omega)]; exact ho.symm
   rw [e] at fin
   refine dr ?_
   refine oW ((zf3 W0 out (by omega)).swp 1 112) rfl ⟨rfl,trivial⟩ rfl rfl yL fun S hS=>⟨rfl,?_⟩
   refine dEr ?_
   repeat (refine oB (by simp [hS.len]) ?_; first | refine dEr ?_ | exact dz)
   rw [fin S hS]<;>rfl
end Go.Proofs.YteheahbjaddooaaGreatDoor

namespace Go.Proofs.YteheahbjaddooaaGreatDoor
set_option linter.unusedSimpArgs false
set_option linter.unusedVariables false
open Go Go.RowKit
end Go.Proofs.YteheahbjaddooaaGreatDoor

namespace Go.Proofs.YteheahbjaddooaaGreatDoor
set_option linter.unusedSimpArgs false
set_option linter.unusedVariables false
open Go Go.RowKit
theorem zju {α:Type} {q:α→Bool} {l:List α} {k:Nat} (hn:∀ x∈l.take k,q x=false):∀ i (h':i < l.length),i < k→q l[i]=false:=fun i h' hi=>by
 refine hn _ ?_
 rw [List.mem_take_iff_getElem]
 exact ⟨i,by omega,rfl⟩
theorem zhs {α:Type} {q:α→Bool} {l:List α} {k:Nat} (h:k < l.length) (hn:∀ x∈l.take k,q x=false) (hp:q l[k]=true):gIdx q l=(k:Int):=zhr h hp (zju hn)
def Q0:XC:=(.s (.r [.m1 6 .n]) (.s (.r [.mv 7 0,.mv 8 1,.b1 9 .geq 7 8,.mv 10 9,.gt 11 (.mv 0) 10,.gt 12 (.mv 2) 10,.gt 13 (.bin .leq 11 12) 10,.ex 14 (.pick 10 13 .n),.mv 6 14]) .ret))
theorem Q1:compF Tryz.prog [] 55=some (Q0.ac,[(.t 6)],15):=by kernel_rfl
theorem jI (W0:World) (n a b:Int):Fn Tryz.prog W0 55 [CI n,CI a,CI b] (.c (CB (tb (a≤n∧n≤b)))) []:=by
 refine fnX (c:=Q0) mixed Q1 (by simp) rfl fun hg=>?_
 refine dr ?_
 refine cP ?_ ?_<;>intro h1
 ·refine dr ?_
  rw [znk]
  exact congrArg CB (tb_c ⟨fun h=>⟨h1,h⟩,fun h=>h.2⟩)
 ·refine dr ?_
  exact pF fun h=>by have:=h.1; omega
def Qo:XC:=(.s (.r [.m1 2 .n]) (.s (.r [.mv 3 0,.c1 4 55 [3,(.i 0),(.i 2)],.mv 2 4]) .ret))
theorem Qp:compF Tryz.prog [] 40=some (Qo.ac,[(.t 2)],5):=by kernel_rfl
theorem zeD (W0:World) (n:Int):Fn Tryz.prog W0 40 [CI n] (.c (CB (tb (isW n)))) []:=by
 refine fnX (c:=Qo) mixed Qp (by simp) rfl fun hg=>?_
 refine dEr ?_
 repeat (refine c0 (jI W0 n 0 2) rfl ?_; first | refine dEr ?_ | exact dz)
 exact congrArg CB (tb_c ⟨fun h=>⟨h.1,by have:=h.2; omega⟩,fun h=>⟨h.1,by have:=h.2; omega⟩⟩)
def Ju:XC:=(.s (.r [.ex 2 (.box 0),.m1 3 .n]) (.s (.r [.f1 4 0 2,.l1 5 1 4,.l1 6 1 1,.b1 7 .eql 5 6,.mv 3 7]) .ret))
theorem Jv:compF Tryz.prog [] 97=some (Ju.ac,[(.t 3)],8):=by kernel_rfl
theorem zem (W0:World) (h:Hold) (p:Str):FunW Tryz.prog W0 97 [.c (eHold h),.ptr 9 0] [(9,.box [.c (CS p)])] (fun _:Unit=>True) (fun _ => .c (CB (h.path==p))) (fun _=>[(9,.box [.c (CS p)])]):=by
 refine funW (c:=Ju) mixed Jv (by simp) rfl rfl fun hg=>?_
 rw [show (h.path==p)=eqS h.path p from (zV _ _).symm]
 refine dr ?_
 refine ⟨none,_,_,?_,(),trivial,rfl,rfl⟩
 refine dr ?_
 trivial
def Yc:XC:=(.s (.r [.ex 3 (.box 0),.m1 4 .n]) (.s (.r [.f1 5 0 3,.l1 6 1 5,.l1 7 1 1,.b1 8 .eql 6 7,.mv 9 8,.gt 10 (.fa 1 3) 9,.gt 11 (.ld false 1 10) 9,.gt 12 (.ld false 1 2) 9,.gt 13 (.bin .eql 11 12) 9,.ex 14 (.pick 9 13 .n),.mv 4 14]) .ret))
theorem Yd:compF Tryz.prog [] 162=some (Yc.ac,[(.t 4)],15):=by kernel_rfl
theorem zfO (W0:World) (l:Lease) (who:Int) (p:Str):FunW Tryz.prog W0 162 [.c (eLease l),.ptr 9 0,.ptr 12 0] [(9,.box [.c (CI who)]),(12,.box [.c (CS p)])] (fun _:Unit=>True) (fun _ => .c (CB (l.who==who&&l.path==p))) (fun _=>[(9,.box [.c (CI who)]),(12,.box [.c (CS p)])]):=by
 refine funW (c:=Yc) mixed Yd (by simp) rfl rfl fun hg=>?_
 refine dr ?_
 refine cP ?_ ?_<;>intro h1
 ·rw [show (l.who==who&&l.path==p)=eqS l.path p by rw [zV]; simp [h1]]
  refine dr ?_
  refine ⟨none,_,_,?_,(),trivial,rfl,rfl⟩
  refine dr ?_
  trivial
 ·rw [show (l.who==who&&l.path==p)=false by simp [h1]]
  refine dr ?_
  refine ⟨none,_,_,?_,(),trivial,rfl,rfl⟩
  refine dr ?_
  trivial
def Ji:XC:=(.s (.r [.m1 4 (.i 0)]) (.s (.s (.r [.mv 6 0,.n1 7 6,.m1 8 (.i 0)]) (.blk 0 (.loop (.s (.r [.b1 9 .lss 8 7]) (.s (.cnd 9 .skip (.exit 0)) (.s (.blk 1 (.s (.r [.mv 10 8,.mv 5 10]) (.s (.r [.mv 11 1,.mv 12 0,.mv 13 5,.i1 14 7 12 13,.l2 15 7 14,.ex 16 (.opv 11 [15])]) (.cnd 16 (.s (.r [.mv 17 5,.mv 4 17]) .ret) .skip)))) (.r [.b1 18 .add 8 (.i 1),.mv 8 18]))))))) (.s (.r [.ex 4 (.mv (.k (.c (.sc (.int .i64 (.negSucc 0))))))]) .ret)))
theorem Jj:compF Tryz.prog [999998] 96=some (Ji.ac,[(.t 4)],19):=by kernel_rfl
theorem zd9 (W0:World) (l:List Hold) (p:Str) (hl:l.length≤9223372036854775807):FunW Tryz.prog W0 96 [.c (eHolds l),.fn 97 [9]] [(9,.box [.c (CS p)])] (fun _:Unit=>True) (fun _ => .c (CI (hAt l p))) (fun _=>[(9,.box [.c (CS p)])]):=by
 refine funW (c:=Ji) mixed Jj (by simp) rfl rfl fun hg=>?_
 refine dr ?_
 refine lp (σ:=Nat) (fun k=>[(0,.c (eHolds l)),(1,.fn 97 [9]),(7,I l.length),(8,I k)]) (fun _=>[(9,.box [.c (CS p)])]) (fun k=>k≤l.length∧∀ x∈l.take k,(x.path==p)=false) (fun k=>l.length - k) 0 ⟨by omega,by simp⟩ ?_ ?_
 ·refine dr ?_
  trivial
 rintro k ⟨hk,hA⟩
 refine dr ?_
 refine cP ?_ ?_<;>intro h1
 ·have hk':k < l.length:=by omega
  refine dr ?_
  refine ⟨by kernel_rfl,?_⟩
  refine dr ?_
  refine oW (zem W0 l[k] p) rfl ⟨rfl,trivial⟩ rfl rfl ⟨(),trivial⟩ fun _ _=>⟨rfl,?_⟩
  refine dEr ?_
  refine cP ?_ ?_<;>intro h2
  ·rw [hAt,zhs hk' hA h2]
   refine dr ?_
   refine ⟨none,_,_,?_,(),trivial,rfl,rfl⟩
   refine dr ?_
   trivial
  ·refine dr ?_
   refine ⟨k+1,⟨by omega,zjU hk' hA h2⟩,by omega,?_⟩
   refine dr ?_
   trivial
 have hkl:k=l.length:=by omega
 rw [hkl,List.take_length] at hA
 rw [hAt,zht hA]
 refine dr ?_
 refine ⟨none,_,_,?_,(),trivial,rfl,rfl⟩
 refine dr ?_
 trivial
def Jk:XC:=(.s (.r [.m1 4 (.i 0)]) (.s (.s (.r [.mv 6 0,.n1 7 6,.m1 8 (.i 0)]) (.blk 0 (.loop (.s (.r [.b1 9 .lss 8 7]) (.s (.cnd 9 .skip (.exit 0)) (.s (.blk 1 (.s (.r [.mv 10 8,.mv 5 10]) (.s (.r [.mv 11 1,.mv 12 0,.mv 13 5,.i1 14 4 12 13,.l2 15 4 14,.ex 16 (.opv 11 [15])]) (.cnd 16 (.s (.r [.mv 17 5,.mv 4 17]) .ret) .skip)))) (.r [.b1 18 .add 8 (.i 1),.mv 8 18]))))))) (.s (.r [.ex 4 (.mv (.k (.c (.sc (.int .i64 (.negSucc 0))))))]) .ret)))
theorem Jl:compF Tryz.prog [999998] 161=some (Jk.ac,[(.t 4)],19):=by kernel_rfl
theorem zea (W0:World) (l:List Lease) (who:Int) (p:Str) (hl:l.length≤9223372036854775807):FunW Tryz.prog W0 161 [.c (eLeases l),.fn 162 [9,12]] [(9,.box [.c (CI who)]),(12,.box [.c (CS p)])] (fun _:Unit=>True) (fun _ => .c (CI (lAt l who p))) (fun _=>[(9,.box [.c (CI who)]),(12,.box [.c (CS p)])]):=by
 refine funW (c:=Jk) mixed Jl (by simp) rfl rfl fun hg=>?_
 refine dr ?_
 refine lp (σ:=Nat) (fun k=>[(0,.c (eLeases l)),(1,.fn 162 [9,12]),(7,I l.length),(8,I k)]) (fun _=>[(9,.box [.c (CI who)]),(12,.box [.c (CS p)])]) (fun k=>k≤l.length∧∀ x∈l.take k,(x.who==who&&x.path==p)=false) (fun k=>l.length - k) 0 ⟨by omega,by simp⟩ ?_ ?_
 ·refine dr ?_
  trivial
 rintro k ⟨hk,hA⟩
 refine dr ?_
 refine cP ?_ ?_<;>intro h1
 ·have hk':k < l.length:=by omega
  refine dr ?_
  refine ⟨by kernel_rfl,?_⟩
  refine dr ?_
  refine oW (zfO W0 l[k] who p) rfl ⟨rfl,rfl,trivial⟩ rfl rfl ⟨(),trivial⟩ fun _ _=>⟨rfl,?_⟩
  refine dEr ?_
  refine cP ?_ ?_<;>intro h2
  ·rw [lAt,zhs hk' hA h2]
   refine dr ?_
   refine ⟨none,_,_,?_,(),trivial,rfl,rfl⟩
   refine dr ?_
   trivial
  ·refine dr ?_
   refine ⟨k+1,⟨by omega,zjU hk' hA h2⟩,by omega,?_⟩
   refine dr ?_
   trivial
 have hkl:k=l.length:=by omega
 rw [hkl,List.take_length] at hA
 rw [lAt,zht hA]
 refine dr ?_
 refine ⟨none,_,_,?_,(),trivial,rfl,rfl⟩
 refine dr ?_
 trivial
def Qi:XC:=(.s (.r [.ex 3 (.box 1),.m1 4 (.i 0)]) (.s (.r [.mv 5 0,.ex 6 (.fnv 97 [3]),.o1 7 96 [5,6],.mv 4 7]) .ret))
theorem Qj:compF Tryz.prog [96] 41=some (Qi.ac,[(.t 4)],8):=by kernel_rfl
theorem zel (W0:World) (l:List Hold) (p:Str):Fn Tryz.prog W0 41 [eHolds l,CS p] (.c (CI (hAt l p))) []:=by
 refine fnX (c:=Qi) mixed Qj (by simp) rfl fun hg=>?_
 have g1:l.length≤9223372036854775807:=goodRow (hg _ (by simp:eHolds l∈_))
 refine dr ?_
 refine oW ((zd9 W0 l p g1).swp 9 48) rfl ⟨rfl,trivial⟩ rfl rfl ⟨(),trivial⟩ fun _ _=>⟨rfl,?_⟩
 exact dz
def Qq:XC:=(.s (.r [.ex 4 (.box 1),.ex 5 (.box 2),.m1 6 (.i 0)]) (.s (.r [.mv 7 0,.ex 8 (.fnv 162 [4,5]),.o1 9 161 [7,8],.mv 6 9]) .ret))
theorem Qr:compF Tryz.prog [161] 104=some (Qq.ac,[(.t 6)],10):=by kernel_rfl
theorem zfN (W0:World) (l:List Lease) (who:Int) (p:Str):Fn Tryz.prog W0 104 [eLeases l,CI who,CS p] (.c (CI (lAt l who p))) []:=by
 refine fnX (c:=Qq) mixed Qr (by simp) rfl fun hg=>?_
 have g1:l.length≤9223372036854775807:=goodRow (hg _ (by simp:eLeases l∈_))
 refine dr ?_
 refine oW (((zea W0 l who p g1).swp 9 64).swp 12 80) rfl ⟨rfl,rfl,trivial⟩ rfl rfl ⟨(),trivial⟩ fun _ _=>⟨rfl,?_⟩
 exact dz
def Qs:XC:=(.s (.r [.ex 1 (.box 0),.m1 2 .n]) (.s (.s (.r [.f1 5 5 1,.l1 6 1 5,.n1 7 6,.m1 8 (.i 0)]) (.blk 0 (.loop (.s (.r [.b1 9 .lss 8 7]) (.s (.cnd 9 .skip (.exit 0)) (.s (.blk 1 (.s (.r [.mv 10 8,.i1 11 4 6 8,.l2 12 4 11,.ex 4 (.alloc [(I 0),sE,(I 0),(I 0)]),.mv 3 10,.s1 4 4 12]) (.s (.s (.r [.f1 13 0 4,.l1 14 1 13,.c1 15 40 [14],.ex 16 (.un .not 15),.mv 17 16,.gf 18 (.fa 1 4) 17,.gf 19 (.ld false 1 18) 17,.gf 20 (.call 79 [19]) 17,.gf 21 (.un .not 20) 17,.ex 22 (.pick 17 .y 21),.mv 23 22,.gf 24 (.fa 2 4) 23,.gf 25 (.ld false 1 24) 23,.gf 26 (.fa 4 1) 23,.gf 27 (.ld false 1 26) 23,.gf 28 (.call 55 [25,(.i 1),27]) 23,.gf 29 (.un .not 28) 23,.ex 30 (.pick 23 .y 29),.mv 31 30,.gf 32 (.fa 3 4) 31,.gf 33 (.ld false 1 32) 31,.gf 34 (.fa 3 1) 31,.gf 35 (.ld false 1 34) 31,.gf 36 (.bin .add 35 (.i 5)) 31,.gf 37 (.bin .gtr 33 36) 31,.ex 38 (.pick 31 .y 37)]) (.cnd 38 (.s (.r [.m1 2 .n]) .ret) .skip)) (.s (.r [.f1 39 5 1,.l1 40 1 39,.f1 41 0 4,.l1 42 1 41,.f1 43 1 4,.l1 44 1 43,.c1 45 104 [40,42,44],.mv 46 3,.b1 47 .neq 45 46]) (.cnd 47 (.s (.r [.m1 2 .n]) .ret) .skip))))) (.r [.b1 48 .add 8 (.i 1),.mv 8 48]))))))) (.s (.r [.m1 2 .y]) .ret)))
theorem Qt:compF Tryz.prog [] 57=some (Qs.ac,[(.t 2)],49):=by kernel_rfl
theorem zi9 {w:Wld}:LsOk w↔(∀ l∈w.leases,LsG w l)∧∀ i (h:i < w.leases.length),lAt w.leases w.leases[i].who w.leases[i].path=(i:Int):=by
 have h0:(∀ i (h:i < w.leases.length),lAt w.leases w.leases[i].who w.leases[i].path=(i:Int))↔w.leases.Pairwise LsD:=by
  refine (firsts (R:=lKey) (fun a=>by simp [lKey]) (l:=w.leases)).trans ?_
  constructor<;>intro h<;>refine h.imp ?_
  ·intro a b hab; simp only [lKey,Bool.and_eq_false_imp,beq_iff_eq,beq_eq_false_iff_ne] at hab
   exact fun hh=>hab hh.1 hh.2
  ·intro a b hab; simp only [lKey,Bool.and_eq_false_imp,beq_iff_eq,beq_eq_false_iff_ne]
   exact fun h1 h2=>hab ⟨h1,h2⟩
 exact ⟨fun h=>⟨h.g,h0.2 h.d⟩,fun h=>⟨h.1,h0.1 h.2⟩⟩
theorem zfP (W0:World) (hM:HM W0) (w:Wld) (hp:w.clock≤10000):Fn Tryz.prog W0 57 [eWld w] (.c (CB (tb (LsOk w)))) []:=by
 refine fnX (c:=Qs) mixed Qt (by simp) rfl fun hg=>?_
 have g0:=goodAgg (hg _ (by simp:eWld w∈_))
 have g1:w.leases.length≤9223372036854775807:=goodRow (g0 _ (by simp:eLeases w.leases∈_))
 have g2:=goodI (g0 _ (by simp:CI w.clock∈_))
 rw [tb_c zi9]
 refine dr ?_
 refine lp (σ:=Nat) (fun k=>[(1,.ptr 16 0),(6,.c (eLeases w.leases)),(7,I w.leases.length),(8,I k)]) (fun _=>[(16,wBx w)]) (fun k=>k≤w.leases.length∧(∀ l∈w.leases.take k,LsG w l)∧∀ i (h:i < w.leases.length),i < k→lAt w.leases w.leases[i].who w.leases[i].path=(i:Int)) (fun k=>w.leases.length - k) 0 ⟨by omega,by simp,fun i _ h=>by omega⟩ ?_ ?_
 ·refine dr ?_
  trivial
 rintro k ⟨hk,hA,hP⟩
 refine dr ?_
 refine cP ?_ ?_<;>intro h1
 rotate_left
 ·have hkl:k=w.leases.length:=by omega
  rw [hkl,List.take_length] at hA
  refine dr ?_
  exact pT ⟨hA,fun i hi=>hP i hi (by omega)⟩
 have hk':k < w.leases.length:=by omega
 have no:¬ LsG w w.leases[k]→CB false=CB (tb ((∀ l∈w.leases,LsG w l)∧∀ i (h:i < w.leases.length),lAt w.leases w.leases[i].who w.leases[i].path=(i:Int))):=fun h=>pF fun hh=>h (hh.1 _ (List.getElem_mem hk'))
 refine dEr ?_
 repeat (refine c0 (zeD W0 _) rfl ?_; first | refine dEr ?_ | exact dz)
 refine cP ?_ ?_<;>intro a1
 ·refine dr ?_
  exact no fun h=>a1 h.1
 refine dEr ?_
 repeat (refine c0 (ji W0 hM _) rfl ?_; first | refine dEr ?_ | exact dz)
 refine cP ?_ ?_<;>intro a2
 ·refine dr ?_
  exact no fun h=>by rw [h.2.1] at a2; cases a2
 refine dEr ?_
 repeat (refine c0 (jI W0 _ _ _) rfl ?_; first | refine dEr ?_ | exact dz)
 refine cP ?_ ?_<;>intro a3
 ·refine dr ?_
  exact no fun h=>a3 ⟨h.2.2.1,h.2.2.2.1⟩
 refine dr ?_
 repeat (refine oB (by omega) ?_; first | refine dr ?_ | exact dz)
 refine cP ?_ ?_<;>intro a5
 ·refine dr ?_
  exact no fun h=>by have:=h.2.2.2.2; omega
 refine dEr ?_
 repeat (refine c0 (zfN W0 _ _ _) rfl ?_; first | refine dEr ?_ | exact dz)
 refine cP ?_ ?_<;>intro a6
 ·refine dr ?_
  exact pF fun hh=>a6 (hh.2 k hk')
 refine dr ?_
 refine ⟨k+1,⟨by omega,fun l hl=>?_,fun i hi hik=>?_⟩,by omega,?_⟩
 ·rw [List.take_succ_eq_append_getElem hk'] at hl
  rcases List.mem_append.1 hl with h' | h'
  ·exact hA l h'
  ·rw [List.mem_singleton.1 h']; exact ⟨a1,a2,a3.1,a3.2,by omega⟩
 ·by_cases e:i=k
  ·subst e; exact a6
  ·exact hP i hi (by omega)
 refine dr ?_
 trivial
def Qm:XC:=(.s (.r [.ex 1 (.box 0),.m1 2 .n]) (.s (.s (.r [.f1 7 6 1,.l1 8 1 7,.n1 9 8,.m1 10 (.i 0)]) (.blk 0 (.loop (.s (.r [.b1 11 .lss 10 9]) (.s (.cnd 11 .skip (.exit 0)) (.s (.blk 1 (.s (.r [.i1 12 1 8 10,.l1 13 1 12,.a1 4 13 7 53]) (.s (.r [.mv 14 4,.n1 15 14,.m1 16 (.i 0)]) (.blk 2 (.loop (.s (.r [.b1 17 .lss 16 15]) (.s (.cnd 17 .skip (.exit 2)) (.s (.blk 3 (.s (.r [.mv 18 16,.i1 19 7 14 16,.l2 20 7 19,.ex 6 (.alloc [sE,(B false),sE,(B false),sE,(I 0),(I 0)]),.mv 5 18,.s1 7 6 20]) (.s (.r [.f1 21 0 6,.l1 22 1 21,.c1 23 79 [22],.ex 24 (.un .not 23),.mv 25 24,.gf 26 (.fa 5 6) 25,.gf 27 (.ld false 1 26) 25,.gf 28 (.fa 4 1) 25,.gf 29 (.ld false 1 28) 25,.gf 30 (.call 55 [27,(.i 0),29]) 25,.gf 31 (.un .not 30) 25,.ex 32 (.pick 25 .y 31),.mv 33 32,.gf 34 (.mv 4) 33,.gf 35 (.fa 0 6) 33,.gf 36 (.ld false 1 35) 33,.gf 37 (.call 41 [34,36]) 33,.gf 38 (.mv 5) 33,.gf 39 (.bin .neq 37 38) 33,.ex 40 (.pick 33 .y 39)]) (.cnd 40 (.s (.r [.m1 2 .n]) .ret) .skip)))) (.r [.b1 41 .add 16 (.i 1),.mv 16 41]))))))))) (.r [.b1 42 .add 10 (.i 1),.mv 10 42]))))))) (.s (.r [.m1 2 .y]) .ret)))
theorem Qn:compF Tryz.prog [] 58=some (Qm.ac,[(.t 2)],43):=by kernel_rfl
theorem zh5 {w:Wld} {L:List Hold}:HsOk w L↔(∀ h∈L,pOk h.path=true∧0≤h.num∧h.num≤w.count)∧∀ i (h:i < L.length),hAt L L[i].path=(i:Int):=by
 have h0:(∀ i (h:i < L.length),hAt L L[i].path=(i:Int))↔L.Pairwise fun a b=>a.path≠b.path:=by
  refine (firsts (R:=hKey) (fun a=>by simp [hKey]) (l:=L)).trans ?_
  constructor<;>intro h<;>refine h.imp ?_
  ·intro a b hab; simpa [hKey] using hab
  ·intro a b hab; simpa [hKey] using hab
 exact ⟨fun h=>⟨h.g,h0.2 h.d⟩,fun h=>⟨h.1,h0.1 h.2⟩⟩
theorem zeo (W0:World) (hM:HM W0) (w:Wld):Fn Tryz.prog W0 58 [eWld w] (.c (CB (tb (∀ l∈w.holds,HsOk w l)))) []:=by
 refine fnX (c:=Qm) mixed Qn (by simp) rfl fun hg=>?_
 have g0:=goodAgg (hg _ (by simp:eWld w∈_))
 have g1:w.holds.length≤9223372036854775807:=goodRow (g0 _ (by simp:eHoldss w.holds∈_))
 refine dr ?_
 refine lp (σ:=Nat) (fun j=>[(1,.ptr 16 0),(8,.c (eHoldss w.holds)),(9,I w.holds.length),(10,I j)]) (fun _=>[(16,wBx w)]) (fun j=>j≤w.holds.length∧∀ l∈w.holds.take j,HsOk w l) (fun j=>w.holds.length - j) 0 ⟨by omega,by simp⟩ ?_ ?_
 ·refine dr ?_
  trivial
 rintro j ⟨hj,hA⟩
 refine dr ?_
 refine cP ?_ ?_<;>intro h1
 rotate_left
 ·have hkl:j=w.holds.length:=by omega
  rw [hkl,List.take_length] at hA
  refine dr ?_
  exact pT hA
 have hj':j < w.holds.length:=by omega
 have g2:w.holds[j].length≤9223372036854775807:=by
  have:=goodRow' (g0 _ (by simp:eHoldss w.holds∈_)) _ (List.getElem_mem hj') (eHolds w.holds[j]) (by simp [eHolds,CV.cells])
  exact goodRow this
 have hmj:=List.getElem_mem hj'
 have next:HsOk w w.holds[j]→∀ l∈w.holds.take (j+1),HsOk w l:=fun h l hl=>by
  rw [List.take_succ_eq_append_getElem hj'] at hl
  rcases List.mem_append.1 hl with h' | h'
  ·exact hA l h'
  ·rw [List.mem_singleton.1 h']; exact h
 have no:¬ HsOk w w.holds[j]→CB false=CB (tb (∀ l∈w.holds,HsOk w l)):=fun h=>pF fun hh=>h (hh _ hmj)
 refine dr ?_
 refine lp (σ:=Nat) (fun k=>[(1,.ptr 16 0),(4,.c (eHolds w.holds[j])),(8,.c (eHoldss w.holds)),(9,I w.holds.length),(10,I j),(14,.c (eHolds w.holds[j])),(15,I w.holds[j].length),(16,I k)]) (fun _=>[(16,wBx w)]) (fun k=>k≤w.holds[j].length∧(∀ h∈w.holds[j].take k,pOk h.path=true∧0≤h.num∧h.num≤w.count)∧∀ i (h:i < w.holds[j].length),i < k→hAt w.holds[j] w.holds[j][i].path=(i:Int)) (fun k=>w.holds[j].length - k) 0 ⟨by omega,by simp,fun i _ h=>by omega⟩ ?_ ?_
 ·refine dr ?_
  trivial
 rintro k ⟨hk,hB,hP⟩
 refine dr ?_
 refine cP ?_ ?_<;>intro b1
 rotate_left
 ·have hkl:k=w.holds[j].length:=by omega
  rw [hkl,List.take_length] at hB
  refine dr ?_
  refine ⟨j+1,⟨by omega,next (zh5.2 ⟨hB,fun i hi=>hP i hi (by omega)⟩)⟩,by omega,?_⟩
  refine dr ?_
  trivial
 have hk':k < w.holds[j].length:=by omega
 refine dEr ?_
 repeat (refine c0 (ji W0 hM _) rfl ?_; first | refine dEr ?_ | exact dz)
 refine cP ?_ ?_<;>intro a1
 ·refine dr ?_
  exact no fun h=>by rw [(h.g _ (List.getElem_mem hk')).1] at a1; cases a1
 refine dEr ?_
 repeat (refine c0 (jI W0 _ _ _) rfl ?_; first | refine dEr ?_ | exact dz)
 refine cP ?_ ?_<;>intro a2
 ·refine dr ?_
  exact no fun h=>a2 (h.g _ (List.getElem_mem hk')).2
 refine dEr ?_
 repeat (refine c0 (zel W0 _ _) rfl ?_; first | refine dEr ?_ | exact dz)
 refine cP ?_ ?_<;>intro a3
 ·refine dr ?_
  exact no fun h=>a3 ((zh5.1 h).2 k hk')
 refine dr ?_
 refine ⟨k+1,⟨by omega,fun l hl=>?_,fun i hi hik=>?_⟩,by omega,?_⟩
 ·rw [List.take_succ_eq_append_getElem hk'] at hl
  rcases List.mem_append.1 hl with h' | h'
  ·exact hB l h'
  ·rw [List.mem_singleton.1 h']; exact ⟨a1,a2.1,a2.2⟩
 ·by_cases e:i=k
  ·subst e; exact a3
  ·exact hP i hi (by omega)
 refine dr ?_
 trivial
def QE:XC:=(.s (.r [.ex 1 (.box 0),.m1 2 .n]) (.s (.s (.r [.f1 5 8 1,.l1 6 1 5,.n1 7 6,.b1 8 .gtr 7 (.i 12)]) (.cnd 8 (.s (.r [.m1 2 .n]) .ret) .skip)) (.s (.s (.r [.f1 9 8 1,.l1 10 1 9,.n1 11 10,.m1 12 (.i 0)]) (.blk 0 (.loop (.s (.r [.b1 13 .lss 12 11]) (.s (.cnd 13 .skip (.exit 0)) (.s (.blk 1 (.s (.r [.i1 14 9 10 12,.l2 15 9 14,.ex 4 (.alloc [(I 0),(I 0),sE,(B false),sE,(B false),sE,(I 0),(I 0)]),.s1 9 4 15]) (.s (.s (.r [.f1 16 0 4,.l1 17 1 16,.c1 18 55 [17,(.i 1),(.i 4)],.ex 19 (.un .not 18),.mv 20 19,.gf 21 (.fa 1 4) 20,.gf 22 (.ld false 1 21) 20,.gf 23 (.call 40 [22]) 20,.gf 24 (.un .not 23) 20,.ex 25 (.pick 20 .y 24),.mv 26 25,.gf 27 (.fa 2 4) 26,.gf 28 (.fa 0 27) 26,.gf 29 (.ld false 1 28) 26,.gf 30 (.call 79 [29]) 26,.gf 31 (.un .not 30) 26,.ex 32 (.pick 26 .y 31),.mv 33 32,.gf 34 (.fa 2 4) 33,.gf 35 (.fa 5 34) 33,.gf 36 (.ld false 1 35) 33,.gf 37 (.fa 4 1) 33,.gf 38 (.ld false 1 37) 33,.gf 39 (.call 55 [36,(.i 0),38]) 33,.gf 40 (.un .not 39) 33,.ex 41 (.pick 33 .y 40)]) (.cnd 41 (.s (.r [.m1 2 .n]) .ret) .skip)) (.s (.r [.f1 42 0 4,.l1 43 1 42,.b1 44 .neq 43 (.i 2),.mv 45 44,.gt 46 (.fa 2 4) 45,.gt 47 (.ld true 7 46) 45,.gt 48 (.fa 2 4) 45,.gt 49 (.fa 0 48) 45,.gt 50 (.ld false 1 49) 45,.gt 51 (.fa 2 4) 45,.gt 52 (.fa 5 51) 45,.gt 53 (.ld false 1 52) 45,.gt 54 (.build [sE,(B false),sE,(B false),sE,(I 0),(I 0)] [(0,(1,50)),(5,(1,53))]) 45,.gt 55 (.beq true [.s,.b,.s,.b,.s,(.i .i64),(.i .i64)] 47 54) 45,.ex 56 (.pick 45 55 .n)]) (.cnd 56 (.s (.r [.m1 2 .n]) .ret) .skip))))) (.r [.b1 57 .add 12 (.i 1),.mv 12 57]))))))) (.s (.r [.m1 2 .y]) .ret))))
theorem QF:compF Tryz.prog [] 56=some (QE.ac,[(.t 2)],58):=by kernel_rfl
theorem zfV (W0:World) (hM:HM W0) (w:Wld):Fn Tryz.prog W0 56 [eWld w] (.c (CB (tb (w.net.length≤12∧∀ m∈w.net,NtOk w m)))) []:=by
 refine fnX (c:=QE) mixed QF (by simp) rfl fun hg=>?_
 have g0:=goodAgg (hg _ (by simp:eWld w∈_))
 have g1:w.net.length≤9223372036854775807:=goodRow (g0 _ (by simp:eMsgs w.net∈_))
 refine dr ?_
 refine cP ?_ ?_<;>intro h0
 ·refine dr ?_
  exact pF fun h=>by omega
 refine dr ?_
 refine lp (σ:=Nat) (fun k=>[(1,.ptr 16 0),(10,.c (eMsgs w.net)),(11,I w.net.length),(12,I k)]) (fun _=>[(16,wBx w)]) (fun k=>k≤w.net.length∧∀ m∈w.net.take k,NtOk w m) (fun k=>w.net.length - k) 0 ⟨by omega,by simp⟩ ?_ ?_
 ·refine dr ?_
  trivial
 rintro k ⟨hk,hA⟩
 refine dr ?_
 refine cP ?_ ?_<;>intro h1
 rotate_left
 ·have hkl:k=w.net.length:=by omega
  rw [hkl,List.take_length] at hA
  refine dr ?_
  exact pT ⟨by omega,hA⟩
 have hk':k < w.net.length:=by omega
 have hmk:=List.getElem_mem hk'
 have next:NtOk w w.net[k]→∀ m∈w.net.take (k+1),NtOk w m:=fun h l hl=>by
  rw [List.take_succ_eq_append_getElem hk'] at hl
  rcases List.mem_append.1 hl with h' | h'
  ·exact hA l h'
  ·rw [List.mem_singleton.1 h']; exact h
 have no:¬ NtOk w w.net[k]→CB false=CB (tb (w.net.length≤12∧∀ m∈w.net,NtOk w m)):=fun h=>pF fun hh=>h (hh.2 _ hmk)
 refine dEr ?_
 repeat (refine c0 (jI W0 _ _ _) rfl ?_; first | refine dEr ?_ | exact dz)
 refine cP ?_ ?_<;>intro a1
 ·refine dr ?_
  exact no fun h=>a1 h.kind
 refine dEr ?_
 repeat (refine c0 (zeD W0 _) rfl ?_; first | refine dEr ?_ | exact dz)
 refine cP ?_ ?_<;>intro a2
 ·refine dr ?_
  exact no fun h=>a2 h.who
 refine dEr ?_
 repeat (refine c0 (ji W0 hM _) rfl ?_; first | refine dEr ?_ | exact dz)
 refine cP ?_ ?_<;>intro a3
 ·refine dr ?_
  exact no fun h=>by rw [h.path] at a3; cases a3
 refine dEr ?_
 repeat (refine c0 (jI W0 _ _ _) rfl ?_; first | refine dEr ?_ | exact dz)
 refine cP ?_ ?_<;>intro a4
 ·refine dr ?_
  exact no fun h=>a4 h.num
 refine dr ?_
 refine cP ?_ ?_<;>intro a5
 ·refine dr ?_
  rw [show (eqS w.net[k].hold.path w.net[k].hold.path&&(eqB w.net[k].hold.has false&&(eqS w.net[k].hold.ent.path []&&(eqB w.net[k].hold.ent.dir false&&(eqS w.net[k].hold.ent.data []&&(eqI w.net[k].hold.num w.net[k].hold.num&&(eqI w.net[k].hold.til 0&&true)))))))=decide (w.net[k].hold=plainH w.net[k].hold) from bqHold w.net[k].hold (plainH w.net[k].hold)]
  refine cP ?_ ?_<;>intro a6
  ·refine dr ?_
   exact no fun h=>a6 (h.plain a5)
  ·refine dr ?_
   refine ⟨k+1,⟨by omega,next ⟨a1,a2,a3,a4,fun _=>a6⟩⟩,by omega,?_⟩
   refine dr ?_
   trivial
 ·refine dr ?_
  refine ⟨k+1,⟨by omega,next ⟨a1,a2,a3,a4,fun h=>absurd a5 h⟩⟩,by omega,?_⟩
  refine dr ?_
  trivial
def QY:XC:=(.s (.r [.ex 2 (.box 0),.m1 4 .n]) (.s (.s (.r [.f1 7 9 2,.l1 8 1 7,.ex 9 (.un .not 8)]) (.cnd 9 (.s (.r [.f1 10 10 2,.l2 11 4 10,.ex 12 (.build [(I 0),sE,sE,sE] []),.ex 13 (.beq false [(.i .i64),.s,.s,.s] 11 12),.mv 4 13]) .ret) .skip)) (.s (.r [.mv 15 1,.f1 16 10 2,.l2 17 4 16,.c1 18 31 [15,17],.mv 14 18,.e1 19 14 0,.e1 20 14 1,.a1 5 19 3 39,.mv 6 20]) (.s (.r [.mv 21 6,.b1 22 .eql 21 (.i 0),.mv 4 22]) .ret))))
theorem QZ:compF Tryz.prog [] 59=some (QY.ac,[(.t 4)],23):=by kernel_rfl
theorem zgo (W0:World) (hM:HM W0) (w:Wld) (t:List Ent):Fn Tryz.prog W0 59 [eWld w,eEnts t] (.c (CB (tb (WtOk w t)))) []:=by
 refine fnX (c:=QY) mixed QZ (by simp) rfl fun hg=>?_
 refine dr ?_
 refine cP ?_ ?_<;>intro h1
 ·refine dr ?_
  rw [show (eqI w.op.kind 0&&(eqS w.op.path []&&(eqS w.op.dest []&&(eqS w.op.data []&&true))))=decide (w.op=noOp) from bqOp w.op noOp]
  by_cases h2:w.op=noOp
  ·rw [decide_eq_true h2]
   exact pT ⟨fun _=>h2,fun h=>by rw [h1] at h; cases h⟩
  ·rw [decide_eq_false h2]
   exact pF fun h=>h2 (h.1 h1)
 ·refine dEr ?_
  repeat (refine c0 (zey W0 hM t w.op) rfl ?_; first | refine dEr ?_ | exact dz)
  refine congrArg CB ?_
  rw [Bool.eq_iff_iff,zT,tb_i]
  exact ⟨fun h=>⟨fun h2=>(by rw [h1] at h2; cases h2),fun _=>h⟩,fun h=>h.2 h1⟩
def Qk:XC:=(.s (.r [.ex 4 (.box 0),.ex 7 (.box 3),.m1 8 .n]) (.s (.r [.mv 14 1,.f1 15 0 7,.l1 16 1 15,.c1 17 15 [14,16],.mv 13 17,.e1 18 13 0,.e1 19 13 1,.ex 9 (.alloc [sE,(B false),sE]),.s1 3 9 18,.mv 10 19]) (.s (.s (.r [.f1 20 1 7,.l1 21 1 20,.mv 22 10,.ex 23 (.bb true 21 22),.mv 24 23,.gf 25 (.fa 2 7) 24,.gf 26 (.ld true 3 25) 24,.gf 27 (.ld true 3 9) 24,.gf 28 (.beq true [.s,.b,.s] 26 27) 24,.ex 29 (.pick 24 .y 28)]) (.cnd 29 (.s (.r [.m1 8 .n]) .ret) .skip)) (.s (.r [.f1 30 5 4,.l1 31 1 30,.mv 32 2,.f1 33 0 7,.l1 34 1 33,.c1 35 104 [31,32,34],.mv 11 35]) (.s (.s (.r [.mv 36 11,.b1 37 .lss 36 (.i 0)]) (.cnd 37 (.s (.r [.m1 8 .n]) .ret) .skip)) (.s (.r [.f1 38 5 4,.l1 39 1 38,.mv 40 11,.i1 41 4 39 40,.l2 42 4 41,.ex 12 (.alloc [(I 0),sE,(I 0),(I 0)]),.s1 4 12 42]) (.s (.r [.f1 43 3 12,.l1 44 1 43,.f1 45 3 4,.l1 46 1 45,.b1 47 .gtr 44 46,.mv 48 47,.gt 49 (.fa 2 12) 48,.gt 50 (.ld false 1 49) 48,.gt 51 (.fa 5 7) 48,.gt 52 (.ld false 1 51) 48,.gt 53 (.bin .geq 50 52) 48,.ex 54 (.pick 48 53 .n),.mv 55 54,.gt 56 (.fa 3 12) 55,.gt 57 (.ld false 1 56) 55,.gt 58 (.fa 6 7) 55,.gt 59 (.ld false 1 58) 55,.gt 60 (.bin .geq 57 59) 55,.ex 61 (.pick 55 60 .n),.mv 8 61]) .ret)))))))
theorem Ql:compF Tryz.prog [] 105=some (Qk.ac,[(.t 8)],62):=by kernel_rfl
theorem zen (W0:World) (hM:HM W0) (w:Wld) (t:List Ent) (who:Int) (h:Hold) (ht:tOk t=true) (ha:w.clock < h.til):Fn Tryz.prog W0 105 [eWld w,eEnts t,CI who,eHold h] (.c (CB (tb (So w t who h)))) []:=by
 refine fnX (c:=Qk) mixed Ql (by simp) rfl fun hg=>?_
 have hc:=zez W0 hM t h.path
 rw [if_pos ht,zL] at hc
 rw [tb_c (zl8 ha)]
 have hla:=zfN W0 w.leases who h.path
 have hcs:=@ziQ w.leases who h.path
 generalize (get t h.path)=x at *
 generalize (lfind w.leases who h.path)=y at *
 generalize (lAt w.leases who h.path)=z at *
 refine dEr ?_
 repeat (refine c0 hc rfl ?_; first | refine dEr ?_ | exact dz)
 refine cP ?_ ?_<;>intro h2
 ·refine dr ?_
  exact pF fun hh=>h2 hh.1.symm
 refine dr ?_
 rw [bqEnt]
 refine cP ?_ ?_<;>intro h3
 ·refine dr ?_
  exact pF fun hh=>h3 hh.2.1.symm
 refine dEr ?_
 repeat (refine c0 hla rfl ?_; first | refine dEr ?_ | exact dz)
 rcases hcs with ⟨e1,e2⟩ | ⟨j,hj,e1,e2⟩
 ·subst e1 e2
  refine cP ?_ ?_<;>intro h4
  ·refine dr ?_
   exact pF fun hh=>by cases hh.2.2.1
  ·omega
 subst e1 e2
 refine cP ?_ ?_<;>intro h4
 ·omega
 refine dr ?_
 refine cP ?_ ?_<;>intro h5
 rotate_left
 ·refine dr ?_
  exact pF fun hh=>by have h1:w.clock < w.leases[j].til:=hh.2.2.2.1; omega
 refine dr ?_
 refine cP ?_ ?_<;>intro h6
 rotate_left
 ·refine dr ?_
  exact pF fun hh=>by have h1:h.num≤w.leases[j].num:=hh.2.2.2.2.1; omega
 refine dr ?_
 rw [znk]
 exact congrArg CB (tb_c ⟨fun h7=>⟨h2.symm,h3.symm,rfl,h5,h6,h7⟩,fun hh=>hh.2.2.2.2.2⟩)
end Go.Proofs.YteheahbjaddooaaGreatDoor

namespace Go.Proofs.YteheahbjaddooaaGreatDoor
set_option linter.unusedSimpArgs false
set_option linter.unusedVariables false
open Go Go.RowKit
theorem goodHd {w:Wld} (g0:∀ x∈[eEnts w.over.base,eMarkss w.over.layers,eMarks w.over.upper,CI w.clock,CI w.count,eLeases w.leases,eHoldss w.holds,eInts w.floors,eMsgs w.net,CB w.waits,CI w.op.kind,CS w.op.path,CS w.op.dest,CS w.op.data],Good x) {j:Nat} (h:j < w.holds.length):w.holds[j].length≤9223372036854775807:=by
 have:=goodRow' (g0 _ (by simp:eHoldss w.holds∈_)) _ (List.getElem_mem h) (eHolds w.holds[j]) (by simp [eHolds,CV.cells])
 exact goodRow this
def Qe:XC:=(.s (.r [.ex 2 (.box 0),.m1 4 .n]) (.s (.s (.r [.f1 12 6 2,.l1 13 1 12,.n1 14 13,.m1 15 (.i 0)]) (.blk 0 (.loop (.s (.r [.b1 16 .lss 15 14]) (.s (.cnd 16 .skip (.exit 0)) (.s (.blk 1 (.s (.r [.mv 17 15,.i1 18 1 13 15,.l1 19 1 18,.mv 5 17,.a1 6 19 7 53]) (.s (.r [.mv 20 6,.n1 21 20,.m1 22 (.i 0)]) (.blk 2 (.loop (.s (.r [.b1 23 .lss 22 21]) (.s (.cnd 23 .skip (.exit 2)) (.s (.blk 3 (.s (.r [.i1 24 7 20 22,.l2 25 7 24,.ex 8 (.alloc [sE,(B false),sE,(B false),sE,(I 0),(I 0)]),.s1 7 8 25]) (.s (.r [.f1 26 6 8,.l1 27 1 26,.f1 28 3 2,.l1 29 1 28,.b1 30 .gtr 27 29,.mv 31 30,.gt 32 (.ld true 14 2) 31,.gt 33 (.mv 1) 31,.gt 34 (.mv 5) 31,.gt 35 (.ld true 7 8) 31,.gt 36 (.call 105 [32,33,34,35]) 31,.gt 37 (.un .not 36) 31,.ex 38 (.pick 31 37 .n)]) (.cnd 38 (.s (.r [.m1 4 .n]) .ret) .skip)))) (.r [.b1 39 .add 22 (.i 1),.mv 22 39]))))))))) (.r [.b1 40 .add 15 (.i 1),.mv 15 40]))))))) (.s (.s (.r [.f1 41 8 2,.l1 42 1 41,.n1 43 42,.m1 44 (.i 0)]) (.blk 4 (.loop (.s (.r [.b1 45 .lss 44 43]) (.s (.cnd 45 .skip (.exit 4)) (.s (.blk 5 (.s (.r [.i1 46 9 42 44,.l2 47 9 46,.ex 10 (.alloc [(I 0),(I 0),sE,(B false),sE,(B false),sE,(I 0),(I 0)]),.s1 9 10 47]) (.s (.d [.f1 48 0 10,.l1 49 1 48,.b1 50 .eql 49 (.i 2),.mv 51 50,.gt 52 (.fa 2 10) 51,.gt 53 (.fa 6 52) 51,.gt 54 (.ld false 1 53) 51,.gt 55 (.fa 3 2) 51,.gt 56 (.ld false 1 55) 51,.gt 57 (.bin .gtr 54 56) 51,.ex 58 (.pick 51 57 .n),.mv 59 58,.gt 60 (.fa 2 10) 59,.gt 61 (.fa 5 60) 59,.gt 62 (.ld false 1 61) 59,.gt 63 (.fa 7 2) 59,.gt 64 (.ld false 1 63) 59,.gt 65 (.fa 1 10) 59,.gt 66 (.ld false 1 65) 59,.gt 67 (.ia 1 64 66) 59,.gt 68 (.ld false 1 67) 59,.gt 69 (.bin .gtr 62 68) 59,.ex 70 (.pick 59 69 .n),.mv 11 70]) (.s (.r [.mv 71 11,.mv 72 71,.gt 73 (.ld true 14 2) 72,.gt 74 (.mv 1) 72,.gt 75 (.fa 1 10) 72,.gt 76 (.ld false 1 75) 72,.gt 77 (.fa 2 10) 72,.gt 78 (.ld true 7 77) 72,.gt 79 (.call 105 [73,74,76,78]) 72,.gt 80 (.un .not 79) 72,.ex 81 (.pick 72 80 .n)]) (.cnd 81 (.s (.r [.m1 4 .n]) .ret) .skip))))) (.r [.b1 82 .add 44 (.i 1),.mv 44 82]))))))) (.s (.r [.m1 4 .y]) .ret))))
theorem Qf:compF Tryz.prog [] 60=some (Qe.ac,[(.t 4)],83):=by kernel_rfl
theorem zek (W0:World) (hM:HM W0) (w:Wld) (t:List Ent) (ht:tOk t=true) (hl:w.holds.length=3) (hf:w.floors.length=3) (hw:∀ m∈w.net,isW m.who):Fn Tryz.prog W0 60 [eWld w,eEnts t] (.c (CB (tb (HeldOk w t)))) []:=by
 refine fnX (c:=Qe) mixed Qf (by simp) rfl fun hg=>?_
 have g0:=goodAgg (hg _ (by simp:eWld w∈_))
 have g1:w.net.length≤9223372036854775807:=goodRow (g0 _ (by simp:eMsgs w.net∈_))
 refine dr ?_
 refine lp (σ:=Nat) (fun j=>[(1,.c (eEnts t)),(2,.ptr 32 0),(13,.c (eHoldss w.holds)),(14,I w.holds.length),(15,I j)]) (fun _=>[(32,wBx w)]) (fun j=>j≤w.holds.length∧∀ i:Nat,i < j→∀ h∈hdW w i,So w t i h) (fun j=>w.holds.length - j) 0 ⟨by omega,fun i h=>by omega⟩ ?_ ?_
 ·refine dr ?_
  trivial
 rintro j ⟨hj,hA⟩
 refine dr ?_
 refine cP ?_ ?_<;>intro h1
 ·have hj':j < w.holds.length:=by omega
  have g2:=goodHd g0 hj'
  have ehd:=zh0 hj'
  refine dr ?_
  refine lp (σ:=Nat) (fun k=>[(1,.c (eEnts t)),(2,.ptr 32 0),(5,I j),(13,.c (eHoldss w.holds)),(14,I w.holds.length),(15,I j),(20,.c (eHolds w.holds[j])),(21,I w.holds[j].length),(22,I k)]) (fun _=>[(32,wBx w)]) (fun k=>k≤w.holds[j].length∧∀ h∈w.holds[j].take k,So w t j h) (fun k=>w.holds[j].length - k) 0 ⟨by omega,by simp⟩ ?_ ?_
  ·refine dr ?_
   trivial
  rintro k ⟨hk,hB⟩
  refine dr ?_
  refine cP ?_ ?_<;>intro b1
  rotate_left
  ·have hkl:k=w.holds[j].length:=by omega
   rw [hkl,List.take_length] at hB
   refine dr ?_
   refine ⟨j+1,⟨by omega,fun i hi h hh=>?_⟩,by omega,?_⟩
   ·by_cases e:i=j
    ·subst e; rw [ehd] at hh; exact hB h hh
    ·exact hA i (by omega) h hh
   refine dr ?_
   trivial
  have hk':k < w.holds[j].length:=by omega
  have next:So w t j w.holds[j][k]→∀ h∈w.holds[j].take (k+1),So w t j h:=fun h l hl=>by
   rw [List.take_succ_eq_append_getElem hk'] at hl
   rcases List.mem_append.1 hl with h' | h'
   ·exact hB l h'
   ·rw [List.mem_singleton.1 h']; exact h
  refine dr ?_
  refine cP ?_ ?_<;>intro b2
  ·refine dEr ?_
   repeat (refine c0 (zen W0 hM w t (j:Int) w.holds[j][k] ht b2) rfl ?_; first | refine dEr ?_ | exact dz)
   refine cP ?_ ?_<;>intro b3
   ·refine dr ?_
    exact pF fun hh=>b3 (hh.1 j (by omega) _ (by rw [ehd]; exact List.getElem_mem hk'))
   ·refine dr ?_
    refine ⟨k+1,⟨by omega,next b3⟩,by omega,?_⟩
    refine dr ?_
    trivial
  ·refine dr ?_
   refine ⟨k+1,⟨by omega,next fun hh=>by omega⟩,by omega,?_⟩
   refine dr ?_
   trivial
 have hA:∀ i:Nat,i < 3→∀ h∈hdW w i,So w t i h:=fun i hi=>hA i (by omega)
 refine dr ?_
 refine lp (σ:=Nat) (fun k=>[(1,.c (eEnts t)),(2,.ptr 32 0),(42,.c (eMsgs w.net)),(43,I w.net.length),(44,I k)]) (fun _=>[(32,wBx w)]) (fun k=>k≤w.net.length∧∀ m∈w.net.take k,Counts w m→So w t m.who m.hold) (fun k=>w.net.length - k) 0 ⟨by omega,by simp⟩ ?_ ?_
 ·refine dr ?_
  trivial
 rintro k ⟨hk,hB⟩
 refine dr ?_
 refine cP ?_ ?_<;>intro c1
 rotate_left
 ·have hkl:k=w.net.length:=by omega
  rw [hkl,List.take_length] at hB
  refine dr ?_
  exact pT ⟨hA,hB⟩
 have hk':k < w.net.length:=by omega
 have hmk:=List.getElem_mem hk'
 have hwk:=hw _ hmk
 have next:(Counts w w.net[k]→So w t w.net[k].who w.net[k].hold)→∀ m∈w.net.take (k+1),Counts w m→So w t m.who m.hold:=fun h l hl=>by
  rw [List.take_succ_eq_append_getElem hk'] at hl
  rcases List.mem_append.1 hl with h' | h'
  ·exact hB l h'
  ·rw [List.mem_singleton.1 h']; exact h
 refine dr ?_
 refine cP ?_ ?_<;>intro c2
 rotate_left
 ·refine dr ?_
  refine ⟨k+1,⟨by omega,next fun hh=>absurd hh.1 c2⟩,by omega,?_⟩
  refine dr ?_
  trivial
 refine dr ?_
 refine cP ?_ ?_<;>intro c3
 rotate_left
 ·refine dr ?_
  refine ⟨k+1,⟨by omega,next fun hh=>by have:=hh.2.1; omega⟩,by omega,?_⟩
  refine dr ?_
  trivial
 refine dr ?_
 repeat (refine aFl hwk hf ?_; first | refine dr ?_ | exact dz)
 refine cP ?_ ?_<;>intro c4
 rotate_left
 ·refine dr ?_
  refine ⟨k+1,⟨by omega,next fun hh=>by have:=hh.2.2; omega⟩,by omega,?_⟩
  refine dr ?_
  trivial
 refine dEr ?_
 repeat (refine c0 (zen W0 hM w t w.net[k].who w.net[k].hold ht c3) rfl ?_; first | refine dEr ?_ | exact dz)
 refine cP ?_ ?_<;>intro c5
 ·refine dr ?_
  exact pF fun hh=>c5 (hh.2 _ hmk ⟨c2,c3,c4⟩)
 ·refine dr ?_
  refine ⟨k+1,⟨by omega,next fun _=>c5⟩,by omega,?_⟩
  refine dr ?_
  trivial
def J4:XC:=(.s (.r [.ex 1 (.box 0),.m1 2 .n]) (.s (.s (.r [.f1 6 8 1,.l1 7 1 6,.n1 8 7,.m1 9 (.i 0)]) (.blk 0 (.loop (.s (.r [.b1 10 .lss 9 8]) (.s (.cnd 10 .skip (.exit 0)) (.s (.blk 1 (.s (.r [.i1 11 9 7 9,.l2 12 9 11,.ex 4 (.alloc [(I 0),(I 0),sE,(B false),sE,(B false),sE,(I 0),(I 0)]),.s1 9 4 12]) (.s (.s (.r [.f1 13 0 4,.l1 14 1 13,.b1 15 .neq 14 (.i 4)]) (.cnd 15 (.exit 1) .skip)) (.s (.s (.d [.f1 16 2 4,.f1 17 5 16,.l1 18 1 17,.f1 19 7 1,.l1 20 1 19,.f1 21 1 4,.l1 22 1 21,.i1 23 1 20 22,.l1 24 1 23,.b1 25 .gtr 18 24]) (.cnd 25 (.s (.r [.m1 2 .n]) .ret) .skip)) (.s (.d [.f1 26 6 1,.l1 27 1 26,.f1 28 1 4,.l1 29 1 28,.i1 30 1 27 29,.l1 31 1 30,.f1 32 2 4,.f1 33 0 32,.l1 34 1 33,.c1 35 41 [31,34],.mv 5 35]) (.s (.d [.mv 36 5,.b1 37 .geq 36 (.i 0),.mv 38 37,.gt 39 (.fa 6 1) 38,.gt 40 (.ld false 1 39) 38,.gt 41 (.fa 1 4) 38,.gt 42 (.ld false 1 41) 38,.gt 43 (.ia 1 40 42) 38,.gt 44 (.ld false 1 43) 38,.gt 45 (.mv 5) 38,.gt 46 (.ia 7 44 45) 38,.gt 47 (.fa 5 46) 38,.gt 48 (.ld false 1 47) 38,.gt 49 (.fa 2 4) 38,.gt 50 (.fa 5 49) 38,.gt 51 (.ld false 1 50) 38,.gt 52 (.bin .leq 48 51) 38,.ex 53 (.pick 38 52 .n)]) (.cnd 53 (.s (.r [.m1 2 .n]) .ret) .skip))))))) (.r [.b1 54 .add 9 (.i 1),.mv 9 54]))))))) (.s (.r [.m1 2 .y]) .ret)))
theorem J5:compF Tryz.prog [] 61=some (J4.ac,[(.t 2)],55):=by kernel_rfl
theorem zeh (W0:World) (w:Wld) (hl:w.holds.length=3) (hf:w.floors.length=3) (hw:∀ m∈w.net,isW m.who) (hs:∀ l∈w.holds,HsOk w l):Fn Tryz.prog W0 61 [eWld w] (.c (CB (tb (BackOk w)))) []:=by
 refine fnX (c:=J4) mixed J5 (by simp) rfl fun hg=>?_
 have g0:=goodAgg (hg _ (by simp:eWld w∈_))
 have g1:w.net.length≤9223372036854775807:=goodRow (g0 _ (by simp:eMsgs w.net∈_))
 refine dr ?_
 refine lp (σ:=Nat) (fun k=>[(1,.ptr 16 0),(7,.c (eMsgs w.net)),(8,I w.net.length),(9,I k)]) (fun _=>[(16,wBx w)]) (fun k=>k≤w.net.length∧∀ m∈w.net.take k,m.kind=4→Given w m) (fun k=>w.net.length - k) 0 ⟨by omega,by simp⟩ ?_ ?_
 ·refine dr ?_
  trivial
 rintro k ⟨hk,hA⟩
 refine dr ?_
 refine cP ?_ ?_<;>intro h1
 rotate_left
 ·have hkl:k=w.net.length:=by omega
  rw [hkl,List.take_length] at hA
  refine dr ?_
  exact pT hA
 have hk':k < w.net.length:=by omega
 have hmk:=List.getElem_mem hk'
 have hwk:=hw _ hmk
 have next:(w.net[k].kind=4→Given w w.net[k])→∀ m∈w.net.take (k+1),m.kind=4→Given w m:=fun h l hl=>by
  rw [List.take_succ_eq_append_getElem hk'] at hl
  rcases List.mem_append.1 hl with h' | h'
  ·exact hA l h'
  ·rw [List.mem_singleton.1 h']; exact h
 have hsk:HsOk w (hdW w w.net[k].who):=by
  obtain ⟨i,hi,e⟩:=qi hwk
  exact hs _ ((zjo hl).2 ⟨i,hi,by rw [e]⟩)
 have hgf:=zhy hsk.d (p:=w.net[k].hold.path) (n:=w.net[k].hold.num)
 have hha:=zel W0 (hdW w w.net[k].who) w.net[k].hold.path
 have hcs:=zhU (hdW w w.net[k].who) w.net[k].hold.path
 refine dr ?_
 refine cP ?_ ?_<;>intro c1
 ·refine dr ?_
  refine ⟨k+1,⟨by omega,next fun hh=>absurd hh c1⟩,by omega,?_⟩
  refine dr ?_
  trivial
 refine dr ?_
 repeat (refine aFl hwk hf ?_; first | refine dr ?_ | exact dz)
 refine cP ?_ ?_<;>intro c2
 ·refine dr ?_
  exact pF fun hh=>by have:=(hh _ hmk c1).1; omega
 refine dEr ?_
 repeat ((first | refine aHd hwk hl ?_ | refine c0 hha rfl ?_); first | refine dEr ?_ | exact dz)
 rcases hcs with ⟨e1,e2⟩ | ⟨j,hj,e1,e2,e3⟩
 ·rw [e1]
  refine cP ?_ ?_<;>intro c3
  ·omega
  refine dr ?_
  refine ⟨k+1,⟨by omega,next fun _=>⟨by omega,hgf.2 fun j hj hh=>by rw [e1] at hh; omega⟩⟩,by omega,?_⟩
  refine dr ?_
  trivial
 rw [e1]
 refine cP ?_ ?_<;>intro c3
 rotate_left
 ·omega
 refine dr ?_
 repeat (refine aHd hwk hl ?_; first | refine dr ?_ | exact dz)
 refine cP ?_ ?_<;>intro c4
 ·refine dr ?_
  exact pF fun hh=>by have:=hgf.1 (hh _ hmk c1).2 j hj e1; omega
 ·refine dr ?_
  refine ⟨k+1,⟨by omega,next fun _=>⟨by omega,hgf.2 fun i hi hh=>?_⟩⟩,by omega,?_⟩
  ·rw [e1] at hh
   obtain rfl:i=j:=by omega
   omega
  refine dr ?_
  trivial
def JY:XC:=(.s (.r [.ex 1 (.box 0),.m1 2 .n]) (.s (.r [.f1 8 0 1,.l2 9 3 8,.c1 10 14 [9],.mv 7 10,.e1 11 7 0,.e1 12 7 1,.a1 3 11 3 39,.mv 4 12]) (.s (.s (.r [.mv 13 4,.ex 14 (.un .not 13),.mv 15 14,.gf 16 (.fa 3 1) 15,.gf 17 (.ld false 1 16) 15,.gf 18 (.call 55 [17,(.i 0),(.i 10000)]) 15,.gf 19 (.un .not 18) 15,.ex 20 (.pick 15 .y 19),.mv 21 20,.gf 22 (.fa 4 1) 21,.gf 23 (.ld false 1 22) 21,.gf 24 (.call 55 [23,(.i 0),(.i 10000)]) 21,.gf 25 (.un .not 24) 21,.ex 26 (.pick 21 .y 25)]) (.cnd 26 (.s (.r [.m1 2 .n]) .ret) .skip)) (.s (.s (.r [.f1 27 6 1,.l1 28 1 27,.n1 29 28,.b1 30 .neq 29 (.i 3),.mv 31 30,.gf 32 (.fa 7 1) 31,.gf 33 (.ld false 1 32) 31,.gf 34 (.len false 33) 31,.gf 35 (.bin .neq 34 (.i 3)) 31,.ex 36 (.pick 31 .y 35)]) (.cnd 36 (.s (.r [.m1 2 .n]) .ret) .skip)) (.s (.s (.r [.f1 37 7 1,.l1 38 1 37,.n1 39 38,.m1 40 (.i 0)]) (.blk 0 (.loop (.s (.r [.b1 41 .lss 40 39]) (.s (.cnd 41 .skip (.exit 0)) (.s (.blk 1 (.s (.r [.i1 42 1 38 40,.l1 43 1 42,.mv 6 43]) (.s (.r [.mv 44 6,.f1 45 4 1,.l1 46 1 45,.c1 47 55 [44,(.i 0),46],.ex 48 (.un .not 47)]) (.cnd 48 (.s (.r [.m1 2 .n]) .ret) .skip)))) (.r [.b1 49 .add 40 (.i 1),.mv 40 49]))))))) (.s (.r [.l2 50 14 1,.c1 51 56 [50],.mv 52 51,.gt 53 (.ld true 14 1) 52,.gt 54 (.call 57 [53]) 52,.ex 55 (.pick 52 54 .n),.mv 56 55,.gt 57 (.ld true 14 1) 56,.gt 58 (.call 58 [57]) 56,.ex 59 (.pick 56 58 .n),.mv 60 59,.gt 61 (.ld true 14 1) 60,.gt 62 (.mv 3) 60,.gt 63 (.call 59 [61,62]) 60,.ex 64 (.pick 60 63 .n),.mv 65 64,.gt 66 (.ld true 14 1) 65,.gt 67 (.mv 3) 65,.gt 68 (.call 60 [66,67]) 65,.ex 69 (.pick 65 68 .n),.mv 70 69,.gt 71 (.ld true 14 1) 70,.gt 72 (.call 61 [71]) 70,.ex 73 (.pick 70 72 .n),.mv 2 73]) .ret))))))
theorem JZ:compF Tryz.prog [] 20=some (JY.ac,[(.t 2)],74):=by kernel_rfl
theorem jm (W0:World) (hM:HM W0) (w:Wld):Fn Tryz.prog W0 20 [eWld w] (.c (CB (tb (WG w)))) []:=by
 refine fnX (c:=JY) mixed JZ (by simp) rfl fun hg=>?_
 have hv:=zew W0 hM w.over
 have g0:=goodAgg (hg _ (by simp:eWld w∈_))
 have g1:w.floors.length≤9223372036854775807:=goodRow (g0 _ (by simp:eInts w.floors∈_))
 rw [tb_c zkL]
 cases h1:oOk w.over with
 | false =>
  rw [h1] at hv
  refine dEr ?_
  repeat (refine c0 hv rfl ?_; first | refine dEr ?_ | exact dz)
  exact pF fun h=>by rw [h.ov] at h1; cases h1
 | true =>
  obtain ⟨t',x,g⟩:=OG.of h1
  have ev:vwG w.over=x:=g.vwG
  rw [h1,if_pos rfl,g.vw] at hv
  refine dEr ?_
  repeat ((first | refine c0 hv rfl ?_ | refine c0 (jI W0 _ _ _) rfl ?_); first | refine dEr ?_ | exact dz)
  refine cP ?_ ?_<;>intro a1
  ·refine dr ?_
   exact pF fun h=>a1 h.ck
  refine dEr ?_
  repeat (refine c0 (jI W0 _ _ _) rfl ?_; first | refine dEr ?_ | exact dz)
  refine cP ?_ ?_<;>intro a2
  ·refine dr ?_
   exact pF fun h=>a2 h.ct
  refine dr ?_
  refine cP ?_ ?_<;>intro a3
  ·refine dr ?_
   exact pF fun h=>by have:=h.hl; omega
  refine dr ?_
  refine cP ?_ ?_<;>intro a4
  ·refine dr ?_
   exact pF fun h=>by have:=h.fl; omega
  have hl:w.holds.length=3:=by omega
  have hf:w.floors.length=3:=by omega
  refine dr ?_
  refine lp (σ:=Nat) (fun k=>[(1,.ptr 16 0),(3,.c (eEnts x)),(38,.c (eInts w.floors)),(39,I w.floors.length),(40,I k)]) (fun _=>[(16,wBx w)]) (fun k=>k≤w.floors.length∧∀ f∈w.floors.take k,0≤f∧f≤w.count) (fun k=>w.floors.length - k) 0 ⟨by omega,by simp⟩ ?_ ?_
  ·refine dr ?_
   trivial
  rintro k ⟨hk,hA⟩
  refine dr ?_
  refine cP ?_ ?_<;>intro b1
  ·have hk':k < w.floors.length:=by omega
   refine dEr ?_
   repeat (refine c0 (jI W0 _ _ _) rfl ?_; first | refine dEr ?_ | exact dz)
   refine cP ?_ ?_<;>intro b2
   ·refine dr ?_
    exact pF fun h=>b2 (h.fr _ (List.getElem_mem hk'))
   ·refine dr ?_
    refine ⟨k+1,⟨by omega,fun l hl=>?_⟩,by omega,?_⟩
    ·rw [List.take_succ_eq_append_getElem hk'] at hl
     rcases List.mem_append.1 hl with h' | h'
     ·exact hA l h'
     ·rw [List.mem_singleton.1 h']; exact b2
    refine dr ?_
    trivial
  have hkl:k=w.floors.length:=by omega
  rw [hkl,List.take_length] at hA
  refine dEr ?_
  repeat (refine c0 (zfV W0 hM w) rfl ?_; first | refine dEr ?_ | exact dz)
  refine cP ?_ ?_<;>intro c1
  rotate_left
  ·refine dr ?_
   exact pF fun h=>c1 ⟨h.nl,h.nt⟩
  refine dEr ?_
  repeat (refine c0 (zfP W0 hM w a1.2) rfl ?_; first | refine dEr ?_ | exact dz)
  refine cP ?_ ?_<;>intro c2
  rotate_left
  ·refine dr ?_
   exact pF fun h=>c2 h.ls
  refine dEr ?_
  repeat (refine c0 (zeo W0 hM w) rfl ?_; first | refine dEr ?_ | exact dz)
  refine cP ?_ ?_<;>intro c3
  rotate_left
  ·refine dr ?_
   exact pF fun h=>c3 h.hs
  refine dEr ?_
  repeat (refine c0 (zgo W0 hM w x) rfl ?_; first | refine dEr ?_ | exact dz)
  refine cP ?_ ?_<;>intro c4
  rotate_left
  ·refine dr ?_
   exact pF fun h=>c4 (by have:=h.wt; rwa [ev] at this)
  have hwm:∀ m∈w.net,isW m.who:=fun m hm=>(c1.2 m hm).who
  refine dEr ?_
  repeat (refine c0 (zek W0 hM w x g.gx hl hf hwm) rfl ?_; first | refine dEr ?_ | exact dz)
  refine cP ?_ ?_<;>intro c5
  rotate_left
  ·refine dr ?_
   exact pF fun h=>c5 (by have:=h.he; rwa [ev] at this)
  refine dEr ?_
  repeat (refine c0 (zeh W0 w hl hf hwm c3) rfl ?_; first | refine dEr ?_ | exact dz)
  exact congrArg CB (tb_c ⟨fun h=>⟨h1,a1,a2,hl,hf,hA,c1.1,c1.2,c2,c3,by rw [ev]; exact c4,by rw [ev]; exact c5,h⟩,fun h=>h.bk⟩)
def J0:XC:=(.s (.r [.ex 3 (.box 0),.ex 6 (.alloc [sE,(B false),sE]),.m1 7 .n,.m1 8 .n]) (.s (.s (.r [.l2 10 14 3,.c1 11 20 [10],.ex 12 (.un .not 11),.mv 13 12,.gf 14 (.mv 1) 13,.gf 15 (.call 40 [14]) 13,.gf 16 (.un .not 15) 13,.ex 17 (.pick 13 .y 16)]) (.cnd 17 (.s (.r [.ex 18 (.build [sE,(B false),sE] []),.s1 3 6 18,.m1 7 .n,.m1 8 .n]) .ret) .skip)) (.s (.r [.f1 19 6 3,.l1 20 1 19,.mv 21 1,.i1 22 1 20 21,.l1 23 1 22,.mv 24 2,.c1 25 41 [23,24],.mv 9 25]) (.s (.s (.d [.mv 26 9,.b1 27 .lss 26 (.i 0),.mv 28 27,.gf 29 (.fa 6 3) 28,.gf 30 (.ld false 1 29) 28,.gf 31 (.mv 1) 28,.gf 32 (.ia 1 30 31) 28,.gf 33 (.ld false 1 32) 28,.gf 34 (.mv 9) 28,.gf 35 (.ia 7 33 34) 28,.gf 36 (.fa 6 35) 28,.gf 37 (.ld false 1 36) 28,.gf 38 (.fa 3 3) 28,.gf 39 (.ld false 1 38) 28,.gf 40 (.bin .leq 37 39) 28,.ex 41 (.pick 28 .y 40)]) (.cnd 41 (.s (.r [.ex 42 (.build [sE,(B false),sE] []),.s1 3 6 42,.m1 7 .n,.m1 8 .n]) .ret) .skip)) (.s (.d [.f1 43 6 3,.exo [96] 44 (.ld false 1 43),.mv 45 1,.exo [96] 46 (.ia 1 44 45),.exo [96] 47 (.ld false 1 46),.mv 48 9,.exo [96] 49 (.ia 7 47 48),.f1 50 2 49,.exo [96] 51 (.ld true 3 50),.f1 52 6 3,.exo [96] 53 (.ld false 1 52),.mv 54 1,.exo [96] 55 (.ia 1 53 54),.exo [96] 56 (.ld false 1 55),.mv 57 9,.exo [96] 58 (.ia 7 56 57),.f1 59 1 58,.exo [96] 60 (.ld false 1 59),.nuo [96] (.st 3 6 51),.mv 7 60,.m1 8 .y]) .ret)))))
theorem J1:compF Tryz.prog [1000096] 12=some (J0.ac,[(.cell 6 true 3),(.t 7),(.t 8)],61):=by kernel_rfl
theorem zeA (W0:World) (hM:HM W0) (w:Wld) (who:Int) (p:Str):Fn Tryz.prog W0 12 [eWld w,CI who,CS p] (.c (eWR (wRead w who p))) []:=by
 refine fnX (c:=J0) mixed J1 (by simp) rfl fun hg=>?_
 refine dEr ?_
 repeat (refine c0 (jm W0 hM w) rfl ?_; first | refine dEr ?_ | exact dz)
 refine cP ?_ ?_<;>intro h1
 ·refine dr ?_
  rw [zn5 (fun hh=>h1 hh.1)]<;>rfl
 refine dEr ?_
 repeat (refine c0 (zeD W0 who) rfl ?_; first | refine dEr ?_ | exact dz)
 refine cP ?_ ?_<;>intro h2
 ·refine dr ?_
  rw [zn5 (fun hh=>h2 hh.2)]<;>rfl
 rw [zn7 h1 h2]
 have hl:=h1.pl.hl
 have hd:(hdW w who).Pairwise fun a b=>a.path≠b.path:=by
  obtain ⟨i,hi,e⟩:=qi h2
  rw [e]; exact (h1.hd i hi).d
 have hcs:=zhU (hdW w who) p
 have hon:=@zh3 (hdW w who) hd
 refine dEr ?_
 repeat ((first | refine aHd h2 hl ?_ | refine c0 (zel W0 _ _) rfl ?_); first | refine dEr ?_ | exact dz)
 rcases hcs with ⟨e1,e2⟩ | ⟨j,hj,e1,e2,e3⟩
 ·rw [e1]
  refine cP ?_ ?_<;>intro h3
  ·rw [zgB (fun x hx=>by have:=e2 x hx; simp [this])]
   refine dr ?_
   rfl
  ·omega
 rw [e1]
 refine cP ?_ ?_<;>intro h3
 ·omega
 refine dr ?_
 repeat (refine aHd h2 hl ?_; first | refine dr ?_ | exact dz)
 refine cP ?_ ?_<;>intro h4
 ·rw [zgB (fun x hx=>by
   obtain ⟨i,hi,rfl⟩:=List.mem_iff_getElem.1 hx
   by_cases hij:i=j
   ·subst hij; rw [decide_eq_false (by omega),Bool.and_false]
   ·have:=hon hj i hi hij
    rw [e2] at this
    simp [this])]
  refine dr ?_
  rfl
 ·rw [zgA hj (fun x hx=>by
   obtain ⟨i,hi,rfl⟩:=List.mem_iff_getElem.1 hx
   rw [List.length_take] at hi
   have:=e3 i (by omega) (by omega)
   rw [List.getElem_take]
   simp [this]) (by rw [e2,decide_eq_true h4]; simp)]
  refine dr ?_
  repeat (refine aHd h2 hl ?_; first | refine dr ?_ | exact dz)
  rfl
end Go.Proofs.YteheahbjaddooaaGreatDoor

namespace Go.Proofs.YteheahbjaddooaaGreatDoor
set_option linter.unusedSimpArgs false
set_option linter.unusedVariables false
open Go Go.RowKit
def Ja:XC:=(.s (.r [.m1 4 .n]) (.s (.s (.r [.mv 6 0,.n1 7 6,.mv 8 1,.n1 9 8,.b1 10 .neq 7 9]) (.cnd 10 (.s (.r [.m1 4 .n]) .ret) .skip)) (.s (.s (.r [.mv 11 0,.n1 12 11,.m1 13 (.i 0)]) (.blk 0 (.loop (.s (.r [.b1 14 .lss 13 12]) (.s (.cnd 14 .skip (.exit 0)) (.s (.blk 1 (.s (.r [.mv 15 13,.mv 5 15]) (.s (.d [.mv 16 0,.mv 17 5,.i1 18 1 16 17,.l1 19 1 18,.mv 20 1,.mv 21 5,.i1 22 1 20 21,.l1 23 1 22,.b1 24 .neq 19 23]) (.cnd 24 (.s (.r [.m1 4 .n]) .ret) .skip)))) (.r [.b1 25 .add 13 (.i 1),.mv 13 25]))))))) (.s (.r [.m1 4 .y]) .ret))))
theorem Jb:compF Tryz.prog [] 50=some (Ja.ac,[(.t 4)],26):=by kernel_rfl
theorem zd2 (W0:World) (a b:List Int):Fn Tryz.prog W0 50 [eInts a,eInts b] (.c (CB (decide (a=b)))) []:=by
 refine fnX (c:=Ja) mixed Jb (by simp) rfl fun hg=>?_
 have g1:=goodRow (hg _ (by simp:eInts a∈_))
 refine dr ?_
 refine cP ?_ ?_<;>intro h1
 ·conv=>whnf
  exact dF (yd (by omega))
 refine dr ?_
 refine lp (σ:=Nat) (fun k=>[(0,.c (eInts a)),(1,.c (eInts b)),(12,I a.length),(13,I k)]) (fun _=>[]) (fun k=>k≤a.length∧a.take k=b.take k) (fun k=>a.length - k) 0 ⟨by simp,by simp⟩ ?_ ?_
 ·refine dr ?_
  trivial
 rintro k ⟨hk,he⟩
 refine dr ?_
 refine cP ?_ ?_<;>intro h2
 ·refine dr ?_
  refine cP ?_ ?_<;>intro h3
  rotate_left
  ·refine dr ?_
   refine ⟨k+1,⟨by omega,y4 (by omega) (by omega) he h3⟩,by omega,?_⟩
   refine dr ?_
   trivial
  ·conv=>whnf
   exact dF (yc (k:=k) (by omega) (by omega) h3)
 ·refine dr ?_
  have:k=a.length:=by omega
  subst this
  exact dT (zX (by omega) he)
def Jq:XC:=(.s (.r [.m1 4 .n]) (.s (.r [.mv 5 0,.mv 6 1,.c1 7 47 [5,6],.mv 4 7]) .ret))
theorem Jr:compF Tryz.prog [] 46=some (Jq.ac,[(.t 4)],8):=by kernel_rfl
theorem zeg (W0:World) (a b:List Hold):Fn Tryz.prog W0 46 [eHolds a,eHolds b] (.c (CB (decide (a=b)))) []:=by
 refine fnX (c:=Jq) mixed Jr (by simp) rfl fun hg=>?_
 refine dr ?_
 repeat (refine c0 (zd1 W0 a b) rfl ?_; first | refine dr ?_ | exact dz)
def Z4:XC:=(.s (.r [.m1 6 .n]) (.s (.s (.r [.mv 10 0,.n1 11 10,.mv 12 1,.n1 13 12,.b1 14 .neq 11 13]) (.cnd 14 (.s (.r [.m1 6 .n]) .ret) .skip)) (.s (.s (.r [.mv 15 0,.n1 16 15,.m1 17 (.i 0)]) (.blk 0 (.loop (.s (.r [.b1 18 .lss 17 16]) (.s (.cnd 18 .skip (.exit 0)) (.s (.blk 1 (.s (.r [.mv 19 17,.i1 20 1 15 17,.l1 21 1 20,.mv 7 19,.a1 8 21 7 53]) (.s (.r [.mv 22 1,.mv 23 7,.i1 24 1 22 23,.l1 25 1 24,.a1 9 25 7 53]) (.s (.r [.mv 26 2,.mv 27 8,.mv 28 9,.ex 29 (.callv 26 [27,28]),.ex 30 (.un .not 29)]) (.cnd 30 (.s (.r [.m1 6 .n]) .ret) .skip))))) (.r [.b1 31 .add 17 (.i 1),.mv 17 31]))))))) (.s (.r [.m1 6 .y]) .ret))))
theorem Z5:compF Tryz.prog [] 49=some (Z4.ac,[(.t 6)],32):=by kernel_rfl
theorem zdZ (W0:World) (a b:List (List Hold)):Fn Tryz.prog W0 49 [eHoldss a,eHoldss b,.sc (.func (.func 46) #[] #[])] (.c (CB (decide (a=b)))) []:=by
 refine fnX (c:=Z4) mixed Z5 (by simp) rfl fun hg=>?_
 have g1:=goodRow (hg _ (by simp:eHoldss a∈_))
 refine dr ?_
 refine cP ?_ ?_<;>intro h1
 ·conv=>whnf
  exact dF (yd (by omega))
 refine dr ?_
 refine lp (σ:=Nat) (fun k=>[(0,.c (eHoldss a)),(1,.c (eHoldss b)),(2,.c (.sc (.func (.func 46) #[] #[]))),(15,.c (eHoldss a)),(16,I a.length),(17,I k)]) (fun _=>[]) (fun k=>k≤a.length∧a.take k=b.take k) (fun k=>a.length - k) 0 ⟨by simp,by simp⟩ ?_ ?_
 ·refine dr ?_
  trivial
 rintro k ⟨hk,he⟩
 refine dr ?_
 refine cP ?_ ?_<;>intro h2
 ·refine dr ?_
  repeat ((first | refine oB ⟨by kernel_rfl,by simp⟩ ?_ | refine c0 (zeg W0 _ _) rfl ?_); first | refine dr ?_ | exact dz)
  refine cP ?_ ?_<;>intro h3
  rotate_left
  ·refine dr ?_
   refine ⟨k+1,⟨by omega,y4 (by omega) (by omega) he (by simpa using h3)⟩,by omega,?_⟩
   refine dr ?_
   trivial
  ·conv=>whnf
   exact dF (yc (k:=k) (by omega) (by omega) (by simpa using h3))
 ·refine dr ?_
  have:k=a.length:=by omega
  subst this
  exact dT (zX (by omega) he)
def zb2:XC:=(.s (.r [.ex 2 (.box 0),.ex 3 (.box 1),.m1 4 .n]) (.s (.s (.r [.f1 8 5 2,.l1 9 1 8,.n1 10 9,.f1 11 5 3,.l1 12 1 11,.n1 13 12,.b1 14 .neq 10 13,.mv 15 14,.gf 16 (.fa 8 2) 15,.gf 17 (.ld false 1 16) 15,.gf 18 (.len false 17) 15,.gf 19 (.fa 8 3) 15,.gf 20 (.ld false 1 19) 15,.gf 21 (.len false 20) 15,.gf 22 (.bin .neq 18 21) 15,.ex 23 (.pick 15 .y 22),.mv 24 23,.gf 25 (.fa 7 2) 24,.gf 26 (.ld false 1 25) 24,.gf 27 (.len false 26) 24,.gf 28 (.fa 7 3) 24,.gf 29 (.ld false 1 28) 24,.gf 30 (.len false 29) 24,.gf 31 (.bin .neq 27 30) 24,.ex 32 (.pick 24 .y 31),.mv 33 32,.gf 34 (.fa 6 2) 33,.gf 35 (.ld false 1 34) 33,.gf 36 (.len false 35) 33,.gf 37 (.fa 6 3) 33,.gf 38 (.ld false 1 37) 33,.gf 39 (.len false 38) 33,.gf 40 (.bin .neq 36 39) 33,.ex 41 (.pick 33 .y 40)]) (.cnd 41 (.s (.r [.m1 4 .n]) .ret) .skip)) (.s (.s (.r [.m1 5 (.i 0)]) (.blk 0 (.loop (.s (.s (.r [.mv 42 5,.f1 43 5 2,.l1 44 1 43,.n1 45 44,.b1 46 .lss 42 45]) (.cnd 46 .skip (.exit 0))) (.s (.blk 1 (.s (.d [.f1 49 5 2,.l1 50 1 49,.mv 51 5,.i1 52 4 50 51,.l2 53 4 52,.f1 54 5 3,.l1 55 1 54,.mv 56 5,.i1 57 4 55 56,.l2 58 4 57,.ex 59 (.beq true [(.i .i64),.s,(.i .i64),(.i .i64)] 53 58)]) (.cnd 59 (.s (.r [.m1 4 .n]) .ret) .skip))) (.r [.mv 47 5,.b1 48 .add 47 (.i 1),.mv 5 48])))))) (.s (.s (.r [.m1 6 (.i 0)]) (.blk 2 (.loop (.s (.s (.r [.mv 60 6,.f1 61 8 2,.l1 62 1 61,.n1 63 62,.b1 64 .lss 60 63]) (.cnd 64 .skip (.exit 2))) (.s (.blk 3 (.s (.d [.f1 67 8 2,.l1 68 1 67,.mv 69 6,.i1 70 9 68 69,.l2 71 9 70,.f1 72 8 3,.l1 73 1 72,.mv 74 6,.i1 75 9 73 74,.l2 76 9 75,.ex 77 (.beq true [(.i .i64),(.i .i64),.s,.b,.s,.b,.s,(.i .i64),(.i .i64)] 71 76)]) (.cnd 77 (.s (.r [.m1 4 .n]) .ret) .skip))) (.r [.mv 65 6,.b1 66 .add 65 (.i 1),.mv 6 66])))))) (.s (.s (.r [.m1 7 (.i 0)]) (.blk 4 (.loop (.s (.s (.r [.mv 78 7,.f1 79 7 2,.l1 80 1 79,.n1 81 80,.b1 82 .lss 78 81]) (.cnd 82 .skip (.exit 4))) (.s (.blk 5 (.s (.d [.f1 85 7 2,.l1 86 1 85,.mv 87 7,.i1 88 1 86 87,.l1 89 1 88,.f1 90 7 3,.l1 91 1 90,.mv 92 7,.i1 93 1 91 92,.l1 94 1 93,.b1 95 .neq 89 94]) (.cnd 95 (.s (.r [.m1 4 .n]) .ret) .skip))) (.r [.mv 83 7,.b1 84 .add 83 (.i 1),.mv 7 84])))))) (.s (.r [.m1 4 .y]) .ret))))))
theorem zb3:compF Tryz.prog [] 53=some (zb2.ac,[(.t 4)],96):=by kernel_rfl
theorem zfx (W0:World) (a b:Wld):Fn Tryz.prog W0 53 [eWld a,eWld b] (.c (CB (decide (a.leases=b.leases∧a.net=b.net∧a.floors=b.floors∧a.holds.length=b.holds.length)))) []:=by
 refine fnX (c:=zb2) mixed zb3 (by simp) rfl fun hg=>?_
 have g0:=goodAgg (hg _ (by simp:eWld a∈_))
 have g1:a.leases.length≤9223372036854775807:=goodRow (g0 _ (by simp:eLeases a.leases∈_))
 have g2:a.net.length≤9223372036854775807:=goodRow (g0 _ (by simp:eMsgs a.net∈_))
 have g3:a.floors.length≤9223372036854775807:=goodRow (g0 _ (by simp:eInts a.floors∈_))
 refine dr ?_
 refine cP ?_ ?_<;>intro h1
 ·refine dr ?_
  exact dF fun e=>by simp [e] at h1
 refine dr ?_
 refine cP ?_ ?_<;>intro h2
 ·refine dr ?_
  exact dF fun e=>by simp [e] at h2
 refine dr ?_
 refine cP ?_ ?_<;>intro h3
 ·refine dr ?_
  exact dF fun e=>by simp [e] at h3
 refine dr ?_
 refine cP ?_ ?_<;>intro h4
 ·refine dr ?_
  exact dF fun e=>by simp [e] at h4
 refine dr ?_
 refine lp (σ:=Nat) (fun k=>[(2,.ptr 32 0),(3,.ptr 48 0),(5,I k)]) (fun _=>[(32,.box [.c (eEnts a.over.base),.c (eMarkss a.over.layers),.c (eMarks a.over.upper),I a.clock,I a.count,.c (eLeases a.leases),.c (eHoldss a.holds),.c (eInts a.floors),.c (eMsgs a.net),B a.waits,I a.op.kind,.c (CS a.op.path),.c (CS a.op.dest),.c (CS a.op.data)]),(48,.box [.c (eEnts b.over.base),.c (eMarkss b.over.layers),.c (eMarks b.over.upper),I b.clock,I b.count,.c (eLeases b.leases),.c (eHoldss b.holds),.c (eInts b.floors),.c (eMsgs b.net),B b.waits,I b.op.kind,.c (CS b.op.path),.c (CS b.op.dest),.c (CS b.op.data)])]) (fun k=>k≤a.leases.length∧a.leases.take k=b.leases.take k) (fun k=>a.leases.length - k) 0 ⟨by simp,by simp⟩ ?_ ?_
 ·refine dr ?_
  trivial
 rintro k ⟨hk,he⟩
 refine dr ?_
 refine cP ?_ ?_<;>intro h5
 ·refine dr ?_
  rw [bqLease]
  refine cP ?_ ?_<;>intro h6
  ·refine dr ?_
   have:=yc (a:=a.leases) (b:=b.leases) (k:=k) (by omega) (by omega) h6
   exact dF fun e=>this e.1
  ·refine dr ?_
   refine ⟨k+1,⟨by omega,y4 (by omega) (by omega) he h6⟩,by omega,?_⟩
   refine dr ?_
   trivial
 have el:a.leases=b.leases:=zX (by omega) (by rw [show a.leases.length=k by omega]; exact he)
 clear he hk
 refine dr ?_
 refine lp (σ:=Nat) (fun k=>[(2,.ptr 32 0),(3,.ptr 48 0),(6,I k)]) (fun _=>[(32,.box [.c (eEnts a.over.base),.c (eMarkss a.over.layers),.c (eMarks a.over.upper),I a.clock,I a.count,.c (eLeases a.leases),.c (eHoldss a.holds),.c (eInts a.floors),.c (eMsgs a.net),B a.waits,I a.op.kind,.c (CS a.op.path),.c (CS a.op.dest),.c (CS a.op.data)]),(48,.box [.c (eEnts b.over.base),.c (eMarkss b.over.layers),.c (eMarks b.over.upper),I b.clock,I b.count,.c (eLeases b.leases),.c (eHoldss b.holds),.c (eInts b.floors),.c (eMsgs b.net),B b.waits,I b.op.kind,.c (CS b.op.path),.c (CS b.op.dest),.c (CS b.op.data)])]) (fun k=>k≤a.net.length∧a.net.take k=b.net.take k) (fun k=>a.net.length - k) 0 ⟨by simp,by simp⟩ ?_ ?_
 ·refine dr ?_
  trivial
 rintro k ⟨hk,he⟩
 refine dr ?_
 refine cP ?_ ?_<;>intro h6
 ·refine dr ?_
  rw [bqMsg]
  refine cP ?_ ?_<;>intro h7
  ·refine dr ?_
   have:=yc (a:=a.net) (b:=b.net) (k:=k) (by omega) (by omega) h7
   exact dF fun e=>this e.2.1
  ·refine dr ?_
   refine ⟨k+1,⟨by omega,y4 (by omega) (by omega) he h7⟩,by omega,?_⟩
   refine dr ?_
   trivial
 have en:a.net=b.net:=zX (by omega) (by rw [show a.net.length=k by omega]; exact he)
 clear he hk
 refine dr ?_
 refine lp (σ:=Nat) (fun k=>[(2,.ptr 32 0),(3,.ptr 48 0),(7,I k)]) (fun _=>[(32,.box [.c (eEnts a.over.base),.c (eMarkss a.over.layers),.c (eMarks a.over.upper),I a.clock,I a.count,.c (eLeases a.leases),.c (eHoldss a.holds),.c (eInts a.floors),.c (eMsgs a.net),B a.waits,I a.op.kind,.c (CS a.op.path),.c (CS a.op.dest),.c (CS a.op.data)]),(48,.box [.c (eEnts b.over.base),.c (eMarkss b.over.layers),.c (eMarks b.over.upper),I b.clock,I b.count,.c (eLeases b.leases),.c (eHoldss b.holds),.c (eInts b.floors),.c (eMsgs b.net),B b.waits,I b.op.kind,.c (CS b.op.path),.c (CS b.op.dest),.c (CS b.op.data)])]) (fun k=>k≤a.floors.length∧a.floors.take k=b.floors.take k) (fun k=>a.floors.length - k) 0 ⟨by simp,by simp⟩ ?_ ?_
 ·refine dr ?_
  trivial
 rintro k ⟨hk,he⟩
 refine dr ?_
 refine cP ?_ ?_<;>intro h7
 ·refine dr ?_
  refine cP ?_ ?_<;>intro h8
  ·refine dr ?_
   have:=yc (a:=a.floors) (b:=b.floors) (k:=k) (by omega) (by omega) h8
   exact dF fun e=>this e.2.2.1
  ·refine dr ?_
   refine ⟨k+1,⟨by omega,y4 (by omega) (by omega) he h8⟩,by omega,?_⟩
   refine dr ?_
   trivial
 have ef:a.floors=b.floors:=zX (by omega) (by rw [show a.floors.length=k by omega]; exact he)
 refine dr ?_
 exact dT ⟨el,en,ef,by omega⟩
def Y6:XC:=(.s (.r [.ex 2 (.box 0),.ex 3 (.box 1),.m1 4 .n]) (.s (.s (.r [.f1 6 0 2,.l2 7 3 6,.f1 8 0 3,.l2 9 3 8,.c1 10 52 [7,9],.ex 11 (.un .not 10),.mv 12 11,.gf 13 (.fa 3 2) 12,.gf 14 (.ld false 1 13) 12,.gf 15 (.fa 3 3) 12,.gf 16 (.ld false 1 15) 12,.gf 17 (.bin .neq 14 16) 12,.ex 18 (.pick 12 .y 17),.mv 19 18,.gf 20 (.fa 4 2) 19,.gf 21 (.ld false 1 20) 19,.gf 22 (.fa 4 3) 19,.gf 23 (.ld false 1 22) 19,.gf 24 (.bin .neq 21 23) 19,.ex 25 (.pick 19 .y 24),.mv 26 25,.gf 27 (.fa 9 2) 26,.gf 28 (.ld false 1 27) 26,.gf 29 (.fa 9 3) 26,.gf 30 (.ld false 1 29) 26,.gf 31 (.bb true 28 30) 26,.ex 32 (.pick 26 .y 31),.mv 33 32,.gf 34 (.fa 10 2) 33,.gf 35 (.ld true 4 34) 33,.gf 36 (.fa 10 3) 33,.gf 37 (.ld true 4 36) 33,.gf 38 (.beq true [(.i .i64),.s,.s,.s] 35 37) 33,.ex 39 (.pick 33 .y 38),.mv 40 39,.gf 41 (.ld true 14 2) 40,.gf 42 (.ld true 14 3) 40,.gf 43 (.call 53 [41,42]) 40,.gf 44 (.un .not 43) 40,.ex 45 (.pick 40 .y 44)]) (.cnd 45 (.s (.r [.m1 4 .n]) .ret) .skip)) (.s (.s (.r [.m1 5 (.i 0)]) (.blk 0 (.loop (.s (.s (.r [.mv 46 5,.f1 47 6 2,.l1 48 1 47,.n1 49 48,.b1 50 .lss 46 49]) (.cnd 50 .skip (.exit 0))) (.s (.blk 1 (.s (.d [.f1 53 6 2,.l1 54 1 53,.mv 55 5,.i1 56 1 54 55,.l1 57 1 56,.f1 58 6 3,.l1 59 1 58,.mv 60 5,.i1 61 1 59 60,.l1 62 1 61,.c1 63 54 [57,62],.ex 64 (.un .not 63)]) (.cnd 64 (.s (.r [.m1 4 .n]) .ret) .skip))) (.r [.mv 51 5,.b1 52 .add 51 (.i 1),.mv 5 52])))))) (.s (.r [.m1 4 .y]) .ret))))
theorem Y7:compF Tryz.prog [] 19=some (Y6.ac,[(.t 4)],65):=by kernel_rfl
theorem zgm (W0:World) (a b:Wld):Fn Tryz.prog W0 19 [eWld a,eWld b] (.c (CB (decide (a=b)))) []:=by
 refine fnX (c:=Y6) mixed Y7 (by simp) rfl fun hg=>?_
 have g0:=goodAgg (hg _ (by simp:eWld a∈_))
 have g1:a.holds.length≤9223372036854775807:=goodRow (g0 _ (by simp:eHoldss a.holds∈_))
 refine dr ?_
 repeat (refine c0 (zgc W0 a.over b.over) rfl ?_; first | refine dr ?_ | exact dz)
 refine cP ?_ ?_<;>intro h1
 ·refine dr ?_
  exact dF fun e=>by simp [e] at h1
 refine dr ?_
 refine cP ?_ ?_<;>intro h2
 ·refine dr ?_
  exact dF fun e=>by simp [e] at h2
 refine dr ?_
 refine cP ?_ ?_<;>intro h3
 ·refine dr ?_
  exact dF fun e=>by simp [e] at h3
 refine dr ?_
 refine cP ?_ ?_<;>intro h4
 ·refine dr ?_
  exact dF fun e=>by simp [e] at h4
 refine dr ?_
 rw [bqOp]
 refine cP ?_ ?_<;>intro h5
 ·refine dr ?_
  exact dF fun e=>by simp [e] at h5
 refine dr ?_
 repeat (refine c0 (zfx W0 a b) rfl ?_; first | refine dr ?_ | exact dz)
 refine cP ?_ ?_<;>intro h6
 ·refine dr ?_
  exact dF fun e=>by simp [e] at h6
 refine dr ?_
 refine lp (σ:=Nat) (fun k=>[(2,.ptr 32 0),(3,.ptr 48 0),(5,I k)]) (fun _=>[(32,.box [.c (eEnts a.over.base),.c (eMarkss a.over.layers),.c (eMarks a.over.upper),I a.clock,I a.count,.c (eLeases a.leases),.c (eHoldss a.holds),.c (eInts a.floors),.c (eMsgs a.net),B a.waits,I a.op.kind,.c (CS a.op.path),.c (CS a.op.dest),.c (CS a.op.data)]),(48,.box [.c (eEnts b.over.base),.c (eMarkss b.over.layers),.c (eMarks b.over.upper),I b.clock,I b.count,.c (eLeases b.leases),.c (eHoldss b.holds),.c (eInts b.floors),.c (eMsgs b.net),B b.waits,I b.op.kind,.c (CS b.op.path),.c (CS b.op.dest),.c (CS b.op.data)])]) (fun k=>k≤a.holds.length∧a.holds.take k=b.holds.take k) (fun k=>a.holds.length - k) 0 ⟨by simp,by simp⟩ ?_ ?_
 ·refine dr ?_
  trivial
 rintro k ⟨hk,he⟩
 refine dr ?_
 refine cP ?_ ?_<;>intro h7
 ·refine dr ?_
  repeat (refine c0 (zgn W0 _ _) rfl ?_; first | refine dr ?_ | exact dz)
  refine cP ?_ ?_<;>intro h8
  ·refine dr ?_
   have:=yc (a:=a.holds) (b:=b.holds) (k:=k) (by omega) (by omega) h8
   exact dF fun e=>this (by rw [e])
  ·refine dr ?_
   refine ⟨k+1,⟨by omega,y4 (by omega) (by omega) he h8⟩,by omega,?_⟩
   refine dr ?_
   trivial
 have eh:a.holds=b.holds:=zX (by omega) (by rw [show a.holds.length=k by omega]; exact he)
 refine dr ?_
 exact dT (by cases a; cases b; simp_all)
def J2:XC:=(.s (.r [.ex 2 (.box 0),.ex 3 (.box 1),.m1 4 .n]) (.s (.r [.ex 5 (.mv (.k (.c (.sc (.func (.func 46) #[] #[])))))]) (.s (.r [.f1 6 0 2,.l2 7 3 6,.f1 8 0 3,.l2 9 3 8,.c1 10 30 [7,9],.mv 11 10,.gt 12 (.fa 3 2) 11,.gt 13 (.ld false 1 12) 11,.gt 14 (.fa 3 3) 11,.gt 15 (.ld false 1 14) 11,.gt 16 (.bin .eql 13 15) 11,.ex 17 (.pick 11 16 .n),.mv 18 17,.gt 19 (.fa 4 2) 18,.gt 20 (.ld false 1 19) 18,.gt 21 (.fa 4 3) 18,.gt 22 (.ld false 1 21) 18,.gt 23 (.bin .eql 20 22) 18,.ex 24 (.pick 18 23 .n),.mv 25 24,.gt 26 (.fa 5 2) 25,.gt 27 (.ld false 1 26) 25,.gt 28 (.fa 5 3) 25,.gt 29 (.ld false 1 28) 25,.gt 30 (.call 48 [27,29]) 25,.ex 31 (.pick 25 30 .n),.mv 32 31,.gt 33 (.fa 6 2) 32,.gt 34 (.ld false 1 33) 32,.gt 35 (.fa 6 3) 32,.gt 36 (.ld false 1 35) 32,.gt 37 (.mv 5) 32,.gt 38 (.call 49 [34,36,37]) 32,.ex 39 (.pick 32 38 .n),.mv 40 39,.gt 41 (.fa 7 2) 40,.gt 42 (.ld false 1 41) 40,.gt 43 (.fa 7 3) 40,.gt 44 (.ld false 1 43) 40,.gt 45 (.call 50 [42,44]) 40,.ex 46 (.pick 40 45 .n),.mv 47 46,.gt 48 (.fa 8 2) 47,.gt 49 (.ld false 1 48) 47,.gt 50 (.fa 8 3) 47,.gt 51 (.ld false 1 50) 47,.gt 52 (.call 51 [49,51]) 47,.ex 53 (.pick 47 52 .n),.mv 54 53,.gt 55 (.fa 9 2) 54,.gt 56 (.ld false 1 55) 54,.gt 57 (.fa 9 3) 54,.gt 58 (.ld false 1 57) 54,.gt 59 (.bb false 56 58) 54,.ex 60 (.pick 54 59 .n),.mv 61 60,.gt 62 (.fa 10 2) 61,.gt 63 (.ld true 4 62) 61,.gt 64 (.fa 10 3) 61,.gt 65 (.ld true 4 64) 61,.gt 66 (.beq false [(.i .i64),.s,.s,.s] 63 65) 61,.ex 67 (.pick 61 66 .n),.mv 4 67]) .ret)))
theorem J3:compF Tryz.prog [] 18=some (J2.ac,[(.t 4)],68):=by kernel_rfl
theorem jo (W0:World) (a b:Wld):Fn Tryz.prog W0 18 [eWld a,eWld b] (.c (CB (decide (a=b)))) []:=by
 refine fnX (c:=J2) mixed J3 (by simp) rfl fun hg=>?_
 refine dr ?_
 repeat (refine c0 (zev W0 a.over b.over) rfl ?_; first | refine dr ?_ | exact dz)
 refine cP ?_ ?_<;>intro h1
 rotate_left
 ·refine dr ?_
  exact dF fun e=>by simp [e] at h1
 refine dr ?_
 refine cP ?_ ?_<;>intro h2
 rotate_left
 ·refine dr ?_
  exact dF fun e=>by simp [e] at h2
 refine dr ?_
 refine cP ?_ ?_<;>intro h3
 rotate_left
 ·refine dr ?_
  exact dF fun e=>by simp [e] at h3
 refine dr ?_
 repeat (refine c0 (zd3 W0 a.leases b.leases) rfl ?_; first | refine dr ?_ | exact dz)
 refine cP ?_ ?_<;>intro h4
 rotate_left
 ·refine dr ?_
  exact dF fun e=>by simp [e] at h4
 refine dr ?_
 repeat (refine c0 (zdZ W0 a.holds b.holds) rfl ?_; first | refine dr ?_ | exact dz)
 refine cP ?_ ?_<;>intro h5
 rotate_left
 ·refine dr ?_
  exact dF fun e=>by simp [e] at h5
 refine dr ?_
 repeat (refine c0 (zd2 W0 a.floors b.floors) rfl ?_; first | refine dr ?_ | exact dz)
 refine cP ?_ ?_<;>intro h6
 rotate_left
 ·refine dr ?_
  exact dF fun e=>by simp [e] at h6
 refine dr ?_
 repeat (refine c0 (zd5 W0 a.net b.net) rfl ?_; first | refine dr ?_ | exact dz)
 refine cP ?_ ?_<;>intro h7
 rotate_left
 ·refine dr ?_
  exact dF fun e=>by simp [e] at h7
 refine dr ?_
 refine cP ?_ ?_<;>intro h8
 rotate_left
 ·refine dr ?_
  exact dF fun e=>by simp [e] at h8
 refine dr ?_
 rw [bqOp]
 exact congrArg CB (by cases a; cases b; simp_all)
end Go.Proofs.YteheahbjaddooaaGreatDoor

namespace Go.Proofs.YteheahbjaddooaaGreatDoor
set_option linter.unusedSimpArgs false
set_option linter.unusedVariables false
open Go Go.RowKit Go.WideShapes Go.ChangeShapes Go.ChangeAt
abbrev RC (W:World) (y:CV) (v:Value):Prop:=RepC W (fun _=>False) y v∧v.oneCell'=true
def Opn {H:Type} (enc:TypeId × Value→H) (P:Program) (W:World) (t:TypeId) {α:Type} (f:α→CV):Prop :=
 ∀ (base:Nat) (sp:Nat→Bool) (held:Bool) (fuel:Nat) (cs:List Value) (x:DataW H × List MemPlace),DataW.trod enc P W base sp held fuel t cs=some x→∃ a:α,All2 (RC W) (f a).cells cs
section
variable {H:Type} {enc:TypeId × Value→H} {P:Program} {W:World}
theorem zkz {t:TypeId} (ht:P.underlying t=some (.int .u8)):Opn enc P W t (fun b:UInt8=>CU b.toNat):=by
 intro base sp held fuel cs x h
 obtain ⟨n,rfl,_,hw⟩:=DataW.trod_int ht h
 have hw':0≤n∧n≤255:=by simpa [Lit.wf,IntKind.min,IntKind.max,IntKind.signed,IntKind.bits] using hw
 have e:((UInt8.ofNat n.toNat).toNat:Int)=n:=by simp; omega
 refine ⟨UInt8.ofNat n.toNat,⟨?_,rfl⟩,trivial⟩
 show RepC W _ (CU (UInt8.ofNat n.toNat).toNat) _
 rw [e]
 exact .sc (by simpa [wfv,IntKind.min,IntKind.max,IntKind.signed,IntKind.bits] using hw')
theorem Zk {a:Addr} (h:a.spot=none) (n:Nat):a.add n=⟨a.block,a.off+n,none⟩:=by
 unfold Addr.add
 split
 ·rename_i hn; subst hn; cases a; simp at h; subst h; rfl
 ·rfl
theorem Zm {α:Type} {R:CV→Value→Prop} {f:α→CV} {sz:Nat} {g:Nat→List Value}:∀ {L:List α} {k:Nat},(∀ i (h:i < L.length),All2 R (f L[i]).cells (g (k+i))) →
  All2 R ((L.map f).flatMap CV.cells) ((List.range' k L.length).flatMap g)
 | [],k,_=>trivial
 | a::L,k,h=>by
  simp only [List.map_cons,List.flatMap_cons,List.length_cons,List.range'_succ]
  refine All2.append (h 0 (by simp)) (Zm (sz:=sz) (k:=k+1) fun i hi=>?_)
  have:=h (i+1) (by simp; omega)
  rw [show k+1+i=k+(i+1) by omega]
  simpa using this
theorem ziW {α:Type} {q:Nat→α→Prop}:∀ {n:Nat},(∀ i,i < n→∃ a,q i a)→∃ L:List α,L.length=n∧∀ i (h:i < L.length),q i L[i]
 | 0,_=>⟨[],rfl,fun i h=>by simp at h⟩
 | n+1,h=>by
  obtain ⟨L,hl,hq⟩:=ziW (n:=n) fun i hi=>h i (by omega)
  obtain ⟨a,ha⟩:=h n (by omega)
  refine ⟨L++[a],by simp [hl],fun i hi=>?_⟩
  by_cases hin:i < L.length
  ·rw [List.getElem_append_left hin]; exact hq i hin
  ·have:i=L.length:=by simp at hi; omega
   subst this
   simp only [List.getElem_concat_length]
   rw [hl]; exact ha
theorem zky {t e:TypeId} {α:Type} {f:α→CV} (sz:Nat) (ht:P.underlying t=some (.slice e)) (hc:P.cellsOf e=sz) (h0:0 < sz) (hf:∀ a,(f a).cells.length=sz) (he:Opn enc P W e f):Opn enc P W t (fun l:List α => .row (l.map f)):=by
 intro base sp held fuel cs x h
 rcases DataW.trod_slice ht h with ⟨rfl,_⟩ | ⟨a,len,cap,elems,rest,n,_,rfl,_,_,hle,hcap,helen,hel,_⟩
 ·exact ⟨[],⟨.nil (Nat.zero_le _),rfl⟩,trivial⟩
 ·rw [hc] at hel
  have key:∀ i,i < len→∃ (y:α),∃ cs',cs'.length=sz∧(∀ j,j < sz→W.cell? ((a.add (i * sz)).add j)=cs'[j]?)∧All2 (RC W) (f y).cells cs':=by
   intro i hi
   have h1:=hel i hi
   have h2:∃ z,elems[i]? = some z:=⟨elems[i]'(by omega),by simp [helen,hi]⟩
   obtain ⟨z,h2⟩:=h2
   rw [h2] at h1
   obtain ⟨cs',h3,h4⟩:=Option.bind_eq_some_iff.1 h1
   obtain ⟨y,hy⟩:=he _ _ _ _ _ _ h4
   obtain ⟨_,h5,h6⟩:=World.cells?_some h3
   exact ⟨y,cs',h5,h6,hy⟩
  obtain ⟨L,hl,hL⟩:=ziW key
  refine ⟨L,⟨?_,rfl⟩,trivial⟩
  by_cases hne:L=[]
  ·subst hne
   simp only [List.length_nil] at hl
   subst hl
   exact .nil hcap
  ·have hpos:0 < L.length:=List.length_pos_iff.2 hne
   have hsp:a.spot=none:=by
    obtain ⟨cs',h5,h6,_⟩:=hL 0 hpos
    have:=h6 0 h0
    simp only [Nat.zero_mul] at this
    have e0:(a.add 0).add 0=a:=by simp [Addr.add]
    rw [e0] at this
    have h7:∃ u,cs'[0]? = some u:=⟨cs'[0]'(by omega),by simp [h5,h0]⟩
    obtain ⟨u,h7⟩:=h7
    rw [h7] at this
    unfold World.cell? at this
    split at this
    ·split at this
     ·cases this
     ·rename_i hh; simpa using hh
    ·cases this
   let g:Nat→List Value:=fun i=>(List.range sz).map fun j=>(W.cell? ⟨a.block,a.off+(i * sz+j),none⟩).getD undef
   have hg:∀ i (h:i < L.length),All2 (RC W) (f L[i]).cells (g i)∧∀ j,j < sz→W.cell? ⟨a.block,a.off+(i * sz+j),none⟩=(g i)[j]? := by
    intro i hi
    obtain ⟨cs',h5,h6,h7⟩:=hL i hi
    have e:g i=cs':=by
     apply List.ext_getElem?
     intro j
     by_cases hj:j < sz
     ·have:=h6 j hj
      rw [Zk hsp,Zk rfl] at this
      simp only [g,List.getElem?_map,List.getElem?_range hj,Option.map_some]
      rw [show a.off+(i * sz+j)=a.off+i * sz+j by omega,this]
      have:cs'[j]? = some (cs'[j]'(by omega)):=by simp [h5,hj]
      rw [this]; rfl
     ·rw [List.getElem?_eq_none (by simp [g]; omega),List.getElem?_eq_none (by omega)]
    rw [e]
    refine ⟨h7,fun j hj=>?_⟩
    have:=h6 j hj
    rw [Zk hsp,Zk rfl] at this
    rw [← this,show a.off+i * sz+j=a.off+(i * sz+j) by omega]
   have hall:=Zm (R:=RC W) (f:=f) (sz:=sz) (g:=g) (L:=L) (k:=0) fun i hi=>by simpa using (hg i hi).1
   have hlen:(L.map f).length=len:=by simpa using hl
   have hcell:∀ (m:Nat),m≤L.length→∀ j v,((List.range' 0 m).flatMap g)[j]? = some v→W.cell? ⟨a.block,a.off+j,none⟩=some v:=by
    intro m
    induction m with
    | zero=>intro _ j v hv; simp at hv
    | succ m ih =>
     intro hm j v hv
     rw [List.range'_concat,List.flatMap_append] at hv
     have hln:∀ m,((List.range' 0 m).flatMap g).length=m * sz:=by
      intro m
      induction m with
      | zero=>simp
      | succ m ih=>rw [List.range'_concat,List.flatMap_append,List.length_append,ih]; simp [g,Nat.add_mul]
     by_cases hj:j < m * sz
     ·rw [List.getElem?_append_left (by rw [hln]; exact hj)] at hv
      exact ih (by omega) j v hv
     ·rw [List.getElem?_append_right (by rw [hln]; omega),hln] at hv
      simp only [Nat.zero_add,Nat.one_mul,List.flatMap_cons,List.flatMap_nil,List.append_nil] at hv
      have hj2:j - m * sz < sz:=by
       rcases Nat.lt_or_ge (j - m * sz) sz with h' | h'
       ·exact h'
       ·rw [List.getElem?_eq_none (by simp [g]; omega)] at hv; cases hv
      have:=(hg m (by omega)).2 _ hj2
      rw [hv,show m * sz+(j - m * sz)=j by omega] at this
      exact this
   obtain ⟨ab,ao,asp⟩:=a
   simp only at hsp
   subst hsp
   rw [← hlen]
   refine .row (sz:=sz) (vs:=(List.range' 0 L.length).flatMap g) (by simpa using hne) h0 (by rw [hlen]; exact hle) hcap (fun h=>h) ?_ hall.length ?_ ?_ fun j v hv=>?_
   ·intro y hy
    obtain ⟨b,_,rfl⟩:=List.mem_map.1 hy
    exact hf b
   ·intro i y v hy hv
    obtain ⟨u,hu,hr⟩:=hall.get i y hy
    rw [hv] at hu; cases hu; exact hr.1
   ·intro v hv
    obtain ⟨i,hi⟩:=List.mem_iff_getElem?.1 hv
    have hlt:i < ((L.map f).flatMap CV.cells).length:=by
     rw [hall.length]; exact (List.getElem?_eq_some_iff.1 hi).1
    obtain ⟨u,hu,hr⟩:=hall.get i _ (List.getElem?_eq_getElem hlt)
    rw [hi] at hu; cases hu; exact hr.2
   ·exact hcell L.length (Nat.le_refl _) j v hv
theorem zkr {y:CV} (hy:∀ cs,y ≠ .agg cs) {vs:List Value} (h:All2 (RC W) y.cells vs):∃ v,vs=[v]∧RC W y v:=by
 have e:y.cells=[y]:=by cases y<;>first | rfl | exact absurd rfl (hy _)
 rw [e] at h
 match vs,h with
 | [v],h=>exact ⟨v,rfl,h.1⟩
theorem ZA {t:TypeId} {α:Type} {f:α→CV} (h:Opn enc P W t f) (hf:∀ a cs,f a ≠ .agg cs) {base:Nat} {v:Value} (h1:∀ cs,v ≠ .agg cs)
  {sp:Nat→Bool} {held:Bool} {d:DataW H} {ps:List MemPlace} (hd:DataW.Trod enc P W base sp held t v d ps):∃ a,RepC W (fun _=>False) (f a) v:=by
 obtain ⟨fuel,hx⟩:=hd
 obtain ⟨a,ha⟩:=h _ _ _ _ _ _ hx
 obtain ⟨u,hu,hr⟩:=zkr (hf a) ha
 refine ⟨a,?_⟩
 have:v.cells.toList=[v]:=by cases v<;>first | rfl | exact absurd rfl (h1 _)
 rw [this] at hu; cases hu
 exact hr.1
theorem zgS {f:FuncId} {args:List CV} {vs:Array Value} (h:Fn P W f args (.c (CB true)) []) (ha:All2 (RepC W fun _=>False) args vs.toList) :
  Calls P f vs W fun e W'=>e = .returned (.bool true)∧Below W.heap.size W W':=by
 have hlive:∀ b,¬ Live ⟨fun _=>none,fun _=>False⟩ [] b:=by
  rintro b (hb | ⟨id,hb,_⟩)
  ·exact hb
  ·simp [lk] at hb
 have hm:MemOk ⟨fun _=>none,fun _=>False⟩ [] W:=⟨fun id b hb=>by simp [lk] at hb,fun i j b hi=>by simp [lk] at hi,fun b hb=>hb.elim,fun id b hb=>by simp [lk] at hb⟩
 refine (h ⟨fun _=>none,fun _=>False⟩ W vs (Below.refl _ _) (MW.start hm fun b hb=>(hlive b hb).elim) ?_).mono ?_
 ·have key:∀ {args:List CV} {us:List Value},All2 (RepC W fun _=>False) args us→All2 (Rep ⟨fun _=>none,fun _=>False⟩ [] W) (args.map .c) us:=by
   intro args
   induction args with
   | nil=>intro us h; cases us with | nil=>trivial | cons=>exact h.elim
   | cons a l ih =>
    intro us h
    cases us with
    | nil=>exact h.elim
    | cons u us =>
     refine ⟨RepC.rep (h.1.mono fun b o v _ hc=>⟨hlive b,hc⟩),ih h.2⟩
  exact key ha
 ·rintro e W' ⟨v,r,m',κ',rfl,⟨rfl,rfl⟩,h1,h2⟩
  refine ⟨?_,?_⟩
  ·have:=Rep.c h2
   cases this
   rfl
  ·have e:=h1.ext
   exact ⟨e.os,e.tape,e.output,e.size,fun k hk=>e.block k hk fun ⟨id,hid,_⟩=>by simp [lk] at hid⟩
theorem znC (hl:laidOutB P=true) {W':World} (hb:Below W.heap.size W W') {sp:Nat→Bool}:∀ {ts:List TypeId} {vs:List Value} {ds:List (DataW H)} {ps:List MemPlace},(∀ t∈ts,P.readableRec t=true∧t < P.types.size) →
  DataW.TrodAll enc P W 0 (fun _=>true) true ts vs ds ps→(∀ p∈ps,p.block < W.heap.size)→(∀ p∈ps,sp p.block=true)→DataW.TrodAll enc P W' 0 sp true ts vs ds ps
 | [],[],[],ps,_,h,_,_=>h
 | t::ts,v::vs,d::ds,ps,hr,h,hlt,hs=>by
  obtain ⟨p,q,h1,h2,rfl⟩:=h
  obtain ⟨h3,h4⟩:=hr t (by simp)
  exact ⟨p,q,WideElems.Trod_stays hl h3 h4 h1 (fun x hx=>hb.same (hlt x (by simp [hx]))) (fun x hx=>hs x (by simp [hx])),
   znC hl hb (fun t ht=>hr t (by simp [ht])) h2 (fun x hx=>hlt x (by simp [hx])) (fun x hx=>hs x (by simp [hx])),rfl⟩
 | [],_::_,_,_,_,h,_,_=>h.elim
 | [],[],_::_,_,_,h,_,_=>h.elim
 | _::_,[],_,_,_,h,_,_=>h.elim
 | _::_,_::_,[],_,_,h,_,_=>h.elim
theorem ziL (hl:laidOutB P=true) {fn:Func} {s:ChangeSpec} {tb:TypeId} {apart fresh handsOn again:Bool} {W':World} {args:Array Value} {ds:List (DataW H)} {before:List MemPlace}
  (hr:(fn.params.toList.all fun t=>P.readableRec t&&decide (t < P.types.size))=true) (hres:fn.resultTypes=#[tb]) (htb:P.underlying tb=some .bool) (hv:s.vars=[])
  (hW:DataW.Whole enc P fn.params.toList s.vars apart W args.toList ds [] before) (hs:s.fn H (ds++[])={ results:=[.lit (.bool true)],args:=ds }) (hb:Below W.heap.size W W') :
  s.post enc P fn apart fresh handsOn again W args (.bool true) W':=by
 have hr:∀ t∈fn.params.toList,P.readableRec t=true∧t < P.types.size:=fun t ht=>by
  have:=List.all_eq_true.1 hr t ht
  simpa using this
 have hlt:∀ p∈before,p.block < W.heap.size:=fun p hp=>hW.lt p hp
 have hW0:=hW
 obtain ⟨p,q,hA,hV,hpq,hfz,hnd⟩:=hW
 rw [hv] at hV
 obtain ⟨_,rfl⟩:=trodVars_none hV
 rw [List.append_nil] at hpq
 subst hpq
 have hbool:∀ (b:Nat) (sp:Nat→Bool) (hd:Bool),DataW.TrodAll enc P W' b sp hd fn.resultTypes.toList ((Value.bool true).resultList fn.resultTypes.size) (s.fn H (ds++[])).results []:=by
  intro b sp hd
  rw [hres,hs]
  exact trodAll_mk1 ⟨1,by simp [DataW.trod,Value.cells,htb]⟩
 have hargs:∀ sp:Nat→Bool,(∀ x∈before,sp x.block=true)→DataW.TrodAll enc P W' 0 sp true fn.params.toList args.toList ds before:=fun sp hsp=>znC hl hb hr hA hlt hsp
 have hvars:∀ sp,DataW.TrodVars enc P W' sp s.vars [] []:=fun sp=>by rw [hv]; rfl
 refine ⟨ds,[],before,[],before,[],hW0,hbool _ _ _,?_,?_,World.keptBut_mono (fun x hx=>⟨hx,.inr (.inl hx)⟩) (hb.frame (·∈before)),fun _=>⟨fun j t r ht hr'=>?_,(s.fn H (ds++[])).results++ds,[],before,⟨before,[],?_,?_,(List.append_nil _).symm,fun b off hx=>?_,hnd⟩,fun x hx _=>hx⟩⟩
 ·rw [hs]; exact hargs _ fun x hx=>by simpa using hlt x hx
 ·rw [hs]; exact hvars _
 ·rw [hres] at ht hr'
  match j,ht,hr' with
  | 0,ht,hr' =>
   have e1:tb=t:=by simpa using ht
   have e2:Value.bool true=r:=by simpa [Value.resultList] using hr'
   subst e1 e2
   simp [Value.okWide,htb,Cell.okWide,Cell.ok]
  | j+1,ht,_=>simp at ht
 ·have:=trodAll_append (hargs (fun _=>true) fun _ _=>rfl) (hbool 0 (fun _=>true) true)
  simpa using this
 ·exact hvars _
 ·rw [hb.frozen (hlt _ hx)]; exact hfz b off hx
end
end Go.Proofs.YteheahbjaddooaaGreatDoor

namespace Go.Proofs.YteheahbjaddooaaGreatDoor
set_option linter.unusedSimpArgs false
set_option linter.unusedVariables false
open Go Go.RowKit Go.WideShapes Go.ChangeShapes Go.ChangeAt
theorem laidOut:laidOutB Tryz.prog=true:=by kernel_rfl
theorem ownK:ownKnob Tryz.prog.godebug=none:=by kernel_rfl
section
variable {H:Type} {enc:TypeId × Value→H} {W:World}
set_option maxRecDepth 100000 in
theorem Zz {r:Reach} {b:Nat} {v:Value} (h:Value.okWide Tryz.prog W r b 22 v):∀ cs,v ≠ .agg cs:=by
 rintro cs rfl
 unfold Value.okWide at h
 rw [Tryz.underlying22] at h
 unfold Cell.okWide at h
 rw [Tryz.underlying22] at h
 unfold Cell.ok at h
 rw [Tryz.underlying22] at h
 exact h
theorem zj0:Opn enc Tryz.prog W 22 eCode:=zky (f:=fun b:UInt8=>CU b.toNat) 1 (by kernel_rfl) (by kernel_rfl) (by decide) (fun _=>rfl) (zkz (t:=5) (by kernel_rfl))
end
end Go.Proofs.YteheahbjaddooaaGreatDoor

namespace Go.Proofs.YteheahbjaddooaaGreatDoor
set_option linter.unusedSimpArgs false
set_option linter.unusedVariables false
open Go Go.RowKit Go.WideShapes Go.ChangeShapes Go.ChangeAt
def rangeCells:List Value:=[128,191,160,191,128,159,144,191,128,143,0,0,0,0,0,0,0,0,0,0,0,0,0,0,0,0,0,0,0,0,0,0].map fun n:Nat=>Value.int .u8 (n:Int)
def firstCells:List Value:=Go.Pinned.utf8FirstZ.map fun n:Nat=>Value.int .u8 (n:Int)
def laidW (P:Program) (os:Os):World:=Sort.mapBlock (Sort.mapBlock (World.holding P os ⟨#[],#[],[]⟩) 2 fun _=>rangeCells.toArray) 1 fun _=>firstCells.toArray
end Go.Proofs.YteheahbjaddooaaGreatDoor

namespace Go.Proofs.YteheahbjaddooaaGreatDoor
set_option linter.unusedSimpArgs false
set_option linter.unusedVariables false
open Go Go.RowKit
theorem zhV {W:World} (h:W.ShapedOpen Tryz.prog):HM W :=
 Go.Proofs.cell_of_shapedOpen_int (zero:=#[.int .i64 0]) (t:=3) h (of_decide_eq_true (by kernel_rfl)) (by kernel_rfl) rfl (by kernel_rfl) (by kernel_rfl) Tryz.underlying3
end Go.Proofs.YteheahbjaddooaaGreatDoor

namespace Go.Proofs.YteheahbjaddooaaGreatDoor
set_option linter.unusedSimpArgs false
set_option linter.unusedVariables false
open Go Go.RowKit
theorem xiT {a:Int} {A B:Prop} (h:A):cndX (eqI a a) A B:=by rw [zT.2 rfl]; exact h
theorem xiF {a:Int} {A B:Prop} (h:B):cndX (!eqI a a) A B:=by rw [zT.2 rfl]; exact h
theorem xbT {a:Bool} {A B:Prop} (h:A):cndX (eqB a a) A B:=by rw [zQ.2 rfl]; exact h
theorem xbF {a:Bool} {A B:Prop} (h:B):cndX (!eqB a a) A B:=by rw [zQ.2 rfl]; exact h
theorem xiN {a b:Int} {A B:Prop} (k:B) (h:a≠b:=by decide):cndX (eqI a b) A B:=by rw [zdM.2 h]; exact k
theorem xiM {a b:Int} {A B:Prop} (k:A) (h:a≠b:=by decide):cndX (!eqI a b) A B:=by rw [zdM.2 h]; exact k
theorem xbN {a b:Bool} {A B:Prop} (k:B) (h:a≠b:=by decide):cndX (eqB a b) A B:=by rw [zdL.2 h]; exact k
theorem xbM {a b:Bool} {A B:Prop} (k:A) (h:a≠b:=by decide):cndX (!eqB a b) A B:=by rw [zdL.2 h]; exact k
theorem xeT {p d:Str} {b:Bool} {A B:Prop} (h:A):cndX (eqS p p&&(eqB b b&&(eqS d d&&true))) A B:=by rw [zW.2 rfl,zQ.2 rfl,zW.2 rfl]; exact h
theorem xeF {p d:Str} {b:Bool} {A B:Prop} (h:B):cndX (!(eqS p p&&(eqB b b&&(eqS d d&&true)))) A B:=by rw [zW.2 rfl,zQ.2 rfl,zW.2 rfl]; exact h
theorem jf (W0:World) (a b:Over) (h:a=b):Fn Tryz.prog W0 30 [eOver a,eOver b] (.c (CB true)) []:=by
 have:=zev W0 a b
 rwa [decide_eq_true h] at this
theorem jd (W0:World) (a b:List Ent) (h:a=b):Fn Tryz.prog W0 32 [eEnts a,eEnts b] (.c (CB true)) []:=by
 have:=zep W0 a b
 rwa [decide_eq_true h] at this
theorem je (W0:World) (a b:List Mark) (h:a=b):Fn Tryz.prog W0 86 [eMarks a,eMarks b] (.c (CB true)) []:=by
 have:=zet W0 a b
 rwa [decide_eq_true h] at this
end Go.Proofs.YteheahbjaddooaaGreatDoor

namespace Go.Proofs.YteheahbjaddooaaGreatDoor
set_option linter.unusedSimpArgs false
set_option linter.unusedVariables false
open Go Go.RowKit
end Go.Proofs.YteheahbjaddooaaGreatDoor
