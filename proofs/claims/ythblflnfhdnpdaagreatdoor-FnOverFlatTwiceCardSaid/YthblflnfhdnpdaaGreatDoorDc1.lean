/- Contracts: the draws of trees on layers; no condition. -/
import Derived.Test.YthblflnfhdnpdaaGreatDoorPc1
import Derived.Test.YthblflnfhdnpdaaGreatDoorDb3
namespace Go.Proofs.YthblflnfhdnpdaaGreatDoor
set_option linter.unusedSimpArgs false
set_option linter.unusedVariables false
open Go Go.RowKit

/-- A slice without room, closed. -/
def NC (x y : PV) : Prop := y = x ∨ (x = .nil ∧ y = .c (.row []))
theorem NC.rep {κ : Kap} {m : Mem} {w : World} {x y : PV} {v : Value} (h : NC x y) (hr : Rep1 κ m w x v) : Rep1 κ m w y v := by
  rcases h with rfl | ⟨rfl, rfl⟩
  · exact hr
  · obtain ⟨o, rfl⟩ := hr
    exact .nil (Nat.zero_le _)
theorem KeepS.nilC {k0 : List Nat} {A : Fr} {m : XM} (bx : Nat) (cs cs' : List PV) (hb : lkX m bx = some (.box cs)) (hc : All2 NC cs cs') : KeepS k0 A m A (updX m bx (.box cs')) := fun W0 F K hA hK => by
  intro w0 κ0 m0 N κ act w hk0 hr
  have hmw := hr.mw
  have hW := hr.big
  have hb' : lk (Go.Proofs.YthblflnfhdnpdaaGreatDoor.er m) bx = some (.box cs) := by rw [lk_er, hb]; rfl
  have all2 : ∀ {cs cs' : List PV} {vs : List Value} {κ : Kap} {m : Mem}, All2 NC cs cs' → All2 (Rep1 κ m w) cs vs → All2 (Rep1 κ m w) cs' vs := by
    intro cs
    induction cs with
    | nil => intro cs' vs κ m h1 h2; cases cs' with | nil => (cases vs with | nil => trivial | cons => exact h2.elim) | cons => exact h1.elim
    | cons c cs ih =>
      intro cs' vs κ m h1 h2
      cases cs' with
      | nil => exact h1.elim
      | cons d ds => cases vs with
        | nil => exact h2.elim
        | cons v vs => exact ⟨NC.rep h1.1 h2.1, ih h1.2 h2.2⟩
  obtain ⟨g1, g2⟩ := hmw.turn (κ' := κ) (w' := w) (x := .box cs') hW hb' rfl rfl rfl (Nat.le_refl _) rfl (fun _ _ => rfl) (fun _ _ _ => rfl) (.inl rfl) (fun _ h => ⟨⟨cs', rfl⟩, rfl⟩) (fun _ _ _ h => by cases h) (fun hp => by
    obtain ⟨g, vs, e, q1, q2, q3⟩ := hmw.mem.blk bx _ hb'
    exact ⟨g, vs, e, q1, q2, all2 hc (q3.imp fun _ _ => Rep1.pres hp)⟩)
  refine ⟨κ, A, _, ⟨g1, hr.start, hr.low0, hr.s0, hr.size, hr.defers, fun t x hx => ?_⟩, ?_⟩
  · obtain ⟨q1, q2⟩ := hr.tmps t x (by rw [← hA t]; exact hx)
    exact ⟨q1, Rep.pres g2 q2⟩
  · rw [updX_er] at hK; exact hK
theorem nc0 {x : PV} : NC x x := .inl rfl
theorem nc1 : NC .nil (.c (.row [])) := .inr ⟨rfl, rfl⟩
theorem ovE {b : List Ent} {ls : List (List Mark)} {u : List Mark} {L : List CV} (h : L = ls.map eMarks) : PV.c (.agg [eEnts b, .row L, eMarks u]) = .c (eOver ⟨b, ls, u⟩) := by rw [h]; rfl
theorem app1 {α : Type} {f : α → CV} {t : List α} {x : α} : t.map f ++ [f x] = (t ++ [x]).map f := by rw [List.map_append]; rfl
theorem set1 {α : Type} {f : α → CV} {t : List α} {k : Nat} {x : α} : (t.map f).set k (f x) = (t.set k x).map f := List.map_set.symm

abbrev ovB (o : Over) : XB := .box [.c (eEnts o.base), .c (eMarkss o.layers), .c (eMarks o.upper)]
abbrev ni3 : XB := .box [.nil, .nil, .nil]
abbrev rdB (s : Str) (q : Int) : XB := .box [.c (eCode s), .c (CI q)]

def c_spec_l4Over : XC := (.s (.r [.ex 2 (.alloc [.nil, .nil, .nil])]) (.s (.r [.mv 9 0, .ex 10 (.opn 136 [(.t 9)]), .ex 11 (.build [.nil, .nil, .nil] [(0, (1, (.t 10)))]), .ex 3 (.alloc [.nil, .nil, .nil]), .nu (.st 3 (.t 3) (.t 11))]) (.s (.s (.r [.mv 12 0, .ex 13 (.opn 55 [(.t 12), (.i 3)]), .mv 4 13]) (.blk 0 (.loop (.s (.s (.r [.mv 14 4, .ex 15 (.bin .gtr (.t 14) (.i 0))]) (.cnd (.t 15) .skip (.exit 0))) (.s (.blk 1 (.s (.r [.ex 18 (.ld true 3 (.t 3)), .ex 19 (.opn 63 [(.t 18)]), .ex 5 (.alloc [.nil, .nil, .nil]), .nu (.st 3 (.t 5) (.t 19))]) (.s (.d [.ex 20 (.fa 1 (.t 5)), .exl 21 (.ld false 1 (.t 20)), .mv 22 0, .exl 23 (.opn 137 [(.t 22)]), .exl 24 (.bsl 1 25 [(.t 23)]), .ex 25 (.app false 1 24 25 (.t 21) (.t 24)), .ex 26 (.fa 1 (.t 5)), .nu (.st 1 (.t 26) (.t 25))]) (.s (.r [.ex 27 (.ld true 3 (.t 5)), .ex 28 (.call 21 [(.t 27)])]) (.cnd (.t 28) (.r [.ex 29 (.ld true 3 (.t 5)), .nu (.st 3 (.t 3) (.t 29))]) .skip))))) (.r [.mv 16 4, .ex 17 (.bin .sub (.t 16) (.i 1)), .mv 4 17])))))) (.s (.s (.r [.mv 30 0, .ex 31 (.opn 55 [(.t 30), (.i 12)]), .mv 6 31]) (.blk 2 (.loop (.s (.s (.r [.mv 32 6, .ex 33 (.bin .gtr (.t 32) (.i 0))]) (.cnd (.t 33) .skip (.exit 2))) (.s (.blk 3 (.s (.r [.ex 37 (.ld true 3 (.t 3)), .ex 38 (.call 57 [(.t 37)]), .mv 36 38, .ex 39 (.ext (.t 36) 0), .ex 40 (.ext (.t 36) 1), .ex 7 (.asn (.t 39) 3 59), .mv 8 40]) (.s (.r [.mv 41 0, .ex 42 (.opn 55 [(.t 41), (.i 8)])]) (.blk 4 (.s (.r [.ex 52 (.bin .eql (.t 42) (.i 0)), .mv 51 52]) (.cnd (.t 51) (.r [.ex 54 (.ld true 3 (.t 3)), .ex 55 (.call 56 [(.t 54)]), .mv 53 55, .ex 56 (.ext (.t 53) 0), .ex 57 (.ext (.t 53) 1), .nu (.st 3 (.t 3) (.t 56))]) (.s (.r [.ex 59 (.bin .eql (.t 42) (.i 1)), .mv 58 59]) (.cnd (.t 58) (.s (.r [.mv 60 0, .ex 61 (.opn 55 [(.t 60), (.i 3)]), .ex 62 (.bin .eql (.t 61) (.i 0))]) (.cnd (.t 62) (.r [.ex 64 (.ld true 3 (.t 3)), .ex 65 (.call 15 [(.t 64)]), .mv 63 65, .ex 66 (.ext (.t 63) 0), .ex 67 (.ext (.t 63) 1), .nu (.st 3 (.t 3) (.t 66))]) .skip)) (.d [.exl 44 (.ld true 3 (.t 3)), .mv 45 0, .mv 46 7, .exl 47 (.opn 58 [(.t 45), (.t 46)]), .ex 48 (.call 20 [(.t 44), (.t 47)]), .mv 43 48, .ex 49 (.ext (.t 43) 0), .ex 50 (.ext (.t 43) 1), .nu (.st 3 (.t 3) (.t 49))]))))))))) (.r [.mv 34 6, .ex 35 (.bin .sub (.t 34) (.i 1)), .mv 6 35])))))) (.s (.r [.ex 68 (.ld true 3 (.t 3)), .ex 69 (.opn 63 [(.t 68)]), .nu (.st 3 (.t 2) (.t 69))]) .ret)))))
theorem c_spec_l4Over_eq : compF Go.Proofs.Tryz.prog [136, 55, 63, 137, 58] 54 = some (c_spec_l4Over.ac, [(.cell 2 true 3)], 70) := by kernel_rfl

theorem f_l4Over (W0 : World) (s : Str) (p : Int) (hs : s.length ≤ 2000) (hp : 0 ≤ p ∧ p ≤ 20000) :
    FunW Go.Proofs.Tryz.prog W0 54 [.ptr 1 0] (Rd s p) (fun x : Over × Int => OS x.1 ∧ p ≤ x.2 ∧ x.2 ≤ p + 600) (fun x => .c (eOver x.1)) (fun x => Rd s x.2) := by
  refine funW (c := c_spec_l4Over) mixed c_spec_l4Over_eq (by simp) rfl rfl fun hg => ?_
  refine dr ?_
  refine oW (f_l2Tree W0 s p hs (by omega)) rfl ⟨rfl, trivial⟩ rfl rfl ⟨([], p), by simp; omega⟩ fun x hx => ⟨rfl, ?_⟩
  obtain ⟨b, q0⟩ := x
  obtain ⟨hb, hq1, hq2⟩ : b.length ≤ 17 ∧ p ≤ q0 ∧ q0 ≤ p + 242 := hx
  refine dEr ?_
  refine oW (f_pick W0 s q0 3 hs (by omega) (by omega)) rfl ⟨rfl, trivial⟩ rfl rfl ⟨0, by omega, by omega⟩ fun n hn => ⟨rfl, ?_⟩
  have hn2 := hn.2 (by omega)
  have hn1 := hn.1
  refine dEr ?_
  refine lq3 (fun (o : Over) (i q : Int) => [(0, .ptr 1 0), (2, .ptr 32 0), (3, .ptr 48 0), (4, .c (CI i))]) (fun o _ q => [(1, rdB s q), (32, ni3), (48, ovB o)]) (fun o i q => OS o ∧ 0 ≤ i ∧ i ≤ 2 ∧ p ≤ q ∧ q ≤ p + 243 + 37 * (2 - i)) (fun _ i _ => i.toNat) ⟨b, [], []⟩ n (q0 + 1) ⟨⟨hb, by simp, by simp, by simp⟩, by omega, by omega, by omega, by omega⟩ ?_ ?_
  · refine KeepS.trans (F1 := _) (m1 := _) (KeepS.nilC 48 [.c (eEnts b), .nil, .nil] [.c (eEnts b), .c (.row []), .c (.row [])] rfl ⟨nc0, nc1, nc1, trivial⟩) (z := none) ?_
    refine dr ?_
    trivial
  rintro o i q ⟨ho, hi1, hi2, hq3, hq4⟩
  refine dr ?_
  refine cP (fun h1 => ?_) (fun h1 => ?_)
  · refine dr ?_
    refine oW (f_l4Copy W0 o (ho.oz.mono (by omega))) rfl trivial rfl rfl ⟨(), trivial⟩ fun _ _ => ⟨rfl, ?_⟩
    refine dEr ?_
    refine oW (f_l3Layer W0 s q hs (by omega)) rfl ⟨rfl, trivial⟩ rfl rfl ⟨([], q), by simp; omega⟩ fun x hx => ⟨rfl, ?_⟩
    obtain ⟨l, q2⟩ := x
    obtain ⟨hl, hr1, hr2⟩ : l.length ≤ 32 ∧ q ≤ q2 ∧ q2 ≤ q + 37 := hx
    have hn := ho.n
    have q9 := f_spec_OverOk W0 ⟨o.base, o.layers ++ [l], o.upper⟩
    rw [show eOver ⟨o.base, o.layers ++ [l], o.upper⟩ = .agg [eEnts o.base, .row (o.layers.map eMarks ++ [eMarks l]), eMarks o.upper] by rw [app1]; rfl] at q9
    refine dEr ?_
    repeat ((first | refine oB (by simp; omega) ?_ | refine oB (by simp) ?_ | refine c0 q9 rfl ?_); first | refine dEr ?_ | exact dz)
    refine cP (fun h2 => ?_) (fun h2 => ?_)
    · refine dr ?_
      refine ⟨⟨o.base, o.layers ++ [l], o.upper⟩, i - 1, q2, ⟨OS.ok h2, by omega, by omega, by omega, by omega⟩, by omega, ?_⟩
      refine KeepX.s (z := some 4) ?_
      refine dr ?_
      repeat ((first | refine oB (congrArg (fun L => XB.box [.c (eEnts o.base), .c (.row L), .c (eMarks o.upper)]) app1) ?_ | refine oB (by simp) ?_); first | refine dr ?_ | exact dz)
      trivial
    · refine dr ?_
      refine ⟨o, i - 1, q2, ⟨ho, by omega, by omega, by omega, by omega⟩, by omega, ?_⟩
      refine KeepX.s (z := none) ?_
      refine dr ?_
      trivial
  refine dr ?_
  refine oW (f_pick W0 s q 12 hs (by omega) (by omega)) rfl ⟨rfl, trivial⟩ rfl rfl ⟨0, by omega, by omega⟩ fun n hn => ⟨rfl, ?_⟩
  have hn2 := hn.2 (by omega)
  have hn1 := hn.1
  clear h1
  refine dEr ?_
  refine lp3 (fun (o : Over) (i r : Int) => [(0, .ptr 1 0), (2, .ptr 32 0), (3, .ptr 48 0), (6, .c (CI i))]) (fun o _ r => [(1, rdB s r), (32, ni3), (48, ovB o)]) (fun o i r => OS o ∧ 0 ≤ i ∧ i ≤ 11 ∧ p ≤ r ∧ r ≤ p + 320 + 10 * (11 - i)) (fun _ i _ => i.toNat) o n (q + 1) ⟨ho, by omega, by omega, by omega, by omega⟩ ?_ ?_
  · refine dr ?_
    trivial
  clear hq3 hq4 ho
  rintro o i q ⟨ho, hi1, hi2, hq3, hq4⟩
  refine dr ?_
  refine cP (fun h1 => ?_) (fun h1 => ?_)
  · have hv := f_l4View W0 o
    have hvl : ((view4 o).getD []).length ≤ 16 := by
      cases hx : view4 o with
      | none => simp
      | some x => exact (tOk_at (view4_tOk hx)).1
    rw [eEntsO_eq] at hv
    generalize (view4 o).getD [] = t at *
    refine dEr ?_
    repeat (refine c0 hv rfl ?_; first | refine dEr ?_ | exact dz)
    refine oW (f_pick W0 s q 8 hs (by omega) (by omega)) rfl ⟨rfl, trivial⟩ rfl rfl ⟨0, by omega, by omega⟩ fun v hv => ⟨rfl, ?_⟩
    refine dEr ?_
    refine cP (fun h2 => ?_) (fun h2 => ?_)
    · refine dEr ?_
      repeat (refine c0 (f_spec_OverPush W0 o) rfl ?_; first | refine dEr ?_ | exact dz)
      refine ⟨(oPush o).1, i - 1, q + 1, ⟨OS.push, by omega, by omega, by omega, by omega⟩, by omega, ?_⟩
      refine dr ?_
      trivial
    refine dr ?_
    refine cP (fun h3 => ?_) (fun h3 => ?_)
    · refine dr ?_
      refine oW (f_pick W0 s (q + 1) 3 hs (by omega) (by omega)) rfl ⟨rfl, trivial⟩ rfl rfl ⟨0, by omega, by omega⟩ fun v hv => ⟨rfl, ?_⟩
      refine dEr ?_
      refine cP (fun h4 => ?_) (fun h4 => ?_)
      · refine dEr ?_
        repeat (refine c0 (f_spec_OverFlat W0 o) rfl ?_; first | refine dEr ?_ | exact dz)
        refine ⟨(oFlat o).1, i - 1, q + 1 + 1, ⟨OS.flat, by omega, by omega, by omega, by omega⟩, by omega, ?_⟩
        refine dr ?_
        trivial
      · refine dr ?_
        refine ⟨o, i - 1, q + 1 + 1, ⟨ho, by omega, by omega, by omega, by omega⟩, by omega, ?_⟩
        refine dr ?_
        trivial
    · refine dr ?_
      refine oW (f_l2Op W0 s (q + 1) t hs (by omega) (by omega)) rfl ⟨rfl, trivial⟩ rfl rfl ⟨((⟨0, [], [], []⟩, q + 1) : Op × Int), by omega, by omega⟩ fun x hx => ⟨rfl, ?_⟩
      obtain ⟨op, r⟩ := x
      obtain ⟨hr1, hr2⟩ : q + 1 ≤ r ∧ r ≤ q + 1 + 8 := hx
      refine dEr ?_
      repeat (refine c0 (f_spec_OverDo W0 o op) rfl ?_; first | refine dEr ?_ | exact dz)
      refine ⟨(oDo o op).1, i - 1, r, ⟨OS.do op, by omega, by omega, by omega, by omega⟩, by omega, ?_⟩
      refine dr ?_
      trivial
  · refine dr ?_
    refine oW (f_l4Copy W0 o (ho.oz.mono (by omega))) rfl trivial rfl rfl ⟨(), trivial⟩ fun _ _ => ⟨rfl, ?_⟩
    refine dEr ?_
    refine ⟨some 4, _, _, ?_, (o, q), ⟨ho, by omega, by omega⟩, rfl, rfl⟩
    refine dr ?_
    repeat (refine oB (by simp) ?_; first | refine dr ?_ | exact dz)
    trivial


def c_spec_l4Bent : XC := (.s (.r [.ex 3 (.box (.t 1)), .ex 4 (.alloc [.nil, .nil, .nil])]) (.s (.r [.ex 8 (.ld true 3 (.t 3)), .ex 9 (.opn 63 [(.t 8)]), .ex 5 (.alloc [.nil, .nil, .nil]), .nu (.st 3 (.t 5) (.t 9))]) (.s (.r [.ex 10 (.fa 1 (.t 5)), .ex 11 (.ld false 1 (.t 10)), .ex 12 (.len false (.t 11)), .mv 6 12]) (.s (.s (.r [.mv 13 0, .ex 14 (.opn 55 [(.t 13), (.i 60)])]) (.blk 0 (.s (.r [.ex 16 (.bin .eql (.t 14) (.i 0)), .mv 15 16]) (.cnd (.t 15) (.r [.mv 17 0, .mv 18 0, .mv 19 0, .mv 20 0, .ex 21 (.fa 0 (.t 5)), .ex 22 (.ld false 1 (.t 21)), .ex 23 (.opn 142 [(.t 20), (.t 22)]), .ex 24 (.opn 142 [(.t 19), (.t 23)]), .ex 25 (.opn 142 [(.t 18), (.t 24)]), .ex 26 (.opn 142 [(.t 17), (.t 25)]), .ex 27 (.fa 0 (.t 5)), .nu (.st 1 (.t 27) (.t 26))]) (.s (.r [.ex 29 (.bin .eql (.t 14) (.i 1)), .mv 28 29]) (.cnd (.t 28) (.s (.r [.mv 30 6, .ex 31 (.bin .gtr (.t 30) (.i 0))]) (.cnd (.t 31) (.s (.r [.mv 32 0, .mv 33 6, .ex 34 (.opn 55 [(.t 32), (.t 33)]), .mv 7 34]) (.d [.ex 35 (.fa 1 (.t 5)), .exl 36 (.ld false 1 (.t 35)), .mv 37 7, .mv 38 0, .mv 39 0, .mv 40 0, .mv 41 0, .ex 42 (.fa 1 (.t 5)), .exl 43 (.ld false 1 (.t 42)), .mv 44 7, .exl 45 (.ia 1 (.t 43) (.t 44)), .exl 46 (.ld false 1 (.t 45)), .exl 47 (.opn 143 [(.t 41), (.t 46)]), .exl 48 (.opn 143 [(.t 40), (.t 47)]), .exl 49 (.opn 143 [(.t 39), (.t 48)]), .exl 50 (.opn 143 [(.t 38), (.t 49)]), .exl 51 (.ia 1 (.t 36) (.t 37)), .nu (.st 1 (.t 51) (.t 50))])) .skip)) (.s (.r [.ex 53 (.bin .eql (.t 14) (.i 2)), .mv 52 53]) (.cnd (.t 52) (.r [.mv 54 0, .mv 55 0, .mv 56 0, .mv 57 0, .ex 58 (.fa 2 (.t 5)), .ex 59 (.ld false 1 (.t 58)), .ex 60 (.opn 143 [(.t 57), (.t 59)]), .ex 61 (.opn 143 [(.t 56), (.t 60)]), .ex 62 (.opn 143 [(.t 55), (.t 61)]), .ex 63 (.opn 143 [(.t 54), (.t 62)]), .ex 64 (.fa 2 (.t 5)), .nu (.st 1 (.t 64) (.t 63))]) (.s (.r [.ex 66 (.bin .eql (.t 14) (.i 3)), .mv 65 66]) (.cnd (.t 65) (.r [.mv 67 0, .ex 68 (.opn 137 [(.t 67)]), .ex 69 (.fa 2 (.t 5)), .nu (.st 1 (.t 69) (.t 68))]) (.s (.r [.ex 71 (.bin .eql (.t 14) (.i 4)), .mv 70 71]) (.cnd (.t 70) (.blk 1 (.loop (.s (.s (.r [.ex 72 (.fa 1 (.t 5)), .ex 73 (.ld false 1 (.t 72)), .ex 74 (.len false (.t 73)), .ex 75 (.bin .leq (.t 74) (.i 4))]) (.cnd (.t 75) .skip (.exit 1))) (.blk 2 (.r [.ex 76 (.fa 1 (.t 5)), .ex 77 (.ld false 1 (.t 76)), .ex 78 .bsl0, .ex 79 (.bsl 1 25 [(.t 78)]), .ex 80 (.app false 1 24 25 (.t 77) (.t 79)), .ex 81 (.fa 1 (.t 5)), .nu (.st 1 (.t 81) (.t 80))]))))) (.s (.r [.ex 83 (.bin .eql (.t 14) (.i 5)), .mv 82 83]) (.cnd (.t 82) (.d [.ex 84 (.fa 1 (.t 5)), .exl 85 (.ld false 1 (.t 84)), .mv 86 0, .exl 87 (.opn 137 [(.t 86)]), .exl 88 (.bsl 1 25 [(.t 87)]), .ex 89 (.app false 1 24 25 (.t 85) (.t 88)), .ex 90 (.fa 1 (.t 5)), .nu (.st 1 (.t 90) (.t 89))]) .skip)))))))))))))) (.s (.r [.ex 91 (.ld true 3 (.t 5)), .nu (.st 3 (.t 4) (.t 91))]) .ret)))))
theorem c_spec_l4Bent_eq : compF Go.Proofs.Tryz.prog [63, 55, 142, 143, 137] 59 = some (c_spec_l4Bent.ac, [(.cell 4 true 3)], 92) := by kernel_rfl

theorem OZ.put {o : Over} {n : Nat} (h : OZ n o) {ls : List (List Mark)} {m : Nat} (h1 : ls.length ≤ m) (h2 : ∀ l ∈ ls, l.length ≤ m) (hm : n ≤ m) : OZ m ⟨o.base, ls, o.upper⟩ := ⟨by have := h.b; simp only; omega, h1, h2, by have := h.u; simp only; omega⟩
set_option maxHeartbeats 4000000 in
theorem f_l4Bent (W0 : World) (s : Str) (p : Int) (o : Over) (n : Nat) (hs : s.length ≤ 2000) (hp : 0 ≤ p ∧ p ≤ 40000) (h : OZ n o) (hn : n ≤ 50000) :
    FunW Go.Proofs.Tryz.prog W0 59 [.ptr 1 0, .c (eOver o)] (Rd s p) (fun x : Over × Int => OZ (n + 40) x.1 ∧ p ≤ x.2 ∧ x.2 ≤ p + 40) (fun x => .c (eOver x.1)) (fun x => Rd s x.2) := by
  refine funW (c := c_spec_l4Bent) mixed c_spec_l4Bent_eq (by simp) rfl rfl fun hg => ?_
  obtain ⟨z1, z2, z3, z4⟩ := h
  have hz : OZ n o := ⟨z1, z2, z3, z4⟩
  have hz' : OZ (n + 40) o := hz.mono (by omega)
  refine dr ?_
  refine oW (f_l4Copy W0 o (hz.mono (by omega))) rfl trivial rfl rfl ⟨(), trivial⟩ fun _ _ => ⟨rfl, ?_⟩
  refine dEr ?_
  refine oW (f_pick W0 s p 60 hs (by omega) (by omega)) rfl ⟨rfl, trivial⟩ rfl rfl ⟨0, by omega, by omega⟩ fun v hv => ⟨rfl, ?_⟩
  refine dEr ?_
  refine cP (fun h0 => ?_) (fun h0 => ?_)
  · refine dr ?_
    refine oW (f_l2Bent W0 s (p + 1) o.base hs (by omega) (by omega)) rfl ⟨rfl, trivial⟩ rfl rfl ⟨([], p + 1), by simp; omega⟩ fun x hx => ⟨rfl, ?_⟩
    obtain ⟨b1, q1⟩ := x
    obtain ⟨a1, a2, a3⟩ : b1.length ≤ o.base.length + 1 ∧ p + 1 ≤ q1 ∧ q1 ≤ p + 1 + 3 := hx
    refine dr ?_
    refine oW (f_l2Bent W0 s q1 b1 hs (by omega) (by omega)) rfl ⟨rfl, trivial⟩ rfl rfl ⟨([], q1), by simp; omega⟩ fun x hx => ⟨rfl, ?_⟩
    obtain ⟨b2, q2⟩ := x
    obtain ⟨c1, c2, c3⟩ : b2.length ≤ b1.length + 1 ∧ q1 ≤ q2 ∧ q2 ≤ q1 + 3 := hx
    refine dr ?_
    refine oW (f_l2Bent W0 s q2 b2 hs (by omega) (by omega)) rfl ⟨rfl, trivial⟩ rfl rfl ⟨([], q2), by simp; omega⟩ fun x hx => ⟨rfl, ?_⟩
    obtain ⟨b3, q3⟩ := x
    obtain ⟨d1, d2, d3⟩ : b3.length ≤ b2.length + 1 ∧ q2 ≤ q3 ∧ q3 ≤ q2 + 3 := hx
    refine dr ?_
    refine oW (f_l2Bent W0 s q3 b3 hs (by omega) (by omega)) rfl ⟨rfl, trivial⟩ rfl rfl ⟨([], q3), by simp; omega⟩ fun x hx => ⟨rfl, ?_⟩
    obtain ⟨b4, q4⟩ := x
    obtain ⟨e1, e2, e3⟩ : b4.length ≤ b3.length + 1 ∧ q3 ≤ q4 ∧ q4 ≤ q3 + 3 := hx
    refine dEr ?_
    refine ⟨some 4, _, _, ?_, (⟨b4, o.layers, o.upper⟩, q4), ⟨⟨by simp only; omega, by simp only; omega, fun l hl => by have := z3 l hl; omega, by simp only; omega⟩, by omega, by omega⟩, rfl, rfl⟩
    refine dr ?_
    repeat ((first | refine oB (ovE rfl) ?_ | refine oB (by simp) ?_); first | refine dr ?_ | exact dz)
    trivial
  refine dr ?_
  refine cP (fun h1 => ?_) (fun h1 => ?_)
  · refine dr ?_
    refine cP (fun h2 => ?_) (fun h2 => ?_)
    · refine dr ?_
      refine oW (f_pick W0 s (p + 1) o.layers.length hs (by omega) (by omega)) rfl ⟨rfl, trivial⟩ rfl rfl ⟨0, by omega, by omega⟩ fun k hk => ⟨rfl, ?_⟩
      obtain ⟨k, rfl⟩ : ∃ j : Nat, k = j := ⟨k.toNat, by omega⟩
      have hk' : k < o.layers.length := by have := hk.2 (by omega); omega
      have hzk := z3 _ (List.getElem_mem hk')
      refine dEr ?_
      refine oW (f_l3Bent W0 s (p + 1 + 1) o.layers[k] hs (by omega) (by omega)) rfl ⟨rfl, trivial⟩ rfl rfl ⟨([], p + 1 + 1), by simp; omega⟩ fun x hx => ⟨rfl, ?_⟩
      obtain ⟨b1, q1⟩ := x
      obtain ⟨a1, a2, a3⟩ : b1.length ≤ o.layers[k].length + 1 ∧ p + 1 + 1 ≤ q1 ∧ q1 ≤ p + 1 + 1 + 3 := hx
      refine dr ?_
      refine oW (f_l3Bent W0 s q1 b1 hs (by omega) (by omega)) rfl ⟨rfl, trivial⟩ rfl rfl ⟨([], q1), by simp; omega⟩ fun x hx => ⟨rfl, ?_⟩
      obtain ⟨b2, q2⟩ := x
      obtain ⟨c1, c2, c3⟩ : b2.length ≤ b1.length + 1 ∧ q1 ≤ q2 ∧ q2 ≤ q1 + 3 := hx
      refine dr ?_
      refine oW (f_l3Bent W0 s q2 b2 hs (by omega) (by omega)) rfl ⟨rfl, trivial⟩ rfl rfl ⟨([], q2), by simp; omega⟩ fun x hx => ⟨rfl, ?_⟩
      obtain ⟨b3, q3⟩ := x
      obtain ⟨d1, d2, d3⟩ : b3.length ≤ b2.length + 1 ∧ q2 ≤ q3 ∧ q3 ≤ q2 + 3 := hx
      refine dr ?_
      refine oW (f_l3Bent W0 s q3 b3 hs (by omega) (by omega)) rfl ⟨rfl, trivial⟩ rfl rfl ⟨([], q3), by simp; omega⟩ fun x hx => ⟨rfl, ?_⟩
      obtain ⟨b4, q4⟩ := x
      obtain ⟨e1, e2, e3⟩ : b4.length ≤ b3.length + 1 ∧ q3 ≤ q4 ∧ q4 ≤ q3 + 3 := hx
      refine dEr ?_
      refine ⟨some 4, _, _, ?_, (⟨o.base, o.layers.set k b4, o.upper⟩, q4), ⟨hz.put (by simp; omega) (fun l hl => ?_) (by omega), by omega, by omega⟩, rfl, rfl⟩
      · refine dr ?_
        repeat ((first | refine oB (ovE set1) ?_ | refine oB (by simp) ?_); first | refine dr ?_ | exact dz)
        trivial
      · rcases List.mem_or_eq_of_mem_set hl with h | h
        · have := z3 l h; omega
        · subst h; omega
    · refine dr ?_
      refine ⟨some 4, _, _, ?_, (o, p + 1), ⟨hz', by omega, by omega⟩, rfl, rfl⟩
      refine dr ?_
      repeat ((first | refine oB (ovE rfl) ?_ | refine oB (by simp) ?_); first | refine dr ?_ | exact dz)
      trivial
  refine dr ?_
  refine cP (fun h2 => ?_) (fun h2 => ?_)
  · refine dr ?_
    refine oW (f_l3Bent W0 s (p + 1) o.upper hs (by omega) (by omega)) rfl ⟨rfl, trivial⟩ rfl rfl ⟨([], p + 1), by simp; omega⟩ fun x hx => ⟨rfl, ?_⟩
    obtain ⟨b1, q1⟩ := x
    obtain ⟨a1, a2, a3⟩ : b1.length ≤ o.upper.length + 1 ∧ p + 1 ≤ q1 ∧ q1 ≤ p + 1 + 3 := hx
    refine dr ?_
    refine oW (f_l3Bent W0 s q1 b1 hs (by omega) (by omega)) rfl ⟨rfl, trivial⟩ rfl rfl ⟨([], q1), by simp; omega⟩ fun x hx => ⟨rfl, ?_⟩
    obtain ⟨b2, q2⟩ := x
    obtain ⟨c1, c2, c3⟩ : b2.length ≤ b1.length + 1 ∧ q1 ≤ q2 ∧ q2 ≤ q1 + 3 := hx
    refine dr ?_
    refine oW (f_l3Bent W0 s q2 b2 hs (by omega) (by omega)) rfl ⟨rfl, trivial⟩ rfl rfl ⟨([], q2), by simp; omega⟩ fun x hx => ⟨rfl, ?_⟩
    obtain ⟨b3, q3⟩ := x
    obtain ⟨d1, d2, d3⟩ : b3.length ≤ b2.length + 1 ∧ q2 ≤ q3 ∧ q3 ≤ q2 + 3 := hx
    refine dr ?_
    refine oW (f_l3Bent W0 s q3 b3 hs (by omega) (by omega)) rfl ⟨rfl, trivial⟩ rfl rfl ⟨([], q3), by simp; omega⟩ fun x hx => ⟨rfl, ?_⟩
    obtain ⟨b4, q4⟩ := x
    obtain ⟨e1, e2, e3⟩ : b4.length ≤ b3.length + 1 ∧ q3 ≤ q4 ∧ q4 ≤ q3 + 3 := hx
    refine dEr ?_
    refine ⟨some 4, _, _, ?_, (⟨o.base, o.layers, b4⟩, q4), ⟨⟨by simp only; omega, by simp only; omega, fun l hl => by have := z3 l hl; omega, by simp only; omega⟩, by omega, by omega⟩, rfl, rfl⟩
    refine dr ?_
    repeat ((first | refine oB (ovE rfl) ?_ | refine oB (by simp) ?_); first | refine dr ?_ | exact dz)
    trivial
  refine dr ?_
  refine cP (fun h3 => ?_) (fun h3 => ?_)
  · refine dr ?_
    refine oW (f_l3Layer W0 s (p + 1) hs (by omega)) rfl ⟨rfl, trivial⟩ rfl rfl ⟨([], p + 1), by simp; omega⟩ fun x hx => ⟨rfl, ?_⟩
    obtain ⟨l, q1⟩ := x
    obtain ⟨a1, a2, a3⟩ : l.length ≤ 32 ∧ p + 1 ≤ q1 ∧ q1 ≤ p + 1 + 37 := hx
    refine dEr ?_
    refine ⟨some 4, _, _, ?_, (⟨o.base, o.layers, l⟩, q1), ⟨⟨by simp only; omega, by simp only; omega, fun l hl => by have := z3 l hl; omega, by simp only; omega⟩, by omega, by omega⟩, rfl, rfl⟩
    refine dr ?_
    repeat ((first | refine oB (ovE rfl) ?_ | refine oB (by simp) ?_); first | refine dr ?_ | exact dz)
    trivial
  refine dr ?_
  refine cP (fun h4 => ?_) (fun h4 => ?_)
  · refine dr ?_
    refine lp (σ := List (List Mark)) (fun L => [(0, .ptr 1 0), (4, .ptr 64 0), (5, .ptr 80 0)]) (fun L => [(1, rdB s (p + 1)), (64, ni3), (80, .box [.c (eEnts o.base), .own 4 L.length, .c (eMarks o.upper)]), (4, .row (L.map eMarks) 1 25)]) (fun L => L.length ≤ n + 5 ∧ ∀ l ∈ L, l.length ≤ n) (fun L => 6 - L.length) o.layers ⟨by omega, z3⟩ ?_ ?_
    · refine dr ?_
      trivial
    rintro L ⟨g1, g2⟩
    refine dr ?_
    refine cP (fun h5 => ?_) (fun h5 => ?_)
    · refine dr ?_
      repeat (refine oB (by simp; omega) ?_; first | refine dr ?_ | exact dz)
      refine ⟨L ++ [[]], ⟨by simp; omega, fun l hl => ?_⟩, by simp; omega, ?_⟩
      · rcases List.mem_append.1 hl with h | h
        · exact g2 l h
        · simp only [List.mem_singleton] at h; subst h; simp
      · refine dr ?_
        repeat ((first | refine oB (congrArg (fun L => XB.row L 1 25) (app1 (f := eMarks) (x := []))) ?_ | refine oB (by simp) ?_); first | refine dr ?_ | exact dz)
        trivial
    · refine dr ?_
      refine ⟨some 4, _, _, ?_, (⟨o.base, L, o.upper⟩, p + 1), ⟨hz.put (by omega) (fun l hl => by have := g2 l hl; omega) (by omega), by omega, by omega⟩, rfl, rfl⟩
      refine dr ?_
      repeat ((first | refine oB (ovE rfl) ?_ | refine oB (by simp) ?_); first | refine dr ?_ | exact dz)
      trivial
  refine dr ?_
  refine cP (fun h5 => ?_) (fun h5 => ?_)
  · refine dr ?_
    refine oW (f_l3Layer W0 s (p + 1) hs (by omega)) rfl ⟨rfl, trivial⟩ rfl rfl ⟨([], p + 1), by simp; omega⟩ fun x hx => ⟨rfl, ?_⟩
    obtain ⟨l, q1⟩ := x
    obtain ⟨a1, a2, a3⟩ : l.length ≤ 32 ∧ p + 1 ≤ q1 ∧ q1 ≤ p + 1 + 37 := hx
    refine dEr ?_
    repeat ((first | refine oB (by simp; omega) ?_ | refine oB (by simp) ?_); first | refine dEr ?_ | exact dz)
    refine ⟨some 4, _, _, ?_, (⟨o.base, o.layers ++ [l], o.upper⟩, q1), ⟨hz.put (by simp; omega) (fun x hx => ?_) (by omega), by omega, by omega⟩, rfl, rfl⟩
    · refine dr ?_
      repeat ((first | refine oB (ovE app1) ?_ | refine oB (by simp) ?_); first | refine dr ?_ | exact dz)
      trivial
    · rcases List.mem_append.1 hx with h | h
      · have := z3 x h; omega
      · simp only [List.mem_singleton] at h; subst h; omega
  · refine dr ?_
    refine ⟨some 4, _, _, ?_, (o, p + 1), ⟨hz', by omega, by omega⟩, rfl, rfl⟩
    refine dr ?_
    repeat ((first | refine oB (ovE rfl) ?_ | refine oB (by simp) ?_); first | refine dr ?_ | exact dz)
    trivial


def c_spec_l4Some : XC := (.s (.r [.ex 2 (.alloc [.nil, .nil, .nil])]) (.s (.r [.mv 3 0, .mv 4 0, .ex 5 (.opn 54 [(.t 4)]), .ex 6 (.opn 59 [(.t 3), (.t 5)]), .nu (.st 3 (.t 2) (.t 6))]) .ret))
theorem c_spec_l4Some_eq : compF Go.Proofs.Tryz.prog [54, 59] 67 = some (c_spec_l4Some.ac, [(.cell 2 true 3)], 7) := by kernel_rfl

theorem f_l4Some (W0 : World) (s : Str) (p : Int) (hs : s.length ≤ 2000) (hp : 0 ≤ p ∧ p ≤ 20000) :
    FunW Go.Proofs.Tryz.prog W0 67 [.ptr 1 0] (Rd s p) (fun x : Over × Int => OZ 80 x.1 ∧ p ≤ x.2 ∧ x.2 ≤ p + 640) (fun x => .c (eOver x.1)) (fun x => Rd s x.2) := by
  refine funW (c := c_spec_l4Some) mixed c_spec_l4Some_eq (by simp) rfl rfl fun hg => ?_
  refine dr ?_
  refine oW (f_l4Over W0 s p hs hp) rfl ⟨rfl, trivial⟩ rfl rfl ⟨(noO, p), OS.no, by simp, by simp; omega⟩ fun x hx => ⟨rfl, ?_⟩
  obtain ⟨o, q⟩ := x
  obtain ⟨a1, a2, a3⟩ : OS o ∧ p ≤ q ∧ q ≤ p + 600 := hx
  refine dEr ?_
  refine oW (f_l4Bent W0 s q o 32 hs (by omega) a1.oz (by omega)) rfl ⟨rfl, trivial⟩ rfl rfl ⟨(noO, q), OS.no.oz.mono (by omega), by simp, by simp; omega⟩ fun x hx => ⟨rfl, ?_⟩
  obtain ⟨x, r⟩ := x
  obtain ⟨b1, b2, b3⟩ : OZ (32 + 40) x ∧ q ≤ r ∧ r ≤ q + 40 := hx
  refine dEr ?_
  refine ⟨none, _, _, ?_, (x, r), ⟨b1.mono (by omega), by omega, by omega⟩, rfl, rfl⟩
  refine dr ?_
  trivial


def c_spec_DrawOverOk : XC := (.s (.r [.ex 2 (.alloc [.nil, .nil, .nil])]) (.s (.r [.mv 3 0, .ex 4 (.opn 53 [(.t 3)]), .ex 5 (.opn 67 [(.t 4)]), .nu (.st 3 (.t 2) (.t 5))]) .ret))
theorem c_spec_DrawOverOk_eq : compF Go.Proofs.Tryz.prog [53, 67] 30 = some (c_spec_DrawOverOk.ac, [(.cell 2 true 3)], 6) := by kernel_rfl

theorem f_DrawOverOk (W0 : World) (c : Str) : FunW Go.Proofs.Tryz.prog W0 30 [.c (eCode c)] [] (fun x : Over => OZ 80 x) (fun x => .c (eOver x)) (fun _ => []) := by
  refine funW (c := c_spec_DrawOverOk) mixed c_spec_DrawOverOk_eq (by simp) rfl rfl fun hg => ?_
  refine dr ?_
  refine oW (f_l10Open W0 c) rfl trivial rfl rfl ⟨[], by simp⟩ fun s hs => ⟨rfl, ?_⟩
  refine dEr ?_
  refine oW (f_l4Some W0 s 0 hs (by omega)) rfl ⟨rfl, trivial⟩ rfl rfl ⟨(noO, 0), OS.no.oz.mono (by omega), by simp, by simp⟩ fun x hx => ⟨rfl, ?_⟩
  obtain ⟨o, q⟩ := x
  have a1 : OZ 80 o := hx.1
  refine dEr ?_
  refine ⟨none, _, _, ?_, o, a1, rfl, rfl⟩
  refine dr ?_
  trivial


def c_spec_l1Text : XC := (.s (.r [.ex 2 (.mv (.s []))]) (.s (.s (.r [.mv 3 0, .ex 4 (.opn 55 [(.t 3), (.i 4)]), .ex 5 (.bin .gtr (.t 4) (.i 0))]) (.cnd (.t 5) (.s (.r [.mv 6 0, .ex 7 (.opn 139 [(.t 6)]), .mv 2 7]) .ret) .skip)) (.s (.r [.mv 8 0, .ex 9 (.bsl 1 9 [(.s [47]), (.s []), (.s [97]), (.s [47, 65]), (.s [47, 97, 47]), (.s [47, 47, 97]), (.s [47, 97, 98, 99, 100]), (.s [47, 97, 47, 98, 47, 99, 47, 100]), (.s [47, 97, 98, 99, 47, 97, 98, 99, 47, 97, 98, 99]), (.s [47, 97, 32, 98]), (.s [47, 97, 49])]), .ex 10 (.opn 141 [(.t 8), (.t 9)]), .mv 2 10]) .ret)))
theorem c_spec_l1Text_eq : compF Go.Proofs.Tryz.prog [55, 139, 141] 97 = some (c_spec_l1Text.ac, [(.t 2)], 11) := by kernel_rfl

theorem f_l1Text (W0 : World) (s : Str) (p : Int) (hs : s.length ≤ 2000) (hp : 0 ≤ p ∧ p ≤ 900000) :
    FunW Go.Proofs.Tryz.prog W0 97 [.ptr 1 0] (Rd s p) (fun x : Str × Int => p ≤ x.2 ∧ x.2 ≤ p + 2) (fun x => .c (CS x.1)) (fun x => Rd s x.2) := by
  refine funW (c := c_spec_l1Text) mixed c_spec_l1Text_eq (by simp) rfl rfl fun hg => ?_
  refine dr ?_
  refine oW (f_pick W0 s p 4 hs (by omega) (by omega)) rfl ⟨rfl, trivial⟩ rfl rfl ⟨0, by omega, by omega⟩ fun v hv => ⟨rfl, ?_⟩
  refine dEr ?_
  refine cP (fun h1 => ?_) (fun h1 => ?_)
  · refine dr ?_
    refine oW (f_l1Path W0 s (p + 1) hs (by omega)) rfl ⟨rfl, trivial⟩ rfl rfl ⟨_, List.mem_cons_self⟩ fun x hx => ⟨rfl, ?_⟩
    refine dEr ?_
    refine ⟨none, _, _, ?_, (x, p + 1 + 1), ⟨by omega, by omega⟩, rfl, rfl⟩
    refine dr ?_
    trivial
  · refine dr ?_
    refine oW (f_of W0 s (p + 1) [[47], [], [97], [47, 65], [47, 97, 47], [47, 47, 97], [47, 97, 98, 99, 100], [47, 97, 47, 98, 47, 99, 47, 100], [47, 97, 98, 99, 47, 97, 98, 99, 47, 97, 98, 99], [47, 97, 32, 98], [47, 97, 49]] hs (by omega) (by decide)) rfl ⟨rfl, trivial⟩ rfl rfl ⟨_, List.mem_cons_self⟩ fun x hx => ⟨rfl, ?_⟩
    refine dEr ?_
    refine ⟨none, _, _, ?_, (x, p + 1 + 1), ⟨by omega, by omega⟩, rfl, rfl⟩
    refine dr ?_
    trivial


def c_spec_DrawOverDo : XC := (.s (.r [.ex 2 (.alloc [.nil, .nil, .nil]), .ex 3 (.alloc [(.c (.sc (.int .i64 0))), (.c (.sc (.string ⟨#[]⟩))), (.c (.sc (.string ⟨#[]⟩))), (.c (.sc (.string ⟨#[]⟩)))])]) (.s (.r [.mv 8 0, .ex 9 (.opn 53 [(.t 8)]), .mv 4 9]) (.s (.r [.mv 10 4, .ex 11 (.opn 67 [(.t 10)]), .ex 5 (.alloc [.nil, .nil, .nil]), .nu (.st 3 (.t 5) (.t 11))]) (.s (.r [.ex 13 (.ld true 3 (.t 5)), .ex 14 (.call 57 [(.t 13)]), .mv 12 14, .ex 15 (.ext (.t 12) 0), .ex 16 (.ext (.t 12) 1), .ex 6 (.asn (.t 15) 3 59), .mv 7 16]) (.s (.d [.exl 17 (.ld true 3 (.t 5)), .mv 18 4, .mv 19 6, .exl 20 (.opn 58 [(.t 18), (.t 19)]), .nu (.st 3 (.t 2) (.t 17)), .nu (.st 4 (.t 3) (.t 20))]) .ret)))))
theorem c_spec_DrawOverDo_eq : compF Go.Proofs.Tryz.prog [53, 67, 58] 18 = some (c_spec_DrawOverDo.ac, [(.cell 2 true 3), (.cell 3 true 4)], 21) := by kernel_rfl

theorem view_len {o : Over} : ((view4 o).getD []).length ≤ 16 := by
  cases hx : view4 o with
  | none => simp
  | some x => exact (tOk_at (view4_tOk hx)).1
theorem f_DrawOverDo (W0 : World) (c : Str) : FunW Go.Proofs.Tryz.prog W0 18 [.c (eCode c)] [] (fun x : Over × Op => OZ 80 x.1) (fun x => .tup [.c (eOver x.1), .c (eOp x.2)]) (fun _ => []) := by
  refine funW (c := c_spec_DrawOverDo) mixed c_spec_DrawOverDo_eq (by simp) rfl rfl fun hg => ?_
  refine dr ?_
  refine oW (f_l10Open W0 c) rfl trivial rfl rfl ⟨[], by simp⟩ fun s hs => ⟨rfl, ?_⟩
  refine dEr ?_
  refine oW (f_l4Some W0 s 0 hs (by omega)) rfl ⟨rfl, trivial⟩ rfl rfl ⟨(noO, 0), OS.no.oz.mono (by omega), by simp, by simp⟩ fun x hx => ⟨rfl, ?_⟩
  obtain ⟨o, q⟩ := x
  obtain ⟨a1, a2, a3⟩ : OZ 80 o ∧ 0 ≤ q ∧ q ≤ 0 + 640 := hx
  refine dEr ?_
  have hv := f_l4View W0 o
  have hvl := @view_len o
  rw [eEntsO_eq] at hv
  generalize (view4 o).getD [] = t at *
  refine dEr ?_
  repeat (refine c0 hv rfl ?_; first | refine dEr ?_ | exact dz)
  refine oW (f_l2Op W0 s q t hs (by omega) (by omega)) rfl ⟨rfl, trivial⟩ rfl rfl ⟨(⟨0, [], [], []⟩, q), by simp; omega⟩ fun x hx => ⟨rfl, ?_⟩
  obtain ⟨op, r⟩ := x
  refine dEr ?_
  refine ⟨none, _, _, ?_, (o, op), a1, rfl, rfl⟩
  refine dr ?_
  trivial


def c_spec_DrawOverFlat : XC := (.s (.r [.ex 2 (.alloc [.nil, .nil, .nil])]) (.s (.r [.mv 8 0, .ex 9 (.opn 53 [(.t 8)]), .mv 3 9]) (.s (.r [.mv 10 3, .ex 11 (.opn 54 [(.t 10)]), .ex 4 (.alloc [.nil, .nil, .nil]), .nu (.st 3 (.t 4) (.t 11))]) (.s (.s (.r [.mv 12 3, .ex 13 (.opn 55 [(.t 12), (.i 2)]), .ex 14 (.bin .add (.i 1) (.t 13)), .mv 5 14]) (.blk 0 (.loop (.s (.s (.r [.mv 15 5, .ex 16 (.bin .gtr (.t 15) (.i 0))]) (.cnd (.t 16) .skip (.exit 0))) (.s (.blk 1 (.s (.r [.ex 20 (.ld true 3 (.t 4)), .ex 21 (.call 56 [(.t 20)]), .mv 19 21, .ex 22 (.ext (.t 19) 0), .ex 23 (.ext (.t 19) 1), .nu (.st 3 (.t 4) (.t 22))]) (.s (.r [.ex 25 (.ld true 3 (.t 4)), .ex 26 (.call 57 [(.t 25)]), .mv 24 26, .ex 27 (.ext (.t 24) 0), .ex 28 (.ext (.t 24) 1), .ex 6 (.asn (.t 27) 3 59), .mv 7 28]) (.d [.exl 30 (.ld true 3 (.t 4)), .mv 31 3, .mv 32 6, .exl 33 (.opn 58 [(.t 31), (.t 32)]), .ex 34 (.call 20 [(.t 30), (.t 33)]), .mv 29 34, .ex 35 (.ext (.t 29) 0), .ex 36 (.ext (.t 29) 1), .nu (.st 3 (.t 4) (.t 35))])))) (.r [.mv 17 5, .ex 18 (.bin .sub (.t 17) (.i 1)), .mv 5 18])))))) (.s (.r [.mv 37 3, .ex 38 (.ld true 3 (.t 4)), .ex 39 (.opn 59 [(.t 37), (.t 38)]), .nu (.st 3 (.t 2) (.t 39))]) .ret)))))
theorem c_spec_DrawOverFlat_eq : compF Go.Proofs.Tryz.prog [53, 54, 55, 58, 59] 13 = some (c_spec_DrawOverFlat.ac, [(.cell 2 true 3)], 40) := by kernel_rfl

theorem f_DrawOverFlat (W0 : World) (c : Str) : FunW Go.Proofs.Tryz.prog W0 13 [.c (eCode c)] [] (fun x : Over => OZ 80 x) (fun x => .c (eOver x)) (fun _ => []) := by
  refine funW (c := c_spec_DrawOverFlat) mixed c_spec_DrawOverFlat_eq (by simp) rfl rfl fun hg => ?_
  refine dr ?_
  refine oW (f_l10Open W0 c) rfl trivial rfl rfl ⟨[], by simp⟩ fun s hs => ⟨rfl, ?_⟩
  refine dEr ?_
  refine oW (f_l4Over W0 s 0 hs (by omega)) rfl ⟨rfl, trivial⟩ rfl rfl ⟨(noO, 0), OS.no, by simp, by simp⟩ fun x hx => ⟨rfl, ?_⟩
  obtain ⟨o, q⟩ := x
  obtain ⟨a1, a2, a3⟩ : OS o ∧ 0 ≤ q ∧ q ≤ 0 + 600 := hx
  refine dEr ?_
  refine oW (f_pick W0 s q 2 hs (by omega) (by omega)) rfl ⟨rfl, trivial⟩ rfl rfl ⟨0, by omega, by omega⟩ fun n hn => ⟨rfl, ?_⟩
  have hn2 := hn.2 (by omega)
  have hn1 := hn.1
  refine dEr ?_
  refine lp3 (fun (o : Over) (i r : Int) => [(2, .ptr 32 0), (3, .ptr 1 0), (4, .ptr 64 0), (5, .c (CI i))]) (fun o _ r => [(1, rdB s r), (32, ni3), (64, ovB o)]) (fun o i r => OS o ∧ 0 ≤ i ∧ i ≤ 2 ∧ 0 ≤ r ∧ r ≤ 601 + 8 * (2 - i)) (fun _ i _ => i.toNat) o (1 + n) (q + 1) ⟨a1, by omega, by omega, by omega, by omega⟩ ?_ ?_
  · refine dr ?_
    trivial
  clear a1
  rintro o i r ⟨ho, hi1, hi2, hr1, hr2⟩
  refine dr ?_
  refine cP (fun h1 => ?_) (fun h1 => ?_)
  · have hp := @OS.push o
    have hv := f_l4View W0 (oPush o).1
    have hvl := @view_len (oPush o).1
    rw [eEntsO_eq] at hv
    generalize (view4 (oPush o).1).getD [] = t at *
    refine dEr ?_
    repeat ((first | refine c0 (f_spec_OverPush W0 o) rfl ?_ | refine c0 hv rfl ?_); first | refine dEr ?_ | exact dz)
    refine oW (f_l2Op W0 s r t hs (by omega) (by omega)) rfl ⟨rfl, trivial⟩ rfl rfl ⟨(⟨0, [], [], []⟩, r), by simp; omega⟩ fun x hx => ⟨rfl, ?_⟩
    obtain ⟨op, r2⟩ := x
    obtain ⟨hr3, hr4⟩ : r ≤ r2 ∧ r2 ≤ r + 8 := hx
    refine dEr ?_
    repeat (refine c0 (f_spec_OverDo W0 (oPush o).1 op) rfl ?_; first | refine dEr ?_ | exact dz)
    refine ⟨(oDo (oPush o).1 op).1, i - 1, r2, ⟨OS.do op, by omega, by omega, by omega, by omega⟩, by omega, ?_⟩
    refine dr ?_
    trivial
  · refine dr ?_
    refine oW (f_l4Bent W0 s r o 32 hs (by omega) ho.oz (by omega)) rfl ⟨rfl, trivial⟩ rfl rfl ⟨(noO, r), OS.no.oz.mono (by omega), by simp, by simp; omega⟩ fun x hx => ⟨rfl, ?_⟩
    obtain ⟨x, r3⟩ := x
    have b1 : OZ (32 + 40) x := hx.1
    refine dEr ?_
    refine ⟨none, _, _, ?_, x, b1.mono (by omega), rfl, rfl⟩
    refine dr ?_
    trivial


def c_spec_DrawOverSink : XC := (.s (.r [.ex 2 (.alloc [.nil, .nil, .nil])]) (.s (.r [.mv 3 0, .ex 4 (.opn 13 [(.t 3)]), .nu (.st 3 (.t 2) (.t 4))]) .ret))
theorem c_spec_DrawOverSink_eq : compF Go.Proofs.Tryz.prog [13] 24 = some (c_spec_DrawOverSink.ac, [(.cell 2 true 3)], 5) := by kernel_rfl

theorem f_DrawOverSink (W0 : World) (c : Str) : FunW Go.Proofs.Tryz.prog W0 24 [.c (eCode c)] [] (fun x : Over => OZ 80 x) (fun x => .c (eOver x)) (fun _ => []) := by
  refine funW (c := c_spec_DrawOverSink) mixed c_spec_DrawOverSink_eq (by simp) rfl rfl fun hg => ?_
  refine dr ?_
  refine oW (f_DrawOverFlat W0 c) rfl trivial rfl rfl ⟨noO, OS.no.oz.mono (by omega)⟩ fun x hx => ⟨rfl, ?_⟩
  refine dEr ?_
  refine ⟨none, _, _, ?_, x, hx, rfl, rfl⟩
  refine dr ?_
  trivial


end Go.Proofs.YthblflnfhdnpdaaGreatDoor
