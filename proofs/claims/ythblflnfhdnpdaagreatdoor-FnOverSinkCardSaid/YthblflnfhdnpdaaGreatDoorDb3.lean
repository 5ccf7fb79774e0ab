/- Contracts: the draws of layers; no condition. -/
import Derived.Test.YthblflnfhdnpdaaGreatDoorDb2
import Derived.Test.YthblflnfhdnpdaaGreatDoorPb5
namespace Go.Proofs.YthblflnfhdnpdaaGreatDoor
set_option linter.unusedSimpArgs false
set_option linter.unusedVariables false
open Go Go.RowKit


def c_spec_l3Layer : XC := (.s (.r [.ex 2 (.asn (.k .nil) 3 49)]) (.s (.r [.ex 7 .bsl0, .ex 3 (.asn (.t 7) 3 49)]) (.s (.s (.r [.mv 8 0, .ex 9 (.bsl 1 3 [(.i 3), (.i 5), (.i 8), (.i 2), (.i 1), (.i 0), (.i 12)]), .ex 10 (.opn 95 [(.t 8), (.t 9)]), .mv 4 10]) (.blk 0 (.loop (.s (.s (.r [.mv 11 4, .ex 12 (.bin .gtr (.t 11) (.i 0))]) (.cnd (.t 12) .skip (.exit 0))) (.s (.blk 1 (.s (.r [.mv 15 0, .ex 16 (.opn 139 [(.t 15)]), .mv 17 0, .ex 18 (.bsl 1 3 [(.i 1), (.i 2), (.i 3), (.i 4), (.i 1), (.i 3)]), .ex 19 (.opn 95 [(.t 17), (.t 18)]), .ex 20 (.build [(.c (.sc (.string ⟨#[]⟩))), (.c (.sc (.int .i64 0))), (.c (.sc (.string ⟨#[]⟩)))] [(0, (1, (.t 16))), (1, (1, (.t 19)))]), .ex 5 (.alloc [(.c (.sc (.string ⟨#[]⟩))), (.c (.sc (.int .i64 0))), (.c (.sc (.string ⟨#[]⟩)))]), .nu (.st 3 (.t 5) (.t 20))]) (.cut (.s (.r [.ex 21 (.fa 1 (.t 5)), .ex 22 (.ld false 1 (.t 21)), .ex 23 (.bin .eql (.t 22) (.i 1))]) (.cnd (.t 23) (.r [.mv 24 0, .ex 25 (.opn 140 [(.t 24)]), .ex 26 (.fa 2 (.t 5)), .nu (.st 1 (.t 26) (.t 25))]) .skip)) (.s (.r [.mv 27 3, .ex 28 (.ld true 3 (.t 5)), .ex 29 (.call 169 [(.t 27), (.t 28)]), .ex 6 (.asn (.t 29) 3 49)]) (.s (.s (.r [.mv 30 6, .ex 31 (.call 149 [(.t 30)])]) (.cnd (.t 31) (.s (.r [.mv 32 6, .ex 3 (.asn (.t 32) 3 49)]) (.exit 1)) .skip)) (.s (.r [.mv 33 6, .ex 34 (.fa 0 (.t 5)), .ex 35 (.ld false 1 (.t 34)), .ex 36 (.call 168 [(.t 33), (.t 35)]), .ex 6 (.asn (.t 36) 3 49)]) (.s (.r [.mv 37 6, .ex 38 (.call 149 [(.t 37)])]) (.cnd (.t 38) (.r [.mv 39 6, .ex 3 (.asn (.t 39) 3 49)]) .skip)))))))) (.r [.mv 13 4, .ex 14 (.bin .sub (.t 13) (.i 1)), .mv 4 14])))))) (.s (.r [.mv 40 3, .ex 2 (.asn (.t 40) 3 49)]) .ret))))
theorem c_spec_l3Layer_eq : compF Go.Proofs.Tryz.prog [95, 139, 140] 137 = some (c_spec_l3Layer.ac, [(.t 2)], 41) := by kernel_rfl

theorem drawn_ok : ∀ x ∈ drawnPaths, pOk x = true := by decide
theorem f_l3Layer (W0 : World) (s : Str) (p : Int) (hs : s.length ≤ 2000) (hp : 0 ≤ p ∧ p ≤ 50000) :
    FunW Go.Proofs.Tryz.prog W0 137 [.ptr 1 0] (Rd s p) (fun x : List Mark × Int => x.1.length ≤ 32 ∧ p ≤ x.2 ∧ x.2 ≤ p + 37) (fun x => .c (eMarks x.1)) (fun x => Rd s x.2) := by
  refine funW (c := c_spec_l3Layer) mixed c_spec_l3Layer_eq (by simp) rfl rfl fun hg => ?_
  refine dr ?_
  refine oW (f_num W0 s p [3, 5, 8, 2, 1, 0, 12] hs (by omega) (by decide)) rfl ⟨rfl, trivial⟩ rfl rfl ⟨0, by decide⟩ fun k hk => ⟨rfl, ?_⟩
  have hk2 : 0 ≤ k ∧ k ≤ 12 := by
    have : ∀ x ∈ ([3, 5, 8, 2, 1, 0, 12] : List Int), 0 ≤ x ∧ x ≤ 12 := by decide
    exact this k hk
  refine dEr ?_
  refine lz3 48 (fun (t : List Mark) (i q : Int) => [(0, .ptr 1 0), (3, .c (eMarks t)), (4, .c (CI i))]) (fun _ _ q => [(1, .box [.c (eCode s), .c (CI q)])]) (fun t i q => t.length ≤ 32 ∧ 0 ≤ i ∧ i ≤ 12 ∧ p ≤ q ∧ q ≤ p + 1 + 3 * (12 - i)) (fun _ i _ => i.toNat) [] k (p + 1) ⟨by simp, by omega, by omega, by omega, by omega⟩ ?_ ?_
  · refine dr ?_
    trivial
  rintro t i q ⟨h1, h2, h3, h4, h5⟩
  refine dr ?_
  refine cP (fun h6 => ?_) (fun h6 => ?_)
  rotate_left
  · refine dr ?_
    refine ⟨none, _, _, ?_, (t, q), ⟨by omega, by omega, by omega⟩, rfl, rfl⟩
    refine dr ?_
    trivial
  refine dr ?_
  refine oW (f_l1Path W0 s q hs (by omega)) rfl ⟨rfl, trivial⟩ rfl rfl ⟨_, List.mem_cons_self⟩ fun x hx => ⟨rfl, ?_⟩
  have hx1 := drawn_ok x hx
  refine dr ?_
  refine oW (f_num W0 s (q + 1) [1, 2, 3, 4, 1, 3] hs (by omega) (by decide)) rfl ⟨rfl, trivial⟩ rfl rfl ⟨1, by decide⟩ fun v hv => ⟨rfl, ?_⟩
  refine dEr ?_
  refine cutp2 (fun (m : Mark) (r : Int) => [(0, .ptr 1 0), (3, .c (eMarks t)), (4, .c (CI i)), (5, .ptr 80 0)]) (fun m r => [(1, .box [.c (eCode s), .c (CI r)]), (80, .box [.c (CS m.path), .c (CI m.kind), .c (CS m.data)])]) (fun m r => pOk m.path = true ∧ q ≤ r ∧ r ≤ q + 3) ?_ ?_
  · refine dr ?_
    refine cP (fun h7 => ?_) (fun h7 => ?_)
    · refine dr ?_
      refine oW (f_l2Some W0 s (q + 1 + 1) hs (by omega)) rfl ⟨rfl, trivial⟩ rfl rfl ⟨_, List.mem_cons_self⟩ fun y hy => ⟨rfl, ?_⟩
      refine dEr ?_
      refine ⟨⟨x, v, y⟩, q + 1 + 1 + 1, ⟨hx1, by omega, by omega⟩, ?_⟩
      refine dr ?_
      trivial
    · refine dr ?_
      refine ⟨⟨x, v, []⟩, q + 1 + 1, ⟨hx1, by omega, by omega⟩, ?_⟩
      refine dr ?_
      trivial
  rintro m r ⟨g1, g2, g3⟩
  have hpl : (lput t m).length ≤ t.length + 1 := putG_len
  have hu := f_l3Ups W0 3 (lput t m) m.path g1 (pOk_names g1).1.2 (by omega)
  refine dEr ?_
  repeat ((first | refine c0 (f_l3Put W0 t m (by omega)) rfl ?_ | refine c0 (f_spec_LayerOk W0 _) rfl ?_); first | refine dEr ?_ | exact dz)
  refine cP (fun h7 => ?_) (fun h7 => ?_)
  · refine dr ?_
    refine ⟨lput t m, i - 1, r, ⟨(lOk_iff.1 h7).1, by omega, by omega, by omega, by omega⟩, by omega, ?_⟩
    refine dr ?_
    trivial
  · refine dEr ?_
    repeat ((first | refine c0 hu rfl ?_ | refine c0 (f_spec_LayerOk W0 _) rfl ?_); first | refine dEr ?_ | exact dz)
    refine cP (fun h8 => ?_) (fun h8 => ?_)
    · refine dr ?_
      refine ⟨_, i - 1, r, ⟨(lOk_iff.1 h8).1, by omega, by omega, by omega, by omega⟩, by omega, ?_⟩
      refine dr ?_
      trivial
    · refine dr ?_
      refine ⟨t, i - 1, r, ⟨by omega, by omega, by omega, by omega, by omega⟩, by omega, ?_⟩
      refine dr ?_
      trivial


def c_spec_l3Bent : XC := (.s (.r [.ex 4 (.asn (.k .nil) 3 49)]) (.s (.r [.ex 8 .bsl0, .mv 9 1, .ex 10 (.app true 3 40 49 (.t 8) (.t 9)), .ex 5 (.asn (.t 10) 3 49)]) (.s (.r [.mv 11 5, .ex 12 (.len false (.t 11)), .mv 6 12]) (.s (.s (.r [.mv 13 6, .ex 14 (.bin .eql (.t 13) (.i 0))]) (.cnd (.t 14) (.s (.r [.mv 15 5, .ex 4 (.asn (.t 15) 3 49)]) .ret) .skip)) (.s (.r [.mv 16 0, .mv 17 6, .ex 18 (.opn 55 [(.t 16), (.t 17)]), .mv 7 18]) (.s (.s (.r [.mv 19 0, .ex 20 (.opn 55 [(.t 19), (.i 60)])]) (.blk 0 (.s (.r [.ex 22 (.bin .eql (.t 20) (.i 0)), .mv 21 22]) (.cnd (.t 21) (.r [.mv 23 5, .mv 24 7, .mv 25 0, .ex 26 (.bsl 1 3 [(.i 0), (.i 5), (.k (.c (.sc (.int .i64 (.negSucc 0))))), (.i 3), (.i 4)]), .ex 27 (.opn 95 [(.t 25), (.t 26)]), .ex 28 (.ia 3 (.t 23) (.t 24)), .ex 29 (.fa 1 (.t 28)), .nu (.st 1 (.t 29) (.t 27))]) (.s (.r [.ex 31 (.bin .eql (.t 20) (.i 1)), .mv 30 31]) (.cnd (.t 30) (.r [.mv 32 5, .mv 33 7, .mv 34 0, .ex 35 (.bsl 1 9 [(.s [47]), (.s [47, 65]), (.s [47, 99, 47, 99]), (.s [47, 97, 47, 98, 47, 99, 47, 100])]), .ex 36 (.opn 141 [(.t 34), (.t 35)]), .ex 37 (.ia 3 (.t 32) (.t 33)), .ex 38 (.fa 0 (.t 37)), .nu (.st 1 (.t 38) (.t 36))]) (.s (.r [.ex 40 (.bin .eql (.t 20) (.i 2)), .mv 39 40]) (.cnd (.t 39) (.r [.mv 41 5, .mv 42 7, .mv 43 0, .ex 44 (.bsl 1 9 [(.s [113]), (.s [65]), (.s [97, 98, 99, 100, 101, 102, 103])]), .ex 45 (.opn 141 [(.t 43), (.t 44)]), .ex 46 (.ia 3 (.t 41) (.t 42)), .ex 47 (.fa 2 (.t 46)), .nu (.st 1 (.t 47) (.t 45))]) (.s (.r [.ex 49 (.bin .eql (.t 20) (.i 3)), .mv 48 49]) (.cnd (.t 48) (.s (.r [.mv 50 5, .mv 51 5, .mv 52 7, .ex 53 (.ia 3 (.t 51) (.t 52)), .ex 54 (.ld true 3 (.t 53)), .ex 55 (.bsl 3 49 [(.t 54)]), .ex 56 (.app false 3 40 49 (.t 50) (.t 55)), .ex 4 (.asn (.t 56) 3 49)]) .ret) (.cut (.r [.ex 58 (.bin .eql (.t 20) (.i 4)), .mv 57 58]) (.cnd (.t 57) (.s (.r [.mv 59 5, .ex 60 (.slr 3 (.t 59) (.some (.i 1)) .none), .ex 4 (.asn (.t 60) 3 49)]) .ret) (.s (.r [.ex 62 (.bin .eql (.t 20) (.i 5)), .mv 61 62]) (.cnd (.t 61) (.s (.r [.mv 63 5, .ex 64 (.build [(.c (.sc (.string ⟨#[]⟩))), (.c (.sc (.int .i64 0))), (.c (.sc (.string ⟨#[]⟩)))] [(0, (1, (.s [47, 122, 122, 47, 122]))), (1, (1, (.i 1)))]), .ex 65 (.bsl 3 49 [(.t 64)]), .ex 66 (.app false 3 40 49 (.t 63) (.t 65)), .ex 4 (.asn (.t 66) 3 49)]) .ret) .skip)))))))))))))) (.s (.r [.mv 67 5, .ex 4 (.asn (.t 67) 3 49)]) .ret)))))))
theorem c_spec_l3Bent_eq : compF Go.Proofs.Tryz.prog [55, 141, 95] 143 = some (c_spec_l3Bent.ac, [(.t 4)], 68) := by kernel_rfl

theorem f_l3Bent (W0 : World) (s : Str) (p : Int) (t : List Mark) (hs : s.length ≤ 2000) (hp : 0 ≤ p ∧ p ≤ 100000) (ht : t.length ≤ 100000) :
    FunW Go.Proofs.Tryz.prog W0 143 [.ptr 1 0, .c (eMarks t)] (Rd s p) (fun x : List Mark × Int => x.1.length ≤ t.length + 1 ∧ p ≤ x.2 ∧ x.2 ≤ p + 3) (fun x => .c (eMarks x.1)) (fun x => Rd s x.2) := by
  refine funW (c := c_spec_l3Bent) mixed c_spec_l3Bent_eq (by simp) rfl rfl fun hg => ?_
  refine dr ?_
  repeat ((first | refine oB (by simp; omega) ?_ | refine oB (by simp) ?_); first | refine dr ?_ | exact dz)
  refine cP (fun h1 => ?_) (fun h1 => ?_)
  · refine dr ?_
    refine ⟨some 160, _, _, ?_, (t, p), ⟨by simp, by omega, by omega⟩, rfl, rfl⟩
    refine dr ?_
    repeat (refine oB (by simp <;> rfl) ?_; first | refine dr ?_ | exact dz)
    trivial
  have ht0 : 0 < t.length := by omega
  refine dr ?_
  refine oW (f_pick W0 s p t.length hs (by omega) (by omega)) rfl ⟨rfl, trivial⟩ rfl rfl ⟨0, by omega, by omega⟩ fun k hk => ⟨rfl, ?_⟩
  obtain ⟨k, rfl⟩ : ∃ j : Nat, k = j := ⟨k.toNat, by omega⟩
  have hk' : k < t.length := by have := hk.2 (by omega); omega
  refine dEr ?_
  refine oW (f_pick W0 s (p + 1) 60 hs (by omega) (by omega)) rfl ⟨rfl, trivial⟩ rfl rfl ⟨0, by omega, by omega⟩ fun v hv => ⟨rfl, ?_⟩
  refine dEr ?_
  refine cP (fun h2 => ?_) (fun h2 => ?_)
  · refine dr ?_
    refine oW (f_num W0 s (p + 1 + 1) [0, 5, -1, 3, 4] hs (by omega) (by decide)) rfl ⟨rfl, trivial⟩ rfl rfl ⟨0, by decide⟩ fun y hy => ⟨rfl, ?_⟩
    refine dEr ?_
    repeat (refine oB lset ?_; first | refine dEr ?_ | exact dz)
    refine ⟨some 160, _, _, ?_, (t.set k ⟨t[k].path, y, t[k].data⟩, p + 1 + 1 + 1), ⟨by simp, by omega, by omega⟩, rfl, rfl⟩
    refine dr ?_
    repeat ((first | refine oB lset ?_ | refine oB rset ?_); first | refine dr ?_ | exact dz)
    trivial
  refine dr ?_
  refine cP (fun h3 => ?_) (fun h3 => ?_)
  · refine dr ?_
    refine oW (f_of W0 s (p + 1 + 1) [[47], [47, 65], [47, 99, 47, 99], [47, 97, 47, 98, 47, 99, 47, 100]] hs (by omega) (by decide)) rfl ⟨rfl, trivial⟩ rfl rfl ⟨_, List.mem_cons_self⟩ fun y hy => ⟨rfl, ?_⟩
    refine dEr ?_
    repeat (refine oB lset ?_; first | refine dEr ?_ | exact dz)
    refine ⟨some 160, _, _, ?_, (t.set k ⟨y, t[k].kind, t[k].data⟩, p + 1 + 1 + 1), ⟨by simp, by omega, by omega⟩, rfl, rfl⟩
    refine dr ?_
    repeat ((first | refine oB lset ?_ | refine oB rset ?_); first | refine dr ?_ | exact dz)
    trivial
  refine dr ?_
  refine cP (fun h4 => ?_) (fun h4 => ?_)
  · refine dr ?_
    refine oW (f_of W0 s (p + 1 + 1) [[113], [65], [97, 98, 99, 100, 101, 102, 103]] hs (by omega) (by decide)) rfl ⟨rfl, trivial⟩ rfl rfl ⟨_, List.mem_cons_self⟩ fun y hy => ⟨rfl, ?_⟩
    refine dEr ?_
    repeat (refine oB lset ?_; first | refine dEr ?_ | exact dz)
    refine ⟨some 160, _, _, ?_, (t.set k ⟨t[k].path, t[k].kind, y⟩, p + 1 + 1 + 1), ⟨by simp, by omega, by omega⟩, rfl, rfl⟩
    refine dr ?_
    repeat ((first | refine oB lset ?_ | refine oB rset ?_); first | refine dr ?_ | exact dz)
    trivial
  refine dr ?_
  refine cP (fun h5 => ?_) (fun h5 => ?_)
  · refine dr ?_
    repeat ((first | refine oB (by simp; omega) ?_ | refine oB (by simp) ?_); first | refine dr ?_ | exact dz)
    refine ⟨some 160, _, _, ?_, (t ++ [t[k]], p + 1 + 1), ⟨by simp, by omega, by omega⟩, rfl, rfl⟩
    refine dr ?_
    repeat ((first | refine oB lapp ?_ | refine oB rapp ?_); first | refine dr ?_ | exact dz)
    trivial
  refine dr ?_
  by_cases hv4 : v = 4
  · refine cutz (σ := Unit) 160 (fun _ => [(5, .c (eMarks t)), (57, .c (CB (eqI v 4)))]) (fun _ => [(1, .box [.c (eCode s), .c (CI (p + 1 + 1))])]) (fun _ => True) ?_ fun b _ => ?_
    · refine dr ?_
      refine ⟨(), trivial, ?_⟩
      refine dr ?_
      repeat (refine oB (by simp <;> rfl) ?_; first | refine dr ?_ | exact dz)
      trivial
    refine dr ?_
    refine cP (fun h6 => ?_) (fun h6 => ?_)
    · refine dr ?_
      repeat (refine sLoM 1 rfl (by omega) ?_; first | refine dr ?_ | exact dz)
      refine ⟨none, _, _, ?_, (t.drop 1, p + 1 + 1), ⟨by simp; omega, by omega, by omega⟩, rfl, rfl⟩
      refine dr ?_
      trivial
    · exact absurd hv4 h6
  · refine cutp (σ := Unit) (fun _ => [(5, .own 160 t.length), (20, .c (CI v)), (57, .c (CB (eqI v 4)))]) (fun _ => [(1, .box [.c (eCode s), .c (CI (p + 1 + 1))]), (160, .row (t.map eMark) 3 49)]) (fun _ => True) ?_ fun b _ => ?_
    · refine dr ?_
      refine ⟨(), trivial, ?_⟩
      refine dr ?_
      trivial
    refine dr ?_
    refine cP (fun h6 => ?_) (fun h6 => ?_)
    · exact absurd h6 hv4
    refine dr ?_
    refine cP (fun h7 => ?_) (fun h7 => ?_)
    · refine dr ?_
      repeat ((first | refine oB (by simp; omega) ?_ | refine oB (by simp) ?_); first | refine dr ?_ | exact dz)
      refine ⟨some 160, _, _, ?_, (t ++ [⟨[47, 122, 122, 47, 122], 1, []⟩], p + 1 + 1), ⟨by simp, by omega, by omega⟩, rfl, rfl⟩
      refine dr ?_
      repeat ((first | refine oB lapp ?_ | refine oB (rapp (f := eMark) (x := ⟨[47, 122, 122, 47, 122], 1, []⟩)) ?_); first | refine dr ?_ | exact dz)
      trivial
    · refine dr ?_
      refine ⟨some 160, _, _, ?_, (t, p + 1 + 1), ⟨by simp, by omega, by omega⟩, rfl, rfl⟩
      refine dr ?_
      repeat (refine oB (by simp <;> rfl) ?_; first | refine dr ?_ | exact dz)
      trivial


end Go.Proofs.YthblflnfhdnpdaaGreatDoor
