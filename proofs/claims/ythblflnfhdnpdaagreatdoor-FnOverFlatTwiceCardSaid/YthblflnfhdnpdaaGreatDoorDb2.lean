/- Contracts: the draws of trees and of what is done to them; no condition. -/
import Derived.Test.YthblflnfhdnpdaaGreatDoorDb1
namespace Go.Proofs.YthblflnfhdnpdaaGreatDoor
set_option linter.unusedSimpArgs false
set_option linter.unusedVariables false
open Go Go.RowKit


def c_spec_l2Op : XC := (.s (.r [.ex 4 (.alloc [(.c (.sc (.int .i64 0))), (.c (.sc (.string ⟨#[]⟩))), (.c (.sc (.string ⟨#[]⟩))), (.c (.sc (.string ⟨#[]⟩)))])]) (.s (.r [.mv 6 0, .ex 7 (.bsl 1 3 [(.i 1), (.i 2), (.i 2), (.i 3), (.i 4), (.i 5), (.i 1), (.i 5)]), .ex 8 (.opn 95 [(.t 6), (.t 7)]), .mv 9 0, .ex 10 (.opn 139 [(.t 9)]), .ex 11 (.build [(.c (.sc (.int .i64 0))), (.c (.sc (.string ⟨#[]⟩))), (.c (.sc (.string ⟨#[]⟩))), (.c (.sc (.string ⟨#[]⟩)))] [(0, (1, (.t 8))), (1, (1, (.t 10)))]), .ex 5 (.alloc [(.c (.sc (.int .i64 0))), (.c (.sc (.string ⟨#[]⟩))), (.c (.sc (.string ⟨#[]⟩))), (.c (.sc (.string ⟨#[]⟩)))]), .nu (.st 4 (.t 5) (.t 11))]) (.cut (.s (.r [.mv 12 1, .ex 13 (.len false (.t 12)), .ex 14 (.bin .gtr (.t 13) (.i 0)), .mv 15 14, .gt 16 (.fa 0 (.t 5)) 15, .gt 17 (.ld false 1 (.t 16)) 15, .gt 18 (.bin .gtr (.t 17) (.i 2)) 15, .ex 19 (.pick (.t 15) (.t 18) .n), .mv 20 19, .gt 21 (.mv (.t 0)) 20, .gt 22 (.opn 55 [(.t 21), (.i 4)]) 20, .gt 23 (.bin .gtr (.t 22) (.i 0)) 20, .ex 24 (.pick (.t 20) (.t 23) .n)]) (.cnd (.t 24) (.r [.mv 25 1, .mv 26 0, .mv 27 1, .ex 28 (.len false (.t 27)), .ex 29 (.opn 55 [(.t 26), (.t 28)]), .ex 30 (.ia 3 (.t 25) (.t 29)), .ex 31 (.fa 0 (.t 30)), .ex 32 (.ld false 1 (.t 31)), .ex 33 (.fa 1 (.t 5)), .nu (.st 1 (.t 33) (.t 32))]) .skip)) (.cut (.s (.r [.ex 34 (.fa 0 (.t 5)), .ex 35 (.ld false 1 (.t 34)), .ex 36 (.bin .eql (.t 35) (.i 2))]) (.cnd (.t 36) (.r [.mv 37 0, .ex 38 (.opn 140 [(.t 37)]), .ex 39 (.fa 3 (.t 5)), .nu (.st 1 (.t 39) (.t 38))]) .skip)) (.cut (.s (.r [.ex 40 (.fa 0 (.t 5)), .ex 41 (.ld false 1 (.t 40)), .ex 42 (.bin .eql (.t 41) (.i 5))]) (.cnd (.t 42) (.r [.mv 43 0, .ex 44 (.opn 139 [(.t 43)]), .ex 45 (.fa 2 (.t 5)), .nu (.st 1 (.t 45) (.t 44))]) .skip)) (.cut (.s (.r [.mv 46 0, .ex 47 (.opn 55 [(.t 46), (.i 50)])]) (.blk 0 (.s (.r [.ex 49 (.bin .eql (.t 47) (.i 0)), .mv 48 49]) (.cnd (.t 48) (.r [.mv 50 0, .ex 51 (.bsl 1 3 [(.i 0), (.i 6), (.k (.c (.sc (.int .i64 (.negSucc 0))))), (.i 1)]), .ex 52 (.opn 95 [(.t 50), (.t 51)]), .ex 53 (.fa 0 (.t 5)), .nu (.st 1 (.t 53) (.t 52))]) (.s (.r [.ex 55 (.bin .eql (.t 47) (.i 1)), .mv 54 55]) (.cnd (.t 54) (.r [.mv 56 0, .ex 57 (.bsl 1 9 [(.s [47]), (.s []), (.s [47, 65]), (.s [47, 97, 47, 98, 47, 99, 47, 100])]), .ex 58 (.opn 141 [(.t 56), (.t 57)]), .ex 59 (.fa 1 (.t 5)), .nu (.st 1 (.t 59) (.t 58))]) (.s (.r [.ex 61 (.bin .eql (.t 47) (.i 2)), .mv 60 61]) (.cnd (.t 60) (.r [.mv 62 0, .ex 63 (.bsl 1 9 [(.s [47]), (.s [47, 97]), (.s [47, 99, 47, 99, 47, 99]), (.s [])]), .ex 64 (.opn 141 [(.t 62), (.t 63)]), .ex 65 (.fa 2 (.t 5)), .nu (.st 1 (.t 65) (.t 64))]) (.s (.r [.ex 67 (.bin .eql (.t 47) (.i 3)), .mv 66 67]) (.cnd (.t 66) (.r [.mv 68 0, .ex 69 (.bsl 1 9 [(.s [113]), (.s [65]), (.s [97, 98, 99, 100, 101, 102, 103]), (.s [97, 98, 99, 100, 101, 102])]), .ex 70 (.opn 141 [(.t 68), (.t 69)]), .ex 71 (.fa 3 (.t 5)), .nu (.st 1 (.t 71) (.t 70))]) .skip)))))))))) (.s (.r [.ex 72 (.ld true 4 (.t 5)), .nu (.st 4 (.t 4) (.t 72))]) .ret)))))))
theorem c_spec_l2Op_eq : compF Go.Proofs.Tryz.prog [55, 95, 141, 139, 140] 58 = some (c_spec_l2Op.ac, [(.cell 4 true 4)], 73) := by kernel_rfl

theorem f_l2Op (W0 : World) (s : Str) (p : Int) (t : List Ent) (hs : s.length ≤ 2000) (hp : 0 ≤ p ∧ p ≤ 100000) (ht : t.length ≤ 100000) :
    FunW Go.Proofs.Tryz.prog W0 58 [.ptr 1 0, .c (eEnts t)] (Rd s p) (fun x : Op × Int => p ≤ x.2 ∧ x.2 ≤ p + 8) (fun x => .c (eOp x.1)) (fun x => Rd s x.2) := by
  refine funW (c := c_spec_l2Op) mixed c_spec_l2Op_eq (by simp) rfl rfl fun hg => ?_
  refine dr ?_
  refine oW (f_num W0 s p [1, 2, 2, 3, 4, 5, 1, 5] hs (by omega) (by decide)) rfl ⟨rfl, trivial⟩ rfl rfl ⟨1, by decide⟩ fun k hk => ⟨rfl, ?_⟩
  refine dr ?_
  refine oW (f_l1Path W0 s (p + 1) hs (by omega)) rfl ⟨rfl, trivial⟩ rfl rfl ⟨_, List.mem_cons_self⟩ fun x hx => ⟨rfl, ?_⟩
  refine dEr ?_
  refine cutp2 (fun (o : Op) (q : Int) => [(0, .ptr 1 0), (4, .ptr 64 0), (5, .ptr 80 0)]) (fun o q => [(1, .box [.c (eCode s), .c (CI q)]), (64, .box [.c (CI 0), .c (CS []), .c (CS []), .c (CS [])]), (80, .box [.c (CI o.kind), .c (CS o.path), .c (CS o.dest), .c (CS o.data)])]) (fun o q => p ≤ q ∧ q ≤ p + 4) ?_ ?_
  · refine dr ?_
    refine cP (fun h1 => ?_) (fun h1 => ?_)
    · refine dr ?_
      refine cP (fun h2 => ?_) (fun h2 => ?_)
      · refine dr ?_
        refine oW (f_pick W0 s (p + 1 + 1) 4 hs (by omega) (by omega)) rfl ⟨rfl, trivial⟩ rfl rfl ⟨0, by omega, by omega⟩ fun k1 hk1 => ⟨rfl, ?_⟩
        refine dEr ?_
        refine cP (fun h3 => ?_) (fun h3 => ?_)
        · refine dEr ?_
          refine oW (f_pick W0 s (p + 1 + 1 + 1) t.length hs (by omega) (by omega)) rfl ⟨rfl, trivial⟩ rfl rfl ⟨0, by omega, by omega⟩ fun k2 hk2 => ⟨rfl, ?_⟩
          refine dEr ?_
          repeat (refine aX hk2.1 (hk2.2 (by omega)) fun e he => ?_; first | refine dEr ?_ | exact dz)
          refine ⟨⟨k, e.path, [], []⟩, p + 1 + 1 + 1 + 1, ⟨by omega, by omega⟩, ?_⟩
          refine dr ?_
          trivial
        · refine dEr ?_
          refine ⟨⟨k, x, [], []⟩, p + 1 + 1 + 1, ⟨by omega, by omega⟩, ?_⟩
          refine dr ?_
          trivial
      · refine dr ?_
        refine ⟨⟨k, x, [], []⟩, p + 1 + 1, ⟨by omega, by omega⟩, ?_⟩
        refine dr ?_
        trivial
    · refine dr ?_
      refine ⟨⟨k, x, [], []⟩, p + 1 + 1, ⟨by omega, by omega⟩, ?_⟩
      refine dr ?_
      trivial
  rintro o q ⟨hq1, hq2⟩
  refine dr ?_
  refine cutp2 (fun (o : Op) (q : Int) => [(0, .ptr 1 0), (4, .ptr 64 0), (5, .ptr 80 0)]) (fun o q => [(1, .box [.c (eCode s), .c (CI q)]), (64, .box [.c (CI 0), .c (CS []), .c (CS []), .c (CS [])]), (80, .box [.c (CI o.kind), .c (CS o.path), .c (CS o.dest), .c (CS o.data)])]) (fun o q => p ≤ q ∧ q ≤ p + 5) ?_ ?_
  · refine dr ?_
    refine cP (fun h1 => ?_) (fun h1 => ?_)
    · refine dr ?_
      refine oW (f_l2Some W0 s q hs (by omega)) rfl ⟨rfl, trivial⟩ rfl rfl ⟨_, List.mem_cons_self⟩ fun y hy => ⟨rfl, ?_⟩
      refine dEr ?_
      refine ⟨⟨o.kind, o.path, o.dest, y⟩, q + 1, ⟨by omega, by omega⟩, ?_⟩
      refine dr ?_
      trivial
    · refine dr ?_
      refine ⟨o, q, ⟨by omega, by omega⟩, ?_⟩
      refine dr ?_
      trivial
  rintro o q ⟨hq1, hq2⟩
  refine dr ?_
  refine cutp2 (fun (o : Op) (q : Int) => [(0, .ptr 1 0), (4, .ptr 64 0), (5, .ptr 80 0)]) (fun o q => [(1, .box [.c (eCode s), .c (CI q)]), (64, .box [.c (CI 0), .c (CS []), .c (CS []), .c (CS [])]), (80, .box [.c (CI o.kind), .c (CS o.path), .c (CS o.dest), .c (CS o.data)])]) (fun o q => p ≤ q ∧ q ≤ p + 6) ?_ ?_
  · refine dr ?_
    refine cP (fun h1 => ?_) (fun h1 => ?_)
    · refine dr ?_
      refine oW (f_l1Path W0 s q hs (by omega)) rfl ⟨rfl, trivial⟩ rfl rfl ⟨_, List.mem_cons_self⟩ fun y hy => ⟨rfl, ?_⟩
      refine dEr ?_
      refine ⟨⟨o.kind, o.path, y, o.data⟩, q + 1, ⟨by omega, by omega⟩, ?_⟩
      refine dr ?_
      trivial
    · refine dr ?_
      refine ⟨o, q, ⟨by omega, by omega⟩, ?_⟩
      refine dr ?_
      trivial
  rintro o q ⟨hq1, hq2⟩
  refine dr ?_
  refine cutp2 (fun (o : Op) (q : Int) => [(0, .ptr 1 0), (4, .ptr 64 0), (5, .ptr 80 0)]) (fun o q => [(1, .box [.c (eCode s), .c (CI q)]), (64, .box [.c (CI 0), .c (CS []), .c (CS []), .c (CS [])]), (80, .box [.c (CI o.kind), .c (CS o.path), .c (CS o.dest), .c (CS o.data)])]) (fun o q => p ≤ q ∧ q ≤ p + 8) ?_ ?_
  · refine dr ?_
    refine oW (f_pick W0 s q 50 hs (by omega) (by omega)) rfl ⟨rfl, trivial⟩ rfl rfl ⟨0, by omega, by omega⟩ fun v hv => ⟨rfl, ?_⟩
    refine dEr ?_
    refine cP (fun h1 => ?_) (fun h1 => ?_)
    · refine dr ?_
      refine oW (f_num W0 s (q + 1) [0, 6, -1, 1] hs (by omega) (by decide)) rfl ⟨rfl, trivial⟩ rfl rfl ⟨0, by decide⟩ fun y hy => ⟨rfl, ?_⟩
      refine dEr ?_
      refine ⟨⟨y, o.path, o.dest, o.data⟩, q + 1 + 1, ⟨by omega, by omega⟩, ?_⟩
      refine dr ?_
      trivial
    refine dr ?_
    refine cP (fun h2 => ?_) (fun h2 => ?_)
    · refine dr ?_
      refine oW (f_of W0 s (q + 1) [[47], [], [47, 65], [47, 97, 47, 98, 47, 99, 47, 100]] hs (by omega) (by decide)) rfl ⟨rfl, trivial⟩ rfl rfl ⟨_, List.mem_cons_self⟩ fun y hy => ⟨rfl, ?_⟩
      refine dEr ?_
      refine ⟨⟨o.kind, y, o.dest, o.data⟩, q + 1 + 1, ⟨by omega, by omega⟩, ?_⟩
      refine dr ?_
      trivial
    refine dr ?_
    refine cP (fun h3 => ?_) (fun h3 => ?_)
    · refine dr ?_
      refine oW (f_of W0 s (q + 1) [[47], [47, 97], [47, 99, 47, 99, 47, 99], []] hs (by omega) (by decide)) rfl ⟨rfl, trivial⟩ rfl rfl ⟨_, List.mem_cons_self⟩ fun y hy => ⟨rfl, ?_⟩
      refine dEr ?_
      refine ⟨⟨o.kind, o.path, y, o.data⟩, q + 1 + 1, ⟨by omega, by omega⟩, ?_⟩
      refine dr ?_
      trivial
    refine dr ?_
    refine cP (fun h4 => ?_) (fun h4 => ?_)
    · refine dr ?_
      refine oW (f_of W0 s (q + 1) [[113], [65], [97, 98, 99, 100, 101, 102, 103], [97, 98, 99, 100, 101, 102]] hs (by omega) (by decide)) rfl ⟨rfl, trivial⟩ rfl rfl ⟨_, List.mem_cons_self⟩ fun y hy => ⟨rfl, ?_⟩
      refine dEr ?_
      refine ⟨⟨o.kind, o.path, o.dest, y⟩, q + 1 + 1, ⟨by omega, by omega⟩, ?_⟩
      refine dr ?_
      trivial
    refine dr ?_
    refine ⟨o, q + 1, ⟨by omega, by omega⟩, ?_⟩
    refine dr ?_
    trivial
  rintro o q ⟨hq1, hq2⟩
  refine dr ?_
  refine ⟨none, _, _, ?_, (o, q), ⟨by omega, by omega⟩, rfl, rfl⟩
  refine dr ?_
  trivial


def c_spec_l2Tree : XC := (.s (.r [.ex 2 (.asn (.k .nil) 3 59)]) (.s (.r [.ex 6 .bsl0, .ex 3 (.asn (.t 6) 3 59)]) (.s (.s (.r [.mv 7 0, .ex 8 (.bsl 1 3 [(.i 6), (.i 12), (.i 18), (.i 24), (.i 30), (.i 3), (.i 0)]), .ex 9 (.opn 95 [(.t 7), (.t 8)]), .mv 4 9]) (.blk 0 (.loop (.s (.s (.r [.mv 10 4, .ex 11 (.bin .gtr (.t 10) (.i 0))]) (.cnd (.t 11) .skip (.exit 0))) (.s (.blk 1 (.r [.mv 15 3, .mv 16 0, .mv 17 3, .ex 18 (.opn 58 [(.t 16), (.t 17)]), .ex 19 (.call 70 [(.t 15), (.t 18)]), .mv 14 19, .ex 20 (.ext (.t 14) 0), .ex 21 (.ext (.t 14) 1), .ex 3 (.asn (.t 20) 3 59)])) (.r [.mv 12 4, .ex 13 (.bin .sub (.t 12) (.i 1)), .mv 4 13])))))) (.s (.s (.r [.mv 22 0, .ex 23 (.opn 55 [(.t 22), (.i 20)]), .ex 24 (.bin .eql (.t 23) (.i 0))]) (.cnd (.t 24) (.s (.r [.ex 5 (.mv (.i 0))]) (.blk 2 (.loop (.s (.s (.r [.mv 25 5, .ex 26 (.bin .lss (.t 25) (.i 26)), .mv 27 26, .gt 28 (.mv (.t 3)) 27, .gt 29 (.len false (.t 28)) 27, .gt 30 (.bin .lss (.t 29) (.i 16)) 27, .ex 31 (.pick (.t 27) (.t 30) .n)]) (.cnd (.t 31) .skip (.exit 2))) (.s (.blk 3 (.r [.mv 35 3, .mv 36 5, .ex 37 (.bin .add (.i 97) (.t 36)), .ex 38 (.conv .u8 (.t 37)), .ex 39 (.bsl 1 5 [(.t 38)]), .ex 40 (.b2s (.t 39)), .ex 41 (.bin .add (.s [47, 122]) (.t 40)), .ex 42 (.build [(.c (.sc (.int .i64 0))), (.c (.sc (.string ⟨#[]⟩))), (.c (.sc (.string ⟨#[]⟩))), (.c (.sc (.string ⟨#[]⟩)))] [(0, (1, (.i 2))), (1, (1, (.t 41)))]), .ex 43 (.call 70 [(.t 35), (.t 42)]), .mv 34 43, .ex 44 (.ext (.t 34) 0), .ex 45 (.ext (.t 34) 1), .ex 3 (.asn (.t 44) 3 59)])) (.r [.mv 32 5, .ex 33 (.bin .add (.t 32) (.i 1)), .mv 5 33])))))) .skip)) (.s (.r [.mv 46 3, .ex 2 (.asn (.t 46) 3 59)]) .ret)))))
theorem c_spec_l2Tree_eq : compF Go.Proofs.Tryz.prog [58, 55, 95] 136 = some (c_spec_l2Tree.ac, [(.t 2)], 47) := by kernel_rfl

theorem f_l2Tree (W0 : World) (s : Str) (p : Int) (hs : s.length ≤ 2000) (hp : 0 ≤ p ∧ p ≤ 50000) :
    FunW Go.Proofs.Tryz.prog W0 136 [.ptr 1 0] (Rd s p) (fun x : List Ent × Int => x.1.length ≤ 17 ∧ p ≤ x.2 ∧ x.2 ≤ p + 242) (fun x => .c (eEnts x.1)) (fun x => Rd s x.2) := by
  refine funW (c := c_spec_l2Tree) mixed c_spec_l2Tree_eq (by simp) rfl rfl fun hg => ?_
  refine dr ?_
  refine oW (f_num W0 s p [6, 12, 18, 24, 30, 3, 0] hs (by omega) (by decide)) rfl ⟨rfl, trivial⟩ rfl rfl ⟨0, by decide⟩ fun k hk => ⟨rfl, ?_⟩
  have hk2 : 0 ≤ k ∧ k ≤ 30 := by
    have : ∀ x ∈ ([6, 12, 18, 24, 30, 3, 0] : List Int), 0 ≤ x ∧ x ≤ 30 := by decide
    exact this k hk
  refine dEr ?_
  refine lz3 48 (fun (t : List Ent) (i q : Int) => [(0, .ptr 1 0), (3, .c (eEnts t)), (4, .c (CI i))]) (fun _ _ q => [(1, .box [.c (eCode s), .c (CI q)])]) (fun t i q => t.length ≤ 17 ∧ 0 ≤ i ∧ i ≤ 30 ∧ p ≤ q ∧ q ≤ p + 1 + 8 * (30 - i)) (fun _ i _ => i.toNat) [] k (p + 1) ⟨by simp, by omega, by omega, by omega, by omega⟩ ?_ ?_
  · refine dr ?_
    trivial
  rintro t i q ⟨h1, h2, h3, h4, h5⟩
  refine dr ?_
  refine cP (fun h6 => ?_) (fun h6 => ?_)
  · refine dr ?_
    refine oW (f_l2Op W0 s q t hs (by omega) (by omega)) rfl ⟨rfl, trivial⟩ rfl rfl ⟨(⟨0, [], [], []⟩, q), by omega, by omega⟩ fun x hx => ⟨rfl, ?_⟩
    obtain ⟨o, q2⟩ := x
    have hx1 : q ≤ q2 := hx.1
    have hx2 : q2 ≤ q + 8 := hx.2
    refine dEr ?_
    repeat (refine c0 (f_spec_TreeDo W0 t o) rfl ?_; first | refine dEr ?_ | exact dz)
    refine ⟨(treeDo t o).1, i - 1, q2, ⟨treeDo_len, by omega, by omega, by omega, by omega⟩, by omega, ?_⟩
    refine dr ?_
    trivial
  refine dr ?_
  refine oW (f_pick W0 s q 20 hs (by omega) (by omega)) rfl ⟨rfl, trivial⟩ rfl rfl ⟨0, by omega, by omega⟩ fun v hv => ⟨rfl, ?_⟩
  refine dEr ?_
  refine cP (fun h7 => ?_) (fun h7 => ?_)
  · refine dr ?_
    refine lp2 (fun (t : List Ent) (j : Nat) => [(0, .ptr 1 0), (3, .c (eEnts t)), (5, I j)]) (fun _ _ => [(1, .box [.c (eCode s), .c (CI (q + 1))])]) (fun t j => t.length ≤ 17 ∧ j ≤ 26) (fun _ j => 26 - j) t 0 ⟨by omega, by omega⟩ ?_ ?_
    · refine dr ?_
      trivial
    rintro t j ⟨g1, g2⟩
    refine dr ?_
    refine cP (fun h8 => ?_) (fun h8 => ?_)
    · refine dr ?_
      refine cP (fun h9 => ?_) (fun h9 => ?_)
      · refine dEr ?_
        repeat ((first | refine c0 (f_spec_TreeDo W0 t ⟨2, _, [], []⟩) rfl ?_ | refine oB (by simp) ?_); first | refine dEr ?_ | exact dz)
        refine ⟨(treeDo t ⟨2, [47, 122] ++ [UInt8.ofNat (97 + (j : Int)).toNat], [], []⟩).1, j + 1, ⟨treeDo_len, by omega⟩, by omega, ?_⟩
        refine dr ?_
        trivial
      · refine dr ?_
        refine ⟨none, _, _, ?_, (t, q + 1), ⟨by omega, by omega, by omega⟩, rfl, rfl⟩
        refine dr ?_
        trivial
    · refine dr ?_
      refine ⟨none, _, _, ?_, (t, q + 1), ⟨by omega, by omega, by omega⟩, rfl, rfl⟩
      refine dr ?_
      trivial
  · refine dr ?_
    refine ⟨none, _, _, ?_, (t, q + 1), ⟨by omega, by omega, by omega⟩, rfl, rfl⟩
    refine dr ?_
    trivial


def c_spec_l2Bent : XC := (.s (.r [.ex 4 (.asn (.k .nil) 3 59)]) (.s (.r [.ex 8 .bsl0, .mv 9 1, .ex 10 (.app true 3 40 59 (.t 8) (.t 9)), .ex 5 (.asn (.t 10) 3 59)]) (.s (.r [.mv 11 5, .ex 12 (.len false (.t 11)), .mv 6 12]) (.s (.s (.r [.mv 13 6, .ex 14 (.bin .eql (.t 13) (.i 0))]) (.cnd (.t 14) (.s (.r [.mv 15 5, .ex 4 (.asn (.t 15) 3 59)]) .ret) .skip)) (.s (.r [.mv 16 0, .mv 17 6, .ex 18 (.opn 55 [(.t 16), (.t 17)]), .mv 7 18]) (.s (.s (.r [.mv 19 0, .ex 20 (.opn 55 [(.t 19), (.i 50)])]) (.blk 0 (.s (.r [.ex 22 (.bin .eql (.t 20) (.i 0)), .mv 21 22]) (.cnd (.t 21) (.s (.r [.mv 23 5, .mv 24 5, .mv 25 7, .ex 26 (.ia 3 (.t 24) (.t 25)), .ex 27 (.ld true 3 (.t 26)), .ex 28 (.bsl 3 59 [(.t 27)]), .ex 29 (.app false 3 40 59 (.t 23) (.t 28)), .ex 4 (.asn (.t 29) 3 59)]) .ret) (.s (.r [.ex 31 (.bin .eql (.t 20) (.i 1)), .mv 30 31]) (.cnd (.t 30) (.r [.mv 32 5, .mv 33 7, .mv 34 0, .ex 35 (.bsl 1 9 [(.s [47]), (.s [47, 97, 47, 98, 47, 99, 47, 100]), (.s [47, 65]), (.s [47, 99, 47, 99])]), .ex 36 (.opn 141 [(.t 34), (.t 35)]), .ex 37 (.ia 3 (.t 32) (.t 33)), .ex 38 (.fa 0 (.t 37)), .nu (.st 1 (.t 38) (.t 36))]) (.s (.r [.ex 40 (.bin .eql (.t 20) (.i 2)), .mv 39 40]) (.cnd (.t 39) (.r [.mv 41 5, .mv 42 7, .mv 43 5, .mv 44 7, .ex 45 (.ia 3 (.t 43) (.t 44)), .ex 46 (.fa 1 (.t 45)), .ex 47 (.ld false 1 (.t 46)), .ex 48 (.un .not (.t 47)), .ex 49 (.ia 3 (.t 41) (.t 42)), .ex 50 (.fa 1 (.t 49)), .nu (.st 1 (.t 50) (.t 48))]) (.s (.r [.ex 52 (.bin .eql (.t 20) (.i 3)), .mv 51 52]) (.cnd (.t 51) (.r [.mv 53 5, .mv 54 7, .mv 55 0, .ex 56 (.bsl 1 9 [(.s [113]), (.s [65]), (.s [97, 98, 99, 100, 101, 102, 103])]), .ex 57 (.opn 141 [(.t 55), (.t 56)]), .ex 58 (.ia 3 (.t 53) (.t 54)), .ex 59 (.fa 2 (.t 58)), .nu (.st 1 (.t 59) (.t 57))]) (.cut (.r [.ex 61 (.bin .eql (.t 20) (.i 4)), .mv 60 61]) (.cnd (.t 60) (.s (.r [.mv 62 5, .ex 63 (.slr 3 (.t 62) (.some (.i 1)) .none), .ex 4 (.asn (.t 63) 3 59)]) .ret) .skip)))))))))))) (.s (.r [.mv 64 5, .ex 4 (.asn (.t 64) 3 59)]) .ret)))))))
theorem c_spec_l2Bent_eq : compF Go.Proofs.Tryz.prog [55, 141] 142 = some (c_spec_l2Bent.ac, [(.t 4)], 65) := by kernel_rfl

theorem f_l2Bent (W0 : World) (s : Str) (p : Int) (t : List Ent) (hs : s.length ≤ 2000) (hp : 0 ≤ p ∧ p ≤ 100000) (ht : t.length ≤ 100000) :
    FunW Go.Proofs.Tryz.prog W0 142 [.ptr 1 0, .c (eEnts t)] (Rd s p) (fun x : List Ent × Int => x.1.length ≤ t.length + 1 ∧ p ≤ x.2 ∧ x.2 ≤ p + 3) (fun x => .c (eEnts x.1)) (fun x => Rd s x.2) := by
  refine funW (c := c_spec_l2Bent) mixed c_spec_l2Bent_eq (by simp) rfl rfl fun hg => ?_
  refine dr ?_
  repeat ((first | refine oB (by simp; omega) ?_ | refine oB (by simp) ?_); first | refine dr ?_ | exact dz)
  refine cP (fun h1 => ?_) (fun h1 => ?_)
  · refine dr ?_
    refine ⟨some 160, _, _, ?_, (t, p), ⟨by simp, by omega, by omega⟩, rfl, rfl⟩
    refine dr ?_
    repeat (refine oB (by simp <;> rfl) ?_; first | refine dr ?_ | exact dz)
    trivial
  have ht0 : 0 < t.length := by omega
  refine dr ?_
  refine oW (f_pick W0 s p t.length hs (by omega) (by omega)) rfl ⟨rfl, trivial⟩ rfl rfl ⟨0, by omega, by omega⟩ fun k hk => ⟨rfl, ?_⟩
  obtain ⟨k, rfl⟩ : ∃ j : Nat, k = j := ⟨k.toNat, by omega⟩
  have hk' : k < t.length := by have := hk.2 (by omega); omega
  refine dEr ?_
  refine oW (f_pick W0 s (p + 1) 50 hs (by omega) (by omega)) rfl ⟨rfl, trivial⟩ rfl rfl ⟨0, by omega, by omega⟩ fun v hv => ⟨rfl, ?_⟩
  refine dEr ?_
  refine cP (fun h2 => ?_) (fun h2 => ?_)
  · refine dr ?_
    repeat ((first | refine oB (by simp; omega) ?_ | refine oB (by simp) ?_); first | refine dr ?_ | exact dz)
    refine ⟨some 160, _, _, ?_, (t ++ [t[k]], p + 1 + 1), ⟨by simp, by omega, by omega⟩, rfl, rfl⟩
    refine dr ?_
    repeat ((first | refine oB lapp ?_ | refine oB rapp ?_); first | refine dr ?_ | exact dz)
    trivial
  refine dr ?_
  refine cP (fun h3 => ?_) (fun h3 => ?_)
  · refine dr ?_
    refine oW (f_of W0 s (p + 1 + 1) [[47], [47, 97, 47, 98, 47, 99, 47, 100], [47, 65], [47, 99, 47, 99]] hs (by omega) (by decide)) rfl ⟨rfl, trivial⟩ rfl rfl ⟨_, List.mem_cons_self⟩ fun y hy => ⟨rfl, ?_⟩
    refine dEr ?_
    repeat (refine oB (by simp) ?_; first | refine dEr ?_ | exact dz)
    refine ⟨some 160, _, _, ?_, (t.set k ⟨y, t[k].dir, t[k].data⟩, p + 1 + 1 + 1), ⟨by simp, by omega, by omega⟩, rfl, rfl⟩
    refine dr ?_
    repeat ((first | refine oB lset ?_ | refine oB rset ?_); first | refine dr ?_ | exact dz)
    trivial
  refine dr ?_
  refine cP (fun h4 => ?_) (fun h4 => ?_)
  · refine dr ?_
    repeat (refine oB (by simp) ?_; first | refine dr ?_ | exact dz)
    refine ⟨some 160, _, _, ?_, (t.set k ⟨t[k].path, !t[k].dir, t[k].data⟩, p + 1 + 1), ⟨by simp, by omega, by omega⟩, rfl, rfl⟩
    refine dr ?_
    repeat ((first | refine oB lset ?_ | refine oB rset ?_); first | refine dr ?_ | exact dz)
    trivial
  refine dr ?_
  refine cP (fun h5 => ?_) (fun h5 => ?_)
  · refine dr ?_
    refine oW (f_of W0 s (p + 1 + 1) [[113], [65], [97, 98, 99, 100, 101, 102, 103]] hs (by omega) (by decide)) rfl ⟨rfl, trivial⟩ rfl rfl ⟨_, List.mem_cons_self⟩ fun y hy => ⟨rfl, ?_⟩
    refine dEr ?_
    repeat (refine oB (by simp) ?_; first | refine dEr ?_ | exact dz)
    refine ⟨some 160, _, _, ?_, (t.set k ⟨t[k].path, t[k].dir, y⟩, p + 1 + 1 + 1), ⟨by simp, by omega, by omega⟩, rfl, rfl⟩
    refine dr ?_
    repeat ((first | refine oB lset ?_ | refine oB rset ?_); first | refine dr ?_ | exact dz)
    trivial
  refine dr ?_
  refine cutz (σ := Bool) 160 (fun b => [(5, .c (eEnts t)), (60, .c (CB b))]) (fun _ => [(1, .box [.c (eCode s), .c (CI (p + 1 + 1))])]) (fun _ => True) ?_ fun b _ => ?_
  · refine dr ?_
    refine ⟨eqI v 4, trivial, ?_⟩
    refine dr ?_
    repeat (refine oB (by simp <;> rfl) ?_; first | refine dr ?_ | exact dz)
    trivial
  refine dr ?_
  refine cP (fun h6 => ?_) (fun h6 => ?_)
  · refine dr ?_
    repeat (refine sLoM 1 rfl (by omega) ?_; first | refine dr ?_ | exact dz)
    refine ⟨none, _, _, ?_, (t.drop 1, p + 1 + 1), ⟨by simp; omega, by omega, by omega⟩, rfl, rfl⟩
    refine dr ?_
    trivial
  · refine dr ?_
    refine ⟨none, _, _, ?_, (t, p + 1 + 1), ⟨by simp, by omega, by omega⟩, rfl, rfl⟩
    refine dr ?_
    trivial


end Go.Proofs.YthblflnfhdnpdaaGreatDoor
