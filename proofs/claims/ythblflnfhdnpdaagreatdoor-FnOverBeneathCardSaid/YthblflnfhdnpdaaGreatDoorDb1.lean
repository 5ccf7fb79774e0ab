/- Contracts: the draws of trees: what they give, by its kind; no condition. -/
import Derived.Test.YthblflnfhdnpdaaGreatDoorPb9
namespace Go.Proofs.YthblflnfhdnpdaaGreatDoor
set_option linter.unusedSimpArgs false
set_option linter.unusedVariables false
open Go Go.RowKit

theorem aCode {k : Int} {s : Str} {K : CV → Prop} (h1 : 0 ≤ k) (h2 : k < s.length) (h : ∀ n : Int, 0 ≤ n → n ≤ 255 → K (CU n)) : AtX k (s.map fun b => CU b.toNat) K := by
  have hk : k.toNat < s.length := by omega
  refine ⟨k.toNat, by omega, _, ?_, h (s[k.toNat].toNat : Int) (by omega) ?_⟩
  · rw [List.getElem?_map, List.getElem?_eq_getElem hk]; rfl
  · have := UInt8.toNat_lt s[k.toNat]; omega
theorem aX {α : Type} {f : α → CV} {L : List α} {k : Int} {K : CV → Prop} (h1 : 0 ≤ k) (h2 : k < L.length) (h : ∀ x ∈ L, K (f x)) : AtX k (L.map f) K := by
  have hk : k.toNat < L.length := by omega
  exact ⟨k.toNat, by omega, _, by rw [List.getElem?_map, List.getElem?_eq_getElem hk]; rfl, h _ (List.getElem_mem hk)⟩
theorem xor_nn {a b : Int} (ha : 0 ≤ a) (ha2 : a < 4611686018427387904) (hb : 0 ≤ b) (hb2 : b < 4611686018427387904) : 0 ≤ IntKind.wrap .i64 ((BitVec.ofInt (IntKind.bits .i64) a ^^^ BitVec.ofInt (IntKind.bits .i64) b).toNat : Int) := by
  have e : ∀ x : Int, 0 ≤ x → x < 4611686018427387904 → (BitVec.ofInt 64 x).toNat = x.toNat := fun x h1 h2 => by
    rw [BitVec.toNat_ofInt]; omega
  show 0 ≤ IntKind.wrap .i64 ((BitVec.ofInt 64 a ^^^ BitVec.ofInt 64 b).toNat : Int)
  rw [BitVec.toNat_xor, e a ha ha2, e b hb hb2]
  have h : a.toNat ^^^ b.toNat < 2 ^ 62 := Nat.xor_lt_two_pow (by omega) (by omega)
  rw [wrap_i64 (by omega)]
  omega

theorem lset {α : Type} {f : α → CV} {t : List α} {k : Nat} {x : CV} : ((t.map f).set k x).length = t.length := by simp
theorem rset {α : Type} {f : α → CV} {t : List α} {k : Nat} {x : α} {y : CV} (e : f x = y := by rfl) : PV.c (.row ((t.map f).set k y)) = .c (.row ((t.set k x).map f)) := by rw [List.map_set, e]
theorem lapp {α : Type} {f : α → CV} {t : List α} {x : CV} : (t.map f ++ [x]).length = t.length + 1 := by simp
theorem rapp {α : Type} {f : α → CV} {t : List α} {x : α} : PV.c (.row (t.map f ++ [f x])) = .c (.row ((t ++ [x]).map f)) := by rw [List.map_append]; rfl
theorem retI {k0 : List Nat} {m : XM} {ok : Int → Prop} {M : Int → XM} {x : Int} (h : ok x) (hk : KeepX k0 none [(0, .c (CI x))] m [(0, .c (CI x))] (M x)) : RetX k0 (.c (CI x)) m (fun r mx => ∃ a, ok a ∧ r = .c (CI a) ∧ mx = M a) := ⟨none, _, _, hk, x, h, rfl, rfl⟩
theorem cutp2 {k0 : List Nat} {a : (Fr → XM → Prop) → Fr → XM → Prop} {b : Fr → XM → Prop} {F : Fr} {m : XM} {α β : Type} (fr : α → β → Fr) (mm : α → β → XM) (inv : α → β → Prop)
    (ha : a (fun F' m' => ∃ x y, inv x y ∧ KeepX k0 none F' m' (fr x y) (mm x y)) F m) (hb : ∀ x y, inv x y → b (fr x y) (mm x y)) : CutX k0 a b F m :=
  ⟨α × β, fun x => fr x.1 x.2, fun x => mm x.1 x.2, fun x => inv x.1 x.2, none, fun F' m' => ∃ x y, inv x y ∧ KeepX k0 none F' m' (fr x y) (mm x y), ha, fun _ _ ⟨x, y, h⟩ => ⟨(x, y), h⟩, fun x h => hb x.1 x.2 h⟩
theorem lz3 {k0 : List Nat} {body : (Fr → XM → Prop) → Fr → XM → Prop} {F : Fr} {m : XM} {α β γ : Type} (z : Nat) (fr : α → β → γ → Fr) (mm : α → β → γ → XM) (inv : α → β → γ → Prop) (me : α → β → γ → Nat) (a0 : α) (b0 : β) (c0 : γ) (h0 : inv a0 b0 c0) (hk : KeepX k0 (some z) F m (fr a0 b0 c0) (mm a0 b0 c0))
    (hb : ∀ a b c, inv a b c → body (fun F' m' => ∃ a' b' c', inv a' b' c' ∧ me a' b' c' < me a b c ∧ KeepX k0 none F' m' (fr a' b' c') (mm a' b' c')) (fr a b c) (mm a b c)) : LoopX k0 body F m :=
  ⟨α × β × γ, fun x => fr x.1 x.2.1 x.2.2, fun x => mm x.1 x.2.1 x.2.2, fun x => inv x.1 x.2.1 x.2.2, fun x => me x.1 x.2.1 x.2.2, some z, none, fun x F' m' => ∃ a' b' c', inv a' b' c' ∧ me a' b' c' < me x.1 x.2.1 x.2.2 ∧ KeepX k0 none F' m' (fr a' b' c') (mm a' b' c'),
    ⟨(a0, b0, c0), h0, hk⟩, fun _ _ _ ⟨a, b, c, h⟩ => ⟨(a, b, c), h⟩, fun x h => hb x.1 x.2.1 x.2.2 h⟩

/-- The reader of a code: what it reads, and where it is. -/
abbrev Rd (s : Str) (p : Int) : XM := [(1, .box [.c (eCode s), .c (CI p)])]


def c_pick : XC := (.s (.r [.ex 4 (.mv (.i 0))]) (.s (.r [.mv 7 0, .mv 8 0, .ex 9 (.nck (.t 8)), .ex 10 (.fa 1 (.t 9)), .ex 11 (.ld false 1 (.t 10)), .ex 12 (.bin .add (.t 11) (.i 1)), .ex 13 (.nck (.t 7)), .ex 14 (.fa 1 (.t 13)), .nu (.st 1 (.t 14) (.t 12))]) (.s (.s (.r [.mv 15 1, .ex 16 (.bin .lss (.t 15) (.i 1)), .mv 17 16, .gf 18 (.mv (.t 0)) 17, .gf 19 (.nck (.t 18)) 17, .gf 20 (.fa 0 (.t 19)) 17, .gf 21 (.ld false 1 (.t 20)) 17, .gf 22 (.len false (.t 21)) 17, .gf 23 (.bin .eql (.t 22) (.i 0)) 17, .ex 24 (.pick (.t 17) .y (.t 23))]) (.cnd (.t 24) (.s (.r [.ex 4 (.mv (.i 0))]) .ret) .skip)) (.s (.r [.mv 25 0, .ex 26 (.nck (.t 25)), .ex 27 (.fa 1 (.t 26)), .ex 28 (.ld false 1 (.t 27)), .ex 29 (.bin .sub (.t 28) (.i 1)), .mv 5 29]) (.s (.s (.r [.mv 30 5, .mv 31 0, .ex 32 (.nck (.t 31)), .ex 33 (.fa 0 (.t 32)), .ex 34 (.ld false 1 (.t 33)), .ex 35 (.len false (.t 34)), .ex 36 (.bin .lss (.t 30) (.t 35))]) (.cnd (.t 36) (.s (.r [.mv 37 0, .ex 38 (.nck (.t 37)), .ex 39 (.fa 0 (.t 38)), .ex 40 (.ld false 1 (.t 39)), .mv 41 5, .ex 42 (.ia 1 (.t 40) (.t 41)), .ex 43 (.ld false 1 (.t 42)), .ex 44 (.conv .i64 (.t 43)), .mv 45 1, .ex 46 (.bin .rem (.t 44) (.t 45)), .mv 4 46]) .ret) .skip)) (.s (.d [.mv 47 0, .ex 48 (.nck (.t 47)), .ex 49 (.fa 0 (.t 48)), .ex 50 (.ld false 1 (.t 49)), .mv 51 5, .mv 52 0, .ex 53 (.nck (.t 52)), .ex 54 (.fa 0 (.t 53)), .ex 55 (.ld false 1 (.t 54)), .ex 56 (.len false (.t 55)), .ex 57 (.bin .rem (.t 51) (.t 56)), .ex 58 (.ia 1 (.t 50) (.t 57)), .ex 59 (.ld false 1 (.t 58)), .ex 60 (.conv .i64 (.t 59)), .ex 61 (.bin .mul (.t 60) (.i 131)), .mv 62 0, .ex 63 (.nck (.t 62)), .ex 64 (.fa 0 (.t 63)), .ex 65 (.ld false 1 (.t 64)), .mv 66 5, .ex 67 (.bin .mul (.t 66) (.i 7)), .ex 68 (.bin .add (.t 67) (.i 3)), .mv 69 0, .ex 70 (.nck (.t 69)), .ex 71 (.fa 0 (.t 70)), .ex 72 (.ld false 1 (.t 71)), .ex 73 (.len false (.t 72)), .ex 74 (.bin .rem (.t 68) (.t 73)), .ex 75 (.ia 1 (.t 65) (.t 74)), .ex 76 (.ld false 1 (.t 75)), .ex 77 (.conv .i64 (.t 76)), .ex 78 (.bin .mul (.t 77) (.i 1117)), .ex 79 (.bin .add (.t 61) (.t 78)), .mv 80 5, .ex 81 (.bin .mul (.t 80) (.i 29)), .ex 82 (.bin .add (.t 79) (.t 81)), .mv 83 5, .mv 84 0, .ex 85 (.nck (.t 84)), .ex 86 (.fa 0 (.t 85)), .ex 87 (.ld false 1 (.t 86)), .ex 88 (.len false (.t 87)), .ex 89 (.bin .quo (.t 83) (.t 88)), .ex 90 (.bin .mul (.t 89) (.i 53)), .ex 91 (.bin .add (.t 82) (.t 90)), .mv 6 91]) (.s (.r [.mv 92 6, .mv 93 6, .ex 94 (.bin .quo (.t 93) (.i 64)), .ex 95 (.bin .xor (.t 92) (.t 94)), .mv 6 95]) (.s (.r [.mv 96 6, .mv 97 1, .ex 98 (.bin .rem (.t 96) (.t 97)), .mv 4 98]) .ret))))))))
theorem c_pick_eq : compF Go.Proofs.Tryz.prog [] 55 = some (c_pick.ac, [(.t 4)], 99) := by kernel_rfl

theorem f_pick (W0 : World) (s : Str) (p n : Int) (hs : s.length ≤ 2000) (hp : 0 ≤ p ∧ p ≤ 1000000) (hn : n ≤ 1000000) :
    FunW Go.Proofs.Tryz.prog W0 55 [.ptr 1 0, .c (CI n)] (Rd s p) (fun k : Int => 0 ≤ k ∧ (1 ≤ n → k < n)) (fun k => .c (CI k)) (fun _ => Rd s (p + 1)) := by
  refine funW (c := c_pick) mixed c_pick_eq (by simp) rfl rfl fun hg => ?_
  refine dr ?_
  refine cP (fun h1 => ?_) (fun h1 => ?_)
  · refine dr ?_
    refine retI (x := 0) ⟨by omega, by omega⟩ ?_
    refine dr ?_
    trivial
  refine dr ?_
  refine cP (fun h2 => ?_) (fun h2 => ?_)
  · refine dr ?_
    refine retI (x := 0) ⟨by omega, by omega⟩ ?_
    refine dr ?_
    trivial
  have fin : ∀ x : Int, 0 ≤ x % n ∧ (1 ≤ n → x % n < n) := fun x => ⟨Int.emod_nonneg _ (by omega), fun _ => Int.emod_lt_of_pos _ (by omega)⟩
  have hl : 0 < (s.length : Int) := by omega
  have hq : 0 ≤ (p + 1 - 1) / (s.length : Int) ∧ (p + 1 - 1) / (s.length : Int) ≤ p + 1 - 1 := ⟨Int.ediv_nonneg (by omega) (by omega), Int.ediv_le_self _ (by omega)⟩
  refine dr ?_
  refine cP (fun h3 => ?_) (fun h3 => ?_)
  · refine dr ?_
    repeat (refine aCode (by omega) (by omega) fun v hv0 hv1 => ?_; first | refine dr ?_ | exact dz)
    refine retI (fin v) ?_
    refine dr ?_
    trivial
  · refine dr ?_
    repeat ((first | refine aCode (Int.emod_nonneg _ (by omega)) (Int.emod_lt_of_pos _ (by omega)) fun v hv0 hv1 => ?_ | refine oB ⟨xor_nn (by omega) (by omega) (by omega) (by omega), by omega, by omega⟩ ?_); first | refine dr ?_ | exact dz)
    refine retI (fin _) ?_
    refine dr ?_
    trivial


def c_spec_l10Open : XC := (.s (.r [.ex 2 (.mv (.k .np))]) (.s (.s (.r [.mv 3 0, .ex 4 (.len false (.t 3)), .ex 5 (.bin .gtr (.t 4) (.i 2000))]) (.cnd (.t 5) (.r [.mv 6 0, .ex 7 (.slr 1 (.t 6) .none (.some (.i 2000))), .ex 0 (.asn (.t 7) 1 5)]) .skip)) (.s (.r [.mv 8 0, .ex 9 (.build [.nil, (.c (.sc (.int .i64 0)))] [(0, (1, (.t 8)))]), .ex 10 (.box (.t 9)), .mv 2 10]) .ret)))
theorem c_spec_l10Open_eq : compF Go.Proofs.Tryz.prog [] 53 = some (c_spec_l10Open.ac, [(.t 2)], 11) := by kernel_rfl

theorem f_l10Open0 (W0 : World) (s : Str) : FunW Go.Proofs.Tryz.prog W0 53 [.c (eCode s)] [] (fun x : Str => x.length ≤ 2000) (fun _ => .ptr 160 0) (fun x => [(160, .box [.c (eCode x), .c (CI 0)])]) := by
  refine funW (c := c_spec_l10Open) mixed c_spec_l10Open_eq (by simp) rfl rfl fun hg => ?_
  refine dr ?_
  refine cP (fun h1 => ?_) (fun h1 => ?_)
  · refine dr ?_
    repeat (refine sHiM 2000 rfl (by omega) ?_; first | refine dr ?_ | exact dz)
    refine ⟨none, _, _, ?_, s.take 2000, by simp; omega, rfl, rfl⟩
    refine dr ?_
    trivial
  · refine dr ?_
    refine ⟨none, _, _, ?_, s, by omega, rfl, rfl⟩
    refine dr ?_
    trivial
theorem f_l10Open (W0 : World) (s : Str) : FunW Go.Proofs.Tryz.prog W0 53 [.c (eCode s)] [] (fun x : Str => x.length ≤ 2000) (fun _ => .ptr 1 0) (fun x => Rd x 0) := (f_l10Open0 W0 s).swp 160 1


def c_rdnum : XC := (.s (.r [.ex 4 (.mv (.i 0))]) (.s (.r [.mv 5 1, .mv 6 0, .mv 7 1, .ex 8 (.len false (.t 7)), .ex 9 (.opn 55 [(.t 6), (.t 8)]), .ex 10 (.ia 1 (.t 5) (.t 9)), .ex 11 (.ld false 1 (.t 10)), .mv 4 11]) .ret))
theorem c_rdnum_eq : compF Go.Proofs.Tryz.prog [55] 95 = some (c_rdnum.ac, [(.t 4)], 12) := by kernel_rfl

theorem f_num (W0 : World) (s : Str) (p : Int) (l : List Int) (hs : s.length ≤ 2000) (hp : 0 ≤ p ∧ p ≤ 1000000) (hl : 1 ≤ l.length ∧ l.length ≤ 1000) :
    FunW Go.Proofs.Tryz.prog W0 95 [.ptr 1 0, .c (eInts l)] (Rd s p) (fun x : Int => x ∈ l) (fun x => .c (CI x)) (fun _ => Rd s (p + 1)) := by
  refine funW (c := c_rdnum) mixed c_rdnum_eq (by simp) rfl rfl fun hg => ?_
  refine dr ?_
  refine oW (f_pick W0 s p l.length hs hp (by omega)) rfl ⟨rfl, trivial⟩ rfl rfl ⟨0, by omega, by omega⟩ fun k hk => ⟨rfl, ?_⟩
  refine dr ?_
  refine aX hk.1 (hk.2 (by omega)) fun x hx => ?_
  refine dEr ?_
  refine ⟨none, _, _, ?_, x, hx, rfl, rfl⟩
  refine dr ?_
  trivial


def c_rdof : XC := (.s (.r [.ex 4 (.mv (.s []))]) (.s (.r [.mv 5 1, .mv 6 0, .mv 7 1, .ex 8 (.len false (.t 7)), .ex 9 (.opn 55 [(.t 6), (.t 8)]), .ex 10 (.ia 1 (.t 5) (.t 9)), .ex 11 (.ld false 1 (.t 10)), .mv 4 11]) .ret))
theorem c_rdof_eq : compF Go.Proofs.Tryz.prog [55] 141 = some (c_rdof.ac, [(.t 4)], 12) := by kernel_rfl

theorem f_of (W0 : World) (s : Str) (p : Int) (l : List Str) (hs : s.length ≤ 2000) (hp : 0 ≤ p ∧ p ≤ 1000000) (hl : 1 ≤ l.length ∧ l.length ≤ 1000) :
    FunW Go.Proofs.Tryz.prog W0 141 [.ptr 1 0, .c (eStrs l)] (Rd s p) (fun x : Str => x ∈ l) (fun x => .c (CS x)) (fun _ => Rd s (p + 1)) := by
  refine funW (c := c_rdof) mixed c_rdof_eq (by simp) rfl rfl fun hg => ?_
  refine dr ?_
  refine oW (f_pick W0 s p l.length hs hp (by omega)) rfl ⟨rfl, trivial⟩ rfl rfl ⟨0, by omega, by omega⟩ fun k hk => ⟨rfl, ?_⟩
  refine dr ?_
  refine aX hk.1 (hk.2 (by omega)) fun x hx => ?_
  refine dEr ?_
  refine ⟨none, _, _, ?_, x, hx, rfl, rfl⟩
  refine dr ?_
  trivial


def drawnPaths : List Str := [[47, 97], [47, 98], [47, 97, 47, 98], [47, 97, 47, 99], [47, 98, 47, 97], [47, 97, 98], [47, 97, 47, 98, 47, 99], [47, 97, 47, 98, 47, 97], [47, 98, 47, 98], [47, 99]]
def drawnData : List Str := [[], [120], [121], [49, 50], [97, 98, 99], [122, 57]]

def c_spec_l1Path : XC := (.s (.r [.ex 2 (.mv (.s []))]) (.s (.r [.mv 3 0, .ex 4 (.bsl 1 9 [(.s [47, 97]), (.s [47, 98]), (.s [47, 97, 47, 98]), (.s [47, 97, 47, 99]), (.s [47, 98, 47, 97]), (.s [47, 97, 98]), (.s [47, 97, 47, 98, 47, 99]), (.s [47, 97, 47, 98, 47, 97]), (.s [47, 98, 47, 98]), (.s [47, 99])]), .ex 5 (.opn 141 [(.t 3), (.t 4)]), .mv 2 5]) .ret))
theorem c_spec_l1Path_eq : compF Go.Proofs.Tryz.prog [141] 139 = some (c_spec_l1Path.ac, [(.t 2)], 6) := by kernel_rfl

theorem f_l1Path (W0 : World) (s : Str) (p : Int) (hs : s.length ≤ 2000) (hp : 0 ≤ p ∧ p ≤ 1000000) :
    FunW Go.Proofs.Tryz.prog W0 139 [.ptr 1 0] (Rd s p) (fun x : Str => x ∈ drawnPaths) (fun x => .c (CS x)) (fun _ => Rd s (p + 1)) := by
  refine funW (c := c_spec_l1Path) mixed c_spec_l1Path_eq (by simp) rfl rfl fun hg => ?_
  refine dr ?_
  refine oW (f_of W0 s p drawnPaths hs hp (by decide)) rfl ⟨rfl, trivial⟩ rfl rfl ⟨_, List.mem_cons_self⟩ fun x hx => ⟨rfl, ?_⟩
  refine dEr ?_
  refine ⟨none, _, _, ?_, x, hx, rfl, rfl⟩
  refine dr ?_
  trivial


def c_spec_l2Some : XC := (.s (.r [.ex 2 (.mv (.s []))]) (.s (.r [.mv 3 0, .ex 4 (.bsl 1 9 [(.s []), (.s [120]), (.s [121]), (.s [49, 50]), (.s [97, 98, 99]), (.s [122, 57])]), .ex 5 (.opn 141 [(.t 3), (.t 4)]), .mv 2 5]) .ret))
theorem c_spec_l2Some_eq : compF Go.Proofs.Tryz.prog [141] 140 = some (c_spec_l2Some.ac, [(.t 2)], 6) := by kernel_rfl

theorem f_l2Some (W0 : World) (s : Str) (p : Int) (hs : s.length ≤ 2000) (hp : 0 ≤ p ∧ p ≤ 1000000) :
    FunW Go.Proofs.Tryz.prog W0 140 [.ptr 1 0] (Rd s p) (fun x : Str => x ∈ drawnData) (fun x => .c (CS x)) (fun _ => Rd s (p + 1)) := by
  refine funW (c := c_spec_l2Some) mixed c_spec_l2Some_eq (by simp) rfl rfl fun hg => ?_
  refine dr ?_
  refine oW (f_of W0 s p drawnData hs hp (by decide)) rfl ⟨rfl, trivial⟩ rfl rfl ⟨_, List.mem_cons_self⟩ fun x hx => ⟨rfl, ?_⟩
  refine dEr ?_
  refine ⟨none, _, _, ?_, x, hx, rfl, rfl⟩
  refine dr ?_
  trivial


end Go.Proofs.YthblflnfhdnpdaaGreatDoor
